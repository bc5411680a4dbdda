/- Package codec: a list of integers is written, and Encode. Package codec: Encode, at a list of integers. Package equal: the text of some numbers. Package digest: a hash under a tag. -/
import Derived.Test.YtggnipkfliompaaGreatDoorMCat
import Derived.Lib.ConvBytes
set_option maxHeartbeats 2000000
set_option maxRecDepth 100000
namespace Go.Proofs.YtggnipkfliompaaGreatDoor
open Go.RowKit
theorem low_cell {w W:World} {base b o:Nat} {v:Value} (h:Below base w W) (hb:b < base) (hc:w.cell? ⟨b,o,none⟩ = some v):W.cell? ⟨b,o,none⟩ = some v:=by
 rw [h.cell (p:=⟨b,o,none⟩) hb]; exact hc
theorem onto_ne {W W':World} {v v':Value} (h:Onto W v W' v') {b:Nat} (hb:b < W.heap.size) (hne:v.ownBlock ≠ some b):v'.ownBlock ≠ some b:=fun e => by
 rcases h.2 with h2 | ⟨g,h2,hg⟩
 ·exact hne (h2 ▸ e)
 ·rw [h2] at e; injection e with e; omega
theorem boxed4 (W:World) (a b c d:Value) (t:TypeId):∃ W1,W1 = W.alloc (.cells #[a,b,c,d] t) ∧ Below W.heap.size W W1 ∧ W1.heap[W.heap.size]? = some (.cells #[a,b,c,d] t (0,0)):=
 ⟨_,rfl,(Below.refl _ _).alloc (Nat.le_refl _) _,World.alloc_heap_new W _⟩
theorem Wtr.low {B base:Nat} {w W:World} (h:Wtr B w) (hb:Below base w W) (hB:B + 1 < base):Wtr B W:=⟨low_cell hb (by omega) h.int,low_cell hb (by omega) h.list,low_cell hb hB h.var⟩
theorem enc_list_0 (xs:List Nat) (l:Nat):xs ++ [3] ++ num l = xs ++ (3 :: (num l ++ [])):=by rw [List.append_nil,List.append_assoc]; rfl
theorem enc_list_s (xs:List Nat) (l:Nat) (zs:List Int) {k:Nat} (h:k < zs.length):xs ++ (3 :: (num l ++ (zs.take k).flatMap encI)) ++ encI zs[k] = xs ++ (3 :: (num l ++ (zs.take (k + 1)).flatMap encI)):=by
 rw [List.take_succ_eq_append_getElem h,List.flatMap_append,List.append_assoc,List.cons_append,List.append_assoc]
 simp
theorem enc_list_e (xs:List Nat) (zs:List Int):xs ++ (3 :: (num zs.length ++ (zs.take zs.length).flatMap encI)) = xs ++ encL zs:=by rw [List.take_length]; rfl
theorem enc_part_len {zs:List Int} (h:∀ z ∈ zs,R64 z) (hl:zs.length ≤ 1000000) (k:Nat):(3 :: (num zs.length ++ (zs.take k).flatMap encI)).length ≤ 11000011:=by
 rw [List.length_cons,List.length_append]
 have h1:=flat_len (zs.take k) (fun z hz => h z (List.mem_of_mem_take hz))
 have h2:=num_ten (u:=zs.length) (by omega)
 have h3:(zs.take k).length ≤ zs.length:=List.length_take_le' _ _
 omega
theorem write_list (B base:Nat) (v lv:Value) (xs:List Nat) (zs:List Int) (w0 w:World) (hV:Vals w0 lv zs) (h0:Below w0.heap.size w0 w) (hz0:w0.heap.size ≤ base) (hW:Wtr B w) (hB:B + 1 < base)
  (hown:w.ownsRow base 5 1 v xs.length (xs.map byteV)) (hbase:base ≤ w.heap.size) (hl:xs.length ≤ 1000) :
  Calls Tryz.prog 225 #[v,vList lv,.pointer (some ⟨B + 1,0,none⟩)] w (Wrote base w v (xs ++ encL zs)):=by
 obtain ⟨a,cap,rfl,hcap,hlen,hr,hk⟩:=hV
 have HK:=Lib.hid hk
 have HR:=Lib.hid hr
 have HO:=Lib.hid hown
 have HNE:=Lib.hid (own_ne hown (.inl (Nat.le_refl w.heap.size)))
 clear hk hr hown
 have HL1:Hid (zs.length < 18446744073709551616):=Lib.hid (by omega)
 have HL2:Hid ((xs ++ [3]).length ≤ 8796093022208):=Lib.hid (by rw [List.length_append]; simp; omega)
 have hwl:IntKind.u64.wrap (zs.length:Int) = (zs.length:Int):=by rw [IntKind.wrap_u64]; omega
 unfold vList
 go_enter Tryz.func225,Tryz.ntmps225
 go_wp2_with fail
 go_region_held3 (fun w' => w'.cell? ⟨w.heap.size,3,none⟩ = some (.slice a zs.length cap)) (first | go_keep | exact hq9 | exact hq) (first
  | (refine step_app_byte rfl _ _ rfl base _ xs _ rfl (own_keep HO.out (by repeat (first | exact Below.refl _ _ | refine Below.drew ?_ | refine Below.alloc ?_ (by simp) _))) (w.heap.size + 1) 1 3 rfl (by simp [go_sem,byteV]) (by omega) (by simp; omega) ?_; intro v8 w8 h8 o8; have hq:w8.cell? ⟨w.heap.size,3,none⟩ = some (.slice a zs.length cap):=(onto_far o8 (by simp; omega) HNE.out 3).trans (by simp [go_sem]); have H8:Hid (w8.ownsRow base 5 1 v8 (xs ++ [3]).length ((xs ++ [3]).map byteV)):=Lib.hid (by rw [List.length_append]; exact h8); have HB8:Hid (base ≤ w8.heap.size):=Lib.hid (Nat.le_trans hbase (show w.heap.size ≤ w8.heap.size from Nat.le_trans (by simp; omega) o8.1.size)); have HN8:=Lib.hid (onto_ne o8 (b:=w.heap.size) (by simp; omega) HNE.out); have HS8:Hid (w.heap.size < w8.heap.size):=Lib.hid (Nat.lt_of_lt_of_le (by simp; omega) o8.1.size); have O8:=Lib.hid o8; clear h8 o8)
  | (go_simp; go_at_call 222; (with_reducible refine (numeral_any base _ (xs ++ [3]) zs.length _ H8.out HB8.out HL1.out HL2.out).mono ?_); rintro e w1 ⟨v9,rfl,h9,o9⟩; have hq9:=(onto_far o9 HS8.out HN8.out 3).trans hq; have H9:=Lib.hid h9; have O9:=Lib.hid o9; clear h9 o9))
 have hon:Onto w v w1 v9:=(Onto.below (by repeat (first | exact Below.refl _ _ | refine Below.drew ?_ | refine Below.alloc ?_ (by simp) _)) v).trans (O8.out.trans O9.out)
 have H9b:Hid (w1.ownsRow base 5 1 v9 (xs ++ (3 :: (num zs.length ++ (zs.take 0).flatMap encI))).length ((xs ++ (3 :: (num zs.length ++ (zs.take 0).flatMap encI))).map byteV)):=Lib.hid (enc_list_0 xs zs.length ▸ H9.out)
 clear O8 O9 H8 H9 HB8 HN8 HS8 HL1 HL2 hwl
 have HON:=Lib.hid hon
 clear hon
 go_wp2_with fail
 clear hq9
 go_loopw [0,19] (fun b i W => ∃ k:Nat,k ≤ zs.length ∧ i = .int .i64 k ∧ W.ownsRow base 5 1 b (xs ++ (3 :: (num zs.length ++ (zs.take k).flatMap encI))).length ((xs ++ (3 :: (num zs.length ++ (zs.take k).flatMap encI))).map byteV) ∧ Onto w v W b) (fun _ i _ => zs.length - (intOf i).toNat)
 case atStart => exact ⟨0,Nat.zero_le _,rfl,H9b.out,HON.out⟩
 case round =>
  clear H9b HON
  obtain ⟨k,hkl,rfl,hok,hon⟩:=hrel
  have hlow:Below base w wr:=onto_below HO.out hon hbase
  have hwr:=hW.low hlow hB
  have hbr:base ≤ wr.heap.size:=Nat.le_trans hbase hon.1.size
  by_cases hlt:k < zs.length
  ·obtain ⟨b,off,rfl,q1,q2,q3,q4⟩:=HK.out k hlt
   have hz:=HR.out _ (List.getElem_mem hlt)
   have hbl:b < base:=Nat.lt_of_lt_of_le (lt_of_cell q1) hz0
   have c1:=low_cell hlow hbl (below_cell h0 q1)
   have c2:=low_cell hlow hbl (below_cell h0 q2)
   have c3:=low_cell hlow hbl (below_cell h0 q3)
   have c4:=low_cell hlow hbl (below_cell h0 q4)
   have HEN:=Lib.hid (enc_list_s xs zs.length zs hlt)
   have hpl:(xs ++ (3 :: (num zs.length ++ (zs.take k).flatMap encI))).length ≤ 1099511627776:=by
    have:=enc_part_len HR.out hlen k
    rw [List.length_append]; omega
   have HPL:=Lib.hid hpl
   have HOK:=Lib.hid hok
   have HBR:=Lib.hid hbr
   have HHON:=Lib.hid hon
   generalize zs[k] = z at *
   clear q1 q2 q3 q4 hpl hok hon
   obtain ⟨hw1,hw2,hw3⟩:=hwr
   have hk2:k < zs.length:=hlt
   obtain ⟨W1,hW1,hbW,hxr⟩:=boxed4 wr (.int .i64 1) (.int .i64 z) (.string ⟨#[]⟩) (.slice none 0 0) 171
   have x0:W1.cell? ⟨wr.heap.size,0,none⟩ = some (.int .i64 1):=row_cell hxr rfl
   have x1:W1.cell? ⟨wr.heap.size,1,none⟩ = some (.int .i64 z):=row_cell hxr rfl
   have x2:W1.cell? ⟨wr.heap.size,2,none⟩ = some (.string ⟨#[]⟩):=row_cell hxr rfl
   have x3:W1.cell? ⟨wr.heap.size,3,none⟩ = some (.slice none 0 0):=row_cell hxr rfl
   have hbs1:B + 1 < wr.heap.size:=by omega
   have hsz:wr.heap.size < W1.heap.size:=row_lt hxr
   have HS6:Hid (∀ w6 v6,Onto W1.drew u0 w6 v6 → w6.cell? ⟨B + 1,0,none⟩ = some (.pointer (some ⟨B,0,none⟩)) ∧ w6.cell? ⟨B,1,none⟩ = some (.func (.func 221) #[] #[]) ∧ w6.cell? ⟨wr.heap.size,0,none⟩ = some (.int .i64 1) ∧ w6.cell? ⟨wr.heap.size,1,none⟩ = some (.int .i64 z) ∧ w6.cell? ⟨wr.heap.size,2,none⟩ = some (.string ⟨#[]⟩) ∧ w6.cell? ⟨wr.heap.size,3,none⟩ = some (.slice none 0 0)):=Lib.hid (fun w6 v6 o => by
    have n1:=own_ne HOK.out (b:=B + 1) (.inr hB)
    have n2:=own_ne HOK.out (b:=B) (.inr (by omega))
    have n3:=own_ne HOK.out (b:=wr.heap.size) (.inl (Nat.le_refl _))
    have s1:B + 1 < W1.drew.heap.size:=Nat.lt_of_lt_of_le hbs1 hbW.drew.size
    have s2:B < W1.drew.heap.size:=by omega
    have s3:wr.heap.size < W1.drew.heap.size:=hsz
    exact ⟨(onto_far o s1 n1 0).trans (below_cell hbW.drew hw3),(onto_far o s2 n2 1).trans (below_cell hbW.drew hw1),(onto_far o s3 n3 0).trans x0,(onto_far o s3 n3 1).trans x1,(onto_far o s3 n3 2).trans x2,(onto_far o s3 n3 3).trans x3⟩)
   have v1:=below_cell hbW hw1
   have v3:=below_cell hbW hw3
   have HKW:=Lib.hid (own_keep HOK.out (hbW.drew))
   have HBW:=Lib.hid (Nat.le_trans hbr hbW.drew.size)
   have HOW:=Lib.hid ((Onto.below hbW.drew u0))
   clear hw1 hw2 hw3 hxr
   have HW1:=Lib.hid hW1
   clear hW1
   go_wp2_with fail
   rw [← HW1.out]
   clear c1 c2 c3 c4
   go_region_held3 (fun w' => w'.cell? ⟨B + 1,0,none⟩ = some (.pointer (some ⟨B,0,none⟩)) ∧ w'.cell? ⟨B,1,none⟩ = some (.func (.func 221) #[] #[]) ∧ w'.cell? ⟨wr.heap.size,0,none⟩ = some (.int .i64 1) ∧ w'.cell? ⟨wr.heap.size,1,none⟩ = some (.int .i64 z) ∧ w'.cell? ⟨wr.heap.size,2,none⟩ = some (.string ⟨#[]⟩) ∧ w'.cell? ⟨wr.heap.size,3,none⟩ = some (.slice none 0 0)) (first | go_keep | exact ⟨v3,v1,x0,x1,x2,x3⟩ | exact hs6)
    (first
     | (go_at_call 221; (refine (write_int base _ _ z _ hz HKW.out HBW.out HPL.out).mono ?_); rintro e w6 ⟨v6,rfl,h6,o6⟩; have hs6:=HS6.out w6 v6 o6; have H6:=Lib.hid h6; have O6:=Lib.hid o6; clear h6 o6))
   have HF:=Lib.hid (HHON.out.trans (HOW.out.trans O6.out))
   have H6E:Hid (w6.ownsRow base 5 1 v6 (xs ++ (3 :: (num zs.length ++ (zs.take (k + 1)).flatMap encI))).length ((xs ++ (3 :: (num zs.length ++ (zs.take (k + 1)).flatMap encI))).map byteV)):=Lib.hid (HEN.out ▸ H6.out)
   clear H6 O6 HS6 HOW HKW
   go_wp2_with fail
   go_roundw
   case rel => exact ⟨k + 1,by omega,by go_num,H6E.out,HF.out⟩
   case measure => simp [intOf]; omega
  ·obtain rfl:k = zs.length:=by omega
   have HP:Hid (Wrote base w v (xs ++ encL zs) (.returned u0) wr):=Lib.hid ⟨_,rfl,enc_list_e xs zs ▸ hok,hon⟩
   clear hok hon
   go_wp2_with fail
   go_ret
   exact HP.out
end Go.Proofs.YtggnipkfliompaaGreatDoor
namespace Go.Proofs.YtggnipkfliompaaGreatDoor
open Go.RowKit
def Encoded (w:World) (zs:List Int) (e:Ending) (w':World):Prop:=∃ v',e = .returned (.tuple #[v',.int .i64 0]) ∧ Byts w' v' (encL zs) ∧ Below w.heap.size w w'
theorem encode_any (lv:Value) (zs:List Int) (w:World) (hV:Vals w lv zs) :
  Calls Tryz.prog 153 #[vList lv] w (Encoded w zs):=by
 obtain ⟨a,cap,rfl,-,hlen,hr,-⟩:=id hV
 obtain ⟨W1,hW1,hb1,hxr⟩:=boxed4 w (.int .i64 3) (.int .i64 0) (.string ⟨#[]⟩) (.slice a zs.length cap) 171
 have HC:=Lib.hid (check_list _ zs W1 (hV.below hb1))
 have HV:=Lib.hid hV
 have HR:=Lib.hid hr
 have HW1:=Lib.hid hW1
 clear hV hW1 hr
 have y0:W1.cell? ⟨w.heap.size,0,none⟩ = some (.int .i64 3):=row_cell hxr rfl
 have y1:W1.cell? ⟨w.heap.size,1,none⟩ = some (.int .i64 0):=row_cell hxr rfl
 have y2:W1.cell? ⟨w.heap.size,2,none⟩ = some (.string ⟨#[]⟩):=row_cell hxr rfl
 have y3:W1.cell? ⟨w.heap.size,3,none⟩ = some (.slice a zs.length cap):=row_cell hxr rfl
 clear hxr
 unfold vList at HC ⊢
 go_enter Tryz.func153,Tryz.ntmps153
 go_wp2_with fail
 rw [← HW1.out]
 refine HC.out.mono ?_
 rintro e W2 ⟨rfl,hb2⟩
 have x0:=below_cell hb2 y0
 have x1:=below_cell hb2 y1
 have x2:=below_cell hb2 y2
 have x3:=below_cell hb2 y3
 have hb12:=hb1.trans (hb2.mono hb1.size)
 clear y0 y1 y2 y3
 go_wp2_with fail
 have HSB:Hid (∀ w3,Wtr W2.heap.size w3 → Below W2.heap.size W2.drew w3 → Calls Tryz.prog 225 #[.slice none 0 0,vList (.slice a zs.length cap),.pointer (some ⟨W2.heap.size + 1,0,none⟩)] w3 (Wrote w3.heap.size w3 (.slice none 0 0) ([] ++ encL zs))):=Lib.hid (fun w3 hwt hb3 =>
  write_list W2.heap.size w3.heap.size (.slice none 0 0) (.slice a zs.length cap) [] zs w w3 HV.out (hb12.trans (((Below.refl W2.heap.size W2).drew.trans hb3).mono hb12.size)) (Nat.le_trans hb12.size hb3.size) hwt (lt_of_cell hwt.var) (World.ownsRow_nil _ _ _ _) (Nat.le_refl _) (by simp))
 have HFIN:Hid (∀ w3 w4 v4,Below W2.heap.size W2.drew w3 → w4.ownsRow w3.heap.size 5 1 v4 ([] ++ encL zs).length (([] ++ encL zs).map byteV) → Onto w3 (.slice none 0 0) w4 v4 → Encoded w zs (.returned (.tuple #[v4,.int .i64 0])) w4):=Lib.hid (fun w3 w4 v4 hb3 h4 o4 => by
  have hl:=encL_len HR.out hlen
  have hb34:Below w3.heap.size w3 w4:=⟨o4.1.os,o4.1.tape,o4.1.output,o4.1.size,fun k hk => o4.1.block k hk (by intro e; cases e)⟩
  have hb23:Below W2.heap.size W2 w3:=(Below.refl _ _).drew.trans hb3
  exact ⟨v4,rfl,Byts.own h4 (encL_all zs) (by omega),(hb12.trans (hb23.mono hb12.size)).trans (hb34.mono (Nat.le_trans hb12.size hb23.size))⟩)
 go_region_law (first
   | (go_simp; go_at_call 201; (with_reducible refine (newWriter_any _).mono ?_); rintro e w3 ⟨rfl,hwt,hb3⟩; have x0':=below_cell hb3 x0; have x1':=below_cell hb3 x1; have x2':=below_cell hb3 x2; have x3':=below_cell hb3 x3; have hl3:w3.cell? ⟨W2.heap.size,3,none⟩ = some (.func (.func 225) #[] #[.pointer (some ⟨W2.heap.size + 1,0,none⟩)]):=hwt.list; have HWT:Hid (Wtr W2.heap.size w3):=Lib.hid hwt; have HB3:Hid (Below W2.heap.size W2.drew w3):=Lib.hid hb3; clear hwt hb3)
   | (go_simp; go_at_call 225; (refine (HSB.out w3 HWT.out HB3.out).mono ?_); rintro e w4 ⟨v4,rfl,h4,o4⟩; have H4:=Lib.hid h4; have O4:=Lib.hid o4; clear h4 o4))
 all_goals
  go_wp2_with fail
  go_ret2
  exact HFIN.out _ _ _ HB3.out H4.out O4.out
end Go.Proofs.YtggnipkfliompaaGreatDoor
namespace Go.Proofs.YtggnipkfliompaaGreatDoor
open Go.RowKit
def valC (z:Int):List Value:=[.int .i64 1,.int .i64 z,.string ⟨#[]⟩,.slice none 0 0]
theorem flat_at:∀ (zs:List Int) (k j:Nat) (hk:k < zs.length),j < 4 → (zs.flatMap valC)[k * 4 + j]? = (valC zs[k])[j]?
 | [],k,_,hk,_ => absurd hk (Nat.not_lt_zero k)
 | z :: zs,0,j,_,hj => by
  rw [List.flatMap_cons,Nat.zero_mul,Nat.zero_add,List.getElem?_append_left (by show j < 4; exact hj)]; rfl
 | z :: zs,k + 1,j,hk,hj => by
  rw [List.flatMap_cons,List.getElem?_append_right (by show 4 ≤ _; omega)]
  have e:(k + 1) * 4 + j - (valC z).length = k * 4 + j:=by show (k + 1) * 4 + j - 4 = _; omega
  rw [e,flat_at zs k j (by simpa using hk) hj]; rfl
theorem flat_size (zs:List Int):(zs.flatMap valC).length = zs.length * 4:=by
 induction zs with
 | nil => rfl
 | cons z zs ih => rw [List.flatMap_cons,List.length_append,ih,List.length_cons]; show 4 + _ = _; omega
theorem flat_snoc (zs:List Int) (z:Int):(zs ++ [z]).flatMap valC = zs.flatMap valC ++ valC z:=by rw [List.flatMap_append]; simp
theorem Vals.own {w:World} {base n:Nat} {v:Value} {zs:List Int} (h:w.ownsRow base 171 4 v n (zs.flatMap valC)) (hr:∀ z ∈ zs,R64 z) (hl:zs.length ≤ 1000000):Vals w v zs:=by
 obtain ⟨hn,h⟩:=h
 rw [flat_size] at hn
 obtain rfl:n = zs.length:=by omega
 rcases h with ⟨rfl,h0⟩ | ⟨g,cap,cur,rfl,-,hg,hnc,-,hcs,hcur⟩
 ·exact ⟨none,0,by rw [h0],by omega,hl,hr,fun k hk => absurd hk (by omega)⟩
 ·refine ⟨some ⟨g,0,none⟩,cap,rfl,hnc,hl,hr,fun k hk => ⟨g,0,rfl,?_⟩⟩
  have e:∀ j,j < 4 → cur[k * 4 + j]? = (valC zs[k])[j]?:=fun j hj => by
   have e2:(cur.toList.take (zs.length * 4))[k * 4 + j]? = (valC zs[k])[j]?:=by rw [hcur,flat_at zs k j hk hj]
   rw [List.getElem?_take,if_pos (by omega)] at e2
   rw [← Array.getElem?_toList]; exact e2
  rw [Nat.zero_add]
  exact ⟨row_cell hg (e 0 (by omega)),row_cell hg (e 1 (by omega)),row_cell hg (e 2 (by omega)),row_cell hg (e 3 (by omega))⟩
theorem infoV:(Tryz.prog.info? 171).map (fun i => (i.zero.map (·.cells.size),i.size,i.bytes)) = some (some 4,4,56):=by kernel_rfl
theorem app_val {ops:Array Oper} {rest:List Oper} {o:Oper} {a:Act} {Q:Exit → Act → World → Prop} {W:World} (hgd:o.guard = none) (s x:Operand) (ho:o.op = .call { callee:=.builtin .append,args:=#[s,x],argTypes:=#[169,169] })
  (base:Nat) (v:Value) (zs:List Int) (n:Nat) (hs:a.eval s = v) (hown:W.ownsRow base 171 4 v n (zs.flatMap valC)) (b c:Nat) (z:Int) (hx:a.eval x = .slice (some ⟨b,0,none⟩) 1 c) (hcell:∀ j u,(valC z)[j]? = some u → W.cell? ⟨b,j,none⟩ = some u) (hn:n ≤ 1000000) (hbase:base ≤ W.heap.size)
  (h:∀ g cap w',w'.ownsRow base 171 4 (.slice (some ⟨g,0,none⟩) (n + 1) cap) (n + 1) ((zs ++ [z]).flatMap valC) → Onto W v w' (.slice (some ⟨g,0,none⟩) (n + 1) cap) → wpList Tryz.prog ops Q rest (a.put o.dst (.slice (some ⟨g,0,none⟩) (n + 1) cap)) w'):wpList Tryz.prog ops Q (o :: rest) a W:=by
 obtain ⟨i,hi,hzz⟩:=Option.map_eq_some_iff.1 infoV
 simp only [Prod.mk.injEq] at hzz
 obtain ⟨hz,hs1,hb⟩:=hzz
 obtain ⟨zv,hzv,hzs⟩:=Option.map_eq_some_iff.1 hz
 refine wpList_append_lies _ hgd s x 169 ho base 171 i zv 4 56 Tryz.underlying169 hi hzv hs1 hb hzs (by decide) v n (zs.flatMap valC) hs hown ⟨b,0,none⟩ 1 c (valC z) hx rfl ?_ ?_ (by decide) ?_ ?_ hbase W.heap.size rfl ?_
 ·intro j u hu
  rw [add_row]; exact hcell j u hu
 ·intro u hu
  simp only [valC,List.mem_cons,List.not_mem_nil,or_false] at hu
  rcases hu with rfl | rfl | rfl | rfl <;> rfl
 ·unfold maxLen; omega
 ·omega
 ·intro g cap w' h1 h2 h3 _
  refine h g cap w' (by rw [flat_snoc]; exact h1) ⟨h2,?_⟩
  rcases h3 with h3 | h3
  ·exact .inl (h3 ▸ rfl)
  ·exact .inr ⟨g,rfl,by omega⟩
def TextI (w:World) (zs:List Int) (k:Nat) (W:World):Prop:=∃ L,W.heap[w.heap.size]? = some (.cells #[.int .i64 3,.int .i64 0,.string ⟨#[]⟩,L] 171 (0,0)) ∧
 W.ownsRow (w.heap.size + 1) 171 4 L k ((zs.take k).flatMap valC) ∧ Below w.heap.size w W
theorem text_any (v:Value) (zs:List Int) (w:World) (hI:Ints w v zs) (hl:zs.length ≤ 1000) :
  Calls Tryz.prog 82 #[v] w fun e w' => ∃ v',e = .returned v' ∧ Byts w' v' (encL zs) ∧ Below w.heap.size w w':=by
 obtain ⟨a,cap,rfl,hcap,hlen,hr,hk⟩:=hI
 have HR:=Lib.hid hr
 have HK:=Lib.hid hk
 clear hr hk
 go_enter Tryz.func82,Tryz.ntmps82
 go_wp2_with fail
 have h00:TextI w zs 0 (w.alloc (.cells #[.int .i64 3,.int .i64 0,.string ⟨#[]⟩,.slice none 0 0] 171)):=⟨_,World.alloc_heap_new _ _,World.ownsRow_nil _ _ _ _,(Below.refl _ _).alloc (Nat.le_refl _) _⟩
 go_loopw [11] (fun i W => ∃ k:Nat,k ≤ zs.length ∧ i = .int .i64 k ∧ TextI w zs k W) (fun i _ => zs.length - (intOf i).toNat)
 case atStart => exact ⟨0,Nat.zero_le _,rfl,h00⟩
 case round =>
  clear h00
  obtain ⟨k,hkl,rfl,L,hrow,hown,hbe⟩:=hrel
  have hbx:=row_lt hrow
  by_cases hlt:k < zs.length
  ·obtain ⟨b,off,rfl,q1⟩:=HK.out k hlt
   have hz:=HR.out _ (List.getElem_mem hlt)
   have c1:=below_cell hbe q1
   have HT:=Lib.hid (show zs.take k ++ [zs[k]] = zs.take (k + 1) from (List.take_succ_eq_append_getElem hlt).symm)
   generalize zs[k] = z at *
   have x3:wr.cell? ⟨w.heap.size,3,none⟩ = some L:=row_cell hrow rfl
   have x0:wr.cell? ⟨w.heap.size,0,none⟩ = some (.int .i64 3):=row_cell hrow rfl
   obtain ⟨W1,hW1,hb1,hr1⟩:=boxed4 wr (.int .i64 1) (.int .i64 z) (.string ⟨#[]⟩) (.slice none 0 0) 171
   have HOW:=Lib.hid (own_keep hown hb1)
   have HCE:Hid (∀ j u,(valC z)[j]? = some u → W1.cell? ⟨wr.heap.size,j,none⟩ = some u):=Lib.hid (fun j u hj => row_cell hr1 (by
    match j with
    | 0 | 1 | 2 | 3 => exact hj
    | n + 4 => simp [valC] at hj))
   have HNE:=Lib.hid (own_ne hown (b:=w.heap.size) (.inr (by omega)))
   have HRW:=Lib.hid ((hb1.block _ hbx).trans hrow)
   have HBX:Hid (w.heap.size < W1.heap.size):=Lib.hid (Nat.lt_of_lt_of_le hbx hb1.size)
   have HB1:=Lib.hid hb1
   have HW1:=Lib.hid hW1
   have hk1:k ≤ 1000:=by omega
   have hbs:w.heap.size + 1 ≤ W1.heap.size:=Nat.lt_of_lt_of_le hbx hb1.size
   have HBS:=Lib.hid hbs
   clear q1 hown hrow hr1 hb1 hW1 hbs
   go_wp2_with (refine app_val rfl _ _ rfl (w.heap.size + 1) _ (zs.take k) _ rfl (HW1.out ▸ HOW.out) wr.heap.size 1 z rfl (HW1.out ▸ HCE.out) (by omega) (HW1.out ▸ HBS.out) ?_; rw [← HW1.out]; intro g8 cap8 w8 h8 o8; have hr8:=(o8.1.block _ HBX.out (fun e => HNE.out e.symm)).trans HRW.out; have y3:w8.cell? ⟨w.heap.size,3,none⟩ = some L:=row_cell hr8 rfl; have f3:=row_free hr8 3; have HR8:=Lib.hid hr8; have H8:=Lib.hid h8; have O8:=Lib.hid o8; clear hr8 h8 o8)
   go_roundw
   case rel => exact ⟨k + 1,by omega,by go_num,_,row_set HR8.out 3 _,by
    have hb8:=own_below HOW.out O8.out.1 HBS.out
    refine own_keep_set ?_ (Nat.lt_succ_self _) _
    rw [← HT.out]; exact H8.out,((hbe.trans (HB1.out.mono hbe.size)).trans (own_below HOW.out O8.out.1 HBS.out |>.mono (Nat.le_succ _))).setCell (Nat.le_refl _) _⟩
   case measure => simp [intOf]; omega
  ·have hk2:k = zs.length:=by omega
   rw [hk2,List.take_length] at hown
   have hVl:=Lib.hid (Vals.own hown HR.out (by omega))
   have x0:wr.cell? ⟨w.heap.size,0,none⟩ = some (.int .i64 3):=row_cell hrow rfl
   have x1:wr.cell? ⟨w.heap.size,1,none⟩ = some (.int .i64 0):=row_cell hrow rfl
   have x2:wr.cell? ⟨w.heap.size,2,none⟩ = some (.string ⟨#[]⟩):=row_cell hrow rfl
   have x3:wr.cell? ⟨w.heap.size,3,none⟩ = some L:=row_cell hrow rfl
   have hdt:decide (k < zs.length) = false:=decide_eq_false hlt
   obtain ⟨aL,cL,hLe,-⟩:=id hVl.out
   subst hLe
   clear hown hrow hk2
   go_wp2_with fail
   refine (encode_any _ zs _ hVl.out).mono ?_
   rintro e w9 ⟨v9,rfl,hv9,hb9⟩
   have HV9:=Lib.hid hv9
   clear hv9
   go_wp2_with fail
   go_ret
   exact ⟨_,rfl,HV9.out,hbe.trans (hb9.mono hbe.size)⟩
end Go.Proofs.YtggnipkfliompaaGreatDoor
namespace Go.Proofs.YtggnipkfliompaaGreatDoor
open Go.RowKit
def strB (s:ByteArray):List Nat:=s.data.toList.map UInt8.toNat
theorem strB_len (s:ByteArray):(strB s).length = s.size:=by unfold strB; rw [List.length_map]; exact Array.length_toList
theorem conv_byts (w:World) (s:ByteArray) (hs:s.size ≤ 17592186044416):Byts (Lib.bytesWorld w 5 s) (.slice (some ⟨w.heap.size,0,none⟩) s.size (grownCap w s.size 0 5)) (strB s):=by
 refine ⟨_,_,by rw [strB_len],by rw [strB_len]; exact grownCap_ge w s.size 0 _,by rw [strB_len]; exact hs,?_,fun k hk => ⟨_,_,rfl,?_⟩⟩
 ·intro x hx
  obtain ⟨c,-,rfl⟩:=List.mem_map.1 hx
  exact c.toNat_lt
 ·rw [strB_len] at hk
  have e:∀ h,(strB s)[k]'h = (s.data.toList.getD k 0).toNat:=fun h => by
   unfold strB at h ⊢
   rw [List.getElem_map,List.getD_eq_getElem?_getD,List.getElem?_eq_getElem (by rw [Array.length_toList]; exact hk)]
   rfl
  rw [Nat.zero_add,Lib.bytesWorld_cell w _ s k hk,e]
theorem conv_below (w:World) (s:ByteArray):Below w.heap.size w (Lib.bytesWorld w 5 s) where
 os:=rfl
 tape:=rfl
 output:=rfl
 size:=by rw [Lib.bytesWorld_size]; omega
 block:=fun k hk => Lib.bytesWorld_at_old w _ s k hk
theorem conv_at (w:World) (B:Nat) (hB:w.heap.size = B) (s:ByteArray) (hs:s.size ≤ 17592186044416):Byts (Lib.bytesWorld w 5 s) (.slice (some ⟨B,0,none⟩) s.size (grownCap w s.size 0 5)) (strB s):=by
 subst hB; exact conv_byts w s hs
theorem there_new (w:World) (c:Array Value) (t:TypeId) {n:Nat} (h:c.size = n):(w.alloc (.cells c t)).there w.heap.size 0 n:=fun j hj => by
 have hr:=World.alloc_heap_new w (.cells c t)
 rw [Nat.zero_add]
 exact ⟨by rw [row_cell hr (Array.getElem?_eq_getElem (by omega))]; rfl,row_free hr j⟩
theorem setCells_size (b:Nat):∀ (L:List Value) (o:Nat) (w:World),(w.setCells b o L).heap.size = w.heap.size
 | [],_,_ => rfl
 | v :: L,o,w => by rw [World.setCells,setCells_size b L (o + 1)]; simp [World.setCell]
theorem stored (W1:World) (T:List Value) (hT:T.length = 32):∃ W2,W2 = (W1.alloc (.cells z32 167)).setCells W1.heap.size 0 T ∧ W2.rangeAt W1.heap.size 0 T ∧ Below W1.heap.size W1 W2 ∧ W2.heap.size = W1.heap.size + 1:=by
 refine ⟨_,rfl,World.rangeAt_setCells_same _ _ _ _ (there_new _ _ _ (by rw [hT]; rfl)),below_setCells (Nat.le_refl _) _ _ _ ((Below.refl _ _).alloc (Nat.le_refl _) _),?_⟩
 rw [setCells_size]; simp
theorem two_cells (W:World) (u v:Value) (t:TypeId) (B:Nat) (hB:W.heap.size = B):∃ W3,W3 = W.alloc (.cells #[u,v] t) ∧ Below W.heap.size W W3 ∧ W3.cell? ⟨B,0,none⟩ = some u ∧ W3.cell? ⟨B,1,none⟩ = some v:=by
 subst hB
 have hr:=World.alloc_heap_new W (.cells #[u,v] t)
 exact ⟨_,rfl,(Below.refl _ _).alloc (Nat.le_refl _) _,row_cell hr rfl,row_cell hr rfl⟩
theorem there_row {W:World} {b:Nat} {L:Array Value} {t:TypeId} (h:W.heap[b]? = some (.cells L t (0,0))) {n:Nat} (hn:n ≤ L.size):W.there b 0 n:=fun j hj => by
 rw [Nat.zero_add]
 exact ⟨by rw [row_cell h (Array.getElem?_eq_getElem (by omega))]; rfl,row_free h j⟩
theorem range_byts {w:World} {b:Nat} {bs:List Nat} (h:w.rangeAt b 0 (bs.map byteV)) (hb:∀ x ∈ bs,x < 256) {n:Nat} (hn:bs.length = n) (hl:n ≤ 17592186044416):Byts w (.slice (some ⟨b,0,none⟩) n n) bs:=by
 subst hn
 refine ⟨_,_,rfl,Nat.le_refl _,hl,hb,fun k hk => ⟨b,0,rfl,?_⟩⟩
 exact h k _ (by rw [List.getElem?_map,List.getElem?_eq_getElem hk]; rfl)
theorem tagged_any (s:ByteArray) (v:Value) (bs:List Nat) (w:World) (hs:s.size ≤ 17592186044416) (hI:Byts w v bs) (h0:0 < bs.length) (hl:bs.length ≤ 8796093022208) (hG:Glob w) :
  Calls Tryz.prog 152 #[.string s,v] w fun e w' => e = .returned (.agg ((shaTag (strB s) bs).map byteV).toArray) ∧ Below w.heap.size w w':=by
 have hcv:=fun w => Lib.run_convert_string_bytes (P:=Tryz.prog) w 9 117 5 s Tryz.underlying9 Tryz.underlying117 Tryz.underlying5
 obtain ⟨av,cv,rfl,-⟩:=id hI
 have HI:=Lib.hid hI
 clear hI
 go_enter Tryz.func152,Tryz.ntmps152
 go_wp2_with fail
 have hA:Below w.heap.size w (w.alloc (.cells z32 167)):=(Below.refl _ _).alloc (Nat.le_refl _) _
 have hB:Below w.heap.size w (Lib.bytesWorld (w.alloc (.cells z32 167)) 5 s):=hA.trans ((conv_below _ s).mono (by simp))
 have hR:(Lib.bytesWorld (w.alloc (.cells z32 167)) 5 s).heap[w.heap.size]? = some (.cells z32 167 (0,0)):=((conv_below _ s).block _ (by simp)).trans (World.alloc_heap_new _ _)
 have hC:=conv_at (w.alloc (.cells z32 167)) (w.heap.size + 1) (by simp) s hs
 have hGB:=hG.below hB
 refine (sum_any _ (strB s) _ hC hGB).mono ?_
 rintro e W1 ⟨rfl,hb1⟩
 have hb2:=hB.trans (hb1.mono hB.size)
 have hr2:=(hb1.block _ (row_lt hR)).trans hR
 clear hA hB hR hb1 hcv
 have h32:((sha (strB s)).map byteV).length = 32:=by rw [List.length_map,sha_len]
 have h1L:((sha (strB s)).map byteV).toArray.all (·.oneCell') = true:=all_oneCell_toArray (fun v hv => by obtain ⟨x,-,rfl⟩:=List.mem_map.1 hv; rfl)
 obtain ⟨T,hT⟩:∃ T,(sha (strB s)).map byteV = T:=⟨_,rfl⟩
 rw [hT] at h32 h1L
 rw [hT]
 have HT:=Lib.hid hT
 have H32:=Lib.hid h32
 have H1L:=Lib.hid h1L
 have HI1:=Lib.hid (infoDg.trans (congrArg some (show 32 = T.toArray.size by simpa using h32.symm)))
 have H32A:Hid (T.toArray.size = 32):=Lib.hid (by simpa using h32)
 clear hT h32 h1L
 obtain ⟨W2,hW2,hrg,hb3,hz3⟩:=stored W1 T H32.out
 simp only [z32] at hW2
 have HW2:=Lib.hid hW2
 have HRG:=Lib.hid hrg
 clear hW2 hrg
 go_wp2_with (refine wpList_store_mid rfl 167 (.tmp 5) (.tmp 8) rfl W1.heap.size 0 T.toArray rfl rfl (there_new _ _ _ H32A.out.symm) HI1.out H1L.out ?_; rw [show T.toArray.toList = T from rfl,← HW2.out])
 have hb4:Below w.heap.size w W2:=hb2.trans (hb3.mono hb2.size)
 have hr4:=(hb3.block _ (row_lt hr2)).trans hr2
 have hx2:Byts W2 (.slice (some ⟨W1.heap.size,0,none⟩) 32 32) (sha (strB s)):=range_byts (by rw [HT.out]; exact HRG.out) (sha_all _) (sha_len _) (by omega)
 obtain ⟨W3,hW3,hb5,hc0,hc1⟩:=two_cells W2 (.slice (some ⟨W1.heap.size,0,none⟩) 32 32) (.slice av bs.length cv) 117 (W1.heap.size + 1) hz3
 rw [← hW3]
 have hb6:=hb4.trans (hb5.mono hb4.size)
 have hr6:=(hb5.block _ (row_lt hr4)).trans hr4
 have hx3:=hx2.below hb5
 have hy3:=HI.out.below hb6
 clear hW3 hb3 hb2 hr2 hb5 hx2 hb4 hr4 hz3
 refine (concat_two (W1.heap.size + 1) _ _ (sha (strB s)) bs _ hx3 hy3 (by rw [sha_len]; omega) h0 (by rw [sha_len]; omega) hc0 hc1).mono ?_
 rintro e W4 ⟨v4,rfl,hv4,hb7⟩
 have hb8:=hb6.trans (hb7.mono hb6.size)
 have hr8:=(hb7.block _ (row_lt hr6)).trans hr6
 have HV4:=Lib.hid hv4
 clear hx3 hy3 hc0 hc1 hb6 hr6 hb7 hv4
 go_wp2_with fail
 have hG4:=hG.below hb8
 refine (sum_any v4 (sha (strB s) ++ bs) _ HV4.out hG4).mono ?_
 rintro e W5 ⟨rfl,hb9⟩
 have hb10:=hb8.trans (hb9.mono hb8.size)
 have hr10:=(hb9.block _ (row_lt hr8)).trans hr8
 have hth:=there_row hr10 (n:=32) (Nat.le_refl 32)
 have g32:((sha (sha (strB s) ++ bs)).map byteV).length = 32:=by rw [List.length_map,sha_len]
 have g1L:((sha (sha (strB s) ++ bs)).map byteV).toArray.all (·.oneCell') = true:=all_oneCell_toArray (fun v hv => by obtain ⟨x,-,rfl⟩:=List.mem_map.1 hv; rfl)
 have HSH:Hid ((shaTag (strB s) bs).map byteV = (sha (sha (strB s) ++ bs)).map byteV):=Lib.hid rfl
 obtain ⟨U,hU⟩:∃ U,(sha (sha (strB s) ++ bs)).map byteV = U:=⟨_,rfl⟩
 rw [hU] at g32 g1L HSH
 rw [hU]
 have G1L:=Lib.hid g1L
 have GI1:=Lib.hid (infoDg.trans (congrArg some (show 32 = U.toArray.size by simpa using g32.symm)))
 have GI2:=Lib.hid (infoDg.trans (congrArg some g32.symm))
 have GTH:Hid (W5.there w.heap.size 0 U.toArray.size):=Lib.hid (by rw [show U.toArray.size = 32 by simpa using g32]; exact hth)
 have GTH2:Hid (W5.there w.heap.size 0 U.length):=Lib.hid (by rw [g32]; exact hth)
 clear hU g32 g1L hth hb8 hr8 hb9 hr10 hG4
 go_wp2_with (refine wpList_store_mid rfl 167 (.tmp 4) (.tmp 13) rfl w.heap.size 0 U.toArray rfl rfl GTH.out GI1.out G1L.out ?_)
 have hLL:U.toArray.toList = U:=rfl
 have hW8:(W5.setCells w.heap.size 0 U.toArray.toList).rangeAt w.heap.size 0 U:=by rw [hLL]; exact World.rangeAt_setCells_same _ _ _ _ GTH2.out
 have hld:=run_loadVar_mid (P:=Tryz.prog) _ w.heap.size 0 167 U _ hW8 Tryz.underlying167 rfl GI2.out
 refine bodyPost_ret (v:=.agg U.toArray) ?_ rfl ⟨by rw [HSH.out],below_setCells (Nat.le_refl _) _ _ _ hb10⟩
 exact results_cell1_of rfl rfl hld
end Go.Proofs.YtggnipkfliompaaGreatDoor
