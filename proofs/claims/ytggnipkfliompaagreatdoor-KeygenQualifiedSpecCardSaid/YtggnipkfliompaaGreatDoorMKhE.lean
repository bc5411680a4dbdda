/- The laws of keygen: what KeygenTogether goes through: pairs of words, dealings whose slices are typed, its closure. The reference of keygen: what the rounds of Qualified gather. The reference of dealing: Recover, where it refuses; the append of a row in a drawn region. The reference of dealing: two rows of a call's own, side by side. -/
import Derived.Test.YtggnipkfliompaaGreatDoorMKgE
import Derived.Test.YtggnipkfliompaaGreatDoorMKqB
import Derived.Test.YtggnipkfliompaaGreatDoorMKgI
import Derived.Test.YtggnipkfliompaaGreatDoorMRegF
import Derived.Test.YtggnipkfliompaaGreatDoorMKqA
import Derived.Test.YtggnipkfliompaaGreatDoorMRange5
import Derived.Test.YtggnipkfliompaaGreatDoorMKgJ
set_option maxRecDepth 100000
namespace Go.Proofs.YtggnipkfliompaaGreatDoor
open Go.RowKit FP
end Go.Proofs.YtggnipkfliompaaGreatDoor
namespace Go.Proofs.YtggnipkfliompaaGreatDoor
open Go.RowKit FP
def onesL (n:Nat):List Int:=List.replicate n 1
theorem onesL_len (n:Nat):(onesL n).length = n:=by simp [onesL]
theorem onesL_snoc (n:Nat):onesL (n + 1) = onesL n ++ [1]:=by unfold onesL; rw [List.replicate_succ']
def cfold (rows:List (List Int)) (q:List Dlg):List Int:=renC (onesL (colsQ rows)) (q.map (·.cs))
theorem cfold_nil (rows:List (List Int)):cfold rows [] = onesL (colsQ rows):=rfl
theorem cfold_snoc (rows:List (List Int)) (q:List Dlg) (d:Dlg):cfold rows (q ++ [d]) = mulL (cfold rows q) d.cs:=by
 unfold cfold renC
 rw [List.map_append,List.foldl_append]; rfl
theorem mulL_ones {cs:List Int} (h:∀ c ∈ cs,El c) {n:Nat} (hl:cs.length = n):mulL (onesL n) cs = cs:=by
 refine List.ext_getElem (by rw [mulL_len,onesL_len,hl]) fun k h1 h2 => ?_
 have hk:k < n:=by omega
 have he:=h _ (List.getElem_mem h2)
 rw [← nth_at h1,nth_mulL (by rw [onesL_len]; exact hk),nth_at h2,nth_at (by rw [onesL_len]; exact hk)]
 have e1:(onesL n)[k]'(by rw [onesL_len]; exact hk) = 1:=by simp [onesL]
 rw [e1,Int.one_mul]
 have:=he.lo
 have:=he.hi
 omega
theorem cfold_comL {rows:List (List Int)} {q:List Dlg} (hq:q ≠ []) (hf:∀ d ∈ q,FineD rows d):cfold rows q = comL q:=by
 cases q with
 | nil => exact absurd rfl hq
 | cons d t =>
  have h1:=comB_el (hf d List.mem_cons_self).com
  show renC (mulL (onesL (colsQ rows)) d.cs) (t.map (·.cs)) = renC d.cs (t.map (·.cs))
  rw [mulL_ones h1.1 h1.2]
theorem el_mulL {a b:List Int} (ha:∀ c ∈ a,El c) (hb:∀ c ∈ b,El c) (hl:b.length = a.length):∀ c ∈ mulL a b,El c:=fun c hc => by
 obtain ⟨i,hi,rfl⟩:=List.mem_map.1 hc
 have hi:=List.mem_range.1 hi
 rw [nth_at hi,nth_at (by omega)]
 exact el_mul (ha _ (List.getElem_mem hi)) (hb _ (List.getElem_mem (by omega)))
theorem cfold_el {rows:List (List Int)}:∀ (n:Nat) (q:List Dlg),q.length = n → (∀ d ∈ q,FineD rows d) → (∀ c ∈ cfold rows q,El c) ∧ (cfold rows q).length = colsQ rows
 | 0,q,h,_ => by
  obtain rfl:q = []:=List.length_eq_zero_iff.1 h
  rw [cfold_nil,onesL_len]
  exact ⟨fun c hc => by unfold onesL at hc; rw [(List.mem_replicate.1 hc).2]; exact el_one,rfl⟩
 | n + 1,q,h,hf => by
  obtain ⟨ys,x,rfl⟩:∃ ys x,q = ys ++ [x]:=⟨q.dropLast,q.getLast (by intro e; rw [e] at h; cases h),(List.dropLast_concat_getLast _).symm⟩
  obtain ⟨h1,h2⟩:=cfold_el n ys (by rw [List.length_append,List.length_singleton] at h; omega) (fun d hd => hf d (List.mem_append_left _ hd))
  have hx:=comB_el (hf x (by simp)).com
  rw [cfold_snoc]
  exact ⟨el_mulL h1 hx.1 (by rw [h2,hx.2]),by rw [mulL_len,h2]⟩
structure RqV (w5:World) (rv ov L V:Value) (D C:List Int) (W:World):Prop where
 be:Below w5.heap.size w5 W
 rk:W.heap[w5.heap.size + 1]? = some (.cells #[.int .i64 0,rv,ov,V] 64 (0,0))
 oV:W.ownsRow (w5.heap.size + 2) 3 1 V C.length (C.map (Value.int .i64))
 oL:W.ownsRow w5.heap.size 3 1 L D.length (D.map (Value.int .i64))
 nL:L.ownBlock ≠ some (w5.heap.size + 1)
 ap:∀ g,L.ownBlock = some g → V.ownBlock ≠ some g
section
variable {w5:World} {rv ov L V:Value} {D C:List Int} {W W':World}
theorem RqV.big (h:RqV w5 rv ov L V D C W):w5.heap.size + 2 ≤ W.heap.size:=row_lt h.rk
theorem RqV.below (h:RqV w5 rv ov L V D C W) (hb:Below W.heap.size W W'):RqV w5 rv ov L V D C W':=
 ⟨h.be.trans (hb.mono h.be.size),(hb.block _ (row_lt h.rk)).trans h.rk,own_keep h.oV hb,own_keep h.oL hb,h.nL,h.ap⟩
theorem RqV.grow {V':Value} {z:Int} (h:RqV w5 rv ov L V D C W) (hg:W.grownBy W' V.ownBlock) (ho:W'.ownsRow (w5.heap.size + 2) 3 1 V' (C.length + 1) (C.map (Value.int .i64) ++ [.int .i64 z])) (hl:V'.ownBlock = V.ownBlock ∨ ∃ g,V'.ownBlock = some g ∧ W.heap.size ≤ g) :
  RqV w5 rv ov L V' D (C ++ [z]) (W'.setCell ⟨w5.heap.size + 1,3,none⟩ V'):=by
 have hb:=own_below h.oV hg h.big
 have hL:=own_apart h.oL hg (fun b e1 => h.ap b e1)
 refine ⟨(h.be.trans (hb.mono (by omega))).setCell (Nat.le_succ _) _,row_set ((hb.block _ (by omega)).trans h.rk) 3 V',own_keep_set ?_ (by omega) _,owns_setCell_other hL (fun g e e2 => h.nL (by rw [e,← e2])) _,h.nL,fun g e1 e2 => ?_⟩
 ·rw [List.length_append,List.map_append]; exact ho
 ·rcases hl with hl | ⟨g2,hl,hz⟩
  ·exact h.ap g e1 (hl ▸ e2)
  ·rw [hl] at e2; injection e2 with e2; subst e2
   have:=(own_lt h.oL _ e1).2
   omega
theorem RqV.step {g c n:Nat} {z:Int} {w9:World} (h:RqV w5 rv ov L V D C W) (hn:C.length = n) (h9:w9.ownsRow (w5.heap.size + 2) 3 1 (.slice (some ⟨g,0,none⟩) (n + 1) c) (n + 1) (C.map (Value.int .i64) ++ [.int .i64 z])) (o9:W.grownBy w9 V.ownBlock) (l9:V.ownBlock = some g ∨ g = W.heap.size) :
  RqV w5 rv ov L (.slice (some ⟨g,0,none⟩) (n + 1) c) D (C ++ [z]) (w9.setCell ⟨w5.heap.size + 1,3,none⟩ (.slice (some ⟨g,0,none⟩) (n + 1) c)) ∧ w9.cell? ⟨w5.heap.size + 1,3,none⟩ = some V ∧ w9.frozen? ⟨w5.heap.size + 1,3,none⟩ = false:=by
 subst hn
 have hk:=(o9.block _ (row_lt h.rk) (fun e => by have:=(own_lt h.oV _ e.symm).1; omega)).trans h.rk
 refine ⟨h.grow o9 h9 ?_,row_cell hk (k:=3) rfl,row_free hk 3⟩
 rcases l9 with l9 | l9
 ·exact .inl l9.symm
 ·exact .inr ⟨g,rfl,Nat.le_of_eq l9.symm⟩
theorem RqV.more {L':Value} {z:Int} (h:RqV w5 rv ov L V D C W) (hg:W.grownBy W' L.ownBlock) (ho:W'.ownsRow w5.heap.size 3 1 L' (D.length + 1) (D.map (Value.int .i64) ++ [.int .i64 z])) (hl:L'.ownBlock = L.ownBlock ∨ ∃ g,L'.ownBlock = some g ∧ W.heap.size ≤ g):RqV w5 rv ov L' V (D ++ [z]) C W':=by
 have hbg:=h.big
 have hb:=own_below h.oL hg (by omega)
 have hV:=own_apart h.oV hg (fun b e1 e2 => h.ap b e2 e1)
 refine ⟨h.be.trans hb,(hg.block _ (by omega) (fun e => h.nL e.symm)).trans h.rk,hV,?_,?_,fun g e1 e2 => ?_⟩
 ·rw [List.length_append,List.map_append]; exact ho
 ·rcases hl with hl | ⟨g2,hl,hz⟩
  ·rw [hl]; exact h.nL
  ·rw [hl]; intro e; injection e with e; omega
 ·rcases hl with hl | ⟨g2,hl,hz⟩
  ·exact h.ap g (hl ▸ e1) e2
  ·rw [hl] at e1; injection e1 with e1; subst e1
   have:=(own_lt h.oV _ e2).2
   omega
theorem RqV.stepL {g c n:Nat} {z:Int} {w9:World} (h:RqV w5 rv ov L V D C W) (hn:D.length = n) (h9:w9.ownsRow w5.heap.size 3 1 (.slice (some ⟨g,0,none⟩) (n + 1) c) (n + 1) (D.map (Value.int .i64) ++ [.int .i64 z])) (o9:W.grownBy w9 L.ownBlock) (l9:L.ownBlock = some g ∨ g = W.heap.size) :
  RqV w5 rv ov (.slice (some ⟨g,0,none⟩) (n + 1) c) V (D ++ [z]) C w9:=by
 subst hn
 refine h.more o9 h9 ?_
 rcases l9 with l9 | l9
 ·exact .inl l9.symm
 ·exact .inr ⟨g,rfl,Nat.le_of_eq l9.symm⟩
theorem RqV.put {g n cap k:Nat} {z:Int} (h:RqV w5 rv ov L (.slice (some ⟨g,0,none⟩) n cap) D C W) (hn:n = C.length):RqV w5 rv ov L (.slice (some ⟨g,0,none⟩) n cap) D (C.set k z) (W.setCell ⟨g,k,none⟩ (.int .i64 z)):=by
 subst hn
 have hg:=(own_lt h.oV g rfl).1
 refine ⟨h.be.setCell (by show w5.heap.size ≤ g; omega) _,(Below.heap_setCell _ _ _ _ (by show w5.heap.size + 1 ≠ g; omega)).trans h.rk,?_,owns_setCell_other h.oL (fun g2 e e2 => h.ap g2 e (by rw [← e2]; rfl)) _,h.nL,h.ap⟩
 rw [List.length_set,List.map_set]
 exact (own_set36 h.oV k _).2.2
end
end Go.Proofs.YtggnipkfliompaaGreatDoor
namespace Go.Proofs.YtggnipkfliompaaGreatDoor
open Go.RowKit FP
end Go.Proofs.YtggnipkfliompaaGreatDoor
namespace Go.Proofs.YtggnipkfliompaaGreatDoor
open Go.RowKit FP
theorem app_int_lies {ops:Array Oper} {rest:List Oper} {o:Oper} {a:Act} {Q:Exit → Act → World → Prop} {W:World} (hgd:o.guard = none) (s x:Operand) (ho:o.op = .call { callee:=.builtin .append,args:=#[s,x],argTypes:=#[23,23] })
  (base n:Nat) (v:Value) (xs:List Value) (hs:a.eval s = v) (hown:W.ownsRow base 3 1 v n xs) (b c:Nat) (z:Int) (hx:a.eval x = .slice (some ⟨b,0,none⟩) 1 c) (hcell:W.cell? ⟨b,0,none⟩ = some (.int .i64 z)) (hn:n ≤ 1000000) (hbase:base ≤ W.heap.size)
  (h:∀ g cap w',w'.ownsRow base 3 1 (.slice (some ⟨g,0,none⟩) (n + 1) cap) (n + 1) (xs ++ [.int .i64 z]) → W.grownBy w' v.ownBlock → (v.ownBlock = some g ∨ g = W.heap.size) → wpList Tryz.prog ops Q rest (a.put o.dst (.slice (some ⟨g,0,none⟩) (n + 1) cap)) w'):wpList Tryz.prog ops Q (o :: rest) a W:=by
 obtain ⟨i0,hi0,hz0,hz1,hz2⟩:=info_parts infoInt
 refine wpList_append_lies _ hgd s x 23 ho base 3 i0 (.int .i64 0) 1 8 Tryz.underlying23 hi0 hz0 hz1 hz2 rfl (by decide) v n xs hs hown ⟨b,0,none⟩ 1 c [.int .i64 z] hx rfl ?_ ?_ (by decide) ?_ ?_ hbase W.heap.size rfl ?_
 ·intro j u hu
  cases j with
  | zero => simp at hu; subst hu; rw [add_off]; exact hcell
  | succ j => simp at hu
 ·simp [Value.oneCell']
 ·unfold maxLen; omega
 ·omega
 ·intro g cap w' h1 h2 h3 _
  exact h g cap w' h1 h2 h3
end Go.Proofs.YtggnipkfliompaaGreatDoor
