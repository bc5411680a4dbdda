/- A law's argument that is a parcel, a list of parcels or a dealing. A law's argument that is a list of complaints. -/
import Derived.Test.YtggnipkfliompaaGreatDoorMKqE
import Derived.Test.YtggnipkfliompaaGreatDoorMEqB
import Derived.Test.YtggnipkfliompaaGreatDoorMKgH
import Derived.Test.YtggnipkfliompaaGreatDoorMKgA
set_option maxRecDepth 100000
namespace Go.Proofs.YtggnipkfliompaaGreatDoor
open Go.ChangeShapes Go.WideShapes Go.ChangeAt Go.RowKit Go.Deep Go.Joins
theorem cellsParcel:Tryz.prog.cellsOf 49 = 3:=by kernel_rfl
theorem bytesParcel:Tryz.prog.bytesOf 49 = 24:=by kernel_rfl
theorem cellsDealing:Tryz.prog.cellsOf 28 = 3:=by kernel_rfl
section
variable {H:Type} {enc:TypeId × Value → H} {W:World} {base:Nat}
theorem parcel_cells {fuel:Nat} {cs:List Value} {y:DataW H × List MemPlace} (h:DataW.trod enc Tryz.prog W 0 (fun _ => true) true fuel 49 cs = some y):∃ p:Pcl,cs = [.int .i64 p.1,.int .i64 p.2.1,.int .i64 p.2.2] ∧ R64 p.1 ∧ R64 p.2.1 ∧ R64 p.2.2:=by
 obtain ⟨y0,y1,y2,n,-,hl,h0,h1,h2⟩:=trod_struct3 Tryz.underlying49 h
 rw [cellsParcel] at hl
 match cs,hl with
 | [c0,c1,c2],_ =>
  have h0':DataW.trod enc Tryz.prog W 0 (fun _ => true) true n 3 [c0] = some y0:=by simpa [cellsInt] using h0
  have h1':DataW.trod enc Tryz.prog W 0 (fun _ => true) true n 3 [c1] = some y1:=by simpa [cellsInt] using h1
  have h2':DataW.trod enc Tryz.prog W 0 (fun _ => true) true n 3 [c2] = some y2:=by simpa [cellsInt] using h2
  obtain ⟨a,e0,-,w0⟩:=DataW.trod_int Tryz.underlying3 h0'
  obtain ⟨b,e1,-,w1⟩:=DataW.trod_int Tryz.underlying3 h1'
  obtain ⟨c,e2,-,w2⟩:=DataW.trod_int Tryz.underlying3 h2'
  simp at e0 e1 e2
  subst e0 e1 e2
  exact ⟨(a,b,c),rfl,wf_r64 w0,wf_r64 w1,wf_r64 w2⟩
theorem add_add (a:Addr) (i j:Nat):(a.add i).add j = a.add (i + j):=by
 unfold Addr.add
 by_cases h:i = 0 <;> by_cases h2:j = 0 <;> simp [h,h2,Nat.add_assoc]
theorem open_parcels {v:Value} {d:DataW H} {ps:List MemPlace} (hs:∃ a n c,v = .slice a n c) (h:DataW.Trod enc Tryz.prog W 0 (fun _ => true) true 26 v d ps) (hl:Light 26 d):∃ l,Parcels W v l:=by
 obtain ⟨a0,len0,cap0,rfl⟩:=hs
 obtain ⟨fuel,hf⟩:=h
 rcases DataW.trod_slice Tryz.underlying26 hf with ⟨hcs,-⟩ | ⟨a,len,cap,elems,rest,n,-,hcs,hx,-,hle,hm,hlen,hel,hsp,-⟩
 ·simp [Value.cells] at hcs
  obtain ⟨rfl,rfl,rfl⟩:=hcs
  exact ⟨[],Parcels.nil _ _ _⟩
 ·simp [Value.cells] at hcs
  obtain ⟨rfl,rfl,rfl⟩:=hcs
  simp only [Prod.mk.injEq] at hx
  obtain ⟨hrl,-⟩:=hsp rfl
  have hcap:len0 * 24 ≤ reachBytes:=by
   have:=hl ((elems.length + rest.length) * 24) (by
    rw [hx.1]
    simp only [DataW.weights,Tryz.underlying26,bytesParcel,List.length_map]
    exact List.mem_cons_self ..)
   rw [hlen] at this
   exact Nat.le_trans (Nat.mul_le_mul_right _ (Nat.le_add_right _ _)) this
  rw [reach_is] at hcap
  have hrow:∀ i,i < len0 → ∃ p:Pcl,(R64 p.1 ∧ R64 p.2.1 ∧ R64 p.2.2) ∧ W.cell? (a.add (i * 3)) = some (.int .i64 p.1) ∧ W.cell? (a.add (i * 3 + 1)) = some (.int .i64 p.2.1) ∧ W.cell? (a.add (i * 3 + 2)) = some (.int .i64 p.2.2):=fun i hi => by
   have h1:=hel i hi
   rw [cellsParcel,List.getElem?_eq_getElem (by omega)] at h1
   obtain ⟨cs,hc,ht⟩:=Option.bind_eq_some_iff.1 h1
   obtain ⟨p,rfl,hp⟩:=parcel_cells ht
   obtain ⟨-,-,hcell⟩:=World.cells?_some hc
   refine ⟨p,hp,?_,?_,?_⟩
   ·have:=hcell 0 (by omega); simpa [Addr.add] using this
   ·have:=hcell 1 (by omega)
    rw [add_add] at this
    simpa using this
   ·have:=hcell 2 (by omega)
    rw [add_add] at this
    simpa using this
  obtain ⟨f,hf2⟩:∃ f:Nat → Pcl,∀ i,i < len0 → (R64 (f i).1 ∧ R64 (f i).2.1 ∧ R64 (f i).2.2) ∧ W.cell? (a.add (i * 3)) = some (.int .i64 (f i).1) ∧ W.cell? (a.add (i * 3 + 1)) = some (.int .i64 (f i).2.1) ∧ W.cell? (a.add (i * 3 + 2)) = some (.int .i64 (f i).2.2):=
   ⟨fun i => if hi:i < len0 then (hrow i hi).choose else (0,0,0),fun i hi => by simp only [dif_pos hi]; exact (hrow i hi).choose_spec⟩
  refine ⟨(List.range len0).map f,some a,cap0,by simp,by simp [hle],by simp; omega,?_,fun k hk => ?_⟩
  ·intro p hp
   obtain ⟨i,hi,rfl⟩:=List.mem_map.1 hp
   exact (hf2 i (List.mem_range.1 hi)).1
  ·simp at hk
   obtain ⟨b,o,sp⟩:=a
   have hsp2:sp = none:=by
    have h0:=World.cell?_spot (hf2 0 (by omega)).2.1
    simpa [Addr.add] using h0
   subst hsp2
   obtain ⟨-,h1,h2,h3⟩:=hf2 k hk
   refine ⟨b,o,rfl,?_,?_,?_⟩
   ·rw [← add_plain]; simpa using h1
   ·rw [Nat.add_assoc,← add_plain]; simpa using h2
   ·rw [Nat.add_assoc,← add_plain]; simpa using h3
end
end Go.Proofs.YtggnipkfliompaaGreatDoor
namespace Go.Proofs.YtggnipkfliompaaGreatDoor
open Go.ChangeShapes Go.WideShapes Go.ChangeAt Go.RowKit Go.Deep Go.Joins
theorem bytesDealing:Tryz.prog.bytesOf 28 = 56:=by kernel_rfl
theorem cellsPars:Tryz.prog.cellsOf 26 = 1:=by kernel_rfl
theorem cellsIntsS:Tryz.prog.cellsOf 23 = 1:=by kernel_rfl
theorem bytesComplaint:Tryz.prog.bytesOf 34 = 40:=by kernel_rfl
section
variable {H:Type} {enc:TypeId × Value → H} {W:World} {base:Nat}
theorem complaint_cells {fuel:Nat} {cs:List Value} {y:DataW H × List MemPlace} (h:DataW.trod enc Tryz.prog W 0 (fun _ => true) true fuel 34 cs = some y):∃ c:Cmp,cs = cmpC c ∧ CmpR c:=by
 obtain ⟨m,c0,c1,c2,c3,c4,y0,y1,y2,y3,e,h0,h1,h2,h3⟩:=complaint_parts h
 obtain ⟨x0,e0,-,w0⟩:=DataW.trod_int Tryz.underlying3 h0
 obtain ⟨x1,e1,-,w1⟩:=DataW.trod_int Tryz.underlying3 h1
 obtain ⟨x2,e3,-,w2⟩:=DataW.trod_int Tryz.underlying3 h2
 obtain ⟨E,S,rfl,rfl,r0,r1⟩:=equal_cells h3
 simp only [List.cons.injEq,and_true] at e0 e1 e3
 subst e0 e1 e3
 exact ⟨⟨x0,x1,x2,E,S⟩,e,⟨wf_r64 w0,wf_r64 w1,wf_r64 w2,r0,r1⟩⟩
theorem open_complaints {v:Value} {d:DataW H} {ps:List MemPlace} (hs:∃ a n c,v = .slice a n c) (h:DataW.Trod enc Tryz.prog W 0 (fun _ => true) true 62 v d ps) (hl:Light 62 d):∃ l,Cmps W v l:=by
 obtain ⟨a0,len0,cap0,rfl⟩:=hs
 obtain ⟨fuel,hf⟩:=h
 rcases DataW.trod_slice Tryz.underlying62 hf with ⟨hcs,-⟩ | ⟨a,len,cap,elems,rest,n,-,hcs,hx,-,hle,hm,hlen,hel,hsp,-⟩
 ·simp [Value.cells] at hcs
  obtain ⟨rfl,rfl,rfl⟩:=hcs
  exact ⟨[],Cmps.nil _ _ _⟩
 ·simp [Value.cells] at hcs
  obtain ⟨rfl,rfl,rfl⟩:=hcs
  simp only [Prod.mk.injEq] at hx
  have hcap:len0 * 40 ≤ reachBytes:=by
   have:=hl ((elems.length + rest.length) * 40) (by
    rw [hx.1]
    simp only [DataW.weights,Tryz.underlying62,bytesComplaint,List.length_map]
    exact List.mem_cons_self ..)
   rw [hlen] at this
   exact Nat.le_trans (Nat.mul_le_mul_right _ (Nat.le_add_right _ _)) this
  rw [reach_is] at hcap
  have hrow:∀ i,i < len0 → ∃ c:Cmp,CmpR c ∧ ∀ j u,(cmpC c)[j]? = some u → W.cell? (a.add (i * 5 + j)) = some u:=fun i hi => by
   have h1:=hel i hi
   rw [cellsComplaint,List.getElem?_eq_getElem (by omega)] at h1
   obtain ⟨cs,hc,ht⟩:=Option.bind_eq_some_iff.1 h1
   obtain ⟨c,rfl,hp⟩:=complaint_cells ht
   obtain ⟨-,-,hcell⟩:=World.cells?_some hc
   refine ⟨c,hp,fun j u hj => ?_⟩
   have hj5:j < 5:=by
    have:=(List.getElem?_eq_some_iff.1 hj).1
    simpa [cmpC] using this
   have:=hcell j (by omega)
   rw [add_add] at this
   rw [this]; exact hj
  obtain ⟨f,hf2⟩:∃ f:Nat → Cmp,∀ i,i < len0 → CmpR (f i) ∧ ∀ j u,(cmpC (f i))[j]? = some u → W.cell? (a.add (i * 5 + j)) = some u:=
   ⟨fun i => if hi:i < len0 then (hrow i hi).choose else noC,fun i hi => by simp only [dif_pos hi]; exact (hrow i hi).choose_spec⟩
  refine ⟨(List.range len0).map f,some a,cap0,by simp,by simp [hle],by simp; omega,?_,fun k hk => ?_⟩
  ·intro p hp
   obtain ⟨i,hi,rfl⟩:=List.mem_map.1 hp
   exact (hf2 i (List.mem_range.1 hi)).1
  ·simp at hk
   obtain ⟨b,o,sp⟩:=a
   have hsp2:sp = none:=by
    have h0:=World.cell?_spot ((hf2 0 (by omega)).2 0 _ rfl)
    simpa [Addr.add] using h0
   subst hsp2
   obtain ⟨-,h1⟩:=hf2 k hk
   refine ⟨b,o,rfl,fun j u hj => ?_⟩
   rw [Nat.add_assoc,← add_plain]
   exact h1 j u (by simpa using hj)
theorem dealing_cells {fuel:Nat} {cs:List Value} {y:DataW H × List MemPlace} (h:DataW.trod enc Tryz.prog W 0 (fun _ => true) true fuel 28 cs = some y) (hl:Light 28 y.1):∃ (d:Dlg) (cv pv:Value),cs = [.int .i64 d.dealer,cv,pv] ∧ R64 d.dealer ∧ Ints W cv d.cs ∧ Parcels W pv d.ps:=by
 obtain ⟨y0,y1,y2,n,rfl,hlen,h0,h1,h2⟩:=trod_struct3 Tryz.underlying28 h
 rw [cellsDealing] at hlen
 match cs,hlen with
 | [c0,c1,c2],_ =>
  have h0':DataW.trod enc Tryz.prog W 0 (fun _ => true) true n 3 [c0] = some y0:=by simpa [cellsInt] using h0
  have h1':DataW.trod enc Tryz.prog W 0 (fun _ => true) true n 23 [c1] = some y1:=by simpa [cellsIntsS] using h1
  have h2':DataW.trod enc Tryz.prog W 0 (fun _ => true) true n 26 [c2] = some y2:=by simpa [cellsPars] using h2
  obtain ⟨dl,e0,-,w0⟩:=DataW.trod_int Tryz.underlying3 h0'
  obtain ⟨a1,l1,k1,e1⟩:=slice_form Tryz.underlying23 h1'
  obtain ⟨a2,l2,k2,e2⟩:=slice_form Tryz.underlying26 h2'
  simp only [List.cons.injEq,and_true] at e0 e1 e2
  subst e0 e1 e2
  have hw:∀ k,k ∈ y0.1.weights Tryz.prog 3 ++ (y1.1.weights Tryz.prog 23 ++ (y2.1.weights Tryz.prog 26 ++ [])) → k ≤ reachBytes:=fun k hk => hl k (by
   simp only [DataW.weights,Tryz.underlying28,List.map_cons,List.map_nil]
   exact hk)
  obtain ⟨cs',hc⟩:=open_list ⟨_,_,_,rfl⟩ (v:=.slice a1 l1 k1) (d:=y1.1) (ps:=y1.2) ⟨n,h1'⟩ (fun k hk => hw k (List.mem_append_right _ (List.mem_append_left _ hk)))
  obtain ⟨l,hp⟩:=open_parcels ⟨_,_,_,rfl⟩ (v:=.slice a2 l2 k2) (d:=y2.1) (ps:=y2.2) ⟨n,h2'⟩ (fun k hk => hw k (List.mem_append_right _ (List.mem_append_right _ (List.mem_append_left _ hk))))
  exact ⟨⟨dl,cs',l⟩,_,_,rfl,wf_r64 w0,hc,hp⟩
theorem open_dealings {v:Value} {d:DataW H} {ps:List MemPlace} (hs:∃ a n c,v = .slice a n c) (h:DataW.Trod enc Tryz.prog W 0 (fun _ => true) true 55 v d ps) (hl:Light 55 d):∃ l vs,Dlgs W v l vs:=by
 obtain ⟨a0,len0,cap0,rfl⟩:=hs
 obtain ⟨fuel,hf⟩:=h
 rcases DataW.trod_slice Tryz.underlying55 hf with ⟨hcs,-⟩ | ⟨a,len,cap,elems,rest,n,-,hcs,hx,-,hle,hm,hlen,hel,hsp,-⟩
 ·simp [Value.cells] at hcs
  obtain ⟨rfl,rfl,rfl⟩:=hcs
  exact ⟨[],fun _ => (.slice none 0 0,.slice none 0 0),Dlgs.nil _ _ _ _⟩
 ·simp [Value.cells] at hcs
  obtain ⟨rfl,rfl,rfl⟩:=hcs
  simp only [Prod.mk.injEq] at hx
  have hcap:len0 * 56 ≤ reachBytes:=by
   have:=hl ((elems.length + rest.length) * 56) (by
    rw [hx.1]
    simp only [DataW.weights,Tryz.underlying55,bytesDealing,List.length_map]
    exact List.mem_cons_self ..)
   rw [hlen] at this
   exact Nat.le_trans (Nat.mul_le_mul_right _ (Nat.le_add_right _ _)) this
  rw [reach_is] at hcap
  have hrow:∀ i,i < len0 → ∃ z:Dlg × (Value × Value),(R64 z.1.dealer ∧ Ints W z.2.1 z.1.cs ∧ Parcels W z.2.2 z.1.ps) ∧ W.cell? (a.add (i * 3)) = some (.int .i64 z.1.dealer) ∧ W.cell? (a.add (i * 3 + 1)) = some z.2.1 ∧ W.cell? (a.add (i * 3 + 2)) = some z.2.2:=fun i hi => by
   have h1:=hel i hi
   rw [cellsDealing,List.getElem?_eq_getElem (by omega)] at h1
   obtain ⟨cs,hc,ht⟩:=Option.bind_eq_some_iff.1 h1
   obtain ⟨d',cv,pv,rfl,hp⟩:=dealing_cells ht (fun k hk => hl k (by
    rw [hx.1]
    simp only [DataW.weights,Tryz.underlying55]
    exact List.mem_cons_of_mem _ (List.mem_append_left _ (weightsAll_mem (List.mem_map.2 ⟨_,List.getElem_mem (by omega),rfl⟩) hk))))
   obtain ⟨-,-,hcell⟩:=World.cells?_some hc
   refine ⟨(d',(cv,pv)),hp,?_,?_,?_⟩
   ·have:=hcell 0 (by omega); simpa [Addr.add] using this
   ·have:=hcell 1 (by omega)
    rw [add_add] at this
    simpa using this
   ·have:=hcell 2 (by omega)
    rw [add_add] at this
    simpa using this
  obtain ⟨f,hf2⟩:∃ f:Nat → Dlg × (Value × Value),∀ i,i < len0 → (R64 (f i).1.dealer ∧ Ints W (f i).2.1 (f i).1.cs ∧ Parcels W (f i).2.2 (f i).1.ps) ∧ W.cell? (a.add (i * 3)) = some (.int .i64 (f i).1.dealer) ∧ W.cell? (a.add (i * 3 + 1)) = some (f i).2.1 ∧ W.cell? (a.add (i * 3 + 2)) = some (f i).2.2:=
   ⟨fun i => if hi:i < len0 then (hrow i hi).choose else (⟨0,[],[]⟩,(.slice none 0 0,.slice none 0 0)),fun i hi => by simp only [dif_pos hi]; exact (hrow i hi).choose_spec⟩
  refine ⟨(List.range len0).map fun i => (f i).1,fun i => (f i).2,some a,cap0,by simp,by simp [hle],by simp; omega,fun k hk => ?_⟩
  simp at hk
  obtain ⟨b,o,sp⟩:=a
  have hsp2:sp = none:=by
   have h0:=World.cell?_spot (hf2 0 (by omega)).2.1
   simpa [Addr.add] using h0
  subst hsp2
  obtain ⟨hp,h1,h2,h3⟩:=hf2 k hk
  have hg:((List.range len0).map fun i => (f i).1)[k]'(by simpa using hk) = (f k).1:=by simp
  refine ⟨b,o,rfl,?_⟩
  rw [hg]
  refine ⟨?_,?_,?_,hp.1,hp.2.1,hp.2.2⟩
  ·rw [← add_plain]; exact h1
  ·rw [Nat.add_assoc,← add_plain]; exact h2
  ·rw [Nat.add_assoc,← add_plain]; exact h3
end
end Go.Proofs.YtggnipkfliompaaGreatDoor
