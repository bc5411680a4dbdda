/- Package keygen: Deal. -/
import Derived.Test.YtggnipkfliompaaGreatDoorMKgA
import Derived.Test.YtggnipkfliompaaGreatDoorMKgI
import Derived.Test.YtggnipkfliompaaGreatDoorMRegF
set_option maxHeartbeats 16000000
set_option maxRecDepth 100000
namespace Go.Proofs.YtggnipkfliompaaGreatDoor
open Go.RowKit FP
theorem step_app_parcel {ops:Array Oper} {o:Oper} {a:Act} {K:Act → World → Prop} {Q:Exit → Act → World → Prop} {E:Prop} {W:World} (hgd:o.guard = none) (s x:Operand) (ho:o.op = .call { callee:=.builtin .append,args:=#[s,x],argTypes:=#[26,26] })
  (base:Nat) (v:Value) (l:List Pcl) (n:Nat) (hs:a.eval s = v) (hown:W.ownsRow base 49 3 v n (l.flatMap parC)) (b c:Nat) (z:Pcl) (hx:a.eval x = .slice (some ⟨b,0,none⟩) 1 c) (hcell:∀ j u,(parC z)[j]? = some u → W.cell? ⟨b,j,none⟩ = some u) (hn:n ≤ 1000000) (hbase:base ≤ W.heap.size)
  (h:∀ g cap w',w'.ownsRow base 49 3 (.slice (some ⟨g,0,none⟩) (n + 1) cap) (n + 1) ((l ++ [z]).flatMap parC) → Onto W v w' (.slice (some ⟨g,0,none⟩) (n + 1) cap) → K (a.put o.dst (.slice (some ⟨g,0,none⟩) (n + 1) cap)) w') :
  if Region.wanted o (yielded ops a.tmps) = true then Oper.wp Tryz.prog o a W K Q else E:=by
 obtain ⟨i,hi,hzz⟩:=Option.map_eq_some_iff.1 infoPar
 simp only [Prod.mk.injEq] at hzz
 obtain ⟨hz,hs1,hb⟩:=hzz
 obtain ⟨zv,hzv,hzs⟩:=Option.map_eq_some_iff.1 hz
 refine step_append_lies _ hgd s x 26 ho base 49 i zv 3 24 Tryz.underlying26 hi hzv hs1 hb hzs (by decide) v n (l.flatMap parC) hs hown ⟨b,0,none⟩ 1 c (parC z) hx rfl ?_ ?_ (by decide) ?_ ?_ hbase W.heap.size rfl ?_
 ·intro j u hu
  rw [add_row]; exact hcell j u hu
 ·intro u hu
  simp only [parC,List.mem_cons,List.not_mem_nil,or_false] at hu
  rcases hu with rfl | rfl | rfl <;> rfl
 ·unfold maxLen; omega
 ·omega
 ·intro g cap w' h1 h2 h3 _
  refine h g cap w' (by rw [pflat_snoc]; exact h1) ⟨h2,?_⟩
  rcases h3 with h3 | h3
  ·exact .inl (h3 ▸ rfl)
  ·exact .inr ⟨g,rfl,by omega⟩
theorem app_parcel_wp {o:Oper} {a:Act} {K:Act → World → Prop} {Q:Exit → Act → World → Prop} {W:World} (hgd:o.guard = none) (s x:Nat) (ho:o.op = .call { callee:=.builtin .append,args:=#[.tmp s,.tmp x],argTypes:=#[26,26] })
  (base:Nat) (v:Value) (l:List Pcl) (n:Nat) (hs:a.tmps[s]?.getD undef = v) (hown:W.ownsRow base 49 3 v n (l.flatMap parC)) (b c:Nat) (z:Pcl) (hx:a.tmps[x]?.getD undef = .slice (some ⟨b,0,none⟩) 1 c) (hcell:∀ j u,(parC z)[j]? = some u → W.cell? ⟨b,j,none⟩ = some u) (hn:n ≤ 1000000) (hbase:base ≤ W.heap.size)
  (h:∀ g cap w',w'.ownsRow base 49 3 (.slice (some ⟨g,0,none⟩) (n + 1) cap) (n + 1) ((l ++ [z]).flatMap parC) → Onto W v w' (.slice (some ⟨g,0,none⟩) (n + 1) cap) → K (a.put o.dst (.slice (some ⟨g,0,none⟩) (n + 1) cap)) w') :
  Oper.wp Tryz.prog o a W K Q:=by
 have h1:=step_app_parcel (ops:=#[]) (E:=False) (Q:=Q) hgd (.tmp s) (.tmp x) ho base v l n (by rw [← hs]; exact Array.getD_eq_getD_getElem?) hown b c z (by rw [← hx]; exact Array.getD_eq_getD_getElem?) hcell hn hbase h
 rw [if_pos (by unfold Region.wanted; rw [hgd])] at h1
 exact h1
def ParBox (w:World) (v:Value) (z:Pcl):Prop:=∃ b c,v = .slice (some ⟨b,0,none⟩) 1 c ∧ ∀ j u,(parC z)[j]? = some u → w.cell? ⟨b,j,none⟩ = some u
theorem ParBox.below {w w':World} {v:Value} {z:Pcl} (h:ParBox w v z) (hb:Below w.heap.size w w'):ParBox w' v z:=by
 obtain ⟨b,c,e,hc⟩:=h
 exact ⟨b,c,e,fun j u hj => below_cell hb (hc j u hj)⟩
theorem ParBox.new (W:World) (z:Pcl):ParBox (W.alloc (.cells #[.int .i64 z.1,.int .i64 z.2.1,.int .i64 z.2.2] 49)) (.slice (some ⟨W.heap.size,0,none⟩) 1 1) z:=
 ⟨W.heap.size,1,rfl,fun j u hj => row_cell (World.alloc_heap_new _ _) (by
  match j with
  | 0 | 1 | 2 => exact hj
  | n + 3 => simp [parC] at hj)⟩
structure AppP (bb:Nat) (dl:Int) (cv L:Value) (k:Nat) (xs:List Pcl) (z:Pcl) (d8 d10:Bool) (v8:Value) (W:World):Prop where
 row:W.heap[bb]? = some (.cells #[.int .i64 dl,cv,if d10 = true then v8 else L] 28 (0,0))
 own0:d8 = false → W.ownsRow (bb + 1) 49 3 L k (xs.flatMap parC)
 own1:d8 = true → W.ownsRow (bb + 1) 49 3 v8 (k + 1) ((xs ++ [z]).flatMap parC)
 val:d8 = true → ∃ g cap,v8 = .slice (some ⟨g,0,none⟩) (k + 1) cap
 big:bb < W.heap.size
section
variable {bb k:Nat} {dl:Int} {cv L v8:Value} {xs:List Pcl} {z:Pcl} {d8 d10:Bool} {W W':World}
theorem AppP.below (h:AppP bb dl cv L k xs z d8 d10 v8 W) (hb:Below W.heap.size W W'):AppP bb dl cv L k xs z d8 d10 v8 W':=
 ⟨(hb.block _ h.big).trans h.row,fun e => own_keep (h.own0 e) hb,fun e => own_keep (h.own1 e) hb,h.val,Nat.lt_of_lt_of_le h.big hb.size⟩
theorem AppP.cell (h:AppP bb dl cv L k xs z d8 d10 v8 W) (e:d10 = false):W.cell? ⟨bb,2,none⟩ = some L:=row_cell h.row (by rw [e]; rfl)
theorem AppP.app (h:AppP bb dl cv L k xs z d8 d10 v8 W) (e:d8 = false) (e2:d10 = false) {g cap:Nat} (h8:W'.ownsRow (bb + 1) 49 3 (.slice (some ⟨g,0,none⟩) (k + 1) cap) (k + 1) ((xs ++ [z]).flatMap parC)) (o8:Onto W L W' (.slice (some ⟨g,0,none⟩) (k + 1) cap)) :
  AppP bb dl cv L k xs z true d10 (.slice (some ⟨g,0,none⟩) (k + 1) cap) W':=by
 have h1:=h.row
 rw [e2] at h1
 refine ⟨?_,(fun e => by cases e),fun _ => h8,fun _ => ⟨_,_,rfl⟩,Nat.lt_of_lt_of_le h.big o8.1.size⟩
 rw [e2]
 exact (o8.1.block _ h.big (fun e3 => own_ne (h.own0 e) (b:=bb) (.inr (Nat.lt_succ_self _)) e3.symm)).trans h1
theorem AppP.store (h:AppP bb dl cv L k xs z d8 d10 v8 W) (e:d8 = true) (e2:d10 = false):AppP bb dl cv L k xs z d8 true v8 (W.setCell ⟨bb,2,none⟩ v8):=by
 have h1:=h.row
 rw [e2] at h1
 refine ⟨row_set h1 2 v8,(fun e3 => by rw [e] at e3; cases e3),fun _ => own_keep_set (h.own1 e) (Nat.lt_succ_self _) _,h.val,by simpa using h.big⟩
end
def KdI (w0:World) (dl:Int) (cv:Value) (ps:List Pcl) (k:Nat) (W:World):Prop:=∃ L,W.heap[w0.heap.size]? = some (.cells #[.int .i64 dl,cv,L] 28 (0,0)) ∧
 W.ownsRow (w0.heap.size + 1) 49 3 L k (ps.flatMap parC) ∧ Below w0.heap.size w0 W
theorem dlgV_none (W:World):DlgV W (.agg #[.int .i64 0,.slice none 0 0,.slice none 0 0]) ⟨0,[],[]⟩:=
 ⟨_,_,rfl,R64.mk (by decide) (by decide),Ints.nil _ _ _,Parcels.nil _ _ _⟩
theorem err_end {n0 E D:Nat} {w W:World} {x:Value} {T TD:TypeId} {c:Array Value} (hb:Below n0 w W) (hE:n0 ≤ E) (q:W.heap[E]? = some (.cells #[x] T (0,0))) (qD:W.heap[D]? = some (.cells c TD (0,0))) (hne:D ≠ E) (e:Int) :
  ∃ Wf,Wf = W.setCell ⟨E,0,none⟩ (.int .i64 e) ∧ Below n0 w Wf ∧ Wf.heap[D]? = some (.cells c TD (0,0)) ∧ Wf.cell? ⟨E,0,none⟩ = some (.int .i64 e):=
 ⟨_,rfl,hb.setCell hE _,(Below.heap_setCell _ _ _ _ hne).trans qD,row_cell (row_set q 0 (.int .i64 e)) rfl⟩
theorem cell_in {W:World} {b o:Nat} {c:Array Value} {t:TypeId} {fz:Nat × Nat} {v:Value} (q:W.heap[b]? = some (.cells c t fz)) (h:W.cell? ⟨b,o,none⟩ = some v):c[o]? = some v:=by
 unfold World.cell? at h
 simp only [q] at h
 simpa using h
theorem ints_not {W:World} {v:Value} {l:List Int} (h:Ints W v l) (hl:∀ z ∈ l,z ≠ 0) {E:Nat} {cs:Array Value} {T:TypeId} {fz:Nat × Nat} (q:W.heap[E]? = some (.cells cs T fz)) (h0:∀ (o:Nat) (z:Int),cs[o]? = some (Value.int .i64 z) → z = 0)
  {a:Option Addr} {n c:Nat} (e:v = .slice a n c) {j:Nat} (hj:j < l.length) {b off:Nat} (e2:a = some ⟨b,off,none⟩):b ≠ E:=by
 obtain ⟨a',c',e3,-,-,-,hk⟩:=h
 rw [e] at e3
 simp only [Value.slice.injEq] at e3
 obtain ⟨rfl,-,-⟩:=e3
 obtain ⟨b',off',e4,hc⟩:=hk j hj
 rw [e2] at e4
 simp only [Option.some.injEq,Addr.mk.injEq] at e4
 obtain ⟨rfl,rfl,-⟩:=e4
 intro hb
 subst hb
 exact hl _ (List.getElem_mem hj) (h0 _ _ (cell_in q hc))
theorem one_zero (o:Nat) (z:Int) (h:(#[.int .i64 0]:Array Value)[o]? = some (.int .i64 z)):z = 0:=by
 match o with
 | 0 => simp at h; omega
 | n + 1 => simp at h
theorem three_zero (o:Nat) (z:Int) (h:(#[.int .i64 0,.slice none 0 0,.slice none 0 0]:Array Value)[o]? = some (.int .i64 z)):z = 0:=by
 match o with
 | 0 => simp at h; omega
 | 1 => simp at h
 | 2 => simp at h
 | n + 3 => simp at h
theorem dealC_pos (s:List Int):∀ z ∈ dealC s,z ≠ 0:=fun z hz => by
 obtain ⟨y,-,rfl⟩:=List.mem_map.1 hz
 have:=(el_powE el_four y).lo
 omega
theorem kdealing_wrap (z:Int) (hz:R64 z):belowB (IntKind.i64.wrap (z - 1)) 1073741788 = inB z 1 1073741788:=by
 by_cases h:z = -9223372036854775808
 ·subst h; decide
 ·rw [IntWalk.i64_in _ (by have:=hz.1; have:=hz.2; omega)]
  unfold belowB inB
  have e1:decide (0 ≤ z - 1) = decide (1 ≤ z):=decide_eq_decide.2 (by omega)
  have e2:decide (z - 1 < 1073741788) = decide (z ≤ 1073741788):=decide_eq_decide.2 (by omega)
  rw [e1,e2]
theorem koddU_any (z:Int) (w:World) (hz:R64 z):Calls Tryz.prog 92 #[.int .i64 z] w fun r w' => r = .returned (.bool (oddU z)) ∧ w = w':=by
 have H:=Lib.hid (show oddU z = !belowB (IntKind.i64.wrap (z - 1)) 1073741788 by rw [kdealing_wrap z hz]; rfl)
 clear hz
 obtain ⟨y,hy⟩:∃ y,IntKind.i64.wrap (z - 1) = y:=⟨_,rfl⟩
 rw [hy] at H
 go_enter Tryz.func92,Tryz.ntmps92
 go_wp2_with fail
 with_reducible refine (kbelow_any y 1073741788 _).mono ?_
 rintro r w1 ⟨rfl,rfl⟩
 go_wp2_with fail
 go_ret
 exact ⟨ret_bool H.out.symm,rfl⟩
theorem koddU_tests (w:World) (zs:List Int) (hr:∀ z ∈ zs,R64 z):Tests 92 #[] w oddU zs:=
 fun z hz w' _ => (koddU_any z w' (hr z hz)).mono fun _ _ ⟨h,e⟩ => ⟨h,e ▸ Below.refl _ _⟩
theorem koddU_goes:Goes Tryz.prog 92:=goes_of Tryz.func92 (by kernel_rfl) rfl
structure FKd13 (w0:World) (bb:Nat) (pb:Nat) (sb:Nat) (ub:Nat) (uo:Nat) (nu:Nat) (k5:Nat) (ob:Nat) (oo:Nat) (no:Nat) (k2:Nat) (kb:Nat) (ko:Nat) (nk:Nat) (k6:Nat) (k:Nat) (m:Nat) (dealer:Int) (u:Int) (key:Int) (vv:Int) (pt:Int) (ci:Int) (cv:Value) (L:Value) (xs:List Pcl) (done:Nat → Bool) (v:Nat → Value) (w:World):Prop where
 b:Below bb w0 w
 f0:done 0 = true → v 0 = .pointer (some ⟨bb,2,none⟩)
 f1:done 1 = true → v 1 = L
 f2:done 2 = true → v 2 = .slice (some ⟨ub,uo,none⟩) nu k5
 f3:done 3 = true → v 3 = .int .i64 (k:Int)
 f4:done 4 = true → v 4 = .pointer (some ⟨ub,uo + k,none⟩)
 f5:done 5 = true → v 5 = .int .i64 u
 f6:done 6 = true → v 6 = .slice (some ⟨kb,ko,none⟩) nk k6
 f7:done 7 = true → v 7 = .pointer (some ⟨pb,1,none⟩)
 f8:done 8 = true → v 8 = .slice (some ⟨ob,oo,none⟩) no k2
 f9:done 9 = true → v 9 = .int .i64 (k:Int)
 f10:done 10 = true → v 10 = .pointer (some ⟨ob,oo + k,none⟩)
 f11:done 11 = true → v 11 = .int .i64 (m:Int)
 f12:done 12 = true → v 12 = .pointer (some ⟨kb,ko + m,none⟩)
 f13:done 13 = true → v 13 = .int .i64 key
 f14:done 14 = true → v 14 = .int .i64 dealer
 f15:done 15 = true → v 15 = .int .i64 (k:Int)
 f16:done 16 = true → v 16 = .pointer (some ⟨sb,1,none⟩)
 f17:done 17 = true → v 17 = .int .i64 vv
 f18:done 18 = true → v 18 = .tuple #[.agg #[.int .i64 (k:Int),.int .i64 pt,.int .i64 ci],.int .i64 0]
 f19:done 19 = true → v 19 = .agg #[.int .i64 (k:Int),.int .i64 pt,.int .i64 ci]
 f20:done 20 = true → v 20 = .int .i64 0
 f21:done 21 = true → v 21 = .agg #[.int .i64 (k:Int),.int .i64 pt,.int .i64 ci]
 f22:done 22 = true → done 23 = false → ParBox w (v 22) ((k:Int),pt,ci)
 f24:done 24 = true → v 24 = .pointer (some ⟨bb,2,none⟩)
 bx:AppP bb dealer cv L k xs ((k:Int),pt,ci) (done 23) (done 25) (v 23) w
 zc:done 23 = false → (w.cell? ⟨ub,uo + k,none⟩ = some (.int .i64 u) ∧ w.cell? ⟨pb,1,none⟩ = some (.slice (some ⟨ob,oo,none⟩) no k2) ∧ w.cell? ⟨ob,oo + k,none⟩ = some (.int .i64 (m:Int)) ∧ w.cell? ⟨kb,ko + m,none⟩ = some (.int .i64 key) ∧ w.cell? ⟨sb,1,none⟩ = some (.int .i64 vv))
def KdPost (E:Int) (D:Dlg) (w:World) (e:Ending) (w':World):Prop:=∃ v,e = .returned (.tuple #[v,.int .i64 E]) ∧ DlgV w' v D ∧ Below w.heap.size w w'
def DlgT (w:World) (v:Value):Prop:=∃ d cv pv,v = .agg #[d,cv,pv] ∧ RowT w 3 cv ∧ RowT w 49 pv
def KdPostT (E:Int) (D:Dlg) (w:World) (e:Ending) (w':World):Prop:=∃ v,e = .returned (.tuple #[v,.int .i64 E]) ∧ DlgV w' v D ∧ Below w.heap.size w w' ∧ (E = 0 → DlgT w' v)
theorem row_setG {W:World} {b:Nat} {L:Array Value} {t:TypeId} {fz:Nat × Nat} (h:W.heap[b]? = some (.cells L t fz)) (k:Nat) (v:Value):∃ L2,(W.setCell ⟨b,k,none⟩ v).heap[b]? = some (.cells L2 t fz):=by
 have hlt:=row_lt h
 have h':W.heap[b] = .cells L t fz:=(Array.getElem?_eq_some_iff.1 h).2
 refine ⟨L.setIfInBounds k v,?_⟩
 show (W.heap.modify b _)[b]? = _
 rw [Array.getElem?_eq_getElem (by simpa using hlt),Array.getElem_modify_self,h']
 rfl
theorem RowT.set {W:World} {t:TypeId} {v:Value} (h:RowT W t v) (b o:Nat) (x:Value):RowT (W.setCell ⟨b,o,none⟩ x) t v:=fun k e => by
 obtain ⟨cs,fz,h1⟩:=h k e
 by_cases hk:k = b
 ·subst hk
  obtain ⟨L2,h2⟩:=row_setG h1 o x
  exact ⟨_,_,h2⟩
 ·exact ⟨cs,fz,(Below.heap_setCell _ _ _ _ hk).trans h1⟩
theorem kDealT_any (rv ov kv mv uv:Value) (rows:List (List Int)) (owners keys:List Int) (dealer x:Int) (rnd us:List Int) (w:World) (hG:Glob w) (hR:Rows2 w rv rows) (hO:Ints w ov owners) (hK:Ints w kv keys) (hd:R64 dealer) (hx:R64 x) (hM:Ints w mv rnd) (hU:Ints w uv us) :
  Calls Tryz.prog 26 #[.agg #[rv,ov],kv,.int .i64 dealer,.int .i64 x,mv,uv] w (KdPostT (kdE rows owners keys dealer x rnd us) (kdD rows owners keys dealer x rnd us) w):=by
 obtain ⟨W0,hW0,hb0,hr0,-⟩:=box_prog w rv ov 25
 have hs0:W0.heap.size = w.heap.size + 1:=by rw [hW0]; simp
 obtain ⟨W1,hW1,hb1,hr1,hs1⟩:=box36 W0 (.int .i64 0) (.slice none 0 0) (.slice none 0 0) 28
 obtain ⟨W3,hW3⟩:∃ W,W = W1.alloc (.cells #[.int .i64 0] 35):=⟨_,rfl⟩
 have hb3:Below W1.heap.size W1 W3:=by rw [hW3]; exact below_new _ _ _
 have hr3:W3.heap[W1.heap.size]? = some (.cells #[.int .i64 0] 35 (0,0)):=by rw [hW3]; exact World.alloc_heap_new _ _
 have h01:=hb0.trans (hb1.mono hb0.size)
 have hb:Below w.heap.size w W3:=h01.trans (hb3.mono h01.size)
 have e2:W1.heap.size = w.heap.size + 1 + 1:=by omega
 rw [hs0] at hr1
 rw [e2] at hr3
 have Q1:=Lib.hid ((hb1.trans (hb3.mono hb1.size)).block _ (row_lt hr0) |>.trans hr0)
 have QD:=Lib.hid (hb3.block _ (row_lt hr1) |>.trans hr1)
 have QE:=Lib.hid hr3
 have HG:=Lib.hid (hG.below hb)
 have HR:=Lib.hid (hR.below hb)
 have HO:=Lib.hid (hO.below hb)
 have HK:=Lib.hid (hK.below hb)
 have HM:=Lib.hid (hM.below hb)
 have HU:=Lib.hid (hU.below hb)
 obtain ⟨a1,k1,rfl,-,hl1,-⟩:=id hR
 obtain ⟨a2,k2,rfl,-,hl2,-⟩:=id hO
 obtain ⟨a3,k6,rfl,-,hl3,hr3k,-⟩:=id hK
 obtain ⟨a4,k4,rfl,-,hl4,-⟩:=id hM
 obtain ⟨a5,k5,rfl,-,hl5,hr5,-⟩:=id hU
 rw [hW1,hW0] at hW3
 have HW:=Lib.hid hW3
 have HB:=Lib.hid hb
 have HN:=Lib.hid (And.intro hd (And.intro hx (And.intro hr5 hr3k)))
 have c0:=row_cell Q1.out (k:=0) (v:=.slice a1 rows.length k1) rfl
 have c1:=row_cell Q1.out (k:=1) (v:=.slice a2 owners.length k2) rfl
 clear hG hR hO hK hM hU hb hb0 hb1 hb3 h01 hr0 hr1 hr3 hW0 hW1 hW3 hs0 hs1 e2 hd hx hr5 hr3k
 have hmf:∀ (fn:Fn) (first cap:Array Value) (w:World),(Instr.makeFunc fn first cap).run Tryz.prog w = .ok (.func fn first cap) w:=fun _ _ _ _ => rfl
 obtain ⟨ME,hME⟩:∃ z,z = kdE rows owners keys dealer x rnd us:=⟨_,rfl⟩
 obtain ⟨MD,hMD⟩:∃ z,z = kdD rows owners keys dealer x rnd us:=⟨_,rfl⟩
 rw [← hME,← hMD]
 have HE:Hid (ME = kdE rows owners keys dealer x rnd us):=Lib.hid hME
 have HMD:Hid (MD = if ME = 0 then ⟨dealer,dealC (x :: rnd),sealL rows owners keys dealer us (x :: rnd) rows.length⟩ else ⟨0,[],[]⟩):=Lib.hid (by rw [hMD,hME]; rfl)
 have HOFF:Hid (∀ q,ME = q → q ≠ 0 → MD = ⟨0,[],[]⟩):=Lib.hid (fun q h hq => by rw [HMD.out,if_neg (by rw [h]; exact hq)])
 clear hME hMD
 unfold kdE at HE
 go_enter_defers Tryz.func26,Tryz.ntmps26
 go_wp2_with (rw [← HW.out])
 clear HW
 with_reducible refine (pCheck_any _ _ rows owners _ HR.out HO.out).mono ?_
 rintro e w4 ⟨rfl,hb4⟩
 replace c0:=below_cell hb4 c0
 replace c1:=below_cell hb4 c1
 replace HG:=Lib.hid (HG.out.below hb4)
 replace HR:=Lib.hid (HR.out.below hb4)
 replace HO:=Lib.hid (HO.out.below hb4)
 replace HK:=Lib.hid (HK.out.below hb4)
 replace HM:=Lib.hid (HM.out.below hb4)
 replace HU:=Lib.hid (HU.out.below hb4)
 replace Q1:=Lib.hid ((hb4.block _ (row_lt Q1.out)).trans Q1.out)
 replace QD:=Lib.hid ((hb4.block _ (row_lt QD.out)).trans QD.out)
 replace QE:=Lib.hid ((hb4.block _ (row_lt QE.out)).trans QE.out)
 replace HB:=Lib.hid (HB.out.trans (hb4.mono HB.out.size))
 clear hb4
 by_cases hp:progE rows owners = 0
 rotate_left
 ·have HV:=Lib.hid (HE.out.trans (if_pos hp))
  have HNZ:=Lib.hid hp
  clear hp HE
  generalize progE rows owners = q at *
  go_wp2_with fail
  with_reducible refine (kmust_bad 0 q _ HNZ.out).mono ?_
  rintro e w5 ⟨rfl,rfl⟩
  refine leaves_cons (f:=85) (args:=#[.pointer (some ⟨w.heap.size + 1 + 1,0,none⟩)]) (by simp) (by simp [go_sem]) ?_
  refine (caughtK_panicking ⟨w.heap.size + 1 + 1,0,none⟩ 0 q [] _ (row_cell QE.out rfl) (row_free QE.out 0)).mono ?_
  rintro e u' w'' ⟨rfl,rfl,rfl⟩
  obtain ⟨Wf,hWf,hbf,hqf,hxf⟩:=err_end HB.out (show w.heap.size ≤ w.heap.size + 1 + 1 by omega) QE.out QD.out (show w.heap.size + 1 ≠ w.heap.size + 1 + 1 by omega) q
  have y0:=row_cell hqf (k:=0) (v:=.int .i64 0) rfl
  have y1:=row_cell hqf (k:=1) (v:=.slice none 0 0) rfl
  have y2:=row_cell hqf (k:=2) (v:=.slice none 0 0) rfl
  rw [← hWf]
  simp [Leaves,settle,results,Tryz.results26,go_sem,hxf,y0,y1,y2]
  exact ⟨_,by rw [HV.out],by rw [HOFF.out _ HV.out HNZ.out]; exact dlgV_none _,hbf,fun h0 => absurd (HV.out.symm.trans h0) HNZ.out⟩
 replace HE:=Lib.hid (HE.out.trans (if_neg (by simp [hp])))
 have HPO:=Lib.hid (progE_ok hp)
 have HP0:=Lib.hid hp
 rw [hp]
 clear hp
 go_wp2_with fail
 with_reducible refine (kmust_ok 0 _).mono ?_
 rintro e w5 ⟨rfl,rfl⟩
 go_wp2_with fail
 with_reducible refine (isKeys_any _ _ _ owners keys _ ⟨_,_,_,rfl⟩ HO.out HK.out (fun o h => (HPO.out.own o h).1)).mono ?_
 rintro e w5 ⟨rfl,hb5⟩
 replace c0:=below_cell hb5 c0
 replace c1:=below_cell hb5 c1
 replace HG:=Lib.hid (HG.out.below hb5)
 replace HR:=Lib.hid (HR.out.below hb5)
 replace HO:=Lib.hid (HO.out.below hb5)
 replace HK:=Lib.hid (HK.out.below hb5)
 replace HM:=Lib.hid (HM.out.below hb5)
 replace HU:=Lib.hid (HU.out.below hb5)
 replace Q1:=Lib.hid ((hb5.block _ (row_lt Q1.out)).trans Q1.out)
 replace QD:=Lib.hid ((hb5.block _ (row_lt QD.out)).trans QD.out)
 replace QE:=Lib.hid ((hb5.block _ (row_lt QE.out)).trans QE.out)
 replace HB:=Lib.hid (HB.out.trans (hb5.mono HB.out.size))
 clear hb5
 cases hkb:keysB owners keys with
 | false =>
  have HV:=Lib.hid (HE.out.trans (if_pos hkb))
  clear hkb HE
  go_wp2_with fail
  with_reducible refine (kneed_bad 370 _ (by decide)).mono ?_
  rintro e w6 ⟨rfl,rfl⟩
  refine leaves_cons (f:=85) (args:=#[.pointer (some ⟨w.heap.size + 1 + 1,0,none⟩)]) (by simp) (by simp [go_sem]) ?_
  refine (caughtK_panicking ⟨w.heap.size + 1 + 1,0,none⟩ 0 370 [] _ (row_cell QE.out rfl) (row_free QE.out 0)).mono ?_
  rintro e u' w'' ⟨rfl,rfl,rfl⟩
  obtain ⟨Wf,hWf,hbf,hqf,hxf⟩:=err_end HB.out (show w.heap.size ≤ w.heap.size + 1 + 1 by omega) QE.out QD.out (show w.heap.size + 1 ≠ w.heap.size + 1 + 1 by omega) 370
  have y0:=row_cell hqf (k:=0) (v:=.int .i64 0) rfl
  have y1:=row_cell hqf (k:=1) (v:=.slice none 0 0) rfl
  have y2:=row_cell hqf (k:=2) (v:=.slice none 0 0) rfl
  rw [← hWf]
  simp [Leaves,settle,results,Tryz.results26,go_sem,hxf,y0,y1,y2]
  exact ⟨_,by rw [HV.out],by rw [HOFF.out _ HV.out (by decide)]; exact dlgV_none _,hbf,fun h0 => absurd (HV.out.symm.trans h0) (by decide)⟩
 | true =>
 replace HE:=Lib.hid (HE.out.trans (if_neg (by rw [hkb]; decide)))
 have HKO:=Lib.hid (keysB_iff.1 hkb)
 clear hkb
 go_wp2_with fail
 with_reducible refine (kneed_ok 370 _).mono ?_
 rintro e w6 ⟨rfl,rfl⟩
 have HBL:=Lib.hid (fun w => kbelow_any dealer 64 w)
 rw [show belowB dealer 64 = inB dealer 0 63 by have:=below_in (n:=dealer) (lim:=63); simpa using this] at HBL
 go_wp2_with fail
 with_reducible refine (HBL.out _).mono ?_
 rintro e w6 ⟨rfl,rfl⟩
 clear HBL
 cases hdb:inB dealer 0 63 with
 | false =>
  have HV:=Lib.hid (HE.out.trans (if_pos hdb))
  clear hdb HE
  go_wp2_with fail
  with_reducible refine (kneed_bad 1 _ (by decide)).mono ?_
  rintro e w6 ⟨rfl,rfl⟩
  refine leaves_cons (f:=85) (args:=#[.pointer (some ⟨w.heap.size + 1 + 1,0,none⟩)]) (by simp) (by simp [go_sem]) ?_
  refine (caughtK_panicking ⟨w.heap.size + 1 + 1,0,none⟩ 0 1 [] _ (row_cell QE.out rfl) (row_free QE.out 0)).mono ?_
  rintro e u' w'' ⟨rfl,rfl,rfl⟩
  obtain ⟨Wf,hWf,hbf,hqf,hxf⟩:=err_end HB.out (show w.heap.size ≤ w.heap.size + 1 + 1 by omega) QE.out QD.out (show w.heap.size + 1 ≠ w.heap.size + 1 + 1 by omega) 1
  have y0:=row_cell hqf (k:=0) (v:=.int .i64 0) rfl
  have y1:=row_cell hqf (k:=1) (v:=.slice none 0 0) rfl
  have y2:=row_cell hqf (k:=2) (v:=.slice none 0 0) rfl
  rw [← hWf]
  simp [Leaves,settle,results,Tryz.results26,go_sem,hxf,y0,y1,y2]
  exact ⟨_,by rw [HV.out],by rw [HOFF.out _ HV.out (by decide)]; exact dlgV_none _,hbf,fun h0 => absurd (HV.out.symm.trans h0) (by decide)⟩
 | true =>
 replace HE:=Lib.hid (HE.out.trans (if_neg (by rw [hdb]; decide)))
 have HDL:=Lib.hid (inB_iff.1 hdb)
 clear hdb
 go_wp2_with fail
 with_reducible refine (kneed_ok 1 _).mono ?_
 rintro e w6 ⟨rfl,rfl⟩
 go_wp2_with fail
 by_cases hde:dealE rows owners x rnd = 0
 rotate_left
 ·have HV:=Lib.hid (HE.out.trans (if_pos hde))
  have HNZ:=Lib.hid hde
  with_reducible refine (deal_no _ _ _ rows owners x rnd _ HR.out HO.out HM.out HN.out.2.1 HNZ.out).mono ?_
  rintro e w6 ⟨rfl,hb6⟩
  replace c0:=below_cell hb6 c0
  replace c1:=below_cell hb6 c1
  replace HG:=Lib.hid (HG.out.below hb6)
  replace HR:=Lib.hid (HR.out.below hb6)
  replace HO:=Lib.hid (HO.out.below hb6)
  replace HK:=Lib.hid (HK.out.below hb6)
  replace HM:=Lib.hid (HM.out.below hb6)
  replace HU:=Lib.hid (HU.out.below hb6)
  replace Q1:=Lib.hid ((hb6.block _ (row_lt Q1.out)).trans Q1.out)
  replace QD:=Lib.hid ((hb6.block _ (row_lt QD.out)).trans QD.out)
  replace QE:=Lib.hid ((hb6.block _ (row_lt QE.out)).trans QE.out)
  replace HB:=Lib.hid (HB.out.trans (hb6.mono HB.out.size))
  clear hb6
  clear hde HE
  generalize dealE rows owners x rnd = q at *
  go_wp2_with fail
  with_reducible refine (kmust_bad 0 q _ HNZ.out).mono ?_
  rintro e w7 ⟨rfl,rfl⟩
  refine leaves_cons (f:=85) (args:=#[.pointer (some ⟨w.heap.size + 1 + 1,0,none⟩)]) (by simp) (by simp [go_sem]) ?_
  refine (caughtK_panicking ⟨w.heap.size + 1 + 1,0,none⟩ 0 q [] _ (row_cell QE.out rfl) (row_free QE.out 0)).mono ?_
  rintro e u' w'' ⟨rfl,rfl,rfl⟩
  obtain ⟨Wf,hWf,hbf,hqf,hxf⟩:=err_end HB.out (show w.heap.size ≤ w.heap.size + 1 + 1 by omega) QE.out QD.out (show w.heap.size + 1 ≠ w.heap.size + 1 + 1 by omega) q
  have y0:=row_cell hqf (k:=0) (v:=.int .i64 0) rfl
  have y1:=row_cell hqf (k:=1) (v:=.slice none 0 0) rfl
  have y2:=row_cell hqf (k:=2) (v:=.slice none 0 0) rfl
  rw [← hWf]
  simp [Leaves,settle,results,Tryz.results26,go_sem,hxf,y0,y1,y2]
  exact ⟨_,by rw [HV.out],by rw [HOFF.out _ HV.out HNZ.out]; exact dlgV_none _,hbf,fun h0 => absurd (HV.out.symm.trans h0) HNZ.out⟩
 replace HE:=Lib.hid (HE.out.trans (if_neg (by simp [hde])))
 have HDK:=Lib.hid (dealE_ok hde)
 clear hde
 with_reducible refine (deal_typed _ _ _ rows owners x rnd _ HR.out HO.out HM.out HDK.out HP0.out).mono ?_
 rintro e w6 ⟨lv,cv,rfl,⟨hsl,-⟩,⟨hcs,hct⟩,hb6⟩
 replace c0:=below_cell hb6 c0
 replace c1:=below_cell hb6 c1
 replace HG:=Lib.hid (HG.out.below hb6)
 replace HR:=Lib.hid (HR.out.below hb6)
 replace HO:=Lib.hid (HO.out.below hb6)
 replace HK:=Lib.hid (HK.out.below hb6)
 replace HM:=Lib.hid (HM.out.below hb6)
 replace HU:=Lib.hid (HU.out.below hb6)
 replace Q1:=Lib.hid ((hb6.block _ (row_lt Q1.out)).trans Q1.out)
 replace QD:=Lib.hid ((hb6.block _ (row_lt QD.out)).trans QD.out)
 replace QE:=Lib.hid ((hb6.block _ (row_lt QE.out)).trans QE.out)
 replace HB:=Lib.hid (HB.out.trans (hb6.mono HB.out.size))
 clear hb6
 obtain ⟨al,cl,rfl,hSL⟩:∃ al cl,lv = .slice al rows.length cl ∧ Shares w6 (.slice al rows.length cl) (dealL rows (x :: rnd)):=by
  obtain ⟨al,cl,e1,-⟩:=id hsl
  rw [dealL_len] at e1
  exact ⟨al,cl,e1,by rw [← e1]; exact hsl⟩
 have HSL:=Lib.hid hSL
 have HCS:=Lib.hid hcs
 obtain ⟨ac,nc,cc,rfl⟩:∃ a n c,cv = .slice a n c:=by
  obtain ⟨a,c,e1,-⟩:=id hcs
  exact ⟨_,_,_,e1⟩
 have HCT:=Lib.hid hct
 clear hsl hSL hcs hct
 obtain ⟨s,hs⟩:∃ s,s = x :: rnd:=⟨_,rfl⟩
 rw [← hs] at HSL HCS HMD
 clear hs
 go_wp2_with fail
 with_reducible refine (kmust_ok 0 _).mono ?_
 rintro e w7 ⟨rfl,rfl⟩
 by_cases hul:us.length = rows.length
 rotate_left
 ·have HV:=Lib.hid (HE.out.trans (if_pos (.inl hul)))
  have x1:((us.length:Int) == (rows.length:Int)) = false:=beq_eq_false_iff_ne.2 (by omega)
  have x2:(us.length == rows.length) = false:=beq_eq_false_iff_ne.2 hul
  clear hul HE
  go_wp2_with fail
  with_reducible refine (kneed_bad 1 _ (by decide)).mono ?_
  rintro e w7 ⟨rfl,rfl⟩
  refine leaves_cons (f:=85) (args:=#[.pointer (some ⟨w.heap.size + 1 + 1,0,none⟩)]) (by simp) (by simp [go_sem]) ?_
  refine (caughtK_panicking ⟨w.heap.size + 1 + 1,0,none⟩ 0 1 [] _ (row_cell QE.out rfl) (row_free QE.out 0)).mono ?_
  rintro e u' w'' ⟨rfl,rfl,rfl⟩
  obtain ⟨Wf,hWf,hbf,hqf,hxf⟩:=err_end HB.out (show w.heap.size ≤ w.heap.size + 1 + 1 by omega) QE.out QD.out (show w.heap.size + 1 ≠ w.heap.size + 1 + 1 by omega) 1
  have y0:=row_cell hqf (k:=0) (v:=.int .i64 0) rfl
  have y1:=row_cell hqf (k:=1) (v:=.slice none 0 0) rfl
  have y2:=row_cell hqf (k:=2) (v:=.slice none 0 0) rfl
  rw [← hWf]
  simp [Leaves,settle,results,Tryz.results26,go_sem,hxf,y0,y1,y2]
  exact ⟨_,by rw [HV.out],by rw [HOFF.out _ HV.out (by decide)]; exact dlgV_none _,hbf,fun h0 => absurd (HV.out.symm.trans h0) (by decide)⟩
 have x1:((us.length:Int) == (rows.length:Int)) = true:=beq_iff_eq.2 (by omega)
 have x2:(us.length == rows.length) = true:=beq_iff_eq.2 hul
 have HUL:=Lib.hid hul
 have HCF:=Lib.hid (containsFunc_any 92 #[] oddU _ us w6 HU.out koddU_goes (koddU_tests _ _ HN.out.2.2.1))
 cases hou:us.any oddU with
 | true =>
  have HV:=Lib.hid (HE.out.trans (if_pos (.inr hou)))
  rw [hou] at HCF
  clear hul hou HE
  go_wp2_with fail
  with_reducible refine HCF.out.mono ?_
  rintro e w7 ⟨rfl,hb7⟩
  replace c0:=below_cell hb7 c0
  replace c1:=below_cell hb7 c1
  replace HG:=Lib.hid (HG.out.below hb7)
  replace HR:=Lib.hid (HR.out.below hb7)
  replace HO:=Lib.hid (HO.out.below hb7)
  replace HK:=Lib.hid (HK.out.below hb7)
  replace HM:=Lib.hid (HM.out.below hb7)
  replace HU:=Lib.hid (HU.out.below hb7)
  replace HSL:=Lib.hid (HSL.out.below hb7)
  replace HCS:=Lib.hid (HCS.out.below hb7)
  replace HCT:=Lib.hid (HCT.out.below hb7)
  replace Q1:=Lib.hid ((hb7.block _ (row_lt Q1.out)).trans Q1.out)
  replace QD:=Lib.hid ((hb7.block _ (row_lt QD.out)).trans QD.out)
  replace QE:=Lib.hid ((hb7.block _ (row_lt QE.out)).trans QE.out)
  replace HB:=Lib.hid (HB.out.trans (hb7.mono HB.out.size))
  clear hb7
  go_wp2_with fail
  with_reducible refine (kneed_bad 1 _ (by decide)).mono ?_
  rintro e w8 ⟨rfl,rfl⟩
  refine leaves_cons (f:=85) (args:=#[.pointer (some ⟨w.heap.size + 1 + 1,0,none⟩)]) (by simp) (by simp [go_sem]) ?_
  refine (caughtK_panicking ⟨w.heap.size + 1 + 1,0,none⟩ 0 1 [] _ (row_cell QE.out rfl) (row_free QE.out 0)).mono ?_
  rintro e u' w'' ⟨rfl,rfl,rfl⟩
  obtain ⟨Wf,hWf,hbf,hqf,hxf⟩:=err_end HB.out (show w.heap.size ≤ w.heap.size + 1 + 1 by omega) QE.out QD.out (show w.heap.size + 1 ≠ w.heap.size + 1 + 1 by omega) 1
  have y0:=row_cell hqf (k:=0) (v:=.int .i64 0) rfl
  have y1:=row_cell hqf (k:=1) (v:=.slice none 0 0) rfl
  have y2:=row_cell hqf (k:=2) (v:=.slice none 0 0) rfl
  rw [← hWf]
  simp [Leaves,settle,results,Tryz.results26,go_sem,hxf,y0,y1,y2]
  exact ⟨_,by rw [HV.out],by rw [HOFF.out _ HV.out (by decide)]; exact dlgV_none _,hbf,fun h0 => absurd (HV.out.symm.trans h0) (by decide)⟩
 | false =>
 have HV:Hid (ME = 0):=Lib.hid (HE.out.trans (if_neg (by rw [hou]; simp [hul])))
 have HUS:Hid (∀ u ∈ us,1 ≤ u ∧ u ≤ 1073741788):=Lib.hid (fun u hm => by
  have h:=List.any_eq_false.1 hou u hm
  unfold oddU at h
  exact inB_iff.1 (by simpa using h))
 replace HMD:=Lib.hid (HMD.out.trans (if_pos HV.out))
 rw [hou] at HCF
 clear hou hul HE HOFF
 go_wp2_with fail
 with_reducible refine HCF.out.mono ?_
 rintro e w8 ⟨rfl,hb8⟩
 clear HCF
 replace c0:=below_cell hb8 c0
 replace c1:=below_cell hb8 c1
 replace HG:=Lib.hid (HG.out.below hb8)
 replace HR:=Lib.hid (HR.out.below hb8)
 replace HO:=Lib.hid (HO.out.below hb8)
 replace HK:=Lib.hid (HK.out.below hb8)
 replace HM:=Lib.hid (HM.out.below hb8)
 replace HU:=Lib.hid (HU.out.below hb8)
 replace HSL:=Lib.hid (HSL.out.below hb8)
 replace HCS:=Lib.hid (HCS.out.below hb8)
 replace HCT:=Lib.hid (HCT.out.below hb8)
 replace Q1:=Lib.hid ((hb8.block _ (row_lt Q1.out)).trans Q1.out)
 replace QD:=Lib.hid ((hb8.block _ (row_lt QD.out)).trans QD.out)
 replace QE:=Lib.hid ((hb8.block _ (row_lt QE.out)).trans QE.out)
 replace HB:=Lib.hid (HB.out.trans (hb8.mono HB.out.size))
 clear hb8
 go_wp2_with fail
 with_reducible refine (kneed_ok 1 _).mono ?_
 rintro e w9 ⟨rfl,rfl⟩
 clear x1 x2
 obtain ⟨W5,hW5,hb5,hr5,hs5⟩:=box36 w8 (.int .i64 dealer) (.slice ac nc cc) (.slice none 0 0) 28
 have HI0:Hid (KdI w8 dealer (.slice ac nc cc) (sealL rows owners keys dealer us s 0) 0 W5):=Lib.hid ⟨_,hr5,World.ownsRow_nil _ _ _ _,hb5⟩
 have HW5:=Lib.hid hW5
 clear hW5 hb5 hr5 hs5
 go_wp2_with (rw [← HW5.out])
 have hi0:=HI0.out
 clear HI0 HW5
 go_loopw [19,20,59] (fun _ _ i W => ∃ k:Nat,k ≤ rows.length ∧ i = .int .i64 k ∧ KdI w8 dealer (.slice ac nc cc) (sealL rows owners keys dealer us s k) k W) (fun _ _ i _ => rows.length - (intOf i).toNat)
 case atStart => exact ⟨0,Nat.zero_le _,rfl,hi0⟩
 case round =>
  clear hi0
  obtain ⟨k,hkl,rfl,L,hrow,hown,hb⟩:=hrel
  have hrl:=HPO.out.few
  obtain ⟨a9,n9,k9,rfl⟩:=own_sl hown
  by_cases hlt:k < rows.length
  ·have hks:k < us.length:=by rw [HUL.out]; exact hlt
   have hko:k < owners.length:=by rw [← HPO.out.len]; exact hlt
   obtain ⟨lb,lo,ea,l0,l1⟩:=shares_at (HSL.out.below hb) (k:=k) (by rw [dealL_len]; exact hlt)
   subst ea
   rw [dealL_at rows s (by rw [dealL_len]; exact hlt)] at l0 l1
   obtain ⟨ub,uo,ea,qu⟩:=ints_at (HU.out.below hb) hks
   subst ea
   obtain ⟨ob,oo,ea,qo⟩:=ints_at (HO.out.below hb) hko
   subst ea
   have hoN:=HPO.out.own _ (List.getElem_mem hko)
   obtain ⟨hkk,hkel⟩:=HKO.out.key (fun o h => (HPO.out.own o h).1) hko
   obtain ⟨m,hm⟩:∃ m:Nat,owners[k] = (m:Int):=⟨owners[k].toNat,by omega⟩
   have hmo:(nth owners k).toNat = m:=by rw [nth_at hko,hm]; rfl
   rw [hmo] at hkk
   obtain ⟨kb,ko,ea,qk⟩:=ints_at (HK.out.below hb) hkk
   subst ea
   have hkey:keyOf owners keys k = keys[m]:=by unfold keyOf; rw [hmo,nth_at hkk]
   rw [hkey] at hkel
   have hu1:=HUS.out _ (List.getElem_mem hks)
   have hun:nth us k = us[k]:=nth_at hks
   rw [hm] at qo
   have hpn:=prodQ_num (rows.getD k []) s
   have hsk:sealK rows owners keys dealer us s k = ((k:Int),powE 4 us[k],cipV us[k] keys[m] dealer (k:Int) (prodQ (rows.getD k []) s)):=by unfold sealK; rw [hun,hkey]
   replace l0:wr.cell? ⟨lb,lo + k * 2,none⟩ = some (.int .i64 (k:Int)):=l0
   replace l1:wr.cell? ⟨lb,lo + k * 2 + 1,none⟩ = some (.int .i64 (prodQ (rows.getD k []) s)):=l1
   obtain ⟨u,hu⟩:∃ u,u = us[k]:=⟨_,rfl⟩
   obtain ⟨key,hky⟩:∃ u,u = keys[m]:=⟨_,rfl⟩
   obtain ⟨vv,hvv⟩:∃ u,u = prodQ (rows.getD k []) s:=⟨_,rfl⟩
   rw [← hu] at qu hu1 hsk
   rw [← hky] at qk hkel hsk
   rw [← hvv] at l1 hpn hsk
   clear hu hky hvv hkey hun hmo hm hoN
   have HSE:Hid (Sealed u key dealer (k:Int) vv):=Lib.hid ⟨hu1,hkel,HDL.out,by omega,by omega⟩
   obtain ⟨pt,hpt⟩:∃ z,z = powE 4 u:=⟨_,rfl⟩
   obtain ⟨ci,hci⟩:∃ z,z = cipV u key dealer (k:Int) vv:=⟨_,rfl⟩
   rw [← hpt,← hci] at hsk
   have HSK:=Lib.hid hsk
   obtain ⟨W6,hW6⟩:∃ W6,W6 = wr.alloc (.cells #[.int .i64 (k:Int),.int .i64 vv] 68):=⟨_,rfl⟩
   have hb6:Below wr.heap.size wr W6:=by rw [hW6]; exact below_new _ _ _
   have hr6:W6.heap[wr.heap.size]? = some (.cells #[.int .i64 (k:Int),.int .i64 vv] 68 (0,0)):=by rw [hW6]; exact World.alloc_heap_new _ _
   have s1:=row_cell hr6 (k:=1) (v:=.int .i64 vv) rfl
   have hbb:=hb.trans (hb6.mono hb.size)
   have hbx:w8.heap.size < wr.heap.size:=row_lt hrow
   have HKX:Hid (∀ v8,AppP w8.heap.size dealer (.slice ac nc cc) (.slice a9 n9 k9) k (sealL rows owners keys dealer us s k) ((k:Int),pt,ci) false false v8 W6.drew):=Lib.hid (fun v8 =>
    ⟨(hb6.block _ hbx).trans hrow,fun _ => (own_keep hown hb6).drew,(fun e => by cases e),(fun e => by cases e),Nat.lt_of_lt_of_le hbx hb6.size⟩)
   have HZC:Hid (W6.drew.cell? ⟨ub,uo + k,none⟩ = some (.int .i64 u) ∧ W6.drew.cell? ⟨w.heap.size,1,none⟩ = some (.slice (some ⟨ob,oo,none⟩) owners.length k2) ∧ W6.drew.cell? ⟨ob,oo + k,none⟩ = some (.int .i64 (m:Int)) ∧ W6.drew.cell? ⟨kb,ko + m,none⟩ = some (.int .i64 key) ∧ W6.drew.cell? ⟨wr.heap.size,1,none⟩ = some (.int .i64 vv)):=
    Lib.hid ⟨below_cell hb6 qu,below_cell hbb c1,below_cell hb6 qo,below_cell hb6 qk,s1⟩
   have HSQ:Hid (∀ W,Below w8.heap.size W6 W → Calls Tryz.prog 70 #[.int .i64 u,.int .i64 key,.int .i64 dealer,.int .i64 (k:Int),.int .i64 vv] W fun r w' => r = .returned (.tuple #[.agg #[.int .i64 (k:Int),.int .i64 pt,.int .i64 ci],.int .i64 0]) ∧ Below W.heap.size W w'):=Lib.hid (fun W hq => by
    rw [hpt,hci]
    exact seal_yes u key dealer (k:Int) vv W HSE.out (HG.out.below (hbb.trans hq)))
   have HMU:=Lib.hid (fun W => kmustp_ok (k:Int) pt ci W)
   have HKL:Hid (k ≤ 1000000):=Lib.hid (by omega)
   have HBB:=Lib.hid hbb
   have HW6:=Lib.hid hW6
   have i0:(0:Int) ≤ (k:Int):=Int.natCast_nonneg k
   have i1:(k:Int) < (us.length:Int):=by omega
   have i2:(k:Int) < (owners.length:Int):=by omega
   have i3:(0:Int) ≤ (m:Int):=Int.natCast_nonneg m
   have i4:(m:Int) < (keys.length:Int):=by omega
   have i5:(k:Int) < (rows.length:Int):=by omega
   clear hpt hci hsk hW6 hr6 hb6 hbb hbx qu qo qk s1 hkel hu1 hpn hks hko hkk hown hrow hb hrl
   go_wp2_with (rw [← HW6.out])
   refine wp_region_flowsG (by kernel_rfl) (by kernel_rfl) (by kernel_rfl) (by kernel_rfl) (fun done v W => FKd13 W6 (w8.heap.size) (w.heap.size) (wr.heap.size) (ub) (uo) (us.length) (k5) (ob) (oo) (owners.length) (k2) (kb) (ko) (keys.length) (k6) (k) (m) (dealer) (u) (key) (vv) (pt) (ci) (.slice ac nc cc) (.slice a9 n9 k9) (sealL rows owners keys dealer us s k) done v W) (fun v => ?_) ?_ (fun v W h => ?_)
   ·exact ⟨(Below.refl _ _).drew,(fun h => by cases h),(fun h => by cases h),(fun h => by cases h),(fun h => by cases h),(fun h => by cases h),(fun h => by cases h),(fun h => by cases h),(fun h => by cases h),(fun h => by cases h),(fun h => by cases h),(fun h => by cases h),(fun h => by cases h),(fun h => by cases h),(fun h => by cases h),(fun h => by cases h),(fun h => by cases h),(fun h => by cases h),(fun h => by cases h),(fun h => by cases h),(fun h => by cases h),(fun h => by cases h),(fun h => by cases h),(fun h => by cases h),(fun h => by cases h),HKX.out _,(fun _ => HZC.out)⟩
   ·refine ⟨?_,?_,?_,?_,?_,?_,?_,?_,?_,?_,?_,?_,?_,?_,?_,?_,?_,?_,?_,?_,?_,?_,?_,?_,?_,?_,trivial⟩
    ·intro done v W A h hd hp hu hA hB hdf
     have e0:A.tmps[18]?.getD undef = .pointer (some ⟨w8.heap.size,0,none⟩):=hB 18 rfl
     clear hA hB hp hu hdf
     go_simp
     exact ⟨_,rfl,{ h with f0:=(fun _ => rfl) }⟩
    ·intro done v W A h hd hp hu hA hB hdf
     have n25_1:done 25 = false:=flow_not (fun hj => hu 25 1 rfl (hj)) hd
     have hd0:done 0 = true:=hp 0 rfl
     have e0:=(hA 0 64 rfl hd0).trans (h.f0 hd0)
     have y0_:=h.bx.cell n25_1
     clear hA hB hp hu hdf
     go_simp
     exact ⟨_,rfl,{ h with f1:=(fun _ => rfl) }⟩
    ·intro done v W A h hd hp hu hA hB hdf
     have e0:A.tmps[5]?.getD undef = .slice (some ⟨ub,uo,none⟩) us.length k5:=hB 5 rfl
     clear hA hB hp hu hdf
     go_simp
     exact ⟨_,rfl,{ h with f2:=(fun _ => rfl) }⟩
    ·intro done v W A h hd hp hu hA hB hdf
     have e0:A.tmps[19]?.getD undef = .int .i64 (k:Int):=hB 19 rfl
     clear hA hB hp hu hdf
     go_simp
     exact ⟨_,rfl,{ h with f3:=(fun _ => rfl) }⟩
    ·intro done v W A h hd hp hu hA hB hdf
     have hd2:done 2 = true:=hp 2 rfl
     have hd3:done 3 = true:=hp 3 rfl
     have e0:=(hA 2 66 rfl hd2).trans (h.f2 hd2)
     have e1:=(hA 3 67 rfl hd3).trans (h.f3 hd3)
     clear hA hB hp hu hdf
     go_simp
     exact ⟨_,rfl,{ h with f4:=(fun _ => rfl) }⟩
    ·intro done v W A h hd hp hu hA hB hdf
     have n23_5:done 23 = false:=flow_not (fun hj => hu 18 5 rfl (hu 21 18 rfl (hu 23 21 rfl (hj)))) hd
     have hd4:done 4 = true:=hp 4 rfl
     have e0:=(hA 4 68 rfl hd4).trans (h.f4 hd4)
     have y0_:=(h.zc n23_5).1
     clear hA hB hp hu hdf
     go_simp
     exact ⟨_,rfl,{ h with f5:=(fun _ => rfl) }⟩
    ·intro done v W A h hd hp hu hA hB hdf
     have e0:A.tmps[1]?.getD undef = .slice (some ⟨kb,ko,none⟩) keys.length k6:=hB 1 rfl
     clear hA hB hp hu hdf
     go_simp
     exact ⟨_,rfl,{ h with f6:=(fun _ => rfl) }⟩
    ·intro done v W A h hd hp hu hA hB hdf
     have e0:A.tmps[6]?.getD undef = .pointer (some ⟨w.heap.size,0,none⟩):=hB 6 rfl
     clear hA hB hp hu hdf
     go_simp
     exact ⟨_,rfl,{ h with f7:=(fun _ => rfl) }⟩
    ·intro done v W A h hd hp hu hA hB hdf
     have n23_8:done 23 = false:=flow_not (fun hj => hu 10 8 rfl (hu 11 10 rfl (hu 12 11 rfl (hu 13 12 rfl (hu 18 13 rfl (hu 21 18 rfl (hu 23 21 rfl (hj)))))))) hd
     have hd7:done 7 = true:=hp 7 rfl
     have e0:=(hA 7 71 rfl hd7).trans (h.f7 hd7)
     have y0_:=(h.zc n23_8).2.1
     clear hA hB hp hu hdf
     go_simp
     exact ⟨_,rfl,{ h with f8:=(fun _ => rfl) }⟩
    ·intro done v W A h hd hp hu hA hB hdf
     have e0:A.tmps[19]?.getD undef = .int .i64 (k:Int):=hB 19 rfl
     clear hA hB hp hu hdf
     go_simp
     exact ⟨_,rfl,{ h with f9:=(fun _ => rfl) }⟩
    ·intro done v W A h hd hp hu hA hB hdf
     have hd8:done 8 = true:=hp 8 rfl
     have hd9:done 9 = true:=hp 9 rfl
     have e0:=(hA 8 72 rfl hd8).trans (h.f8 hd8)
     have e1:=(hA 9 73 rfl hd9).trans (h.f9 hd9)
     clear hA hB hp hu hdf
     go_simp
     exact ⟨_,rfl,{ h with f10:=(fun _ => rfl) }⟩
    ·intro done v W A h hd hp hu hA hB hdf
     have n23_11:done 23 = false:=flow_not (fun hj => hu 12 11 rfl (hu 13 12 rfl (hu 18 13 rfl (hu 21 18 rfl (hu 23 21 rfl (hj)))))) hd
     have hd10:done 10 = true:=hp 10 rfl
     have e0:=(hA 10 74 rfl hd10).trans (h.f10 hd10)
     have y0_:=(h.zc n23_11).2.2.1
     clear hA hB hp hu hdf
     go_simp
     exact ⟨_,rfl,{ h with f11:=(fun _ => rfl) }⟩
    ·intro done v W A h hd hp hu hA hB hdf
     have hd6:done 6 = true:=hp 6 rfl
     have hd11:done 11 = true:=hp 11 rfl
     have e0:=(hA 6 70 rfl hd6).trans (h.f6 hd6)
     have e1:=(hA 11 75 rfl hd11).trans (h.f11 hd11)
     clear hA hB hp hu hdf
     go_simp
     exact ⟨_,rfl,{ h with f12:=(fun _ => rfl) }⟩
    ·intro done v W A h hd hp hu hA hB hdf
     have n23_13:done 23 = false:=flow_not (fun hj => hu 18 13 rfl (hu 21 18 rfl (hu 23 21 rfl (hj)))) hd
     have hd12:done 12 = true:=hp 12 rfl
     have e0:=(hA 12 76 rfl hd12).trans (h.f12 hd12)
     have y0_:=(h.zc n23_13).2.2.2.1
     clear hA hB hp hu hdf
     go_simp
     exact ⟨_,rfl,{ h with f13:=(fun _ => rfl) }⟩
    ·intro done v W A h hd hp hu hA hB hdf
     have e0:A.tmps[2]?.getD undef = .int .i64 dealer:=hB 2 rfl
     clear hA hB hp hu hdf
     go_simp
     exact ⟨_,rfl,{ h with f14:=(fun _ => rfl) }⟩
    ·intro done v W A h hd hp hu hA hB hdf
     have e0:A.tmps[19]?.getD undef = .int .i64 (k:Int):=hB 19 rfl
     clear hA hB hp hu hdf
     go_simp
     exact ⟨_,rfl,{ h with f15:=(fun _ => rfl) }⟩
    ·intro done v W A h hd hp hu hA hB hdf
     have e0:A.tmps[20]?.getD undef = .pointer (some ⟨wr.heap.size,0,none⟩):=hB 20 rfl
     clear hA hB hp hu hdf
     go_simp
     exact ⟨_,rfl,{ h with f16:=(fun _ => rfl) }⟩
    ·intro done v W A h hd hp hu hA hB hdf
     have n23_17:done 23 = false:=flow_not (fun hj => hu 18 17 rfl (hu 21 18 rfl (hu 23 21 rfl (hj)))) hd
     have hd16:done 16 = true:=hp 16 rfl
     have e0:=(hA 16 80 rfl hd16).trans (h.f16 hd16)
     have y0_:=(h.zc n23_17).2.2.2.2
     clear hA hB hp hu hdf
     go_simp
     exact ⟨_,rfl,{ h with f17:=(fun _ => rfl) }⟩
    ·intro done v W A h hd hp hu hA hB hdf
     have hd5:done 5 = true:=hp 5 rfl
     have hd13:done 13 = true:=hp 13 rfl
     have hd14:done 14 = true:=hp 14 rfl
     have hd15:done 15 = true:=hp 15 rfl
     have hd17:done 17 = true:=hp 17 rfl
     have e0:=(hA 5 69 rfl hd5).trans (h.f5 hd5)
     have e1:=(hA 13 77 rfl hd13).trans (h.f13 hd13)
     have e2:=(hA 14 78 rfl hd14).trans (h.f14 hd14)
     have e3:=(hA 15 79 rfl hd15).trans (h.f15 hd15)
     have e4:=(hA 17 81 rfl hd17).trans (h.f17 hd17)
     clear hA hB hp hu hdf
     go_simp
     with_reducible refine (HSQ.out W h.b).mono ?_
     rintro e wq ⟨rfl,hb⟩
     exact ⟨_,rfl,{ h with b:=h.b.trans (hb.mono (Nat.le_of_lt h.bx.big)),f18:=(fun _ => rfl),f22:=(fun h1 h2 => (h.f22 h1 h2).below hb),bx:=(h.bx.below hb),zc:=((fun h1 => ⟨below_cell hb (h.zc h1).1,below_cell hb (h.zc h1).2.1,below_cell hb (h.zc h1).2.2.1,below_cell hb (h.zc h1).2.2.2.1,below_cell hb (h.zc h1).2.2.2.2⟩)) }⟩
    ·intro done v W A h hd hp hu hA hB hdf
     have hd18:done 18 = true:=hp 18 rfl
     have e0:=(hA 18 82 rfl hd18).trans (h.f18 hd18)
     clear hA hB hp hu hdf
     go_simp
     exact ⟨_,rfl,{ h with f19:=(fun _ => rfl) }⟩
    ·intro done v W A h hd hp hu hA hB hdf
     have hd18:done 18 = true:=hp 18 rfl
     have e0:=(hA 18 82 rfl hd18).trans (h.f18 hd18)
     clear hA hB hp hu hdf
     go_simp
     exact ⟨_,rfl,{ h with f20:=(fun _ => rfl) }⟩
    ·intro done v W A h hd hp hu hA hB hdf
     have hd19:done 19 = true:=hp 19 rfl
     have hd20:done 20 = true:=hp 20 rfl
     have e0:=(hA 19 83 rfl hd19).trans (h.f19 hd19)
     have e1:=(hA 20 84 rfl hd20).trans (h.f20 hd20)
     clear hA hB hp hu hdf
     go_simp
     with_reducible refine (HMU.out W).mono ?_
     rintro e wq ⟨rfl,hb⟩
     exact ⟨_,rfl,{ h with b:=h.b.trans (hb.mono (Nat.le_of_lt h.bx.big)),f21:=(fun _ => rfl),f22:=(fun h1 h2 => (h.f22 h1 h2).below hb),bx:=(h.bx.below hb),zc:=((fun h1 => ⟨below_cell hb (h.zc h1).1,below_cell hb (h.zc h1).2.1,below_cell hb (h.zc h1).2.2.1,below_cell hb (h.zc h1).2.2.2.1,below_cell hb (h.zc h1).2.2.2.2⟩)) }⟩
    ·intro done v W A h hd hp hu hA hB hdf
     have hd21:done 21 = true:=hp 21 rfl
     have e0:=(hA 21 85 rfl hd21).trans (h.f21 hd21)
     have hb:=below_new W #[.int .i64 (k:Int),.int .i64 pt,.int .i64 ci] 49
     clear hA hB hp hu hdf
     go_simp
     exact ⟨_,rfl,{ h with b:=h.b.trans (hb.mono (Nat.le_of_lt h.bx.big)),f22:=(fun _ _ => ParBox.new W ((k:Int),pt,ci)),bx:=(h.bx.below hb),zc:=((fun h1 => ⟨below_cell hb (h.zc h1).1,below_cell hb (h.zc h1).2.1,below_cell hb (h.zc h1).2.2.1,below_cell hb (h.zc h1).2.2.2.1,below_cell hb (h.zc h1).2.2.2.2⟩)) }⟩
    ·intro done v W A h hd hp hu hA hB hdf
     have n25_23:done 25 = false:=flow_not (fun hj => hu 25 23 rfl (hj)) hd
     have hd1:done 1 = true:=hp 1 rfl
     have hd22:done 22 = true:=hp 22 rfl
     have m7:=h.f22 hd22 hd
     obtain ⟨b7,c7,e7,hc7⟩:=m7
     have e1:=(hA 1 65 rfl hd1).trans (h.f1 hd1)
     have e2:=(hA 22 86 rfl hd22).trans e7
     have ow:=h.bx.own0 hd
     have hbg:=h.bx.big
     have bx0:=h.bx
     refine app_parcel_wp rfl _ _ rfl (w8.heap.size + 1) _ _ k e1 ow b7 c7 ((k:Int),pt,ci) e2 hc7 HKL.out hbg ?_
     intro g cap8 wq8 h8 o8
     have bx8:=bx0.app hd n25_23 h8 o8
     exact ⟨_,rfl,{ h with b:=h.b.trans ((own_below ow o8.1 hbg).mono (Nat.le_succ _)),f22:=(fun _ h2 => absurd (show true = false from h2) (by decide)),bx:=(bx8),zc:=((fun h1 => by cases h1)) }⟩
    ·intro done v W A h hd hp hu hA hB hdf
     have e0:A.tmps[18]?.getD undef = .pointer (some ⟨w8.heap.size,0,none⟩):=hB 18 rfl
     clear hA hB hp hu hdf
     go_simp
     exact ⟨_,rfl,{ h with f24:=(fun _ => rfl) }⟩
    ·intro done v W A h hd hp hu hA hB hdf
     have hd23:done 23 = true:=hp 23 rfl
     have hd24:done 24 = true:=hp 24 rfl
     have bx0:=h.bx
     obtain ⟨g8,c8,e8⟩:=bx0.val hd23
     have e1:=(hA 24 88 rfl hd24).trans (h.f24 hd24)
     have e2:=(hA 23 87 rfl hd23).trans e8
     have u3:=bx0.cell hd
     have g3:=row_free bx0.row 2
     have bx9:=bx0.store hd23 hd
     clear hA hB hp hu hdf
     go_simp
     rw [← e8]
     exact ⟨undef,{ h with b:=h.b.setCell (Nat.le_refl _) _,f22:=(fun _ h2 => absurd (hd23.symm.trans h2) (by decide)),bx:=(bx9),zc:=((fun h1 => absurd (hd23.symm.trans h1) (by decide))) }⟩
   simp only [putL,Act.put,Nat.reduceAdd,List.setIfInBounds_toArray,List.set_cons_zero,List.set_cons_succ]
   have hbr:=h.b
   have hx1:=h.bx
   obtain ⟨g8,c8,e8⟩:=hx1.val rfl
   have h1:=hx1.row
   rw [if_pos (by rfl),e8] at h1
   have h2:=hx1.own1 rfl
   rw [e8,← HSK.out,← sealL_snoc] at h2
   have hbn:Below w8.heap.size w8 W:=HBB.out.trans hbr
   have HN:Hid (KdI w8 dealer (.slice ac nc cc) (sealL rows owners keys dealer us s (k + 1)) (k + 1) W):=Lib.hid ⟨_,h1,h2,hbn⟩
   clear hx1 h1 h2 hbn hbr h
   go_wp2_with fail
   go_roundw
   case rel => exact ⟨k + 1,by omega,by go_num,HN.out⟩
   case measure => simp [intOf]; omega
  ·obtain rfl:k = rows.length:=by omega
   have hsz:(sealL rows owners keys dealer us s rows.length).length = rows.length:=sealL_len _ _ _ _ _ _ _
   have hrl2:rows.length ≤ 1000000:=by omega
   have hDl:w.heap.size + 1 + 1 < w8.heap.size:=row_lt QE.out
   have hbn:∀ b o2,a9 = some ⟨b,o2,none⟩ → w8.heap.size < b:=by
    intro b o2 e9
    rcases hown.2 with ⟨h0,-⟩ | ⟨g',cap',cur,e1,hg,-⟩
    ·cases h0; cases e9
    ·simp only [Value.slice.injEq] at e1
     rw [e1.1] at e9
     simp only [Option.some.injEq,Addr.mk.injEq] at e9
     omega
   have hps:Parcels wr (.slice a9 n9 k9) (sealL rows owners keys dealer us s rows.length):=Parcels.own hown (by
    intro p hp
    obtain ⟨i,hi,rfl⟩:=List.mem_map.1 hp
    have hi:=List.mem_range.1 hi
    exact ⟨R64.mk (by show (-4611686018427387904:Int) ≤ (i:Int); omega) (by show (i:Int) ≤ 4611686018427387904; omega),(el_powE el_four _).r64,num_r64 (cipV_num _ _ _ _ _)⟩) (by rw [hsz]; omega)
   have hqd:=(hb.block _ (row_lt QD.out)).trans QD.out
   have hqe:=(hb.block _ (row_lt QE.out)).trans QE.out
   have hB9:=HB.out.trans (hb.mono HB.out.size)
   have hcs:=HCS.out.below hb
   have hct:=HCT.out.below hb
   have hpt:=RowT.own hown
   obtain ⟨W9,hW9⟩:∃ W9,W9 = (put3 wr (w.heap.size + 1) (.int .i64 dealer) (.slice ac nc cc) (.slice a9 n9 k9)).setCell ⟨w.heap.size + 1 + 1,0,none⟩ (.int .i64 0):=⟨_,rfl⟩
   have hDE:w.heap.size + 1 ≠ w.heap.size + 1 + 1:=by omega
   have hqd9:W9.heap[w.heap.size + 1]? = some (.cells #[.int .i64 dealer,.slice ac nc cc,.slice a9 n9 k9] 28 (0,0)):=by rw [hW9,Below.heap_setCell _ _ _ _ hDE]; exact put3_row _ _ _ _ hqd
   have hqe9:W9.heap[w.heap.size + 1 + 1]? = some (.cells #[.int .i64 0] 35 (0,0)):=by rw [hW9]; exact row_set ((put3_other _ _ _ hDE.symm).trans hqe) 0 _
   have HB9:Hid (Below w.heap.size w W9):=Lib.hid (by rw [hW9]; exact (put3_below _ _ _ hB9 (by omega)).setCell (show w.heap.size ≤ w.heap.size + 1 + 1 by omega) _)
   have HP9:Hid (Parcels W9 (.slice a9 n9 k9) (sealL rows owners keys dealer us s rows.length)):=Lib.hid (by rw [hW9]; exact Parcels.set (parcels_put3 hps (fun b o2 e9 => by have:=hbn b o2 e9; omega) _ _ _) (fun b o2 e9 => by have:=hbn b o2 e9; omega) _)
   have HT9:Hid (RowT W9 3 (.slice ac nc cc) ∧ RowT W9 49 (.slice a9 n9 k9)):=Lib.hid (by
    rw [hW9]
    unfold put3
    exact ⟨(((hct.set _ _ _).set _ _ _).set _ _ _).set _ _ _,(((hpt.set _ _ _).set _ _ _).set _ _ _).set _ _ _⟩)
   have HC9:Hid (Ints W9 (.slice ac nc cc) (dealC s)):=Lib.hid (by
    rw [hW9]
    have hcs2:=hcs
    obtain ⟨a,c,e1,h1,h2,h3,h4⟩:=hcs
    refine ⟨a,c,e1,h1,h2,h3,fun j hj => ?_⟩
    obtain ⟨b,off,e2,hcell⟩:=h4 j hj
    refine ⟨b,off,e2,?_⟩
    have n1:=ints_not hcs2 (dealC_pos s) hqd three_zero e1 hj e2
    have n2:=ints_not hcs2 (dealC_pos s) hqe one_zero e1 hj e2
    unfold put3
    rw [cell_other (.inl n2.symm),cell_other (.inl n1.symm),cell_other (.inl n1.symm),cell_other (.inl n1.symm)]
    exact hcell)
   have b0:=row_cell hrow (k:=0) (v:=.int .i64 dealer) rfl
   have b1:=row_cell hrow (k:=1) (v:=.slice ac nc cc) rfl
   have b2:=row_cell hrow (k:=2) (v:=.slice a9 n9 k9) rfl
   have t0:=row_cell hqd (k:=0) (v:=.int .i64 0) rfl
   have t1:=row_cell hqd (k:=1) (v:=.slice none 0 0) rfl
   have t2:=row_cell hqd (k:=2) (v:=.slice none 0 0) rfl
   have f0:=row_free hqd 0
   have f1:=row_free hqd 1
   have f2:=row_free hqd 2
   have z0:=row_cell hqe (k:=0) (v:=.int .i64 0) rfl
   have z1:=row_free hqe 0
   have y0:=row_cell hqd9 (k:=0) (v:=.int .i64 dealer) rfl
   have y1:=row_cell hqd9 (k:=1) (v:=.slice ac nc cc) rfl
   have y2:=row_cell hqd9 (k:=2) (v:=.slice a9 n9 k9) rfl
   have hxf:=row_cell hqe9 (k:=0) (v:=.int .i64 0) rfl
   unfold put3 at hW9
   have HW9:=Lib.hid hW9
   have d9:decide ((rows.length:Int) < (rows.length:Int)) = false:=decide_eq_false (by omega)
   have d8:decide (rows.length < rows.length) = false:=decide_eq_false (by omega)
   clear hW9 hqd9 hqe9 hqd hqe hB9 hcs hct hpt hps hrow hown hb hbn hsz hrl hrl2 hkl hlt
   go_wp2_with (rw [← HW9.out])
   refine leaves_cons (f:=85) (args:=#[.pointer (some ⟨w.heap.size + 1 + 1,0,none⟩)]) (by simp) (by simp [go_sem]) ?_
   refine (caughtK_idle _ _).mono ?_
   rintro e u' w'' ⟨rfl,rfl,rfl⟩
   simp [Leaves,settle,results,Tryz.results26,go_sem,hxf,y0,y1,y2]
   exact ⟨_,by rw [HV.out],by rw [HMD.out]; exact ⟨_,_,rfl,HN.out.1,HC9.out,HP9.out⟩,HB9.out,fun _ => ⟨_,_,_,rfl,HT9.out.1,HT9.out.2⟩⟩
theorem kDeal_any (rv ov kv mv uv:Value) (rows:List (List Int)) (owners keys:List Int) (dealer x:Int) (rnd us:List Int) (w:World) (hG:Glob w) (hR:Rows2 w rv rows) (hO:Ints w ov owners) (hK:Ints w kv keys) (hd:R64 dealer) (hx:R64 x) (hM:Ints w mv rnd) (hU:Ints w uv us) :
  Calls Tryz.prog 26 #[.agg #[rv,ov],kv,.int .i64 dealer,.int .i64 x,mv,uv] w (KdPost (kdE rows owners keys dealer x rnd us) (kdD rows owners keys dealer x rnd us) w):=
 (kDealT_any rv ov kv mv uv rows owners keys dealer x rnd us w hG hR hO hK hd hx hM hU).mono fun _ _ ⟨v,h1,h2,h3,_⟩ => ⟨v,h1,h2,h3⟩
end Go.Proofs.YtggnipkfliompaaGreatDoor
