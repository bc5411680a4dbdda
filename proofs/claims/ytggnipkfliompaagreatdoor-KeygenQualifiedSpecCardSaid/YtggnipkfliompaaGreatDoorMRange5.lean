/- A range over a function of this program whose iterator turns variables of its own, and lays memory, ahead of each element. A range over a function of this program whose iterator turns variables of its own; what is assigned to the round's variables lays memory. A range over a function of this program whose body may turn maps; what is assigned to the round's variables lays memory. Package keygen: the deferred call and the marks of ranges over functions, one behind the other. Package keygen: what the rounds of Qualified gather. -/
import Derived.Test.YtggnipkfliompaaGreatDoorMDeaG
import Derived.Test.YtggnipkfliompaaGreatDoorMKgA
import Derived.Test.YtggnipkfliompaaGreatDoorMKgI
import Derived.Test.YtggnipkfliompaaGreatDoorMKgT
import Derived.RecoverIn
import Derived.Maps.OwnIn
set_option maxRecDepth 100000
namespace Go.Proofs.YtggnipkfliompaaGreatDoor
open Go.RowKit
def Iterates5 (P:Program) (gf:FuncId) (lb:Array Value) (N:Nat) (encs:Nat → Array Value) (I:Nat → World → Prop) (Step:Nat → World → World → Prop):Prop:=
 ∀ (l:Nat) (J Y Jx:Nat → World → Prop) (W:World),(∀ j W1,J j W1 → I j W1) → (∀ j W1 W2,J j W1 → Below W1.heap.size W1 W2 → J j W2) → (∀ j W1 W2,J j W1 → j < N → Step j W1 W2 → Y j W2) →
  (∀ j W1,Y j W1 → j < N → YieldAt Fence.wide 0 P l (encs j) W1 fun e W' => (e = .returned (.bool true) ∧ J (j + 1) W') ∨ (e = .returned (.bool false) ∧ Jx (j + 1) W')) →
  J 0 W → CallsIn Fence.wide 0 P gf (#[.func (.yield l) #[] #[]] ++ lb) W fun e W' => (∃ v,e = .returned v) ∧ (J N W' ∨ (∃ j,j ≤ N ∧ Jx j W'))
end Go.Proofs.YtggnipkfliompaaGreatDoor
namespace Go.Proofs.YtggnipkfliompaaGreatDoor
open Go.RowKit
end Go.Proofs.YtggnipkfliompaaGreatDoor
namespace Go.Proofs.YtggnipkfliompaaGreatDoor
open Go.RowKit
theorem iterates5_of4 {P:Program} {gf:FuncId} {lb:Array Value} {N:Nat} {encs:Nat → Array Value} {I:Nat → World → Prop} (h:Iterates4 P gf lb N encs I):Iterates5 P gf lb N encs I (fun _ W1 W2 => W1 = W2):=
 fun l J _Y Jx W h1 h2 h3 h4 h5 => h l J Jx W h1 h2 (fun j W1 hJ hlt => h4 j W1 (h3 j W1 W1 hJ hlt rfl) hlt) h5
theorem wp_range8 {P:Program} {g:Operand} {ps:Array Tmp} {assign body:Code} {Q:Exit → Act → World → Prop} {a:Act} {w:World}
  {gf:FuncId} {lb:Array Value} (hg:a.eval g = .func (.func gf) #[] lb) (eg:Goes P gf)
  {N:Nat} {encs:Nat → Array Value} (hps:∀ j,(encs j).size = ps.size)
  (I M:Nat → World → Prop) (Step:Nat → World → World → Prop) (Ix:Code → Nat → World → Prop) (hseq:Iterates5 P gf lb N encs I Step)
  (hI:∀ j W W',I j W → Sim w.heap.size W W' → I j W') (hIx:∀ c j W W',Ix c j W → Sim w.heap.size W W' → Ix c j W')
  (hstep:∀ j W1 W2,I j W1 → j < N → Step j W1 W2 → M j W2 ∧ KeepsL W1 W2)
  (h0:I 0 w) (M2:Nat → Array Value → World → Prop) (hM2:∀ j t W W',M2 j t W → Sim w.heap.size W W' → M2 j t W')
  (hassign:∀ (l j:Nat) (W:World) (K:Act → World → Prop),M j W → j < N → (∀ t W',M2 j t W' → KeepsL W W' → K { tmps:=t,defers:=[] } W') →
   assign.wpIn (Fence.wide.inRound l) 0 P (Exit.then K (fun _ _ _ => False)) { tmps:=(ps.zip (encs j)).foldl (fun t (p,v) => t.setIfInBounds p v) a.tmps,defers:=[] } W)
  (hbody:∀ (l j:Nat) (t:Array Value) (W:World),M2 j t W → j < N → body.wpIn (Fence.wide.inRound l) 0 P (rangePost7 I Ix j W) { tmps:=t,defers:=[] } W)
  (hdone:∀ (D:Nat) (W:World),w.heap.size ≤ D → I N W → W.heap[D]? = some (.deferred (some [])) → KeepsL w W → Q .normal { a with defers:={ target:=.collected D,args:=#[] } :: a.defers } W)
  (hstop:∀ (D:Nat) (c:Code) (j:Nat) (W:World),w.heap.size ≤ D → j ≤ N → Ix c j W → W.heap[D]? = some (.deferred (some [])) → KeepsL w W → c.wp P Q { a with defers:={ target:=.collected D,args:=#[] } :: a.defers } W) :
  (Code.rangeFunc g ps assign body).wp P Q a w:=by
 refine (wpIn_wide (n:=0)).1 (wpIn_rangeFunc ?_)
 intro fn hfn
 obtain ⟨rec,hrec⟩:∃ rec:LoopState → Option Code → Loop,rec = fun st pe => { state:=st,pending:=pe,fn,tmps:=a.tmps,params:=ps,assign,body,defers:=w.heap.size }:=⟨_,rfl⟩
 obtain ⟨W1,hW1⟩:∃ W1,(w.alloc (.deferred (some []))).alloc (.loop (rec .ready none)) = W1:=⟨_,rfl⟩
 have hL1:W1.heap[w.heap.size + 1]? = some (.loop (rec .ready none)):=by
  rw [← hW1]; have:=World.alloc_heap_new (w.alloc (.deferred (some []))) (.loop (rec .ready none)); rwa [World.size_alloc] at this
 have hK1:W1.heap[w.heap.size]? = some (.deferred (some [])):=by
  rw [← hW1]; exact (Below.heap_alloc _ _ _ (by simp)).trans (World.alloc_heap_new w _)
 have hS1:Sim w.heap.size w W1:=by
  rw [← hW1]; exact sim_trans (sim_alloc _ (Nat.le_refl _) _) (sim_alloc _ (by simp) _)
 have hO1:KeepsL w W1:=by rw [← hW1]; exact (KeepsL.alloc _ _).trans (KeepsL.alloc _ _)
 refine ⟨w.heap.size + 1,[{ target:=.collected w.heap.size,args:=#[] }],W1,{ target:=.fn (.func gf) lb,args:=#[.func (.yield (w.heap.size + 1)) #[] #[]] },W1,gf,
  #[.func (.yield (w.heap.size + 1)) #[] #[]] ++ lb,W1,?_,?_,fun _ _ => trivial,?_,fun h => by simp [Fence.wide] at h,?_⟩
 ·rw [← hW1,hrec]; exact run_enterLoop_outer _ _ _ _ _
 ·simp only [resolve,hg]
  simp [go_sem]
 ·have eg':∀ (args:Array Value) (w:World),(callFunc gf args).run P w = .ok (.enter gf args) w:=eg
  simp [invoke,go_sem,eg']
 ·have others:∀ {A B:World} (_:KeepsL w A) (_:∀ k o,k < w.heap.size → A.heap[k]? = some o → o.isLoop = true → B.heap[k]? = some o) (_:A.heap.size ≤ B.heap.size),KeepsL w B:=
   fun {A B} h1 h2 h3 => ⟨Nat.le_trans h1.size h3,fun k o hk ho => h2 k o (Array.getElem?_eq_some_iff.1 hk).1 (h1.same k o hk ho) ho⟩
  have put:∀ {A:World} {l:Nat} (o':Obj),w.heap.size ≤ l → KeepsL w A → KeepsL w (A.putObj l o'):=fun {A l} o' hl h =>
   others h (fun k o hk ho _ => (World.putObj_heap_other (by omega)).trans ho) (by simp)
  refine (hseq (w.heap.size + 1)
   (fun j W => I j W ∧ W.heap[w.heap.size + 1]? = some (.loop (rec .ready none)) ∧ W.heap[w.heap.size]? = some (.deferred (some [])) ∧ KeepsL w W)
   (fun j W => M j W ∧ W.heap[w.heap.size + 1]? = some (.loop (rec .ready none)) ∧ W.heap[w.heap.size]? = some (.deferred (some [])) ∧ KeepsL w W)
   (fun j W => ∃ c,Ix c j W ∧ W.heap[w.heap.size + 1]? = some (.loop (rec .done (some c))) ∧ W.heap[w.heap.size]? = some (.deferred (some [])) ∧ KeepsL w W)
   W1 (fun j W h => h.1) (fun j W W2 ⟨hi,hl,hk,ho⟩ hb => ⟨hI _ _ _ hi (sim_of_below hb (Nat.le_of_lt (Nat.lt_of_succ_lt (Array.getElem?_eq_some_iff.1 hl).1))),(hb.block _ (Array.getElem?_eq_some_iff.1 hl).1).trans hl,(hb.block _ (Array.getElem?_eq_some_iff.1 hk).1).trans hk,ho.trans (keepsL_of_below hb)⟩) (fun j W W2 h hj hs => by obtain ⟨m,k⟩:=hstep j W W2 h.1 hj hs; exact ⟨m,k.same _ _ h.2.1 rfl,k.same _ _ h.2.2.1 rfl,h.2.2.2.trans k⟩) ?_ ⟨hI _ _ _ h0 hS1,hL1,hK1,hO1⟩).mono ?_
  ·rintro j W0 ⟨hi0,hl0,hk0,ho0⟩ hlen
   have hy:=run_yield (P:=P) (args:=encs j) hl0 (by rw [hrec]; exact hps j)
   rw [hrec] at hy
   refine ⟨fn,_,assign,body,hy,roundIn_of_wpIn hfn (hassign _ j W0 _ hi0 hlen fun t W hi hkw => ?_)⟩
   have hl:=hkw.same _ _ hl0 rfl
   have hk:=hkw.same _ _ hk0 rfl
   have ho:=ho0.trans hkw
   have hlt:w.heap.size + 1 < W.heap.size:=(Array.getElem?_eq_some_iff.1 hl).1
   refine ⟨_,run_beginRound hl (by rw [hrec]),?_⟩
   have hl2:(W.putObj (w.heap.size + 1) (.loop { rec .ready none with state:=.busy })).heap[w.heap.size + 1]? = some (.loop { rec .ready none with state:=.busy }):=World.putObj_heap_same hlt
   have hk2:(W.putObj (w.heap.size + 1) (.loop { rec .ready none with state:=.busy })).heap[w.heap.size]? = some (.deferred (some [])):=(World.putObj_heap_other (by omega)).trans hk
   have ho2:=put (.loop { rec .ready none with state:=.busy }) (by omega) ho (l:=w.heap.size + 1)
   refine wpIn_mono (hbody _ j _ _ (hM2 _ _ _ _ hi (sim_putObj _ (by omega) hl rfl)) hlen) ?_
   have fin:∀ (jump:Option Code) (W3:World),KeepsL (W.putObj (w.heap.size + 1) (.loop { rec .ready none with state:=.busy })) W3 →
     (Instr.endRound (w.heap.size + 1) jump).run P W3 = .ok (.bool jump.isNone) (W3.putObj (w.heap.size + 1) (.loop (rec (if jump.isNone then .ready else .done) jump))) ∧
     Sim w.heap.size W3 (W3.putObj (w.heap.size + 1) (.loop (rec (if jump.isNone then .ready else .done) jump))) ∧
     (W3.putObj (w.heap.size + 1) (.loop (rec (if jump.isNone then .ready else .done) jump))).heap[w.heap.size + 1]? = some (.loop (rec (if jump.isNone then .ready else .done) jump)) ∧
     (W3.putObj (w.heap.size + 1) (.loop (rec (if jump.isNone then .ready else .done) jump))).heap[w.heap.size]? = some (.deferred (some [])) ∧
     KeepsL w (W3.putObj (w.heap.size + 1) (.loop (rec (if jump.isNone then .ready else .done) jump))):=fun jump W3 hk3 => by
    have hl3:=hk3.same _ _ hl2 rfl
    have:=run_endRound (P:=P) jump hl3
    rw [hrec] at this ⊢
    exact ⟨this,sim_putObj _ (by omega) hl3 rfl,World.putObj_heap_same (Array.getElem?_eq_some_iff.1 hl3).1,(World.putObj_heap_other (by omega)).trans (hk3.same _ _ hk2 rfl),
     put _ (by omega) (ho2.trans hk3)⟩
   rintro e a3 W3 hp
   cases e with
   | normal =>
    obtain ⟨hk3,hi3⟩:=hp
    obtain ⟨hr,hs,hl4,hk4,ho4⟩:=fin none W3 hk3
    exact ⟨_,_,hr,.inl ⟨rfl,hI _ _ _ hi3 hs,hl4,hk4,ho4⟩⟩
   | ret =>
    obtain ⟨hk3,hi3⟩:=hp
    obtain ⟨hr,hs,hl4,hk4,ho4⟩:=fin (some .ret) W3 hk3
    exact ⟨_,_,hr,.inr ⟨rfl,.ret,hIx _ _ _ _ hi3 hs,hl4,hk4,ho4⟩⟩
   | exit id =>
    obtain ⟨hk3,hi3⟩:=hp
    obtain ⟨hr,hs,hl4,hk4,ho4⟩:=fin (some (.exit id)) W3 hk3
    exact ⟨_,_,hr,.inr ⟨rfl,.exit id,hIx _ _ _ _ hi3 hs,hl4,hk4,ho4⟩⟩
   | goto t =>
    obtain ⟨hk3,hi3⟩:=hp
    obtain ⟨hr,hs,hl4,hk4,ho4⟩:=fin (some (.goto t)) W3 hk3
    exact ⟨_,_,hr,.inr ⟨rfl,.goto t,hIx _ _ _ _ hi3 hs,hl4,hk4,ho4⟩⟩
   | panic ch => exact hp.elim
   | outgrown => exact hp.elim
  ·rintro e W2 ⟨⟨v,rfl⟩,(⟨hi,hl,hk,ho⟩ | ⟨j,hj,c,hi,hl,hk,ho⟩)⟩
   ·exact ⟨none,_,by have:=run_endLoop (P:=P) hl (by rw [hrec]; simp); rw [hrec] at this; exact this,
     hdone _ _ (Nat.le_refl _) (hI _ _ _ hi (sim_putObj _ (by omega) hl rfl)) ((World.putObj_heap_other (by omega)).trans hk) (put _ (by omega) ho)⟩
   ·exact ⟨some c,_,by have:=run_endLoop (P:=P) hl (by rw [hrec]; simp); rw [hrec] at this; exact this,
     wpIn_wide.2 (hstop _ c j _ (Nat.le_refl _) hj (hIx _ _ _ _ hi (sim_putObj _ (by omega) hl rfl)) ((World.putObj_heap_other (by omega)).trans hk) (put _ (by omega) ho))⟩
end Go.Proofs.YtggnipkfliompaaGreatDoor
namespace Go.Proofs.YtggnipkfliompaaGreatDoor
open Go.RowKit FP
theorem caughtM_panicking (p:Addr) (x e:Int) (older:List PanicEntry) (w:World) (hc:w.cell? p = some (.int .i64 x)) (hz:w.frozen? p = false) :
  CallsDIn Fence.wide 0 Tryz.prog 85 #[.pointer (some p)] (.panicking ({ v:=.iface 35 (.int .i64 e),recovered:=false } :: older)) w fun r u' w' =>
   r = .returned (.tuple #[]) ∧ u' = .panicking ({ v:=.iface 35 (.int .i64 e),recovered:=true } :: older) ∧ w' = w.setCell p (.int .i64 e):=by
 have hta:∀ w,(Instr.typeAssert (.iface 35 (.int .i64 e)) 20 35 true).run Tryz.prog w = .ok (.tuple #[.int .i64 e,.bool true]) w:=fun _ => by kernel_rfl
 refine callsDIn_of_wpSIn Tryz.func85 rfl trivial fun c₀ cs hu => ?_
 simp only [Tryz.ntmps85,List.size_toArray,List.length_cons,List.length_nil,Nat.reduceAdd,Nat.reduceSub,Array.replicate_succ,Array.replicate_zero,List.push_toArray,List.append_toArray,List.nil_append,List.cons_append]
 apply wpSIn_seq
 apply wpSIn_region
 simp [wpOpsSIn,go_sem,recoverD,hu,Exit.thenS]
 generalize hc0:({ fn:=c₀.fn,tmps:=c₀.tmps,todo:=c₀.todo,defers:=c₀.defers,mode:=FrameMode.panicking ({ v:=Value.iface 35 (Value.int IntKind.i64 e),recovered:=true } :: older),kind:=c₀.kind,roundOf:=c₀.roundOf }:Frame) = c1
 have hm:c1.mode = FrameMode.panicking ({ v:=Value.iface 35 (Value.int IntKind.i64 e),recovered:=true } :: older):=by rw [← hc0]
 have HB:=Lib.hid (show ∀ a' w',a'.defers = [] → w' = w.setCell p (.int .i64 e) → bodyPostS Tryz.prog Tryz.f85 c₀ cs (fun r u' w' => r = Ending.returned (Value.tuple #[]) ∧ u' = FrameMode.panicking ({ v:=Value.iface 35 (Value.int IntKind.i64 e),recovered:=true } :: older) ∧ w' = w.setCell p (Value.int IntKind.i64 e)) .normal a' (c1 :: cs) w' by
  intro a' w' h1 h2
  simp [bodyPostS,results,Tryz.results85,h1,h2,← hc0])
 clear hc0 hu hm
 refine wpSIn_of_wpIn rfl ?_
 refine wpIn_mono (Q:=fun e' a' w' => e' = .normal ∧ a'.defers = [] ∧ w' = w.setCell p (.int .i64 e)) ?_ ?_
 ·gi_wp2
 ·rintro e' a' w' ⟨rfl,h1,h2⟩
  exact HB.out a' w' h1 h2
theorem caughtM_idle (p:Addr) (w:World) :
  CallsDIn Fence.wide 0 Tryz.prog 85 #[.pointer (some p)] .returning w fun r u' w' => r = .returned (.tuple #[]) ∧ u' = .returning ∧ w' = w:=by
 refine callsDIn_of_wpSIn Tryz.func85 rfl trivial fun c₀ cs hu => ?_
 apply wpSIn_seq
 apply wpSIn_region
 simp [wpOpsSIn,go_sem,recoverD,hu,Tryz.ntmps85,Exit.thenS]
 apply wpSIn_seq
 apply wpSIn_region
 simp [wpOpsSIn,go_sem,Exit.thenS]
 refine wpSIn_cond (t:=false) (by simp [Act.eval,Array.replicate]) ?_
 simp only [Bool.false_eq_true,if_false]
 refine wpSIn_of_wpIn rfl (wpIn_skip ?_)
 cases c₀
 simp_all [bodyPostS,results,Tryz.results85]
theorem callsDIn_mono {F:Fence} {n:Nat} {P:Program} {f:FuncId} {args:Array Value} {u:FrameMode} {w:World} {R R':Ending → FrameMode → World → Prop} (h:CallsDIn F n P f args u w R) (hR:∀ e u' w',R e u' w' → R' e u' w'):CallsDIn F n P f args u w R':=
 ⟨h.1,fun c cs hc hr => let ⟨e,u',w',fr,h1,h2⟩:=h.2 c cs hc hr; ⟨e,u',w',fr,hR _ _ _ h1,h2⟩⟩
theorem leavesM_caught {fn:Func} {tmps:Array Value} {R:Ending → World → Prop} (p:Addr) (x e:Int) (w:World) (hc:w.cell? p = some (.int .i64 x)) (hz:w.frozen? p = false) (h:LeavesInM Fence.wide 0 Tryz.prog fn tmps R [] .returning (w.setCell p (.int .i64 e))) :
  LeavesInM Fence.wide 0 Tryz.prog fn tmps R [{ target:=.fn (.func 85) #[],args:=#[.pointer (some p)] }] (.panicking (thrown e)) w:=by
 refine ⟨by simp,.inr ⟨fun h => by simp [Fence.wide] at h,_,_,85,#[.pointer (some p)],rfl,by simp [go_sem],fun _ _ => trivial,?_⟩⟩
 refine callsDIn_mono (caughtM_panicking p x e [] w hc hz) ?_
 rintro r u' w' ⟨rfl,rfl,rfl⟩
 exact h
theorem leavesM_idle {fn:Func} {tmps:Array Value} {R:Ending → World → Prop} (p:Addr) (w:World) (h:LeavesInM Fence.wide 0 Tryz.prog fn tmps R [] .returning w) :
  LeavesInM Fence.wide 0 Tryz.prog fn tmps R [{ target:=.fn (.func 85) #[],args:=#[.pointer (some p)] }] .returning w:=by
 refine ⟨by simp,.inr ⟨fun h => by simp [Fence.wide] at h,_,_,85,#[.pointer (some p)],rfl,by simp [go_sem],fun _ _ => trivial,?_⟩⟩
 refine callsDIn_mono (caughtM_idle p w) ?_
 rintro r u' w' ⟨rfl,rfl,rfl⟩
 exact h
theorem leavesM_mark {fn:Func} {tmps:Array Value} {R:Ending → World → Prop} {u:FrameMode} {ds:List Deferred} {D:Nat} {w:World} (hu:u ≠ .run) (hD:w.heap[D]? = some (.deferred (some []))) (h:LeavesInM Fence.wide 0 Tryz.prog fn tmps R ds u (w.putObj D (.deferred none))) :
  LeavesInM Fence.wide 0 Tryz.prog fn tmps R ({ target:=.collected D,args:=#[] } :: ds) u w:=⟨hu,.inl ⟨D,_,rfl,run_takeDeferred hD,h⟩⟩
theorem wp_range9 {P:Program} {g:Operand} {ps:Array Tmp} {assign body:Code} {Q:Exit → Act → World → Prop} {a:Act} {w:World}
  {gf:FuncId} {lb:Array Value} (hg:a.eval g = .func (.func gf) #[] lb) (eg:Goes P gf)
  {N:Nat} {encs:Nat → Array Value} (hps:∀ j,(encs j).size = ps.size)
  (I:Nat → World → Prop) (hseq:Iterates4 P gf lb N encs I)
  (hI:∀ j W W',I j W → Sim w.heap.size W W' → I j W')
  (h0:I 0 w) (T:Nat → Nat → Array Value → Array Value) (M3:Nat → Nat → World → Prop) (hM3:∀ j X W W',M3 j X W → Sim w.heap.size W W' → M3 j X W')
  (hassign:∀ (l j:Nat) (W:World) (K:Act → World → Prop),I j W → j < N → (∀ X W',M3 j X W' → KeepsL W W' → K { tmps:=T j X a.tmps,defers:=[] } W') →
   assign.wpIn (Fence.wide.inRound l) 0 P (Exit.then K (fun _ _ _ => False)) { tmps:=(ps.zip (encs j)).foldl (fun t (p,v) => t.setIfInBounds p v) a.tmps,defers:=[] } W)
  (hbody:∀ (l j X:Nat) (W:World),M3 j X W → j < N → body.wpIn (Fence.wide.inRound l) 0 P (rangePost7 I (fun _ _ _ => False) j W) { tmps:=T j X a.tmps,defers:=[] } W)
  (hdone:∀ (D:Nat) (W:World),w.heap.size ≤ D → I N W → W.heap[D]? = some (.deferred (some [])) → KeepsL w W → Q .normal { a with defers:={ target:=.collected D,args:=#[] } :: a.defers } W) :
  (Code.rangeFunc g ps assign body).wp P Q a w:=
 wp_range8 hg eg hps I I (fun _ W1 W2 => W1 = W2) (fun _ _ _ => False) (iterates5_of4 hseq) hI (fun _ _ _ _ h _ => h)
  (fun j W1 W2 h _ e => by subst e; exact ⟨h,KeepsL.refl _⟩) h0 (fun j t W => ∃ X,t = T j X a.tmps ∧ M3 j X W) (fun j t W W' ⟨X,e,h⟩ hs => ⟨X,e,hM3 _ _ _ _ h hs⟩)
  (fun l j W K h hj hK => hassign l j W K h hj fun X W' h1 h2 => hK _ _ ⟨X,rfl,h1⟩ h2)
  (fun l j t W ⟨X,e,h⟩ hj => by subst e; exact hbody l j X W h hj) hdone (fun _ _ _ _ _ _ h => h.elim)
theorem app_int_in {F:Fence} {m:Nat} {ops:Array Oper} {rest:List Oper} {o:Oper} {a:Act} {Q:Exit → Act → World → Prop} {W:World} (hgd:o.guard = none) (s x:Operand) (ho:o.op = .call { callee:=.builtin .append,args:=#[s,x],argTypes:=#[23,23] })
  (base n:Nat) (v:Value) (xs:List Value) (hs:a.eval s = v) (hown:W.ownsRow base 3 1 v n xs) (b c:Nat) (z:Int) (hx:a.eval x = .slice (some ⟨b,0,none⟩) 1 c) (hcell:W.cell? ⟨b,0,none⟩ = some (.int .i64 z)) (hn:n ≤ 1000000) (hbase:base ≤ W.heap.size)
  (h:∀ v' w',w'.ownsRow base 3 1 v' (n + 1) (xs ++ [.int .i64 z]) → W.grownBy w' v.ownBlock → (v'.ownBlock = v.ownBlock ∨ ∃ g,v'.ownBlock = some g ∧ W.heap.size ≤ g) → wpListIn F m Tryz.prog ops Q rest (a.put o.dst v') w'):wpListIn F m Tryz.prog ops Q (o :: rest) a W:=by
 obtain ⟨i0,hi0,hz0,hz1,hz2⟩:=info_parts infoInt
 refine wpListIn_append_own_at (w:=W) hgd s x 23 ho base 3 i0 (.int .i64 0) 1 8 Tryz.underlying23 hi0 hz0 hz1 hz2 rfl (by decide) v n xs hs hown ⟨b,0,none⟩ 1 c [.int .i64 z] hx rfl ?_ ?_ ?_ ?_ hbase ?_
 ·intro j u hu
  cases j with
  | zero => simp at hu; subst hu; simpa [Addr.add] using hcell
  | succ j => simp at hu
 ·simp [Value.oneCell']
 ·unfold maxLen; omega
 ·omega
 ·intro v' w' h1 h2 _ h3
  exact h v' w' h1 h2 (h3.imp (fun e => e) fun e => ⟨_,e,Nat.le_refl _⟩)
end Go.Proofs.YtggnipkfliompaaGreatDoor
namespace Go.Proofs.YtggnipkfliompaaGreatDoor
open Go.RowKit FP
def qx (rows:List (List Int)) (l:List Dlg) (j:Nat):Nat:=(fineI rows l l.length).getD j 0
def qd (rows:List (List Int)) (l:List Dlg) (j:Nat):Dlg:=l.getD (qx rows l j) noD
def ppB (rows:List (List Int)) (owners keys:List Int) (cl:List Cmp) (d:Dlg):Bool:=!cl.any (kcntB rows owners keys d)
def qj (rows:List (List Int)) (owners keys:List Int) (cl:List Cmp) (l:List Dlg) (j:Nat):List Dlg:=
 (((fineI rows l l.length).take j).map fun i => l.getD i noD).filter (ppB rows owners keys cl)
theorem qx_at {rows:List (List Int)} {l:List Dlg} {j:Nat} (h:j < (fineI rows l l.length).length):∃ hi:qx rows l j < l.length,qd rows l j = l[qx rows l j] ∧ fineB rows l[qx rows l j] = true:=by
 have hm:qx rows l j ∈ fineI rows l l.length:=by unfold qx; rw [getD_at h]; exact List.getElem_mem h
 unfold fineI at hm
 obtain ⟨h1,h2⟩:=List.mem_filter.1 hm
 have h3:=List.mem_range.1 h1
 exact ⟨h3,getD_at h3 _,by rw [← fineN_at h3]; exact h2⟩
theorem qj_succ {rows:List (List Int)} {owners keys:List Int} {cl:List Cmp} {l:List Dlg} {j:Nat} (h:j < (fineI rows l l.length).length) :
  qj rows owners keys cl l (j + 1) = if ppB rows owners keys cl (qd rows l j) = true then qj rows owners keys cl l j ++ [qd rows l j] else qj rows owners keys cl l j:=by
 have e:(fineI rows l l.length)[j] = qx rows l j:=by unfold qx; rw [getD_at h]
 unfold qj
 rw [List.take_succ_eq_append_getElem h,List.map_append,List.filter_append,e]
 show _ ++ List.filter _ [qd rows l j] = _
 by_cases hp:ppB rows owners keys cl (qd rows l j) = true
 ·rw [if_pos hp,List.filter_cons_of_pos hp]; rfl
 ·rw [if_neg hp,List.filter_cons_of_neg hp]; simp
theorem qj_all (rows:List (List Int)) (owners keys:List Int) (cl:List Cmp) (l:List Dlg):qj rows owners keys cl l (fineI rows l l.length).length = qualL rows owners keys cl l:=by
 have h1:∀ (k:Nat),k ≤ l.length → ((fineI rows l k).map fun i => l.getD i noD) = (l.take k).filter (fineB rows):=by
  intro k
  induction k with
  | zero => intro _; simp [fineI]
  | succ k ih =>
   intro hk
   have hk2:k < l.length:=by omega
   rw [List.take_succ_eq_append_getElem hk2,List.filter_append,← ih (by omega)]
   cases hf:fineB rows l[k] with
   | true => rw [fineI_yes (by rw [fineN_at hk2]; exact hf),List.map_append,List.filter_cons_of_pos hf]; simp only [List.map_cons,List.map_nil,List.filter_nil,getD_at hk2]
   | false => rw [fineI_no (by rw [fineN_at hk2]; exact hf),List.filter_cons_of_neg (by rw [hf]; simp)]; simp
 unfold qj
 rw [List.take_length,h1 _ (Nat.le_refl _),List.take_length,List.filter_filter]
 unfold qualL
 congr 1
 funext d
 unfold passB ppB
 rw [Bool.and_comm]
theorem qj_fine {rows:List (List Int)} {owners keys:List Int} {cl:List Cmp} {l:List Dlg} {j:Nat}:∀ d ∈ qj rows owners keys cl l j,FineD rows d:=by
 intro d hd
 unfold qj at hd
 obtain ⟨h1,-⟩:=List.mem_filter.1 hd
 obtain ⟨i,h2,rfl⟩:=List.mem_map.1 h1
 have h3:=List.mem_of_mem_take h2
 unfold fineI at h3
 exact fineB_iff.1 (List.mem_filter.1 h3).2
theorem qj_len {rows:List (List Int)} {owners keys:List Int} {cl:List Cmp} {l:List Dlg} {j:Nat}:(qj rows owners keys cl l j).length ≤ l.length:=by
 unfold qj
 refine Nat.le_trans (List.length_filter_le ..) ?_
 rw [List.length_map]
 refine Nat.le_trans (List.length_take_le' ..) ?_
 unfold fineI
 refine Nat.le_trans (List.length_filter_le ..) ?_
 simp
theorem sel_any (rows:List (List Int)) (owners keys:List Int) (cl:List Cmp) (d:Dlg):(selC (rows.length:Int) cl d.dealer).any (setB rows owners keys d) = cl.any (kcntB rows owners keys d):=by
 unfold selC
 rw [List.any_filter]
 congr 1
def mulK (a b:List Int) (k:Nat):List Int:=(List.range a.length).map fun i => if i < k then nth a i * nth b i % 2147483579 else nth a i
theorem mulK_len (a b:List Int) (k:Nat):(mulK a b k).length = a.length:=by simp [mulK]
theorem mulK_zero (a b:List Int):mulK a b 0 = a:=by
 refine List.ext_getElem (mulK_len a b 0) fun i h1 h2 => ?_
 simp [mulK,nth_at h2]
theorem mulK_all (a b:List Int):mulK a b a.length = mulL a b:=by
 refine List.ext_getElem (by rw [mulK_len,mulL_len]) fun i h1 h2 => ?_
 have h3:i < a.length:=by rw [mulK_len] at h1; exact h1
 simp [mulK,mulL,h3]
theorem mulK_at {a b:List Int} {k:Nat} (h:k < a.length):nth (mulK a b k) k = nth a k:=by
 rw [nth_at (by rw [mulK_len]; exact h)]
 simp [mulK]
theorem mulK_set {a b:List Int} {k:Nat} (_h:k < a.length):(mulK a b k).set k (nth a k * nth b k % 2147483579) = mulK a b (k + 1):=by
 refine List.ext_getElem (by simp [mulK_len]) fun i h1 h2 => ?_
 have h3:i < a.length:=by rw [mulK_len] at h2; exact h2
 rw [List.getElem_set]
 by_cases e:k = i
 ·subst e; simp [mulK]
 ·rw [if_neg e]
  simp only [mulK,List.getElem_map,List.getElem_range]
  by_cases e2:i < k
  ·rw [if_pos e2,if_pos (by omega)]
  ·rw [if_neg e2,if_neg (by omega)]
theorem comL_snoc {L:List Dlg} (h:L ≠ []) (d:Dlg):comL (L ++ [d]) = mulL (comL L) d.cs:=by
 cases L with
 | nil => exact absurd rfl h
 | cons e t =>
  show renC e.cs ((t ++ [d]).map (·.cs)) = mulL (renC e.cs (t.map (·.cs))) d.cs
  unfold renC
  rw [List.map_append,List.foldl_append]; rfl
theorem dlrL_snoc (L:List Dlg) (d:Dlg):dlrL (L ++ [d]) = dlrL L ++ [d.dealer]:=by simp [dlrL]
structure QuV (w1:World) (rv ov lv L V:Value) (D C:List Int) (W:World):Prop where
 be:Below w1.heap.size w1 W
 rk:W.heap[w1.heap.size]? = some (.cells #[.int .i64 0,rv,ov,V] 64 (0,0))
 ro:W.heap[w1.heap.size + 1]? = some (.cells #[L] 23 (0,0))
 pr:W.heap[w1.heap.size + 1 + 1]? = some (.cells #[rv,ov] 25 (0,0))
 ds:W.heap[w1.heap.size + 1 + 1 + 1]? = some (.cells #[lv] 55 (0,0))
 oL:W.ownsRow (w1.heap.size + 4) 3 1 L D.length (D.map (Value.int .i64))
 oV:W.ownsRow (w1.heap.size + 4) 3 1 V C.length (C.map (Value.int .i64))
 ap:∀ g,L.ownBlock = some g → V.ownBlock ≠ some g
def QuI (w1:World) (rv ov lv:Value) (q:List Dlg) (W:World):Prop:=∃ L V,QuV w1 rv ov lv L V (dlrL q) (comL q) W
section
variable {w1:World} {rv ov lv L V:Value} {D C:List Int} {W W':World}
theorem QuV.big (h:QuV w1 rv ov lv L V D C W):w1.heap.size + 4 ≤ W.heap.size:=row_lt h.ds
theorem QuV.below (h:QuV w1 rv ov lv L V D C W) (hb:Below W.heap.size W W'):QuV w1 rv ov lv L V D C W':=
 ⟨h.be.trans (hb.mono h.be.size),(hb.block _ (row_lt h.rk)).trans h.rk,(hb.block _ (row_lt h.ro)).trans h.ro,(hb.block _ (row_lt h.pr)).trans h.pr,(hb.block _ (row_lt h.ds)).trans h.ds,own_keep h.oL hb,own_keep h.oV hb,h.ap⟩
theorem QuV.sim (h:QuV w1 rv ov lv L V D C W) {B:Nat} (hB:w1.heap.size ≤ B) (hs:Sim B W W'):QuV w1 rv ov lv L V D C W':=
 ⟨h.be.trans ((sim_below hs).mono hB),hs.cells _ _ h.rk rfl,hs.cells _ _ h.ro rfl,hs.cells _ _ h.pr rfl,hs.cells _ _ h.ds rfl,own_sim h.oL hs,own_sim h.oV hs,h.ap⟩
theorem QuI.sim {q:List Dlg} (h:QuI w1 rv ov lv q W) {B:Nat} (hB:w1.heap.size ≤ B) (hs:Sim B W W'):QuI w1 rv ov lv q W':=by
 obtain ⟨L,V,h⟩:=h
 exact ⟨L,V,h.sim hB hs⟩
theorem QuV.first (h:QuV w1 rv ov lv L V D C W) {V':Value} {C':List Int} (hb:Below W.heap.size W W') (ho:W'.ownsRow W.heap.size 3 1 V' C'.length (C'.map (Value.int .i64))):QuV w1 rv ov lv L V' D C' (W'.setCell ⟨w1.heap.size,3,none⟩ V'):=by
 have h2:=h.below hb
 have hbg:=h.big
 have far:∀ k,k ≠ w1.heap.size → (W'.setCell ⟨w1.heap.size,3,none⟩ V').heap[k]? = W'.heap[k]?:=fun k hk => Below.heap_setCell _ _ _ _ hk
 refine ⟨h2.be.setCell (Nat.le_refl _) _,row_set h2.rk 3 V',(far _ (by omega)).trans h2.ro,(far _ (by omega)).trans h2.pr,(far _ (by omega)).trans h2.ds,own_keep_set h2.oL (by omega) _,own_keep_set (own_low ho hbg) (by omega) _,fun g e1 e2 => ?_⟩
 have:=(own_lt h.oL g e1).2
 have:=(own_lt ho g e2).1
 omega
theorem QuV.put {g n cap k:Nat} {z:Int} (h:QuV w1 rv ov lv L (.slice (some ⟨g,0,none⟩) n cap) D C W) (hn:n = C.length):QuV w1 rv ov lv L (.slice (some ⟨g,0,none⟩) n cap) D (C.set k z) (W.setCell ⟨g,k,none⟩ (.int .i64 z)):=by
 subst hn
 have hg:=(own_lt h.oV g rfl).1
 have far:∀ i,i ≠ g → (W.setCell ⟨g,k,none⟩ (.int .i64 z)).heap[i]? = W.heap[i]?:=fun i hi => Below.heap_setCell _ _ _ _ hi
 refine ⟨h.be.setCell (by show w1.heap.size ≤ g; omega) _,(far _ (by omega)).trans h.rk,(far _ (by omega)).trans h.ro,(far _ (by omega)).trans h.pr,(far _ (by omega)).trans h.ds,owns_setCell_other h.oL (fun g2 e e2 => h.ap g2 e (by rw [← e2]; rfl)) _,?_,h.ap⟩
 rw [List.length_set,List.map_set]
 exact (own_set36 h.oV k _).2.2
theorem QuV.more {z:Int} {L':Value} (h:QuV w1 rv ov lv L V D C W) (hg:W.grownBy W' L.ownBlock) (ho:W'.ownsRow (w1.heap.size + 4) 3 1 L' (D.length + 1) (D.map (Value.int .i64) ++ [.int .i64 z])) (hl:L'.ownBlock = L.ownBlock ∨ ∃ g,L'.ownBlock = some g ∧ W.heap.size ≤ g):QuV w1 rv ov lv L' V (D ++ [z]) C (W'.setCell ⟨w1.heap.size + 1,0,none⟩ L'):=by
 have hb:=own_below h.oL hg h.big
 have far:∀ k,k ≠ w1.heap.size + 1 → (W'.setCell ⟨w1.heap.size + 1,0,none⟩ L').heap[k]? = W'.heap[k]?:=fun k hk => Below.heap_setCell _ _ _ _ hk
 refine ⟨(h.be.trans (hb.mono (Nat.le_add_right _ _))).setCell (Nat.le_succ _) _,(far _ (by omega)).trans ((hb.block _ (by omega)).trans h.rk),row_set ((hb.block _ (by omega)).trans h.ro) 0 L',(far _ (by omega)).trans ((hb.block _ (by omega)).trans h.pr),(far _ (by omega)).trans ((hb.block _ (by omega)).trans h.ds),?_,own_keep_set (own_apart h.oV hg fun g e1 e2 => h.ap g e2 e1) (by omega) _,fun g e1 e2 => ?_⟩
 ·refine own_keep_set ?_ (by omega) _
  rw [List.length_append,List.map_append]; exact ho
 ·rcases hl with hl | ⟨g2,hl,hz⟩
  ·exact h.ap g (hl ▸ e1) e2
  ·rw [hl] at e1; injection e1 with e1; subst e1
   have:=(own_lt h.oV _ e2).2
   omega
end
theorem KeepsL.setCell (W:World) (p:Addr) (v:Value):KeepsL W (W.setCell p v):=keeps_l (KeepsOthers.setCell _ _ _)
theorem keepsL_grown {W W':World} {base size n:Nat} {e:TypeId} {v:Value} {xs:List Value} (h:W.ownsRow base e size v n xs) (hg:W.grownBy W' v.ownBlock):KeepsL W W':=keeps_l (keeps_grown h hg)
theorem own_form {W:World} {base n:Nat} {e:TypeId} {v:Value} {xs:List Value} (h:W.ownsRow base e 1 v n xs):∃ a c,v = .slice a n c:=by
 rcases h.2 with ⟨rfl,h0⟩ | ⟨g,cap,cur,rfl,-⟩
 ·exact ⟨none,0,by rw [h0]⟩
 ·exact ⟨_,_,rfl⟩
theorem own_at37 {W:World} {base n:Nat} {e:TypeId} {v:Value} {xs:List Value} (h:W.ownsRow base e 1 v n xs) (hn:0 < n):∃ g cap,v = .slice (some ⟨g,0,none⟩) n cap ∧ base ≤ g ∧ g < W.heap.size ∧ ∀ (k:Nat) (u:Value),k < n → xs[k]? = some u → W.cell? ⟨g,k,none⟩ = some u ∧ W.frozen? ⟨g,k,none⟩ = false:=by
 obtain ⟨hl,h⟩:=h
 rcases h with ⟨-,h0⟩ | ⟨g,cap,cur,rfl,hb,hg,hnc,-,hcs,hcur⟩
 ·omega
 ·refine ⟨g,cap,rfl,hb,row_lt hg,fun k u hk hu => ⟨row_cell hg ?_,row_free hg k⟩⟩
  rw [← Array.getElem?_toList]
  have e2:(cur.toList.take (n * 1))[k]? = some u:=by rw [hcur]; exact hu
  rw [List.getElem?_take] at e2
  by_cases h3:k < n * 1
  ·rw [if_pos h3] at e2; exact e2
  ·rw [if_neg h3] at e2; cases e2
theorem frozen_later {w w':World} {b o:Nat} {v:Value} (hb:Below w.heap.size w w') (hc:w.cell? ⟨b,o,none⟩ = some v) (hf:w.frozen? ⟨b,o,none⟩ = false):w'.frozen? ⟨b,o,none⟩ = false:=by
 obtain ⟨ob,ho,-⟩:=cells_of_cell hc
 rw [World.frozen?_of_block (w:=w) (hb.block _ (row_lt ho))]; exact hf
structure OneSet (w0:World) (g k:Nat) (z:Value) (d:Bool) (w:World):Prop where
 out:∃ W',Below w0.heap.size w0 W' ∧ w = if d = true then W'.setCell ⟨g,k,none⟩ z else W'
theorem OneSet.size {w0:World} {g k:Nat} {z:Value} {d:Bool} {w:World} (h:OneSet w0 g k z d w):w0.heap.size ≤ w.heap.size:=by
 obtain ⟨W',h1,rfl⟩:=h.out
 cases d
 ·exact h1.size
 ·simpa using h1.size
theorem OneSet.below {w0:World} {g k:Nat} {z:Value} {d:Bool} {w w':World} (h:OneSet w0 g k z d w) (hd:d = false) (hb:Below w.heap.size w w'):OneSet w0 g k z d w':=by
 obtain ⟨W',h1,e⟩:=h.out
 subst hd
 simp only [Bool.false_eq_true,if_false] at e
 subst e
 exact ⟨w',h1.trans (hb.mono h1.size),by simp⟩
theorem OneSet.put {w0:World} {g k0:Nat} {z0:Value} {d:Bool} {w:World} (h:OneSet w0 g k0 z0 d w) (hd:d = false) (k:Nat) (z:Value):OneSet w0 g k z true (w.setCell ⟨g,k,none⟩ z):=by
 obtain ⟨W',h1,e⟩:=h.out
 subst hd
 simp only [Bool.false_eq_true,if_false] at e
 subst e
 exact ⟨w,h1,by simp⟩
theorem own_g37 {W:World} {base n g cap:Nat} {e:TypeId} {xs:List Value} (h:W.ownsRow base e 1 (.slice (some ⟨g,0,none⟩) n cap) n xs) {k:Nat} {u:Value} (hk:k < n) (hu:xs[k]? = some u):g < W.heap.size ∧ W.cell? ⟨g,k,none⟩ = some u ∧ W.frozen? ⟨g,k,none⟩ = false:=by
 obtain ⟨g',cap',e1,-,h2,h3⟩:=own_at37 h (by omega)
 simp only [Value.slice.injEq,Option.some.injEq,Addr.mk.injEq] at e1
 obtain ⟨⟨rfl,-,-⟩,-,-⟩:=e1
 exact ⟨h2,h3 k u hk hu⟩
theorem OneSet.done {w0:World} {g k:Nat} {z:Value} {w:World} (h:OneSet w0 g k z true w):∃ W',Below w0.heap.size w0 W' ∧ w = W'.setCell ⟨g,k,none⟩ z:=by
 obtain ⟨W',h1,e⟩:=h.out
 exact ⟨W',h1,by simpa using e⟩
theorem quBox2 (w:World) (rv ov lv:Value):∃ W,W = (w.alloc (.cells #[rv,ov] 25)).alloc (.cells #[lv] 55) ∧ Below w.heap.size w W ∧ W.heap[w.heap.size]? = some (.cells #[rv,ov] 25 (0,0)) ∧ W.heap[w.heap.size + 1]? = some (.cells #[lv] 55 (0,0)) ∧ W.heap.size = w.heap.size + 1 + 1:=by
 obtain ⟨A,hA⟩:∃ A,A = w.alloc (.cells #[rv,ov] 25):=⟨_,rfl⟩
 have s1:A.heap.size = w.heap.size + 1:=by rw [hA]; simp
 have a1:Below w.heap.size w A:=by rw [hA]; exact below_new _ _ _
 have r1:A.heap[w.heap.size]? = some (.cells #[rv,ov] 25 (0,0)):=by rw [hA]; exact World.alloc_heap_new _ _
 have a2:=below_new A #[lv] 55
 refine ⟨A.alloc (.cells #[lv] 55),by rw [hA],a1.trans (a2.mono a1.size),(a2.block _ (by omega)).trans r1,?_,by simp [s1]⟩
 rw [← s1]; exact World.alloc_heap_new _ _
end Go.Proofs.YtggnipkfliompaaGreatDoor
