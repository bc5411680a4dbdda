/- The row of KeygenQualifiedSpec: its contract. -/
import Derived.Test.YtggnipkfliompaaGreatDoorMKqE
import Derived.Test.YtggnipkfliompaaGreatDoorMOpenR
import Derived.Test.YtggnipkfliompaaGreatDoorCards
import Derived.Test.YtggnipkfliompaaGreatDoorTie
import Derived.SevenTiedAt
set_option maxRecDepth 100000
namespace Go.Proofs.YtggnipkfliompaaGreatDoor
open Go.ChangeShapes Go.WideShapes Go.ChangeAt Go.RowKit Go.Deep
theorem keygenQualifiedSpec_contract (H:Type) (enc:TypeId × Value → H) (W:World) (base:Nat) (args:Array Value) (ds gs:List (DataW H)) (before:List MemPlace)
  (hval:∀ (j:Nat) t v,Tryz.f8.params[j]? = some t → args[j]? = some v → Value.okWide Tryz.prog W .any base t v)
  (hW:DataW.Whole enc Tryz.prog Tryz.f8.params.toList Rows.keygenQualifiedSpecSpec.vars false W args.toList ds gs before) (hL:Glob W)
  (hreach:(DataW.weightsEach Tryz.prog (Tryz.f8.params.toList ++ Rows.keygenQualifiedSpecSpec.plain.varTypes Tryz.prog) (ds ++ gs)).all (· ≤ reachBytes) = true) :
  Calls Tryz.prog 8 args W fun e W' => ∃ v,e = .returned v ∧ Rows.keygenQualifiedSpecSpec.post enc Tryz.prog Tryz.f8 false true false false W args v W':=by
 obtain ⟨p,q,hA0,hV,rfl,hfz,hnd⟩:=id hW
 have hA:DataW.TrodAll enc Tryz.prog W 0 (fun _ => true) true Tryz.f8.params.toList args.toList ds p:=hA0
 have hA2:=hA
 rw [Tryz.params8] at hA hval hreach
 obtain ⟨v0,vs0,d0,ds0,p0,q0,hargs,rfl,rfl,h0,r0⟩:=trodAll_cons hA
 obtain ⟨v1,vs1,d1,ds1,p1,q1,rfl,rfl,rfl,h1,r1⟩:=trodAll_cons r0
 obtain ⟨v2,vs2,d2,ds2,p2,q2,rfl,rfl,rfl,h2,r2⟩:=trodAll_cons r1
 obtain ⟨v3,vs3,d3,ds3,p3,q3,rfl,rfl,rfl,h3,r3⟩:=trodAll_cons r2
 obtain ⟨v4,vs4,d4,ds4,p4,q4,rfl,rfl,rfl,h4,r4⟩:=trodAll_cons r3
 obtain ⟨v5,vs5,d5,ds5,p5,q5,rfl,rfl,rfl,h5,r5⟩:=trodAll_cons r4
 obtain ⟨v6,vs6,d6,ds6,p6,q6,rfl,rfl,rfl,h6,r6⟩:=trodAll_cons r5
 obtain ⟨rfl,rfl,rfl⟩:=trodAll_nil r6
 obtain rfl:args = #[v0,v1,v2,v3,v4,v5,v6]:=by cases args; simp_all
 obtain ⟨rfl,rfl⟩:=trodVars_none hV
 simp only [List.append_nil] at hW hA2
 obtain ⟨r0',o0',x0,y0,rfl,kr0,ko0⟩:=open_program (hval 0 25 v0 rfl rfl) h0 (light_of hreach (j:=0) rfl rfl)
 obtain ⟨x1,k1⟩:=open_list (okWide_slice Tryz.underlying23 (hval 1 23 v1 rfl rfl)) h1 (light_of hreach (j:=1) rfl rfl)
 obtain ⟨x2,y2,k2⟩:=open_dealings (okWide_slice Tryz.underlying55 (hval 2 55 v2 rfl rfl)) h2 (light_of hreach (j:=2) rfl rfl)
 obtain ⟨x3,k3⟩:=open_complaints (okWide_slice Tryz.underlying62 (hval 3 62 v3 rfl rfl)) h3 (light_of hreach (j:=3) rfl rfl)
 obtain ⟨x4,rfl,rfl,-,k4⟩:=open_int Tryz.underlying3 (hval 4 3 v4 rfl rfl) h4
 obtain ⟨x5,rfl,rfl,-,k5⟩:=open_int Tryz.underlying3 (hval 5 3 v5 rfl rfl) h5
 obtain ⟨x6,k6⟩:=open_list (okWide_slice Tryz.underlying23 (hval 6 23 v6 rfl rfl)) h6 (light_of hreach (j:=6) rfl rfl)
 refine (keygenQualifiedSpec_all r0' o0' v1 v2 v3 v6 x0 y0 x1 x2 y2 x3 x4 x5 x6 W kr0 ko0 k1 k2 k3 (wf_r64 k4) (wf_r64 k5) k6 hL).mono fun e W' ⟨he,hb⟩ => ⟨_,he,?_⟩
 exact law_post rfl rfl (by kernel_rfl) hA2 hW hb rfl
theorem keygenQualifiedSpec_lifted (os:Os) (started:os.Started) (H:Type) (enc:TypeId × Value → H) :
  ReturnsInHanded {} Tryz.checked os 8 .any (fun w args => (Rows.keygenQualifiedSpecSpec.pre enc Tryz.prog Tryz.f8 [] false w args ∧ laidMetH Tryz.prog Rows.keygenQualifiedSpecRow.laid w) ∧ sizedMet enc Tryz.prog Tryz.f8 (OpenSpec.ofChange Rows.keygenQualifiedSpecSpec) false w args)
   (Rows.keygenQualifiedSpecSpec.post enc Tryz.prog Tryz.f8 false true false false):=by
 refine returnsInHanded_of_change_and (C:=Tryz.checked) (X:=fun w _ => laidMetH Tryz.prog Rows.keygenQualifiedSpecRow.laid w) (fun _ _ _ hh h => h.of_heap hh) ownKnobP started (by kernel_rfl) Tryz.func8
  (ChangeSpec.witness_shaped (enc:=enc) (C:=Tryz.checked) (os:=os) (X:=fun w _ => laidMetH Tryz.prog Rows.keygenQualifiedSpecRow.laid w) false (World.doorLaid Tryz.prog 4000 os) #[.agg #[.slice none 0 0,.slice none 0 0],.slice none 0 0,.slice none 0 0,.slice none 0 0,.int .i64 0,.int .i64 0,.slice none 0 0] 8 rfl (World.shaped_of_RefB (by kernel_rfl) (by kernel_rfl)) (by kernel_rfl) (by kernel_rfl) (by kernel_rfl) (door_met os _)) ?_
 intro W base args ds gs before hval hW _ hreach hL _
 exact keygenQualifiedSpec_contract H enc W base args ds gs before hval hW (glob_of_laid hL) hreach
end Go.Proofs.YtggnipkfliompaaGreatDoor
