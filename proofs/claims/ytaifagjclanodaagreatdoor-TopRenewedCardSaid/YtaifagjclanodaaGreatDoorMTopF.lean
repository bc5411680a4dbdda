/- The row of TopRenewed: its contract. -/
import Derived.Test.YtaifagjclanodaaGreatDoorCards
import Derived.Test.YtaifagjclanodaaGreatDoorTie
import Derived.Test.YtaifagjclanodaaGreatDoorMTpM
import Derived.SevenTiedAt
set_option maxRecDepth 100000
namespace Go.Proofs.YtaifagjclanodaaGreatDoor
open Go.Proofs.Tryz
open Go.ChangeShapes Go.WideShapes Go.ChangeAt Go.RowKit Go.Deep
theorem topRenewed_contract(j:Type)(f:TypeId×Value->j)(b:World)(B:Nat)(args:Array Value)(e n:List (DataW j))(C:List MemPlace)
  (a:∀(o:Nat) p c,Tryz.f3.params[o]?=some p->args[o]?=some c->Value.okWide prog b .any B p c)
  (h:DataW.Whole f prog Tryz.f3.params.toList Rows.topRenewedSpec.vars false b args.toList e n C) (O:gz b)
  (d:(DataW.weightsEach prog (Tryz.f3.params.toList++Rows.topRenewedSpec.plain.varTypes prog) (e++n)).all (·<=reachBytes)=true):
  Calls prog 3 args b λm l=>∃c,m=.returned c/\Rows.topRenewedSpec.post f prog Tryz.f3 false true false false b args c l:=by
 obtain⟨z0,z1,y,P,rfl,hfz,nY⟩:=id h;have g:DataW.TrodAll f prog b 0 (λ_=>true) true Tryz.f3.params.toList args.toList e z0:=y;have k:=g;rw[params3]at g a d;obtain⟨q,vs0,d0,ds0,p0,q0,az2,rfl,rfl,E,r0⟩:=trodAll_cons g;obtain⟨r,vs1,d1,ds1,p1,q1,rfl,rfl,rfl,F,r1⟩:=trodAll_cons r0;obtain⟨s,vs2,d2,ds2,p2,q2,rfl,rfl,rfl,G,r2⟩:=trodAll_cons r1;obtain⟨t,vs3,d3,ds3,p3,q3,rfl,rfl,rfl,H,r3⟩:=trodAll_cons r2;obtain⟨u,vs4,d4,ds4,p4,q4,rfl,rfl,rfl,I,r4⟩:=trodAll_cons r3;obtain⟨v,vs5,d5,ds5,p5,q5,rfl,rfl,rfl,K,r5⟩:=trodAll_cons r4;obtain⟨w,vs6,d6,ds6,p6,q6,rfl,rfl,rfl,L,r6⟩:=trodAll_cons r5;obtain⟨i,vs7,d7,ds7,p7,q7,rfl,rfl,rfl,M,r7⟩:=trodAll_cons r6;obtain⟨x,vs8,d8,ds8,p8,q8,rfl,rfl,rfl,N,r8⟩:=trodAll_cons r7;obtain⟨rfl,rfl,rfl⟩:=trodAll_nil r8;obtain rfl:args=#[q,r,s,t,u,v,w,i,x]:=by cases args;simp_all
 obtain⟨rfl,rfl⟩:=trodVars_none P;simp only[FN]at h k;obtain⟨r0',o0',x0,y0,rfl,kr0,ko0⟩:=agP (a 0 25 q rfl rfl) E (YZ d (l:=0) rfl rfl);obtain⟨r1',o1',x1,y1,rfl,kr1,ko1⟩:=agP (a 1 25 r rfl rfl) F (YZ d (l:=1) rfl rfl);obtain⟨x2,rfl,rfl,-,S⟩:=open_int underlying5 (a 2 5 s rfl rfl) G;obtain⟨x3,rfl,rfl,-,T⟩:=open_int underlying5 (a 3 5 t rfl rfl) H;obtain⟨x4,rfl,rfl,-,W⟩:=open_int underlying5 (a 4 5 u rfl rfl) I;obtain⟨x5,rfl,rfl,-,X⟩:=open_int underlying26 (a 5 26 v rfl rfl) K;obtain⟨x6,rfl,rfl,-,Z⟩:=open_int underlying26 (a 6 26 w rfl rfl) L;obtain⟨x7,k7⟩:=arn (okWide_slice underlying27 (a 7 27 i rfl rfl)) M (YZ d (l:=7) rfl rfl);obtain⟨z,n8',D,rfl,k8⟩:=ayz (okWide_slice underlying28 (a 8 28 x rfl rfl)) N;refine(topRenewed_any r0' o0' r1' o1' i z n8' D x0 y0 x1 y1 x2 x3 x4 x5 x6 x7 b O kr0 ko0 kr1 ko1 (Xi S) (Xi T) (Xi W) (aki X) (aki Z) k7 k8).mono λm l ⟨R,Q⟩=>⟨_,R,?_⟩;exact anu rfl rfl (by kernel_rfl) k h Q rfl
theorem topRenewed_lifted(os:Os)(n:os.Started)(b:Type)(enc:TypeId×Value->b):
  ReturnsInHanded {} checked os 3 .any (λa args=>(Rows.topRenewedSpec.pre enc prog Tryz.f3 [] false a args/\laidMetH prog Rows.topRenewedRow.laid a)/\sizedMet enc prog Tryz.f3 (OpenSpec.ofChange Rows.topRenewedSpec) false a args)
   (Rows.topRenewedSpec.post enc prog Tryz.f3 false true false false):=by
 refine returnsInHanded_of_change_and (C:=checked) (X:=λa _=>laidMetH prog Rows.topRenewedRow.laid a) (λ_ _ _ l i=>i.of_heap l) ann n (by kernel_rfl) func3
  (ChangeSpec.witness_shaped (enc:=enc) (C:=checked) (os:=os) (X:=λa _=>laidMetH prog Rows.topRenewedRow.laid a) false (World.doorLaid prog 4000 os) #[.agg #[(),()],.agg #[(),()],.int .u8 0,.int .u8 0,.int .u8 0,.int .u16 0,.int .u16 0,(),()] 8 rfl (World.shaped_of_RefB (by kernel_rfl) (by kernel_rfl)) (by kernel_rfl) (by kernel_rfl) (by kernel_rfl) (ayx os _)) ?_
 intro d e args g h f m k _ c j _;exact topRenewed_contract b enc d e args g h f m k (ayw j) c
