/- Package partial: the rows of a keeper; find; begin, at no key. Package partial: Make, where all is right. -/
import Derived.Test.YtaifagjclanodaaGreatDoorMPaF
import Derived.Test.YtaifagjclanodaaGreatDoorMKgM
set_option maxHeartbeats 16000000
set_option maxRecDepth 100000
namespace Go.Proofs.YtaifagjclanodaaGreatDoor
open Go.Proofs.Tryz
open Go.RowKit FP
variable{d:World}
attribute [local go_sem] Oper.semAt_some
theorem axZ(S R e:Nat)(q:Int)(g:Value)(p:V)(I:Nat->World->Prop)
  (B:∀b d,I b d->aM d g p/\d.cell? ⟨S,0,none⟩=some (.pointer (some ⟨e,0,none⟩))/\d.cell? ⟨R,0,none⟩=some (.int .i64 q)/\d.cell? ⟨e,2,none⟩=some g):
  wL prog 62 #[.pointer (some ⟨S,0,none⟩),.pointer (some ⟨R,0,none⟩)] (bP p [q] p.length).length (λb=>#[.int .i64 ((bP p [q] p.length).getD b 0)]) I:=by
 intro ll z3 Jx d O hA Q N;obtain⟨K,c0,c1,c2⟩:=B 0 d (O 0 d N);obtain⟨al,cl,rfl,-,hl,-⟩:=id K;obtain⟨X,Z⟩:=aR B Q;refine FH func62 rfl trivial ?_ rfl;simp only[ntmps62,kS,dZ,je,Nat.reduceAdd,Nat.reduceSub,kU,kV,kW,kX,jf,jn];clear K B Q hA
 gi_wp2
 gi_loopw[4,5,13] (λ_ _ F wr=>∃b:Nat,b<=p.length/\F=.int .i64 b/\z3 (bP p [q] b).length wr) (λ_ _ F _=>p.length-(intOf F).toNat)
 case atStart=>exact⟨0,bS _,rfl,N⟩
 case round =>
  obtain⟨b,hj,rfl,x⟩:=hrel;by_cases L:b<p.length
  ·obtain⟨P,z0,z1,z2⟩:=X.1 _ wr (O _ wr x);obtain⟨mq,b2,o2,n2,k2,M,y2⟩:=P.get (k:=b) L;simp only[dr]at M;obtain⟨rfl,-,-⟩:=M;have i0:0<=(b:Int):=by omega
   have i1:(b:Int)<(p.length:Int):=by omega
   obtain⟨E,C⟩:=aK (J p b);rw[<-C]at y2 mq;obtain⟨H,G⟩:=aR C x;clear P C x;by_cases w:E=q
   ·have hd:(E==q)=true:=gI.2 w;have z:J p b∈[q]:=by rw[<-H.1,w];simp
    obtain⟨T,D⟩:=aaf (g:=p) (f:=[q]) L z;obtain⟨W,y⟩:=aR D (show(bP p [q] (b+1)).length=(bP p [q] b).length+1 by rw[Mb z];simp);obtain⟨fn,tmps,assign,body,hy,hR⟩:=Z.1 _ wr G.1 D;simp only[T]at hy;clear w T D z
    gi_wp2
    refine⟨rfl,hR.mono ?_⟩;rintro z0z W3 (⟨rfl,yu⟩|⟨rfl,uV⟩)
    ·gi_wp2
     go_roundw;case rel=>exact⟨b+1,by omega,by go_num,by rw[y.1];exact yu⟩
     case measure=>simp[intOf];omega
    ·gi_wp2
     refine gB (xX rfl _ _ _) rfl ?_;exact⟨⟨_,rfl⟩,.inr ⟨_,by have:=W.1;omega,uV⟩⟩
   ·have hd:(E==q)=false:=eH.2 w;have y:=A (show(bP p [q] (b+1)).length=(bP p [q] b).length by rw[PX (by rw[<-H.1];simpa using w)]);clear w
    gi_wp2
    refine⟨λ_ z1z=>(by cases z1z),?_⟩
    gi_wp2
    go_roundw;case rel=>exact⟨b+1,by omega,by go_num,by rw[y.1];exact G.1⟩
    case measure=>simp[intOf];omega
  ·obtain rfl:b=p.length:=by omega
   gi_wp2
   go_end0;exact⟨⟨_,rfl⟩,.inl x⟩
theorem ax0:eQ prog 62:=iw func62 (by kernel_rfl) rfl
theorem ax1(e:Nat)(b:Int)(a:World):
  Calls prog 17 #[(e,0),b] a λp k =>
   p=.returned (.func (.func 62) #[] #[(a,0),(a.heap.size+1,0)])/\k=(a.alloc (.cells #[(e,0)] 55)).alloc (.cells #[b] 3):=by
 go_enter func17,ntmps17;go_wp2_with fail;go_ret;exact⟨rfl,rfl⟩
theorem ax2(B:Nat)(k b C q w:Int)(a:World)(z:a.cell? (B,0)=k):
  Calls prog 59 #[.agg #[b,C,q,w],(B,0)] a λG F=>G=.returned (.bool (b==k))/\Below a a F:=by
 obtain⟨H,x,p,y⟩:=tm a b C q w 59;have I:=Y y (k:=0) (d:=b) rfl;have K:=U p z;obtain⟨E,D⟩:=aR x p;clear x p y z;go_enter func59,ntmps59;go_wp2_with (rw[<-E.1]);go_ret;exact⟨rfl,D.1⟩
theorem ax3:eQ prog 59:=iw func59 (by kernel_rfl) rfl
def FB(b:Int):Bool:=decide (b<0)||decide (b>=1073741789)
theorem ax4(b:Int)(a:World):Calls prog 61 #[b] a λx w=>x=.returned (.bool (FB b))/\a=w:=by
 by_cases k:b<0
 ·have q:decide (b<0)=true:=bB k;have p:Hid (FB b=true):=A (by unfold FB;rw[q];rfl);clear k;go_enter func61,ntmps61;go_wp2_with fail;go_ret;exact⟨cg p.1.symm,rfl⟩
 ·have q:decide (b<0)=false:=bw k;have p:Hid (FB b=decide (b>=1073741789)):=A (by unfold FB;rw[q];rfl);clear k;go_enter func61,ntmps61;go_wp2_with fail;go_ret;exact⟨cg p.1.symm,rfl⟩
theorem ax5:eQ prog 61:=iw func61 (by kernel_rfl) rfl
theorem ax6(B:Nat)(M:Value)(c:List (Int×Int×Int×Int))(k:Nat)(hi:k<c.length)(G:∀q (G:q<c.length),q<k->c[q].1≠c[k].1)(a:World)(P:vG a M c)(K:a.cell? (B,0)=some (.int .i64 c[k].1)):
  Calls prog 58 #[M,.func (.func 59) #[] #[(B,0)]] a λx R=>x=.returned k/\Below a a R:=by
 obtain⟨z0z,cap,rfl,hc,hl,Q,L⟩:=P;obtain⟨O,N⟩:=aR L G;have FR:∀(args:Array Value) (a:World),(callFunc 59 args).run prog a=.ok (.enter 59 args) a:=ax3;clear L G Q;go_enter func58,ntmps58;go_wp2_with fail;go_loopw[5,8] (λ_ q d=>∃b:Nat,b<=k/\q=b/\Below a a d) (λ_ q _=>k+1-(intOf q).toNat);case atStart=>exact⟨0,bS _,rfl,aY _ _⟩
 case round =>
  obtain⟨b,Oy,rfl,p⟩:=hrel;have I:b<c.length:=by omega
  obtain⟨z0,off,rfl,C,D,E,F⟩:=O.1 b I;have x1:=U p C;have x2:=U p D;have x3:=U p E;have x4:=U p F;have y:=A (ax2 B c[k].1 c[b].1 c[b].2.1 c[b].2.2.1 c[b].2.2.2 wr (U p K));have i0:(0:Int)<=(b:Int):=by omega
  have i1:(b:Int)<(c.length:Int):=by omega
  have H:=A p;by_cases x:b=k
  ·subst x;have w:(c[b].1==c[b].1)=true:=beq_self_eq_true _;rw[w]at y;clear w C D E F p;generalize c[b].1=T at *;generalize c[b].2.1=W at *;generalize c[b].2.2.1=X at *;generalize c[b].2.2.2=Z at *;go_wp2_with fail;refine y.1.mono ?_;rintro x S ⟨rfl,z⟩;go_wp2_with fail;go_ret;exact⟨rfl,ar H.1 z⟩
  ·have w:(c[b].1==c[k].1)=false:=eH.2 (N.1 b I (by omega));rw[w]at y;clear w C D E F p K;generalize c[b].1=T at *;generalize c[b].2.1=W at *;generalize c[b].2.2.1=X at *;generalize c[b].2.2.2=Z at *;go_wp2_with fail;refine y.1.mono ?_;rintro x S ⟨rfl,z⟩;go_wp2_with fail;go_roundw;case rel=>exact⟨b+1,by omega,by go_num,ar H.1 z⟩
   case measure=>simp[intOf];omega
theorem ax7(e:Nat)(i:Int)(j g cv m pv n l O:Value)(t s h:Int)(f:aO)(AL:List aO)(c:List (Int×Int×Int×Int))(b:Nat)(hi:b<c.length)(F:∀z3z (F:z3z<c.length),z3z<b->c[z3z].1≠c[b].1)(y:V)(a:World)(hW:xx e i j g cv m pv n l t s h f AL a)(T:vG a pv c)(W:aM a O y)(hn:∀P∈y,0<=P/\P<1073741789):
  Calls prog 16 #[(e,0),.int .i64 c[b].1,O] a λE K=>E=.returned (.tuple #[.agg #[.int .i64 c[b].1,.int .i64 c[b].2.1,.int .i64 c[b].2.2.1,.int .i64 c[b].2.2.2],(0:Int)])/\Below a a K:=by
 obtain⟨M,H⟩:=aK (a.alloc (.cells #[.int .i64 c[b].1] 3));have au:Below a a M:=H▸bk _ _ _;have bX:M.heap.size=a.heap.size+1:=by rw[H];simp
 have iP:M.cell? (a,0)=some (.int .i64 c[b].1):=by rw[H];exact Y (World.alloc_heap_new _ _) rfl
 obtain⟨W2,S,Q,R⟩:=tm M (0:Int) (0:Int) (0:Int) (0:Int) 59;rw[bX]at R;have x:=ar au Q;rw[H]at S;obtain⟨kG,Wn⟩:=aR S (ax6 a.heap.size pv c b hi F W2 (T.below x) (U Q iP));have HOD:Hid (y.any FB=false):=A (by
  rw[FK];intro P hm;obtain⟨h1,h2⟩:=hn P hm;unfold FB;rw[bw (by omega),bw (by omega)];decide)
 have L:=A (W.below x);have zy:Hid (∀q,aM q O y->Calls prog 60 #[O,.func (.func 61) #[] #[]] q λE K=>E=.returned (.bool (y.any FB))/\Below q q K):=A (λq h3 =>
  wx 61 #[] FB _ y _ h3 ax5 (λz0 _ K _=>(ax4 z0 K).mono λE eN F=>⟨F.1,F.2▸aY _ _⟩))
 obtain⟨nA,nC,rfl,-⟩:=id W;obtain⟨pA,pC,rfl,hpc,iI,AO,Be⟩:=T.below x;obtain⟨pb,po,rfl,z,B,C,D⟩:=Be b hi;have da:=az x hW.row;have w:=Y da (k:=5) (d:=.slice (pb,po) c.length pC) rfl;obtain⟨G,k⟩:=aR x R;have i0:(0:Int)<=(b:Int):=by omega
 have i1:(b:Int)<(c.length:Int):=by omega
 have i2:decide ((b:Int)<0)=false:=bw (by omega);clear hW T W hn H au bX iP S Q R x Be da F AO;generalize c[b].1=X at *;generalize c[b].2.1=Z at *;generalize c[b].2.2.1=z3 at *;generalize c[b].2.2.2=z4 at *;go_enter func16,ntmps16;go_wp2_with (rw[<-kG.1]);refine Wn.1.mono ?_;rintro E q ⟨rfl,I⟩;obtain⟨L,G,k⟩:=bJ (L.1.below I) (ar G.1 I) (az I k.1);refine acA I w z B C D ?_;clear w z B C D;intro w z B C D;clear Wn I kG;go_wp2_with fail;refine(zy.1 q L.1).mono ?_;rintro E w4 ⟨rfl,N⟩;rw[HOD.1];replace G:=A (ar G.1 N);replace k:=A (az N k.1);refine acA N w z B C D ?_;clear w z B C D;intro w z B C D;clear N zy HOD L;obtain⟨x0,x1,x2,x3⟩:=fh k.1;have f0:=cB k.1;have hq:=cK (cK (cK (cK k.1 0 X) 1 Z) 2 z3) 3 z4;have JB:=A ((((G.1.setCell (p:=(a.heap.size+1,0)) (eP _) X).setCell (p:=(a.heap.size+1,1)) (eP _) Z).setCell (p:=(a.heap.size+1,2)) (eP _) z3).setCell (p:=(a.heap.size+1,3)) (eP _) z4);obtain⟨p0,p1,p2,p3⟩:=fh hq;clear hq;go_wp2_with fail;refine gB (v:=.tuple #[.agg #[X,Z,z3,z4],(0:Int)]) (by simp[results,results16,go_sem,p0,p1,p2,p3]) rfl ⟨rfl,JB.1⟩
theorem ax8(a:World):bI a () []:=⟨none,0,rfl,aP _,bS _,λ_k b=>absurd b (fG _)⟩
theorem ax9(a:World):Calls prog 52 #[.agg #[(0:Int),(),(),()]] a λp k=>p=.returned false/\Below a a k:=by
 have b:=bk a #[(0:Int),(),(),()] 33;go_enter func52,ntmps52;go_wp2_with fail;go_ret;exact⟨rfl,b⟩
theorem aya(a:World):Calls prog 15 #[.agg #[(0:Int),(),(),()],(),()] a λx H=>x=.returned (.tuple #[.pointer none,(380:Int)])/\Below a a H:=by
 obtain⟨E,D,B,C,-⟩:=lF a (0:Int) () () () 33;have y:=A (sW () () [] [] E (ax8 _) (aM.nil _ _ _));rw[show bH [] []=0 from by decide]at y;obtain⟨k,p,q,w⟩:=fh C;obtain⟨G,b⟩:=aR D B;clear D B C;go_enter func15,ntmps15;go_wp2_with (rw[<-G.1]);refine y.1.mono ?_;rintro x I ⟨rfl,z⟩;refine uc z k p q w ?_;clear k p q w;intro k p q w;replace b:=A (ar b.1 z);go_wp2_with fail;refine(ax9 _).mono ?_;rintro x K ⟨rfl,F⟩;replace b:=A (ar b.1 F);go_wp2_with fail;go_ret2;exact⟨rfl,b.1⟩
attribute [local go_sem] DF
theorem aj3{a p:World}{b k:Nat}{y:Value}(q:Below a a p)(w:a.cell? (b,k)=some y)(x:a.frozen? (b,k)=false):p.frozen? (b,k)=false:=by
 rw[Sv (w:=a) (q.block _ (iO w))];exact x
structure ayb(y:World)(q G F:Nat)(j g cv:Value)(x w C B z:Nat)(E D:Int)(k:Nat->Bool)(p:Nat->Value)(a:World):Prop where
 b:Below y y a
 f0:KQ k p 0 (q,1)
 f1:KQ k p 1 (.agg #[j,g])
 f2:KQ k p 2 (q,3)
 f3:KQ k p 3 cv
 f4:KQ k p 4 (.slice (x,w) C B)
 f5:KQ k p 5 z
 f6:KQ k p 6 (x,w+z*2)
 f7:KQ k p 7 (.agg #[E,D])
 f8:KQ k p 8 (.tuple #[true,(0:Int)])
 f9:KQ k p 9 (.tuple #[true,(0:Int)])
 f10:KQ k p 10 true
 f11:KQ k p 11 (0:Int)
 f12:KQ k p 12 true
 f13:KQ k p 13 (0:Int)
structure ayc(q:World)(B Q w P O D E L H y x K G z F:Nat)(N r M I C:Int)(k:Nat->Bool)(p:Nat->Value)(a:World):Prop where
 b:Below B q a
 f0:KQ k p 0 N
 f1:KQ k p 1 (w,0)
 f2:KQ k p 2 (w,0)
 f3:KQ k p 3 (w,6)
 f4:KQ k p 4 (.slice (D,E) L H)
 f5:KQ k p 5 F
 f6:KQ k p 6 (D,E+F)
 f7:KQ k p 7 r
 f8:KQ k p 8 (.slice (y,x) K G)
 f9:KQ k p 9 z
 f10:KQ k p 10 (y,x+z*2)
 f11:KQ k p 11 (y,x+z*2+1)
 f12:KQ k p 12 M
 f13:KQ k p 13 I
 f14:KQ k p 14 C
 lb:k 15=false->Below q q a
 fin:k 15=true->∃d,Below q q d/\a=d.setCell (B,0) C
theorem ig.cells:∀{w:Nat} {a q:World} {z:Value} {p:aO},ig w a z p->(∀k x y,a.cell? ⟨k,x,none⟩=some y->q.cell? ⟨k,x,none⟩=some y)->ig w q z p
 |0,_,_,_,_,b,_=>b
 |w+1,a,q,z,p,b,B=>by
  rcases b with b|⟨I,L,h,C,D,E,F⟩
  ·exact .inl b
  ·exact .inr ⟨I,L,h,C,D,E.cells (λM p H=>ig.cells H B) (λk x y _ K G=>B k K _ G),F⟩
theorem xx.same{e w:Nat}{i:Int}{j g cv m pv n l E:Value}{t s h:Int}{f:aO}{F:List aO}(b:xx e i j g cv m pv n l t s h f F d)(I:e≠w)(N:d.cell? (w,0)=some E):xx e i j g cv m pv n l t s h f F (d.setCell (w,0) E):=by
 have p:=PZ N;obtain⟨q,R,D,k,H,x,y,z,B,C⟩:=b.com;refine⟨(dJ _ _ _ _ I).trans b.row,⟨q,R,D,k,H,x,y,z,B,p _ _ _ C⟩,?_,b.few,?_,b.fewA,b.eachA⟩
 ·obtain⟨q,G,rfl,x,y,z,B⟩:=b.txt;exact⟨q,G,rfl,x,y,z,λD M=>by obtain⟨k,P,C,K⟩:=B D M;exact⟨k,P,C,p _ _ _ K⟩⟩
 ·obtain⟨q,G,rfl,-⟩:=id b.all;exact b.all.cells (λS T O=>O.cells p) (λk H E _ Q L=>p k Q _ L)
structure NS(q:World)(b e:Nat)(k:Int)(w:Nat->Int)(p:Nat)(d:World):Prop where
 be:Below b q d
 r1:d.heap[b]?=QC.mk #[(w p:Int)] 3
 r2:d.heap[b+1]?=QC.mk #[p] 3
 r3:d.heap[b+1+1]?=QC.mk #[(e,0)] 55
 r4:d.heap[b+1+1+1]?=QC.mk #[k] 3
theorem NS.sim{w:World}{e S1:Nat}{k:Int}{x:Nat->Int}{y q:Nat}{o:World}(p:NS w S1 e k x y d)(z:S1<=q)(b:eM q d o):NS w S1 e k x y o:=
 ⟨p.be.trans ((nf b).mono z),b.cells _ _ p.r1 rfl,b.cells _ _ p.r2 rfl,b.cells _ _ p.r3 rfl,b.cells _ _ p.r4 rfl⟩
theorem ayd(a:World)(B e:Nat)(k:Int)(I:Nat->Int)(K:I 0=0)(L:a.heap.size=B):∃d,d=(((a.alloc (.cells #[(0:Int)] 3)).alloc (.cells #[(0:Int)] 3)).alloc (.cells #[(e,0)] 55)).alloc (.cells #[k] 3)/\NS a B e k I 0 d/\d.heap.size=B+4:=by
 subst L;obtain⟨b,w⟩:=aK (a.alloc (.cells #[(0:Int)] 3));obtain⟨p,x⟩:=aK (b.alloc (.cells #[(0:Int)] 3));obtain⟨W3,y⟩:=aK (p.alloc (.cells #[(e,0)] 55));obtain⟨C,z⟩:=aK (W3.alloc (.cells #[k] 3));have G:b.heap.size=a.heap.size+1:=by rw[w];simp
 have H:p.heap.size=a.heap.size+1+1:=by rw[x];simp[G]
 have s3:W3.heap.size=a.heap.size+1+1+1:=by rw[y];simp[H]
 have E:Below a a b:=w▸bk _ _ _;have F:Below b b p:=x▸bk _ _ _;have D:Below p p W3:=y▸bk _ _ _;have q:Below W3 W3 C:=z▸bk _ _ _;have M:b.heap[a.heap.size]?=QC.mk #[(0:Int)] 3:=by rw[w];exact World.alloc_heap_new _ _
 have N:p.heap[a.heap.size+1]?=QC.mk #[(0:Int)] 3:=by rw[x,<-G];exact World.alloc_heap_new _ _
 have O:W3.heap[a.heap.size+1+1]?=QC.mk #[(e,0)] 55:=by rw[y,<-H];exact World.alloc_heap_new _ _
 have P:C.heap[a.heap.size+1+1+1]?=QC.mk #[k] 3:=by rw[z,<-s3];exact World.alloc_heap_new _ _
 refine⟨C,by rw[z,y,x,w],⟨E.trans ((F.mono E.size).trans ((D.mono (by omega)).trans (q.mono (by omega)))),?_,?_,?_,P⟩,by rw[z];simp[s3]⟩
 ·rw[K];exact(q.block _ (by omega)).trans ((D.block _ (by omega)).trans ((F.block _ (by omega)).trans M))
 ·exact(q.block _ (by omega)).trans ((D.block _ (by omega)).trans N)
 ·exact(q.block _ (by omega)).trans O
structure KG(a:World)(i:Int)(j g cv m pv u n l:Value)(t s h:Int)(f:aO)(c:List (Int×Int×Int×Int))(r:V)(e v:Nat)(d:World):Prop where
 q1:d.heap[a.heap.size]?=QC.mk #[i,j,g,cv] 33
 q2:d.heap[a.heap.size+1]?=QC.mk #[u] 38
 q3:d.heap[a.heap.size+1+1]?=QC.mk #[(0:Int)] 3
 q4:d.heap[a.heap.size+1+1+1]?=QC.mk #[(0:Int)] 29
 qv:d.heap[v]?=QC.mk #[(e,0)] 55
 wk:xx e i j g cv m pv n l t s h f (oB c) d
 hy:aM d n r
 b:Below a a d
 e1:a.heap.size+1+1+1<e
 e2:a.heap.size+1+1+1<v
section
variable {a:World} {i:Int} {j g cv m pv u n l:Value} {t s h:Int} {f:aO} {c:List (Int×Int×Int×Int)} {r:V} {e v:Nat} {d o:World}
theorem KG.below(b:KG a i j g cv m pv u n l t s h f c r e v d)(k:Below d d o):KG a i j g cv m pv u n l t s h f c r e v o:=
 ⟨az k b.q1,az k b.q2,az k b.q3,az k b.q4,az k b.qv,b.wk.below k,b.hy.below k,ar b.b k,b.e1,b.e2⟩
theorem KG.same(b:KG a i j g cv m pv u n l t s h f c r e v d):KG a i j g cv m pv u n l t s h f c r e v (d.setCell (a.heap.size+1+1+1,0) (0:Int)):=by
 have k:=Y b.q4 (k:=0) (d:=(0:Int)) rfl;have p:=b.e1;have q:=b.e2;exact⟨(kO (by omega)).trans b.q1,(kO (by omega)).trans b.q2,(kO (by omega)).trans b.q3,cK b.q4 0 _,(kO (by omega)).trans b.qv,b.wk.same (by omega) k,b.hy.cells (PZ k),b.b.setCell (show a.heap.size<=a.heap.size+1+1+1 by omega) _,b.e1,b.e2⟩
end
def Sn(h:Int)(f:aO)(c:List (Int×Int×Int×Int))(k b p q:Int):Int:=((b+p*BO h f (oB c) k%1073741789)%1073741789+xK h f c*q%1073741789)%1073741789
def aj4(h:Int)(f:aO)(c:List (Int×Int×Int×Int))(k p w x:Int)(a:World)(q:Ending)(b:World):Prop:=q=.returned (.tuple #[.int .i64 (Sn h f c k p w x),.int .i64 0])/\Below a.heap.size a b
theorem aye(i:Int)(j g cv m pv u:Value)(B:ak)(x I:V)(f:aO)(c:List (Int×Int×Int×Int))(sl:bF)(T:Nat)(N O:Int)(a:World)(hG:gz a)(hR:bI a j B)(hO:aM a g x)(hC:aM a cv I)(hT:fC a m f)(hL:vG a pv c)(hS:fK a u sl)
  (hp:bH B x=0) (hk:ks B i I=true) (h0:0<B.length) (G:f.length<=65536) (hl:V0 c) (ha:kK B x (c.map (·.1))=true) (hi:T<c.length) (hd:0<=N/\N<1073741789) (hf:0<=O/\O<1073741789) (hD:c[T].2.2.1=bm 4 N) (hE:c[T].2.2.2=bm 4 O)
  (qN:sl.length=(bP x [c[T].1] x.length).length) (bX:∀y (q:y<sl.length),sl[y].1=((bP x [c[T].1] x.length).getD y 0:Nat)/\0<=sl[y].2/\sl[y].2<1073741789/\ke B x I sl[y].1 sl[y].2=true/\j9 B x I sl[y].1 sl[y].2=0):
  Calls prog 4 #[.agg #[i,j,g,cv],m,pv,.int .i64 c[T].1,u,N,O] a (aj4 (J I 0) f c c[T].1 N O (pI (bQ B x (c.map (·.1))) sl sl.length) a):=by
 obtain⟨L,WU⟩:=aK (c.map (·.1));rw[<-WU]at ha ⊢;obtain⟨C,sZ⟩:=aK (c[T].1);obtain⟨nn,wG⟩:=aK (c[T].2.1);have br:∀y (q:y<c.length),y<T->c[y].1≠c[T].1:=λy q hj M=>by
  have F:=Co.1 (Bz hl.who).2.2.1 y T (by rw[dy];exact q) (by rw[dy];exact hi) hj;rw[gj,gj]at F;omega
 have Dn:Hid (∀(e:Nat) (n l nv:Value) (ww:World),xx e i j g cv m pv n l (sI (J I 0) f c) (xK (J I 0) f c) (J I 0) f (oB c) ww->vG ww pv c->aM ww nv [N,O]->Calls prog 16 #[.pointer (some ⟨e,0,none⟩),C,nv] ww λM E=>M=.returned (.tuple #[.agg #[C,nn,(bm 4 N:Int),(bm 4 O:Int)],(0:Int)])/\Below ww ww E):=A (λe n l nv ww F S h3=>by
  have q:=ax7 e i j g cv m pv n l nv _ _ _ _ _ c T hi br [N,O] ww F S h3 (λR hn=>by
   simp only[iu,oG,oH]at hn;rcases hn with rfl|rfl
   ·exact hd
   ·exact hf)
  rw[hD,hE,<-sZ,<-wG]at q;exact q)
 have wY:0<=C/\C<=63:=by
  rw[sZ];exact(Bz hl.who).1 _ (ey.2 ⟨c[T],bM hi,rfl⟩)
 have QF:0<c.length:=by omega
 rw[<-sZ]at qN bX ⊢;clear hD hE br sZ wG hi;obtain⟨W1,aE,au,Q,-⟩:=lF a i j g cv 33;obtain⟨a4,sC,rfl,-⟩:=id hS;obtain⟨W2,cG⟩:=aK (W1.alloc (.cells #[.slice a4 sl.length sC] 38));obtain⟨W3,dV⟩:=aK (W2.alloc (.cells #[(0:Int)] 3));obtain⟨W4,lD⟩:=aK (W3.alloc (.cells #[(0:Int)] 29));have s1:W1.heap.size=a.heap.size+1:=by rw[aE];simp
 have s2:W2.heap.size=a.heap.size+1+1:=by rw[cG];simp[s1]
 have s3:W3.heap.size=a.heap.size+1+1+1:=by rw[dV];simp[s2]
 have b2:Below W1 W1 W2:=cG▸bk _ _ _;have b3:Below W2 W2 W3:=dV▸bk _ _ _;have b4:Below W3 W3 W4:=lD▸bk _ _ _;have aU:Below a a W4:=au.trans ((b2.mono au.size).trans ((b3.mono (by omega)).trans (b4.mono (by omega))));have Q1:Hid (W4.heap[a.heap.size]?=QC.mk #[i,j,g,cv] 33):=A ((b4.block _ (by omega)).trans ((b3.block _ (by omega)).trans ((b2.block _ (by omega)).trans Q)));have Q2:Hid (W4.heap[a.heap.size+1]?=QC.mk #[.slice a4 sl.length sC] 38):=A ((b4.block _ (by omega)).trans ((b3.block _ (by omega)).trans (by rw[cG,<-s1];exact World.alloc_heap_new _ _)));have Q3:Hid (W4.heap[a.heap.size+1+1]?=QC.mk #[(0:Int)] 3):=A ((b4.block _ (by omega)).trans (by rw[dV,<-s2];exact World.alloc_heap_new _ _));have Q4:Hid (W4.heap[a.heap.size+1+1+1]?=QC.mk #[(0:Int)] 29):=A (by rw[lD,<-s3];exact World.alloc_heap_new _ _);rw[dV,cG,aE]at lD;obtain⟨HW4,Ns,HG,HR,HO,HC,HT,HL,HS⟩:=fx lD (ajc i j g cv m pv B x I f c W4 (hG.below aU) (hR.below aU) (hO.below aU) (hC.below aU) (hT.below aU) (hL.below aU) hp hk h0 G hl QF (WU▸ha)) hG hR hO hC hT hL hS;have HB:=A aU;obtain⟨a1,k1,rfl,-,eI,-⟩:=id hR;obtain⟨a2,k2,rfl,-,dR,-⟩:=id hO;obtain⟨a3,k3,rfl,-,gC,-⟩:=id hC;obtain⟨tA,tC,rfl,-⟩:=id hT;obtain⟨pA,pC,rfl,-,xt,AO,-⟩:=id hL;obtain⟨c0,c1,c2,c3⟩:=fh Q1.1;have z4:=Y Q4.1 (k:=0) (d:=(0:Int)) rfl;have g4:=cB Q4.1 0;obtain⟨HHD,HHF,il⟩:=bJ hd hf qN;have ayf:Hid (sl.length<=1000):=A (by have F:=GG x [C] x.length;have S:=(fs hp).few;have h3:=(fs hp).len;omega);obtain⟨NF,mc,iB,Kj,eT⟩:=gw bX wY WU ha (fs hp);clear hG hR hO hC hT hL hS hp hk h0 G hl ha hd hf qN bX wY WU QF aE cG dV lD au Q b2 b3 b4 aU s1 s2 s3;refine wu func4 rfl ?_;simp only[ntmps4,kS,dZ,je,Nat.reduceAdd,Nat.reduceSub,kU,kV,kW,kX,jf,jn];go_wp2_with (rw[<-HW4.1]);refine Ns.1.mono ?_;rintro M X ⟨e,n,l,rfl,Kd,hy,hBg,au⟩;have hBE:a.heap.size+1+1+1<e:=eJ (bG Q4.1) hBg;have hVE:a.heap.size+1+1+1<X.heap.size:=eJ (bG Q4.1) au.size;obtain⟨yA,yC,rfl,-⟩:=id hy;obtain⟨Z,dk⟩:=aK (X.alloc (.cells #[.pointer (some ⟨e,0,none⟩)] 55));have aG:Below X X Z:=dk▸bk _ _ _;have jV:=ar au aG;have WW:KG a i (.slice a1 B.length k1) (.slice a2 x.length k2) (.slice a3 I.length k3) (.slice tA f.length tC) (.slice pA c.length pC) (.slice a4 sl.length sC) (.slice yA (bQ B x (c.map (·.1))).length yC) l (sI (J I 0) f c) (xK (J I 0) f c) (J I 0) f c (bQ B x (c.map (·.1))) e X.heap.size Z:=
  ⟨az jV Q1.1,az jV Q2.1,az jV Q3.1,az jV Q4.1,by rw[dk];exact World.alloc_heap_new _ _,Kd.below aG,hy.below aG,ar HB.1 jV,hBE,hVE⟩
 have z5:=Y WW.q4 (k:=0) (d:=(0:Int)) rfl;have g5:=cB WW.q4 0;have WX:=WW.same;have kf:(Z.setCell (a.heap.size+1+1+1,0) (0:Int)).heap.size=Z.heap.size:=by simp[World.setCell]
 obtain⟨W7,eE⟩:=aK ((Z.setCell (a.heap.size+1+1+1,0) (0:Int)).alloc (.cells #[N,O] 3));have bz:Below (Z.setCell (a.heap.size+1+1+1,0) (0:Int)).heap.size (Z.setCell (a.heap.size+1+1+1,0) (0:Int)) W7:=eE▸bk _ _ _;have WY:=WX.below bz;have UJ:Hid (aM W7 (.slice (Z,0) 2 2) [N,O]):=A (by
  rw[eE];exact UF (Z.setCell (a.heap.size+1+1+1,0) (0:Int)) [N,O] 3 Z.heap.size kf (λz8 hz=>by
   simp only[iu,oG,oH]at hz;rcases hz with rfl|rfl
   ·exact dK HHD.1
   ·exact dK HHF.1) (by simp))
 obtain⟨HF7,HM7,gX,ou⟩:=cY (Dn.1 e _ l (.slice (Z,0) 2 2) W7 WY.wk (HL.1.below WY.b) UJ.1) WY dk eE;have t0:=Y WX.qv (k:=0) (d:=.pointer (some ⟨e,0,none⟩)) rfl;have z6:=Y WX.q4 (k:=0) (d:=(0:Int)) rfl;clear aG jV WW WX WY dk eE kf bz Kd hy au hBg z4 g4 Dn UJ Ns hBE hVE;go_wp2_with (rw[<-gX.1]);rw[<-ou.1];refine HF7.1.mono ?_;rintro M H ⟨rfl,bg⟩;have WZ:=HM7.1.below bg;obtain⟨z,ff,bA,kI⟩:=tm H C nn (bm 4 N:Int) (bm 4 O:Int) 59;have So:=WZ.below bA;have z9:=Y So.q4 (k:=0) (d:=(0:Int)) rfl;have g9:=cB So.q4 0;have Xa:=So.same;have t10:=Y Xa.qv (k:=0) (d:=.pointer (some ⟨e,0,none⟩)) rfl;have z10:=Y Xa.q4 (k:=0) (d:=(0:Int)) rfl;have aj5:Hid ((z.setCell (a.heap.size+1+1+1,0) (0:Int)).heap[H.heap.size]?=QC.mk #[C,nn,(bm 4 N:Int),(bm 4 O:Int)] 59):=A ((kO (by have:=bG WZ.q4;omega)).trans kI);have dq:Hid (a.heap.size+1+1+1<H.heap.size/\a.heap.size+1+1+1<z.heap.size):=A ⟨bG WZ.q4,bG So.q4⟩;obtain⟨Xb,jI⟩:=aR Xa ff;have t11:(((z.setCell (a.heap.size+1+1+1,0) (0:Int)).alloc (.cells #[(0:Int)] 3)).alloc (.cells #[(0:Int)] 3)).cell? (X,0)=some (.pointer (some ⟨e,0,none⟩)):=U (bk _ _ _) (U (bk _ _ _) t10);clear WZ ff bA kI So Xa HM7 bg z5 g5 t0 z6;go_wp2_with (rw[<-jI.1]);refine(ax1 e C _).mono ?_;rintro M wr ⟨rfl,rfl⟩;obtain⟨WS,Sp⟩:=aK (z.setCell (a.heap.size+1+1+1,0) (0:Int));rw[<-Sp]at Xb aj5 ⊢;have hSS:WS.heap.size=z.heap.size:=by rw[Sp];simp[World.setCell]
 obtain⟨Mq,GO,rN,aj6⟩:=ayd WS z.heap.size e C (λy=>pI (bQ B x L) sl y) rfl hSS;rw[<-GO];obtain⟨Ms,KC⟩:=aR hSS aj6;have HY:∀R,R<(bP x [C] x.length).length->(bP x [C] x.length).getD R 0<(bQ B x L).length/\(bP x [C] x.length).getD R 0<x.length:=λR hn=>by
  have F:=(By (g:=x) (f:=[C]) (b:=x.length) (a:=(bP x [C] x.length).getD R 0) (by rw[dp hn];exact bM hn)).1;have S:=eT.1.len;have h3:(bQ B x L).length=B.length:=by unfold bQ;rw[aD Kj.1];unfold Vg;simp
  omega
 have Wo:∀R,R<(bQ B x L).length->0<=J (bQ B x L) R/\J (bQ B x L) R<1073741789:=λR hn=>by
  rw[di hn];exact(QM eT.1 Kj.1).num _ (bM hn)
 obtain⟨HYY,HYM,ES⟩:=bJ HY Wo (avQ (bQ B x L) sl);have mz:=A (λy (hj:y<sl.length)=>show pI (bQ B x L) sl (y+1)=(pI (bQ B x L) sl y+J (bQ B x L) ((bP x [C] x.length).getD y 0)*sl[y].2%1073741789)%1073741789 from by
  show(pI (bQ B x L) sl y+J (bQ B x L) (tS sl y).1.toNat*(tS sl y).2%1073741789)%1073741789=_;rw[J1 hj,(NF.1 y hj).1,AZ])
 clear Sp hSS GO aj6 t11 t10 z10 z9 g9 HY Wo;go_wp2_with fail;rw[Ms.1];refine OU (h:=62) (m:=#[(z.heap.size+1+1,0),(z.heap.size+1+1+1,0)]) (i:=(bP x [C] x.length).length) (fi:=λy=>#[.int .i64 ((bP x [C] x.length).getD y 0:Nat)]) rfl ax0 (λ_=>rfl)
  (λy=>NS WS z.heap.size e C (λy=>pI (bQ B x L) sl y) y) (λ_ _ _=>False) ?seq ?qH (λ_ _ _ _ q _=>q) rN
  (λy z9z=>(z9z.setIfInBounds 48 (.int .i64 ((bP x [C] x.length).getD y 0:Nat))).setIfInBounds 20 (.int .i64 ((bP x [C] x.length).getD y 0:Nat))) ?assign ?body ?done (λ_ _ _ _ _ _ q=>q.elim)
 case seq =>
  exact axZ (z.heap.size+1+1) (z.heap.size+1+1+1) e C (.slice a2 x.length k2) x _ (λy d q=>by
   have G:Below WS WS d:=Ms.1▸q.be;have K:=Xb.1.below G;exact⟨HO.1.below K.b,Y q.r3 rfl,Y q.r4 rfl,Y K.wk.row rfl⟩)
 case qH=>exact λy d o q hs=>q.sim (by have:=KC.1;omega) hs
 case assign =>
  intro ll y d z7 hK
  gi_wp2
  exact hK
 case body =>
  intro ll y Wb hI aq;have Xc:y<sl.length:=by rw[il.1];exact aq
  obtain⟨W,gm⟩:=aK ((bP x [C] x.length).getD y 0);have fo:Below WS WS Wb:=Ms.1▸hI.be;have K:=Xb.1.below fo;obtain⟨Q,pD,fW,fZ,vM⟩:=NF.1 y Xc;have j5:=mz.1 y Xc;obtain⟨Gh,Y9⟩:=HYY.1 y aq;rw[<-gm]at Q j5 Gh Y9;simp only[<-gm,vZ,zH,AV];obtain⟨aS,cS,eS,-,-,xM,cU⟩:=HS.1.below K.b;obtain⟨sp,so,ea,q1,q2⟩:=cU y Xc;simp only[dr]at eS;obtain⟨rfl,-,rfl⟩:=eS;subst ea;obtain⟨z0,hx⟩:=aK (sl[y].2);obtain⟨z8z,hr⟩:=aK (sl[y].1);rw[<-hr]at Q q1 fZ vM;rw[<-hx]at pD fW q2 fZ vM j5;clear hr hx;subst Q;have iK:Hid (∀d,Below Wb Wb d->Calls prog 18 #[.agg #[.slice a1 B.length k1,.slice a2 x.length k2],.slice a3 I.length k3,.agg #[W,z0]] d λM E=>M=.returned (.tuple #[true,(0:Int)])/\Below d d E):=A (λd G=>by
   have q:=Ep _ _ _ B x I (W:Int) z0 d ((HR.1.below K.b).below G) ((HO.1.below K.b).below G) ((HC.1.below K.b).below G) (by have F:=eT.1.few;have S:=eT.1.len;unfold aN;omega) (dK ⟨pD,fW⟩);rw[fZ,vM]at q;exact q)
  obtain⟨yb,yo,ny,cy,eY,y6⟩:∃b z7z R h,(Value.slice yA (bQ B x (c.map (·.1))).length yC)=.slice (some ⟨b,z7z,none⟩) R h/\Wb.cell? ⟨b,z7z+W,none⟩=(J (bQ B x (c.map (·.1))) W:Int):=by
   obtain⟨-,b,z7z,R,h,M,w⟩:=K.hy.get (k:=W) (by rw[<-iB.1];exact Gh);exact⟨b,z7z,R,h,M,w⟩
  simp only[dr]at eY;obtain⟨rfl,-,rfl⟩:=eY;rw[<-iB.1]at y6;have uh:=HYM.1 W Gh;obtain⟨r,GR⟩:=aK (J (bQ B x L) W);rw[<-GR]at j5 uh y6;obtain⟨NT,vX⟩:=aK (pI (bQ B x L) sl y);have vg:=ES.1 y;rw[<-vX]at j5 vg;obtain⟨-,c1,c2,c3⟩:=fh K.q1;have s0:=Y K.q2 (k:=0) (d:=.slice (sp,so) sl.length sC) rfl;have Sq:=Y hI.r2 (k:=0) (d:=(y:Int)) rfl;have Q:Wb.heap[z.heap.size]?=QC.mk #[NT] 3:=by rw[vX];exact hI.r1
  have KH:=Y Q (k:=0) (d:=NT) rfl;have af_:=cB Q 0;have v0:=Y K.qv (k:=0) (d:=.pointer (some ⟨e,0,none⟩)) rfl;have b6:=Y K.wk.row (k:=6) (d:=.slice (yb,yo) (bQ B x L).length yC) (by rw[iB.1];rfl);have d1:((y:Int)==(sl.length:Int))=false:=eH.2 (by omega);have j0:(0:Int)<=(y:Int):=me y;have j1:(y:Int)<(sl.length:Int):=by omega
  have r0:(0:Int)<=(W:Int):=me W;have r1:(W:Int)<((bQ B x L).length:Int):=by omega
  obtain⟨yL,gF⟩:=aR hI Q;obtain⟨mm,qh⟩:=aK (r*z0%1073741789);obtain⟨tt,NP⟩:=aK ((NT+mm)%1073741789);rw[<-qh,<-NP]at j5;obtain⟨ayg,J5,xy⟩:=bJ j5 (λd=>A9 r z0 d (dK uh) (dK ⟨pD,fW⟩)) (λd=>yr NT mm d (dK vg) (dK (by rw[qh];exact uf _)));simp only[<-qh]at J5;simp only[<-NP]at xy;have HAB:Hid (z.heap.size<Wb.heap.size):=A (bG Q);have HLJ:=A Xc;clear hI Q j5 K fZ vM pD fW fo cU xM uh vg GR vX gm Gh Y9 qh NP
  gi_wp2
  refine Zq (by kernel_rfl) (λ⟨_,_,q⟩=>q) (ayb Wb a.heap.size (a.heap.size+1) (z.heap.size+1) (.slice a1 B.length k1) (.slice a2 x.length k2) (.slice a3 I.length k3) sp so sl.length sC y (W:Int) z0) (λz11z=>?_) ?_ (λz11z d q=>?_)
  ·exact⟨(aY _ _).drew,(λq=>by cases q),(λq=>by cases q),(λq=>by cases q),(λq=>by cases q),(λq=>by cases q),(λq=>by cases q),(λq=>by cases q),(λq=>by cases q),(λq=>by cases q),(λq=>by cases q),(λq=>by cases q),(λq=>by cases q),(λq=>by cases q),(λq=>by cases q)⟩
  ·refine⟨?_,?_,?_,?_,?_,?_,?_,?_,?_,?_,?_,?_,?_,?_,trivial⟩;all_goals intro dn z11z d z1 q w
   ·have D:=w.b 7 (a,0);clear w;go_simp;exact⟨_,rfl,{q with f0:=aB}⟩
   ·have D:=w.e 0 63 q.f0;have cJ:=U q.b c1;have jd:=U q.b c2;clear w;go_simp;exact⟨_,rfl,{q with f1:=aB}⟩
   ·have D:=w.b 7 (a,0);clear w;go_simp;exact⟨_,rfl,{q with f2:=aB}⟩
   ·have D:=w.e 2 65 q.f2;have cJ:=U q.b c3;clear w;go_simp;exact⟨_,rfl,{q with f3:=aB}⟩
   ·have D:=w.b 11 ((a.heap.size+1),0);have cJ:=U q.b s0;clear w;go_simp;exact⟨_,rfl,{q with f4:=aB}⟩
   ·have D:=w.b 19 ((z.heap.size+1),0);have cJ:=U q.b Sq;clear w;go_simp;exact⟨_,rfl,{q with f5:=aB}⟩
   ·have D:=w.e 4 67 q.f4;have e1:=w.e 5 68 q.f5;clear w;go_simp;exact⟨_,rfl,{q with f6:=aB}⟩
   ·have D:=w.e 6 69 q.f6;have cJ:=U q.b q1;have jd:=U q.b q2;clear w;go_simp;exact⟨_,rfl,{q with f7:=aB}⟩
   ·have D:=w.e 1 64 q.f1;have e1:=w.e 3 66 q.f3;have e2:=w.e 7 70 q.f7;clear w;go_simp;with_reducible refine(iK.1 d q.b).mono ?_
    rintro M wq ⟨rfl,G⟩;exact⟨_,rfl,{q with b:=ar q.b G,f8:=aB}⟩
   ·have D:=w.e 8 71 q.f8;clear w;go_simp;exact⟨_,rfl,{q with f9:=aB}⟩
   ·have D:=w.e 9 62 q.f9;clear w;go_simp;exact⟨_,rfl,{q with f10:=aB}⟩
   ·have D:=w.e 9 62 q.f9;clear w;go_simp;exact⟨_,rfl,{q with f11:=aB}⟩
   ·have D:=w.e 10 72 q.f10;clear w;go_simp;exact⟨_,rfl,{q with f12:=aB}⟩
   ·have D:=w.e 11 73 q.f11;clear w;go_simp;exact⟨_,rfl,{q with f13:=aB}⟩
  simp only[jG,Act.put,Nat.reduceAdd,dD];rw[q.f12 rfl];rw[q.f13 rfl];have cA:=q.b;clear q;obtain⟨Wc,rfl⟩:=aK d;refine uc cA y6 s0 Sq q2 ?_;clear y6 s0 Sq q2;intro y6 s0 Sq q2;replace af_:=aj3 cA KH af_;refine ua cA KH v0 b6 ?_;clear KH v0 b6;intro KH v0 b6;replace HAB:Hid (z.heap.size<Wc.heap.size):=A (eJ HAB.1 cA.size);have EI:=A cA;clear cA c1 c2 c3 q1
  gi_wp2
  refine Zq (by kernel_rfl) (λ⟨_,_,q⟩=>q) (ayc Wc z.heap.size X.heap.size e (a.heap.size+1) (z.heap.size+1) yb yo ((bQ B x L).length) yC sp so sl.length sC y W NT r z0 mm tt) (λz11z=>?_) ?_ (λz11z d q=>?_)
  ·exact⟨(aY _ _).drew,(λq=>by cases q),(λq=>by cases q),(λq=>by cases q),(λq=>by cases q),(λq=>by cases q),(λq=>by cases q),(λq=>by cases q),(λq=>by cases q),(λq=>by cases q),(λq=>by cases q),(λq=>by cases q),(λq=>by cases q),(λq=>by cases q),(λq=>by cases q),(λq=>by cases q),(λ_=>(aY _ _).drew),(λq=>by cases q)⟩
  ·refine⟨?_,?_,?_,?_,?_,?_,?_,?_,?_,?_,?_,?_,?_,?_,?_,?_,trivial⟩;all_goals intro dn z11z d z1 q w
   ·have D:=w.b 18 (z,0);have cJ:=U (q.lb (w.n 15)) KH;clear w;go_simp;exact⟨_,rfl,{q with f0:=aB}⟩
   ·have D:=w.b 16 (X,0);have cJ:=U (q.lb (w.n 15)) v0;clear w;go_simp;exact⟨_,rfl,{q with f1:=aB}⟩
   ·have D:=w.e 1 81 q.f1;clear w;go_simp;exact⟨_,rfl,{q with f2:=aB}⟩
   ·have D:=w.e 2 82 q.f2;clear w;go_simp;exact⟨_,rfl,{q with f3:=aB}⟩
   ·have D:=w.e 3 83 q.f3;have cJ:=U (q.lb (w.n 15)) b6;clear w;go_simp;exact⟨_,rfl,{q with f4:=aB}⟩
   ·have D:=w.b 20 W;clear w;go_simp;exact⟨_,rfl,{q with f5:=aB}⟩
   ·have D:=w.e 4 84 q.f4;have e1:=w.e 5 85 q.f5;clear w;go_simp;exact⟨_,rfl,{q with f6:=aB}⟩
   ·have D:=w.e 6 86 q.f6;have cJ:=U (q.lb (w.n 15)) y6;clear w;go_simp;exact⟨_,rfl,{q with f7:=aB}⟩
   ·have D:=w.b 11 ((a.heap.size+1),0);have cJ:=U (q.lb (w.n 15)) s0;clear w;go_simp;exact⟨_,rfl,{q with f8:=aB}⟩
   ·have D:=w.b 19 ((z.heap.size+1),0);have cJ:=U (q.lb (w.n 15)) Sq;clear w;go_simp;exact⟨_,rfl,{q with f9:=aB}⟩
   ·have D:=w.e 8 88 q.f8;have e1:=w.e 9 89 q.f9;clear w;go_simp;exact⟨_,rfl,{q with f10:=aB}⟩
   ·have D:=w.e 10 90 q.f10;clear w;go_simp;exact⟨_,rfl,{q with f11:=aB}⟩
   ·have D:=w.e 11 91 q.f11;have cJ:=U (q.lb (w.n 15)) q2;clear w;go_simp;exact⟨_,rfl,{q with f12:=aB}⟩
   ·have D:=w.e 7 87 q.f7;have e1:=w.e 12 92 q.f12;clear w;go_simp;with_reducible refine(J5.1 d).mono ?_
    rintro M wq ⟨rfl,rfl⟩;exact⟨_,rfl,{q with f13:=aB}⟩
   ·have D:=w.e 0 80 q.f0;have e1:=w.e 13 93 q.f13;have n15:=(w.n 15);clear w;go_simp;with_reducible refine(xy.1 d).mono ?_
    rintro M wq ⟨rfl,G⟩;exact⟨_,rfl,{q with b:=q.b.trans (G.mono (gQ (eJ HAB.1 q.b.size))),f14:=aB,lb:=((λF=>(q.lb F).trans (G.mono (q.lb F).size))),fin:=((λF=>absurd (F.symm.trans n15) (by decide)))}⟩
   ·have D:=w.b 18 (z,0);have e2:=w.e 14 94 q.f14;have hl:=q.lb w.hd;have u3:=U hl KH;have g3:=aj3 hl KH af_;clear w;go_simp;exact⟨undef,{q with b:=q.b.setCell (aP _) _,lb:=((λF=>by cases F)),fin:=((λ_=>⟨d,hl,rfl⟩))}⟩
  simp only[jG,Act.put,Nat.reduceAdd,dD];have cA:=q.b;obtain⟨Wd,jh,rfl⟩:=q.fin rfl;clear q cA;have cQ:=ar EI.1 jh;have bE:Wd.heap[z.heap.size+1]?=QC.mk #[(y:Int)] 3:=az cQ yL.1.r2;have Q:Wd.heap[z.heap.size]?=QC.mk #[NT] 3:=az cQ gF.1;have dX:=az cQ yL.1.r3;have gE:=az cQ yL.1.r4;have D:=Y ((kO (B:=z.heap.size) (k:=0) (a:=tt) (show z.heap.size+1≠z.heap.size by omega)).trans bE) (k:=0) (d:=(y:Int)) rfl;have g0:=cB ((kO (B:=z.heap.size) (k:=0) (a:=tt) (show z.heap.size+1≠z.heap.size by omega)).trans bE) 0;have PR:Hid (KeepsOthers Wb ((Wd.setCell (z,0) tt).setCell (z.heap.size+1,0) ((y:Int)+1:Int))/\NS WS z.heap.size e C (λy=>pI (bQ B x L) sl y) (y+1) ((Wd.setCell (z,0) tt).setCell (z.heap.size+1,0) ((y:Int)+1:Int))):=A
   ⟨((Bg cQ).trans (KeepsOthers.setCell _ _ _)).trans (KeepsOthers.setCell _ _ _),
    ((yL.1.be.trans (cQ.mono (gQ (bG yL.1.r1)))).setCell (aP _) _).setCell (eP _) _,
    by
     have F:=cK Q 0 tt;rw[ayg.1];exact(kO (by omega)).trans F,
    cK ((kO (by omega)).trans bE) 0 _,
    (kO (by omega)).trans ((kO (by omega)).trans dX),(kO (by omega)).trans ((kO (by omega)).trans gE)⟩
  have j2:(y:Int)<9223372036854775807:=by have F:=HLJ.1;have S:=ayf.1;omega
  clear cQ Q bE dX gE jh
  gi_wp2
  exact PR.1
 case done =>
  intro z2 d hD hI np hO;have fo:Below WS WS d:=Ms.1▸hI.be;have K:=Xb.1.below fo;have hX:=az fo aj5.1;obtain⟨pd,hpd⟩:=aK (bm 4 N);obtain⟨pf,hpf⟩:=aK (bm 4 O);obtain⟨HPD,HPF⟩:=aR (λd=>abd 4 N d fO (dK HHD.1)) (λd=>abd 4 O d fO (dK HHF.1));simp only[<-hpd]at HPD;simp only[<-hpf]at HPF;rw[<-hpd,<-hpf]at hX;obtain⟨zu,vF⟩:=aK (xK (J I 0) f c);obtain⟨bn,fq⟩:=aK (BO (J I 0) f (oB c) C);obtain⟨sm,vX⟩:=aK (pI (bQ B x L) sl sl.length);obtain⟨m1,CG⟩:=aK (O*bn%1073741789);obtain⟨m2,qO⟩:=aK ((N+m1)%1073741789);obtain⟨m3,Gi⟩:=aK (zu*sm%1073741789);obtain⟨m4,hm4⟩:=aK ((m2+m3)%1073741789);have ayh:Hid (m4=Sn (J I 0) f c C N O (pI (bQ B x L) sl sl.length)):=A (by rw[<-vX];unfold Sn;rw[hm4,Gi,qO,CG,vF,fq]);have acs:=ahG (J I 0) f (oB c) C;have acu:=ajb (J I 0) f c;rw[<-fq]at acs;rw[<-vF]at acu;have vg:=ES.1 sl.length;rw[<-vX]at vg;obtain⟨Vu,HX2,Wv,HX4⟩:=cY (λd=>A9 O bn d (dK HHF.1) (dK acs)) (λd=>yr N m1 d (dK HHD.1) (dK (by rw[CG];exact uf _))) (λd=>A9 zu sm d (dK acu) (dK vg)) (λd=>yr m2 m3 d (dK (by rw[qO];exact uf _)) (dK (by rw[Gi];exact uf _)));simp only[<-CG]at Vu;simp only[<-qO]at HX2;simp only[<-Gi]at Wv;simp only[<-hm4]at HX4;have ayi:Hid (∀o,Below d d o->Calls prog 22 #[.pointer (some ⟨e,0,none⟩),.agg #[C,nn,pd,pf]] o λM E=>M=.returned bn/\Below o o E):=A (λo G=>by
   have q:=abf e i _ _ _ _ _ _ _ _ _ (J I 0) f (oB c) C nn pd pf o (K.wk.below G) (by have F:=mc.1;unfold aN;omega) ((HG.1.below K.b).below G);rw[<-fq]at q;exact q)
  have Bf:d.heap[z.heap.size]?=QC.mk #[sm] 3:=by rw[vX,il.1];exact hI.r1
  have Hr:=K.wk.row;rw[<-vF]at Hr;have jU:Hid (∀E,Below d d E->E.cell? (X,0)=some (.pointer (some ⟨e,0,none⟩))/\(E.cell? (H,0)=C/\E.cell? (H,1)=nn/\E.cell? (H,2)=pd/\E.cell? (H,3)=pf)/\E.cell? ⟨e,12,none⟩=zu/\E.cell? (z,0)=sm):=A (λE G=>⟨U G (Y K.qv rfl),⟨U G (Y hX rfl),U G (Y hX rfl),U G (Y hX rfl),U G (Y hX rfl)⟩,U G (Y Hr rfl),U G (Y Bf rfl)⟩);have i0:=Y hI.r2 (k:=0) (d:=(((bP x [C] x.length).length:Nat):Int)) rfl;have s0:=Y K.q2 (k:=0) (d:=.slice a4 sl.length sC) rfl;rw[<-il.1]at i0;obtain⟨HM,Sh,ma⟩:=bJ K hD np;have Cb:=jU.1 d (aY _ _);have ud:=Cb.2.1;clear K hI hX Bf Hr fo vX hpd hpf vF fq CG qO Gi hm4 acs acu vg hO hD np;go_wp2_with fail;go_region_held3 (λE=>E.cell? (H,0)=C/\E.cell? (H,1)=nn/\E.cell? (H,2)=pd/\E.cell? (H,3)=pf) (first|go_keep|exact qY|exact kf|exact ud)
   (first
    |(go_simp;go_at_call 21;(with_reducible refine(HPD.1 _).mono ?_);rintro M w6 ⟨rfl,aF⟩;have cO:=A ((aY d.heap.size d).drew.trans aF);have kf:=(jU.1 w6 cO.1).2.1;clear aF)
    |(go_simp;go_at_call 21;(with_reducible refine(HPF.1 _).mono ?_);rintro M w7 ⟨rfl,bz⟩;have hZ:=A (ar cO.1 bz);have qY:=(jU.1 w7 hZ.1).2.1;clear bz))
  all_goals
   go_wp2_with fail;have hSc:=jU.1 w7 hZ.1;have aj7:Hid (∀(P:World) (w:Nat) (z10z:Value),w<=a.heap.size+1+1+1->(P.cell? (X,0)=some (.pointer (some ⟨e,0,none⟩))/\(P.cell? (H,0)=C/\P.cell? (H,1)=nn/\P.cell? (H,2)=pd/\P.cell? (H,3)=pf)/\P.cell? ⟨e,12,none⟩=zu/\P.cell? (z,0)=sm)->(P.setCell (w,0) z10z).cell? (X,0)=some (.pointer (some ⟨e,0,none⟩))/\((P.setCell (w,0) z10z).cell? (H,0)=C/\(P.setCell (w,0) z10z).cell? (H,1)=nn/\(P.setCell (w,0) z10z).cell? (H,2)=pd/\(P.setCell (w,0) z10z).cell? (H,3)=pf)/\(P.setCell (w,0) z10z).cell? ⟨e,12,none⟩=zu/\(P.setCell (w,0) z10z).cell? (z,0)=sm):=A (λP w z10z hq ⟨F,⟨S,h3,h4,h5⟩,h6,h7⟩=>by
    have k1:=HM.1.e1;have k2:=HM.1.e2;have k3:=dq.1.1;have k4:=dq.1.2;exact⟨(jS (.inl (by omega))).trans F,⟨(jS (.inl (by omega))).trans S,(jS (.inl (by omega))).trans h3,(jS (.inl (by omega))).trans h4,(jS (.inl (by omega))).trans h5⟩,(jS (.inl (by omega))).trans h6,(jS (.inl (by omega))).trans h7⟩)
   clear Cb ud kf qY s0 i0;go_region_held3 (λE=>E.cell? (X,0)=some (.pointer (some ⟨e,0,none⟩))/\(E.cell? (H,0)=C/\E.cell? (H,1)=nn/\E.cell? (H,2)=pd/\E.cell? (H,3)=pf)/\E.cell? ⟨e,12,none⟩=zu/\E.cell? (z,0)=sm) (first|go_keep|exact hsF|exact hsE|exact hsD|exact hsC|exact hsB|exact hSc)
    (first
     |(go_simp;go_at_call 22;(refine(ayi.1 _ hZ.1.drew).mono ?_);rintro M pg ⟨rfl,dI⟩;have Fs:=A (hZ.1.trans (((aY w7.heap.size w7).drew.trans dI).mono hZ.1.size));have hsB:=jU.1 pg Fs.1;clear dI)
     |(go_simp;go_at_call 20;(with_reducible refine(Vu.1 _).mono ?_);rintro M sx ⟨rfl,rfl⟩)
     |(go_simp;go_at_call 19;(with_reducible refine(HX2.1 _).mono ?_);rintro M EK ⟨rfl,js⟩;have V4:=A (ar Fs.1 js);have hsC:=jU.1 EK V4.1;clear js)
     |(go_simp;go_at_call 20;(with_reducible refine(Wv.1 _).mono ?_);rintro M w13 ⟨rfl,rfl⟩)
     |(go_simp;go_at_call 19;(with_reducible refine(HX4.1 _).mono ?_);rintro M Ft ⟨rfl,EL⟩;have Kg:=A (ar V4.1 EL);have hsD:=jU.1 Ft Kg.1;have hsE:=aj7.1 Ft (a.heap.size+1+1) m4 (eP _) hsD;have hsF:=aj7.1 _ (a.heap.size+1+1+1) (0:Int) (aP _) hsE;have vV:=az Kg.1 HM.1.q3;have Dy:=az Kg.1 HM.1.q4;have z3:=Y vV (k:=0) (d:=(0:Int)) rfl;have g3:=cB vV 0;have Xd:=(kO (B:=a.heap.size+1+1) (k:=0) (a:=m4) (show a.heap.size+1+1+1≠a.heap.size+1+1 by omega)).trans Dy;have z4:=Y Xd (k:=0) (d:=(0:Int)) rfl;have g4:=cB Xd 0;have Hi:=A vV;have HQ4:=A Xd;clear EL vV Dy Xd))
   all_goals
    have LQ:=A (((ar HM.1.b Kg.1).setCell (p:=(a.heap.size+1+1,0)) (show a.heap.size<=a.heap.size+1+1 by omega) m4).setCell (p:=(a.heap.size+1+1+1,0)) (show a.heap.size<=a.heap.size+1+1+1 by omega) (0:Int));have hz:((Ft.setCell (a.heap.size+1+1,0) m4).setCell (a.heap.size+1+1+1,0) (0:Int)).heap[a.heap.size+1+1]?=QC.mk #[m4] 3:=(kO (by omega)).trans (cK Hi.1 0 _);have he:((Ft.setCell (a.heap.size+1+1,0) m4).setCell (a.heap.size+1+1+1,0) (0:Int)).heap[a.heap.size+1+1+1]?=QC.mk #[(0:Int)] 29:=cK HQ4.1 0 _;obtain⟨HZ,HE⟩:=aR hz he;clear hz he;go_wp2_with fail;refine F9 (f:=a.heap.size+1+1+1+1) (k:=.tuple #[m4,(0:Int)]) (λo=>o.cell? (a.heap.size+1+1,0)=m4/\o.cell? (a.heap.size+1+1+1,0)=(0:Int)) ?_ ?_ ?_ _ _ ⟨⟨z2,rfl,?_,?_,λ_ q=>by cases q⟩,trivial⟩ ⟨Y HZ.1 rfl,Y HE.1 rfl⟩ ⟨by rw[ayh.1],LQ.1⟩
    ·rintro W1 ⟨F,S⟩;simp[results,results4,go_sem,F,S]
    ·exact λW1 W3 q hs=>⟨jx hs q.1,jx hs q.2⟩
    ·rintro W1 W3 ⟨F,S⟩ hs;exact⟨F,S.trans ((nf hs).mono (by omega))⟩
    ·have F:=dq.1.2;have S:=KC.1;have h3:=Sh.1;omega
    ·have F:=bG ma.1;exact(kO (by have S:=dq.1.2;have h3:=KC.1;have h4:=Sh.1;omega)).trans ((kO (by have S:=dq.1.2;have h3:=KC.1;have h4:=Sh.1;omega)).trans ((Kg.1.block _ F).trans ma.1))
