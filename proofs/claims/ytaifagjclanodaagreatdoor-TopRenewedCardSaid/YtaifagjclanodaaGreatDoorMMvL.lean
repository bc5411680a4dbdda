/- The laws of moving: the examples, reckoned; calls whose values are known; the programs of one and of. -/
import Derived.Test.YtaifagjclanodaaGreatDoorMMvI
import Derived.Test.YtaifagjclanodaaGreatDoorMTpI
set_option maxHeartbeats 16000000
set_option maxRecDepth 100000
namespace Go.Proofs.YtaifagjclanodaaGreatDoor
open Go.Proofs.Tryz
open Go.RowKit FP
variable{s:Array Value}{F K:Int}{W I P:List Value}{n N Z L k B u Q R X:Nat}{r:Option Nat}{f O:TypeId}{i S T v:Value}{c l e w':World}{h m M t j:V}{d g:ak}
theorem awV(q:Int)(rv H cv o p E D wv sL:Value)(g:ak)(h s:V)(d:ak)(m t a:V)(b:ak)(w:gu)(z0z:V)(W:bF)(e:World)(hR:bI e rv g)(hO:aM e H h)(hC:aM e cv s)(hR2:bI e o d)(hO2:aM e p m)(hCS:bI e E b)(hLS:oq e D w)(hWH:aM e wv t)(hRW:aM e sL a)
  (z1z:Fg g h q s d m t a b w=0/\BX b a (bQ g h t) (bh d)=z0z/\BY w a (bQ g h t)=W):
  Calls prog 40 #[.agg #[q,rv,H,cv],.agg #[o,p],wv,sL,E,D] e λf w'=>∃z l',f=.returned (.tuple #[.agg #[(q+1:Int),o,p,z],l',(0:Int)])/\RI w' z z0z/\RS w' l' W/\Below e e w':=by
 obtain⟨y,rfl,rfl⟩:=z1z;refine(awH q rv H cv o p E D wv sL g h s d m t a b w e hR hO hC hR2 hO2 hCS hLS hWH hRW y).mono ?_;rintro f w' ⟨E',V7,V8,z,V9,rfl,hY,-,hb⟩;obtain⟨rfl,rfl,rfl,hi,hs⟩:=hY y;exact⟨_,_,by rw[y],hi,hs,hb⟩
theorem awW(z:Int)(rv ov cv q y H:Value)(r v:Int)(g:ak)(h s:V)(d:ak)(m a:V)(e:World)(hR:bI e rv g)(hO:aM e ov h)(hC:aM e cv s)(hR2:bI e q d)(hO2:aM e y m)(hM:aM e H a)(hr:aN r)(hv:aN v)(z0z:JZ g h z s d m r v a=0):
  Calls prog 39 #[.agg #[z,rv,ov,cv],.agg #[q,y],.agg #[r,v],H] e λf w'=>∃o p ac b,f=.returned (.tuple #[.slice o (bV d (v::a)).length p,.slice ac (bt (v::a)).length b,(0:Int)])/\RS w' (.slice o (bV d (v::a)).length p) (bV d (v::a))/\RI w' (.slice ac (bt (v::a)).length b) (bt (v::a))/\(∀z0,(Value.slice ac (bt (v::a)).length b).ownBlock=some z0->e.heap.size<=z0)/\Below e e w':=by
 refine(auI z rv ov cv q y H r v g h s d m a e hR hO hC hR2 hO2 hM hr hv).mono ?_;rintro f w' ⟨lv,kv,rfl,E,D,hf,hb⟩;rw[aD z0z]at E D;obtain⟨o,p,rfl,-⟩:=id E.1;obtain⟨ac,b,rfl,-⟩:=id D.1;exact⟨_,_,_,_,by rw[z0z],E,D,hf,hb⟩
abbrev X1:ak:=[[1]]
theorem ajs{o:Func}{p y v z:Tmp}{q:TypeId}(H:o.results=#[.cell p q,.tmp y,.tmp v,.tmp z])(a:Array Value)(b:Program)(e:World):
  (results o a).run b e=((asAddr (a.getD p undef)).run b e).andThen λD e₁=>((loadVar q D).run b e₁).andThen λE e₂=>.ok (.tuple #[E,a.getD y undef,a.getD v undef,a.getD z undef]) e₂:=by
 simp only[results,H];simp[Result.andThen]
theorem RI.apart(z0z:RI c v j)(q:c.grownBy l r)(o:∀a,v.ownBlock=some a->r≠some a):RI l v j:=by
 obtain⟨⟨y,L,rfl,D,E,H,h5⟩,hT⟩:=z0z;refine⟨⟨y,L,rfl,D,E,H,λk hk=>?_⟩,λa f=>?_⟩
 ·obtain⟨a,off,rfl,h7⟩:=h5 k hk;exact⟨a,off,rfl,q.cell h7 (λb=>o a rfl b.symm)⟩
 ·obtain⟨s,z,p⟩:=hT a f;exact⟨s,z,(q.block a (bG p) (λb=>o a f b.symm)).trans p⟩
theorem RI.lt(o:RI c v j):∀a,v.ownBlock=some a->a<c.heap.size:=λa f=>by
 obtain⟨s,p,b⟩:=o.2 a f;exact bG b
structure ry(n:Nat)(c:World)(B Q R:Nat)(i S T:Value)(j:V)(I P:List Value)(p:Nat->V)(q:Nat->bF):Prop where
 a:tN n c Q R S T I P p q
 o:c.ownsRow n 3 1 i B (j.map (Value.int .i64))
 ap:∀k (y:k<I.length) b,I[k].ownBlock=some b->i.ownBlock≠some b
theorem ry.keep{o:Nat->V}{p:Nat->bF}(a:ry n c B Q R i S T j I P o p)(b:Below c c l):ry n l B Q R i S T j I P o p:=
 ⟨a.a.keep b,dM a.o b,a.ap⟩
structure Kh(c:World)(i F:Value)(M:V):Prop where
 r:RI c F M
 ap:∀a,F.ownBlock=some a->i.ownBlock≠some a
theorem Kh.keep{F:Value}(a:Kh c i F M)(b:Below c c l):Kh l i F M:=⟨a.r.below b,a.ap⟩
theorem ry.int{o:Nat}{F:Value}{z0z:Nat->V}{z1z:Nat->bF}{z:Int}(a:ry n c B Q R i S T j I P z0z z1z)(y:Kh c i F M)
  (ho:l.ownsRow n 3 1 (.slice (o,0) (B+1) L) (B+1) (j.map (Value.int .i64)++[.int .i64 z])) (q:c.grownBy l i.ownBlock) (D:i.ownBlock=some o\/o=c.heap.size):
  ry n l (B+1) Q R (.slice (o,0) (B+1) L) S T (j++[z]) I P z0z z1z/\Kh l (.slice (o,0) (B+1) L) F M:=by
 have E:∀(v:Value) (M:V),RI c v M->(∀b,v.ownBlock=some b->i.ownBlock≠some b)->∀b,v.ownBlock=some b->(Value.slice (o,0) (B+1) L).ownBlock≠some b:=λv M hv hn b H f=>by
  have e2:o=b:=by injection f
  rcases D with D|D
  ·exact hn b H (by rw[D,e2])
  ·have:=hv.lt b H;omega
 refine⟨⟨⟨sF a.a.o1 a.o (by decide) q,sF a.a.o2 a.o (by decide) q,λk p=>(a.a.r1 k p).apart q (a.ap k p),λk p=>(a.a.r2 k p).grown a.o (by decide) q⟩,by rw[gJ];exact ho,λk p=>E _ _ (a.a.r1 k p) (a.ap k p)⟩,y.r.apart q y.ap,E F M y.r y.ap⟩
theorem ry.one{p F:Value}{o:Nat->V}{D:Nat->bF}(b:ry n c B Q R i S T j I P o D)(y:Kh c i F (o Q))
  (ho:l.ownsRow n 23 1 p (Q+1) (I++[F])) (z:c.grownBy l S.ownBlock):ry n l B (Q+1) R i p T j (I++[F]) P o D:=by
 refine⟨b.a.one y.r ho z,sF b.o b.a.o1 (by decide) z,λk H q a=>?_⟩;by_cases f:k<I.length
 ·rw[AX f]at a;exact b.ap k f q a
 ·have E:k=I.length:=by simp at H;omega
  subst E;rw[Cr (aP _)]at a;simp only[zI,K1]at a;exact y.ap q a
theorem ry.two{p b:Value}{y:Nat->V}{o:Nat->bF}(a:ry n c B Q R i S T j I P y o)(D:RS c b (o R))
  (z:l.ownsRow n 38 1 p (R+1) (P++[b])) (q:c.grownBy l T.ownBlock):ry n l B Q (R+1) i S p j I (P++[b]) y o:=
 ⟨a.a.two D z q,sF a.o a.a.o2 (by decide) q,a.ap⟩
theorem ry.dic{q:Nat}{D:Int}{y:Nat->V}{z:Nat->bF}(a:ry q c B Q R i S T j I P y z)(b:dO n D c)(o:c.grownBy l (some n)):ry q l B Q R i S T j I P y z:=
 ⟨⟨B1 a.a.o1 b (by decide) o,B1 a.a.o2 b (by decide) o,λk p=>(a.a.r1 k p).dic b o,λk p=>(a.a.r2 k p).dic b o⟩,B1 a.o b (by decide) o,a.ap⟩
theorem ry.to{o:Nat}{p f':Nat->V}{q g':Nat->bF}(a:ry o c B Q R i S T j I P p q)(y:∀k,k<Q->p k=f' k)(z:∀k,k<R->q k=g' k):ry o c B Q R i S T j I P f' g':=
 ⟨⟨a.a.o1,a.a.o2,λk b=>y k (by have:=a.a.o1.1;omega)▸a.a.r1 k b,λk b=>z k (by have:=a.a.o2.1;omega)▸a.a.r2 k b⟩,a.o,a.ap⟩
def Hg(d:ak)(m:V)(K:Int)(N:Nat)(e:World)(v:Value):Prop:=∃q y a b o,v=.tuple #[.slice q d.length y,.slice a (bh d) b,.int .i64 0]/\RS e (.slice q d.length y) (bV d (K::o))/\RI e (.slice a (bh d) b) (bt (K::o))/\(∀p,(Value.slice a (bh d) b).ownBlock=some p->N<=p)/\dU d m K o
theorem Hg.below(H:Hg d m K N e v)(a:Below e e w'):Hg d m K N w' v:=by
 obtain⟨b,o,F,E,D,p,q,y,z⟩:=H;exact⟨b,o,F,E,D,p,q.below a,y.below a,z⟩
theorem Hg.dic{B:Int}(z1z:Hg d m K N e v)(a:dO n B e)(b:e.grownBy w' (some n)):Hg d m K N w' v:=by
 obtain⟨o,p,F,H,E,q,y,z,D⟩:=z1z;exact⟨o,p,F,H,E,q,y.dic a b,z.dic a b,D⟩
def Ki(g:ak)(M:V)(d:ak)(m b:V)(o:ak)(k:Nat):Prop:=o.length=k/\∀a,a<k->∃v,o.getD a []=cz (g.getD (J b a).toNat []) M::v/\dU d m (cz (g.getD (J b a).toNat []) M) v
theorem Ki.snoc{a:V}{q:ak}(b:Ki g M d m a q k){v:V}(y:dU d m (cz (g.getD (J a k).toNat []) M) v):Ki g M d m a (q++[cz (g.getD (J a k).toNat []) M::v]) (k+1):=by
 refine⟨by simp[b.1],λo z=>?_⟩;by_cases p:o<k
 ·rw[G3 (by rw[b.1];exact p)];exact b.2 o p
 ·obtain rfl:o=k:=by omega
  rw[G4 b.1];exact⟨v,rfl,y⟩
theorem awX{b:bF}(z0z:fK c v b)(hn:v.ownBlock≠some n)(a:c.grownBy l (some n)):fK l v b:=by
 obtain⟨o,L,rfl,q,y,z,D⟩:=z0z;refine⟨o,L,rfl,q,y,z,λk hk=>?_⟩;obtain⟨p,off,rfl,E,H⟩:=D k hk;exact⟨p,off,rfl,a.cell E (λf=>hn (by cases f;rfl)),a.cell H (λf=>hn (by cases f;rfl))⟩
theorem awY(p:eU (-1) t=true)(o:g.length=h.length)(a:k<(jW h t (bV g M)).length):∃r:Nat,J (dY h t h.length) k=r/\r<g.length/\(jW h t (bV g M))[k]=((r:Int),cz (g.getD r []) M):=by
 have f:=Qz (o:=g) (m:=h) (b:=M) p;have b:k<(bP h t g.length).length:=by rw[f,dy]at a;exact a
 refine⟨(bP h t g.length)[k],?_,(By (bM b)).1,?_⟩
 ·unfold dY;rw[<-o,di (by rw[dy];exact b),gj]
 ·rw[List.getElem_of_eq f a,gj];rfl
theorem awZ(b:eU (-1) t=true)(a:g.length=h.length):(jW h t (bV g M)).length=(dY h t h.length).length:=by
 rw[Qz b,dy];unfold dY;rw[dy,a]
theorem aw0{b D:Int}{z:V}{a:ak}(z0z:dU g h b z)(hp:bH g h=0)(nH:bH d m=0)(p:Ki g (b::z) d m (dY h t h.length) a (dY h t h.length).length)(h0:0<=D)(h1:D<64)(hw:eU (-1) t=true)(ha:kK g h t=true):
  ∃o,dU d m b o/\Fg g h D (bt (b::z)) d m t (dY h t h.length) (a.map bt) (a.map (bV d))=0 /\
   BX (a.map bt) (dY h t h.length) (bQ g h t) (bh d)=bt (b::o)/\BY (a.map (bV d)) (dY h t h.length) (bQ g h t)=bV d (b::o):=by
 have ho:OnD g h b z d m (dY h t h.length) (λy=>a.getD y []) (List.range d.length) (a.map bt) (a.map (bV d)):=
  ⟨z0z,hp,nH,by rw[dy];exact p.1,by rw[dy];exact p.1,List.Sublist.refl _,λy H=>by
   have q:y<a.length:=by rw[p.1];exact H
   refine⟨?_,?_,p.2 y H⟩
   ·rw[dp (by rw[dy];exact q),gj,dp q]
   ·rw[dp (by rw[dy];exact q),gj,dp q];exact(ai3 _ _).symm⟩
 obtain⟨o,-,h2,h3,h4,E⟩:=avH ho h0 h1 hw ha;rw[ai3]at E;exact⟨o,h2,h3,h4,E⟩
structure aw1(p:World)(n:Nat)(B:Int)(u z D E:Nat)(q o y:Value)(d:ak)(m:V)(K:Int)(a:Nat->Bool)(v:Nat->Value)(e:World):Prop where
 b:p.grownBy e (some n)
 f0:KQ a v 0 q
 f1:KQ a v 1 o
 f2:KQ a v 2 y
 f3:KQ a v 3 (n,0)
 f4:KQ a v 4 o
 f5:KQ a v 5 ((u:Int)+1:Int)
 f6:KQ a v 6 u
 f7:a 7=true->a 8=false->RG e (v 7) u
 f8:a 8=true->Hg d m K p.heap.size e (v 8)
 f9:KQ a v 9 (v 8)
 f10:KQ a v 10 (ku 0 (v 8))
 f11:KQ a v 11 (ku 1 (v 8))
 f12:KQ a v 12 (ku 2 (v 8))
 f13:KQ a v 13 (ku 0 (v 8))
 f14:KQ a v 14 (ku 1 (v 8))
 f15:KQ a v 15 (ku 2 (v 8))
 dd:dO n (bif a 7 then B+u else B) e
structure aw2(w0:World)(kb qb xb:Nat)(ep:Int)(D z:Value)(E H cn cc o p q u:Nat)(y:Value)(F:Int)(a:Nat->Bool)(v:Nat->Value)(e:World):Prop where
 b:Below w0 w0 e
 f0:KQ a v 0 (.agg #[ep,D,z,.slice (o,p) u q])
 f1:KQ a v 1 y
 f2:KQ a v 2 (0:Int)
 f3:KQ a v 3 true
 f4:KQ a v 4 true
 f5:KQ a v 5 (xb,3)
 f6:KQ a v 6 (.slice (o,p) u q)
 f7:KQ a v 7 u
 f8:KQ a v 8 (.agg #[D,z])
 f9:KQ a v 9 u
 f10:KQ a v 10 true
 f11:KQ a v 11 true
 f12:KQ a v 12 true
 f13:KQ a v 13 (xb,3)
 f14:KQ a v 14 (.slice (o,p) u q)
 f15:KQ a v 15 (o,p)
 f16:KQ a v 16 F
 f17:KQ a v 17 (kb,3)
 f18:KQ a v 18 (.slice (E,H) cn cc)
 f19:KQ a v 19 (E,H)
 f20:KQ a v 20 F
 f21:KQ a v 21 true
 f22:KQ a v 22 true
 f23:KQ a v 23 true
 f24:KQ a v 24 (.agg #[ep,D,z,.slice (o,p) u q])
 f25:KQ a v 25 y
 f26:KQ a v 26 true
 f27:KQ a v 27 true
 f29:KQ a v 29 y
 f30:KQ a v 30 true
 f31:KQ a v 31 true
theorem aw3(n:Nat)(B E:Int)(rv ov cv lv ef eh wv:Value)(g:ak)(h:V)(y:Int)(H:V)(d:ak)(m t:V)(W0 e:World)
  (hW:Below W0 W0 e) (hB:W0.heap.size<=n) (hR:bI W0 rv g) (hO:aM W0 ov h) (hR2:bI W0 ef d) (hO2:aM W0 eh m)
  (hC:RI e cv (bt (y::H))) (hL:RS e lv (bV g (y::H))) (hWH:RI e wv t) (hD:dO n B e) (hm:B+2000<1000000)
  (hp:bH g h=0) (nH:bH d m=0) (Ds:dU g h y H) (hc:bh d<=16) (h0:0<=E) (h1:E<64) (hw:eU (-1) t=true) (oY:t.length<=16):
  Calls prog 9 #[.agg #[E,rv,ov,cv],lv,.agg #[ef,eh],wv,(n,0)] e λf w'=>(∃yv,f=.returned (.tuple #[.agg #[(0:Int),(),(),()],yv,false,true]) \/
   ∃BQ u',f=.returned (.tuple #[.agg #[(E+1:Int),ef,eh,BQ],yv,true,true])/\RI w' BQ (bt (y::u'))/\RS w' yv (bV d (y::u'))/\dU d m y u')/\dO n (B+2000) w'/\e.grownBy w' (some n):=by
 obtain⟨W1,aE,au,aI,bX⟩:=lF e E rv ov cv 33;obtain⟨W2,cG,an,bE,dQ⟩:=ee W1 ef eh 25;have gS:W2.heap.size=W1.heap.size+1:=by rw[cG];simp
 obtain⟨W3,dV,aJ,dX,uE⟩:=lF W2 (0:Int) () () () 33;have js:=ar au an;have z:Below e e W3:=ar js aJ;obtain⟨HC,HL,iB,HD,HB,iV,HR,HO,dz⟩:=fx (hC.below z) (hL.below z) (hWH.below z) (hD.below z) (ar hW z) hD.lt hR hO hR2;obtain⟨dH,HP,nG,iD,kt,HE,AT,HWL,iR⟩:=fx hO2 hp nH Ds hB (And.intro h0 h1) hw oY hm;have AI:=(fs nH).cols;have r64:g.length<=64:=(fs hp).few;have EF:=(fs hp).len;have tK:=A EF;have n64:=aio h t h.length;obtain⟨u,hn⟩:∃u,bh d=u+1:=⟨bh d-1,by omega⟩;have NB:=A hn;have Np:Hid (u<=15):=A (by omega);have BV:=A (awZ (g:=g) (M:=y::H) hw EF);have iL:=(aJ.block _ (bG (az an aI))).trans (az an aI);rw[bX]at bE gS;rw[gS]at dX;obtain⟨Q1,Q2,Q3⟩:=bJ iL (az aJ bE) dX;rw[cG,aE]at dV;have JO:=A dV;have dG:Hid (∀b q:Nat,e.heap.size<=b->some (⟨b,q,none⟩:Addr).block≠some n):=A (λb q z f=>by
  have h1:=hD.lt;simp at f;omega)
 have qw:=A (lK (r:=some n) z);have Kj:Hid (mu g h t=0):=A (by unfold mu;rw[aA (by simp[hp]),aD hw]);have e1:(bt (y::H)).length=bh g:=by rw[At];exact Ds.full
 clear hW hB hR hO hR2 hO2 hC hL hWH hD hm hp nH Ds hc h0 h1 hw oY z au an aJ js aI bE dX bX gS uE dQ aE cG dV iL AI hn EF;obtain⟨a1,k1,rfl,-,eI,-⟩:=id HR.1;obtain⟨a2,k2,rfl,-,dR,-⟩:=id HO.1;obtain⟨a3,k3,rfl,-⟩:=id HC.1.1;obtain⟨a6,k6,rfl,-⟩:=id HL.1.1;obtain⟨a4,k4,rfl,-,fj,-⟩:=id dz.1;obtain⟨a5,k5,rfl,-,xt,-⟩:=id dH.1;obtain⟨a7,k7,rfl,-⟩:=id iB.1.1;rw[e1]at HC Q1 JO ⊢;rw[ju]at HL ⊢;clear e1;obtain⟨-,c1,c2⟩:=jZ Q1.1;have ab5:=aaW _ _ _ g h t _ (HR.1.below HB.1) (HO.1.below HB.1) iB.1.1;rw[Kj.1]at ab5;have aw4:=A ab5;clear ab5;go_enter func9,ntmps9;go_wp2_with (rw[<-JO.1]);with_reducible refine aw4.1.mono ?_
 rintro f w4 ⟨yv,rfl,-,-,aU⟩;obtain⟨HC,HL,iB,HD,qw,HB,Q1,Q2,Q3⟩:=fx (HC.1.below aU) (HL.1.below aU) (iB.1.below aU) (HD.1.below aU) (fT qw.1 (aU.mono qw.1.size)) (ar HB.1 aU) (az aU Q1.1) (az aU Q2.1) (az aU Q3.1);clear aU c1 c2 JO;cases Hh:kK g h t with
 |false =>
  clear Hh;obtain⟨g0,g1,g2,g3⟩:=fh Q3.1;obtain⟨r0,r1,r2,r3⟩:=wm Q3.1;obtain⟨S0,S1,S2,S3⟩:=cY (mC g0) (mC g1) (mC g2) (mC g3);go_wp2_with (first|rw[S0.1]|rw[S1.1]|rw[S2.1]|rw[S3.1]);try simp only[Exit.inBlock,Exit.then]
  refine gB (v:=.tuple #[.agg #[(0:Int),(),(),()],(),false,true]) ?_ rfl ?_
  ·rw[ajs rfl];go_simp
  ·exact⟨⟨_,Or.inl rfl⟩,HD.1.mono (by omega),qw.1⟩
 |true =>
  have HAO:=A Hh;clear Hh;obtain⟨-,c1,c2⟩:=jZ Q1.1;have hof:=aho (.slice a1 g.length k1) (.slice a2 h.length k2) (.slice a6 g.length k6) (.slice a7 t.length k7) h t (bV g (y::H)) w4 ⟨_,_,_,rfl⟩ (HO.1.below HB.1) HL.1.1 iB.1.1 (by rw[ju];omega) (by have:=HWL.1;omega) (λz2 hp=>by
   obtain⟨q,hj,rfl⟩:=ey.1 hp;have:=dT.1 hj;have h9:=tK.1;show(0:Int)<=(q:Int)/\(q:Int)<_;omega)
  have Fm:=A hof;clear hof;go_wp2_with fail;refine Fm.1.mono ?_;rintro f w5 ⟨sv,rfl,rQ,sY,aG⟩;obtain⟨x,hS⟩:∃x,x=jW h t (bV g (y::H)):=⟨_,rfl⟩;have Av:=A hS;have Wi:x.length=(dY h t h.length).length:=by rw[hS];exact BV.1
  rw[<-hS]at rQ;obtain⟨rws,oh⟩:=aK (dY h t h.length);rw[<-oh]at Wi n64;obtain⟨gZ,il⟩:=aR oh Wi;obtain⟨sa,sc,rfl,-⟩:=id rQ;rw[Wi]at rQ sY ⊢;have hnb:(Value.slice sa rws.length sc).ownBlock≠some n:=λf=>by
   have h1:=sY n f;have h2:=HD.1.lt;omega
  obtain⟨Mp,Kk,Qw⟩:=bJ hnb rQ sY;have azZ:rws.length<=64:=by have:=tK.1;omega
  obtain⟨HC,iB,HD,qw,HB,Q1,Q2,Q3⟩:=DL (HC.1.below aG) (iB.1.below aG) (HD.1.below aG) (fT qw.1 (aG.mono qw.1.size)) (ar HB.1 aG) (az aG Q1.1) (az aG Q2.1) (az aG Q3.1);have aw5:Hid (Ki g (y::H) d m rws [] 0):=A ⟨rfl,λq a=>absurd a (fG _)⟩;clear aG hS oh Wi rQ sY hnb c1 c2 Fm n64;go_wp2_with fail;go_loopw[17,18,19,48] (λi S T z3z z0=>∃(k:Nat) (vs:ak) (I P:List Value),k<=rws.length/\z3z=.int .i64 k/\Hid (Ki g (y::H) d m rws vs k)/\Hid (ry w5.heap.size z0 k k k i S T (rws.take k) I P (λz3z=>bt (vs.getD z3z [])) (λz3z=>bV d (vs.getD z3z [])))/\dO n (B+16*(k:Int)) z0/\w5.grownBy z0 (some n)) (λ_ _ _ z3z _=>rws.length-(intOf z3z).toNat);case atStart=>exact⟨0,[],[],[],bS _,rfl,aw5,A ⟨tN.nil _ _ _ _,iv _ _ _ _,λk a=>absurd a (fG _)⟩,by simpa using HD.1,lK (aY _ _)⟩
  case round =>
   obtain⟨k,vs,I,P,dg,rfl,xP,HA,hd,hg⟩:=hrel;by_cases aq:k<rws.length
   ·obtain⟨aS,cS,eS,-,-,-,cU⟩:=awX Kk.1 Mp.1 hg;obtain⟨pb,po,ea,p1,p2⟩:=cU k (by rw[il.1];exact aq);simp only[dr]at eS;obtain⟨rfl,-,rfl⟩:=eS;subst ea;obtain⟨r,hr,pS,xM⟩:=awY (g:=g) (h:=h) (M:=y::H) AT.1 tK.1 (k:=k) (by rw[BV.1,<-gZ.1];exact aq);have ajt:x[k]'(by rw[il.1];exact aq)=((r:Int),cz (g.getD r []) (y::H)):=by rw[<-xM];exact List.getElem_of_eq Av.1 _
    rw[<-gZ.1]at hr;rw[ajt]at p1 p2;dsimp only at p1 p2;obtain⟨K,mi⟩:∃v,v=cz (g.getD r []) (y::H):=⟨_,rfl⟩;rw[<-mi]at p2;have Pm:0<=K/\K<1073741789:=by rw[mi];exact n6 _ _
    obtain⟨zy,HVL,Kl⟩:=bJ hr mi Pm;obtain⟨W5,dk,aG,gD,-⟩:=ee wr r K 66;obtain⟨s0,s1⟩:=ez gD;have rR:=fT hg (aG.mono hg.size);have sM:Hid (∀q:Nat,some (⟨e.heap.size,q,none⟩:Addr).block≠some n):=A (λq=>dG.1 _ q (aP _));have Ce:Hid (∀q:Nat,some (⟨e.heap.size+1,q,none⟩:Addr).block≠some n):=A (λq=>dG.1 _ q (eP _));have HNS:Hid (∀q:Nat,some (⟨wr.heap.size,q,none⟩:Addr).block≠some n):=A (λq=>dG.1 _ q (bK qw.1.size hg.size));have iL:=(rR.block _ (bG Q1.1) (sM.1 0)).trans Q1.1;have fE:=(rR.block _ (bG Q2.1) (Ce.1 0)).trans Q2.1;obtain⟨c0,c1,c2,c3⟩:=fh iL;obtain⟨d0,d1⟩:=ez fE;obtain⟨pL,NC⟩:=aR (hd.below aG) (HA.1.keep aG);have hsW:=aG.size;obtain⟨HIW,oe,yW,l7⟩:=cY (λb (e2:u17.ownBlock=some b)=>eJ (pP HA.1.o b e2).2 hsW) rR (HC.1.dic HD.1 rR) (HB.1.trans (rp rR kt.1 HB.1.size));have HM:Hid (B+16*(k:Int)+u<1000000):=A (by have:=iR.1;have:=Np.1;omega);have Jm:Hid (∀c,W5.grownBy c (some n)->Calls prog 27 #[.agg #[.slice a4 d.length k4,.slice a5 m.length k5]] c λf w'=>f=.returned ((u:Int)+1:Int)/\Below c c w'):=A (λc RW=>by
     have D:=l7.1.trans (rp RW kt.1 l7.1.size);have a:=Mh _ _ d m c (dz.1.below D) (dH.1.below D);rw[NB.1]at a;exact a)
    have RJ:Hid (∀c,W5.grownBy c (some n)->∀v j,RI c v j->j.length=u->(∀z1∈j,0<=z1/\z1<1073741789)->Calls prog 39 #[.agg #[E,.slice a1 g.length k1,.slice a2 h.length k2,.slice a3 (bh g) k3],.agg #[.slice a4 d.length k4,.slice a5 m.length k5],.agg #[r,K],v] c λf w'=>∃z5z,f=.returned z5z/\Hg d m K W5.heap.size w' z5z/\Below c c w'):=A (λc RW v j h1 h2 h3=>by
     have D:=l7.1.trans (rp RW kt.1 l7.1.size);have bU:dU d m K j:=⟨fs nG.1,Kl.1,h3,by have:=NB.1;omega⟩;have hmd:JZ g h E (bt (y::H)) d m (r:Int) K j=0:=by
      have hc:ox g h E (bt (y::H)) d m=0:=by unfold ox;rw[aA (by simp[HP.1]),VB iD.1 HP.1 HE.1.1 (by have:=HE.1.2;omega),aA (by simp),nG.1]
      unfold JZ;rw[hc,aA (by decide),(Jn iD.1 HP.1 pS Kl.1).2,bB HVL.1,aA (by decide)];exact agv bU nG.1
     refine(awW E _ _ _ _ _ v (r:Int) K g h (bt (y::H)) d m j c (HR.1.below D) (HO.1.below D) (yW.1.dic pL.1 RW).1 (dz.1.below D) (dH.1.below D) h1.1 (by unfold aN;omega) (dK Kl.1) hmd).mono ?_;rintro f w' ⟨al,cl,ac,cc,rfl,g1,g2,g3,g4⟩;rw[ju]at g1 ⊢;have e4:(bt (K::j)).length=bh d:=by rw[At];exact bU.full
     rw[e4]at g2 g3 ⊢;exact⟨_,rfl,⟨al,cl,ac,cc,j,rfl,g1,g2,λb z=>bK RW.size (g3 b z),bU⟩,g4⟩)
    have qA:IntKind.i64.wrap (u:Int)=(u:Int):=jw _ (by have:=Np.1;omega);have i0:(0:Int)<=(k:Int):=me k;have i1:(k:Int)<(rws.length:Int):=by omega
    have k6:(k:Int)<64:=by omega
    obtain⟨gX,dq⟩:=aR dk aq;clear dk aG gD rR iL fE hsW hd hg cU hr xM ajt mi Pm HA;go_wp2_with (rw[<-gX.1]);refine nW (aw1 W5 n ((B+16*(k:Int))) u e.heap.size (e.heap.size+1) wr.heap.size (.agg #[E,.slice a1 g.length k1,.slice a2 h.length k2,.slice a3 (bh g) k3]) (.agg #[.slice a4 d.length k4,.slice a5 m.length k5]) (.agg #[r,K]) d m K) (λv=>?_) ?_ (λv c a=>?_)
    ·exact⟨az4 (lK (aY _ _)),ax,ax,ax,ax,ax,ax,ax,ax,ax,ax,ax,ax,ax,ax,ax,ax,(pL.1.below (aY _ _).drew)⟩
    ·refine⟨?_,?_,?_,?_,?_,?_,?_,?_,?_,?_,?_,?_,?_,?_,?_,?_,trivial⟩;all_goals intro dn v c C a o
     ·have p:=o.b 5 (e,0);have cJ:=a.b.cell c0 (sM.1 0);have jd:=a.b.cell c1 (sM.1 1);have vK:=a.b.cell c2 (sM.1 2);have xE:=a.b.cell c3 (sM.1 3);clear o;go_simp;exact⟨_,rfl,{a with f0:=aB}⟩
     ·have p:=o.b 7 ((e.heap.size+1),0);have cJ:=a.b.cell d0 (Ce.1 0);have jd:=a.b.cell d1 (Ce.1 1);clear o;go_simp;exact⟨_,rfl,{a with f1:=aB}⟩
     ·have p:=o.b 21 (wr,0);have cJ:=a.b.cell s0 (HNS.1 0);have jd:=a.b.cell s1 (HNS.1 1);clear o;go_simp;exact⟨_,rfl,{a with f2:=aB}⟩
     ·have p:=o.b 4 (n,0);clear o;go_simp;exact⟨_,rfl,{a with f3:=aB}⟩
     ·have p:=o.b 7 ((e.heap.size+1),0);have cJ:=a.b.cell d0 (Ce.1 0);have jd:=a.b.cell d1 (Ce.1 1);clear o;go_simp;exact⟨_,rfl,{a with f4:=aB}⟩
     ·have p:=o.e 4 57 a.f4;clear o;go_simp;with_reducible refine(Jm.1 c a.b).mono ?_
      rintro f wq ⟨rfl,z⟩;exact⟨_,rfl,{a with b:=iW a.b (lK z),f5:=aB,f7:=(λh1 h2=>(a.f7 h1 h2).below z),f8:=(λh1=>(a.f8 h1).below z),dd:=(a.dd.below z)}⟩
     ·have p:=o.e 5 58 a.f5;clear o;go_simp;exact⟨_,rfl,{a with f6:=aB}⟩
     ·have hd:=o.hd;have p:=o.e 3 56 a.f3;have e1:=o.e 6 59 a.f6;clear o;go_simp;have An:dO n (B+16*(k:Int)) c:=by have h9:=a.dd;rw[hd]at h9;exact h9
      with_reducible refine(abF n (B+16*(k:Int)) u c An HM.1).mono ?_
      rintro f wq ⟨z5z,j,rfl,hn,hz,hq,-,zx,hg⟩;exact⟨_,rfl,{a with b:=iW a.b hg,f7:=(λ_ _=>⟨_,hn,hz,hq⟩),f8:=(λh1=>(a.f8 h1).dic An hg),dd:=(zx)}⟩
     ·have abU:=o.n 9;have abV:dn 10=false:=rX (λhj=>o.hu 9 8 rfl (o.hu 10 9 rfl (hj))) o.hd;have abW:dn 11=false:=rX (λhj=>o.hu 9 8 rfl (o.hu 11 9 rfl (hj))) o.hd;have abX:dn 12=false:=rX (λhj=>o.hu 9 8 rfl (o.hu 12 9 rfl (hj))) o.hd;have RK:=o.n 13;have abY:=o.n 14;have abZ:=o.n 15;have p:=o.e 0 53 a.f0;have e1:=o.e 1 54 a.f1;have e2:=o.e 2 55 a.f2;have e3:=o.E 7 60;have m3:=a.f7 (o.d 7) o.hd;clear o;go_simp;obtain⟨j,m7a,m7b,m7c⟩:=m3;with_reducible refine(RJ.1 c a.b _ j m7a m7b m7c).mono ?_
      rintro f wq ⟨z5z,rfl,hv,z⟩;exact⟨_,rfl,{a with b:=iW a.b (lK z),f7:=(λ_=>wj),f8:=(λ_=>hv),f9:=(kY (abU)),f10:=(kY (abV)),f11:=(kY (abW)),f12:=(kY (abX)),f13:=(kY (RK)),f14:=(kY (abY)),f15:=(kY (abZ)),dd:=(a.dd.below z)}⟩
     ·have p:=o.E 8 61;clear o;go_simp;exact⟨_,rfl,{a with f9:=aB}⟩
     ·have pK:dn 8=true:=o.hu 9 8 rfl (o.hp 9 rfl);obtain⟨za,zc,ya,yc,zr,eD,zL,zC,zF,zK⟩:=a.f8 pK;have p:=(o.E 9 52).trans ((a.f9 (o.d 9)).trans eD);clear o;go_simp;exact⟨_,rfl,{a with f10:=(λ_=>(by show _=ku 0 (v 8);rw[eD];rfl))}⟩
     ·have pK:dn 8=true:=o.hu 9 8 rfl (o.hp 9 rfl);obtain⟨za,zc,ya,yc,zr,eD,zL,zC,zF,zK⟩:=a.f8 pK;have p:=(o.E 9 52).trans ((a.f9 (o.d 9)).trans eD);clear o;go_simp;exact⟨_,rfl,{a with f11:=(λ_=>(by show _=ku 1 (v 8);rw[eD];rfl))}⟩
     ·have pK:dn 8=true:=o.hu 9 8 rfl (o.hp 9 rfl);obtain⟨za,zc,ya,yc,zr,eD,zL,zC,zF,zK⟩:=a.f8 pK;have p:=(o.E 9 52).trans ((a.f9 (o.d 9)).trans eD);clear o;go_simp;exact⟨_,rfl,{a with f12:=(λ_=>(by show _=ku 2 (v 8);rw[eD];rfl))}⟩
     ·have RL:=o.d 10;have p:=o.E 10 62;clear o;go_simp;exact⟨_,rfl,{a with f13:=(λ_=>(a.f10 RL))}⟩
     ·have RM:=o.d 11;have p:=o.E 11 63;clear o;go_simp;exact⟨_,rfl,{a with f14:=(λ_=>(a.f11 RM))}⟩
     ·have ab0:=o.d 12;have p:=o.E 12 64;clear o;go_simp;exact⟨_,rfl,{a with f15:=(λ_=>(a.f12 ab0))}⟩
    simp only[jG,Act.put,Nat.reduceAdd,dD];obtain⟨za,zc,ya,yc,zr,eD,zL,zC,zF,zK⟩:=a.f8 rfl;rw[show v 13=.slice za d.length zc from(a.f13 rfl).trans (by rw[eD];rfl)];rw[show v 14=.slice ya (bh d) yc from(a.f14 rfl).trans (by rw[eD];rfl)];rw[show v 15=.int .i64 0 from(a.f15 rfl).trans (by rw[eD];rfl)];have cA:=a.b;obtain⟨z0z,hf⟩:∃z0z,z0z=λz3z=>bt ((vs++[K::zr]).getD z3z []):=⟨_,rfl⟩;obtain⟨z1z,Km⟩:∃z1z,z1z=λz3z=>bV d ((vs++[K::zr]).getD z3z []):=⟨_,rfl⟩;have HFK:Hid (z0z k=bt (K::zr)):=A (by rw[hf];exact congrArg bt (G4 xP.1.1));have kh:Hid (z1z k=bV d (K::zr)):=A (by rw[Km];exact congrArg (bV d) (G4 xP.1.1));obtain⟨HAW,uu,ND⟩:=bJ ((NC.1.dic pL.1 cA).to (f':=z0z) (g':=z1z) (λq hj=>by rw[hf];exact congrArg bt (G3 (by rw[xP.1.1];exact hj)).symm) (λq hj=>by rw[Km];exact congrArg (bV d) (G3 (by rw[xP.1.1];exact hj)).symm)) hf Km;have HN:Hid (Kh c u17 (.slice ya (bh d) yc) (z0z k)):=A ⟨by rw[HFK.1];exact zC,λb z e2=>by
     have h1:=zF b z;have h2:=HIW.1 b e2;omega⟩
    have Kn:Hid (RS c (.slice za d.length zc) (z1z k)):=A (by rw[kh.1];exact zL);have RX:Hid (Ki g (y::H) d m rws (vs++[K::zr]) (k+1)):=A (by
     have gm:=zy.1;have h1:(cz (g.getD (J rws k).toNat []) (y::H))=K:=by rw[gm,HVL.1,AZ]
     have h2:=xP.1.snoc (v:=zr) (by rw[h1];exact zK);rw[h1]at h2;exact h2)
    have aw6:Hid (rws.take k++[(r:Int)]=rws.take (k+1)):=A (by
     rw[jv dq.1,<-di dq.1,zy.1])
    have ma:Hid (dO n (B+16*(k:Int)+u) c):=A a.dd;have m6:=A (iW oe.1 cA);have s0w:=cA.cell s0 (HNS.1 0);have oS:=bk c #[r] 3;obtain⟨RY,OQ,RZ,CE,Jv⟩:=gw (HAW.1.keep oS) (HN.1.keep oS) (Kn.1.below oS) (ma.1.below oS) (fT m6.1 (oS.mono m6.1.size));have NF:=A Jv.1.size;have R0:Hid (n<w5.heap.size):=A HD.1.lt;have BN:k<=1000000:=by omega
    clear oS HAW HN Kn ma m6 NC pL oe yW Jm RJ HM hf Km a cA zL zC zF zK eD c0 c1 c2 c3 d0 d1 s0 s1 p1 p2;go_wp2_with (first
     |(refine aaX rfl _ _ rfl w5.heap.size k _ _ rfl RY.1.o c.heap.size 1 (r:Int) rfl (Y (World.alloc_heap_new _ _) rfl) BN NF.1 ?_;intro g9 atm w9 h9 o9 l9;have Jb:=A (RY.1.int OQ.1 h9 o9 l9);have B2:=A (fH RY.1.o o9 NF.1);have JK:=A (fT Jv.1 B2.1);have Ak:=A (CE.1.low B2.1 R0.1);have HD2:=A (RZ.1.grown RY.1.o (by decide) o9);clear h9 o9 l9 RY OQ RZ NF Jv CE B2;have xf:=bk w9 #[.slice ya (bh d) yc] 23;have R1:=A (Jb.1.1.keep xf);have HN3:=A (Jb.1.2.keep xf);have HD3:=A (HD2.1.below xf);have Hc:=A (Ak.1.below xf);have HG3:=A (fT JK.1 (xf.mono JK.1.size));have HS3:=A HG3.1.size;clear xf Jb HD2 JK Ak)
     |(refine atw rfl _ _ rfl w5.heap.size k _ I rfl R1.1.a.o1 w9.heap.size 1 (.slice ya (bh d) yc) rfl (Y (World.alloc_heap_new _ _) rfl) rfl BN HS3.1 ?_;intro v10 pg IF GB;have HA4:=A (R1.1.one HN3.1 IF GB);have B4:=A (fH R1.1.a.o1 GB HS3.1);have HG4:=A (fT HG3.1 B4.1);have Fv:=A (Hc.1.low B4.1 R0.1);have R2:=A (HD3.1.grown R1.1.a.o1 (by decide) GB);clear IF GB R1 HN3 HD3 HS3 HG3 Hc B4;have R3:=bk pg #[.slice za d.length zc] 38;have NC:=A (HA4.1.keep R3);have pL:=A (R2.1.below R3);have HE5:=A (Fv.1.below R3);have oe:=A (fT HG4.1 (R3.mono HG4.1.size));have Kk:=A oe.1.size;clear R3 HA4 R2 HG4 Fv)
     |(refine atx rfl _ _ rfl w5.heap.size k _ P rfl NC.1.a.o2 pg.heap.size 1 (.slice za d.length zc) rfl (Y (World.alloc_heap_new _ _) rfl) rfl BN Kk.1 ?_;intro v11 sx OY o11;have HA6:=A (NC.1.two pL.1 OY o11);have B6:=A (fH NC.1.a.o2 o11 Kk.1);have my:=A (fT oe.1 B6.1);have HE6:=A (HE5.1.low B6.1 R0.1);clear OY o11))
    go_roundw;case rel=>exact⟨k+1,vs++[K::zr],_,_,dq.1,by go_num,RX,by rw[<-aw6.1,<-uu.1,<-ND.1];exact HA6,HE6.1.mono (by have:=Np.1;omega),my.1⟩
    case measure =>
     have h9:=dq.1;simp[intOf];omega
   ·obtain rfl:k=rws.length:=by omega
    rw[m9]at HA;obtain⟨u',iy,he,Cv,yY⟩:=aw0 iD.1 HP.1 nG.1 (by rw[<-gZ.1];exact xP.1) HE.1.1 HE.1.2 AT.1 HAO.1;rw[<-gZ.1]at he Cv yY;obtain⟨CS,hCS⟩:=aK (vs.map bt);obtain⟨LS,hLS⟩:=aK (vs.map (bV d));have hCl:CS.length=rws.length:=by rw[hCS,dy,xP.1.1]
    have hLl:LS.length=rws.length:=by rw[hLS,dy,xP.1.1]
    rw[<-hCS,<-hLS]at he;rw[<-hCS]at Cv;rw[<-hLS]at yY;have ab6:bI wr u18 CS:=HA.1.a.rows (q:=CS) hCl (by omega) (λk a=>by subst hCS;rw[gj,dp (by rw[dy]at a;exact a)]);have ab7:oq wr u19 LS:=HA.1.a.lists (q:=LS) hLl (by omega) (λk a=>by subst hLS;rw[gj,dp (by rw[dy]at a;exact a)]);have ab8:aM wr u17 rws:=aM.own HA.1.o (λz1 hz=>by
     rw[gZ.1]at hz;obtain⟨z3z,hi,rfl⟩:=ey.1 hz;have:=(By hi).1;have:=tK.1;exact aN.mk (by omega) (by omega)) (by omega)
    obtain⟨ca,ck,rfl,-⟩:=id ab6;obtain⟨la,lk,rfl,-⟩:=id ab7;obtain⟨ra,rk,rfl,-⟩:=id ab8;have D:=HB.1.trans (rp hg kt.1 HB.1.size);have OS:=HC.1.dic HD.1 hg;have HMO:=A (awV E (.slice a1 g.length k1) (.slice a2 h.length k2) (.slice a3 (bh g) k3) (.slice a4 d.length k4) (.slice a5 m.length k5) _ _ _ _ g h (bt (y::H)) d m t rws CS LS _ _ wr (HR.1.below D) (HO.1.below D) OS.1 (dz.1.below D) (dH.1.below D) ab6 ab7 (iB.1.dic HD.1 hg).1 ab8 ⟨he,Cv,yY⟩);have sM:Hid (∀q:Nat,some (⟨e.heap.size,q,none⟩:Addr).block≠some n):=A (λq=>dG.1 _ q (aP _));have Ce:Hid (∀q:Nat,some (⟨e.heap.size+1,q,none⟩:Addr).block≠some n):=A (λq=>dG.1 _ q (eP _));have iL:=(hg.block _ (bG Q1.1) (sM.1 0)).trans Q1.1;have fE:=(hg.block _ (bG Q2.1) (Ce.1 0)).trans Q2.1;have vV:=(hg.block _ (bG Q3.1) (dG.1 (e.heap.size+1+1) 0 (bK (eP _) (eP _)))).trans Q3.1;obtain⟨c0,c1,c2,c3⟩:=fh iL;obtain⟨d0,d1⟩:=ez fE;obtain⟨om,Hi,zA,Hj,ma,m6,l7,Nq⟩:=DL iL vV fE iy hd hg D OS;clear hCl hLl hCS hLS;clear he Cv yY ab6 ab7 ab8 D OS iy iL fE vV hd hg HA xP;go_wp2_with fail;with_reducible refine HMO.1.mono ?_
    rintro f w7 ⟨BQ,Nj,rfl,zm,Ha,bz⟩;have iL:=az bz om.1;have fE:=az bz zA.1;have vV:=az bz Hi.1;obtain⟨u0,u1,u2,u3⟩:=fh vV;obtain⟨f0,f1,f2,f3⟩:=wm vV;obtain⟨ac,cc,rfl,-⟩:=id zm.1;obtain⟨ay,cy,rfl,-⟩:=id Ha.1;have e1:(bt (y::u')).length=bh d:=by rw[At];exact Hj.1.full
    rw[e1]at zm ⊢;rw[ju]at Ha ⊢;clear e1;obtain⟨W8,ie⟩:=aK (putKey w7 (e.heap.size+1+1) (E+1:Int) (.slice a4 d.length k4) (.slice a5 m.length k5) (.slice ac (bh d) cc));obtain⟨Dt,Hb,ab2⟩:=bJ (ie▸zm.keyW vV (by decide) _ _ _ _) (ie▸Ha.keyW vV (by decide) _ _ _ _) (ie▸(Nq.1.below bz).keyW vV (by decide) _ _ _ _);have vU:Below e w7 W8:=ie▸JQ (aY _ w7) (bK (eP e.heap.size) (eP _)) _ _ _ _;have dh:=qw.1.size;have Lp:=m6.1.size;obtain⟨RN,AR,RO⟩:=bJ ((ma.1.below bz).low vU iV.1) (fT (fT (iW qw.1 m6.1) (bz.mono (bK dh Lp))) vU) ((ar l7.1 bz).trans (vU.mono (bK kt.1 (gQ iV.1))));have pn:=ie▸MM vV (E+1:Int) (.slice a4 d.length k4) (.slice a5 m.length k5) (.slice ac (bh d) cc);have Fu:=ie▸(GW w7 (show e.heap.size≠e.heap.size+1+1 by omega) (E+1:Int) (.slice a4 d.length k4) (.slice a5 m.length k5) (.slice ac (bh d) cc)).trans iL;have hp8:=ie▸(GW w7 (show e.heap.size+1≠e.heap.size+1+1 by omega) (E+1:Int) (.slice a4 d.length k4) (.slice a5 m.length k5) (.slice ac (bh d) cc)).trans fE;have Ka:=A pn;unfold putKey at ie;have Dp:=A ie;obtain⟨g0,g1,g2,g3⟩:=fh pn;replace c3:=Y Fu (k:=3) (d:=.slice a3 (bh g) k3) rfl;replace d0:=Y hp8 (k:=0) (d:=.slice a4 d.length k4) rfl;replace d1:=Y hp8 (k:=1) (d:=.slice a5 m.length k5) rfl;obtain⟨cb,co,ea,q1⟩:=RH ab2.1.1;obtain⟨db,jX,eb,q2⟩:=RH Dt.1.1;subst ea;subst eb;obtain⟨Nr,gR⟩:=aK (bm 4 y);rw[<-gR]at q1 q2;have C9:Hid (∀c,Below W8 W8 c->Calls prog 32 #[.agg #[(E+1:Int),.slice a4 d.length k4,.slice a5 m.length k5,.slice (db,jX) (bh d) cc],.slice ay d.length cy] c λf w'=>f=.returned true/\Below c c w'):=A (λc fo=>by
     have D:=ar RO.1 fo;exact abG (E+1) _ _ _ _ d m (bt (y::u')) (bV d (y::u')) c (dz.1.below D) (dH.1.below D) (Dt.1.below fo).1 (Hb.1.below fo).1 (ju _ _) (abT Hj.1 nG.1))
    have ab9:Hid (∀c,Below W8 W8 c->Calls prog 27 #[.agg #[.slice a4 d.length k4,.slice a5 m.length k5]] c λf w'=>f=.returned (bh d:Int)/\Below c c w'):=A (λc fo=>by
     have D:=ar RO.1 fo;exact Mh _ _ d m c (dz.1.below D) (dH.1.below D))
    have pF:0<bh g:=by
     have:=iD.1.prog.cols;omega
    have az0:0<bh d:=by
     have:=Hj.1.prog.cols;omega
    clear ie pn Fu hp8 iL fE vV zm Ha bz vU dh Lp gR om zA Hi HMO Nq ma m6 qw c0 c1 c2;go_wp2_with (rw[<-Dp.1]);clear u0 u1 u2 u3 f0 f1 f2 f3;refine nW (aw2 W8 e.heap.size (e.heap.size+1) (e.heap.size+1+1) (E+1) (.slice a4 d.length k4) (.slice a5 m.length k5) cb co (bh g) k3 db jX cc (bh d) (.slice ay d.length cy) Nr) (λv=>?_) ?_ (λv c a=>?_)
    ·exact⟨(aY _ _).drew,ax,ax,ax,ax,ax,ax,ax,ax,ax,ax,ax,ax,ax,ax,ax,ax,ax,ax,ax,ax,ax,ax,ax,ax,ax,ax,ax,ax,ax,ax,ax⟩
    ·refine⟨?_,?_,?_,?_,?_,?_,?_,?_,?_,?_,?_,?_,?_,?_,?_,?_,?_,?_,?_,?_,?_,?_,?_,?_,?_,?_,?_,?_,?_,?_,?_,?_,trivial⟩;all_goals intro dn v c C a o
     ·have p:=o.b 10 ((e.heap.size+1+1),0);have cJ:=U a.b g0;have jd:=U a.b g1;have vK:=U a.b g2;have xE:=U a.b g3;clear o;go_simp;exact⟨_,rfl,{a with f0:=aB}⟩
     ·have p:C.tmps[11]?.getD undef=.slice ay d.length cy:=o.hf.2 29 11 rfl (o.n 29);clear o;go_simp;exact⟨_,rfl,{a with f1:=aB}⟩
     ·have p:=o.b 16 (0:Int);clear o;go_simp;exact⟨_,rfl,{a with f2:=aB}⟩
     ·have p:=o.e 2 95 a.f2;clear o;go_simp;exact⟨_,rfl,{a with f3:=aB}⟩
     ·have p:=o.e 3 96 a.f3;clear o;go_simp;exact⟨_,rfl,{a with f4:=aB}⟩
     ·refine o.g 4 a.f4 ?_;have p:=o.b 10 ((e.heap.size+1+1),0);clear o;go_simp;exact⟨_,rfl,{a with f5:=aB}⟩
     ·refine o.g 4 a.f4 ?_;have p:=o.e 5 98 a.f5;have cJ:=U a.b g3;clear o;go_simp;exact⟨_,rfl,{a with f6:=aB}⟩
     ·refine o.g 4 a.f4 ?_;have p:=o.e 6 99 a.f6;clear o;go_simp;exact⟨_,rfl,{a with f7:=aB}⟩
     ·refine o.g 4 a.f4 ?_;have p:=o.b 7 ((e.heap.size+1),0);have cJ:=U a.b d0;have jd:=U a.b d1;clear o;go_simp;exact⟨_,rfl,{a with f8:=aB}⟩
     ·refine o.g 4 a.f4 ?_;have p:=o.e 8 101 a.f8;clear o;go_simp;with_reducible refine(ab9.1 c a.b).mono ?_
      rintro f wq ⟨rfl,z⟩;exact⟨_,rfl,{a with b:=ar a.b z,f9:=aB}⟩
     ·refine o.g 4 a.f4 ?_;have p:=o.e 7 100 a.f7;have e1:=o.e 9 102 a.f9;clear o;go_simp;exact⟨_,rfl,{a with f10:=aB}⟩
     ·have p:=o.e 4 97 a.f4;have e1:=o.e 10 103 a.f10;clear o;go_simp;exact⟨_,rfl,{a with f11:=aB}⟩
     ·have p:=o.e 11 104 a.f11;clear o;go_simp;exact⟨_,rfl,{a with f12:=aB}⟩
     ·refine o.g 12 a.f12 ?_;have p:=o.b 10 ((e.heap.size+1+1),0);clear o;go_simp;exact⟨_,rfl,{a with f13:=aB}⟩
     ·refine o.g 12 a.f12 ?_;have p:=o.e 13 106 a.f13;have cJ:=U a.b g3;clear o;go_simp;exact⟨_,rfl,{a with f14:=aB}⟩
     ·refine o.g 12 a.f12 ?_;have p:=o.e 14 107 a.f14;clear o;go_simp;exact⟨_,rfl,{a with f15:=aB}⟩
     ·refine o.g 12 a.f12 ?_;have p:=o.e 15 108 a.f15;have cJ:=U a.b q2;clear o;go_simp;exact⟨_,rfl,{a with f16:=aB}⟩
     ·refine o.g 12 a.f12 ?_;have p:=o.b 5 (e,0);clear o;go_simp;exact⟨_,rfl,{a with f17:=aB}⟩
     ·refine o.g 12 a.f12 ?_;have p:=o.e 17 110 a.f17;have cJ:=U a.b c3;clear o;go_simp;exact⟨_,rfl,{a with f18:=aB}⟩
     ·refine o.g 12 a.f12 ?_;have p:=o.e 18 111 a.f18;clear o;go_simp;exact⟨_,rfl,{a with f19:=aB}⟩
     ·refine o.g 12 a.f12 ?_;have p:=o.e 19 112 a.f19;have cJ:=U a.b q1;clear o;go_simp;exact⟨_,rfl,{a with f20:=aB}⟩
     ·refine o.g 12 a.f12 ?_;have p:=o.e 16 109 a.f16;have e1:=o.e 20 113 a.f20;clear o;go_simp;exact⟨_,rfl,{a with f21:=aB}⟩
     ·have p:=o.e 12 105 a.f12;have e1:=o.e 21 114 a.f21;clear o;go_simp;exact⟨_,rfl,{a with f22:=aB}⟩
     ·have p:=o.e 22 115 a.f22;clear o;go_simp;exact⟨_,rfl,{a with f23:=aB}⟩
     ·refine o.g 23 a.f23 ?_;have p:=o.b 10 ((e.heap.size+1+1),0);have cJ:=U a.b g0;have jd:=U a.b g1;have vK:=U a.b g2;have xE:=U a.b g3;clear o;go_simp;exact⟨_,rfl,{a with f24:=aB}⟩
     ·refine o.g 23 a.f23 ?_;have p:C.tmps[11]?.getD undef=.slice ay d.length cy:=o.hf.2 29 11 rfl (o.n 29);clear o;go_simp;exact⟨_,rfl,{a with f25:=aB}⟩
     ·refine o.g 23 a.f23 ?_;have p:=o.e 24 117 a.f24;have e1:=o.e 25 118 a.f25;clear o;go_simp;with_reducible refine(C9.1 c a.b).mono ?_
      rintro f wq ⟨rfl,z⟩;exact⟨_,rfl,{a with b:=ar a.b z,f26:=aB}⟩
     ·have p:=o.e 23 116 a.f23;have e1:=o.e 26 119 a.f26;clear o;go_simp;exact⟨_,rfl,{a with f27:=aB}⟩
     ·have cJ:=U a.b g0;have jd:=U a.b g1;have vK:=U a.b g2;have xE:=U a.b g3;have qJ:=az a.b Ka.1;obtain⟨r0,r1,r2,r3⟩:=wm qJ;have e1:=o.b 10 ((e.heap.size+1+1),0);have e2:=o.e 0 93 a.f0;have S0:=mC cJ;have S1:=mC jd;have S2:=mC vK;have S3:=mC xE;clear o;clear qJ;go_simp;exact⟨undef,{a with  }⟩
     ·have p:=o.e 1 94 a.f1;clear o;go_simp;exact⟨_,rfl,{a with f29:=aB}⟩
     ·clear o;go_simp;exact⟨_,rfl,{a with f30:=aB}⟩
     ·have p:=o.e 27 120 a.f27;clear o;go_simp;exact⟨_,rfl,{a with f31:=aB}⟩
    simp only[jG,Act.put,Nat.reduceAdd,dD];rw[a.f29 rfl];rw[a.f30 rfl];rw[a.f31 rfl];have cA:=a.b;have HF:=A cA;refine uc cA g0 g1 g2 g3 ?_;clear g0 g1 g2 g3;intro g0 g1 g2 g3;clear a cA q1 q2 c3 d0 d1;go_wp2_with fail;try simp only[Exit.inBlock,Exit.then]
    refine gB (v:=.tuple #[.agg #[(E+1:Int),.slice a4 d.length k4,.slice a5 m.length k5,.slice (db,jX) (bh d) cc],.slice ay d.length cy,true,true]) ?_ rfl ?_
    ·rw[ajs rfl];go_simp
    ·exact⟨⟨_,Or.inr ⟨_,u',rfl,Dt.1.below HF.1,Hb.1.below HF.1,Hj.1⟩⟩,(RN.1.below HF.1).mono (by have:=Np.1;omega),fT AR.1 (HF.1.mono AR.1.size)⟩
theorem aw7{o:List gG}(z0z:ir c v o)(b:c.grownBy l r)(q:∀a,v.ownBlock=some a->r≠some a):ir l v o:=by
 obtain⟨p,L,rfl,y,z,D,E⟩:=z0z;refine⟨p,L,rfl,y,z,D,λk hk=>?_⟩;obtain⟨a,off,rfl,H,h7,h8⟩:=E k hk;have hn:r≠some a:=q a rfl;exact⟨a,off,rfl,b.cell H (λf=>hn f.symm),b.cell h7 (λf=>hn f.symm),b.cell h8 (λf=>hn f.symm)⟩
theorem aju(z:dS c O v)(y:c.grownBy l r)(o:∀a,v.ownBlock=some a->r≠some a):dS l O v:=λa f=>by
 obtain⟨s,q,b⟩:=z a f;exact⟨s,q,(y.block a (bG b) (λp=>o a f p.symm)).trans b⟩
theorem NG(o:dS c O v):∀a,v.ownBlock=some a->a<c.heap.size:=λa f=>by
 obtain⟨s,p,b⟩:=o a f;exact bG b
theorem Ca.apart{z:DV}(a:Ca c z)(o:c.grownBy l r)(p:∀b,z.2.1.ownBlock=some b->r≠some b)(q:∀b,z.2.2.ownBlock=some b->r≠some b):Ca l z:=
 ⟨⟨a.ok.r,(RI.apart ⟨a.ok.cs,a.tc⟩ o p).1,aw7 a.ok.ps o q⟩,aju a.tc o p,aju a.tp o q⟩
theorem Ca.block{z:DV}(b:Ca c z)(p:∀a,z.2.1.ownBlock=some a->l.heap[a]?=c.heap[a]?)(q:∀a,z.2.2.ownBlock=some a->l.heap[a]?=c.heap[a]?):Ca l z:=by
 have hr:∀{O:TypeId} {v:Value},dS c O v->(∀a,v.ownBlock=some a->l.heap[a]?=c.heap[a]?)->dS l O v:=λb p a f=>by
  obtain⟨s,fz,q⟩:=b a f;exact⟨s,fz,(p a f).trans q⟩
 refine⟨⟨b.ok.r,?_,?_⟩,hr b.tc p,hr b.tp q⟩
 ·obtain⟨y,L,f,D,E,H,g5⟩:=b.ok.cs;refine⟨y,L,f,D,E,H,λk hk=>?_⟩;obtain⟨a,off,o,h7⟩:=g5 k hk;exact⟨a,off,o,by rw[rB (w:=c) (p a (by rw[f,o];rfl))];exact h7⟩
 ·obtain⟨y,L,f,D,E,H,g5⟩:=b.ok.ps;refine⟨y,L,f,D,E,H,λk hk=>?_⟩;obtain⟨a,off,o,h6,h7,h8⟩:=g5 k hk;have hb:=q a (by rw[f,o];rfl);exact⟨a,off,o,by rw[rB (w:=c) hb];exact h6,by rw[rB (w:=c) hb];exact h7,by rw[rB (w:=c) hb];exact h8⟩
theorem ajv{a:Nat}{o:Nat×Nat}{q:Value}(p:c.heap[a]?=some (.cells s O o))(D:c.ownsRow Z f X q u I)(y:O≠f)(z:c.grownBy l q.ownBlock):l.heap[a]?=some (.cells s O o):=by
 have E:dS c O (.slice (a,0) 0 0):=λH b=>by
  injection b with b;subst b;exact⟨s,o,p⟩
 exact(z.block a (bG p) (λb=>E.ne D y a rfl b.symm)).trans p
theorem ajw{a b:Nat}(p:Below N c l)(o:a<N)(q:c.cell? (a,b)=some v):l.cell? (a,b)=some v:=by
 rw[rB (w:=c) (p.block a o)];exact q
theorem aw8{o:Nat}(a:c.ownsRow Z f X (.slice (o,0) u L) u I)(b:I[k]?=some v):c.cell? (o,k)=some v/\c.frozen? (o,k)=false:=by
 obtain⟨H,a⟩:=a;rcases a with⟨a,-⟩|⟨E,ue,z,p,hb,q,kE,hm,D,y⟩
 ·cases a
 ·simp only[dr,tX,Cn,and_true,true_and]at p;obtain⟨rfl,-⟩:=p;refine⟨Y q ?_,cB q k⟩;rw[<-y,we]at b;split at b
  ·rw[<-sR];exact b
  ·cases b
theorem ajx:∀(a:List gG) (k:Nat) (b:k<a.length),(a.flatMap gW)[k*3+2]?=some (.int .i64 a[k].2.2)
 |[],k,b=>absurd b (fG k)
 |o::a,0,_=>by simp[gW]
 |o::a,k+1,b=>by
  have p:=ajx a k (by simpa using b);rw[show(k+1)*3+2=k*3+2+1+1+1 by omega];simp only[lP,gW,jn,jf,Xl,List.getElem_cons_succ];exact p
theorem ajy:∀(a:List gG) (k:Nat) (b:k<a.length) (z:Int),(a.flatMap gW).set (k*3+2) z=(a.set k (a[k].1,a[k].2.1,z)).flatMap gW
 |[],k,b,_=>absurd b (fG k)
 |o::a,0,_,z=>by simp[gW]
 |o::a,k+1,b,z=>by
  have p:=ajy a k (by simpa using b) z;rw[show(k+1)*3+2=k*3+2+1+1+1 by omega];simp only[lP,gW,jn,jf,zH,List.getElem_cons_succ];rw[p]
structure Dv(N b u L o:Nat)(W:List Value)(F:Int)(a:Bool)(e:World):Prop where
 ow:e.ownsRow N 88 3 (.slice (b,0) u L) u (bif a then W.set o F else W)
 wide:N<=e.heap.size
theorem Dv.below{o q:Nat}{b:Bool}(p:Dv N o u L q W F b e)(a:Below e e w'):Dv N o u L q W F b w':=⟨dM p.ow a,bK p.wide a.size⟩
theorem Dv.get{b a:Nat}(p:Dv N b u L a W F false e)(o:W[a]?=some v):e.cell? (b,a)=some v/\e.frozen? (b,a)=false:=aw8 p.ow o
theorem Dv.store{a b:Nat}(o:Dv N a u L b W F false e):N<=a/\Dv N a u L b W F true (e.setCell (a,b) F):=by
 obtain⟨-,p,q⟩:=EX o.ow b F;exact⟨p,q,by simp[World.setCell];exact o.wide⟩
theorem aca(y:c.ownsRow Z f X v u I)(p:c.grownBy l r)(z:∀b,v.ownBlock=some b->r≠some b):l.ownsRow Z f X v u I:=by
 cases r with
 |none=>exact FQ (k:=.slice none 0 0) y p (λq o a=>by cases a)
 |some D=>exact FQ (k:=.slice (some ⟨D,0,none⟩) 0 0) y p (λq o a=>z q o a)
structure gP(N:Nat)(c:World)(j w:List DV)(C i x:Value)(G:V)(s:List cP):Prop where
 oa:c.ownsRow N 84 3 C j.length (j.flatMap pH)
 oi:c.ownsRow N 3 1 i G.length (G.map (Value.int .i64))
 os:c.ownsRow N 92 5 x s.length (s.flatMap iM)
 tv:∀z∈w,Ca c z
 ap:∀z∈w,∀a,z.2.1.ownBlock=some a->i.ownBlock≠some a
def acb(b:Nat)(w:List DV)(C i x:Value):Prop:=(∀a,C.ownBlock=some a->a<b)/\(∀a,i.ownBlock=some a->a<b)/\(∀a,x.ownBlock=some a->a<b)/\∀o∈w,(∀a,o.2.1.ownBlock=some a->a<b)/\∀a,o.2.2.ownBlock=some a->a<b
section
variable {N:Nat} {c l:World} {j w:List DV} {C i x:Value} {G:V} {s:List cP}
theorem gP.nil(N:Nat)(c:World):gP N c [] [] () () () [] []:=
 ⟨iv _ _ _ _,iv _ _ _ _,iv _ _ _ _,λ_ a=>(by cases a),λ_ a=>(by cases a)⟩
theorem gP.apart{r:Option Nat}(b:gP N c j w C i x G s)(o:c.grownBy l r)(y:∀a,C.ownBlock=some a->r≠some a)(D:∀a,i.ownBlock=some a->r≠some a)(E:∀a,x.ownBlock=some a->r≠some a)(q:∀z∈w,(∀a,z.2.1.ownBlock=some a->r≠some a)/\∀a,z.2.2.ownBlock=some a->r≠some a):gP N l j w C i x G s:=
 ⟨aca b.oa o y,aca b.oi o D,aca b.os o E,λz p=>(b.tv z p).apart o (q z p).1 (q z p).2,b.ap⟩
theorem gP.keep(b:gP N c j w C i x G s)(a:Below c c l):gP N l j w C i x G s:=
 b.apart (r:=none) (lK a) (λ_ _ f=>(by cases f)) (λ_ _ f=>(by cases f)) (λ_ _ f=>(by cases f)) (λ_ _=>⟨λ_ _ f=>(by cases f),λ_ _ f=>(by cases f)⟩)
theorem gP.dic{n:Nat}{B:Int}(a:gP N c j w C i x G s)(z:dO n B c)(D:c.grownBy l (some n)):gP N l j w C i x G s:=by
 have b:∀{O:TypeId} {v:Value},dS c O v->O ≠ 37 -> ∀o,v.ownBlock=some o->some n≠some o:=λE H o f y=>z.ne E H (f.trans y.symm);exact a.apart D (b (dS.own a.oa) (by decide)) (b (dS.own a.oi) (by decide)) (b (dS.own a.os) (by decide)) (λq p=>⟨b (a.tv q p).tc (by decide),b (a.tv q p).tp (by decide)⟩)
theorem gP.box{y:Nat}{H:Array Value}{O:TypeId}{fz:Nat×Nat}(b:gP N c j w C i x G s)(hX:c.heap[y]?=some (.cells H O fz))(h1:O ≠ 84)(z:O ≠ 3)(h3:O ≠ 92)(h4:O ≠ 88)(hg:c.grownBy l (some y)):gP N l j w C i x G s:=by
 have o:∀{f:TypeId} {v:Value},dS c f v->O≠f->∀p,v.ownBlock=some p->some y≠some p:=λhr ht p e1 q=>by
  injection q with q;subst q;obtain⟨xn,xp,a⟩:=hr _ e1;rw[hX]at a;injection a with a;injection a with _ a _;exact ht a
 exact b.apart hg (o (dS.own b.oa) h1) (o (dS.own b.oi) z) (o (dS.own b.os) h3) (λE D=>⟨o (b.tv E D).tc z,o (b.tv E D).tp h4⟩)
theorem gP.low(a:gP N c j w C i x G s):acb c.heap.size w C i x:=
 ⟨NG (dS.own a.oa),NG (dS.own a.oi),NG (dS.own a.os),λo b=>⟨NG (a.tv o b).tc,NG (a.tv o b).tp⟩⟩
theorem gP.live(b:gP N c j w C i x G s){z:DV}(y:Ca c z)(D:∀q,z.2.1.ownBlock=some q->i.ownBlock≠some q):gP N c j (w++[z]) C i x G s:=
 ⟨b.oa,b.oi,b.os,λp o=>by
  rcases lN.1 o with a|a
  ·exact b.tv p a
  ·rw[jJ.1 a];exact y,λp o=>by
  rcases lN.1 o with a|a
  ·exact b.ap p a
  ·rw[jJ.1 a];exact D⟩
theorem gP.addI{p L:Nat}{z:Int}(a:gP N c j w C i x G s)(ho:l.ownsRow N 3 1 (.slice (p,0) (G.length+1) L) (G.length+1) (G.map (Value.int .i64)++[.int .i64 z]))(D:c.grownBy l i.ownBlock)(q:i.ownBlock=some p\/p=c.heap.size):
  gP N l j w C (.slice (p,0) (G.length+1) L) x (G++[z]) s:=by
 refine⟨sF a.oa a.oi (by decide) D,by rw[gJ,fu];exact ho,sF a.os a.oi (by decide) D,λo b=>(a.tv o b).apart D (a.ap o b) ((a.tv o b).tp.ne a.oi (by decide)),λo b y E f=>?_⟩;have H:p=y:=by injection f
 rcases q with q|q
 ·exact a.ap o b y E (by rw[q,H])
 ·have:=NG (a.tv o b).tc y E;omega
theorem gP.addS{q:Value}{F:cP}(a:gP N c j w C i x G s)(y:l.ownsRow N 92 5 q (s.length+1) ((s++[F]).flatMap iM))(b:c.grownBy l x.ownBlock):gP N l j w C i q G (s++[F]):=
 ⟨sF a.oa a.os (by decide) b,sF a.oi a.os (by decide) b,by rw[fu];exact y,λp o=>(a.tv p o).apart b ((a.tv p o).tc.ne a.os (by decide)) ((a.tv p o).tp.ne a.os (by decide)),a.ap⟩
theorem gP.addA{o:Value}{z:DV}(a:gP N c j w C i x G s)(p:l.ownsRow N 84 3 o (j.length+1) ((j++[z]).flatMap pH))(b:c.grownBy l C.ownBlock):gP N l (j++[z]) w o i x G s:=
 ⟨by rw[fu];exact p,sF a.oi a.oa (by decide) b,sF a.os a.oa (by decide) b,λy q=>(a.tv y q).grown a.oa b,a.ap⟩
theorem gP.away{p X u:Nat}{f:TypeId}{q:Value}{I:List Value}(z0z:gP N c j w C i x G s)(b:acb p w C i x)(ho:c.ownsRow p f X q u I)(H:c.grownBy l q.ownBlock):gP N l j w C i x G s:=by
 have o:∀{v:Value},(∀a,v.ownBlock=some a->a<p)->∀a,v.ownBlock=some a->q.ownBlock≠some a:=λE a f D=>by
  have h1:=E a f;have h2:=abE ho a D;omega
 exact z0z.apart H (o b.1) (o b.2.1) (o b.2.2.1) (λz y=>⟨o (b.2.2.2 z y).1,o (b.2.2.2 z y).2⟩)
theorem gP.keepB{z:Nat}(p:gP N c j w C i x G s)(o:acb z w C i x)(b:Below z c l):gP N l j w C i x G s:=
 ⟨abK p.oa b o.1,abK p.oi b o.2.1,abK p.os b o.2.2.1,λy q=>(p.tv y q).block (λa f=>b.block a ((o.2.2.2 y q).1 a f)) (λa f=>b.block a ((o.2.2.2 y q).2 a f)),p.ap⟩
theorem gP.sub{p:List DV}(a:gP N c j w C i x G s)(o:∀z∈p,z∈w):gP N c j p C i x G s:=
 ⟨a.oa,a.oi,a.os,λz b=>a.tv z (o z b),λz b=>a.ap z (o z b)⟩
end
