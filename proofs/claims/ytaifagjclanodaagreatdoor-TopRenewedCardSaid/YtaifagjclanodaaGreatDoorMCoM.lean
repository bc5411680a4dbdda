/- The laws of complaints, in plain Lean: a dealing with a wrong share. -/
import Derived.Test.YtaifagjclanodaaGreatDoorMCoF
import Derived.Test.YtaifagjclanodaaGreatDoorMProH
import Derived.Test.YtaifagjclanodaaGreatDoorMReD
set_option maxHeartbeats 8000000
set_option maxRecDepth 100000
namespace Go.Proofs.YtaifagjclanodaaGreatDoor
open Go.Proofs.Tryz
open Go.RowKit FP
variable{w:Array Oper}{l:Array Value}{d:Int}{x:List Oper}{u g m:List Value}{e j n:Nat}{p:Oper}{h:TypeId}{r s v:Value}{b t:World}{c f:V}
section
variable {a:ak} {c G:V} {d:Int} {o:V} {C F B:Int} {i:Nat}
end
theorem VB{a:ak}{k:Int}(D:dU a c d f)(z:bH a c=0)(q:0<=k)(y:k<=64):ks a k (bt (d::f))=true:=by
 unfold ks;rw[(Qs D z).1,bB q,bB y];rfl
theorem abj{a:ak}{D:bF}(z:dU a c d f)(y:bH a c=0)(q:D.Sublist (bV a (d::f))):kM a (bt (d::f)) D=true:=by
 unfold kM;rw[agA q,jY,fg];intro K H;obtain⟨I,E,rfl⟩:=agy (q.subset H);have k:=(Jn z y E (n6 (a.getD I []) (d::f))).2;rw[(Vn (Qs z y).2).2,bB rfl,cu]at k;exact k.2
theorem ats{a:ak}{q h:V}(D:lU a c)(E:q.length=bh a):addS (bV a q) (bV a h)=bV a (kH q h):=by
 refine x8 (by rw[Vo,ju,ju]) λk I y=>?_;have z:k<a.length:=by rw[ju]at y;exact y
 rw[GI a _ y,agD D E k z];have H:(addS (bV a q) (bV a h))[k]=Da (bV a q) (bV a h) k:=by simp[addS]
 rw[H];unfold Da;rw[dp (show k<(bV a q).length by rw[ju];exact z),dp (show k<(bV a h).length by rw[ju];exact z),GI,GI]
theorem att(a:ak)(k h:V):gH (bV a k)=gH (bV a h):=by
 unfold gH bV;rw[mD,mD];rfl
def AA(q:ak):ak:=q.map λk=>bt (0::k)
def BR(a q:ak):gu:=q.map λk=>bV a (0::k)
theorem ahP{a:ak}:∀{q:ak} {f:V},dU a c d f->(∀z∈q,dU a c 0 z)->lZ (bt (d::f)) (AA q)=bt (d::uF f q)
 |[],_,_,_=>rfl
 |z::h,f,k,y=>by
  have H:=y z wh;have D:dU a c d (kH f z):=⟨k.prog,k.hx,UN f z,by rw[EP];exact k.len⟩;show lZ (mulL (bt (d::f)) (bt (0::z))) (AA h)=_;rw[ag1 (by rw[k.full,H.full]),ag2 k.hx];exact ahP (q:=h) D (λI E=>y I (wi _ E))
theorem ahQ{a:ak}:∀{q:ak} {f:V},dU a c d f->(∀z∈q,dU a c 0 z)->uG (bV a (d::f)) (BR a q)=bV a (d::uF f q)
 |[],_,_,_=>rfl
 |z::h,f,k,E=>by
  have y:dU a c d (kH f z):=⟨k.prog,k.hx,UN f z,by rw[EP];exact k.len⟩;show uG (addS (bV a (d::f)) (bV a (0::z))) (BR a h)=_;rw[ats k.prog k.full,ag2 k.hx];exact ahQ (q:=h) y (λH D=>E H (wi _ D))
theorem ahR{a:ak}{y:Int}{k:ak}(H:dU a c d f)(q:bH a c=0)(O:∀z∈k,dU a c 0 z)(N:0<=y)(R:y<64)(S:k.length<=64):
  re a c y (bt (d::f)) (bV a (d::f)) (AA k) (BR a k)=0:=by
 have I:(AA k).length=k.length:=by simp[AA]
 have Q:(BR a k).length=k.length:=by simp[BR]
 have K:Ay a (bV a (d::f)) (AA k) (BR a k) (AA k).length=true:=by
  refine fg.2 λi E=>?_;have P:i<k.length:=by rw[I]at E;exact dT.1 E
  have D:=O k[i] (bM P);unfold E7;rw[dp (show i<(AA k).length by omega),dp (show i<(BR a k).length by omega)];have L:(AA k)[i]'(by omega)=bt (0::k[i]):=by simp[AA]
  have M:(BR a k)[i]'(by omega)=bV a (0::k[i]):=by simp[BR]
  rw[L,M];unfold E6;rw[(Qs D q).1,abj D q (List.Sublist.refl _),bB (att a _ _)];have:J (bt (0::k[i])) 0=1:=by
   unfold bt;rw[EN (by simp)];exact Pj 4
  rw[this];rfl
 rw[ahN q,aA (by rw[VB H q N (by omega)];decide),aA (by omega),abj H q (List.Sublist.refl _),aA (by decide),aA (by omega),K,aD rfl]
structure tN(e:Nat)(b:World)(n j:Nat)(r s:Value)(g m:List Value)(q:Nat->V)(y:Nat->bF):Prop where
 o1:b.ownsRow e 23 1 r n g
 o2:b.ownsRow e 38 1 s j m
 r1:∀k (z:k<g.length),RI b g[k] (q k)
 r2:∀k (z:k<m.length),RS b m[k] (y k)
theorem tN.nil(e:Nat)(b:World)(q:Nat->V)(y:Nat->bF):tN e b 0 0 () () [] [] q y:=
 ⟨iv _ _ _ _,iv _ _ _ _,λ_ k=>absurd k (fG _),λ_ k=>absurd k (fG _)⟩
theorem tN.keep{D:Nat->V}{E:Nat->bF}(q:tN e b n j r s g m D E)(k:Below b b t):tN e t n j r s g m D E:=
 ⟨dM q.o1 k,dM q.o2 k,λz y=>(q.r1 z y).below k,λz y=>(q.r2 z y).below k⟩
theorem tN.one{E d:Value}{D:Nat->V}{I:Nat->bF}(k:tN e b n j r s g m D I)(M:RI b d (D n))(L:t.ownsRow e 23 1 E (n+1) (g++[d]))(y:b.grownBy t r.ownBlock):tN e t (n+1) j E s (g++[d]) m D I:=by
 have hn:g.length=n:=by have:=k.o1.1;omega
 refine⟨L,sF k.o2 k.o1 (by decide) y,λq z=>?_,λq z=>(k.r2 q z).grown k.o1 (by decide) y⟩;by_cases H:q<g.length
 ·rw[AX H];exact(k.r1 q H).grown k.o1 (by decide) y
 ·have K:q=g.length:=by simp at z;omega
  subst K;rw[Cr (aP _)];simp only[zI,K1];rw[hn];exact M.grown k.o1 (by decide) y
theorem tN.two{H D:Value}{K:Nat->V}{E:Nat->bF}(k:tN e b n j r s g m K E)(N:RS b D (E j))(M:t.ownsRow e 38 1 H (j+1) (m++[D]))(y:b.grownBy t s.ownBlock):tN e t n (j+1) r H g (m++[D]) K E:=by
 have hn:m.length=j:=by have:=k.o2.1;omega
 refine⟨sF k.o1 k.o2 (by decide) y,M,λq z=>(k.r1 q z).grown k.o2 (by decide) y,λq z=>?_⟩;by_cases I:q<m.length
 ·rw[AX I];exact(k.r2 q I).grown k.o2 (by decide) y
 ·have L:q=m.length:=by simp at z;omega
  subst L;rw[Cr (aP _)];simp only[zI,K1];rw[hn];exact N.grown k.o2 (by decide) y
theorem oq.own{z:World}{I:Nat}{q:gu}(y:z.ownsRow I 38 1 v n u)(O:u.length=q.length)(P:q.length<=17592186044416)(N:∀k (X:k<q.length) (Z:k<u.length),fK z u[k] q[k]):oq z v q:=by
 obtain⟨hn,y⟩:=y;rw[O,KR]at hn;rcases y with⟨rfl,W⟩|⟨E,K,D,rfl,-,M,Q,-,T,R⟩
 ·have:q=[]:=N5.1 (by omega);subst this;exact oq.nil _ _ _
 ·subst hn;refine⟨some (E,0),K,rfl,Q,P,λk H=>⟨E,0,u[k]'(by omega),rfl,?_,N k H (by omega)⟩⟩;rw[iN];have S:D.toList[k]?=some (u[k]'(by omega)):=by
   have L:(D.toList.take (q.length*1))[k]?=some (u[k]'(by omega)):=by rw[R,fw (by omega)]
   rwa [we,aD (by omega)]at L
  exact Y M (by rw[<-sR];exact S)
theorem tN.rows{z:Nat->V}{I:Nat->bF}(y:tN e b n j r s g m z I){q:ak}(K:q.length=n)(L:n<=1000000)(H:∀k (y:k<q.length),q[k]=z k):bI b r q:=
 bI.own y.o1 (by have:=y.o1.1;omega) (by omega) λk D E=>by rw[H k D];exact(y.r1 k E).1
theorem tN.lists{I:Nat->V}{z:Nat->bF}(y:tN e b n j r s g m I z){q:gu}(K:q.length=j)(L:j<=1000000)(H:∀k (y:k<q.length),q[k]=z k):oq b s q:=
 oq.own y.o2 (by have:=y.o2.1;omega) (by omega) λk D E=>by rw[H k D];exact(y.r2 k E).1
theorem atu:(prog.info? 23).map (λi=>(i.zero,i.size,i.bytes))=some (some (.slice none 0 0),1,24):=by kernel_rfl
theorem atv:(prog.info? 38).map (λi=>(i.zero,i.size,i.bytes))=some (some (.slice none 0 0),1,24):=by kernel_rfl
theorem atw{D:Act}{K:Exit->Act->World->Prop}(P:p.guard=none)(I d:Operand)(X:p.op=.call {callee:=.builtin .append,args:=#[I,d],argTypes:=#[22,22]})
  (q n:Nat) (v:Value) (g:List Value) (Z:D.eval I=v) (N:b.ownsRow q 23 1 v n g) (H L:Nat) (z:Value) (hx:D.eval d=.slice (H,0) 1 L) (O:b.cell? (H,0)=some z) (hz:z.oneCell'=true) (hn:n<=1000000) (Q:q<=b.heap.size)
  (z3z:∀y k,k.ownsRow q 23 1 y (n+1) (g++[z])->b.grownBy k v.ownBlock->wpList prog w K x (D.put p.dst y) k):wpList prog w K (p::x) D b:=by
 obtain⟨i0,jD,jq,R,S⟩:=xY atu;refine wpList_append_own_at _ P I d 22 X q 23 i0 () 1 24 underlying22 jD jq R S rfl (by decide) v n g Z N (H,0) 1 L [z] hx rfl ?_ ?_ ?_ ?_ Q ?_
 ·intro M f E;cases M with
  |zero=>simp at E;subst E;simpa [Addr.add] using O
  |succ M=>simp at E
 ·simpa using hz
 ·unfold maxLen;omega
 ·omega
 ·intro y k T W _ _;exact z3z y k T W
theorem atx{D:Act}{K:Exit->Act->World->Prop}(P:p.guard=none)(I d:Operand)(X:p.op=.call {callee:=.builtin .append,args:=#[I,d],argTypes:=#[104,104]})
  (q n:Nat) (v:Value) (g:List Value) (Z:D.eval I=v) (N:b.ownsRow q 38 1 v n g) (H L:Nat) (z:Value) (hx:D.eval d=.slice (H,0) 1 L) (O:b.cell? (H,0)=some z) (hz:z.oneCell'=true) (hn:n<=1000000) (Q:q<=b.heap.size)
  (z3z:∀y k,k.ownsRow q 38 1 y (n+1) (g++[z])->b.grownBy k v.ownBlock->wpList prog w K x (D.put p.dst y) k):wpList prog w K (p::x) D b:=by
 obtain⟨i0,jD,jq,R,S⟩:=xY atv;refine wpList_append_own_at _ P I d 104 X q 38 i0 () 1 24 underlying104 jD jq R S rfl (by decide) v n g Z N (H,0) 1 L [z] hx rfl ?_ ?_ ?_ ?_ Q ?_
 ·intro M f E;cases M with
  |zero=>simp at E;subst E;simpa [Addr.add] using O
  |succ M=>simp at E
 ·simpa using hz
 ·unfold maxLen;omega
 ·omega
 ·intro y k T W _ _;exact z3z y k T W
theorem mC{k p:Nat}(D:b.cell? (k,p)=some v):b.setCell (k,p) v=b:=by
 have y:(b.setCell (k,p) v).heap=b.heap:=by
  unfold World.setCell;refine Array.ext (by simp) λi M q=>?_;simp only[Array.getElem_modify];by_cases H:k=i
  ·subst H;rw[aD rfl];unfold World.cell? at D;simp only[lM q]at D;generalize b.heap[k]=L at *;cases L with
   |cells z h E =>
    show Obj.cells (z.setIfInBounds p v) h E=Obj.cells z h E;have q:z[p]?=some v:=D
    congr 1
    obtain⟨N,I⟩:=fF.1 q;rw[<-I];exact Array.ext (by simp) λP O K=>by
     rw[Array.getElem_setIfInBounds K];split
     ·subst_vars;rfl
     ·rfl
   |_=>rfl
  ·rw[aA H]
 cases b;unfold World.setCell at y ⊢;simp only at y;simp only[y]
def putKey(b:World)(e:Nat)(z k q y:Value):World:=(((b.setCell ⟨e,0,none⟩ z).setCell ⟨e,1,none⟩ k).setCell ⟨e,2,none⟩ q).setCell ⟨e,3,none⟩ y
theorem MM{D E H I:Value}(K:b.heap[e]?=QC.mk #[D,E,H,I] h)(z k q y:Value):(putKey b e z k q y).heap[e]?=QC.mk #[z,k,q,y] h:=
 cK (cK (cK (cK K 0 z) 1 k) 2 q) 3 y
theorem GW(b:World){q:Nat}(k:q≠e)(E y z D:Value):(putKey b e E y z D).heap[q]?=b.heap[q]?:=by
 unfold putKey;rw[dJ _ _ _ _ k,dJ _ _ _ _ k,dJ _ _ _ _ k,dJ _ _ _ _ k]
theorem abk(b:World){q k:Nat}(H:q≠e)(E y z D:Value):(putKey b e E y z D).cell? (q,k)=b.cell? (q,k):=
 rB (w:=b) (w':=putKey b e E y z D) (a:=(q,k)) (GW b H E y z D)
theorem JQ{q:World}(H:Below n q b)(k:n<=e)(E y z D:Value):Below n q (putKey b e E y z D):=(((H.setCell k _).setCell k _).setCell k _).setCell k _
theorem RI.keyW{Q:V}{W:Nat×Nat}(E:RI b v Q)(hS:b.heap[e]?=some (.cells l h W))(S:3 ≠ h)(P M N O:Value):RI (putKey b e P M N O) v Q:=by
 have I:∀q,v.ownBlock=some q->q≠e:=λq y z=>by
  subst z;obtain⟨K,L,k⟩:=E.2 q y;rw[hS]at k;injection k with k;injection k with _ D _;exact S D.symm
 refine⟨?_,λq y=>by obtain⟨K,L,k⟩:=E.2 q y;exact⟨K,L,(GW b (I q y) P M N O).trans k⟩⟩;obtain⟨⟨R,T,rfl,z,k,D,X⟩,-⟩:=E;refine⟨R,T,rfl,z,k,D,λz0 hk=>?_⟩;obtain⟨H,off,rfl,Z⟩:=X z0 hk;exact⟨H,off,rfl,by rw[abk b (I H rfl)];exact Z⟩
theorem RS.keyW{R:bF}{X:Nat×Nat}(E:RS b v R)(hS:b.heap[e]?=some (.cells l h X))(T:66 ≠ h)(Q N O P:Value):RS (putKey b e Q N O P) v R:=by
 have I:∀q,v.ownBlock=some q->q≠e:=λq y z=>by
  subst z;obtain⟨L,M,k⟩:=E.2 q y;rw[hS]at k;injection k with k;injection k with _ D _;exact T D.symm
 refine⟨?_,λq y=>by obtain⟨L,M,k⟩:=E.2 q y;exact⟨L,M,(GW b (I q y) Q N O P).trans k⟩⟩;obtain⟨⟨S,W,rfl,z,k,D,Z⟩,-⟩:=E;refine⟨S,W,rfl,z,k,D,λz0 hk=>?_⟩;obtain⟨H,off,rfl,h7,h8⟩:=Z z0 hk;have K:=I H rfl;exact⟨H,off,rfl,by rw[abk b K];exact h7,by rw[abk b K];exact h8⟩
theorem aty(L K I:Value)(a:ak)(c:V)(d:Int)(o:V)(k:World)(S:bI k L a)(R:aM k K c)(Q:aM k I o)(M:dU a c d o)(W:bH a c=0):
  Calls prog 74 #[.agg #[L,K],d,I] k λN D=>∃q z ac y,N=.returned (.tuple #[.slice q a.length z,.slice ac (bh a) y,(0:Int)])/\RS D (.slice q a.length z) (bV a (d::o))/\RI D (.slice ac (bh a) y) (bt (d::o))/\Below k k D:=by
 refine(asl L K I a c d o k S R Q M W).mono ?_;rintro N D ⟨X,cv,rfl,H,E,T⟩;obtain⟨q,z,rfl,-⟩:=id H.1;obtain⟨ac,y,rfl,-⟩:=id E.1;have O:=ju a (d::o);have P:(bt (d::o)).length=bh a:=by rw[At];exact M.full
 rw[O]at H ⊢;rw[P]at E ⊢;exact⟨q,z,ac,y,rfl,H,E,T⟩
theorem atz(z y L:Value)(a:ak)(c o:V)(k:World)(K:bI k z a)(I:aM k y c)(Q:aM k L o)(W:dU a c 0 o)(T:bH a c=0):
  Calls prog 33 #[.agg #[z,y],L] k λX M=>∃D H ac E,X=.returned (.tuple #[.slice D a.length H,.slice ac (bh a) E,(0:Int)])/\RS M (.slice D a.length H) (bV a (0::o))/\RI M (.slice ac (bh a) E) (bt (0::o))/\Below k k M:=by
 obtain⟨W1,O,q,aI,hz⟩:=ee k z y 25;have N:=A (aty z y L a c 0 o W1 (K.below q) (I.below q) (Q.below q) W T);obtain⟨z0z,cap,rfl,-,hlen,-⟩:=id K;obtain⟨a2,dj,rfl,-,qF,-⟩:=id I;obtain⟨bp,du⟩:=aR O q;clear K I Q aI O q W T;go_enter func33,ntmps33;go_wp2_with fail;rw[<-bp.1];refine N.1.mono ?_;rintro X w2 ⟨D,H,ac,E,rfl,S,R,P⟩;obtain⟨HL,Z,ev⟩:=bJ S R (ar du.1 P);clear S R P N;go_wp2_with fail;go_ret3;exact⟨_,_,_,_,rfl,HL.1,Z.1,ev.1⟩
theorem atA(z:Int)(q:World)(y:aN z):Calls prog 199 #[z] q λk D=>k=.returned (.bool (j8 z))/\q=D:=by
 go_enter func199,ntmps199;go_wp2_with fail;with_reducible refine(tf z _ y).mono ?_
 rintro k E ⟨rfl,rfl⟩;go_wp2_with fail;go_ret;exact⟨rfl,rfl⟩
theorem atB:eQ prog 199:=iw func199 (by kernel_rfl) rfl
theorem atC(I:World)(k:V)(q:∀z∈k,aN z):yl 199 #[] I j8 k:=λz y D _ =>
 (atA z D (q z y)).mono λ_ _ ⟨H,E⟩=>⟨H,E▸aY _ _⟩
theorem ahS(M L:Value)(a:ak)(k:World)(K:bI k M a)(W:∃z0z n z2z,L=.slice z0z n z2z):
  Calls prog 114 #[.agg #[M,L]] k λz3z Z=>z3z=.returned (bh a:Int)/\Below k k Z:=by
 obtain⟨R,E,z,H,hz⟩:=ee k M L 25;obtain⟨S,X,rfl,-,eI,I⟩:=id K;obtain⟨a2,n2,k2,rfl⟩:=W;have c0:R.cell? (k,0)=some (.slice S a.length X):=Y H rfl;obtain⟨O,N⟩:=aR E z;by_cases q:a.length=0
 ·have y:Hid (bh a=1):=A (by unfold bh;rw[aD q]);have T:((a.length:Int)==0)=true:=by simp[q]
  clear I q z K E H;go_enter func114,ntmps114;go_wp2_with (rw[<-O.1]);go_ret;exact⟨by rw[y.1];rfl,N.1⟩
 ·have y:Hid (bh a=wide a):=A (by unfold bh;rw[aA q]);have T:((a.length:Int)==0)=false:=eH.2 (by omega);have i3:(0:Int)<(a.length:Int):=by omega
  have i4:0<a.length:=by omega
  obtain⟨z1z,off,z4z,rfl,D,P⟩:=I 0 (by omega);rw[rF]at D;obtain⟨ra,rc,rfl,-⟩:=id P;rw[A7 a (by omega)]at D;have y1:=U z D;clear I P q z D K E H;obtain⟨j,Q⟩:=aK (wide a);rw[<-Q]at y y1;clear Q;go_enter func114,ntmps114;go_wp2_with (rw[<-O.1]);go_ret;exact⟨by rw[y.1];rfl,N.1⟩
theorem ahT(P O lv:Value)(a:ak)(k:V)(q:World)(M:bI q P a)(ho:∃z0z n z1z,O=.slice z0z n z1z)(L:aM q lv k):
  Calls prog 169 #[.agg #[P,O],lv] q λQ w'=>Q=.returned (.bool (fQ a k))/\Below q q w':=by
 obtain⟨H,Z,D,I,hz⟩:=ee q P O 25;obtain⟨HR,HL⟩:=aR (M.below D) (L.below D);obtain⟨W,k1,rfl,-,eI,cU⟩:=id M;obtain⟨X,n2,k2,rfl⟩:=ho;obtain⟨a4,k4,rfl,-,fj,iY,-⟩:=id L;have c0:H.cell? (q,0)=some (.slice W a.length k1):=Y I rfl;have c1:H.cell? (q,1)=some (.slice X n2 k2):=Y I rfl;obtain⟨bp,R,ji,T⟩:=cY Z D (λww z3z=>wx 199 #[] j8 (.slice a4 k.length k4) k ww z3z atB (atC _ _ iY)) (ahS (.slice W a.length k1) (.slice X n2 k2) a H HR.1 ⟨_,_,_,rfl⟩);clear M L I Z iY cU D;obtain⟨j,N⟩:=aK (bh a);rw[<-N]at T;have S:=A N;clear N;go_enter func169,ntmps169;go_wp2_with (rw[<-bp.1]);with_reducible refine T.1.mono ?_
 rintro Q w2 ⟨rfl,y⟩;by_cases z:k.length=j
 ·have E:=A (aa8 (a:=a) (b:=k) (by rw[<-S.1,z]));have d1:((k.length:Int)==(j:Int))=true:=by rw[z];simp
  obtain⟨n7,K⟩:=aR (HL.1.below y) (ar R.1 y);clear z y;go_wp2_with fail;refine(ji.1 _ n7.1).mono ?_;rintro Q w3 ⟨rfl,aJ⟩;go_wp2_with fail;go_ret;exact⟨cg (by rw[E.1]),ar K.1 aJ⟩
 ·have E:=A (aa7 (a:=a) (b:=k) (by rw[<-S.1];exact z));have d1:((k.length:Int)==(j:Int))=false:=eH.2 (by omega);have K:=A (ar R.1 y);clear z y;go_wp2_with fail;go_ret;exact⟨cg E.1.symm,K.1⟩
def ox(a:ak)(c:V)(y:Int)(l:V)(k:ak)(q:V):Int:=
 if bH a c≠0 then bH a c else if ks a y l=false then 380 else bH k q
def QX(k:Int):Ending:=if k=0 then .returned (.tuple #[]) else .panicked (Zn k)
theorem abl{k:Int}(q:k=0):QX k=.returned (.tuple #[]):=by rw[QX,aD q]
theorem MN{k:Int}(q:k≠0):QX k=.panicked (Zn k):=by rw[QX,aA q]
theorem ahU(k:Int)(rv ov cv ef eh:Value)(a:ak)(c l:V)(D:ak)(E:V)(H:World)(hR:bI H rv a)(hO:aM H ov c)(hC:aM H cv l)(hR2:bI H ef D)(hO2:aM H eh E):
  Calls prog 107 #[.agg #[k,rv,ov,cv],.agg #[ef,eh]] H λz w'=>z=QX (ox a c k l D E)/\Below H H w':=by
 obtain⟨W0,dx,bO,cF,fl⟩:=lF H k rv ov cv 33;obtain⟨W1,aE,au,aI,hz⟩:=ee W0 ef eh 25;have M:Below H H W1:=ar bO au;obtain⟨T,HO,Z,R,Q⟩:=gw (hR.below M) (hO.below M) (hC.below M) (hR2.below M) (hO2.below M);obtain⟨a1,k1,rfl,-,eI,-⟩:=id hR;obtain⟨a2,k2,rfl,-,dR,-⟩:=id hO;obtain⟨a3,k3,rfl,-,gC,-⟩:=id hC;obtain⟨a4,k4,rfl,-,fj,-⟩:=id hR2;obtain⟨a5,k5,rfl,-,xt,-⟩:=id hO2;have W:=A (az au cF);rw[fl]at aI;have O:=A aI;rw[dx]at aE;obtain⟨bp,y⟩:=aR aE M;clear hR hO hC hR2 hO2 M bO au cF aI dx aE fl hz;obtain⟨-,c1,c2⟩:=jZ W.1;go_enter func107,ntmps107;go_wp2_with (rw[<-bp.1]);clear c1 c2;with_reducible refine(sW _ _ a c _ T.1 HO.1).mono ?_
 rintro z w2 ⟨rfl,K⟩;obtain⟨T,Z,R,Q,W,O,y⟩:=qy (T.1.below K) (Z.1.below K) (R.1.below K) (Q.1.below K) (az K W.1) (az K O.1) (ar y.1 K);clear K;by_cases q:bH a c=0;rotate_left
 ·have I:Hid (ox a c k l D E=bH a c):=A (by unfold ox;rw[aD q]);have d0:(bH a c==0)=false:=eH.2 q;have HP:=A q;clear q;generalize bH a c=z0 at *;go_wp2_with fail;with_reducible refine(IV z0 _).mono ?_
  rintro z w3 ⟨rfl,rfl⟩;go_wp2_with fail;exact⟨rfl,by rw[I.1,MN HP.1],y.1⟩
 have L:Hid (ox a c k l D E=if ks a k l=false then 380 else bH D E):=A (by unfold ox;rw[aA (by simp[q])]);rw[q];clear q;obtain⟨c0,c1,c2,c3⟩:=fh W.1;go_wp2_with fail;with_reducible refine(Bl 0 _).mono ?_
 rintro z w3 ⟨rfl,rfl⟩;by_cases S:0<=k/\k<=64;rotate_left
 ·have I:Hid (ox a c k l D E=380):=A (L.1.trans (aD (by unfold ks;by_cases N:0<=k;rw[bw (show ¬ k<=64 by omega)];simp;rw[bw N];rfl)));by_cases N:0<=k
  ·have d1:decide (0<=k)=true:=bB N;have d2:decide (k<=64)=false:=bw (by omega);clear S N;go_wp2_with fail;with_reducible refine(IV 380 _).mono ?_
   rintro z w3 ⟨rfl,rfl⟩;go_wp2_with fail;exact⟨rfl,by rw[I.1,MN (by decide)],y.1⟩
  ·have d1:decide (0<=k)=false:=bw N;clear S N;go_wp2_with fail;with_reducible refine(IV 380 _).mono ?_
   rintro z w3 ⟨rfl,rfl⟩;go_wp2_with fail;exact⟨rfl,by rw[I.1,MN (by decide)],y.1⟩
 have d1:decide (0<=k)=true:=bB S.1;have d2:decide (k<=64)=true:=bB S.2;have JH:Hid (ks a k l=fQ a l):=A (by unfold ks;rw[d1,d2];rfl);rw[JH.1]at L;clear S;go_wp2_with fail;with_reducible refine(ahT _ _ _ a l _ T.1 ⟨_,_,_,rfl⟩ Z.1).mono ?_
 rintro z w4 ⟨rfl,P⟩;obtain⟨R,Q,O,y⟩:=cY (R.1.below P) (Q.1.below P) (az P O.1) (ar y.1 P);clear P;cases X:fQ a l with
 |false =>
  have I:Hid (ox a c k l D E=380):=A (L.1.trans (aD X));clear X;go_wp2_with fail;with_reducible refine(IV 380 _).mono ?_
  rintro z w5 ⟨rfl,rfl⟩;go_wp2_with fail;exact⟨rfl,by rw[I.1,MN (by decide)],y.1⟩
 |true =>
 replace L:=A (L.1.trans (aA (by rw[X];decide)));clear X;obtain⟨e0,e1⟩:=ez O.1;go_wp2_with fail;with_reducible refine(Bl 380 _).mono ?_
 rintro z w5 ⟨rfl,rfl⟩;go_wp2_with fail;clear e0 e1;with_reducible refine(sW _ _ D E _ R.1 Q.1).mono ?_
 rintro z w6 ⟨rfl,aF⟩;replace y:=A (ar y.1 aF);clear aF;by_cases q:bH D E=0
 ·rw[q];have I:=A (L.1.trans q);clear q;go_wp2_with fail;with_reducible refine(Bl 0 _).mono ?_
  rintro z w7 ⟨rfl,rfl⟩;go_wp2_with fail;go_end0;exact⟨by rw[I.1,abl rfl],y.1⟩
 ·have HP:=A q;have d0:(bH D E==0)=false:=eH.2 q;clear q;generalize bH D E=z0 at *;go_wp2_with fail;with_reducible refine(IV z0 _).mono ?_
  rintro z w7 ⟨rfl,rfl⟩;go_wp2_with fail;exact⟨rfl,by rw[L.1,MN HP.1],y.1⟩
