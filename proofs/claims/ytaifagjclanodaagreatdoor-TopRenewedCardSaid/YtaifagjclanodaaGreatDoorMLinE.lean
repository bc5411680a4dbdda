/- Package linear: reduce. -/
import Derived.Test.YtaifagjclanodaaGreatDoorMLinB
import Derived.WalkSpells
set_option maxHeartbeats 8000000
set_option maxRecDepth 100000
namespace Go.Proofs.YtaifagjclanodaaGreatDoor
open Go.Proofs.Tryz
open Go.RowKit
variable{t:Array Value}{v:List Deferred}{x:List Value}{n w d c k j h b l z:Nat}{o s e m:Value}{f u r a:World}{g:ak}
attribute [local go_sem] Oper.semAt_some
structure adE(n l h j y:Nat)(i:cI)(a:World)(d:Nat)(pv:Value)(v:List Deferred)(f:World):Prop where
 tab:∃q,ml n l q h j (nm h i d).1 f/\(∀p,p<h->q p<a.heap.size)
 low:Below n a f
 box:f.cell? (a,0)=some (.slice (l,0) h y)
 pivots:f.ownsRow (a.heap.size+1) 3 1 pv (nm h i d).2.length ((nm h i d).2.map λ(k:Nat)=>Value.int .i64 (k:Int))
 marks:Marks n f v
theorem alL(i:f.ownsRow n c z m k x)(H:eM w f u):u.ownsRow n c z m k x:=by
 obtain⟨F,G⟩:=i;refine⟨F,G.imp (λi=>i) ?_⟩;rintro⟨p,D,E,q,y,B,C⟩;exact⟨p,D,E,q,y,H.cells p _ B rfl,C⟩
theorem OG(q:f.ownsRow n c z m k x):∃p d,m=.slice p k d:=by
 obtain⟨-,⟨rfl,rfl⟩|⟨C,y,B,i,-⟩⟩:=q
 ·exact⟨_,_,rfl⟩
 ·exact⟨_,_,i⟩
theorem Yj(i:f.ownsRow n c z m k x)(H:Below f f u):u.ownsRow n c z m k x:=by
 obtain⟨F,G⟩:=i;refine⟨F,G.imp (λi=>i) ?_⟩;rintro⟨q,D,E,y,B,p,C⟩;exact⟨q,D,E,y,B,(H.block q (fF.1 p).1).trans p,C⟩
theorem alM{p:Nat}(i:f.ownsRow n c z m k x)(H:p<=n):f.ownsRow p c z m k x:=by
 obtain⟨F,G⟩:=i;refine⟨F,G.imp (λi=>i) ?_⟩;rintro⟨I,D,E,q,y,B,C⟩;exact⟨I,D,E,q,bK H y,B,C⟩
theorem alN(q:Below n a f)(p:eM w f u)(i:n<=w):Below n a u:=q.trans ((nf p).mono i)
def uX(r:World)(l b k:Nat)(s o:Value)(i:Nat->Bool)(f:World):Prop:=
 f=if i 15 then (r.setCell ⟨l,b,none⟩ o).setCell ⟨l,k,none⟩ s else if i 13 then r.setCell ⟨l,b,none⟩ o else r
theorem wE{p:Nat->Bool}(i:Nat)(y:(15==i)=false)(B:(13==i)=false)(C:uX r l b k s o p f):uX r l b k s o (λq=>q==i||p q) f:=by
 unfold uX at *;simp only[y,B,DB];exact C
theorem Yk{i:Nat->Bool}(p:uX r l b k s o i f)(q:i 13=false)(y:i 15=false):f=r:=by
 unfold uX at p;rw[q,y]at p;exact p
theorem zY{B:Nat->Bool}(y:uX r l b k s o B f){q:Nat}(i:q≠l)(p:r.cell? (q,0)=some e):f.cell? (q,0)=some e:=by
 unfold uX at y;subst y;split
 ·rw[set_other (.inl (λc=>i c.symm)),set_other (.inl (λc=>i c.symm))];exact p
 ·split
  ·rw[set_other (.inl (λc=>i c.symm))];exact p
  ·exact p
theorem alO{q:cI}(B:∀p i,p<h->i<j->0<=q p i/\q p i<1073741789)(s:b<h)(o:k<h):∀p i,p<h->i<j->0<=mj q b k p i/\mj q b k p i<1073741789:=by
 intro p i C y;unfold mj;split
 ·exact B k i o y
 ·split
  ·exact B b i s y
  ·exact B p i C y
theorem alP{E:Nat->Nat}{M:cI}(p:ml n l E h j M f)(s:b<h)(o:k<h){H I:Nat}
  (L:f.cell? (l,b)=some (.slice (E b,0) j H)) (N:f.cell? (l,k)=some (.slice (E k,0) j I)):
  ml n l (λi=>if i=b then E k else if i=k then E b else E i) h j (mj M b k) ((f.setCell (l,b) (.slice (E k,0) j I)).setCell (l,k) (.slice (E b,0) j H)) where
 tbB:=p.tbB
 rbB:=λi q=>by
  split
  ·exact p.rbB k o
  ·split
   ·exact p.rbB b s
   ·exact p.rbB i q
 ne:=λi q=>by
  split
  ·exact p.ne k o
  ·split
   ·exact p.ne b s
   ·exact p.ne i q
 inj:=λi B q D=>by
  intro c;by_cases C:i=b
  ·rw[aD C]at c;by_cases F:B=b
   ·omega
   ·rw[aA F]at c;by_cases G:B=k
    ·rw[aD G]at c;have:=p.inj k b o s c;omega
    ·rw[aA G]at c;have:=p.inj k B o D c;omega
  ·rw[aA C]at c;by_cases y:i=k
   ·rw[aD y]at c;by_cases F:B=b
    ·rw[aD F]at c;have:=p.inj b k s o c;omega
    ·rw[aA F]at c;by_cases G:B=k
     ·omega
     ·rw[aA G]at c;have:=p.inj b B s D c;omega
   ·rw[aA y]at c;by_cases F:B=b
    ·rw[aD F]at c;have:=p.inj i k q o c;omega
    ·rw[aA F]at c;by_cases G:B=k
     ·rw[aD G]at c;have:=p.inj i b q s c;omega
     ·rw[aA G]at c;exact p.inj i B q D c
 row:=λi q=>by
  have K:((f.setCell (l,b) (.slice (E k,0) j I)).setCell (l,k) (.slice (E b,0) j H)).cell? (l,k)=some (.slice (E b,0) j H):=by
   refine jL _ _ _ ?_;by_cases c:b=k
   ·subst c;rw[jL _ _ _ (by rw[L];rfl)];rfl
   ·rw[set_other (.inr c),N];rfl
  by_cases C:i=b
  ·subst C;rw[aD rfl];by_cases y:i=k
   ·subst y;exact⟨_,K⟩
   ·rw[set_other (.inr (λc=>y c.symm)),jL _ _ _ (by rw[L];rfl)];exact⟨_,rfl⟩
  ·rw[aA C];by_cases y:i=k
   ·subst y;rw[aD rfl];exact⟨_,K⟩
   ·rw[aA y,set_other (.inr (λc=>y c.symm)),set_other (.inr (λc=>C c.symm))];exact p.row i q
 rowF:=λi q=>by rw[jK,jK];exact p.rowF i q
 elem:=λi B q D=>by
  unfold mj;by_cases C:i=b
  ·rw[aD C,aD C,set_other (.inl (λc=>p.ne k o c.symm)),set_other (.inl (λc=>p.ne k o c.symm))];exact p.elem k B o D
  ·rw[aA C,aA C];by_cases y:i=k
   ·rw[aD y,aD y,set_other (.inl (λc=>p.ne b s c.symm)),set_other (.inl (λc=>p.ne b s c.symm))];exact p.elem b B s D
   ·rw[aA y,aA y,set_other (.inl (λc=>p.ne i q c.symm)),set_other (.inl (λc=>p.ne i q c.symm))];exact p.elem i B q D
 elemF:=λi B q D=>by
  rw[jK,jK];by_cases C:i=b
  ·rw[aD C];exact p.elemF k B o D
  ·rw[aA C];by_cases y:i=k
   ·rw[aD y];exact p.elemF b B s D
   ·rw[aA y];exact p.elemF i B q D
 num:=alO p.num s o
theorem alQ(a:World)(i p d:Value)(q l y:TypeId):∃f,f=(((a.alloc (.cells #[i] q)).alloc (.cells #[p] l)).alloc (.cells #[d] y)) /\
  Below a a f/\f.heap.size=a.heap.size+1+1+1/\f.cell? (a,0)=some i/\f.cell? (a.heap.size+1,0)=some p/\f.cell? (a.heap.size+1+1,0)=some d:=by
 refine⟨_,rfl,OE a _ _ _,by simp,?_,?_,?_⟩
 ·simp[go_sem]
 ·simp[go_sem]
 ·simp[go_sem]
def Bc(p:cI)(b d:Nat)(m:Int)(q:Nat):cI:=λi k=>if i=b/\d<=k/\k<d+q then p b k*m%1073741789 else p i k
theorem alR(p:cI)(b d:Nat)(m:Int)(i:Nat):Bc p b d m i b (d+i)=p b (d+i):=by unfold Bc;rw[aA (by omega)]
theorem alS(y:cI)(b d:Nat)(m:Int)(i q k:Nat):Bc y b d m (i+1) q k=if q=b/\k=d+i then y b (d+i)*m%1073741789 else Bc y b d m i q k:=by
 unfold Bc;by_cases c:q=b/\k=d+i
 ·obtain⟨rfl,rfl⟩:=c;rw[aD ⟨rfl,by omega,by omega⟩,aD ⟨rfl,rfl⟩]
 ·rw[aA c];by_cases p:q=b/\d<=k/\k<d+i
  ·rw[aD p,aD ⟨p.1,p.2.1,by omega⟩]
  ·rw[aA p,aA];rintro⟨B,C,E⟩;apply p;refine⟨B,C,?_⟩;by_cases D:k=d+i
   ·exact absurd ⟨B,D⟩ c
   ·omega
structure Yl(n l:Nat)(p:Nat->Nat)(h j:Nat)(F:cI)(D:World)(y B i:Nat)(C q:Value)(b d:Nat)(m:Int)(E:Nat)(f:World):Prop where
 tab:ml n l p h j (Bc F b d m E) f
 but:D.grownBy f (some (p b))
 c1:f.cell? (y,0)=some C
 c2:f.cell? (B,0)=b
 c3:f.cell? (i,0)=m
 c4:f.cell? (i+1,0)=some q
 c5:f.cell? (i+1+1,0)=d
theorem alT{y:Nat->Nat}{H:cI}{q:World}{C D E:Nat}{F B:Value}{G:Nat}{m:Int}(p:Yl n l y h j H q C D E F B b d m G f)(i:eM w f u)(I:q.heap.size<=w):Yl n l y h j H q C D E F B b d m G u:=
 ⟨OC p.tab i,Tk p.but i I,jx i p.c1,jx i p.c2,jx i p.c3,jx i p.c4,jx i p.c5⟩
theorem adF(i:f.ownsRow n c z m k x)(q:f.grownBy u (some b))(s:b<n):u.ownsRow n c z m k x:=by
 refine i.kept q ?_;cases p:m.ownBlock with
 |none=>exact .inl rfl
 |some y =>
  right;intro c;have:=(i.lt y p).1;cases c;omega
theorem alU{C:Nat}(B:f.grownBy u (some b))(y:f.cell? (b,C)=some e):KeepsOthers f u:=
 KeepsOthers.of_grownBy B (λF D c i=>by
  cases c;obtain⟨E,p,q⟩:=cells_of_cell y;rw[p]at i;cases i;exact q)
theorem adG{i q:Nat}(B:f.grownBy u (some b))(y:i≠b)(p:f.cell? (i,q)=some m):u.cell? (i,q)=some m:=by
 rw[rB (w:=f) (B.block i (iO p) (λc=>y (by cases c;rfl)))];exact p
theorem alV{q:cI}{e:Nat}(F:e≠b):Ln (nj q b d e) e b d=nj q b d (e+1):=by
 funext i k;have C:∀k,nj q b d e e k=q e k:=λk=>by unfold nj;rw[aA (by omega)]
 have E:∀k,nj q b d e b k=q b k:=λk=>by unfold nj;rw[aA (by omega)]
 unfold Ln;rw[C,C,E];by_cases p:i=e/\d<=k
 ·obtain⟨rfl,p⟩:=p;rw[aD ⟨rfl,p⟩];unfold nj;rw[aD ⟨F,by omega,p⟩]
 ·rw[aA p];unfold nj;by_cases y:i≠b/\i<e/\d<=k
  ·rw[aD y,aD ⟨y.1,by omega,y.2.2⟩]
  ·rw[aA y,aA];rintro⟨D,G,B⟩;have:i≠e:=λc=>p ⟨c,B⟩;exact y ⟨D,by omega,B⟩
theorem alW{q:cI}:nj q b d b=nj q b d (b+1):=by
 funext i k;unfold nj;by_cases p:i≠b/\i<b/\d<=k
 ·rw[aD p,aD ⟨p.1,by omega,p.2.2⟩]
 ·rw[aA p,aA (by rintro⟨y,C,B⟩;exact p ⟨y,by omega,B⟩)]
theorem alX{p:cI}:nj p b d 0=p:=by funext i k;unfold nj;rw[aA (by omega)]
theorem alY{y q:cI}{e i:Nat}(p:∀i k,k<j->y i k=q i k)(B:d<j)(o:k<j):nj y b d e i k=nj q b d e i k:=by
 unfold nj;rw[p i k o,p i d B,p b k o]
theorem alZ{B:Nat->Nat}{D:Nat}{G:cI}(y:ml n l B h j G f)(_K:0<j)(C:Below D f u)(E:l<D)(F:∀i,i<h->B i<D):ml n l B h j G u where
 tbB:=y.tbB
 rbB:=y.rbB
 ne:=y.ne
 inj:=y.inj
 row:=λi q=>let ⟨I,H⟩:=y.row i q;⟨I,by rw[C.cell (p:=⟨l,i,none⟩) E];exact H⟩
 rowF:=λi q=>by rw[C.frozen (p:=⟨l,i,none⟩) E];exact y.rowF i q
 elem:=λi k q o=>by rw[C.cell (p:=⟨B i,k,none⟩) (F i q)];exact y.elem i k q o
 elemF:=λi k q o=>by rw[C.frozen (p:=⟨B i,k,none⟩) (F i q)];exact y.elemF i k q o
 num:=y.num
theorem adH(C:f.heap.size<=w):∀{v:List Deferred},Marks n f v->∀p∈v,p.target≠.collected w
 |[],_,p,i=>by cases i
 |E::v,⟨⟨q,y,_,B,_⟩,s⟩,p,i=>by
  rcases iu.1 i with c|i
  ·subst c;rw[y];intro c;have D:q=w:=by cases c;rfl
   have:=(fF.1 B).1;omega
  ·exact adH C s p i
theorem al0(B:f.ownsRow n c z m k x)(q:f.grownBy u m.ownBlock):KeepsOthers f u:=
 KeepsOthers.of_grownBy q (λF G i p=>by
  obtain⟨-,⟨rfl,-⟩|⟨E,C,D,rfl,-,y,-⟩⟩:=B
  ·cases i
  ·cases i;rw[y]at p;cases p;rfl)
structure al1(n l:Nat)(q:Nat->Nat)(h j:Nat)(C:cI)(a W3:World)(p y:Nat)(B:Value)(b d:Nat)(pv:Value)(i:aO)(e:Nat)(f:World):Prop where
 tab:ml n l q h j (nj C b d e) f
 low:Below n a f
 box:f.cell? (p,0)=some B
 rbox:f.cell? (y,0)=b
 pivots:f.ownsRow (p+1) 3 1 pv i.length (i.map λ(k:Nat)=>Value.int .i64 (k:Int))
 others:KeepsOthers W3 f
abbrev adI(p l h q i d:Nat)(pv:Value)(e:Nat->Value):Array Value:=#[.slice (some ⟨l,0,none⟩) h q,.int .i64 i,.pointer (some ⟨p,0,none⟩),e 3,pv,e 5,e 6,e 7,e 8,e 9,e 10,e 11,e 12,.int .i64 i,.int .i64 d,e 15,e 16,e 17,e 18,e 19,e 20,e 21,e 22,e 23,e 24,e 25,e 26,e 27,e 28,e 29,e 30,e 31,e 32,e 33,e 34,e 35,e 36,e 37,e 38,e 39,e 40,e 41,e 42,e 43,e 44,e 45,e 46,e 47,e 48,e 49,e 50,e 51,e 52,e 53,e 54,e 55,e 56,e 57,e 58,e 59,e 60,e 61,e 62,e 63,e 64,e 65,e 66,e 67,e 68,e 69,e 70,e 71,e 72,e 73,e 74,e 75,e 76,e 77,e 78,e 79,e 80,e 81,e 82,e 83,e 84,e 85,e 86,e 87,e 88,e 89,e 90,e 91,e 92,e 93,e 94,e 95,e 96,e 97,e 98,e 99,e 100,e 101]
def adJ(n l h j i p:Nat)(y:cI)(a:World)(q:Act)(f:World):Prop:=
 ∃(d:Nat) (pv:Value) (v:List Deferred) (e:Nat->Value),d<=p/\q={tmps:=adI a.heap.size l h i p d pv e,defers:=v}/\adE n l h j i y a d pv v f
theorem Ym{i p:Nat}{q:cI}{pv:Value}(B:d<=p)(C:t=adI a.heap.size l h i p d pv (λD=>t.getD D undef))(y:adE n l h j i q a d pv v f):
  adJ n l h j i p q a {tmps:=t,defers:=v} f:=⟨d,pv,v,_,B,by rw[<-C],y⟩
theorem al2(n l:Nat)(rb:Nat->Nat)(h j:Nat)(R:cI)(a:World)(hT:ml n l rb h j R a)(sU:l<a.heap.size)(Tm:n<=a.heap.size)(lq many:Nat)(aza:many<=j)(Bd:0<j)(hn:h<=1000000)(hm:j<=1000000):
  Calls prog 124 #[.slice (some ⟨l,0,none⟩) h lq,.int .i64 many] a λc w' =>
   ∃pv DW,c=.returned pv/\w'.ownsRow n 3 1 pv (nm h R many).2.length ((nm h R many).2.map λ(k:Nat)=>Value.int .i64 (k:Int))/\ml n l DW h j (nm h R many).1 w'/\Below n a w':=by
 refine wu func124 rfl ?_;simp only[ntmps124,kS,dZ,je,Nat.reduceAdd,Nat.reduceSub,kU,kV,kW,kX,jf,jn];go_wp2_with fail;have au:Below a.heap.size a (a.alloc (.cells #[.slice (some ⟨l,0,none⟩) h lq] 195)):=(aY _ _).alloc (aP _) _;refine wp_loop (adJ n l h j lq many R a) (λz0z _=>many-(intOf (z0z.tmps.getD 14 undef)).toNat) ?start ?round;case start =>
  refine Ym (bS _) rfl ⟨⟨rb,F1 hT au,λG hi=>iO (hT.elem G 0 hi Bd)⟩,au.mono Tm,?_,iv _ _ _ _,trivial⟩;rw[wg _ _ _ _ rfl];rfl
 case round =>
  intro z0z f K;obtain⟨d,pv,v,e,mJ,rfl,O⟩:=K;by_cases aq:d<many;case neg =>
   obtain rfl:d=many:=by omega
   go_wp2_with fail;obtain⟨⟨H,DX,-⟩,bY,-,nq,jE⟩:=O;refine Ik (f:=n) (b:=pv) (λa=>results_tmp (t:=4) rfl _ _ _) ?_ v f jE ⟨pv,H,rfl,alM nq (by omega),DX,bY⟩;rintro w1 w2 ⟨pv',DW,h1,h2,h3,h4⟩ hs;exact⟨pv',DW,h1,alL h2 hs,OC h3 hs,alN h4 hs (aP _)⟩
  obtain⟨⟨H,DX,Tn⟩,bY,gb,nq,jE⟩:=O;generalize fW:nm h R d=st at DX nq;obtain⟨I,i⟩:=st;have DY:i.length<=h:=by have:=X6 h R d;rw[fW]at this;exact this
  have j5:=Te h R d;rw[fW]at j5;have HS:=A j5;clear j5 fW;obtain⟨pa,pc,rfl⟩:=OG nq;simp only at DX nq;have S:Below f.heap.size f (f.alloc (.cells #[.int .i64 i.length] 3)):=(aY _ _).alloc (aP _) _;have To:=U S gb;have Z:=F1 DX S;go_wp2_with fail;obtain⟨r,N⟩:∃r,f.alloc (.cells #[.int .i64 i.length] 3)=r:=⟨_,rfl⟩;rw[N]at To Z S ⊢;go_loop [7] (λk=>∃y:Nat,y<=h/\i.length<=y/\k=.int .i64 y/\Hid (iG I h d i.length=findF I d (h-y) y)) (λk=>h-(intOf k).toNat);case atStart=>exact⟨i.length,DY,aP _,rfl,A rfl⟩
  case round =>
   obtain⟨y,hkn,Be,rfl,HF⟩:=hrel;by_cases o:y<h
   ·obtain⟨rk,rT⟩:=Z.row y o;have hek:=Z.elem y d o (by omega);by_cases h0:I y d=0
    ·have mM:=A (ak6 HF.1 o h0);rw[h0]at hek;clear h0;go_wp2_with fail;go_round;case rel=>exact⟨y+1,by omega,by omega,by go_num,mM⟩
     case measure=>simp[intOf];omega
    ·have mM:=A (ak7 HF.1 o h0);have h0':(I y d==0)=false:=by simpa using h0
     have azb:((y:Int)==(h:Int))=false:=by rw[eH];omega
     clear h0;have aI:r.cell? ⟨f.heap.size,0,none⟩=some (.int .i64 i.length):=by rw[<-N,wg _ _ _ _ rfl];rfl
     have OH:=Z.rowF y o;have P:i.length<h:=by omega
     obtain⟨rr,kB⟩:=Z.row i.length P;have rU:=Z.rowF i.length P;go_wp2_with fail;have hS:a.heap.size<f.heap.size:=iO gb;have F3:a.heap.size≠l:=by omega
     have Tp:f.heap.size≠l:=by omega
     refine ac5 (by kernel_rfl) (by kernel_rfl) (uX r.drew l i.length y (.slice (some ⟨H i.length,0,none⟩) j rr) (.slice (some ⟨H y,0,none⟩) j rk)) (by unfold uX;rfl) (λos z0 OI hK=>?_);obtain⟨HK,HO⟩:=aR hK OI;clear hK OI;have wait:∀E G,Cx _ E G=true->Cx os E G=true:=λE G W=>by rw[<-HO.1];exact W
     obtain⟨adK,F4,Yn,adL,adM⟩:=gw (wait 13 7 (by kernel_rfl)) (wait 13 11 (by kernel_rfl)) (wait 15 13 (by kernel_rfl)) (wait 15 7 (by kernel_rfl)) (wait 15 11 (by kernel_rfl));clear wait HO;have X:r.drew.cell? ⟨a.heap.size,0,none⟩=some (.slice (some ⟨l,0,none⟩) h lq):=To;have OJ:r.drew.cell? ⟨f.heap.size,0,none⟩=some (.int .i64 i.length):=aI;have yq:r.drew.cell? ⟨l,y,none⟩=some (.slice (some ⟨H y,0,none⟩) j rk):=rT;have D2:r.drew.cell? ⟨l,i.length,none⟩=some (.slice (some ⟨H i.length,0,none⟩) j rr):=kB;apply jO
     ·intro M D C B _ q;have f1:=zY q F3 X;have F:=wE 0 rfl rfl q;clear q C B;go_simp;exact⟨F,rfl⟩
     go_simp;apply jO
     ·intro M D C B _ q;have f2:=zY q Tp OJ;have F:=wE 1 rfl rfl q;clear q C B;go_simp;exact⟨F,rfl⟩
     go_simp;apply jO
     ·intro M D C B _ q;have f1:=zY q F3 X;have F:=wE 2 rfl rfl q;clear q C B;go_simp;exact⟨F,rfl⟩
     go_simp;apply jO
     ·intro M D C B _ q;have F:=wE 3 rfl rfl q;clear q C B;go_simp;exact⟨F,rfl⟩
     go_simp;apply jO
     ·intro M D C B _ q;have f1:=zY q F3 X;have F:=wE 4 rfl rfl q;clear q C B;go_simp;exact⟨F,rfl⟩
     go_simp;apply jO
     ·intro M D C B _ q;have F:=wE 5 rfl rfl q;clear q C B;go_simp;exact⟨F,rfl⟩
     go_simp;apply jO
     ·intro M D C B _ q;have F:=wE 6 rfl rfl q;clear q C B;go_simp;exact⟨F,rfl⟩
     go_simp;apply jO
     ·intro M D C B _ q;have T:=Yk q (yt C 13 7 adK.1 B) (yt C 15 7 adL.1 B);have F:=wE 7 rfl rfl q;subst T;clear q C B;go_simp;exact⟨F,rfl⟩
     go_simp;apply jO
     ·intro M D C B _ q;have f1:=zY q F3 X;have F:=wE 8 rfl rfl q;clear q C B;go_simp;exact⟨F,rfl⟩
     go_simp;apply jO
     ·intro M D C B _ q;have f1:=zY q F3 X;have f2:=zY q Tp OJ;have F:=wE 9 rfl rfl q;clear q C B;go_simp;exact⟨F,rfl⟩
     go_simp;apply jO
     ·intro M D C B _ q;have f1:=zY q F3 X;have F:=wE 10 rfl rfl q;clear q C B;go_simp;exact⟨F,rfl⟩
     go_simp;apply jO
     ·intro M D C B _ q;have T:=Yk q (yt C 13 11 F4.1 B) (yt C 15 11 adM.1 B);have F:=wE 11 rfl rfl q;subst T;clear q C B;go_simp;exact⟨F,rfl⟩
     go_simp;apply jO
     ·intro M D C B _ q;have f1:=zY q F3 X;have f2:=zY q Tp OJ;have F:=wE 12 rfl rfl q;clear q C B;go_simp;exact⟨F,rfl⟩
     go_simp;apply jO
     ·intro M D C B _ q;have Tq:=yt C 15 13 Yn.1 B;have T:=Yk q B Tq;subst T;have F:uX r.drew l i.length y (.slice (some ⟨H i.length,0,none⟩) j rr) (.slice (some ⟨H y,0,none⟩) j rk) (λE=>E==13||M E) (r.drew.setCell ⟨l,i.length,none⟩ (.slice (some ⟨H y,0,none⟩) j rk)):=by
       unfold uX;simp[Tq]
      have zZ:r.drew.frozen? ⟨l,i.length,none⟩=false:=rU;clear q C B Tq;go_simp;exact⟨F,rfl⟩
     go_simp;apply jO
     ·intro M D C B _ q;have F:=wE 14 rfl rfl q;clear q C B;go_simp;exact⟨F,rfl⟩
     go_simp;apply jO
     ·intro M D C B yp q;have ug:=yp 13 Yn.1;have T:D=r.drew.setCell ⟨l,i.length,none⟩ (.slice (some ⟨H y,0,none⟩) j rk):=by unfold uX at q;rw[B,ug]at q;exact q
      have F:uX r.drew l i.length y (.slice (some ⟨H i.length,0,none⟩) j rr) (.slice (some ⟨H y,0,none⟩) j rk) (λE=>E==15||M E) (D.setCell ⟨l,y,none⟩ (.slice (some ⟨H i.length,0,none⟩) j rr)):=by
       unfold uX;rw[T];simp
      have zZ:D.frozen? ⟨l,y,none⟩=false:=by rw[T,jK];exact OH
      have F5:∃m,D.cell? ⟨l,y,none⟩=some m:=by
       rw[T];by_cases c:i.length=y
       ·rw[c];exact⟨_,jL _ _ _ (by rw[yq];rfl)⟩
       ·rw[set_other (.inr c)];exact⟨_,yq⟩
      obtain⟨v0,F5⟩:=F5;clear q C B ug T;go_simp;exact⟨F,rfl⟩
     go_simp;apply ac2;apply HK.1;intro D M hL q;have OK:D=(r.drew.setCell ⟨l,i.length,none⟩ (.slice (some ⟨H y,0,none⟩) j rk)).setCell ⟨l,y,none⟩ (.slice (some ⟨H i.length,0,none⟩) j rr):=by
      unfold uX at q;rw[hL 15 (by decide)]at q;exact q
     have rO:=OK▸alP (F1 Z (aY _ _).drew) P o D2 yq;have bx2:=zY q F3 X;have bE:=zY q Tp OJ;have Tr:Below n a D:=by
      rw[OK];exact(((bY.trans (S.mono (bK Tm bY.size))).drew).setCell hT.tbB _).setCell hT.tbB _
     have al3:=OK▸SG (SG ((Yj nq S).drew) (a:=⟨l,i.length,none⟩) (by show l<_;omega) (.slice (some ⟨H y,0,none⟩) j rk)) (a:=⟨l,y,none⟩) (by show l<_;omega) (.slice (some ⟨H i.length,0,none⟩) j rr);have al4:KeepsOthers f D:=by
      rw[OK];exact(((OD S).trans (KeepsOthers.drew _)).trans (KeepsOthers.setCell _ _ _)).trans (KeepsOthers.setCell _ _ _)
     have adN:=S5 jE al4;have Lp:f.heap.size<D.heap.size:=iO bE;clear OK q hL OJ X yq D2 adK F4 Yn adL adM Z To aI OH rU kB rT hek S HK nq jE DX;obtain⟨Q,Lq⟩:∃Q:Nat->Nat,Q=(λG=>if G=i.length then H y else if G=y then H i.length else H G):=⟨_,rfl⟩;rw[<-Lq]at rO;have Ts:∀G,G<h->Q G<a.heap.size:=λG hi=>by
      rw[Lq];show(if G=i.length then H y else if G=y then H i.length else H G)<a.heap.size;split
      ·exact Tn y o
      ·split
       ·exact Tn _ P
       ·exact Tn G hi
     clear Lq;have Tt:d<j:=by omega
     obtain⟨r2,adO⟩:=rO.row i.length P;have hev:=rO.elem i.length d P Tt;have hnz:I y d≠0:=by intro c;rw[c]at h0';cases h0'
     have Yo:mj I i.length y i.length d=I y d:=by unfold mj;rw[aD rfl]
     rw[Yo]at hev;have uh:=rO.num i.length d P Tt;rw[Yo]at uh;have hinv:(I y d)%1073741789≠0:=by omega
     have al5:=A hinv;clear hinv Yo;have aJ:Below D.heap.size D (D.alloc (.cells #[.int .i64 (oM (I y d))] 3)):=(aY _ _).alloc (aP _) _;have bx3:=U aJ bx2;have dX:=U aJ bE;have al6:=U aJ adO;go_wp2_with fail;with_reducible refine(akZ _ _ (dK uh) al5.1).mono ?_
     rintro c w' ⟨rfl,rfl⟩;go_wp2_with fail;with_reducible refine(ady _ _ _ ⟨_,_,_,rfl⟩).mono ?_
     rintro c w5 ⟨rfl,uW⟩;obtain⟨W5,dk,aG,rQ,q1,q2,q3⟩:=alQ D (.int .i64 (oM (I y d))) (.slice (some ⟨Q i.length,0,none⟩) j r2) (.int .i64 d) 3 23 3;obtain rfl:w5=W5:=uW.trans dk.symm;clear uW dk;go_wp2_with fail;have oP:ml n l Q h j (Bc (mj I i.length y) i.length d (oM (I y d)) 0) w5:=by
      have:Bc (mj I i.length y) i.length d (oM (I y d)) 0=mj I i.length y:=by funext G k;unfold Bc;rw[aA (by omega)]
      rw[this];exact F1 rO aG
     have bx5:=U aG bx2;have gD:=U aG bE;have F6:0<=oM (I y d)/\oM (I y d)<1073741789:=uf _;obtain⟨m,hv⟩:=aK (oM (I y d));rw[<-hv]at oP q1 F6;have HV:=A hv;obtain⟨z,hz⟩:=aK (mj I i.length y);rw[<-hz]at oP rO;have HZ:=A hz;clear hz bx3 dX al6 aJ hev adO;rw[<-hv];clear hv;have pS:=Ts _ P;refine acB (n:=204) (v:=#[.pointer (some ⟨D.heap.size+1+1,0,none⟩),.pointer (some ⟨D.heap.size+1,0,none⟩)]) (k:=j-d) (fi:=λE=>#[.int .i64 ((d:Int)+(E:Int)),.int .i64 (z i.length (d+E))]) rfl (iw func204 (by kernel_rfl) rfl) (λ_=>rfl)
      (Yl n l Q h j z w5 a.heap.size f.heap.size D.heap.size (.slice (some ⟨l,0,none⟩) h lq) (.slice (some ⟨Q i.length,0,none⟩) j r2) i.length d m) (λ_ _ _=>False) ?seq ?qH (λ_ _ _ _ W _=>W) ⟨oP,⟨rfl,rfl,rfl,aP _,λ_ _ _=>rfl⟩,bx5,gD,q1,q2,q3⟩
      (λE t=>(((t.setIfInBounds 71 (.int .i64 ((d:Int)+(E:Int)))).setIfInBounds 72 (.int .i64 (z i.length (d+E)))).setIfInBounds 10 (.int .i64 ((d:Int)+(E:Int)))).setIfInBounds 11 (.int .i64 (z i.length (d+E)))) ?assign ?body ?done (λ_ _ _ _ _ _ W=>W.elim)
     case seq =>
      refine adx _ _ d j (some ⟨Q i.length,0,none⟩) r2 (λk=>z i.length k) (by omega) (by omega) _ ?_;intro E u O;refine⟨O.c5,O.c4,λaq=>⟨_,rfl,?_⟩⟩;have:=O.tab.elem i.length (d+E) P aq;rwa [alR]at this
     case qH=>exact λE u W'' W hs=>alT W hs (aP _)
     case assign =>
      intro z3z E u z0 hK
      gi_wp2
      exact hK
     case body =>
      intro z3z E u O aq;simp only[vZ,zH,AV]
      gi_wp2
      obtain⟨Tl,Yh⟩:=O.tab.row i.length P;have hf:∀r,Below u.heap.size u r->r.cell? ⟨a.heap.size,0,none⟩=some (.slice (some ⟨l,0,none⟩) h lq)/\r.cell? ⟨f.heap.size,0,none⟩=some (.int .i64 i.length) /\
        r.cell? ⟨D.heap.size,0,none⟩=some (.int .i64 m)/\r.cell? ⟨l,i.length,none⟩=some (.slice (some ⟨Q i.length,0,none⟩) j Tl):=λr h1 =>
       ⟨U h1 O.c1,U h1 O.c2,U h1 O.c3,U h1 Yh⟩
      have yw:d+E<j:=by omega
      have i1:0<=(d:Int)+(E:Int):=by omega
      have i2:(d:Int)+(E:Int)<(j:Int):=by omega
      have i3:((d:Int)+(E:Int)).toNat=d+E:=by omega
      refine acV 9 (by kernel_rfl) (by kernel_rfl) rfl rfl rfl (λr=>Below u.heap.size u r) (aY _ _).drew (λz0 hK=>?_);simp only[SE,KS];have HK:=A hK;clear hK
      iterate 7
       apply FW
       ·intro r N;obtain⟨f1,f2,f3,f4⟩:=hf r N;go_simp;exact⟨N,rfl⟩
       go_simp
      have r1:aN (z i.length (d+E)):=dK (rO.num _ _ P yw);apply FW
      ·intro r N;go_simp;refine(A9 _ _ _ r1 (dK F6)).mono ?_;rintro c w' ⟨rfl,rfl⟩;exact⟨rfl,N⟩
      go_simp;apply FW
      ·intro r N;go_simp;exact⟨N,rfl⟩
      go_simp;apply acT;apply HK.1;intro r N;have Lo:=F1 O.tab N;have OL:=Lo.elem i.length (d+E) P yw;have hsf:=Lo.elemF i.length (d+E) P yw;refine acW (f:=r.setCell ⟨Q i.length,d+E,none⟩ (.int .i64 (z i.length (d+E)*m%1073741789))) ?_ ?_
      ·go_simp
      ·refine⟨(OD N).trans (KeepsOthers.setCell _ _ _),?_⟩;exact⟨adz Lo P yw (uf _) (λi' k' _ _=>alS z i.length d m E i' k'),adB (adA O.but N) _,
        by rw[set_other (.inl (by omega))];exact U N O.c1,by rw[set_other (.inl (by omega))];exact U N O.c2,by rw[set_other (.inl (by omega))];exact U N O.c3,
        by rw[set_other (.inl (by omega))];exact U N O.c4,by rw[set_other (.inl (by omega))];exact U N O.c5⟩
     case done =>
      intro w W3 hD OM al7 hO3;obtain⟨Cz,Iv,bx4,gE,-,-,-⟩:=OM;have al8:Below n a W3:=(Tr.trans (aG.mono (by have:=Tr.size;omega))).grown Iv (by have:=Tr.size;have:=aG.size;omega) (λk c=>by cases c;exact rO.rbB _ P);go_wp2_with fail;obtain⟨s0,fl⟩:=aK (Bc z i.length d m (j-d));rw[<-fl]at Cz;have HS0:=A fl;clear fl;have al9:=Yj al3 aG;have ama:=adF al9 Iv (by omega);obtain⟨w3',azc⟩:∃w3':World,w3'=W3:=⟨_,rfl⟩;go_loopw[12,84] (λ_ G wr=>∃L:Nat,L<=h/\G=.int .i64 L/\al1 n l Q h j s0 a W3 a.heap.size f.heap.size (.slice (some ⟨l,0,none⟩) h lq) i.length d (.slice pa i.length pc) i L wr) (λ_ G _=>h-(intOf G).toNat);case atStart=>exact⟨0,bS _,rfl,by rw[alX];exact Cz,al8,bx4,gE,ama,KeepsOthers.refl _⟩
      case round =>
       obtain⟨L,Iw,rfl,K⟩:=hrel;have fb:=K.box;have fr:=K.rbox;by_cases hq:L<h
       ·by_cases F7:L=i.length
        ·go_wp2_with fail;go_roundw;case rel=>exact⟨L+1,by omega,by go_num,by have:=K.tab;rw[F7]at this ⊢;rw[<-alW];exact this,K.low,fb,fr,K.pivots,K.others⟩
         case measure=>simp[intOf];omega
        ·have D2:((L:Int)!=(i.length:Int))=true:=by rw[jg];omega
         have hqb:=Ts L hq;have Tu:=K.tab.elem L 0 hq Bd;go_wp2_with fail;with_reducible refine(alH n l Q h j _ _ K.tab lq L i.length d hq P F7 Tt hn hm).mono ?_
         rintro c w6 ⟨rfl,pT,D3⟩;have fb6:=adG pT (by omega) fb;have fr6:=adG pT (by omega) fr;go_wp2_with fail;go_roundw;case rel=>exact⟨L+1,by omega,by go_num,by rw[alV F7]at D3;exact D3,K.low.grown pT (bK Tm K.low.size) (λk c=>by cases c;exact D3.rbB _ hq),fb6,fr6,adF K.pivots pT (by omega),K.others.trans (alU pT Tu)⟩
         case measure=>simp[intOf];omega
       ·obtain rfl:L=h:=by omega
        have iI:i.length<=1000000:=by omega
        have rV:a.heap.size+1<=(wr.alloc (.cells #[.int .i64 (d:Int)] 3)).heap.size:=by have:=iO fb;have:=iO fr;simp;omega
        go_wp2_with (at_builtin;refine zX rfl _ _ rfl (a.heap.size+1) _ _ _ rfl (K.pivots.alloc _) wr.heap.size 1 d rfl (Yi _ _ _) iI rV ?_;intro v9 w9 CA Iy);have adP:(wr.alloc (.cells #[.int .i64 (d:Int)] 3)).grownBy w9 (Value.slice pa i.length pc).ownBlock:=Iy;have ON:=K.pivots.alloc (.cells #[.int .i64 (d:Int)] 3);have amb:a.heap.size+1<=wr.heap.size:=by have:=iO fb;omega
        have bA:Below (a.heap.size+1) wr w9:=(((aY _ wr).alloc amb _).grown adP (by simp;omega) (λk c=>(ON.lt k c).1));have ho9:KeepsOthers wr w9:=(KeepsOthers.alloc _ _).trans (al0 ON adP);have sV:=ada mM.1 o;rw[<-HS.1]at sV;have hT9:ml n l Q L j (nm L R (d+1)).1 w9:=by
         rw[sV];refine Ye (alZ K.tab Bd bA (by omega) (λG hi=>H5 (Ts G hi))) (λG k _ iy=>?_);show nj s0 i.length d L G k=nj (DR (mj I i.length y) i.length d (oM (I y d))) i.length d L G k;refine alY (j:=j) (λG k iy=>?_) Tt iy;rw[HS0.1,HZ.1,HV.1];unfold Bc DR;by_cases c:G=i.length/\d<=k
         ·rw[aD c,aD ⟨c.1,c.2,by omega⟩]
         ·rw[aA c,aA (λW=>c ⟨W.1,W.2.1⟩)]
        have amc:w9.ownsRow (a.heap.size+1) 3 1 v9 (nm L R (d+1)).2.length ((nm L R (d+1)).2.map λ(k:Nat)=>Value.int .i64 (k:Int)):=by
         rw[sV];show w9.ownsRow (a.heap.size+1) 3 1 v9 (i++[d]).length ((i++[d]).map λ(k:Nat)=>Value.int .i64 (k:Int));rw[fu,gJ];exact CA
        have amd:KeepsOthers D w9:=(((OD aG).trans hO3).trans K.others).trans ho9;have ame:D.heap.size<=w:=bK aG.size hD;refine⟨Ym (d:=d+1) (by omega) rfl ⟨⟨Q,hT9,Ts⟩,K.low.trans (bA.mono (by omega)),?_,amc,⟨⟨w,rfl,?_,?_,adH ame adN⟩,S5 adN amd⟩⟩,?_⟩
        ·rw[bA.cell (p:=⟨a.heap.size,0,none⟩) (by show a.heap.size<_;omega)];exact fb
        ·have:=Tr.size;omega
        ·exact(K.others.trans ho9).same w _ al7 rfl
        ·simp[intOf];omega
   ·obtain rfl:y=h:=by omega
    have mM:=A (ak8 HF.1 (by omega) (aP _));go_wp2_with fail;have sV:=ac9 mM.1;rw[<-HS.1]at sV;refine⟨Ym (d:=d+1) (by omega) rfl ⟨⟨H,?_,Tn⟩,bY.trans (S.mono (bK Tm bY.size)),To,?_,S5 jE (OD S)⟩,?_⟩
    ·rw[sV];exact Z
    ·rw[sV];exact Yj nq S
    ·simp[intOf];omega
theorem amf(m:Value)(q:V)(a:World)(P:aM a m q)(D:∃B y h d,m=.slice (some ⟨B,y,none⟩) h d):
  Calls prog 91 #[m] a λc L=>∃K,c=.returned K/\L.ownsRow a.heap.size 3 1 K q.length (q.map (Value.int .i64))/\Below a a L:=by
 obtain⟨S,H,rfl,jC,X,s,o⟩:=P;obtain⟨B,y,h,d,D⟩:=D;obtain rfl:S=some ⟨B,y,none⟩:=by cases D;rfl
 clear D;have G:∀i (C:i<q.length),a.cell? ((⟨B,y,none⟩:Addr).add i)=some (.int .i64 q[i]):=by
  intro i C;obtain⟨W,T,c,I⟩:=o i C;cases c;unfold Addr.add;split
  ·rename_i c;subst c;simpa using I
  ·exact I
 clear o;go_enter func91,ntmps91;have Z:(binOp BinOp.eql 23 (.slice (some ⟨B,y,none⟩) q.length H) ()).run prog a=.ok false a:=by kernel_rfl
 have F:Below a a (a.alloc (.cells #[] 3)):=(aY _ _).alloc (aP _) _;have N:∀i (C:i<q.length),(a.alloc (.cells #[] 3)).cell? ((⟨B,y,none⟩:Addr).add i)=some (.int .i64 q[i]):=λi C=>by
  rw[F.cell (p:=(⟨B,y,none⟩:Addr).add i) (by
   obtain⟨z4z,Q,-⟩:=cells_of_cell (G i C);exact(fF.1 Q).1)]
  exact G i C
 have O:(a.alloc (.cells #[] 3)).ownsRow a.heap.size 3 1 (.slice (a,0) 0 0) 0 []:=World.ownsRow_lit a #[] 0 (aP _) (by simp) rfl;go_wp2_with (at_builtin;refine adD rfl _ _ rfl a.heap.size 0 _ [] rfl O ⟨B,y,none⟩ H q rfl N (by omega) (by simp) ?_;intro R w9 E M);go_ret;refine⟨R,rfl,?_,F.grown M (by simp) (λk c=>by cases c;exact aP _)⟩;rw[iN,jf]at E;exact E
def wH(g:ak):cI:=λi k=>((g[i]?).getD [])[k]?.getD 0
theorem ami{i:Nat}(p:i<g.length)(o:k<g[i].length):wH g i k=g[i][k]:=by
 unfold wH;rw[fw p,Cl,fw o,Cl]
theorem amj:(prog.info? 23).map (λi=>(i.zero,i.size,i.bytes))=some (some (.slice none 0 0),1,24):=by kernel_rfl
theorem adQ{p:V}(y:f.ownsRow n 3 1 m p.length (p.map (Value.int .i64)))(F:0<p.length):∃i d,m=.slice (some ⟨i,0,none⟩) p.length d/\n<=i/\i<f.heap.size/\∀k (o:k<p.length),f.cell? ⟨i,k,none⟩=some (.int .i64 p[k])/\f.frozen? ⟨i,k,none⟩=false:=by
 have q:=y;obtain⟨-,⟨-,c⟩|⟨i,B,E,rfl,C,D,-⟩⟩:=y
 ·omega
 ·refine⟨i,B,rfl,C,(fF.1 D).1,λk o=>⟨?_,q.frozenAt k⟩⟩;rw[q.cellAt k (by omega),tY,fw o];rfl
structure Ls(y h j:Nat)(C:cI)(a:World)(k:Nat)(q:Nat->Nat)(f:World):Prop where
 low:Below y a f
 gt:∀i,i<k->y<q i/\q i<f.heap.size
 inj:∀i p,i<k->p<k->q i=q p->i=p
 row:∀i,i<k->∃B,f.cell? ⟨y,i,none⟩=some (.slice (q i,0) j B)
 any:∀i,i<h->∃m,f.cell? ⟨y,i,none⟩=some m
 fro:∀i,i<h->f.frozen? ⟨y,i,none⟩=false
 elem:∀i p,i<k->p<j->f.cell? ⟨q i,p,none⟩=(C i p:Int)/\f.frozen? ⟨q i,p,none⟩=false
theorem adR{B:Nat}{L:cI}{D:Nat->Nat}(y:Ls B h j L a k D f)(C:Below n f u)(F:B<n)(I:∀i,i<k->D i<n):
  Ls B h j L a k D (u.setCell (B,k) m):=by
 have E:∀{K:Nat} {e:Value},f.cell? (B,K)=some e->u.cell? (B,K)=some e:=λy=>by rw[C.cell (p:=⟨B,_,none⟩) F];exact y
 have M:(u.setCell (B,k) m).heap.size=u.heap.size:=by simp[World.setCell]
 refine⟨(y.low.trans (C.mono (gQ F))).setCell (aP _) _,λi q=>?_,y.inj,λi q=>?_,λi q=>?_,λi q=>?_,λi G q P=>?_⟩
 ·rw[M];have:=y.gt i q;have:=C.size;omega
 ·obtain⟨Q,N⟩:=y.row i q;exact⟨Q,by rw[set_other (.inr (by omega))];exact E N⟩
 ·obtain⟨e,H⟩:=y.any i q;by_cases c:k=i
  ·subst c;exact⟨_,jL _ _ _ (by rw[E H];rfl)⟩
  ·rw[set_other (.inr c)];exact⟨e,E H⟩
 ·rw[jK,C.frozen (p:=⟨B,i,none⟩) F];exact y.fro i q
 ·have R:=y.gt i q;have O:=y.elem i G q P;rw[jK,set_other (.inl (by omega)),C.cell (p:=⟨D i,G,none⟩) (I i q),C.frozen (p:=⟨D i,G,none⟩) (I i q)];exact O
theorem amk{C:Nat}{H:cI}{q:Nat->Nat}{D:V}(B:Ls C h j H a k q f)(K:∀i,i<k->q i<n)(X:C<n)(O:f.cell? (C,k)=some m)
  (N:f.ownsRow n 3 1 m D.length (D.map (Value.int .i64))) (P:D.length=j) (S:0<j) (Q:∀p (G:p<D.length),H k p=D[p]):
  ∃L,Ls C h j H a (k+1) L f:=by
 obtain⟨y,d,rfl,T,W,M⟩:=adQ N (by omega);refine⟨λi=>if i=k then y else q i,B.low,λi F=>?_,λi p F G=>?_,λi F=>?_,B.any,B.fro,λi p F G=>?_⟩
 ·show C<(if i=k then y else q i)/\(if i=k then y else q i)<_;by_cases c:i=k
  ·rw[aD c];omega
  ·rw[aA c];exact B.gt i (by omega)
 ·show(if i=k then y else q i)=(if p=k then y else q p)->_;by_cases I:i=k
  ·rw[aD I];by_cases E:p=k
   ·intro _;omega
   ·rw[aA E];intro c;have:=K p (by omega);omega
  ·rw[aA I];by_cases E:p=k
   ·rw[aD E];intro c;have:=K i (by omega);omega
   ·rw[aA E];exact B.inj i p (by omega) (by omega)
 ·show ∃R,f.cell? ⟨C,i,none⟩=some (Value.slice (if i=k then y else q i,0) j R);by_cases c:i=k
  ·subst c;rw[aD rfl];exact⟨d,by rw[<-P];exact O⟩
  ·rw[aA c];exact B.row i (by omega)
 ·show f.cell? ⟨if i=k then y else q i,p,none⟩=_/\f.frozen? ⟨if i=k then y else q i,p,none⟩=false;by_cases c:i=k
  ·subst c;rw[aD rfl,Q p (by omega)];exact M p (by omega)
  ·rw[aA c];exact B.elem i p (by omega) G
def D4(g:ak)(i:V)(k:Nat):V:=g.map (λb=>b[k]?.getD 0)++[i[k]?.getD 0]
def z7(g:ak)(i:V):cI:=λk p=>(D4 g i k)[p]?.getD 0
theorem aml(g:ak)(q:V)(E:∀b∈g,b.length=q.length)(D:∀b∈g,∀z∈b,0<=z/\z<1073741789)(F:∀z∈q,0<=z/\z<1073741789)
  (i p:Nat) (B:i<q.length) (G:p<g.length+1):0<=z7 g q i p/\z7 g q i p<1073741789:=by
 unfold z7 D4;by_cases y:p<g.length
 ·have s:g[p]∈g:=bM y;have C:i<g[p].length:=by rw[E _ s];exact B
  have c:(List.map (λb:V=>b[i]?.getD 0) g++[q[i]?.getD 0])[p]?=some (g[p][i]):=by
   rw[uN (by simpa using y),tY,fw y];simp[fw C]
  rw[c];exact D _ s _ (bM C)
 ·obtain rfl:p=g.length:=by omega
  have c:(List.map (λb:V=>b[i]?.getD 0) g++[q[i]?.getD 0])[g.length]?=some (q[i]):=by
   rw[rD (by simp)];simp[fw B]
  rw[c];exact F _ (bM B)
theorem amm(m e:Value)(g:ak)(C:V)(a:World)(hI:bI a m g)(hU:aM a e C)(hlen:∀b∈g,b.length=C.length)(CB:∀b∈g,∀z∈b,0<=z/\z<1073741789)(Iz:∀z∈C,0<=z/\z<1073741789)
  (hn:g.length<=1000) (hm:C.length<=1000):
  Calls prog 123 #[m,e] a λc w'=>∃rb,c=.returned (.slice (a,0) C.length C.length)/\ml a.heap.size a.heap.size rb C.length (g.length+1) (z7 g C) w'/\a.heap.size<w'.heap.size/\Below a a w':=by
 obtain⟨z0z,cap,rfl,jC,eI,o⟩:=hI;obtain⟨a2,dj,rfl,Yd,dR,bE,bW⟩:=hU;have HL:=A hlen;clear hlen;obtain⟨i0,jD,jq,dP,dQ⟩:=xY amj;have jE:=run_make_row (P:=prog) 195 23 i0 () underlying195 jD jq dP rfl .i64 .i64 C.length (by rw[dQ];omega) (by omega);go_enter func123,ntmps123;go_wp2_with fail;obtain⟨r,aE⟩:∃r,a.alloc (.cells (madeCells #[()] C.length) 23)=r:=⟨_,rfl⟩;have gR:∀i,i<C.length->r.cell? ⟨a.heap.size,i,none⟩=some (.slice none 0 0):=λi L=>by
  rw[<-aE,wg _ _ _ _ rfl];simp[madeCells,L,Nat.mod_one]
 have Tv:∀i,i<C.length->r.frozen? ⟨a.heap.size,i,none⟩=false:=λi L=>by rw[<-aE];exact SB _ _ _ _ rfl
 have au:Below a a r:=by rw[<-aE];exact(aY _ _).alloc (aP _) _
 have bX:a.heap.size<r.heap.size:=by rw[<-aE];simp
 rw[aE];go_loopw[6,7,9,15] (λ_ _ _ i wr=>∃(k:Nat) (rb:Nat->Nat),k<=C.length/\i=k/\Ls a.heap.size C.length (g.length+1) (z7 g C) a k rb wr/\a.heap.size<wr.heap.size/\Hid (∀i,k<=i->i<C.length->wr.cell? ⟨a.heap.size,i,none⟩=some (.slice none 0 0))) (λ_ _ _ i _=>C.length-(intOf i).toNat);case atStart=>exact⟨0,λ_=>0,bS _,rfl,⟨au,λi z3z=>by omega,λi y z3z=>by omega,λi z3z=>by omega,λi z3z=>⟨_,gR i z3z⟩,Tv,λi y z3z=>by omega⟩,bX,A λi _ L=>gR i L⟩
 case round =>
  obtain⟨k,rb,hkn,rfl,q,M,HN⟩:=hrel;by_cases T:k<C.length
  ·obtain⟨z1z,off,rfl,hc⟩:=bW k T;have Cv:wr.cell? (z1z,off+k)=some (.int .i64 C[k]):=by rw[q.low.cell (p:=⟨z1z,off+k,none⟩) (iO hc)];exact hc
   have hnk:=HN.1 k (aP _) T;clear bW hc gR Tv;go_wp2_with fail;obtain⟨I,hWk⟩:∃I:World,I=wr:=⟨_,rfl⟩;rw[<-hWk]at Cv hnk q M HN ⊢;clear hWk;have Yq:∀i,i<k->rb i<I.heap.size:=λi L=>(q.gt i L).2;have amn:I.ownsRow I.heap.size 3 1 () 0 []:=iv _ _ _ _;go_loopw[9,22] (λ_ i wr=>∃(y:Nat) (hv:Value),y<=g.length/\i=.int .i64 y/\Ls a.heap.size C.length (g.length+1) (z7 g C) a k rb wr/\wr.cell? (a,k)=some hv /\
    wr.ownsRow I.heap.size 3 1 hv y ((g.take y).map λb=>Value.int .i64 (b[k]?.getD 0))/\Hid (∀i,k<i->i<C.length->wr.cell? ⟨a.heap.size,i,none⟩=some (.slice none 0 0))/\I.heap.size<=wr.heap.size) (λ_ i _=>g.length-(intOf i).toNat)
   case atStart=>exact⟨0,_,bS _,rfl,q,hnk,by simpa using amn,A λi h1 h2=>HN.1 i (by omega) h2,aP _⟩
   case round =>
    obtain⟨y,hv,hjn,rfl,OP,hhv,bo,OQ,OR⟩:=hrel;obtain⟨pa,pc,rfl⟩:=OG bo;have OH:=OP.fro k T;by_cases nh:y<g.length
    ·obtain⟨bj,adS,rj,rfl,yw,aj,amo,rfl,q1,q2,q3,q4⟩:=o y nh;have Tw:=A (HL.1 _ (bM nh));obtain⟨Tx,Ty,rfl,Tz⟩:=q4 k (by rw[Tw.1];exact T);have OS:wr.cell? (bj,adS+y)=some (.slice (Tx,Ty) g[y].length amo):=by rw[OP.low.cell (p:=⟨bj,adS+y,none⟩) (iO yw)];exact yw
     rw[Tw.1]at OS;obtain⟨z,hz⟩:∃z,z=g[y][k]'(by rw[Tw.1];exact T):=⟨_,rfl⟩;rw[<-hz]at Tz;have Lt:wr.cell? (Tx,Ty+k)=some (.int .i64 z):=by rw[OP.low.cell (p:=⟨Tx,Ty+k,none⟩) (iO Tz)];exact Tz
     have HZ:=A hz;clear hz Tz yw q4 o;go_wp2_with fail;obtain⟨H,S⟩:∃H:World,H=wr.drew:=⟨_,rfl⟩;have yq:H.cell? (a,k)=some (.slice pa y pc):=by rw[S];exact hhv
     have hzd:H.cell? (Tx,Ty+k)=some (.int .i64 z):=by rw[S];exact Lt
     have jh:Below H H (H.alloc (.cells #[.int .i64 z] 3)):=(aY _ _).alloc (aP _) _;have adT:(H.alloc (.cells #[.int .i64 z] 3)).ownsRow I.heap.size 3 1 (.slice pa y pc) y ((g.take y).map λb=>Value.int .i64 (b[k]?.getD 0)):=by rw[S];exact(bo.drew).alloc _
     have amp:I.heap.size<=H.heap.size:=by rw[S];exact OR
     obtain⟨Q,K,TA,CA,Iy⟩:=alJ 23 I.heap.size y _ _ adT H.heap.size 1 z (Yi _ _ _) (by omega) (by simp;omega);have bA:Below I H K:=((aY _ H).alloc amp _).grown Iy (by simp;omega) (λz2z c=>(adT.lt z2z c).1);have qJ:K.cell? (a,k)=some (.slice pa y pc):=by rw[bA.cell (p:=⟨a.heap.size,k,none⟩) M];exact yq
     have hf9:K.frozen? (a,k)=false:=by rw[bA.frozen (p:=⟨a.heap.size,k,none⟩) M,S];exact OH
     have R:Below I wr K:=by rw[S]at bA;exact(aY _ wr).drew.trans bA
     have Yr:=adR (m:=Q) OP R M Yq;have Ys:=SG CA (a:=(a,k)) M Q;have Yt:(K.setCell (a,k) Q).cell? (a,k)=some Q:=jL _ _ _ (by rw[qJ];rfl);have amq:=A (show ∀i,k<i->i<C.length->(K.setCell (a,k) Q).cell? ⟨a.heap.size,i,none⟩=some (.slice none 0 0) from λi h1 h2=>by
      rw[set_other (.inr (by omega)),R.cell (p:=⟨a.heap.size,i,none⟩) M];exact OQ.1 i h1 h2)
     have amr:I.heap.size<=(K.setCell (a,k) Q).heap.size:=by have:=R.size;simp[World.setCell];omega
     have D6:=A (show((g.take y).map λb=>Value.int .i64 (b[k]?.getD 0))++[.int .i64 z]=(g.take (y+1)).map λb=>Value.int .i64 (b[k]?.getD 0) by
      rw[jv nh,gJ,zQ,FI,HZ.1,fw (by rw[Tw.1];exact T),Cl])
     refine ac5 (by kernel_rfl) (by kernel_rfl) (oN 10 11 13 H (H.alloc (.cells #[.int .i64 z] 3)) K (K.setCell (a,k) Q)) (by unfold oN;rw[S];rfl) (λos z1 OI hK=>?_);obtain⟨HK,HO⟩:=aR hK OI;clear hK OI;have wait:∀y i,Cx _ y i=true->Cx os y i=true:=λy i z3z=>by rw[<-HO.1];exact z3z
     obtain⟨ams,amt,Yu,F4⟩:=cY (wait 11 5 (by kernel_rfl)) (wait 10 9 (by kernel_rfl)) (wait 11 10 (by kernel_rfl)) (wait 13 11 (by kernel_rfl));clear wait HO S;apply jO
     ·intro G F B D _ q;have E:=Ba 0 rfl rfl rfl q;clear q B D;go_simp;exact⟨E,rfl⟩
     go_simp;apply jO
     ·intro G F B D _ q;have E:=Ba 1 rfl rfl rfl q;clear q B D;go_simp;exact⟨E,rfl⟩
     go_simp;apply jO
     ·intro G F B D _ q;have E:=Ba 2 rfl rfl rfl q;clear q B D;go_simp;exact⟨E,rfl⟩
     go_simp;apply jO
     ·intro G F B D _ q;have E:=Ba 3 rfl rfl rfl q;clear q B D;go_simp;exact⟨E,rfl⟩
     go_simp;apply jO
     ·intro G F B D _ q;have E:=Ba 4 rfl rfl rfl q;clear q B D;go_simp;exact⟨E,rfl⟩
     go_simp;apply jO
     ·intro G F B D _ q;have E:=Ba 5 rfl rfl rfl q;have O:=yt B 11 5 ams.1 D;have N:=yt B 13 11 F4.1 O;have hf:F.cell? (a,k)=some (.slice pa y pc):=by
       cases Lu:G 10
       ·rw[XX q Lu O N];exact yq
       ·rw[ac6 q Lu O N];exact U jh yq
      clear q B D O N;go_simp;exact⟨E,rfl⟩
     go_simp;apply jO
     ·intro G F B D _ q;have E:=Ba 6 rfl rfl rfl q;clear q B D;go_simp;exact⟨E,rfl⟩
     go_simp;apply jO
     ·intro G F B D _ q;have E:=Ba 7 rfl rfl rfl q;clear q B D;go_simp;exact⟨E,rfl⟩
     go_simp;apply jO
     ·intro G F B D _ q;have E:=Ba 8 rfl rfl rfl q;clear q B D;go_simp;exact⟨E,rfl⟩
     go_simp;apply jO
     ·intro G F B D _ q;have E:=Ba 9 rfl rfl rfl q;have Lu:=yt B 10 9 amt.1 D;have O:=yt B 11 10 Yu.1 Lu;have N:=yt B 13 11 F4.1 O;have X:=XX q Lu O N;subst X;clear q B D Lu O N;go_simp;exact⟨E,rfl⟩
     go_simp;apply jO
     ·intro G F B D _ q;have O:=yt B 11 10 Yu.1 D;have N:=yt B 13 11 F4.1 O;have X:=XX q D O N;subst X;have E:oN 10 11 13 F (F.alloc (.cells #[.int .i64 z] 3)) K (K.setCell (a,k) Q) (λy=>y==10||G y) (F.alloc (.cells #[.int .i64 z] 3)):=ak3 rfl rfl O N;clear q B D O N;go_simp;exact⟨E,rfl⟩
     go_simp;apply jO
     ·intro G F B D yp q;have N:=yt B 13 11 F4.1 D;have X:=ac6 q (yp 10 Yu.1) D N;subst X;rw[alK _ _ _ _ rfl (.slice pa y pc) (.slice (some ⟨H.heap.size,0,none⟩) 1 1) rfl rfl TA];exact⟨ak4 rfl N,rfl⟩
     go_simp;apply jO
     ·intro G F B D _ q;have E:=Ba 12 rfl rfl rfl q;clear q B D;go_simp;exact⟨E,rfl⟩
     go_simp;apply jO
     ·intro G F B D yp q;have X:=ak1 q (yp 11 F4.1) D;subst X;have E:oN 10 11 13 H (H.alloc (.cells #[.int .i64 z] 3)) F (F.setCell (a,k) Q) (λy=>y==13||G y) (F.setCell (a,k) Q):=ak5;obtain⟨Z,W,rfl⟩:=OG CA;clear q B D;go_simp;exact⟨E,rfl⟩
     go_simp;apply ac2;apply HK.1;intro F G hL q;obtain rfl:=ak2 q (hL 13 (by decide));clear q hL HK;go_wp2_with fail;go_roundw;case rel=>exact⟨y+1,Q,by omega,by go_num,Yr,Yt,by rw[<-D6.1];exact Ys,amq,amr⟩
     case measure=>simp[intOf];omega
    ·obtain rfl:y=g.length:=by omega
     have HT:=A (show(g.take g.length).map (λb=>Value.int .i64 (b[k]?.getD 0))=(g.map λb=>b[k]?.getD 0).map (Value.int .i64) by rw[m9,mD];rfl);have ON:=bo.alloc (.cells #[.int .i64 C[k]] 3);have adU:I.heap.size<=(wr.alloc (.cells #[.int .i64 C[k]] 3)).heap.size:=by simp;omega
     go_wp2_with (at_builtin;refine zX rfl _ _ rfl I.heap.size _ _ _ rfl ON wr.heap.size 1 C[k] rfl (Yi _ _ _) (by omega) adU ?_;intro Q K CA Iy;have R:Below I wr K:=((aY _ wr).alloc OR _).grown Iy adU (λz2z c=>(ON.lt z2z c).1);have qJ:K.cell? (a,k)=some (.slice pa g.length pc):=(R.cell (p:=(a,k)) M).trans hhv;have hf9:K.frozen? (a,k)=false:=(R.frozen (p:=(a,k)) M).trans OH;obtain⟨Z,W,rfl⟩:=OG CA);have Yr:=adR (m:=.slice Z (g.length+1) W) OP R M Yq;have Ys:=SG CA (a:=(a,k)) M (.slice Z (g.length+1) W);have Yt:(K.setCell (a,k) (.slice Z (g.length+1) W)).cell? (a,k)=some (.slice Z (g.length+1) W):=jL _ _ _ (by rw[qJ];rfl);have adV:(D4 g C k).length=g.length+1:=by simp[D4]
     have amu:(K.setCell (a,k) (.slice Z (g.length+1) W)).ownsRow I.heap.size 3 1 (.slice Z (g.length+1) W) (D4 g C k).length ((D4 g C k).map (Value.int .i64)):=by
      rw[adV];have c:(D4 g C k).map (Value.int .i64)=((g.take g.length).map λb=>Value.int .i64 (b[k]?.getD 0))++[.int .i64 C[k]]:=by
       rw[HT.1];simp[D4,fw T]
      rw[c];exact Ys
     obtain⟨DW,hCd⟩:=amk Yr Yq M Yt amu adV (by omega) (λz0 hq=>by show(D4 g C k)[z0]?.getD 0=_;rw[fw hq,Cl]);go_roundw;case rel=>exact⟨k+1,DW,by omega,by go_num,hCd,by have:=R.size;simp[World.setCell];omega,A λi h1 h2=>by
      rw[set_other (.inr (by omega)),R.cell (p:=⟨a.heap.size,i,none⟩) M];exact OQ.1 i (by omega) h2⟩
     case measure=>simp[intOf];omega
  ·obtain rfl:k=C.length:=by omega
   go_wp2_with fail;go_ret;exact⟨rb,rfl,⟨aP _,λi L=>gQ (q.gt i L).1,λi L c=>by have:=(q.gt i L).1;omega,q.inj,q.row,q.fro,λi y L hj=>(q.elem i y L hj).1,λi y L hj=>(q.elem i y L hj).2,aml g C HL.1 CB Iz⟩,M,q.low⟩
theorem adW(i:mh g=0):(∀b∈g,b.length<=64)/\∀b∈g,uS (wide g) b=true:=by
 unfold mh at i;split at i
 ·cases i
 ·rename_i p;split at i
  ·rename_i q;refine⟨λb s=>?_,by simpa using q⟩;by_cases y:b.length<=64
   ·exact y
   ·exact absurd (oI.2 ⟨b,s,by simp;omega⟩) p
  ·cases i
theorem Lv{z:Int}(i:cM z=false):0<=z/\z<1073741789:=by
 simp[cM]at i;omega
theorem Yv{b:V}(i:uS j b=true):b.length=j/\∀z∈b,0<=z/\z<1073741789:=by
 simp[uS]at i;exact⟨i.1,λz p=>Lv (i.2 z p)⟩
structure uY(g:ak)(j:Nat):Prop where
 few:g.length<=64
 narrow:j<=64\/g=[]
 len:∀b∈g,b.length=j
 num:∀b∈g,∀z∈b,0<=z/\z<1073741789
theorem amv(i:wD g=0):uY g (wide g):=by
 unfold wD at i;split at i
 ·cases i
 ·rename_i y;obtain⟨q,p⟩:=adW i;refine⟨by omega,?_,λb s=>(Yv (p b s)).1,λb s=>(Yv (p b s)).2⟩;cases g with
  |nil=>exact .inr rfl
  |cons b B=>exact .inl (by have:=q b (by simp);simpa [wide] using this)
def D7(p:V->Bool):ak->Int
 |[]=>-1
 |z::i=>if p z then 0 else if D7 p i<0 then -1 else D7 p i+1
theorem adX(p:V->Bool)(i:ak)(q:∀z∈i,p z=false):D7 p i=-1:=by
 induction i with
 |nil=>rfl
 |cons z i B=>unfold D7;rw[aA (by simp[q z]),B (λC y=>q C (by simp[y]))];rfl
theorem amw(p:V->Bool)(i:ak)(k:Nat)(o:k<i.length)(y:∀z∈i.take k,p z=false)(q:p i[k]=true):D7 p i=k:=by
 induction i generalizing k with
 |nil=>simp at o
 |cons z i C =>
  unfold D7;cases k with
  |zero=>simp at q;simp[q]
  |succ k =>
   simp at q o;rw[aA (by rw[y z (by simp)];simp),C k o (λD B=>y D (by simp[B])) q,aA (by omega)];rfl
theorem amx(p:V->Bool)(i:ak):decide (0<=D7 p i)=i.any p:=by
 by_cases q:i.any p=true
 ·rw[q]
  induction i with
  |nil=>simp at q
  |cons z i C =>
   unfold D7;by_cases y:p z=true
   ·simp[y]
   ·have B:i.any p=true:=by simpa [y] using q
    have:=C B;simp at this;simp[y];omega
 ·have B:∀z∈i,p z=false:=by
   intro z y;simp at q;simpa using q z y
  rw[adX p i B];simp at q ⊢;exact q
def Yw(C:FuncId)(y:Array Value)(a:World)(p:V->Bool):Prop:=
 ∀b q i,Below a.heap.size a i->aM i q b->Calls prog C (#[q]++y) i λc B=>c=.returned (.bool (p b))/\Below i.heap.size i B
theorem amy(B:FuncId)(M:Array Value)(p:V->Bool)(m:Value)(g:ak)(a:World)(q:bI a m g)(N:eQ prog B)(O:Yw B M a p):
  Calls prog 179 #[m,.func (.func B) #[] M] a λc X=>c=.returned (D7 p g:Int)/\Below a a X:=by
 obtain⟨z0z,ue,rfl,jC,hlen,o⟩:=q;have L:=A O;clear O;have FR:∀(args:Array Value) (a:World),(callFunc B args).run prog a=.ok (.enter B args) a:=N;clear N;have Q:=A o;clear o;go_enter func179,ntmps179;go_wp2_with fail;go_loopw[5,8] (λ_ H wr=>∃k:Nat,k<=g.length/\H=k/\Hid (∀z∈g.take k,p z=false)/\Below a a wr) (λ_ H _=>g.length-(intOf H).toNat);case atStart=>exact⟨0,bS _,rfl,A (by simp),aY _ _⟩
 case round =>
  obtain⟨k,dg,rfl,D,i⟩:=hrel;by_cases F:k<g.length
  ·obtain⟨z1z,T,W,rfl,P,q⟩:=Q.1 k F;have Cv:wr.cell? (z1z,T+k)=some W:=U i P;have K:=A (q.below i);obtain⟨ra,rc,rfl,-⟩:=id q;clear q P;cases y:p g[k]
   ·have R:=A (show ∀z∈g.take (k+1),p z=false by
     rw[jv F];intro z S;rcases lN.1 S with I|I
     ·exact D.1 z I
     ·rw[jJ.1 I];exact y)
    have C:=A y;clear y;go_wp2_with fail;refine(L.1 _ _ _ i K.1).mono ?_;rintro c Z ⟨rfl,G⟩;rw[C.1];go_wp2_with fail;go_roundw;case rel=>exact⟨k+1,by omega,by go_num,R,K4 i (aP _) G⟩
    case measure=>simp[intOf];omega
   ·have C:=A y;clear y;have E:=A (amw p g k F D.1 C.1);go_wp2_with fail;refine(L.1 _ _ _ i K.1).mono ?_;rintro c Z ⟨rfl,G⟩;rw[C.1];go_wp2_with fail;go_ret;exact⟨fL E.1.symm,K4 i (aP _) G⟩
  ·have E:=A (adX p g (by have:=D.1;rwa [zJ (by omega)]at this));go_wp2_with fail;go_ret;exact⟨fL E.1.symm,i⟩
theorem amz(i:FuncId)(q:Array Value)(p:V->Bool)(m:Value)(g:ak)(a:World)(D:bI a m g)(C:eQ prog i)(E:Yw i q a p):
  Calls prog 126 #[m,.func (.func i) #[] q] a λc F=>c=.returned (.bool (g.any p))/\Below a a F:=by
 have y:=A (amx p g);go_enter func126,ntmps126;go_wp2_with (go_at_call 179;refine(amy i q p m g _ D C E).mono ?_;rintro c G ⟨rfl,B⟩);go_ret;exact⟨cg y.1,B⟩
theorem adY(h p i:Int)(a:World):Calls prog 128 #[h,p,i] a λb B=>b=.returned (.bool (ct h p i))/\a=B:=by
 by_cases y:p<=h
 ·have q:=A (show ct h p i=decide (h<=i) by unfold ct;rw[bB y,jY]);go_enter func128,ntmps128;go_wp2_with fail;go_ret;exact⟨cg q.1.symm,rfl⟩
 ·have q:=A (show ct h p i=false by unfold ct;rw[bw y,uP]);go_enter func128,ntmps128;go_wp2_with fail;go_ret;exact⟨cg q.1.symm,rfl⟩
theorem IA(h:Int)(a:World):Calls prog 119 #[h] a λb i=>b=.returned (.bool (ct h 0 63))/\a=i:=by
 go_enter func119,ntmps119;go_wp2_with fail;with_reducible refine(adY h 0 63 _).mono ?_
 rintro b p ⟨rfl,rfl⟩;go_wp2_with fail;go_ret;exact⟨rfl,rfl⟩
theorem amA(z:Int):(!ct z 0 1073741788)=cM z:=by
 cases c:cM z with
 |false =>
  have i:ct z 0 1073741788=true:=jo.2 (by simp[cM]at c;omega);rw[i];rfl
 |true =>
  have i:ct z 0 1073741788=false:=S6 (by simp[cM]at c;omega);rw[i];rfl
theorem amB(z:Int)(a:World):Calls prog 127 #[z] a λb i=>b=.returned (.bool (cM z))/\a=i:=by
 go_enter func127,ntmps127;go_wp2_with fail;with_reducible refine(adY z 0 1073741788 _).mono ?_
 rintro b p ⟨rfl,rfl⟩;go_wp2_with fail;go_ret;exact⟨cg (amA z),rfl⟩
theorem amC(a:World)(q:V):yl 127 #[] a cM q:=
 λz _ i _=>(amB z i).mono λ_ _ ⟨p,c⟩=>⟨p,c▸aY _ _⟩
theorem amD:eQ prog 127:=iw func127 (by kernel_rfl) rfl
def uZ(b:V):Bool:=decide (64<b.length)
theorem amE(i:Value)(b:V)(a:World)(q:aM a i b):Calls prog 125 #[i] a λc y=>c=.returned (.bool (uZ b))/\a=y:=by
 obtain⟨C,B,rfl,-⟩:=q;have p:=A (show uZ b=decide ((64:Int)<(b.length:Int)) from N7.2 (by omega));go_enter func125,ntmps125;go_wp2_with fail;go_ret;exact⟨cg p.1.symm,rfl⟩
theorem amF(a:World):Yw 125 #[] a uZ:=
 λb p q _ i=>(amE p b q i).mono λ_ _ ⟨y,c⟩=>⟨y,c▸aY _ _⟩
theorem amG:eQ prog 125:=iw func125 (by kernel_rfl) rfl
