/- Package group: Pow of what is no element, Mul; and the reference's Pow and Mul. -/
import Derived.Test.YtaifagjclanodaaGreatDoorMGauss
import Derived.Test.YtaifagjclanodaaGreatDoorMLinN
import Derived.Deep.RegionLaw
import Derived.Deep.AppendLies
import Derived.Maps.OwnSet
import Derived.ChangeMaps3
import Derived.Laws.EntriesVeiled
set_option maxHeartbeats 4000000
set_option maxRecDepth 100000
namespace Go.Proofs.YtaifagjclanodaaGreatDoor
open Go.Proofs.Tryz
open Go.RowKit FP
variable{s:Array Oper}{l:Int}{n:List MapEntry}{C:List Value}{f c i k r b d:Nat}{w:World}{m:aO}{t:V}{a:ak}
theorem El.r64(e:El l):aN l:=⟨by have:=e.lo;omega,by have:=e.hi;omega⟩
theorem aog{f:Int}(ha:El l)(e:El f):0<=l*f/\l*f<=4611685721957729241:=Y8 ha.num e.num
theorem Ej(l f:Int)(w:World)(ha:El l)(e:El f):
  Calls prog 92 #[l,f] w λg p=>g=.returned (.tuple #[(l*f%2147483579:Int),(0:Int)])/\w=p:=by
 obtain⟨h,j⟩:=aR (oU.2 ha) (oU.2 e);obtain⟨u,v⟩:=aog ha e;have o:=ha.r64;have r2:=e.r64;clear ha e;go_enter func92,ntmps92;go_wp2_with fail;with_reducible refine(tf _ _ o).mono ?_
 rintro g q ⟨rfl,rfl⟩;rw[h.1];go_wp2_with fail;with_reducible refine(tf _ _ r2).mono ?_
 rintro g q ⟨rfl,rfl⟩;rw[j.1];go_wp2_with fail;go_ret2;exact⟨rfl,rfl⟩
theorem fO:El 4:=by
 refine Y7 (by omega) ?_;have g:cp 4=cp 2*cp 2:=by rw[<-OZ];rfl
 have h:cp 2≠0:=λe=>by rw[YN]at e;exact absurd e (by decide)
 obtain⟨b,hn,j⟩:∃b:Nat,b+1+1=2147483579/\nQ+nQ=b+1:=⟨2147483577,rfl,rfl⟩;rw[g,Y5,<-Pf,j,FP.pow_s];exact FP.fermat_n b hn h
theorem ae8:(4:Int)≠1:=by decide
def rE(h e g:Int):Int:=bm 4 g*bm h (-e)%2147483579
def sE(l h e g:Int):Int:=bm l g*bm h (-e)%2147483579
theorem aoh{e:Int}(j:El e)(g h:Int):El (rE e g h):=Eh (fJ fO _) (fJ j _)
theorem aoi{e:Int}(ha:El l)(j:El e)(g h:Int):El (sE l e g h):=Eh (fJ ha _) (fJ j _)
theorem ae9(ha:El l)(g k e:Int):sE l (bm l g) e ((k+e*g)%1073741789)=bm l k:=by
 unfold sE;rw[aeY,Gg ha,<-Ei ha]
 congr 1
 grind
theorem aoj(g k e:Int):rE (bm 4 g) e ((k+e*g)%1073741789)=bm 4 k:=ae9 fO g k e
theorem aok{j:Nat}{g:TypeId}{p:Nat}{h:Value}(x:w.ownsRow j g p h b C){E:Nat}(ha:∀e,h.ownBlock=some e->f≠e)(F:Value):(w.setCell (f,E) F).ownsRow j g p h b C:=by
 obtain⟨o,y|⟨e,u,v,rfl,z,D,q⟩⟩:=x
 ·exact⟨o,.inl y⟩
 ·refine⟨o,.inr ⟨e,u,v,rfl,z,?_,q⟩⟩;rw[dJ _ _ _ _ (λg=>ha e rfl g.symm)];exact D
def Ek(a:ak)(k:Nat):V:=a.map λd=>J d k
def IS(e:aO):Prop:=∀i g (h:i<e.length) (j:g<e.length),i<g->e[i]<e[g]
theorem aom{e:aO}(o:IS e)(q:∀p∈e,p<c):IS (e++[c]):=by
 intro i g u v h;rw[fu,KW]at u v;by_cases j:g=e.length
 ·subst j;rw[AX (by omega),Cr (aP _)];simpa using q _ (bM (by omega:i<e.length))
 ·rw[AX (by omega),AX (by omega)];exact o i g (by omega) (by omega) h
theorem aon{g:cI×aO}(e:(∀p∈g.2,p<c)/\IS g.2):(∀p∈(Bh b g c).2,p<c+1)/\IS (Bh b g c).2:=by
 unfold Bh;split
 ·refine⟨λp j=>?_,aom e.2 e.1⟩;rcases lN.1 j with h|h
  ·exact H5 (e.1 p h)
  ·rw[jJ.1 h];omega
 ·exact⟨λp j=>H5 (e.1 p j),e.2⟩
theorem afa(b:Nat)(e:cI):∀c,(∀p∈(pV b e c).2,p<c)/\IS (pV b e c).2
 |0=>⟨by simp[pV],λi h g=>by simp[pV]at g⟩
 |c+1=>by rw[OV];exact aon (afa b e c)
structure Next(m:aO)(c k:Nat):Prop where
 le:k<=m.length
 lo:∀i (e:i<m.length),i<k->m[i]<c
 up:∀i (e:i<m.length),k<=i->c<=m[i]
def cm(e:cI):pX:=λi g=>cq (e i g)
def pf(e:aO):Nat->Nat:=λk=>e[k]?.getD 0
theorem Bi.congr{E v x:pX}{p F:Nat->Nat}(h:Bi b r E v d p c)(q:∀i,i<b->∀o,v i o=x i o)(j:∀k,k<d->p k=F k):Bi b r E x d F c:=by
 have y:∀i,i<b->v i=x i:=λi e=>funext (q i e);refine⟨h.rn,λL=>Iff.trans ?_ (h.ker L),λi e=>y i e▸h.span i e,λk g=>j k g▸h.pc k g,λk G z u=>j k (by omega)▸j G u▸h.mono k G z u,λk g=>?_,λk i g e H=>?_,λi o z u I=>?_,λk o g K=>?_⟩
 ·exact⟨λD i e=>by rw[y i e];exact D i e,λD i e=>by rw[<-y i e];exact D i e⟩
 ·rw[<-j k g,<-q k (eJ g h.rn)];exact h.one k g
 ·rw[<-j k g,<-q i e];exact h.zero k i g e H
 ·rw[<-q i u];exact h.low i o z u I
 ·rw[<-q k (eJ g h.rn)];exact h.left k o g (by rw[j k g];exact K)
theorem aoo{e:cI}(g:d<=i)(h:i<iG e b c d):e i c=0:=ac8 e c (b-d) d i g h
theorem afb(e:cI)(b c d:Nat)(g:d<=b):iG e b c d<=b:=by have:=(X5 e c (b-d) d).1;unfold iG;omega
theorem aop{e:cI}(g:iG e b c d<b)(h:d<=b):e (iG e b c d) c≠0:=ac7 e c (b-d) d (by unfold iG at g;omega)
theorem aoq{z:Int}(g:0<=z/\z<1073741789)(h:z≠0):cq z≠0:=λe=>by
 rw[TO]at e;omega
theorem aor{z:Int}(e:cq z≠0):cq (oM z)*cq z=1:=aeE e
theorem Ze(h:cI)(k:Nat)(g:Nat->Int)(e:Nat):nU h k g k e=g e:=aD rfl
theorem Zf(e:cI)(k:Nat)(j:Nat->Int)(i g:Nat)(h:i≠k):nU e k j i g=e i g:=aA h
theorem aos{e:cI}(q:d<b)(i g:Nat)(o:i<b):cm (pivR e b d c k) i g=Bj (cm e) d c k (cq (oM (e k c))) i g:=by
 show cq (nU (Ea (nU e k (e d)) (s8 e c k) c b) d (s8 e c k) i g)=_;by_cases h:i=d
 ·subst h;rw[LF];rw[Ze];unfold s8;rw[nX,wM];show _=cq (e k g)*_;grind
 ·rw[Zf _ _ _ _ _ h];unfold Ea;rw[aD o,nX,vd,aeC,nX,wM];unfold s8;rw[nX,wM];by_cases j:i=k
  ·subst j;rw[II _ _ _ _ _ _ h,Ze,Ze];show _=cq (e d g)-cq (e d c)*(cq (e i g)*_);generalize cq (oM (e i c))=p at *;grind
  ·rw[Eg _ _ _ _ _ _ _ h j,Zf _ _ _ _ _ j,Zf _ _ _ _ _ j];show _=cq (e i g)-cq (e i c)*(cq (e k g)*_);generalize cq (oM (e k c))=p at *;grind
theorem aot(e:aO)(c:Nat):(∀k,k<e.length->pf e k=pf (e++[c]) k)/\pf (e++[c]) e.length=c:=by
 refine⟨λk g=>?_,?_⟩
 ·unfold pf;rw[uN g]
 ·unfold pf;rw[rD (aP _)];simp
theorem Zg{g:cI}(p:uj b r g):∀c,c<=r->Bi b r (cm g) (cm (pV b g c).1) (pV b g c).2.length (pf (pV b g c).2) c
 |0,_=>anj b r (cm g) _
 |c+1,H=>by
  have h:=Zg p c (by omega);have hn:=TJ p c;rw[OV];generalize pV b g c=F at h hn;obtain⟨e,m⟩:=F;simp only at h hn;have I:=afb e b c m.length h.rn;by_cases o:iG e b c m.length<b
  ·rw[aeg rfl o];show Bi b r (cm g) (cm (pivR e b m.length c (iG e b c m.length))) (m++[c]).length (pf (m++[c])) (c+1);have E:=Ou e b c m.length;have u:=aoq (hn _ c o (by omega)) (aop o h.rn);rw[fu,KW];have j:=aot m c;have x:=h.congr (λ_ _ _=>rfl) j.1;have D:=anl x E o (aor u) j.2;exact D.congr (λi v z=>(aos (e:=e) (b:=b) (d:=m.length) (c:=c) (k:=iG e b c m.length) (by omega) i z v).symm) (λ_ _=>rfl)
  ·have y:iG e b c m.length=b:=by omega
   rw[aef y];refine ank h (λi j G=>?_);show cq (e i c)=0;have q:m.length<=i:=j;rw[aoo (e:=e) (b:=b) (c:=c) q (by omega)];exact se
theorem afc{h j:cI}(g:∀i,i<b->h i c=j i c):∀e k,k+e<=b->findF h c e k=findF j c e k
 |0,_,_=>rfl
 |e+1,k,o=>by
  unfold findF;rw[g k (by omega),afc g e (k+1) (by omega)]
theorem aou{h g:cI}(K:uj b r g)(p:∀i e,i<b->e<r->h i e=g i e)(z:d<b)(y:k<b)(x:c<r)(I:∀e,e<c->g k e=0)(i e:Nat)(u:i<b)(q:e<r):
  XZ h b d c k i e=pivR g b d c k i e:=by
 have H:e<c->s8 g c k e=0:=λM=>by unfold s8;rw[I e M,Int.mul_zero];rfl
 have G:h k e*oM (h k c)%1073741789=s8 g c k e:=by
  unfold s8;rw[p k e y q,p k c y x,Hz]
 have F:mj h d k i e=if i=d then g k e else nU g k (g d) i e:=by
  unfold mj nU;by_cases j:i=d
  ·rw[aD j,aD j,p k e y q]
  ·rw[aA j,aA j];by_cases o:i=k
   ·rw[aD o,aD o,p d e z q]
   ·rw[aA o,aA o,p i e u q]
 have L:i≠d->mj h d k i c=nU g k (g d) i c:=λj=>by
  unfold mj nU;rw[aA j];by_cases o:i=k
  ·rw[aD o,aD o,p d c z x]
  ·rw[aA o,aA o,p i c u x]
 show nj (DR (mj h d k) d c (oM (h k c))) d c b i e=nU (Ea (nU g k (g d)) (s8 g c k) c b) d (s8 g c k) i e;by_cases j:i=d
 ·subst j;unfold nj;rw[aA (by omega)];unfold nU;rw[aD rfl];unfold DR;by_cases v:c<=e
  ·rw[aD ⟨rfl,v⟩];have:mj h i k i e=h k e:=by unfold mj;rw[aD rfl]
   rw[this];exact G
  ·rw[aA (by omega),F,aD rfl,H (by omega),I e (by omega)]
 ·have N:nU (Ea (nU g k (g d)) (s8 g c k) c b) d (s8 g c k) i e=(nU g k (g d) i e+-(nU g k (g d) i c*s8 g c k e%1073741789))%1073741789:=by
   show(if i=d then _ else Ea (nU g k (g d)) (s8 g c k) c b i e)=_;rw[aA j];unfold Ea;rw[aD u]
  rw[N];have D:∀E,DR (mj h d k) d c (oM (h k c)) i E=mj h d k i E:=λE=>by unfold DR;rw[aA (by omega)]
  unfold nj;by_cases v:c<=e
  ·rw[aD ⟨j,u,v⟩,D,D,F,aA j,L j];have:DR (mj h d k) d c (oM (h k c)) d e=s8 g c k e:=by
    unfold DR;rw[aD ⟨rfl,v⟩];have:mj h d k d e=h k e:=by unfold mj;rw[aD rfl]
    rw[this];exact G
   rw[this]
  ·rw[aA (by omega),D,F,aA j,H (by omega),Int.mul_zero];have O:0<=nU g k (g d) i e/\nU g k (g d) i e<1073741789:=(K.put (i:=k) (λe q=>K d e z q)) i e u q;omega
theorem afe{v j:cI}(x:uj b r j)(D:∀i g,i<b->g<r->v i g=j i g):∀c,c<=r->(nm b v c).2=(pV b j c).2/\∀i g,i<b->g<r->(nm b v c).1 i g=(pV b j c).1 i g
 |0,_=>⟨rfl,D⟩
 |c+1,P=>by
  obtain⟨q,h⟩:=afe x D c (by omega);have hn:=TJ x c;have o:=Zg x c (by omega);rw[Te,OV];generalize nm b v c=M at q h;generalize pV b j c=K at q h hn o;obtain⟨L,m⟩:=M;obtain⟨e,N⟩:=K;simp only at q h hn o;subst q;have z:iG L b c m.length=iG e b c m.length:=afc (λi y=>h i c y (by omega)) _ _ (by have:=o.rn;omega);have R:=afb e b c m.length o.rn;by_cases p:iG e b c m.length<b
  ·rw[ada z p,aeg rfl p];refine⟨rfl,λi g y G=>?_⟩;have I:=Ou e b c m.length;refine aou hn h (by omega) p (by omega) (λu H=>?_) i g y G;have F:=o.low _ u I p H;have O:=hn _ u p (by omega);rw[show cm e (iG e b c m.length) u=cq (e (iG e b c m.length) u) from rfl,TO]at F;omega
  ·have E:iG e b c m.length=b:=by omega
   rw[ac9 (z.trans E),aef E];exact⟨rfl,h⟩
theorem TY{h:Oper}{l:Act}{y:Act->World->Prop}{Q:Exit->Act->World->Prop}{F:Prop}{e:World}(I:h.guard=none)(x v:Operand)(P:h.op=.call {callee:=.builtin .append,args:=#[x,v],argTypes:=#[23,23]})
  (o b:Nat) (j:Value) (C:List Value) (R:l.eval x=j) (G:e.ownsRow o 3 1 j b C) (f c:Nat) (z:Int) (S:l.eval v=.slice (f,0) 1 c) (H:e.cell? (f,0)=z) (hn:b<=1000000) (K:o<=e.heap.size) (q:Nat) (O:e.heap.size=q)
  (N:∀g D p,p.ownsRow o 3 1 (.slice (some ⟨g,0,none⟩) (b+1) D) (b+1) (C++[.int .i64 z])->e.grownBy p j.ownBlock->(j.ownBlock=some g\/g=q)->g<p.heap.size->y (l.put h.dst (.slice (some ⟨g,0,none⟩) (b+1) D)) p):
  if Region.wanted h (yielded s l.tmps)=true then Oper.wp prog h l e y Q else F:=by
 obtain⟨T,W,X,L,M⟩:=xY F2;refine step_append_lies _ I x v 23 P o 3 T (0:Int) 1 8 underlying23 W X L M rfl (by decide) j b C R G (f,0) 1 c [z] S rfl ?_ ?_ (by decide) ?_ ?_ K q O N
 ·intro E Z u;cases E with
  |zero=>simp at u;subst u;simpa [Addr.add] using H
  |succ E=>simp at u
 ·simp[Value.oneCell']
 ·unfold maxLen;omega
 ·omega
def tg(a:ak)(t:V):ak:=(List.range t.length).map λi=>Ek a i++[J t i]
def j7(a:ak)(t:V):cI×aO:=pV t.length (wH (tg a t)) a.length
def okM(g:cI)(d b r:Nat):Bool:=(List.range (r-d)).all λe=>g (d+e) b==0
def mR(a:ak)(t:V):Bool:=okM (j7 a t).1 (j7 a t).2.length a.length t.length
def fy(a:ak)(t:V):V:=(List.range a.length).map (qM (j7 a t).1 (j7 a t).2 a.length (j7 a t).2.length)
theorem aow(a:ak)(t:V):(tg a t).length=t.length:=by simp[tg]
theorem aox:∀d∈tg a t,d.length=a.length+1:=λd e=>by
 obtain⟨i,g,rfl⟩:=ey.1 e;simp[Ek]
theorem aoy(o:∀d∈a,d.length=t.length)(hn:∀d∈a,∀z∈d,0<=z/\z<1073741789)(q:∀z∈t,0<=z/\z<1073741789):∀d∈tg a t,∀z∈d,0<=z/\z<1073741789:=λd p z u=>by
 obtain⟨i,g,rfl⟩:=ey.1 p;rw[dT]at g;rcases lN.1 u with e|e
 ·obtain⟨j,h,rfl⟩:=ey.1 e;rw[di (by rw[o j h];exact g)];exact hn j h _ (bM _)
 ·rw[jJ.1 e,di g];exact q _ (bM _)
theorem Zh(g:i<t.length)(e:Nat):z7 a t i e=wH (tg a t) i e:=by
 have:(tg a t)[i]?=some (Ek a i++[J t i]):=by unfold tg;simp[g]
 unfold wH;rw[this];rfl
theorem Zi(g:uY a t.length)(j:∀z∈t,0<=z/\z<1073741789):uj t.length (a.length+1) (wH (tg a t)):=λi q h o=>by
 have e:i<(tg a t).length:=by rw[aow];exact h
 have p:=aox _ (bM e);rw[ami e (by omega)];exact aoy g.len g.num j _ (bM e) _ (bM _)
theorem aoz(q:uY a t.length)(y:∀z∈t,0<=z/\z<1073741789):wJ a t=mR a t/\IB a t=fy a t:=by
 obtain⟨u,v⟩:=afe (v:=z7 a t) (Zi q y) (λi e x h=>Zh x e) a.length (by omega);have p:(z8 a t).2=(j7 a t).2:=u;have j:∀i e,i<t.length->e<a.length+1->(z8 a t).1 i e=(j7 a t).1 i e:=v;have F:(j7 a t).2.length<=t.length:=aeh _ _ _;constructor
 ·unfold wJ mR okM;rw[p,Bool.eq_iff_iff,fg,fg];constructor
  ·intro o e h;rw[dT]at h;rw[<-j _ _ (by omega) (by omega)];exact o e (dT.2 h)
  ·intro o e h;rw[dT]at h;rw[j _ _ (by omega) (by omega)];exact o e (dT.2 h)
 ·unfold IB fy;rw[p];refine xZ λi _=>?_;have:∀g,g<=(j7 a t).2.length->qM (z8 a t).1 (j7 a t).2 a.length g i=qM (j7 a t).1 (j7 a t).2 a.length g i:=λg=>by
   induction g with
   |zero=>intro _;rfl
   |succ g D =>
    intro E;unfold qM;rw[D (by omega),j g a.length (by omega) (by omega)]
  exact this _ (aP _)
def cv(g:V):Nat->Fq:=λe=>cq (J g e)
theorem afg(l f:V):∀e,cq (lR l f e)=sm e (λg=>cv l g*cv f g)
 |0=>se
 |e+1=>by
  show cq ((lR l f e+J l e*J f e%1073741789)%1073741789)=sm e _+cq (J l e)*cq (J f e);rw[nX,vd,nX,wM,afg l f e]
theorem IT(l f:V):cq (cz l f)=dt l.length (cv l) (cv f):=afg l f l.length
theorem aoA(h:IS m):∀k e,k<e->e<m.length->pf m k<pf m e:=λk e j g=>by
 unfold pf;rw[fw (by omega),fw g];exact h k e (by omega) g j
theorem Gj:(decide (gy a t=0)&&wJ a t)=(decide (gy a t=0)&&mR a t)/\(if gy a t=0/\wJ a t=true then IB a t else [])=(if gy a t=0/\mR a t=true then fy a t else []):=by
 by_cases e:gy a t=0
 ·obtain⟨h,j,q⟩:=ad9 e;obtain⟨o,p⟩:=aoz h j;rw[o,p];exact⟨rfl,rfl⟩
 ·rw[bw e,aA (λg=>e g.1),aA (λg=>e g.1)];exact⟨rfl,rfl⟩
abbrev sl(f b:Nat):Value:=.slice (some ⟨f,0,none⟩) b b
theorem afh(j h:Value)(a:ak)(t v:V)(u:Bool)(e:Int)(w:World)(D:bI w j a)(E:aM w h t)(q:gy a t=e)(x:(decide (e=0)&&wJ a t)=u)(F:(if e=0/\wJ a t=true then IB a t else [])=v):
  Calls prog 42 #[j,h] w λd o=>∃g,d=.returned (.tuple #[g,.bool u,e])/\aM o g v/\Below w w o:=
 (amQ j h a t w D E).mono λd o ⟨g,y,p,z⟩=>⟨g,by rw[y,q,x],by rw[q,F]at p;exact p,z⟩
def fm(a:ak):pX:=cm (wH a)
theorem TZ(a:ak)(g:i<a.length)(e:Nat):fm a i e=cv a[i] e:=by
 show cq (((a[i]?).getD [])[e]?.getD 0)=cq (a[i][e]?.getD 0);rw[fw g];rfl
theorem eq_left(a:ak)(t:V)(g:k<t.length)(e:i<a.length):cm (wH (tg a t)) k i=fm a i k:=by
 show cq (wH (tg a t) k i)=_;rw[<-Zh g];show cq ((Ek a k++[J t k])[i]?.getD 0)=_;rw[uN (by simpa [Ek] using e)];unfold Ek;rw[tY,fw e,TZ a e];rfl
theorem eq_right(a:ak)(t:V)(e:k<t.length):cm (wH (tg a t)) k a.length=cv t k:=by
 show cq (wH (tg a t) k a.length)=_;rw[<-Zh e];show cq ((Ek a k++[J t k])[a.length]?.getD 0)=_;rw[rD (by simp[Ek])];simp[Ek];rfl
def ext(b:Nat)(g:Nat->Fq):Nat->Fq:=λe=>if e=b then -1 else g e
theorem aoB{e:Nat}(g:Nat->Fq)(h:e<b):ext b g e=g e:=aA (by omega)
theorem aoC(b:Nat)(e:Nat->Fq):ext b e b=-1:=aD rfl
theorem afi(b:Nat)(g h:Nat->Fq):dt (b+1) g (ext b h)=sm b (λe=>g e*h e)+g b*(-1):=by
 show sm b (λe=>g e*ext b h e)+g b*ext b h b=_;rw[aoC,iJ (λe j=>by rw[aoB h j])]
theorem aoD(a:ak)(t:V)(h:Nat->Fq):YV t.length (a.length+1) (cm (wH (tg a t))) (ext a.length h)↔∀k,k<t.length->cv t k=sm a.length (λi=>h i*fm a i k):=by
 have o:∀k,k<t.length->dt (a.length+1) (cm (wH (tg a t)) k) (ext a.length h)=sm a.length (λi=>h i*fm a i k)-cv t k:=λk e=>by
  rw[afi,eq_right a t e,iJ (g:=λi=>h i*fm a i k) (λi p=>by rw[eq_left a t e p];exact DG _ _)];grind
 constructor
 ·intro j k e;have:=j k e;rw[o k e]at this;grind
 ·intro j k e;rw[o k e,j k e];grind
theorem afj{g:cI}(p:∀k h,k<h->h<m.length->pf m k<pf m h):∀e,e<=m.length->∀k,k<e->qM g m b e (pf m k)=g k b
 |0,_,k,o=>absurd o (fG _)
 |e+1,q,k,o=>by
  show(if pf m k=pf m e then g e b else qM g m b e (pf m k))=_;by_cases j:k=e
  ·rw[aD (by rw[j]),j]
  ·have:=p k e (by omega) (by omega);rw[aA (by omega)];exact afj p e (by omega) k (by omega)
theorem afk{h:cI}{g:Nat}:∀e,(∀k,k<e->pf m k≠g)->qM h m b e g=0
 |0,_=>rfl
 |e+1,j=>by
  show(if g=pf m e then h e b else qM h m b e g)=_;rw[aA (λo=>j e (by omega) o.symm)];exact afk e (λk p=>j k (by omega))
theorem afl(e:uY a t.length)(g:∀z∈t,0<=z/\z<1073741789):Bi t.length (a.length+1) (cm (wH (tg a t))) (cm (j7 a t).1) (j7 a t).2.length (pf (j7 a t).2) a.length:=
 Zg (Zi e g) a.length (by omega)
theorem IU(b:Nat)(e:Nat->Int)(g:i<b):J ((List.range b).map e) i=e i:=by unfold J;simp[g]
theorem Zk(G:uY a t.length)(I:∀z∈t,0<=z/\z<1073741789)(D:mR a t=true):∀k,k<t.length->cv t k=sm a.length (λi=>cv (fy a t) i*fm a i k):=by
 have g:=afl G I;have y:(∀L∈(j7 a t).2,L<a.length)/\IS (j7 a t).2:=afa _ _ _;have v:∀i,i<a.length->cv (fy a t) i=cq (qM (j7 a t).1 (j7 a t).2 a.length (j7 a t).2.length i):=λi H=>by
  unfold cv fy;rw[IU _ _ H]
 have K:∀e,(j7 a t).2.length<=e->e<t.length->(j7 a t).1 e a.length=0:=λe M N=>by
  have:=fg.1 D (e-(j7 a t).2.length) (dT.2 (by omega));rw[show(j7 a t).2.length+(e-(j7 a t).2.length)=e by omega]at this;simpa using this
 generalize P:(j7 a t).1=j at *;generalize O:(j7 a t).2=m at *;rw[<-aoD];refine(g.ker _).1 λe u=>?_;rw[afi];by_cases o:e<m.length
 ·rw[anm (p:=pf m) (c:=m.length) (λk q=>g.pc k q) g.mono (λh p x=>by
   show cm j e h*cv (fy a t) h=0;rw[v h p,afk _ x,se];grind),LD (k:=e) o (λk q E=>by
   show cm j e (pf m k)*cv (fy a t) (pf m k)=0;rw[g.zero k e q u (λF=>E F.symm)];grind)]
  show cm j e (pf m e)*cv (fy a t) (pf m e)+_=0;rw[g.one e o,v _ (g.pc e o),afj (aoA y.2) _ (aP _) e o];show 1*cm j e a.length+cm j e a.length*(-1)=0;grind
 ·rw[Gc (λh p=>by
   show cm j e h*cv (fy a t) h=0;rw[g.low e h (by omega) u p];grind)]
  show 0+cq (j e a.length)*(-1)=0;rw[K e (by omega) u,se];grind
theorem afm(h g:Value)(a:ak)(t:V)(w:World)(q:bI w h a)(u:aM w g t)(e:gy a t=0)(j:mR a t=true):
  Calls prog 42 #[h,g] w λd o=>∃p,d=.returned (.tuple #[p,true,(0:Int)])/\aM o p (fy a t)/\Below w w o:=by
 refine afh h g a t _ _ _ w q u e ?_ ?_
 ·have:=(Gj (a:=a) (t:=t)).1;rw[e,j]at this;exact this
 ·have:=(Gj (a:=a) (t:=t)).2;rw[e]at this;rw[this,aD ⟨rfl,j⟩]
theorem afn(h g:Value)(a:ak)(t:V)(w:World)(q:bI w h a)(u:aM w g t)(e:gy a t=0)(j:mR a t=false):
  Calls prog 42 #[h,g] w λd o=>∃p,d=.returned (.tuple #[p,false,(0:Int)])/\aM o p []/\Below w w o:=by
 refine afh h g a t _ _ _ w q u e ?_ ?_
 ·have:=(Gj (a:=a) (t:=t)).1;rw[e,j]at this;exact this
 ·have:=(Gj (a:=a) (t:=t)).2;rw[e]at this;rw[this,aA (by rw[j];simp)]
theorem aoE(j h:Value)(a:ak)(t:V)(w:World)(D:bI w j a)(E:aM w h t)(v:gy a t=0)(p:mR a t=true):
  Calls prog 42 #[j,h] w λd o=>∃e,d=.returned (.tuple #[e,true,(0:Int)])/\aM o e (fy a t)/\(∀f,e.ownBlock=some f->w.heap.size<=f)/\Below w w o:=by
 refine(YI j h a t w D E).mono ?_;rintro d o ⟨e,x,g,y,z⟩;have q:=(Gj (a:=a) (t:=t)).1;have u:=(Gj (a:=a) (t:=t)).2;rw[v,p]at q;rw[v]at u x g;refine⟨e,by rw[x,q];rfl,?_,y,z⟩;rw[u]at g;simpa [p] using g
theorem aoF(j h:Value)(a:ak)(t:V)(w:World)(D:bI w j a)(E:aM w h t)(v:gy a t=0)(p:mR a t=false):
  Calls prog 42 #[j,h] w λd o=>∃e,d=.returned (.tuple #[e,false,(0:Int)])/\aM o e []/\(∀f,e.ownBlock=some f->w.heap.size<=f)/\Below w w o:=by
 refine(YI j h a t w D E).mono ?_;rintro d o ⟨e,x,g,y,z⟩;have q:=(Gj (a:=a) (t:=t)).1;have u:=(Gj (a:=a) (t:=t)).2;rw[v,p]at q;rw[v]at u x g;refine⟨e,by rw[x,q];rfl,?_,y,z⟩;rw[u]at g;simpa [p] using g
theorem Pn(a:ak)(t:V):(fy a t).length=a.length:=by simp[fy]
theorem afo(e:uY a r)(hn:a≠[]):wide a=r:=by
 cases a with
 |nil=>exact absurd rfl hn
 |cons d g=>exact e.len d (by simp)
theorem aoG(e:uY a r):wD a=0:=by
 rw[Yc e.few];by_cases hn:a=[]
 ·subst hn;rfl
 ·have j:r<=64:=by
   rcases e.narrow with h|h
   ·exact h
   ·exact absurd h hn
  refine XD a (λd g=>by rw[e.len d g];exact j) (λd g=>?_);unfold uS;rw[afo e hn,bB (e.len d g),amV (λp o=>by
   have:=e.num d g p o;simp[cM];omega)];rfl
theorem Zl{rows:ak}{t:V}(h:uY rows t.length)(ht:∀z∈t,0<=z/\z<1073741789){k:Nat}(hk:k<rows.length):0<=J (fy rows t) k/\J (fy rows t) k<1073741789:=by
 have hn:uj t.length (rows.length+1) (j7 rows t).1:=TJ (Zi h ht) _;have hR:=afl h ht;unfold fy;rw[IU _ _ hk];exact YB (s:=(j7 rows t).2.length) (λk hk=>hn k rows.length (eJ hk hR.rn) (by omega)) _ (aP _) _
open Go.Maps (Keyed)
open Go.ChangeMaps (setBlock heap_setBlock_same heap_setBlock_other)
theorem Gk:Keyed prog 3:=Go.Maps.int_keyed underlying3
theorem Em{e:Int}(g:aN e):Go.keyOf prog 3 (.int .i64 e)=some (.int .i64 e):=Go.Maps.keyOf_int_mk underlying3 (WalkArith.wf_i64 g)
structure jH(w:World)(f:Nat)(h:Int->Option Value):Prop where
 ex:∃n j,w.heap[f]?=some (.map n j)/\(∀e∈n.toList,∃b,aN b/\e.key=.int .i64 b)/\(n.toList.map (·.key)).Nodup/\∀b g,h b=some g↔∃e∈n.toList,e.key=.int .i64 b/\e.val=g
theorem jH.kept{g:World}{e:Int->Option Value}(j:jH w f e)(q:g.heap[f]?=w.heap[f]?):jH g f e:=by
 obtain⟨n,h,o,p⟩:=j.ex;exact⟨n,h,q.trans o,p⟩
theorem jH.lt{e:Int->Option Value}(g:jH w f e):f<w.heap.size:=by
 obtain⟨n,j,h,-⟩:=g.ex;exact(fF.1 h).1
theorem jH.below{w':World}{e:Int->Option Value}(g:jH w f e)(h:Below w w w'):jH w' f e:=g.kept (h.block _ g.lt)
theorem jH.new(w:World):jH (w.alloc (.map #[] 0)) w.heap.size (λ_=>none):=
 ⟨#[],0,(MapKept.heap_alloc w _).1,by simp,by simp,by simp⟩
def th(e:Int->Option Value)(b:Int)(g:Value):Int->Option Value:=λr=>if r=b then some g else e r
theorem Zm{w:World}{es:Array MapEntry}{n:Int}(hn:aN n)(hk:∀e∈es.toList,∃n,aN n/\e.key=.int .i64 n):
  ((Instr.findKey 3 (.int .i64 n) es.toList).run prog w=.ok none w/\∀e∈es.toList,e.key≠.int .i64 n) \/
   ∃j e,(Instr.findKey 3 (.int .i64 n) es.toList).run prog w=.ok (some (j,e.val)) w/\es.toList[j]?=some e/\e.key=.int .i64 n:=
 Gk.find w (Em hn) es.toList (λe he=>by obtain⟨m,hm,e1⟩:=hk e he;exact⟨_,by rw[e1];exact Em hm⟩)
theorem jH.look{w:World}{b:Nat}{F:Int->Option Value}(h:jH w b F){t e:TypeId}(ht:prog.underlying t=some (.map 3 e)){z:Value}(hz:(zeroValue e).run prog w=.ok z w){n:Int}(hn:aN n):
  (Instr.lookup t (.map (some b)) (.int .i64 n) false).run prog w=.ok ((F n).getD z) w:=by
 obtain⟨es,clock,hb,hk,nY,hF⟩:=h.ex;rcases Zm (w:=w) hn hk with⟨h1,h2⟩|⟨j,e0,h1,h2,h3⟩
 ·have:F n=none:=by
   cases e1:F n with
   |none=>rfl
   |some v=>obtain⟨e2,hm,bW,-⟩:=(hF n v).1 e1;exact absurd bW (h2 e2 hm)
  rw[this];simp[Instr.lookup,DH ht,KX hb,Gk.check w _ (Em hn),h1,hz,Result.andThen]
 ·have:F n=some e0.val:=(hF n e0.val).2 ⟨e0,SJ h2,h3,rfl⟩;rw[this];simp[Instr.lookup,DH ht,KX hb,Gk.check w _ (Em hn),h1,Result.andThen]
theorem jH.look_ok{w:World}{b:Nat}{F:Int->Option Value}(h:jH w b F){t e:TypeId}(ht:prog.underlying t=some (.map 3 e)){z:Value}(hz:(zeroValue e).run prog w=.ok z w){n:Int}(hn:aN n):
  (Instr.lookup t (.map (some b)) (.int .i64 n) true).run prog w=.ok (.tuple #[(F n).getD z,.bool (F n).isSome]) w:=by
 obtain⟨es,clock,hb,hk,nY,hF⟩:=h.ex;rcases Zm (w:=w) hn hk with⟨h1,h2⟩|⟨j,e0,h1,h2,h3⟩
 ·have:F n=none:=by
   cases e1:F n with
   |none=>rfl
   |some v=>obtain⟨e2,hm,bW,-⟩:=(hF n v).1 e1;exact absurd bW (h2 e2 hm)
  rw[this];simp[Instr.lookup,DH ht,KX hb,Gk.check w _ (Em hn),h1,hz,Result.andThen]
 ·have:F n=some e0.val:=(hF n e0.val).2 ⟨e0,SJ h2,h3,rfl⟩;rw[this];simp[Instr.lookup,DH ht,KX hb,Gk.check w _ (Em hn),h1,Result.andThen]
theorem aoH(v:(n.map (·.key)).Nodup){g:Nat}{l c:MapEntry}(q:n[i]?=some l)(u:n[g]?=some c)(h:l.key=c.key):i=g:=by
 obtain⟨j,rfl⟩:=DI.1 q;obtain⟨o,rfl⟩:=DI.1 u;have p:=Co.1 v;rcases SH i g with e|e|e
 ·exact absurd h (by have:=p i g (by simpa using j) (by simpa using o) e;simpa using this)
 ·exact e
 ·exact absurd h.symm (by have:=p g i (by simpa using o) (by simpa using j) e;simpa using this)
theorem jH.put{w:World}{b:Nat}{F:Int->Option Value}(h:jH w b F){t e:TypeId}(ht:prog.underlying t=some (.map 3 e)){n:Int}(hn:aN n)(v:Value):
  ∃w',(Instr.mapUpdate t (.map (some b)) (.int .i64 n) v).run prog w=.ok () w'/\jH w' b (th F n v)/\∃o,w'=setBlock w b o/\∀i,i≠b->w'.heap[i]?=w.heap[i]?:=by
 obtain⟨es,clock,hb,hk,nY,hF⟩:=h.ex;rcases Zm (w:=w) hn hk with⟨h1,h2⟩|⟨j,e0,h1,h2,h3⟩
 ·refine⟨setBlock w b (.map (es.push ⟨.int .i64 n,v,clock⟩) (clock+1)),?_,⟨_,_,heap_setBlock_same hb _,?_,?_,?_⟩,_,rfl,λi hi=>heap_setBlock_other hb _ hi⟩
  ·simp[Instr.mapUpdate,DH ht,KX hb,Gk.check w false (Em hn),h1,MapKept.run_setObj_map _ hb,Result.andThen,setBlock]
  ·intro x hx;simp only[KY,lN,jJ]at hx;rcases hx with hx|rfl
   ·exact hk x hx
   ·exact⟨n,hn,rfl⟩
  ·rw[KY,gJ,SO,List.nodup_append];refine⟨nY,by simp,?_⟩;intro a ha c hc;simp only[jJ]at hc;obtain⟨x,hx,rfl⟩:=ey.1 ha;rw[hc];exact h2 x hx
  ·intro m u;unfold th;by_cases hm:m=n
   ·rw[aD hm];subst hm;constructor
    ·intro e1;cases e1;exact⟨⟨.int .i64 m,v,clock⟩,by rw[KY];simp,rfl,rfl⟩
    ·rintro⟨x,hx,sh,rfl⟩;rw[KY,lN,jJ]at hx;rcases hx with hx|rfl
     ·exact absurd sh (h2 x hx)
     ·rfl
   ·rw[aA hm,hF];constructor
    ·rintro⟨x,hx,sh,rfl⟩;exact⟨x,by rw[KY];simp[hx],sh,rfl⟩
    ·rintro⟨x,hx,sh,rfl⟩;rw[KY,lN,jJ]at hx;rcases hx with hx|rfl
     ·exact⟨x,hx,sh,rfl⟩
     ·simp only[Value.int.injEq,true_and]at sh;exact absurd sh.symm hm
 ·have hj:es[j]?=some e0:=by simpa using h2
  have LI:(es.modify j (λe'=>{e' with key:=.int .i64 n,val:=v})).toList=es.toList.set j {e0 with key:=.int .i64 n,val:=v}:=by rw[Array.toList_modify,Go.ChangeMaps.modify_eq_set _ _ _ _ h2]
  have nh:j<es.toList.length:=(DI.1 h2).1;have other:∀x,x∈es.toList.set j {e0 with key:=.int .i64 n,val:=v}->x={e0 with key:=.int .i64 n,val:=v}\/(x∈es.toList/\x.key≠.int .i64 n):=by
   intro x hx;obtain⟨i,hi,ex⟩:=Cs hx;rw[SP]at ex;split at ex
   ·exact .inl ex.symm
   ·rename_i br;have iF:i<es.toList.length:=by simpa using hi
    refine .inr ⟨ex▸bM iF,λe1=>br ?_⟩;exact aoH nY h2 (by rw[fw iF,ex]) (by rw[h3,e1])
  refine⟨setBlock w b (.map (es.modify j (λe'=>{e' with key:=.int .i64 n,val:=v})) clock),?_,⟨_,_,heap_setBlock_same hb _,?_,?_,?_⟩,_,rfl,λi hi=>heap_setBlock_other hb _ hi⟩
  ·simp[Instr.mapUpdate,DH ht,KX hb,Gk.check w false (Em hn),h1,hj,h3,Gk.stays w (Em hn),MapKept.run_setObj_map _ hb,Result.andThen,setBlock]
  ·intro x hx;rw[LI]at hx;rcases other x hx with rfl|⟨Po,-⟩
   ·exact⟨n,hn,rfl⟩
   ·exact hk x Po
  ·rw[LI,List.map_set];have e1:(es.toList.map (·.key)).set j (.int .i64 n)=es.toList.map (·.key):=by
    rw[<-h3];refine x8 (by simp) λi h4 h5=>?_;rw[SP];split
    ·rename_i e4;subst e4;rw[gj];obtain⟨_,e5⟩:=DI.1 h2;rw[e5]
    ·rfl
   rw[e1];exact nY
  ·intro m u;unfold th;rw[LI];by_cases hm:m=n
   ·rw[aD hm];subst hm;constructor
    ·intro e1;cases e1;exact⟨_,List.mem_set nh _,rfl,rfl⟩
    ·rintro⟨x,hx,sh,rfl⟩;rcases other x hx with rfl|⟨-,br⟩
     ·rfl
     ·exact absurd sh br
   ·rw[aA hm,hF];constructor
    ·rintro⟨x,hx,sh,rfl⟩;obtain⟨i,hi,rfl⟩:=Cs hx;have FX:j≠i:=λe1=>by
      subst e1;obtain⟨_,e5⟩:=DI.1 h2;rw[e5,h3]at sh;simp only[Value.int.injEq,true_and]at sh;exact hm sh.symm
     refine⟨es.toList[i],?_,sh,rfl⟩;have:(es.toList.set j {e0 with key:=.int .i64 n,val:=v})[i]'(by simpa using hi)=es.toList[i]:=List.getElem_set_ne FX _;rw[<-this];exact bM _
    ·rintro⟨x,hx,sh,rfl⟩;rcases other x hx with rfl|⟨Po,-⟩
     ·simp only[Value.int.injEq,true_and]at sh;exact absurd sh.symm hm
     ·exact⟨x,Po,sh,rfl⟩
theorem afp{g:Nat}{l:World}{h:Obj}(e:Below g l w)(o:g<=f):Below g l (setBlock w f h):=by
 refine⟨e.os,e.tape,e.output,by simpa [setBlock] using e.size,λk j=>?_⟩;have:(setBlock w f h).heap[k]?=w.heap[k]?:=by
  unfold setBlock;exact Xt (by omega)
 exact this.trans (e.block k j)
def T4(e:Int):Value:=.iface 231 (.agg #[.int .i64 e])
def Zn(e:Int):List PanicEntry:=[{v:=T4 e,recovered:=false}]
theorem Bl(e:Int)(w:World):
  Calls prog 108 #[true,e] w λd g=>d=.returned (.tuple #[])/\w=g:=by
 go_enter func108,ntmps108;go_wp2;go_end0;exact⟨rfl,rfl⟩
theorem IV(e:Int)(w:World):
  Calls prog 108 #[false,e] w λd g=>d=.panicked (Zn e)/\w=g:=by
 go_enter func108,ntmps108;go_wp2;exact⟨rfl,rfl,rfl⟩
theorem Zo(f h:Nat)(P e:Int)(q:List PanicEntry)(w:World)(L:w.cell? (f,h)=P)(N:w.frozen? (f,h)=false)(M:f<w.heap.size):
  CallsD prog 106 #[(f,h)] (.panicking ({v:=T4 e,recovered:=false}::q)) w λd y g =>
   d=.returned (.tuple #[])/\y=.panicking ({v:=T4 e,recovered:=true}::q)/\g=(w.alloc (.cells #[e] 231)).setCell (f,h) e:=by
 unfold T4;have R:∀w,(Instr.typeAssert (.iface 231 (.agg #[e])) 20 231 true).run prog w=.ok (.tuple #[.agg #[e],true]) w:=λ_=>by kernel_rfl
 have E:Below w w (w.alloc (.cells #[e] 231)):=(aY _ _).alloc (aP _) _;have O:=U E L;obtain⟨o,p⟩:=aK (w.alloc (.cells #[e] 231));have S:o.frozen? (f,h)=false:=by rw[p];simpa [go_sem,M] using N
 have T:o.cell? (w,0)=e:=by rw[p];simp[go_sem]
 rw[<-p]at O ⊢;have I:=A p;clear p E;refine FC func106 rfl λc₀ z G=>?_;simp only[ntmps106,kS,dZ,je,Nat.reduceAdd,Nat.reduceSub,kU,kV,kW,kX,jf,jn];apply zM;apply zN;simp[wpOpsS,go_sem,recoverD,G,Exit.thenS];generalize F:({fn:=c₀.fn,tmps:=c₀.tmps,todo:=c₀.todo,defers:=c₀.defers,mode:=FrameMode.panicking ({v:=Value.iface 231 (Value.agg #[Value.int IntKind.i64 e]),recovered:=true}::q),kind:=c₀.kind,roundOf:=c₀.roundOf}:Frame)=K;have H:=A (show ∀j g,j.defers=[]->g=o.setCell (f,h) e->bodyPostS prog Tryz.f106 c₀ z (λd y g=>d=Ending.returned (Value.tuple #[])/\y=FrameMode.panicking ({v:=Value.iface 231 (Value.agg #[Value.int IntKind.i64 e]),recovered:=true}::q)/\g=o.setCell (f,h) e) .normal j (K::z) g by
  intro j g u x;simp[bodyPostS,results,results106,u,x,<-F])
 clear F G;refine FD ?_;refine wp_mono (Q:=λD j g=>D=.normal/\j.defers=[]/\g=o.setCell (f,h) e) ?_ ?_
 ·go_wp2_with (rw[<-I.1]);all_goals first
   |exact⟨rfl,rfl,rfl⟩
   |trace_state
 ·rintro D j g ⟨rfl,u,x⟩;exact H.1 j g u x
theorem afq(p:Addr)(w:World):
  CallsD prog 106 #[.pointer (some p)] .returning w λd g h=>d=.returned (.tuple #[])/\g=.returning/\h=w:=by
 refine FC func106 rfl λc₀ j e=>?_;apply zM;apply zN;simp[wpOpsS,go_sem,recoverD,e,ntmps106,Exit.thenS];apply zM;apply zN;simp[wpOpsS,go_sem,Exit.thenS];refine wpS_cond (t:=false) (by simp[Act.eval,Array.replicate]) ?_;simp only[FE,Ck];refine FD (wp_skip ?_);cases c₀;simp_all[bodyPostS,results,results106]
def pv(r:Nat)(l:Nat->Fq)(g:Fq):Fq:=sm r (λe=>l e*g^e)
section
variable {B:Program} {s:Array Oper} {Q:Exit->Act->World->Prop}
def Zp(s:Array Oper):Bool:=s.toList.all λe=>match e.op with|.defer _=>false|_=>true
theorem aoI(j:Zp s=true){e:Oper}(o:e∈s.toList):∀c,e.op≠.defer c:=λc h=>by
 have g:=fg.1 j e o;rw[h]at g;cases g
theorem aoJ{q b:Nat}{g:String}{args:Array Value}{w:World}{e:Value->World->Prop}(j:Rows B g args w e):RowsIn (Fence.wide.inRound q) b B g args w e:=
 λc h _=>let ⟨o,p,d,u⟩:=j c h;⟨o,p,d,stepsIn_wide.2 u⟩
theorem aoK{p b:Nat}{o:Oper}{l:Act}{j:Act->World->Prop}:∀{d:Result Go.Next},o.upon B l j Q d->o.uponIn (Fence.wide.inRound p) b B l j Q d
 |.ok h w,e=>by
  cases h with
  |enter q args=>exact⟨λg=>by simp[Fence.wide,Fence.inRound]at g,CallsIn.inRound p (Dz.2 e)⟩
  |row d args=>exact⟨λg=>by simp[Fence.wide,Fence.inRound]at g,aoJ e⟩
  |round _ _ _ _ _=>exact e.elim
  |_=>exact e
 |.halt h w,e=>by
  cases h<;>exact e
theorem aoL{o b:Nat}{e:Oper}{l:Act}{w:World}{g:Act->World->Prop}(j:∀c,e.op≠.defer c)(h:e.wp B l w g Q):e.wpIn (Fence.wide.inRound o) b B l w g Q:=by
 refine⟨λ_ _=>trivial,?_⟩;rw[N2 _ _ _ j];exact aoK h
theorem T5{H b:Nat}{v:Region.Mode}(o:Zp s=true)(j:¬ LetsOut Q):∀(g:Nat) (u:Array Bool) (l:Act) (w:World),wpAny B v s Q g u l w->wpAnyIn (Fence.wide.inRound H) b B v s Q g u l w
 |0,_,_,_,h=>h
 |g+1,u,l,w,h=>⟨h.1,λi D=>by
  have e:=h.2 i D;unfold wpOp at e;unfold wpOpIn;cases p:s[i]? with
  |none=>rw[p]at e;exact T5 o j g _ _ _ e
  |some F =>
   rw[p]at e;have E:∀c,F.op≠.defer c:=aoI o (by
    obtain⟨y,rfl⟩:=fF.1 p;exact Xr y)
   simp only at e ⊢;split
   ·rename_i q;rw[aD q]at e;rcases e with e|e
    ·exact Oper.wpIn_mono (λx G z=>T5 o j g _ x G z) (aoL E e)
    ·exact absurd e.2 j
   ·rename_i q;rw[aA q]at e;exact⟨λ_ _=>trivial,T5 o j g _ _ _ e⟩⟩
theorem Zq{id D b:Nat}{e:Act}{w:World}(x:Zp s=true)(q:¬ LetsOut Q)(g:(Nat->Bool)->(Nat->Value)->World->Prop)
  (p:∀h,g (λ_=>false) h w.drew) (z:OX B s Q e g s.toList 0)
  (j:∀(h:Nat->Value) (w:World),g (λk=>decide (k<s.size)) h w->Q .normal (jG h s.toList 0 e) w) (u:B.follows .mixedOrders=true:=by kernel_rfl) (y:um s.toList=true:=by kernel_rfl) (o:YK s e.tmps.size=true:=by kernel_rfl) (v:Lx s=true:=by kernel_rfl):(Code.region id s true).wpIn (Fence.wide.inRound D) b B Q e w:=
 wpIn_region_any u (T5 x q _ _ _ _ (aey y o v g p z j))
end
