/- Dealing: the examples, reckoned; calls whose values are known. -/
import Derived.Test.YtaifagjclanodaaGreatDoorMDeaD
import Derived.Lib.SmallJoins
set_option maxHeartbeats 2000000
set_option maxRecDepth 100000
namespace Go.Proofs.YtaifagjclanodaaGreatDoor
open Go.Proofs.Tryz
open Go.RowKit FP
variable{d i:Int}{k:Nat}{h:World}{j f c e:V}{a:ak}{b:bF}
theorem aq2{g q:Nat}{p:Int}(w:h.cell? (g,0)=i)(r:h.cell? (g,1)=p)(u:aN i)(v:aN p)(s:2<=q):aM h (.slice (g,0) 2 q) [i,p]:=
 ⟨_,q,rfl,s,by simp,by simp[u,v],λk t=>⟨g,0,rfl,by
  match k,t with
  |0,_=>exact w
  |1,_=>exact r⟩⟩
def Words(h:World)(t:Value)(b:V):Prop:=
 ∃r g,t=.slice r b.length g/\b.length<=g/\b.length<=1000000000000000/\(∀q∈b,0<=q/\q<4294967296) /\
  ∀k (u:k<b.length),∃s p,r=some ⟨s,p,none⟩/\h.cell? ⟨s,p+k,none⟩=some (.int .u32 b[k])
theorem Words.below{w':World}{g:Value}{b:V}(B:Words h g b)(s:Below h h w'):Words w' g b:=by
 obtain⟨y,q,rfl,t,v,w,u⟩:=B;refine⟨y,q,rfl,t,v,w,λk p=>?_⟩;obtain⟨z,x,ha,r⟩:=u k p;exact⟨z,x,ha,U s r⟩
theorem Words.nil(h:World)(p:Option Addr)(g:Nat):Words h (.slice p 0 g) []:=
 ⟨p,g,rfl,bS _,by simp,by simp,λk q=>absurd q (fG _)⟩
def Aq(a:ak)(f:V):Bool:=decide (a.length<=16)&&(decide (bH a f=0)&&decide (bh a<=16))
theorem Mh(t s:Value)(a:ak)(f:V)(h:World)(r:bI h t a)(B:aM h s f):
  Calls prog 27 #[.agg #[t,s]] h λL H=>L=.returned (bh a:Int)/\Below h h H:=by
 obtain⟨E,u,q,v,S⟩:=ee h t s 25;have G:=A (r.below q);obtain⟨K,F,rfl,-,R,-⟩:=id r;obtain⟨M,Q,rfl,-,X,-⟩:=id B;have O:E.cell? (h,0)=some (.slice K a.length F):=F8 v rfl;obtain⟨w,x⟩:=aR u q;clear r B v u q;by_cases g:a.length=0
 ·have p:=A (show bh a=1 by unfold bh;rw[aD g]);have I:((a.length:Int)==0)=true:=by rw[g];rfl
  clear g;go_enter func27,ntmps27;go_wp2_with fail;go_ret;exact⟨fL (by rw[p.1];rfl),w.1▸x.1⟩
 ·have p:=A (show bh a=wide a by unfold bh;rw[aA g]);have I:((a.length:Int)==0)=false:=eH.2 (by omega);obtain⟨N,P,y,-,-,C⟩:=G.1;obtain⟨z1z,W,Z,ha,D,z⟩:=C 0 (by omega);simp only[dr]at y;obtain⟨rfl,-,rfl⟩:=y;subst ha;rw[rF]at D;obtain⟨ra,rc,rfl,-⟩:=id z;rw[A7 a (by omega)]at D;have T:(0:Int)<(a.length:Int):=by omega
  clear C z g;generalize wide a=z3z at *;go_enter func27,ntmps27;go_wp2_with (rw[<-w.1]);go_ret;exact⟨fL (by rw[p.1]),x.1⟩
theorem aq3(u t:Value)(a:ak)(f:V)(h:World)(C:bI h u a)(B:aM h t f):
  Calls prog 23 #[.agg #[u,t]] h λz1z X=>z1z=.returned (.bool (Aq a f))/\Below h h X:=by
 obtain⟨v,E,s,w,hz⟩:=ee h u t 25;obtain⟨H,K⟩:=aR (C.below s) (B.below s);have z:=A (amZ u t a f v H.1 K.1);obtain⟨M,F,rfl,-,hlen,-⟩:=id C;obtain⟨D,G,rfl,-,qF,-⟩:=id B;have P:v.cell? (h,0)=some (.slice M a.length F):=F8 w rfl;have Q:v.cell? (h,1)=some (.slice D f.length G):=Y w rfl;obtain⟨x,y⟩:=aR E s;clear C B w E s;by_cases r:a.length<=16
 ·have z0:decide ((a.length:Int)<=16)=true:=bB (by omega);by_cases p:bH a f=0
  ·have q:Hid (Aq a f=decide (bh a<=16)):=A (by unfold Aq;rw[bB r,bB p];rfl);have IN:=(fs p).cols_le;have N:=A (λh W I=>Mh (.slice M a.length F) (.slice D f.length G) a f h W I);rw[p]at z;clear p r;generalize bh a=cq at *;go_enter func23,ntmps23;go_wp2_with fail;rw[<-x.1];refine z.1.mono ?_;rintro L Z ⟨rfl,g⟩;have d0:=U g P;have d1:=U g Q;obtain⟨S,R,T⟩:=bJ (H.1.below g) (K.1.below g) (ar y.1 g);clear g;go_wp2_with fail;refine(N.1 _ S.1 R.1).mono ?_;rintro L w3 ⟨rfl,O⟩;go_wp2_with fail;go_ret;exact⟨cg (by rw[q.1];simp;omega),ar T.1 O⟩
  ·have q:Hid (Aq a f=false):=A (by unfold Aq;rw[bw p,uP,KU]);have I:(bH a f==0)=false:=eH.2 p;clear p r;go_enter func23,ntmps23;go_wp2_with fail;rw[<-x.1];refine z.1.mono ?_;rintro L Z ⟨rfl,g⟩;go_wp2_with fail;go_ret;exact⟨cg q.1.symm,ar y.1 g⟩
 ·have q:Hid (Aq a f=false):=A (by unfold Aq;rw[bw r,uP]);have z0:decide ((a.length:Int)<=16)=false:=bw (by omega);clear r;go_enter func23,ntmps23;go_wp2_with fail;go_ret;exact⟨cg q.1.symm,x.1▸y.1⟩
theorem EN{g:Int->Int}{b:V}(p:k<b.length):J (b.map g) k=g (J b k):=by
 rw[di (by simpa using p),di p,gj]
theorem aaw(d e:V):∀g,g<=e.length->Bn d (bt e) g=bm 4 (lR d e g)
 |0,_=>by show(1:Int)=bm 4 0;rw[Pj]
 |g+1,p=>by
  show Bn d (bt e) g*bm (J (bt e) g) (J d g)%2147483579=bm 4 ((lR d e g+J d g*J e g%1073741789)%1073741789);rw[aaw d e g (by omega),show J (bt e) g=bm 4 (J e g) from EN (by omega),Gg fO,<-Ei fO];refine TR ?_;rw[Hz (J e g) (J d g)];generalize J d g*J e g=q;omega
theorem P9(g:dU a f i j)(q:bH a f=0):LM a f (bt (i::j)):=
 ⟨g.prog,q,by simp[bt,<-g.len],λs p=>by
  obtain⟨r,-,rfl⟩:=ey.1 p;exact fJ fO r⟩
theorem Jn(q:dU a f i j)(v:bH a f=0)(s:k<a.length){g:Int}(x:0<=g/\g<1073741789):
  j9 a f (bt (i::j)) k g=0/\ke a f (bt (i::j)) k g=decide (g=cz (a.getD k []) (i::j)):=by
 have r:j9 a f (bt (i::j)) k g=0:=by
  unfold j9;rw[LN (P9 q v),aA (by simp),aD (CL.2 ⟨⟨by omega,by omega⟩,x⟩)]
 refine⟨r,?_⟩;have w:=q.prog.row s;have u:(i::j).length=bh a:=by rw[dZ];exact q.len
 unfold ke;rw[aD r,AZ];unfold CK cz;rw[aaw _ _ _ (by simp[bt]),dp s,w,show(bt (i::j)).length=bh a by rw[<-u];simp[bt]];have hn:=TI a[k] (i::j) (bh a);generalize lR a[k] (i::j) (bh a)=y at *;by_cases p:g=y
 ·subst p;simp
 ·rw[bw p];refine eH.2 λt=>p ?_;have:=aeZ fO ae8 t;omega
theorem EO(g:Aq a f=true):a.length<=16/\bH a f=0/\bh a<=16:=by
 unfold Aq at g;simpa using g
theorem agv(p:dU a f i j)(q:bH a f=0):mo a f i j=0:=by
 unfold mo;rw[aA (by simp[q]),aA];rw[IX p.hx,Pq p.hr];rintro(g|g|g)
 ·cases g
 ·cases g
 ·exact g p.len
theorem ju(a:ak)(e:V):(bV a e).length=a.length:=by simp[bV]
theorem GI(a:ak)(e:V)(p:k<(bV a e).length):(bV a e)[k]=((k:Int),cz (a.getD k []) e):=by
 have g:=ju a e;show((List.range a.length).map (lV a e))[k]'(by simp;omega)=_;rw[gj,Ct];rfl
def fQ(a:ak)(g:V):Bool:=!g.any j8&&decide (g.length=bh a)
theorem Qa{g:V}(p:bH a f=0):jQ a f g=if fQ a g=true then 0 else 340:=by
 unfold jQ fQ;rw[aA (by simp[p])];by_cases q:g.length=bh a<;>cases r:g.any j8<;>simp[q]
def aax(p q:V)(g:Nat):Int:=(J p g+J q g)%1073741789
def kH(g p:V):V:=(List.range g.length).map (aax g p)
theorem EP(g p:V):(kH g p).length=g.length:=by simp[kH]
theorem agw{g p:V}(q:k<g.length):J (kH g p) k=(J g k+J p k)%1073741789:=by
 rw[di (by rw[EP];exact q)];simp[kH,aax]
theorem agx(d e g:V):∀k,k<=e.length->lR d (kH e g) k=(lR d e k+lR d g k)%1073741789
 |0,_=>rfl
 |k+1,q=>by
  show(lR d (kH e g) k+J d k*J (kH e g) k%1073741789)%1073741789=((lR d e k+J d k*J e k%1073741789)%1073741789+(lR d g k+J d k*J g k%1073741789)%1073741789)%1073741789;rw[agx d e g k (by omega),agw (by omega)];have p:J d k*((J e k+J g k)%1073741789)%1073741789=(J d k*J e k+J d k*J g k)%1073741789:=by
   rw[<-Int.mul_add,lO,Hx,<-lO]
  rw[p];generalize J d k*J e k=i;generalize J d k*J g k=r;omega
theorem aay{p g:Nat}(q:g<p):cv (gL p) g=if g=0 then 1 else 0:=by
 unfold cv gL;rw[IU _ _ q];unfold Gs;split
 ·exact Pb
 ·exact se
theorem aaz(q:∀z∈e,0<=z/\z<1073741789)(p:Nat):0<=J e p/\J e p<1073741789:=by
 by_cases g:p<e.length
 ·rw[di g];exact q _ (bM g)
 ·rw[TH g];omega
theorem aq4(t:lU a f)(D:jk a (-1) b=true)(y:Aj a b=true)
  (hn:∀z∈e,0<=z/\z<1073741789) (G:∀p∈b,p.2=cz (a.getD p.1.toNat []) e):cz (Pu a b) (uw b)=J e 0:=by
 have u:=Zy t D;have w:=Zk u (LU _) y;have v:(rowsOf a b).length=b.length:=by simp[rowsOf]
 have H:=t.cols;refine LC (n6 _ _) (aaz hn 0) ?_;rw[IT];unfold Pu;rw[Pn,v];have B:∀g,g<b.length->cv (uw b) g=dt (bh a) (fm (rowsOf a b) g) (cv e):=λg q=>by
  have x:g<(rowsOf a b).length:=by omega
  have C:(rowsOf a b)[g]=a.getD b[g].1.toNat []:=by simp[rowsOf]
  have s:=u.len _ (bM x);rw[Gt]at s;show cq (J (uw b) g)=_;rw[afE q,G _ (bM q),<-C,IT,s];exact Ge (λr _=>(TZ _ x r).symm) (λ_ _=>rfl)
 rw[Gt]at w;show dt b.length (cv (fy (rowsOf a b) (gL (bh a)))) (cv (uw b))=cq (J e 0);rw[Ge (λ_ _=>rfl) B];show sm b.length (λg=>cv (fy (rowsOf a b) (gL (bh a))) g*dt (bh a) (fm (rowsOf a b) g) (cv e))=_;rw[<-aeG];rw[Ge (m:=cv (gL (bh a))) (o:=cv e) (λr F=>by rw[w r F,v]) (λ_ _=>rfl)];unfold dt;rw[LD (k:=0) (by omega) (λg q E=>by rw[aay q,aA E];grind),aay (by omega),aD rfl];show 1*cq (J e 0)=_;grind
theorem agy{p:Int×Int}(q:p∈bV a e):∃k:Nat,k<a.length/\p=((k:Int),cz (a.getD k []) e):=by
 obtain⟨k,g,rfl⟩:=ey.1 q;exact⟨k,dT.1 g,rfl⟩
theorem agz:∀(b:bF) (g:Int),(∀p∈b,jR a p.1 p.2=true)->(∀p∈b,g<p.1)->b.Pairwise (λx y=>x.1<y.1)->jk a g b=true
 |[],_,_,_,_=>rfl
 |p::b,g,q,r,s=>by
  unfold jk;rw[q p (by simp),bB (r p (by simp)),jY,jY];obtain⟨t,u⟩:=List.pairwise_cons.1 s;exact agz b p.1 (λw v=>q w (by simp[v])) t u
theorem aaA{p:Int×Int}(g:p∈bV a e):jR a p.1 p.2=true/\-1<p.1/\p.2=cz (a.getD p.1.toNat []) e:=by
 obtain⟨k,q,rfl⟩:=agy g;refine⟨CL.2 ⟨⟨by omega,by omega⟩,n6 _ _⟩,by show(-1:Int)<(k:Int);omega,?_⟩;show _=cz (a.getD (k:Int).toNat []) e;rw[AZ]
theorem aq5(a:ak)(e:V):(bV a e).Pairwise (λg p=>g.1<p.1):=by
 unfold bV;rw[Sy];refine List.pairwise_lt_range.imp λ{g p} q=>?_;show(g:Int)<(p:Int);omega
theorem agA(p:b.Sublist (bV a e)):jk a (-1) b=true:=
 agz b (-1) (λ_ g=>(aaA (p.subset g)).1) (λ_ g=>(aaA (p.subset g)).2.1) ((aq5 a e).sublist p)
theorem agB(p:bH a f=0)(g:jk a (-1) b=true):Ai a f b=0:=by
 unfold Ai;rw[aA (by simp[p]),aD g]
theorem agC(p:bH a f=0)(g:jk a (-1) b=true):vq a f b=Aj a b:=by
 unfold vq;rw[agB p g];simp
theorem aq6(p:bH a f=0)(hn:∀z∈e,0<=z/\z<1073741789)(q:b.Sublist (bV a e)):
  Ai a f b=0/\vq a f b=Aj a b/\yF a f b=(if Aj a b=true then J e 0 else 0):=by
 have g:=agA q;refine⟨agB p g,agC p g,?_⟩;unfold yF;rw[agC p g];split
 ·rename_i r;exact aq4 (fs p) g r hn (λt s=>(aaA (q.subset s)).2.2)
 ·rfl
theorem agD{p:V}(q:lU a f)(c:e.length=bh a)(k:Nat)(g:k<a.length):
  cz (a.getD k []) (kH e p)=(cz (a.getD k []) e+cz (a.getD k []) p)%1073741789:=by
 unfold cz;rw[agx _ _ _ _ (by rw[dp g,q.row g];omega)]
theorem aq7{p:V}(g:k<e.length)(q:p.length=e.length):J (bt (kH e p)) k=J (bt e) k*J (bt p) k%2147483579:=by
 unfold bt;rw[EN (by rw[EP];exact g),EN g,EN (by omega),agw g,aeY,Ei fO]
theorem agE(i q:Int)(g p:V):kH (i::g) (q::p)=(i+q)%1073741789::kH g p:=by
 unfold kH;rw[dZ,List.range_succ_eq_map,zQ,mD];rfl
theorem UN(p q:V):∀z∈kH p q,0<=z/\z<1073741789:=λz g=>by
 obtain⟨r,-,rfl⟩:=ey.1 g;unfold aax;omega
def gq(b:V):Int:=b.foldl (λg i=>(g+i)%1073741789) 0
theorem aaB(b:V)(i:Int):gq (b++[i])=(gq b+i)%1073741789:=by unfold gq;rw[DC];rfl
theorem agF(b:V)(g:k<b.length):gq (b.take (k+1))=(gq (b.take k)+b[k])%1073741789:=by
 rw[jv g,aaB]
theorem C2(b:V):0<=gq b/\gq b<1073741789:=by
 rcases Xo b with rfl|⟨g,i,rfl⟩
 ·decide
 ·rw[Xp,aaB];omega
theorem agG(b:V):∀k,k<=b.length->cq (gq (b.take k))=sm k (λg=>cv b g)
 |0,_=>by rw[KS];exact se
 |k+1,p=>by
  rw[agF b (by omega),nX,vd,agG b k (by omega)];show _+_=sm k _+cq (J b k);rw[di (show k<b.length by omega)]
theorem agH(b:V):cq (gq b)=sm b.length (λp=>cv b p):=by
 have g:=agG b b.length (aP _);rwa [m9]at g
def qX(c:V):bF:=c.map λg=>(g,0)
theorem aaC(c:V):(qX c).length=c.length:=by simp[qX]
theorem UO(c:V)(k:Nat):(qX c).take k=qX (c.take k):=by unfold qX;rw[List.map_take]
theorem agI(c:V)(k:Nat)(p:k<c.length)(g:k<(qX c).length):(qX c)[k]=(c[k],0):=by simp[qX]
def iU(a:ak)(d:Int)(c:V):Bool:=jk a (-1) (qX c)&&c.all λg=>decide (g≠d)
def og(c:V):Int:=mS (-1) (qX c)
def xi(q:Nat)(d p g:Int):Bool:=decide (p<g)&&(decide (g<(q:Int))&&decide (g≠d))
theorem agJ(g:iU a d c=true):-1<=og c:=by
 unfold iU at g;rw[cu]at g;rcases Xo c with rfl|⟨r,i,rfl⟩
 ·decide
 ·have p:=(LR g.1).1 (i,0) (by simp[qX]);have q:=(CL.1 p).1;have s:og (r.concat i)=i:=by unfold og qX;rw[Xp,gJ];exact afG _ _ _
  rw[s];simp only at q;omega
theorem aq8(p:k<c.length):og (c.take (k+1))=c[k]:=by
 have g:k<(qX c).length:=by rw[aaC];exact p
 unfold og;rw[<-UO,Ub g,agI c k p g]
theorem UP(p:k<c.length)(g:iU a d (c.take k)=true):iU a d (c.take (k+1))=xi a.length d (og (c.take k)) c[k]:=by
 have u:=agJ g;have r:k<(qX c).length:=by rw[aaC];exact p
 unfold iU at g ⊢;rw[cu]at g;rw[<-UO]at g ⊢;rw[Zx r,g.1,jv p,List.all_append,g.2,agI c k p r,UO];have t:jR a c[k] 0=(decide (0<=c[k])&&decide (c[k]<(a.length:Int))):=by unfold jR;rw[show cM 0=false by decide];simp
 rw[t];show(_&&((decide (0<=c[k])&&decide (c[k]<(a.length:Int)))&&decide (og (c.take k)<c[k]))&&_)=_;unfold xi;by_cases q:og (c.take k)<c[k]
 ·have s:0<=c[k]:=by omega
  simp[s,q]
 ·simp[q]
theorem agK(p:iU a d (c.take k)=false):iU a d c=false:=by
 cases g:iU a d c with
 |false=>rfl
 |true =>
  unfold iU at g p;rw[cu]at g;rw[<-UO,Uc g.1]at p;have r:((c.take k).all λq=>decide (q≠d))=true:=fg.2 λq s=>fg.1 g.2 q (FM s);rw[r]at p;cases p
theorem aaD(p:iU a d c=true):∀g∈c,(0<=g/\g<(a.length:Int))/\g≠d:=λg q=>by
 unfold iU at p;rw[cu]at p;have r:=(LR p.1).1 (g,0) (ey.2 ⟨g,q,rfl⟩);exact⟨(CL.1 r).1,Cp (fg.1 p.2 g q)⟩
def gV(a:ak)(c:V):ak:=rowsOf a (qX c)
theorem C3(a:ak)(c:V):(gV a c).length=c.length:=by unfold gV rowsOf;rw[dy,aaC]
theorem agL(a:ak)(c:V)(p:k<c.length)(g:k<(gV a c).length):(gV a c)[k]=a.getD c[k].toNat []:=by
 simp only[gV,rowsOf,gj,qX]
theorem UQ(p:lU a f)(g:iU a d c=true):uY (gV a c) (bh a):=by
 unfold iU at g;rw[cu]at g;have:=Zy p g.1;rwa [Gt]at this
theorem aq9(p:lU a f)(q:iU a d c=true):c.length<=64:=by
 have g:=(UQ p q).few;rwa [C3]at g
theorem aaE(p:lU a f)(q:0<=d/\d<(a.length:Int)):(a.getD d.toNat []).length=bh a/\∀z∈a.getD d.toNat [],0<=z/\z<1073741789:=by
 have g:d.toNat<a.length:=by omega
 rw[dp g];exact⟨p.row g,p.right.num _ (bM g)⟩
def yP(a:ak)(f:V)(d:Int)(c:V):Int:=
 if bH a f≠0 then bH a f else if (0<=d/\d<(a.length:Int))/\iU a d c=true then 0 else 1
def ER(a:ak)(f:V)(d:Int)(c:V):Bool:=decide (yP a f d c=0)&&mR (gV a c) (a.getD d.toNat [])
def Jo(a:ak)(f:V)(d:Int)(c:V):V:=if ER a f d c=true then fy (gV a c) (a.getD d.toNat []) else []
structure agM(a:ak)(f:V)(d:Int)(c:V):Prop where
 prog:lU a f
 inr:0<=d/\d<(a.length:Int)
 help:iU a d c=true
def vD(r p q:Int)(g:V):Int:=if cM r=true\/64<g.length\/g.any cM=true then 1 else if p<0\/64<=p\/cM q=true then 340 else 0
def GJ(q r p:Int)(g:V):Int:=if vD q r p g=0 then (q*p%1073741789+gq g)%1073741789 else 0
def yQ(a:ak)(f g:V)(d:Int)(parts:V):Int:=
 if iQ a f g d≠0 then iQ a f g d else if 64<parts.length\/parts.any cM=true then 1 else 0
def tB(a:ak)(f g:V)(d:Int)(parts:V):Bool:=decide (yQ a f g d parts=0)&&ke a f g d (gq parts)
def Jp(a:ak)(f g:V)(d:Int)(parts:V):Int:=if tB a f g d parts=true then d else 0
def GK(a:ak)(f g:V)(d:Int)(parts:V):Int:=if tB a f g d parts=true then gq parts else 0
def BE(p:Nat)(g:V)(k:Nat)(q:V):Int:=if k+1=p then (1073741789-gq q)%1073741789 else J g k
def ki(p:Nat)(g:V):Nat->V
 |0=>[]
 |k+1=>ki p g k++[BE p g k (ki p g k)]
theorem UR(p:Nat)(g:V):∀k,(ki p g k).length=k
 |0=>rfl
 |k+1=>by show(_++[_]).length=_;rw[fu,UR p g k];rfl
theorem ara(p:Nat)(g:V)(r:∀z∈g,0<=z/\z<1073741789)(k:Nat)(q:V):0<=BE p g k q/\BE p g k q<1073741789:=by
 unfold BE;split
 ·omega
 ·exact aaz r k
theorem agN(q:Nat)(g:V)(s:∀z∈g,0<=z/\z<1073741789):∀k,∀z∈ki q g k,0<=z/\z<1073741789
 |0,z,p=>by cases p
 |k+1,z,p=>by
  rcases lN.1 p with r|r
  ·exact agN q g s k z r
  ·rw[jJ.1 r];exact ara q g s k _
theorem arb(q:Nat)(p:V):gq (ki q p q)=0:=by
 cases q with
 |zero=>rfl
 |succ g =>
  show gq (ki (g+1) p g++[_])=0;rw[aaB];unfold BE;rw[aD rfl];have:=C2 (ki (g+1) p g);omega
def py(r q p:V)(s:Nat):V:=(List.range s).map λg=>(J r g*J q g%1073741789+J p g)%1073741789
theorem Qb(r q p:V)(g:Nat):(py r q p g).length=g:=by simp[py]
theorem arc(r q p:V)(g:Nat):py r q p (g+1)=py r q p g++[(J r g*J q g%1073741789+J p g)%1073741789]:=by
 unfold py;rw[sP,gJ];rfl
theorem aaF(r q p:V)(s:Nat):∀z∈py r q p s,0<=z/\z<1073741789:=λz g=>by
 obtain⟨t,-,rfl⟩:=ey.1 g;omega
theorem ard(s r q:V){p g:Nat}(t:g<p):cv (py s r q p) g=cv s g*cv r g+cv q g:=by
 show cq (J (py s r q p) g)=_;unfold py;rw[IU p _ t,nX,vd,nX,wM];rfl
theorem are(s r q:V)(t:Nat)(x:q.length=t)(v:gq q=0):cq (gq (py s r q t))=sm t (λp=>cv s p*cv r p):=by
 rw[agH,Qb,iJ (g:=λp=>cv s p*cv r p+cv q p) (λp w=>ard s r q w),Ed];have u:=agH q;rw[x,v,se]at u;rw[<-u];grind
def yR(a:ak)(e c:V):V:=c.map λg=>cz (a.getD g.toNat []) e
theorem arf{t:V}(q:agM a f d c)(v:mR (gV a c) (a.getD d.toNat [])=true)(C:t.length=c.length)(y:gq t=0):
  gq (py (fy (gV a c) (a.getD d.toNat [])) (yR a e c) t c.length)=cz (a.getD d.toNat []) e:=by
 refine LC (C2 _) (n6 _ _) ?_;obtain⟨B,hn⟩:=aaE q.prog q.inr;have r:=UQ q.prog q.help;rw[<-B]at r;have D:=Zk r hn v;rw[are _ _ _ _ C y,IT];rw[Ge (m:=λp=>sm (gV a c).length (λg=>cv (fy (gV a c) (a.getD d.toNat [])) g*fm (gV a c) g p)) (o:=cv e) (λp z=>D p z) (λ_ _=>rfl),aeG,C3];refine iJ λg s=>?_;have u:g<(gV a c).length:=by rw[C3];exact s
 have w:=r.len _ (bM u);have x:cv (yR a e c) g=dt (a.getD d.toNat []).length (fm (gV a c) g) (cv e):=by
  show cq (J (yR a e c) g)=_;rw[show J (yR a e c) g=cz (gV a c)[g] e by
   rw[agL a c s u];unfold yR J;rw[tY,fw s];rfl]
  rw[IT,w];exact Ge (λp _=>(TZ _ u p).symm) (λ_ _=>rfl)
 rw[x]
def sD(b:V):Bool:=decide (b.length<=64)&&!b.any cM
theorem agO{b:V}(g:sD b=true):b.length<=64/\∀z∈b,0<=z/\z<1073741789:=by
 unfold sD at g;rw[cu,fU,FL]at g;exact⟨g.1,Zs g.2⟩
theorem US{b:V}:sD b=false↔(64<b.length\/b.any cM=true):=by
 unfold sD;by_cases g:b.length<=64
 ·rw[bB g];cases b.any cM<;>simp<;>omega
 ·rw[bw g];simp;omega
theorem Qc(z:Int)(h:World):Calls prog 103 #[z] h λp q=>p=.returned (.bool (!cM z))/\h=q:=by
 by_cases r:0<=z
 ·have m:=A (show(!cM z)=decide (z<1073741789) by
   unfold cM;rw[bw (show ¬ z<0 by omega),DB];by_cases g:z<1073741789
   ·rw[bB g,bw (show ¬ 1073741789<=z by omega)];rfl
   ·rw[bw g,bB (show 1073741789<=z by omega)];rfl)
  go_enter func103,ntmps103;go_wp2_with fail;go_ret;exact⟨cg m.1.symm,rfl⟩
 ·have m:=A (show(!cM z)=false by unfold cM;rw[bB (show z<0 by omega)];rfl);go_enter func103,ntmps103;go_wp2_with fail;go_ret;exact⟨cg m.1.symm,rfl⟩
theorem arh(g:Nat)(z:Int)(h:World)(r:h.cell? (g,0)=some (.func (.func 103) #[] #[])):
  Calls prog 168 #[z,(g,0)] h λp q=>p=.returned (.bool (cM z))/\h=q:=by
 go_enter func168,ntmps168;go_wp2_with fail;with_reducible refine(Qc z _).mono ?_
 rintro p s ⟨rfl,rfl⟩;go_wp2_with fail;go_ret;exact⟨by simp,rfl⟩
theorem ari:eQ prog 168:=iw func168 (by kernel_rfl) rfl
theorem UT(u:Value)(b:V)(h:World)(t:aM h u b):
  Calls prog 104 #[u,.func (.func 103) #[] #[]] h λH v=>H=.returned (.bool (sD b))/\Below h.heap.size h v:=by
 obtain⟨g,p⟩:=aK (h.alloc (.cells #[.func (.func 103) #[] #[]] 131));have s:Below h.heap.size h g:=p▸bk _ _ _;have D:g.cell? ⟨h.heap.size,0,none⟩=some (.func (.func 103) #[] #[]):=by rw[p];exact Y (World.alloc_heap_new _ _) rfl
 have C:Hid (yl 168 #[.pointer (some ⟨h.heap.size,0,none⟩)] g cM b):=A λI _ v G=>(arh h.heap.size I v (U G D)).mono λ_ _ ⟨K,z⟩=>⟨K,z▸aY _ _⟩;have B:=A (wx 168 #[.pointer (some ⟨h.heap.size,0,none⟩)] cM u b g (t.below s) ari C.1);obtain⟨N,L,rfl,-,-,-⟩:=id t;obtain⟨x,y⟩:=aR p s;clear t p s;by_cases q:b.length<=64
 ·have E:decide ((b.length:Int)<=64)=true:=bB (by omega);have r:Hid (sD b=!b.any cM):=A (by unfold sD;rw[bB q,jY]);clear q;go_enter func104,ntmps104;go_wp2_with (rw[<-x.1]);refine(B.1).mono ?_;rintro z M ⟨rfl,w⟩;have F:=A (ar y.1 w);clear w;go_wp2_with fail;go_ret;exact⟨cg r.1.symm,F.1⟩
 ·have E:decide ((b.length:Int)<=64)=false:=bw (by omega);have r:Hid (sD b=false):=A (by unfold sD;rw[bw q,uP]);clear q;go_enter func104,ntmps104;go_wp2_with (rw[<-x.1]);go_ret;exact⟨cg r.1.symm,y.1⟩
theorem aaG(w:Value)(b:V)(h:World)(q:aM h w b)(hn:∀z∈b,0<=z/\z<1073741789):
  Calls prog 105 #[w] h λE F=>E=.returned (gq b:Int)/\h=F:=by
 obtain⟨x,y⟩:=aR (λk (C:k<b.length)=>q.get C) hn;obtain⟨Q,H,rfl,-,K,-,-⟩:=id q;clear q hn;go_enter func105,ntmps105;go_wp2_with fail;go_loopw[2,7] (λG r l=>∃k:Nat,k<=b.length/\r=k/\G=(gq (b.take k):Int)/\l=h) (λ_ r _=>b.length-(intOf r).toNat);case atStart=>exact⟨0,bS _,rfl,rfl,rfl⟩
 case round =>
  obtain⟨k,I,rfl,rfl,rfl⟩:=hrel;by_cases g:k<b.length
  ·obtain⟨-,R,P,O,N,t,v⟩:=x.1 k g;simp only[dr]at t;obtain⟨rfl,-,-⟩:=t;have L:(0:Int)<=(k:Int):=by omega
   have M:(k:Int)<(b.length:Int):=by omega
   rw[di g]at v;have p:=A (agF b g);have D:=y.1 _ (bM g);have c:=C2 (b.take k);obtain⟨i,u⟩:=aK (b[k]);obtain⟨e,s⟩:=aK (gq (b.take k));rw[<-u]at v D p;rw[<-s]at c p ⊢;clear u s;go_wp2_with fail;go_roundw;case rel=>exact⟨k+1,by omega,by go_num,by rw[p.1],by trivial⟩
   case measure=>simp[intOf];omega
  ·have B:=A (show gq (b.take k)=gq b by rw[zJ (by omega)]);go_wp2_with fail;go_ret;exact⟨fL B.1,rfl⟩
open Go.ChangeShapes Go.WideShapes Go.ChangeAt Go.Deep Go.Joins
theorem wf_u32{g:Int}(p:(Lit.int .u32 g).wf=true):0<=g/\g<4294967296:=by
 simp[Lit.wf,IntKind.min,IntKind.max,IntKind.signed,IntKind.bits]at p;omega
theorem arj:prog.cellsOf 143 = 1:=by kernel_rfl
theorem ark:prog.bytesOf 143 = 4:=by kernel_rfl
theorem arl:prog.cellsOf 25 = 2:=by kernel_rfl
section
variable {m:Type} {n:TypeId×Value->m} {l:World} {o:Nat}
theorem arn{s:Value}{y:DataW m}{I:List MemPlace}(c:∃r Q O,s=.slice r Q O)(P:DataW.Trod n prog l 0 (λ_=>true) true 27 s y I)(G:IK 27 y):∃g,Words l s g:=by
 obtain⟨T,q,u,rfl⟩:=c;obtain⟨W,E⟩:=P;rcases open_ints underlying27 underlying143 arj E with⟨p,-⟩|⟨r,S,ue,g,p,-,H,Z,x,w,t,z⟩
 ·simp[Value.cells]at p;obtain⟨rfl,rfl,rfl⟩:=p;exact⟨[],Words.nil _ _ _⟩
 ·simp[Value.cells]at p;obtain⟨rfl,rfl,rfl⟩:=p;simp only[if_true]at x;simp only[pN]at w;have X:u<=35184372088832:=by
   have:=G ((g.take q).length+(g.drop q).length |>.mul 4) (by
    rw[w.1];simp only[DataW.weights,underlying27,ark,lits,dy];exact wh ..)
   have v:((g.take q).length+(g.drop q).length)*4<=reachBytes:=this;rw[TQ]at v;simp at v;omega
  refine⟨g.take q,some r,u,by simp[x,H],by simp;omega,by simp;omega,λM B=>wf_u32 (z M (FM B)),λk F=>?_⟩;simp at F;have D:=t k (by omega);obtain⟨N,R,K⟩:=r;have L:K=none:=by
   have C:=N8 (t 0 (by omega));simpa [Addr.add] using C
  subst L;refine⟨N,R,rfl,?_⟩;rw[<-add_plain,D];simp[List.getD,fw (show k<g.length by omega)]
theorem agP{q:Value}{B:DataW m}{O:List MemPlace}(L:Value.okWide prog l .any o 25 q)(P:DataW.Trod n prog l 0 (λ_=>true) true 25 q B O)(H:IK 25 B):
  ∃z y a f,q=.agg #[z,y]/\bI l z a/\aM l y f:=by
 obtain⟨Q,R,r,s,C,rfl,rfl,-,v,w⟩:=open_agg2 underlying25 (by kernel_rfl) arl L P;obtain⟨D,M,F,t⟩:=slice_form underlying22 v;obtain⟨E,N,G,u⟩:=slice_form underlying23 w;simp only[List.cons.injEq,and_true]at t u;subst t u;have x:∀g,g∈r.1.weights prog 22 ++ (s.1.weights prog 23 ++ [])->g<=reachBytes:=λg p=>H g (by
  simp only[DataW.weights,underlying25];exact p)
 obtain⟨a,K⟩:=ant ⟨_,_,_,rfl⟩ (B:=.slice D M F) (e:=r.1) (Z:=r.2) ⟨C,v⟩ (λg p=>x g (KM _ p));obtain⟨f,I⟩:=anr ⟨_,_,_,rfl⟩ (m:=.slice E N G) (e:=s.1) (D:=s.2) ⟨C,w⟩ (λg p=>x g (Ia _ (KM _ p)));exact⟨_,_,a,f,rfl,K,I⟩
end
