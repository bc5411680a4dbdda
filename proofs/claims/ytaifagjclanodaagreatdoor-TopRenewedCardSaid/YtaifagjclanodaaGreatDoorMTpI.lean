/- TopRenewed, plain: up to three dealers, of whom one deals wrongly. -/
import Derived.Test.YtaifagjclanodaaGreatDoorMKgM
import Derived.Test.YtaifagjclanodaaGreatDoorMPaF
set_option maxHeartbeats 16000000
set_option maxRecDepth 100000
namespace Go.Proofs.YtaifagjclanodaaGreatDoor
open Go.Proofs.Tryz
open Go.RowKit FP
variable{e:Option Addr}{f:Value}{h w':World}{c:V}{a:ak}
def Dr(a:ak)(m:V)(n:Bool)(e i:Nat):Int:=if n=true/\i=e then (cz (a.getD i []) m+1)%1073741789 else cz (a.getD i []) m
def dA(a:ak)(c g:V)(b e k:Nat)(t:Dl):bD:=tF a (t.1::t.2.1) (k:Int) (gO c g) (J t.2.2) (Dr a (t.1::t.2.1) (decide (b=k)) e)
def uK(a:ak)(c l:V)(d:List Dl):Prop:=∀k (i:k<d.length),tP a c l (k:Int) d[k].1 d[k].2.1 d[k].2.2
def pJ(a:ak)(c g:V)(b e:Nat)(d:List Dl):List bD:=(List.range d.length).map λk=>dA a c g b e k (d.getD k (0,[],[]))
def kP(b j:Nat):aO:=(List.range j).filter λk=>decide (b≠k)
def jm(b:Nat)(d:List Dl):List Dl:=(kP b d.length).map λk=>d.getD k (0,[],[])
def AQ(a:ak)(c g:V)(b e:Nat)(d:List Dl):List bD:=(kP b d.length).map λk=>dA a c g b e k (d.getD k (0,[],[]))
def oD(b j:Nat):V:=(kP b j).map λ(k:Nat)=>(k:Int)
def nJ(a:ak)(c g:V)(b e:Nat)(d:List Dl):List cP:=if b<d.length then [pB a c (gO c g e) (dA a c g b e b (d.getD b (0,[],[]))) (e:Int)] else []
section
variable {a:ak} {c l g:V} {b e k j:Nat} {t:Dl} {d:List Dl}
theorem aje(m:tP a c l (k:Int) t.1 t.2.1 t.2.2)(n:KeysOf c g l):SD a c t.1 t.2.1 (k:Int) (gO c g) (J t.2.2) (Dr a (t.1::t.2.1) (decide (b=k)) e) where
 ok:=m.ok
 p0:=m.p0
 dl:=m.dl
 hs:=(m.sd n).hs
 hu:=(m.sd n).hu
 hv i _:=by
  have:=n6 (a.getD i []) (t.1::t.2.1);unfold Dr;split<;>omega
theorem RE(n:V)(i:Nat):(Dr a n (decide (b=k)) e i=cz (a.getD i []) n)↔¬(b=k/\i=e):=by
 have:=n6 (a.getD i []) n;unfold Dr;split
 ·rename_i m;exact⟨λo=>by omega,λp=>absurd ⟨Cp m.1,m.2⟩ p⟩
 ·rename_i m;exact⟨λ_ o=>m ⟨bB o.1,o.2⟩,λ_=>rfl⟩
theorem abM(r:tP a c l (k:Int) t.1 t.2.1 t.2.2)(q:KeysOf c g l){i:Nat}(n:i<a.length):tD a c (gO c g i) (dA a c g b e k t) (i:Int)=0/\mkB a c (gO c g i) (dA a c g b e k t) (i:Int)=decide (b=k/\i=e):=by
 have o:=aje (b:=b) (e:=e) r q;refine⟨o.open0 n (o.hs i n),(o.mkB n).trans ?_⟩;by_cases m:b=k/\i=e
 ·rw[bB m,bw (λp=>(RE _ _).1 p m)];rfl
 ·rw[bw m,bB ((RE _ _).2 m)];rfl
theorem av8(q:tP a c l (k:Int) t.1 t.2.1 t.2.2)(o:KeysOf c g l)(m:b≠k){i:Nat}(n:i<a.length):mkV (gO c g i) (dA a c g b e k t) (i:Int)=cz (a.getD i []) (t.1::t.2.1):=
 ((aje (b:=b) (e:=e) q o).mkV n).trans ((RE _ _).2 λp=>m p.1)
theorem av9(o:tP a c l (k:Int) t.1 t.2.1 t.2.2)(m:KeysOf c g l)(i:b≠k):dA a c g b e k t=sG a c l (k:Int) t.1 t.2.1 t.2.2:=by
 rw[abp o m];unfold dA
 congr 1
 exact funext λp=>(RE _ _).2 λn=>i n.1
theorem abN(m:tP a c l (k:Int) t.1 t.2.1 t.2.2):tO a (dA a c g b e k t):=by
 refine⟨m.dl,(Qs m.ok m.p0).1,Jr,λi n=>?_⟩;have o:(dA a c g b e k t).ps[i]=GM (k:Int) (gO c g) (J t.2.2) (Dr a (t.1::t.2.1) (decide (b=k)) e) i:=Mj n;rw[o];have:=aau (J t.2.2 i) (bm 4 (gO c g i)) (k:Int) (i:Int) (Dr a (t.1::t.2.1) (decide (b=k)) e i);exact⟨rfl,fJ fO _,by show 0<=sy _ _ _ _ _/\sy _ _ _ _ _<=_;omega⟩
theorem awa(u:tP a c l (k:Int) t.1 t.2.1 t.2.2)(s:KeysOf c g l)(ha:e<(sG a c l (k:Int) t.1 t.2.1 t.2.2).ps.length):dA a c g k e k t=⟨(k:Int),bt (t.1::t.2.1),(sG a c l (k:Int) t.1 t.2.1 t.2.2).ps.set e ((sG a c l (k:Int) t.1 t.2.1 t.2.2).ps[e].1,(sG a c l (k:Int) t.1 t.2.1 t.2.2).ps[e].2.1,((sG a c l (k:Int) t.1 t.2.1 t.2.2).ps[e].2.2+1)%1073741789)⟩:=by
 have m:=abp u s;obtain⟨o,p⟩:∃o,o=sG a c l (k:Int) t.1 t.2.1 t.2.2:=⟨_,rfl⟩;rw[<-p]at m;simp only[<-p]at ha ⊢;subst m;unfold dA;refine congrArg (bD.mk (k:Int) (bt (t.1::t.2.1))) ?_;refine x8 (by rw[Oe,Jr,dy,List.length_range]) λi q v=>?_;rw[SP];have r:i<(tF a (t.1::t.2.1) (k:Int) (gO c g) (J t.2.2) (Dr a (t.1::t.2.1) (decide (k=k)) e)).ps.length:=q;refine(Mj r).trans ?_;by_cases n:e=i
 ·subst n;rw[aD rfl,Mj ha];unfold GM Dr MW sy;rw[aD ⟨bB rfl,rfl⟩];refine Prod.ext rfl (Prod.ext rfl ?_);dsimp only;omega
 ·rw[aA n,Mj];unfold GM;rw[show Dr a (t.1::t.2.1) (decide (k=k)) e i=MW a (t.1::t.2.1) i from(RE (b:=k) (k:=k) (e:=e) _ _).2 λm=>n m.2.symm]
theorem awb{m:bD}{i:cP}(n:i.dealer≠m.dealer):GX a c l m i=false:=by
 unfold GX;rw[bw n];rfl
theorem awc{m:bD}{i:Nat}(s:KeysOf c g l)(v:a.length=c.length)(u:i<a.length)(r:mkB a c (gO c g i) m (i:Int)=true):GX a c l m (pB a c (gO c g i) m (i:Int))=true:=by
 obtain⟨n,o,p,q⟩:=ah0 r;unfold GX;rw[p,q,show((i:Int)).toNat=i from rfl,(s.at (by omega)).2.2,n,o,bB rfl,bB (me i),bB (show(i:Int)<(a.length:Int) by omega)];rfl
theorem No:(pJ a c g b e d).length=d.length:=by simp[pJ]
theorem ajf{i:Nat}(m:i<d.length)(n:i<(pJ a c g b e d).length):(pJ a c g b e d)[i]=dA a c g b e i d[i]:=by
 simp only[pJ,gj,Ct];rw[dp m]
theorem uK.getD(n:uK a c l d){i:Nat}(m:i<d.length):tP a c l (i:Int) (d.getD i (0,[],[])).1 (d.getD i (0,[],[])).2.1 (d.getD i (0,[],[])).2.2:=by
 rw[dp m];exact n i m
theorem ajg:qt (pJ a c g b e d)=true:=abn λi m=>by
 have n:=No (a:=a) (c:=c) (g:=g) (b:=b) (e:=e) (d:=d);rw[Q7 (by omega),Q7 (by omega),ajf (by omega),ajf (by omega)];show(i:Int)<((i+1:Nat):Int);omega
theorem awd(p:uK a c l d)(o:KeysOf c g l)(s:a.length=c.length)(ha:e<a.length){i:Nat}(n:i<d.length):VD a c l (nJ a c g b e d) (dA a c g b e i (d.getD i (0,[],[])))=decide (b≠i):=by
 unfold VD;rw[MP.2 (abN (p.getD n)),jY];by_cases q:b=i
 ·subst q;rw[bw (by simp)];unfold nJ;rw[aD n];have m:=(abM (b:=b) (e:=e) (p.getD n) o ha).2;rw[bB ⟨rfl,rfl⟩]at m;simp only[List.any_cons,List.any_nil,Bool.or_false];rw[awc o s ha m];rfl
 ·rw[bB q];unfold nJ;split
  ·rename_i r;have m:=(abM (b:=b) (e:=e) (p.getD r) o ha).2;rw[bB ⟨rfl,rfl⟩]at m;simp only[List.any_cons,List.any_nil,Bool.or_false];rw[awb]
   ·rfl
   ·rw[(ah0 m).2.2.1];show((b:Int))≠(i:Int);omega
  ·rfl
theorem abO(o:uK a c l d)(m:KeysOf c g l)(n:a.length=c.length)(ha:e<a.length):GY a c l (nJ a c g b e d) (pJ a c g b e d)=AQ a c g b e d:=by
 unfold GY pJ AQ kP;rw[List.filter_map]
 congr 1
 refine List.filter_congr λp i=>?_;exact awd o m n ha (dT.1 i)
theorem abP:(nJ a c g b e d).length<=1:=by
 unfold nJ;split<;>simp
theorem quA(q:uK a c l d)(m:KeysOf c g l)(o:a.length=c.length)(ha:e<a.length)(p:bH a c=0)(s:d.length<=64):MS a c l (pJ a c g b e d) (nJ a c g b e d)=if kP b d.length=[] then 370 else 0:=by
 unfold MS;have r:=abP (a:=a) (c:=c) (g:=g) (b:=b) (e:=e) (d:=d);rw[aA (by simp[p]),QY.2 m.ok,aA (by simp),aA (by rw[No];omega),ajg,aA (by simp),abO q m o ha];unfold AQ;by_cases i:kP b d.length=[]
 ·rw[aD i,aD (by rw[i];rfl)]
 ·rw[aA i,aA (λn=>i (K3.1 n))]
theorem RF{j i:Nat}(m:i∈kP b j):i<j/\b≠i:=by
 unfold kP at m;obtain⟨n,o⟩:=Cq.1 m;exact⟨dT.1 n,Cp o⟩
theorem abQ(b j:Nat):(kP b j).length<=j:=by
 unfold kP;have i:=Od (λk=>decide (b≠k)) (List.range j);rw[List.length_range]at i;exact i
theorem awe:(jm b d).length=(kP b d.length).length:=by unfold jm;rw[dy]
theorem abR(q:uK a c l d)(s:d.length<=30):Rr a c l (jm b d):=λi m=>by
 have n:i<(kP b d.length).length:=by rw[awe]at m;exact m
 have o:=(RF (bM n)).1;have r:=abQ b d.length;have p:(jm b d)[i]=d.getD ((kP b d.length)[i]) (0,[],[]):=by
  unfold jm;exact gj _
 rw[p];exact {q.getD o with dl:=by omega}
theorem awf:∀{n m:List bD},n.map (·.cs)=m.map (·.cs)->lH n=lH m
 |[],[],_=>rfl
 |[],_::_,i=>by cases i
 |_::_,[],i=>by cases i
 |q::t,o::p,i=>by
  simp only[zQ,List.cons.injEq]at i;show lZ q.cs (t.map (·.cs))=lZ o.cs (p.map (·.cs));rw[i.1,i.2]
theorem awg(r:uK a c l d)(o:d.length<=30)(p:kP b d.length≠[]):lH (AQ a c g b e d)=bt (zn (jm b d)):=by
 have m:=abR (b:=b) r o;rw[<-avj m (λq=>p (K3.1 q))];refine awf ?_;have n:(G1 a c l (jm b d)).map (·.cs)=(jm b d).map λt=>bt (t.1::t.2.1):=by
  rw[<-VU (jm b d) (0,[],[]) (λt=>bt (t.1::t.2.1))];unfold G1;rw[mD];refine xZ λs i=>?_;have i:=dT.1 i;simp only[Of];rw[dp i];exact(MX (m s i)).2.1
 rw[n];unfold AQ jm;rw[mD,mD];rfl
theorem awh(v:uK a c l d)(B:d.length<=30)(s:KeysOf c g l)(C:kP b d.length≠[]){i:Nat}(r:i<a.length):
  (AQ a c g b e d).foldl (λm n=>(m+mkV (gO c g i) n (i:Int))%1073741789) 0=cz (a.getD i []) (zn (jm b d)):=by
 have u:=abR (b:=b) v B;rw[<-avk u (λp=>C (K3.1 p)) s r];have p:∀(q:List bD) (m:Int),q.foldl (λm n=>(m+mkV (gO c g i) n (i:Int))%1073741789) m=(q.map λn=>mkV (gO c g i) n (i:Int)).foldl (λm f=>(m+f)%1073741789) m:=λq m=>by rw[List.foldl_map]
 rw[p,p]
 congr 1
 have x:(G1 a c l (jm b d)).map (λn=>mkV (gO c g i) n (i:Int))=(jm b d).map λt=>cz (a.getD i []) (t.1::t.2.1):=by
  rw[<-VU (jm b d) (0,[],[]) (λt=>cz (a.getD i []) (t.1::t.2.1))];unfold G1;rw[mD];refine xZ λw o=>?_;have o:=dT.1 o;simp only[Of];rw[dp o];exact abq (u w o) s r
 rw[x];unfold AQ jm;rw[mD,mD];refine xZ λw o=>?_;obtain⟨y,z⟩:=RF o;simp only[Of];exact av8 (v.getD y) s z r
theorem ajh:eW (AQ a c g b e d)=oD b d.length:=by
 unfold eW AQ oD;rw[mD];rfl
theorem awi(p:uK a c l d)(n:KeysOf c g l)(z:a.length=c.length)(ha:e<a.length)(B:bH a c=0)(u:d.length<=30)(w:kP b d.length≠[]){i:Nat}(x:i<a.length):
  Fa a c (gO c g i) (i:Int) (oD b d.length) (pJ a c g b e d)=0/\MT a c (gO c g i) (i:Int) (oD b d.length) (pJ a c g b e d)=cz (a.getD i []) (zn (jm b d))/\MU a c (gO c g i) (i:Int) (oD b d.length) (pJ a c g b e d)=(i:Int):=by
 have o:=ajg (a:=a) (c:=c) (g:=g) (b:=b) (e:=e) (d:=d);have r:(AQ a c g b e d).Sublist (pJ a c g b e d):=abO (b:=b) p n z ha▸atN;have q:∀s∈AQ a c g b e d,tO a s:=λs v=>by
  obtain⟨C,y,rfl⟩:=ey.1 v;exact abN (p.getD (RF y).1)
 rw[<-ajh (a:=a) (c:=c) (g:=g) (e:=e)];have m:Fa a c (gO c g i) (i:Int) (eW (AQ a c g b e d)) (pJ a c g b e d)=0:=by
  unfold Fa;rw[aA (by simp[B]),aA (by rw[jo.2 (n.at (by omega)).2.1];simp),aA (by omega),aA (by rw[No];omega),aA (by rw[o];simp),aA (by rw[atL o r q];simp)]
 refine⟨m,?_,?_⟩
 ·unfold MT;rw[aD m,atM o r q,awh p u n w x]
 ·unfold MU;rw[aD m]
theorem aji:∀(m:ak) (i:V),(uF i m).length=i.length
 |[],_=>rfl
 |n::m,i=>by show(uF (kH i n) m).length=_;rw[aji m,EP]
theorem awj(D:uK a c l d)(x:d.length<=30)(y:kP b d.length≠[])(u:bH a c=0):∃m,zn (jm b d)=uI (jm b d)::m/\dU a c (uI (jm b d)) m:=by
 have o:=abR (b:=b) D x;have i:jm b d≠[]:=λq=>y (K3.1 q);have hn:=avl o;have s:=avm o i;have p:(zn (jm b d)).length=bh a:=by
  have n:=o;revert n i;generalize jm b d=r;intro i n;cases r with
  |nil=>exact absurd rfl i
  |cons t r =>
   unfold zn;rw[aji];exact dU.full (n 0 (by simp)).ok
 have E:=(fs u).cols;obtain⟨v,w⟩:=aK (zn (jm b d));rw[<-w]at hn s p ⊢;cases v with
 |nil=>simp at p;omega
 |cons B m =>
  have q:B=uI (jm b d):=s;subst q;exact⟨m,rfl,fs u,aiI,λC z=>hn C (wi _ z),by simpa using p⟩
theorem ajj{j:Nat}(i:b≠j):kP b (j+1)=kP b j++[j]:=by
 unfold kP;rw[sP,x9];simp[i]
theorem ajk{j:Nat}(i:b=j):kP b (j+1)=kP b j:=by
 unfold kP;rw[sP,x9];simp[i]
theorem awk{j:Nat}(i:b≠j):oD b (j+1)=oD b j++[(j:Int)]:=by
 unfold oD;rw[ajj i,gJ];rfl
theorem awl{j:Nat}(i:b=j):oD b (j+1)=oD b j:=by
 unfold oD;rw[ajk i]
theorem abS:(oD b j).length=(kP b j).length:=by unfold oD;rw[dy]
theorem ajl:jm b (d++[t])=jm b d++(if b=d.length then [] else [t]):=by
 have n:∀m∈kP b d.length,(d++[t]).getD m (0,[],[])=d.getD m (0,[],[]):=λm o=>G3 (RF o).1;unfold jm;rw[fu,KW];by_cases i:b=d.length
 ·rw[ajk i,aD i,FN];exact xZ n
 ·rw[ajj i,aA i,gJ,SO,G4 rfl]
  congr 1
  exact xZ n
theorem awm:pJ a c g b e (d++[t])=pJ a c g b e d++[dA a c g b e d.length t]:=by
 unfold pJ;rw[fu,KW,sP,gJ,SO,G4 rfl]
 congr 1
 exact xZ λm i=>by rw[G3 (dT.1 i)]
theorem awn(i:b=d.length):nJ a c g b e d=[]/\nJ a c g b e (d++[t])=[pB a c (gO c g e) (dA a c g b e b t) (e:Int)]:=by
 unfold nJ;rw[aA (by omega),aD (by simp;omega),G4 i.symm];exact⟨rfl,rfl⟩
theorem awo(m:b≠d.length):nJ a c g b e (d++[t])=nJ a c g b e d:=by
 unfold nJ;by_cases i:b<d.length
 ·rw[aD i,aD (by simp;omega),G3 i]
 ·rw[aA i,aA (by simp;omega)]
def xL(a:ak)(c g:V)(b e k:Nat)(t:Dl)(i:Nat):List cP:=if b=k/\e<i then [pB a c (gO c g e) (dA a c g b e k t) (e:Int)] else []
theorem awp:xL a c g b e k t 0=[]:=aA (by omega)
theorem awq{m:Nat}(p:e<m):nJ a c g b e (d++[t])=nJ a c g b e d++xL a c g b e d.length t m:=by
 unfold xL;by_cases i:b=d.length
 ·obtain⟨n,o⟩:=awn (a:=a) (c:=c) (g:=g) (e:=e) (t:=t) i;rw[n,o,aD ⟨i,p⟩,<-i];rfl
 ·rw[awo i,aA (λq=>i q.1),FN]
theorem awr{i:Nat}(n:b=k/\i=e):xL a c g b e k t i=[]/\xL a c g b e k t (i+1)=[pB a c (gO c g i) (dA a c g b e k t) (i:Int)]:=by
 obtain⟨m,rfl⟩:=n;unfold xL;rw[aA (by omega),aD ⟨m,by omega⟩];exact⟨rfl,rfl⟩
theorem aws{i:Nat}(p:¬(b=k/\i=e)):xL a c g b e k t (i+1)=xL a c g b e k t i:=by
 unfold xL;by_cases m:b=k/\e<i
 ·rw[aD m,aD ⟨m.1,by omega⟩]
 ·rw[aA m,aA (λn=>m ⟨n.1,by
   have:=n.2;have:i≠e:=λo=>p ⟨n.1,o⟩;omega⟩)]
theorem awt{i:Nat}:(xL a c g b e k t i).length<=1:=by
 unfold xL;split<;>simp
theorem uK.snoc(q:uK a c l d)(o:tP a c l (d.length:Int) t.1 t.2.1 t.2.2):uK a c l (d++[t]):=λi n=>by
 by_cases m:i<d.length
 ·rw[AX m];exact q i m
 ·have p:i=d.length:=by rw[fu,KW]at n;omega
  subst p;rw[Cr (aP _)];simpa using o
end
def RG(h:World)(f:Value)(j:Nat):Prop:=∃i,RI h f i/\i.length=j/\∀m∈i,0<=m/\m<1073741789
theorem RG.below{j:Nat}(o:RG h f j)(n:Below h h w'):RG w' f j:=by
 obtain⟨p,i,m⟩:=o;exact⟨p,i.below n,m⟩
def G6(a:ak)(c:V)(h:World)(f:Value):Prop:=∃o p m n i,f=.tuple #[.slice o a.length p,.slice m (bh a) n,.int .i64 0]/\RS h (.slice o a.length p) (bV a (0::i))/\RI h (.slice m (bh a) n) (bt (0::i))/\dU a c 0 i
theorem G6.below(u:G6 a c h f)(i:Below h h w'):G6 a c w' f:=by
 obtain⟨e,b,r,s,q,m,n,o,p⟩:=u;exact⟨e,b,r,s,q,m,n.below i,o.below i,p⟩
theorem G6.dic{i:Nat}{s:Int}(x:G6 a c h f)(m:dO i s h)(n:h.grownBy w' (some i)):G6 a c w' f:=by
 obtain⟨e,b,v,w,u,o,p,q,r⟩:=x;exact⟨e,b,v,w,u,o,p.dic m n,q.dic m n,r⟩
theorem awu{t:bF}(m:fK h f t)(d:TypeId):oq (h.alloc (.cells #[f] d)) (.slice (h,0) 1 1) [t]:=by
 refine⟨_,1,rfl,by simp,by simp,λk i=>⟨_,_,f,rfl,?_,?_⟩⟩
 ·rw[wg _ _ _ _ rfl];have:k=0:=by simp at i;omega
  subst this;rfl
 ·have:k=0:=by simp at i;omega
  subst this;exact m.below (bk _ _ _)
theorem awv(m:Int)(x w cv D y B:Value)(a:ak)(c:V)(i:Int)(n z:V)(h:World)(hR:bI h x a)(hO:aM h w c)(N:RI h cv (bt (i::n)))(O:RS h D (bV a (i::n)))(T:bI h y [bt (0::z)])(W:oq h B [bV a (0::z)])
  (o:dU a c i n) (P:bH a c=0) (hz:dU a c 0 z) (I:0<=m) (K:m<64):
  Calls prog 34 #[.agg #[m,x,w,cv],D,y,B] h λQ w'=>∃ac q p r E,Q=.returned (.tuple #[.agg #[(m+1:Int),x,w,.slice ac (bh a) q],.slice p a.length r,(0:Int)])/\RI w' (.slice ac (bh a) q) (bt (i::E))/\RS w' (.slice p a.length r) (bV a (i::E))/\dU a c i E/\Below h h w':=by
 have s:∀S∈[z],dU a c 0 S:=λS hy=>by rw[jJ.1 hy];exact hz
 refine(ato True m x w cv D y B a c _ _ _ _ h hR hO N.1 O.1 T W (λ_=>⟨N.2,O.2⟩) (by have M:=ahR (k:=[z]) o P s I K (by simp);simp only[AA,BR,zQ,FI]at M;exact M)).mono ?_;rintro Q w' ⟨kv,yv,rfl,hY,-,hb⟩;have C:=ahR (k:=[z]) o P s I K (by simp);obtain⟨BQ,rfl,u,v,hT⟩:=hY C;obtain⟨F,R⟩:=hT trivial;have G:=ahP (q:=[z]) o s;have H:=ahQ (q:=[z]) o s;simp only[AA,BR,zQ,FI]at C G H;rw[C];rw[G]at u;rw[H]at v;have L:=ag3 (x:=[z]) o;obtain⟨ac,q,rfl,-⟩:=id u;obtain⟨p,r,rfl,-⟩:=id v;have X:=ju a (i::uF n [z]);have Z:(bt (i::uF n [z])).length=bh a:=by rw[At];exact L.full
 rw[X]at v R ⊢;rw[Z]at u F ⊢;exact⟨ac,q,p,r,_,rfl,⟨u,F⟩,⟨v,R⟩,L,hb⟩
theorem abT{n:Int}{m:V}(r:dU a c n m)(q:bH a c=0):∀i (o:i<(bV a (n::m)).length),(bV a (n::m))[i].1=i/\ke a c (bt (n::m)) (bV a (n::m))[i].1 (bV a (n::m))[i].2=true/\j9 a c (bt (n::m)) (bV a (n::m))[i].1 (bV a (n::m))[i].2=0:=λi o=>by
 rw[GI _ _ o];have p:=Jn r q (show i<a.length by rw[ju]at o;exact o) (n6 (a.getD i []) (n::m));exact⟨rfl,by rw[p.2];exact bB rfl,p.1⟩
theorem RH{j p:Nat}{m:Int}{r:V}(q:aM h (.slice e j p) (bt (m::r))):∃b i,e=some ⟨b,i,none⟩/\h.cell? ⟨b,i,none⟩=(bm 4 m:Int):=by
 obtain⟨b,i,n,o⟩:=B3 q (k:=0) (by rw[At];simp);exact⟨b,i,n,o⟩
structure aww(r:World)(m:Nat)(o:Int)(j n:Nat)(q p:Value)(a:ak)(c:V)(i:Nat->Bool)(f:Nat->Value)(h:World):Prop where
 b:r.grownBy h (some m)
 f0:KQ i f 0 (n,1)
 f1:KQ i f 1 (.agg #[q,p])
 f2:KQ i f 2 (m,0)
 f3:KQ i f 3 (n,1)
 f4:KQ i f 4 (.agg #[q,p])
 f5:KQ i f 5 ((j:Int)+1:Int)
 f6:KQ i f 6 j
 f7:i 7=true->i 8=false->RG h (f 7) j
 f8:i 8=true->G6 a c h (f 8)
 f9:KQ i f 9 (f 8)
 f10:KQ i f 10 (ku 0 (f 8))
 f11:KQ i f 11 (ku 1 (f 8))
 f12:KQ i f 12 (ku 2 (f 8))
 f13:KQ i f 13 (ku 0 (f 8))
 f14:KQ i f 14 (ku 1 (f 8))
 f15:KQ i f 15 (ku 2 (f 8))
 dd:dO m (bif i 7 then o+j else o) h
structure awx(u:World)(s v:Nat)(x:Int)(B z:Value)(o p r m n q j:Nat)(y:Value)(w:Int)(i:Nat->Bool)(f:Nat->Value)(h:World):Prop where
 b:Below u u h
 f0:KQ i f 0 (0:Int)
 f1:KQ i f 1 false
 f2:KQ i f 2 false
 f3:KQ i f 3 (v,3)
 f4:KQ i f 4 (.slice (m,n) j q)
 f5:KQ i f 5 j
 f6:KQ i f 6 (s,3)
 f7:KQ i f 7 (.slice (o,p) j r)
 f8:KQ i f 8 j
 f9:KQ i f 9 false
 f10:KQ i f 10 false
 f11:KQ i f 11 false
 f12:KQ i f 12 (v,3)
 f13:KQ i f 13 (.slice (m,n) j q)
 f14:KQ i f 14 (m,n)
 f15:KQ i f 15 w
 f16:KQ i f 16 (s,3)
 f17:KQ i f 17 (.slice (o,p) j r)
 f18:KQ i f 18 (o,p)
 f19:KQ i f 19 w
 f20:KQ i f 20 false
 f21:KQ i f 21 false
 f22:KQ i f 22 false
 f23:KQ i f 23 (.agg #[x,B,z,.slice (m,n) j q])
 f24:KQ i f 24 y
 f25:KQ i f 25 true
 f26:KQ i f 26 false
 f27:KQ i f 27 false
structure awy(p:World)(q m n v u k:Nat)(r s:Int)(o:Bool)(i:Nat->Bool)(f:Nat->Value)(h:World):Prop where
 b:Below p p h
 f0:KQ i f 0 (0:Int)
 f1:KQ i f 1 false
 f2:KQ i f 2 false
 f3:KQ i f 3 o
 f4:KQ i f 4 (q,1)
 f5:KQ i f 5 r
 f6:KQ i f 6 (.slice (m,n) v u)
 f7:KQ i f 7 k
 f8:KQ i f 8 (m,n+k*2)
 f9:KQ i f 9 (m,n+k*2+1)
 f10:KQ i f 10 s
 f11:KQ i f 11 o
 f12:KQ i f 12 false
 f13:KQ i f 13 false
theorem awz(u:Nat)(S v:Int)(rv ov cv lv:Value)(a:ak)(c:V)(w:Int)(aQ:V)(W0 h:World)
  (hW:Below W0 W0 h) (hB:W0.heap.size<=u) (hR:bI W0 rv a) (hO:aM W0 ov c)
  (hC:RI h cv (bt (w::aQ))) (hL:RS h lv (bV a (w::aQ))) (hD:dO u S h) (hm:S+1000<1000000)
  (hp:bH a c=0) (Ds:dU a c w aQ) (hc:bh a<=16) (h0:0<=v) (s:v<64):
  Calls prog 7 #[.agg #[v,rv,ov,cv],lv,(u,0)] h λq w'=>∃BQ yv P,q=.returned (.tuple #[.agg #[(v+1:Int),rv,ov,BQ],yv,true])/\RI w' BQ (bt (w::P))/\RS w' yv (bV a (w::P))/\dU a c w P/\dO u (S+1000) w'/\h.grownBy w' (some u):=by
 obtain⟨W1,aE,au,aI,bX⟩:=lF h v rv ov cv 33;obtain⟨W2,cG,an,bE,gS⟩:=lF W1 (0:Int) () () () 33;have p:Below h h W2:=ar au an;obtain⟨HC,HL,HD,HB,iV,HR,HO,HP,iD⟩:=fx (hC.below p) (hL.below p) (hD.below p) (ar hW p) hD.lt hR hO hp Ds;obtain⟨kt,HE⟩:=aR hB (And.intro h0 s);have AI:=Ds.prog.cols;have r64:a.length<=64:=(fs hp).few;obtain⟨j,hn⟩:∃j,bh a=j+1:=⟨bh a-1,by omega⟩;have HM:Hid (S+j<1000000):=A (by omega);have cU:=az an aI;rw[bX]at bE;obtain⟨Q2,Q1⟩:=aR bE cU;rw[aE]at cG;have kG:=A cG;have dG:Hid (∀z2z:Nat,some (⟨h.heap.size,z2z,none⟩:Addr).block≠some u):=A (λz2z q=>by
  have s:=hD.lt;simp at q;omega)
 have qw:=A (lK (r:=some u) p);clear hW hB hR hO hC hL hD hm hp Ds h0 s p au an aI bE bX gS aE cG cU;have K:(bt (w::aQ)).length=bh a:=by rw[At];exact iD.1.full
 obtain⟨z,D,rfl,-,eI,-⟩:=id HR.1;obtain⟨B,E,rfl,-,dR,-⟩:=id HO.1;obtain⟨a3,k3,rfl,-⟩:=id HC.1.1;obtain⟨a4,k4,rfl,-⟩:=id HL.1.1;rw[K]at HC Q1 kG ⊢;rw[ju]at HL ⊢;clear K;obtain⟨-,sJ,sK⟩:=jZ Q1.1;have Jm:Hid (∀o,W2.grownBy o (some u)->Calls prog 27 #[.agg #[.slice z a.length D,.slice B c.length E]] o λq w'=>q=.returned ((j:Int)+1:Int)/\Below o o w'):=A (λo hg=>by
  have C:=HB.1.trans (rp hg kt.1 HB.1.size);have i:=Mh _ _ a c o (HR.1.below C) (HO.1.below C);rw[hn]at i;exact i)
 have RJ:Hid (∀o,W2.grownBy o (some u)->∀f M,RI o f M->M.length=j->(∀z5∈M,0<=z5/\z5<1073741789)->Calls prog 33 #[.agg #[.slice z a.length D,.slice B c.length E],f] o λq w'=>∃z1,q=.returned z1/\G6 a c w' z1/\Below o o w'):=A (λo hg f M s h2 h3=>by
  have C:=HB.1.trans (rp hg kt.1 HB.1.size);have bU:dU a c 0 M:=⟨iD.1.prog,by omega,h3,by omega⟩;refine(atz _ _ f a c M o (HR.1.below C) (HO.1.below C) s.1 bU HP.1).mono ?_;rintro z7 w' ⟨al,cl,ac,I,rfl,N,O,F⟩;exact⟨_,rfl,⟨al,cl,ac,I,M,rfl,N,O,bU⟩,F⟩)
 have Np:Hid (j<=16):=A (by omega);have qA:IntKind.i64.wrap (j:Int)=(j:Int):=jw _ (by omega);clear hn AI hc;go_enter func7,ntmps7;go_wp2_with (rw[<-kG.1]);refine nW (aww W2 u S j h.heap.size (.slice z a.length D) (.slice B c.length E) a c) (λf=>?_) ?_ (λf o i=>?_)
 ·exact⟨az4 (lK (aY _ _)),ax,ax,ax,ax,ax,ax,ax,ax,ax,ax,ax,ax,ax,ax,ax,ax,(HD.1.below (aY _ _).drew)⟩
 ·refine⟨?_,?_,?_,?_,?_,?_,?_,?_,?_,?_,?_,?_,?_,?_,?_,?_,trivial⟩;all_goals intro Q f o z4 i m
  ·have n:=m.b 3 (h,0);clear m;go_simp;exact⟨_,rfl,{i with f0:=aB}⟩
  ·have n:=m.e 0 17 i.f0;have H:=i.b.cell sJ (dG.1 1);have jd:=i.b.cell sK (dG.1 2);clear m;go_simp;exact⟨_,rfl,{i with f1:=aB}⟩
  ·have n:=m.b 2 (u,0);clear m;go_simp;exact⟨_,rfl,{i with f2:=aB}⟩
  ·have n:=m.b 3 (h,0);clear m;go_simp;exact⟨_,rfl,{i with f3:=aB}⟩
  ·have n:=m.e 3 20 i.f3;have H:=i.b.cell sJ (dG.1 1);have jd:=i.b.cell sK (dG.1 2);clear m;go_simp;exact⟨_,rfl,{i with f4:=aB}⟩
  ·have n:=m.e 4 21 i.f4;clear m;go_simp;with_reducible refine(Jm.1 o i.b).mono ?_
   rintro q wq ⟨rfl,p⟩;exact⟨_,rfl,{i with b:=iW i.b (lK p),f5:=aB,f7:=(λs h2=>(i.f7 s h2).below p),f8:=(λs=>(i.f8 s).below p),dd:=(i.dd.below p)}⟩
  ·have n:=m.e 5 22 i.f5;clear m;go_simp;exact⟨_,rfl,{i with f6:=aB}⟩
  ·have hd:=m.hd;have n:=m.e 2 19 i.f2;have K:=m.e 6 23 i.f6;clear m;go_simp;have An:dO u S o:=by have h9:=i.dd;rw[hd]at h9;exact h9
   with_reducible refine(abF u S j o An HM.1).mono ?_
   rintro q wq ⟨z1,M,rfl,hn,hz,hq,-,zx,hg⟩;exact⟨_,rfl,{i with b:=iW i.b hg,f7:=(λ_ _=>⟨_,hn,hz,hq⟩),f8:=(λs=>(i.f8 s).dic An hg),dd:=(zx)}⟩
  ·have abU:=m.n 9;have abV:Q 10=false:=rX (λhj=>m.hu 9 8 rfl (m.hu 10 9 rfl (hj))) m.hd;have abW:Q 11=false:=rX (λhj=>m.hu 9 8 rfl (m.hu 11 9 rfl (hj))) m.hd;have abX:Q 12=false:=rX (λhj=>m.hu 9 8 rfl (m.hu 12 9 rfl (hj))) m.hd;have RK:=m.n 13;have abY:=m.n 14;have abZ:=m.n 15;have n:=m.e 1 18 i.f1;have K:=m.E 7 24;have m1:=i.f7 (m.d 7) m.hd;clear m;go_simp;obtain⟨M,m7a,m7b,m7c⟩:=m1;with_reducible refine(RJ.1 o i.b _ M m7a m7b m7c).mono ?_
   rintro q wq ⟨z1,rfl,hv,p⟩;exact⟨_,rfl,{i with b:=iW i.b (lK p),f7:=(λ_=>wj),f8:=(λ_=>hv),f9:=(kY (abU)),f10:=(kY (abV)),f11:=(kY (abW)),f12:=(kY (abX)),f13:=(kY (RK)),f14:=(kY (abY)),f15:=(kY (abZ)),dd:=(i.dd.below p)}⟩
  ·have n:=m.E 8 25;clear m;go_simp;exact⟨_,rfl,{i with f9:=aB}⟩
  ·have pK:Q 8=true:=m.hu 9 8 rfl (m.hp 9 rfl);obtain⟨za,zc,ya,yc,zr,x,zL,zC,zK⟩:=i.f8 pK;have n:=(m.E 9 16).trans ((i.f9 (m.d 9)).trans x);clear m;go_simp;exact⟨_,rfl,{i with f10:=(λ_=>(by show _=ku 0 (f 8);rw[x];rfl))}⟩
  ·have pK:Q 8=true:=m.hu 9 8 rfl (m.hp 9 rfl);obtain⟨za,zc,ya,yc,zr,x,zL,zC,zK⟩:=i.f8 pK;have n:=(m.E 9 16).trans ((i.f9 (m.d 9)).trans x);clear m;go_simp;exact⟨_,rfl,{i with f11:=(λ_=>(by show _=ku 1 (f 8);rw[x];rfl))}⟩
  ·have pK:Q 8=true:=m.hu 9 8 rfl (m.hp 9 rfl);obtain⟨za,zc,ya,yc,zr,x,zL,zC,zK⟩:=i.f8 pK;have n:=(m.E 9 16).trans ((i.f9 (m.d 9)).trans x);clear m;go_simp;exact⟨_,rfl,{i with f12:=(λ_=>(by show _=ku 2 (f 8);rw[x];rfl))}⟩
  ·have RL:=m.d 10;have n:=m.E 10 26;clear m;go_simp;exact⟨_,rfl,{i with f13:=(λ_=>(i.f10 RL))}⟩
  ·have RM:=m.d 11;have n:=m.E 11 27;clear m;go_simp;exact⟨_,rfl,{i with f14:=(λ_=>(i.f11 RM))}⟩
  ·have ab0:=m.d 12;have n:=m.E 12 28;clear m;go_simp;exact⟨_,rfl,{i with f15:=(λ_=>(i.f12 ab0))}⟩
 simp only[jG,Act.put,Nat.reduceAdd,dD];obtain⟨za,zc,ya,yc,zr,x,zL,zC,zK⟩:=i.f8 rfl;rw[show f 13=.slice za a.length zc from(i.f13 rfl).trans (by rw[x];rfl)];rw[show f 14=.slice ya (bh a) yc from(i.f14 rfl).trans (by rw[x];rfl)];rw[show f 15=.int .i64 0 from(i.f15 rfl).trans (by rw[x];rfl)];have G:=i.b;have ma:Hid (dO u (S+j) o):=A i.dd;obtain⟨m6,HZL,Rp,HZK,Nq,yG,l7⟩:=qy G zL zC zK (HC.1.dic HD.1 G) (HL.1.dic HD.1 G) (HB.1.trans (rp G kt.1 HB.1.size));have iL:=(G.block _ (bG Q1.1) (dG.1 0)).trans Q1.1;have r:=(G.block _ (bG Q2.1) (by have s:=iV.1;intro q;injection q with q;omega)).trans Q2.1;have ru:=Y iL (k:=3) (d:=.slice a3 (bh a) k3) rfl;obtain⟨u0,u1,u2,u3⟩:=fh r;obtain⟨kw0,kw1,kw2⟩:=jZ iL;obtain⟨W6,cH⟩:=aK ((o.alloc (.cells #[.slice ya (bh a) yc] 23)).alloc (.cells #[.slice za a.length zc] 38));have aF:Below o o W6:=by rw[cH];exact(bk o _ _).trans ((bk _ _ _).mono (bk o _ _).size)
 have lT:bI W6 (.slice (o,0) 1 1) [bt (0::zr)]:=by rw[cH];exact(bI.one Rp.1.1 _).below (bk _ _ _)
 have qh:oq W6 (.slice (o.heap.size+1,0) 1 1) [bV a (0::zr)]:=by
  rw[cH];have s:=awu (HZL.1.1.below (bk o (#[.slice ya (bh a) yc]) 23)) 38;rw[KK]at s;exact s
 have ab1:=ar l7.1 aF;obtain⟨zy,cO,fR,om,zA⟩:=gw (awv v (.slice z a.length D) (.slice B c.length E) (.slice a3 (bh a) k3) (.slice a4 a.length k4) _ _ a c w aQ zr W6 (HR.1.below ab1) (HO.1.below ab1) (Nq.1.below aF) (yG.1.below aF) lT qh iD.1 HP.1 HZK.1 HE.1.1 HE.1.2) aF cH iL r;clear cH aF lT qh ab1 iL r sJ sK zL zC zK G i x RJ Jm;go_wp2_with (rw[<-fR.1]);refine zy.1.mono ?_;rintro q w7 ⟨ac,I,ay,Z,P,rfl,zm,Ha,ajm,bz⟩;have T:Below o o w7:=ar cO.1 bz;have iL:=az T om.1;have r:=az T zA.1;replace u0:=Y r (k:=0) (d:=(0:Int)) rfl;replace u1:=Y r (k:=1) (d:=()) rfl;replace u2:=Y r (k:=2) (d:=()) rfl;replace u3:=Y r (k:=3) (d:=()) rfl;obtain⟨f0,f1,f2,f3⟩:=wm r;obtain⟨W8,L⟩:=aK (putKey w7 (h.heap.size+1) (v+1:Int) (.slice z a.length D) (.slice B c.length E) (.slice ac (bh a) I));obtain⟨Dt,Hb,ab2,awA⟩:=cY (L▸zm.keyW r (by decide) _ _ _ _) (L▸Ha.keyW r (by decide) _ _ _ _) (L▸(Nq.1.below T).keyW r (by decide) _ _ _ _) (L▸(yG.1.below T).keyW r (by decide) _ _ _ _);have vU:Below h w7 W8:=L▸JQ (aY _ w7) (eP h.heap.size) _ _ _ _;have dh:=qw.1.size;have Lp:=m6.1.size;obtain⟨RN,AR,RO⟩:=bJ ((ma.1.below T).low vU iV.1) (fT (fT (iW qw.1 m6.1) (T.mono (bK dh Lp))) vU) ((ar l7.1 T).trans (vU.mono (bK kt.1 (gQ iV.1))));have pn:=L▸MM r (v+1:Int) (.slice z a.length D) (.slice B c.length E) (.slice ac (bh a) I);have Fu:=L▸(GW w7 (show h.heap.size≠h.heap.size+1 by omega) (v+1:Int) (.slice z a.length D) (.slice B c.length E) (.slice ac (bh a) I)).trans iL;obtain⟨Ka,ab3⟩:=aR pn ajm;unfold putKey at L;have Dp:=A L;obtain⟨g0,N,O,F⟩:=fh pn;replace ru:=Y Fu (k:=3) (d:=.slice a3 (bh a) k3) rfl;obtain⟨cb,co,ea,q1⟩:=RH ab2.1.1;obtain⟨db,jX,eb,y⟩:=RH Dt.1.1;subst ea;subst eb;obtain⟨Nr,gR⟩:=aK (bm 4 w);rw[<-gR]at q1 y;have C9:Hid (∀o,Below W8 W8 o->Calls prog 32 #[.agg #[(v+1:Int),.slice z a.length D,.slice B c.length E,.slice (db,jX) (bh a) I],.slice ay a.length Z] o λq w'=>q=.returned true/\Below o o w'):=A (λo fo=>by
  have C:=ar RO.1 fo;exact abG (v+1) _ _ _ _ a c (bt (w::P)) (bV a (w::P)) o (HR.1.below C) (HO.1.below C) (Dt.1.below fo).1 (Hb.1.below fo).1 (ju _ _) (abT ab3.1 HP.1))
 have pF:0<bh a:=by
  have:=iD.1.prog.cols;omega
 clear L pn Fu iL r zm Ha ajm bz T vU dh Lp gR kw0 kw1 kw2 om zA zy fR cO Nq yG ma m6 qw;go_wp2_with (rw[<-Dp.1]);clear u0 u1 u2 u3 f0 f1 f2 f3;refine nW (awx W8 h.heap.size (h.heap.size+1) (v+1) (.slice z a.length D) (.slice B c.length E) cb co k3 db jX I (bh a) (.slice ay a.length Z) Nr) (λf=>?_) ?_ (λf o i=>?_)
 ·exact⟨(aY _ _).drew,ax,ax,ax,ax,ax,ax,ax,ax,ax,ax,ax,ax,ax,ax,ax,ax,ax,ax,ax,ax,ax,ax,ax,ax,ax,ax,ax,ax⟩
 ·refine⟨?_,?_,?_,?_,?_,?_,?_,?_,?_,?_,?_,?_,?_,?_,?_,?_,?_,?_,?_,?_,?_,?_,?_,?_,?_,?_,?_,?_,trivial⟩;all_goals intro Q f o z4 i m
  ·have n:=m.b 11 (0:Int);clear m;go_simp;exact⟨_,rfl,{i with f0:=aB}⟩
  ·have n:=m.e 0 43 i.f0;clear m;go_simp;exact⟨_,rfl,{i with f1:=aB}⟩
  ·have n:=m.e 1 44 i.f1;clear m;go_simp;exact⟨_,rfl,{i with f2:=aB}⟩
  ·refine m.g 2 i.f2 ?_;have n:=m.b 6 ((h.heap.size+1),0);clear m;go_simp;exact⟨_,rfl,{i with f3:=aB}⟩
  ·refine m.g 2 i.f2 ?_;have n:=m.e 3 46 i.f3;have H:=U i.b F;clear m;go_simp;exact⟨_,rfl,{i with f4:=aB}⟩
  ·refine m.g 2 i.f2 ?_;have n:=m.e 4 47 i.f4;clear m;go_simp;exact⟨_,rfl,{i with f5:=aB}⟩
  ·refine m.g 2 i.f2 ?_;have n:=m.b 3 (h,0);clear m;go_simp;exact⟨_,rfl,{i with f6:=aB}⟩
  ·refine m.g 2 i.f2 ?_;have n:=m.e 6 49 i.f6;have H:=U i.b ru;clear m;go_simp;exact⟨_,rfl,{i with f7:=aB}⟩
  ·refine m.g 2 i.f2 ?_;have n:=m.e 7 50 i.f7;clear m;go_simp;exact⟨_,rfl,{i with f8:=aB}⟩
  ·refine m.g 2 i.f2 ?_;have n:=m.e 5 48 i.f5;have K:=m.e 8 51 i.f8;clear m;go_simp;exact⟨_,rfl,{i with f9:=aB}⟩
  ·have n:=m.e 2 45 i.f2;have e2:=m.e 9 52 i.f9;clear m;go_simp;exact⟨_,rfl,{i with f10:=aB}⟩
  ·have n:=m.e 10 53 i.f10;clear m;go_simp;exact⟨_,rfl,{i with f11:=aB}⟩
  ·refine m.g 11 i.f11 ?_;have n:=m.b 6 ((h.heap.size+1),0);clear m;go_simp;exact⟨_,rfl,{i with f12:=aB}⟩
  ·refine m.g 11 i.f11 ?_;have n:=m.e 12 55 i.f12;have H:=U i.b F;clear m;go_simp;exact⟨_,rfl,{i with f13:=aB}⟩
  ·refine m.g 11 i.f11 ?_;have n:=m.e 13 56 i.f13;clear m;go_simp;exact⟨_,rfl,{i with f14:=aB}⟩
  ·refine m.g 11 i.f11 ?_;have n:=m.e 14 57 i.f14;have H:=U i.b y;clear m;go_simp;exact⟨_,rfl,{i with f15:=aB}⟩
  ·refine m.g 11 i.f11 ?_;have n:=m.b 3 (h,0);clear m;go_simp;exact⟨_,rfl,{i with f16:=aB}⟩
  ·refine m.g 11 i.f11 ?_;have n:=m.e 16 59 i.f16;have H:=U i.b ru;clear m;go_simp;exact⟨_,rfl,{i with f17:=aB}⟩
  ·refine m.g 11 i.f11 ?_;have n:=m.e 17 60 i.f17;clear m;go_simp;exact⟨_,rfl,{i with f18:=aB}⟩
  ·refine m.g 11 i.f11 ?_;have n:=m.e 18 61 i.f18;have H:=U i.b q1;clear m;go_simp;exact⟨_,rfl,{i with f19:=aB}⟩
  ·refine m.g 11 i.f11 ?_;have n:=m.e 15 58 i.f15;have K:=m.e 19 62 i.f19;clear m;go_simp;exact⟨_,rfl,{i with f20:=aB}⟩
  ·have n:=m.e 11 54 i.f11;have e2:=m.e 20 63 i.f20;clear m;go_simp;exact⟨_,rfl,{i with f21:=aB}⟩
  ·have n:=m.e 21 64 i.f21;clear m;go_simp;exact⟨_,rfl,{i with f22:=aB}⟩
  ·refine m.g 22 i.f22 ?_;have n:=m.b 6 ((h.heap.size+1),0);have H:=U i.b g0;have jd:=U i.b N;have vK:=U i.b O;have xE:=U i.b F;clear m;go_simp;exact⟨_,rfl,{i with f23:=aB}⟩
  ·refine m.g 22 i.f22 ?_;have n:=m.b 7 (.slice ay a.length Z);clear m;go_simp;exact⟨_,rfl,{i with f24:=aB}⟩
  ·refine m.g 22 i.f22 ?_;have n:=m.e 23 66 i.f23;have K:=m.e 24 67 i.f24;clear m;go_simp;with_reducible refine(C9.1 o i.b).mono ?_
   rintro q wq ⟨rfl,p⟩;exact⟨_,rfl,{i with b:=ar i.b p,f25:=aB}⟩
  ·refine m.g 22 i.f22 ?_;have n:=m.e 25 68 i.f25;clear m;go_simp;exact⟨_,rfl,{i with f26:=aB}⟩
  ·have n:=m.e 22 65 i.f22;have e2:=m.e 26 69 i.f26;clear m;go_simp;exact⟨_,rfl,{i with f27:=aB}⟩
 simp only[jG,Act.put,Nat.reduceAdd,dD];have G:=i.b;rw[i.f27 rfl];have ui:=A G;clear i G q1 y ru;go_wp2_with fail;go_loopw[7,74] (λz0 z3 z6=>∃k:Nat,k<=a.length/\z3=k/\z0=.slice ay a.length Z/\Below W8 W8 z6) (λ_ z3 _=>a.length-(intOf z3).toNat);case atStart=>exact⟨0,bS _,rfl,rfl,ui.1⟩
 case round =>
  obtain⟨k,dg,rfl,rfl,p⟩:=hrel;have kx:=A p;clear p;by_cases aq:k<a.length
  ·have Cc:=awA.1.below kx.1;have hys:=Hb.1.below kx.1;obtain⟨la,lc,le,-,-,-,lJ⟩:=Cc.1;obtain⟨ya_,yc_,ye,-,-,-,Kb⟩:=hys.1;obtain⟨lb,lo,ea,p1,p2⟩:=lJ k (by rw[ju];exact aq);obtain⟨yb,yo,eb,q1,y⟩:=Kb k (by rw[ju];exact aq);rw[GI]at p1 p2 y;dsimp only at p1 p2 y;simp only[dr]at le ye;obtain⟨rfl,-,rfl⟩:=le;obtain⟨rfl,-,rfl⟩:=ye;subst ea;subst eb;obtain⟨v1,Ap⟩:∃z0,z0=cz (a.getD k []) (w::aQ):=⟨_,rfl⟩;obtain⟨v2,xw⟩:∃z0,z0=cz (a.getD k []) (w::P):=⟨_,rfl⟩;rw[<-Ap]at p2;rw[<-xw]at y;have aI:0<=v1/\v1<1073741789:=by rw[Ap];exact n6 _ _
   obtain⟨bb,R⟩:=aK (decide (v1=v2));obtain⟨f1,f2⟩:=Jn ab3.1 HP.1 aq aI;rw[<-xw,<-R]at f2;have z2:(v1==v2)=bb:=by rw[R];rfl
   have i0:(0:Int)<=(k:Int):=me k;have i1:(k:Int)<(a.length:Int):=by omega
   have k6:(k:Int)<64:=by omega
   obtain⟨W9,ff,X,kI,-⟩:=ee wr k v1 66;have W:=ar kx.1 X;have C:=ar RO.1 W;have Dn:=A (Ep (.slice z a.length D) (.slice B c.length E) (.slice (db,jX) (bh a) I) a c (bt (w::P)) (k:Int) v1 W9 (HR.1.below C) (HO.1.below C) (Dt.1.below W).1 (by unfold aN;omega) (dK aI));rw[f1,f2]at Dn;obtain⟨x0,x1⟩:=ez kI;replace y:=U X y;have c1:=U W N;have c2:=U W O;have c3:=U W F;obtain⟨jl,jI,dq⟩:=bJ W ff aq;clear ff X kI W C aI R Ap xw f1 f2 Cc hys lJ Kb q1 g0 N O F;go_wp2_with (rw[<-jI.1]);refine Dn.1.mono ?_;rintro q w9 ⟨rfl,X⟩;refine jM X x1 y ?_;clear x1 y;intro x1 y;replace jl:=A (ar jl.1 X);clear X x0 c1 c2 c3 p1 p2;go_wp2_with fail;refine nW (awy w9 wr.heap.size yb yo a.length Z k v1 v2 bb) (λf=>?_) ?_ (λf o i=>?_)
   ·exact⟨(aY _ _).drew,ax,ax,ax,ax,ax,ax,ax,ax,ax,ax,ax,ax,ax,ax⟩
   ·refine⟨?_,?_,?_,?_,?_,?_,?_,?_,?_,?_,?_,?_,?_,?_,trivial⟩;all_goals intro Q f o z4 i m
    ·have n:=m.b 15 (0:Int);clear m;go_simp;exact⟨_,rfl,{i with f0:=aB}⟩
    ·have n:=m.e 0 88 i.f0;clear m;go_simp;exact⟨_,rfl,{i with f1:=aB}⟩
    ·have n:=m.e 1 89 i.f1;clear m;go_simp;exact⟨_,rfl,{i with f2:=aB}⟩
    ·refine m.g 2 i.f2 ?_;have n:=m.b 14 bb;clear m;go_simp;exact⟨_,rfl,{i with f3:=aB}⟩
    ·refine m.g 2 i.f2 ?_;have n:=m.b 13 (wr,0);clear m;go_simp;exact⟨_,rfl,{i with f4:=aB}⟩
    ·refine m.g 2 i.f2 ?_;have n:=m.e 4 92 i.f4;have H:=U i.b x1;clear m;go_simp;exact⟨_,rfl,{i with f5:=aB}⟩
    ·refine m.g 2 i.f2 ?_;have n:=m.b 7 (.slice (yb,yo) a.length Z);clear m;go_simp;exact⟨_,rfl,{i with f6:=aB}⟩
    ·refine m.g 2 i.f2 ?_;have n:=m.b 12 k;clear m;go_simp;exact⟨_,rfl,{i with f7:=aB}⟩
    ·refine m.g 2 i.f2 ?_;have n:=m.e 6 94 i.f6;have K:=m.e 7 95 i.f7;clear m;go_simp;exact⟨_,rfl,{i with f8:=aB}⟩
    ·refine m.g 2 i.f2 ?_;have n:=m.e 8 96 i.f8;clear m;go_simp;exact⟨_,rfl,{i with f9:=aB}⟩
    ·refine m.g 2 i.f2 ?_;have n:=m.e 9 97 i.f9;have H:=U i.b y;clear m;go_simp;exact⟨_,rfl,{i with f10:=aB}⟩
    ·refine m.g 2 i.f2 ?_;have n:=m.e 5 93 i.f5;have K:=m.e 10 98 i.f10;clear m;go_simp;exact⟨_,rfl,{i with f11:=aB}⟩
    ·refine m.g 2 i.f2 ?_;have n:=m.e 3 91 i.f3;have K:=m.e 11 99 i.f11;clear m;go_simp;exact⟨_,rfl,{i with f12:=aB}⟩
    ·have n:=m.e 2 90 i.f2;have e2:=m.e 12 100 i.f12;clear m;go_simp;exact⟨_,rfl,{i with f13:=aB}⟩
   simp only[jG,Act.put,Nat.reduceAdd,dD];rw[i.f13 rfl];have HE9:=A (ar jl.1 i.b);go_wp2_with fail;go_roundw;case rel=>exact⟨k+1,dq.1,by go_num,rfl,HE9.1⟩
   case measure =>
    have h9:=dq.1;simp[intOf];omega
  ·obtain rfl:k=a.length:=by omega
   have R:=kx.1;refine uc R g0 N O F ?_;clear g0 N O F;intro g0 N O F;have qJ:=az R Ka.1;obtain⟨r0,r1,r2,r3⟩:=wm qJ;obtain⟨S0,S1,S2,S3,HF⟩:=gw (show wr.setCell (h.heap.size+1,0) (v+1:Int)=wr from mC g0) (show wr.setCell (h.heap.size+1,1) (.slice z a.length D)=wr from mC N) (show wr.setCell (h.heap.size+1,2) (.slice B c.length E)=wr from mC O) (show wr.setCell (h.heap.size+1,3) (.slice (db,jX) (bh a) I)=wr from mC F) R;clear R qJ;go_wp2_with (first|rw[S0.1]|rw[S1.1]|rw[S2.1]|rw[S3.1]);try simp only[Exit.inBlock,Exit.then]
   refine gB (v:=.tuple #[.agg #[(v+1:Int),.slice z a.length D,.slice B c.length E,.slice (db,jX) (bh a) I],.slice ay a.length Z,true]) ?_ rfl ?_
   ·rw[Mv rfl];go_simp
   ·exact⟨_,_,P,rfl,Dt.1.below HF.1,Hb.1.below HF.1,ab3.1,(RN.1.below HF.1).mono (by have:=Np.1;omega),fT AR.1 (HF.1.mono AR.1.size)⟩
theorem awB{m:Func}{t n f o:Tmp}(q:m.results=#[.tmp t,.tmp n,.tmp f,.tmp o])(i:Array Value)(p:Program)(h:World):
  (results m i).run p h=.ok (.tuple #[i.getD t undef,i.getD n undef,i.getD f undef,i.getD o undef]) h:=by
 simp[results,q]
def ajn(m:Int)(i:aO)(n:List (Int×Int×Int×Int))(h:World)(p:Ending)(w':World):Prop:=∃o:Value,p=.returned (.tuple #[o,.int .i64 (sI m i n),.int .i64 (xK m i n),.int .i64 0])/\Below h.heap.size h w'
theorem awC(r:Int)(D C cv tv pv:Value)(a:ak)(c q:V)(o:aO)(i:List (Int×Int×Int×Int))(h:World)(R:gz h)(T:bI h D a)(S:aM h C c)(Q:aM h cv q)(W:fC h tv o)(B:vG h pv i)
  (hp:bH a c=0) (hk:ks a r q=true) (h0:0<a.length) (m:o.length<=65536) (hl:V0 i) (hn:0<i.length) (ha:kK a c (i.map (·.1))=true):
  Calls prog 50 #[.agg #[r,D,C,cv],tv,pv] h (ajn (J q 0) o i h):=by
 obtain⟨W0,dx,n,cF,-⟩:=lF h r D C cv 33;obtain⟨K,H,I⟩:=bJ (ajc r D C cv tv pv a c q o i W0 (R.below n) (T.below n) (S.below n) (Q.below n) (W.below n) (B.below n) hp hk h0 m hl hn ha) (R.below n) (B.below n);obtain⟨a1,k1,rfl,-,eI,-⟩:=id T;obtain⟨a2,k2,rfl,-,dR,-⟩:=id S;obtain⟨a3,k3,rfl,-,gC,-⟩:=id Q;obtain⟨tA,tC,rfl,-⟩:=id W;obtain⟨pA,pC,rfl,-,xt,AO,-⟩:=id B;obtain⟨c0,c1,c2,c3⟩:=fh cF;obtain⟨tr,G,wV⟩:=bJ dx n AO;clear R T S Q W B cF dx n AO hl ha hk hp m h0 eI dR gC;obtain⟨v,Nt⟩:=aK (J q 0);rw[<-Nt]at K ⊢;clear Nt;go_enter func50,ntmps50;go_wp2_with (rw[<-tr.1]);refine K.1.mono ?_;rintro z0z s ⟨E,yv,av,rfl,Kd,-,hB,x⟩;have F:=A Kd;obtain⟨H,I,G⟩:=bJ (H.1.below x) (I.1.below x) (ar G.1 x);clear Kd hB x K tr c0 c1 c2 c3;obtain⟨pt,iX⟩:=aK (sI v o i);obtain⟨O,vF⟩:=aK (xK v o i);rw[<-iX,<-vF]at F;obtain⟨YE,UH⟩:=aR iX vF;clear iX vF;go_wp2_with fail;go_loopw[6,25] (λz6 Z z5=>∃(k:Nat) (zs:List Value),k<=i.length/\Z=k/\z5.ownsRow s.heap.size 3 1 z6 k zs/\Below s s z5) (λ_ Z _=>i.length-(intOf Z).toNat);case atStart=>exact⟨0,[],bS _,rfl,iv _ _ _ _,aY _ _⟩
 case round =>
  obtain⟨k,zs,dg,rfl,y,m⟩:=hrel;obtain⟨xa,xc,hx⟩:=xI y;subst hx;by_cases N:k<i.length
  ·obtain⟨aS,cS,eS,-,-,-,cU⟩:=I.1.below m;obtain⟨pb,po,ea,q1,q2,q3,q4⟩:=cU k N;simp only[dr]at eS;obtain⟨rfl,-,rfl⟩:=eS;subst ea;obtain⟨dP,-,-,-⟩:=wV.1 _ (bM N);have HZ:=A dP;generalize i[k].1=z1 at *;generalize i[k].2.1=z2 at *;generalize i[k].2.2.1=z3 at *;generalize i[k].2.2.2=z4 at *;have qB:(0:Int)<=(k:Int):=me k;have bW:(k:Int)<(i.length:Int):=by omega
   obtain⟨W8,ie,p,dW⟩:=tm wr z1 z2 z3 z4 59;have Dp:=A ie;obtain⟨x0,x1,x2,x3⟩:=fh dW;obtain⟨de,kx,gM,dq⟩:=cY (dM y p) (ar m p) (abf E r _ _ _ _ _ _ _ pt O v o (oB i) z1 z2 z3 z4 W8 (F.1.below (ar m p)) HZ.1 (H.1.below (ar m p))) N;clear ie p dW y m cU dP;go_wp2_with (rw[<-Dp.1]);refine gM.1.mono ?_;rintro z0z u ⟨rfl,w⟩;obtain⟨z0,hu⟩:=aK (BO v o (oB i) z1);rw[<-hu];clear hu;obtain⟨L,z⟩:=aK (u.alloc (.cells #[z0] 3));have M:Below u u L:=by rw[z];exact bk _ _ _
   have ja:Hid (L.cell? (u,0)=z0):=A (by rw[z];exact Y (World.alloc_heap_new _ _) rfl);obtain⟨zo,cO⟩:=aR (dM (dM de.1 w) M) ((ar kx.1 w).trans (M.mono (bK kx.1.size w.size)));have px:Hid (k<=1000000):=A (by omega);have nD:Hid (s.heap.size<=L.heap.size):=A cO.1.size;have fR:=A z;clear z M w gM Dp x0 x1 x2 x3;go_wp2_with (first|rw[<-fR.1]|(at_builtin;refine zX rfl _ _ rfl s.heap.size k _ _ rfl zo.1 u.heap.size 1 z0 rfl ja.1 px.1 nD.1 ?_;intro v9 w9 P g9;have H9:=A P;have B9:=A (fH zo.1 g9 nD.1);clear P g9));go_roundw;case rel=>exact⟨k+1,_,dq.1,by go_num,H9.1,cO.1.trans B9.1⟩
   case measure =>
    have P:=dq.1;simp[intOf];omega
  ·obtain rfl:k=i.length:=by omega
   have X:=F.1.below m;have c11:=Y X.row (k:=11) (d:=pt) rfl;have c12:=Y X.row (k:=12) (d:=O) rfl;have JB:=A (ar G.1 m);clear X m y;go_wp2_with fail;go_region_held3 (λw9=>w9.cell? (E,11)=pt/\w9.cell? (E,12)=O) (first|go_keep|exact⟨c11,c12⟩) (fail);all_goals
    go_wp2_with fail
    (try simp only[Exit.inBlock,Exit.then])
    refine gB (awB rfl _ _ _) rfl ?_;rw[YE.1,UH.1];exact⟨_,rfl,JB.1.drew⟩
