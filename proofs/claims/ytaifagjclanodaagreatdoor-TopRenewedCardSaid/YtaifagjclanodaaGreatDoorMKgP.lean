/- Package keygen, in plain Lean: keys, right dealings; what Deal, Qualified and Own compute. -/
import Derived.Test.YtaifagjclanodaaGreatDoorMCoM
import Derived.OneCell
set_option maxHeartbeats 8000000
set_option maxRecDepth 100000
namespace Go.Proofs.YtaifagjclanodaaGreatDoor
open Go.Proofs.Tryz
open Go.RowKit FP
variable{xs:List Value}{e:List aO}{B base c i k m n:Nat}{a:Option Addr}{L v:Value}{W W' w w':World}{ae keys:V}{rows:ak}
def AB(k:Int):Bool:=!(k==0)&&!eA k
def AD(keys:V)(b:Int):Bool:=decide ((keys.length:Int)<=b)||J keys b.toNat==0
def AE(ae keys:V):Bool:=decide (keys.length<=64)&&(!keys.any AB&&!ae.any (AD keys))
structure MO(ae keys:V):Prop where
 few:keys.length<=64
 el:∀k∈keys,k=0\/El k
 own:∀b∈ae,b<(keys.length:Int)/\J keys b.toNat≠0
theorem QY:AE ae keys=true↔MO ae keys:=by
 unfold AE;rw[cu,cu,fU,FL,FL,FK,FK];constructor
 ·rintro⟨d,f,g⟩;refine⟨d,λk h=>?_,λo j=>?_⟩
  ·have b:=f k h;unfold AB at b;by_cases p:k=0
   ·exact .inl p
   ·right;rw[eH.2 p]at b;refine oU.1 ?_;cases e:eA k with
    |true=>rfl
    |false=>rw[e]at b;simp at b
  ·have b:=g o j;unfold AD at b;simp only[KN,fU,gI,not_or]at b;exact⟨by omega,b.2⟩
 ·rintro⟨d,f,g⟩;refine⟨d,λk h=>?_,λo j=>?_⟩
  ·unfold AB;rcases f k h with rfl|b
   ·simp
   ·rw[oU.2 b];simp
  ·unfold AD;obtain⟨r,q⟩:=g o j;simp only[KN,fU,gI,not_or];exact⟨by omega,q⟩
def keyOf(ae keys:V)(i:Nat):Int:=J keys (J ae i).toNat
theorem MO.key(d:MO ae keys)(h:∀o∈ae,0<=o)(f:i<ae.length):(J ae i).toNat<keys.length/\El (keyOf ae keys i):=by
 have g:J ae i∈ae:=by rw[di f];exact bM f
 obtain⟨p,j⟩:=d.own _ g;have q:=h _ g;have b:(J ae i).toNat<keys.length:=by omega
 refine⟨b,?_⟩;unfold keyOf;have:=d.el (J keys (J ae i).toNat) (by rw[di b];exact bM b);rcases this with e|e
 ·exact absurd e j
 ·exact e
def BS(b:List gG)(k:Nat):Bool:=(b.getD k (0,0,0)).1==(k:Int)&&(eA (b.getD k (0,0,0)).2.1&&ct (b.getD k (0,0,0)).2.2 0 1073741788)
def VC(b:List gG):Bool:=(List.range b.length).all (BS b)
theorem atD{b:List gG}(f:k<b.length)(d:BS b k=false):VC b=false:=by
 cases e:VC b with
 |false=>rfl
 |true=>rw[fg.1 e k (dT.2 f)]at d;cases d
theorem ahV{b:List gG}(d:∀k,k<b.length->BS b k=true):VC b=true:=fg.2 λk f=>d k (dT.1 f)
def mX(rows:ak)(b:bD):Bool:=ct b.dealer 0 63&&(fQ rows b.cs&&(decide (b.ps.length=rows.length)&&VC b.ps))
structure tO(rows:ak)(b:bD):Prop where
 dealer:0<=b.dealer/\b.dealer<=63
 com:fQ rows b.cs=true
 len:b.ps.length=rows.length
 par:∀k (d:k<b.ps.length),b.ps[k].1=(k:Int)/\El b.ps[k].2.1/\(0<=b.ps[k].2.2/\b.ps[k].2.2<=1073741788)
theorem ahW{b:List gG}(d:k<b.length):BS b k=true↔b[k].1=(k:Int)/\El b[k].2.1/\(0<=b[k].2.2/\b[k].2.2<=1073741788):=by
 unfold BS;rw[dp d,cu,cu,gI,oU,jo]
theorem MP{j:bD}:mX rows j=true↔tO rows j:=by
 unfold mX;rw[cu,cu,cu,jo,fU];constructor
 ·rintro⟨d,f,g,h⟩;exact⟨d,f,g,λk b=>(ahW b).1 (fg.1 h k (dT.2 b))⟩
 ·rintro⟨d,f,g,h⟩;exact⟨d,f,g,ahV λk b=>(ahW b).2 (h k b)⟩
theorem tO.at{b:bD}(d:tO rows b)(f:i<rows.length):(eO b (i:Int)).1=(i:Int)/\El (eO b (i:Int)).2.1/\(0<=(eO b (i:Int)).2.2/\(eO b (i:Int)).2.2<=1073741788):=by
 have g:i<b.ps.length:=by rw[d.len];exact f
 obtain⟨h,e⟩:=Qd (a:=b) (row:=(i:Int)) ⟨by omega,by omega⟩;rw[e];exact d.par i g
theorem tO.right{b:bD}(d:tO rows b)(o:rows.length<=64)(j:i<rows.length):Jl (eO b (i:Int)).1 (eO b (i:Int)).2.1 (eO b (i:Int)).2.2:=by
 obtain⟨f,g,h⟩:=d.at j;exact⟨by rw[f];omega,g,h⟩
def BU(b:Int):Bool:=!ct b 1 1073741788
def JR(rows:ak)(ae keys:V)(dealer x:Int)(aQ us:V):Int:=
 if bH rows ae≠0 then bH rows ae else if AE ae keys=false then 370 else if ct dealer 0 63=false then 1 else
  if mo rows ae x aQ≠0 then mo rows ae x aQ else if us.length≠rows.length\/us.any BU=true then 1 else 0
def QZ(rows:ak)(ae keys:V)(dealer:Int)(us b:V)(i:Nat):gG:=
 ((i:Int),bm 4 (J us i),sy (J us i) (keyOf ae keys i) dealer (i:Int) (cz (rows.getD i []) b))
def vH(rows:ak)(ae keys:V)(dealer:Int)(us b:V)(n:Nat):List gG:=(List.range n).map (QZ rows ae keys dealer us b)
theorem ahX(rows:ak)(ae keys:V)(dealer:Int)(us b:V)(n:Nat):(vH rows ae keys dealer us b n).length=n:=by simp[vH]
theorem atE(rows:ak)(ae keys:V)(dealer:Int)(us b:V)(n:Nat):vH rows ae keys dealer us b (n+1)=vH rows ae keys dealer us b n++[QZ rows ae keys dealer us b n]:=Af _ _
def sG(rows:ak)(ae keys:V)(dealer x:Int)(aQ us:V):bD:=
 if JR rows ae keys dealer x aQ us=0 then ⟨dealer,bt (x::aQ),vH rows ae keys dealer us (x::aQ) rows.length⟩ else ⟨0,[],[]⟩
structure tP(rows:ak)(ae keys:V)(dealer x:Int)(aQ us:V):Prop where
 p0:bH rows ae=0
 keys:MO ae keys
 dl:0<=dealer/\dealer<=63
 ok:dU rows ae x aQ
 d0:mo rows ae x aQ=0
 len:us.length=rows.length
 us:∀b∈us,1<=b/\b<=1073741788
theorem abm{dealer x:Int}{aQ us:V}:JR rows ae keys dealer x aQ us=0↔tP rows ae keys dealer x aQ us:=by
 unfold JR;constructor
 ·intro b;by_cases f:bH rows ae=0;rotate_left
  ·rw[aD f]at b;exact absurd b f
  rw[aA (by simp[f])]at b;cases o:AE ae keys with
  |false=>rw[o]at b;simp at b
  |true =>
  rw[o,aA (by simp)]at b;cases j:ct dealer 0 63 with
  |false=>rw[j]at b;simp at b
  |true =>
  rw[j,aA (by simp)]at b;by_cases d:mo rows ae x aQ=0;rotate_left
  ·rw[aD d]at b;exact absurd b d
  rw[aA (by simp[d])]at b;by_cases g:us.length≠rows.length\/us.any BU=true
  ·rw[aD g]at b;cases b
  ·rw[not_or,Decidable.not_not]at g;refine⟨f,QY.1 o,jo.1 j,Zt d,d,g.1,λr p=>?_⟩;have h:us.any BU=false:=by simpa using g.2
   have:=FK.1 h r p;unfold BU at this;exact jo.1 (by simpa using this)
 ·rintro⟨s,h,t,C,u,y,z⟩;rw[aA (by simp[s]),QY.2 h,aA (by simp),jo.2 t,aA (by simp),aA (by simp[u]),aA];rintro(b|b)
  ·exact b y
  ·obtain⟨r,p,q⟩:=oI.1 b;unfold BU at q;rw[jo.2 (z r p)]at q;cases q
def GX(rows:ak)(ae keys:V)(b:bD)(c:cP):Bool:=
 (decide (c.dealer=b.dealer)&&(decide (0<=c.row)&&decide (c.row<(rows.length:Int))))&&(tE rows ae (keyOf ae keys c.row.toNat) b c==0&&vE rows ae (keyOf ae keys c.row.toNat) b c==1)
def VD(rows:ak)(ae keys:V)(cl:List cP)(b:bD):Bool:=mX rows b&&!cl.any (GX rows ae keys b)
def GY(rows:ak)(ae keys:V)(cl:List cP)(l:List bD):List bD:=l.filter (VD rows ae keys cl)
def eW(l:List bD):V:=l.map (·.dealer)
def qt(l:List bD):Bool:=(List.range (l.length-1)).all λi=>decide (J (eW l) i<J (eW l) (i+1))
def lH:List bD->V
 |[]=>[]
 |b::d=>lZ b.cs (d.map (·.cs))
def MS(rows:ak)(ae keys:V)(l:List bD)(cl:List cP):Int:=
 if bH rows ae≠0 then bH rows ae else if AE ae keys=false then 370 else if 64<l.length\/4096<cl.length then 2 else
  if qt l=false then 370 else if GY rows ae keys cl l=[] then 370 else 0
theorem xA(l:List bD):(eW l).length=l.length:=by simp[eW]
theorem Q7{l:List bD}(b:k<l.length):J (eW l) k=l[k].dealer:=by rw[di (by rw[xA];exact b)];simp[eW]
theorem atF{l:List bD}(d:k+1<l.length)(b:¬ J (eW l) k<J (eW l) (k+1)):qt l=false:=by
 cases e:qt l with
 |false=>rfl
 |true=>exact absurd (Cp (fg.1 e k (dT.2 (by omega)))) b
theorem abn{l:List bD}(b:∀k,k+1<l.length->J (eW l) k<J (eW l) (k+1)):qt l=true:=
 fg.2 λk d=>bB (b k (by have:=dT.1 d;omega))
theorem VE{l:List bD}(b:qt l=true):(eW l).Pairwise (·<·):=by
 have f:∀k,k+1<l.length->J (eW l) k<J (eW l) (k+1):=λk q=>Cp (fg.1 b k (dT.2 (by omega)));rw[Co];intro i d h j p;have r:=xA l;have g:∀n i,i+n+1<l.length->J (eW l) i<J (eW l) (i+n+1):=by
  intro n
  induction n with
  |zero=>intro i b;exact f i b
  |succ n o=>intro i b;exact Int.lt_trans (o i (by omega)) (f (i+n+1) b)
 have:=g (d-i-1) i (by omega);rw[show i+(d-i-1)+1=d by omega,di h,di j]at this;exact this
def y9(rows:ak)(n:Int)(b:bD):Bool:=b.dealer==n&&mX rows b
def findD(rows:ak)(l:List bD)(n:Int):bD:=(l.find? (y9 rows n)).getD ⟨0,[],[]⟩
def AF(rows:ak)(l:List bD)(b:V)(k:Nat):Bool:=l.any (y9 rows (J b k))&&(decide (k=0)||decide (J b (k-1)<J b k))
def Q8(rows:ak)(l:List bD)(b:V):Bool:=(List.range b.length).all (AF rows l b)
def Fa(rows:ak)(ae:V)(f b:Int)(d:V)(l:List bD):Int:=
 if bH rows ae≠0 then bH rows ae else if ct f 1 1073741788=false then 110 else if b<0\/(rows.length:Int)<=b then 1 else
  if 64<l.length then 2 else if qt l=false then 370 else if Q8 rows l d=false then 370 else 0
def xB(rows:ak)(f d:Int)(b:V)(l:List bD):Nat->Int
 |0=>0
 |k+1=>(xB rows f d b l k+mkV f (findD rows l (J b k)) d)%1073741789
theorem atG(rows:ak)(f d:Int)(b:V)(l:List bD):∀k,0<=xB rows f d b l k/\xB rows f d b l k<1073741789
 |0=>by show(0:Int)<=0/\(0:Int)<1073741789;omega
 |k+1=>by show 0<=(_:Int)%1073741789/\(_:Int)%1073741789<1073741789;omega
def MT(rows:ak)(ae:V)(f d:Int)(b:V)(l:List bD):Int:=if Fa rows ae f d b l=0 then xB rows f d b l b.length else 0
def MU(rows:ak)(ae:V)(f b:Int)(d:V)(l:List bD):Int:=if Fa rows ae f b d l=0 then b else 0
theorem ahY{l:List bD}{b:V}(f:k<b.length)(d:AF rows l b k=false):Q8 rows l b=false:=by
 cases e:Q8 rows l b with
 |false=>rfl
 |true=>rw[fg.1 e k (dT.2 f)]at d;cases d
theorem ahZ{l:List bD}{b:V}(d:∀k,k<b.length->AF rows l b k=true):Q8 rows l b=true:=fg.2 λk f=>d k (dT.1 f)
theorem abo{l:List bD}{n:Int}(f:l.any (y9 rows n)=true):findD rows l n∈l/\(findD rows l n).dealer=n/\tO rows (findD rows l n):=by
 unfold findD;cases e:l.find? (y9 rows n) with
 |none =>
  obtain⟨d,h,b⟩:=oI.1 f;exact absurd b (by have:=List.find?_eq_none.1 e d h;simpa using this)
 |some d =>
  have g:=List.mem_of_find?_eq_some e;have b:=List.find?_some e;unfold y9 at b;rw[cu,gI]at b;exact⟨g,b.1,MP.1 b.2⟩
theorem ah0{f:Int}{b:bD}{d:Int}(h:mkB rows ae f b d=true):
  tE rows ae (bm 4 f) b (pB rows ae f b d)=0/\vE rows ae (bm 4 f) b (pB rows ae f b d)=1/\(pB rows ae f b d).dealer=b.dealer/\(pB rows ae f b d).row=d:=by
 have u:pB rows ae f b d=⟨b.dealer,d,bm (eO b d).2.1 f,tw f (eO b d).2.1,yO f (eO b d).2.1⟩:=by unfold pB;rw[aD h]
 unfold mkB at h;rw[cu,gI,FL]at h;obtain⟨g,y⟩:=h;unfold tD at g;by_cases j:cE rows ae b=0;rotate_left
 ·rw[aD j]at g;exact absurd g j
 rw[aA (by simp[j])]at g;cases s:ct f 1 1073741788 with
 |false=>rw[s]at g;simp at g
 |true =>
 rw[s,aA (by simp)]at g;by_cases p:d<0\/(b.ps.length:Int)<=d
 ·rw[aD p]at g;cases g
 rw[aA p]at g;obtain⟨z,t,o⟩:=UK.1 g;have r:=arv o.pt f;have q:tE rows ae (bm 4 f) b ⟨b.dealer,d,bm (eO b d).2.1 f,tw f (eO b d).2.1,yO f (eO b d).2.1⟩=0:=by
  unfold tE;rw[aA (by simp[j]),aA (by simpa using p),aA (by rw[r];simp)];exact aat.2 ⟨fJ o.pt f,t,o⟩
 rw[u];refine⟨q,?_,rfl,rfl⟩;unfold vE;rw[aA (by rw[q];simp),aA (by rw[r];simp),aA];show ¬ BG rows b d (mkV f b d)=true;rw[y];simp
section
variable {rows:ak} {ae keys:V} {cl:List cP} {l:List bD}
theorem ah1{n:Nat}:∀(f:ak) (b:V),(∀c∈b,El c)->b.length=n->(∀d∈f,(∀c∈d,El c)/\d.length=n)->(∀c∈lZ b f,El c)/\(lZ b f).length=n
 |[],b,g,h,_=>⟨g,h⟩
 |d::q,b,g,h,j=>by
  obtain⟨o,r⟩:=j d wh;exact ah1 q (mulL b d) (aaU g o (by omega)) (by rw[Mr];exact h) λe p=>j e (wi _ p)
theorem ah2{L:List bD}(g:L≠[])(f:∀b∈L,tO rows b):(∀c∈lH L,El c)/\(lH L).length=bh rows:=by
 cases L with
 |nil=>exact absurd rfl g
 |cons b p =>
  have d:=GP (f b wh).com;refine ah1 _ _ d.1 d.2 λo h=>?_;obtain⟨e,j,rfl⟩:=ey.1 h;exact GP (f e (wi _ j)).com
theorem atH(o:qt l=true){f e:bD}(p:f∈l)(q:e∈l)(r:f.dealer=e.dealer):f=e:=by
 have d:=VE o;unfold eW at d;rw[Sy]at d;obtain⟨i,h,rfl⟩:=Cs p;obtain⟨g,j,rfl⟩:=Cs q;rcases SH i g with b|b|b
 ·have:=(Co.1 d) i g h j b;omega
 ·subst b;rfl
 ·have:=(Co.1 d) g i j h b;omega
theorem atI(f:qt l=true){b:bD}(d:b∈l)(j:tO rows b):findD rows l b.dealer=b:=by
 have ha:l.any (y9 rows b.dealer)=true:=oI.2 ⟨b,d,by unfold y9;rw[MP.2 j];simp⟩;obtain⟨g,h,-⟩:=abo ha;exact atH f g d h
theorem atJ{L:List bD}(b:(eW L).Pairwise (·<·)):qt L=true:=abn λk d=>by
 have f:=xA L;rw[di (by omega),di (by omega)];exact Co.1 b k (k+1) (by omega) (by omega) (by omega)
theorem atK{L:List bD}(b:qt l=true)(d:L.Sublist l):qt L=true:=atJ ((VE b).sublist (d.map _))
theorem atL{L:List bD}(g:qt l=true)(d:L.Sublist l)(j:∀f∈L,tO rows f):Q8 rows l (eW L)=true:=ahZ λk o=>by
 have p:=xA L;have b:k<L.length:=by omega
 unfold AF;rw[cu];constructor
 ·refine oI.2 ⟨L[k],d.subset (bM b),?_⟩;unfold y9;rw[Q7 b,MP.2 (j _ (bM b))];simp
 ·by_cases h:k=0
  ·rw[bB h];rfl
  ·have:=Co.1 (VE (atK g d)) (k-1) k (by omega) (by omega) (by omega);rw[di (by omega),di (by omega),bB this,N0]
theorem ah3{L:List bD}(h:qt l=true)(o:L.Sublist l)(j:∀g∈L,tO rows g)(d b:Int):∀k,k<=L.length->xB rows d b (eW L) l k=(L.take k).foldl (λa g=>(a+mkV d g b)%1073741789) 0
 |0,_=>by simp[xB]
 |k+1,p=>by
  have f:k<L.length:=by omega
  show(xB rows d b (eW L) l k+mkV d (findD rows l (J (eW L) k)) b)%1073741789=_;rw[ah3 h o j d b k (by omega),jv f,DC,Q7 f,atI h (o.subset (bM f)) (j _ (bM f))];rfl
theorem atM{L:List bD}(g:qt l=true)(j:L.Sublist l)(h:∀b∈L,tO rows b)(f d:Int):xB rows f d (eW L) l (eW L).length=L.foldl (λa b=>(a+mkV f b d)%1073741789) 0:=by
 rw[xA,ah3 g j h f d _ (aP _),m9]
theorem atN:(GY rows ae keys cl l).Sublist l:=List.filter_sublist
end
section
variable {rows:ak} {ae keys bu:V} {dealer x:Int} {aQ us:V}
structure KeysOf(ae bu keys:V):Prop where
 eq:keys=bu.map (bm 4)
 sec:∀b∈bu,1<=b/\b<=1073741788
 ok:MO ae keys
 own:∀d∈ae,0<=d
def gO(ae bu:V)(i:Nat):Int:=J bu (J ae i).toNat
theorem KeysOf.at(b:KeysOf ae bu keys){i:Nat}(g:i<ae.length):(J ae i).toNat<bu.length/\(1<=gO ae bu i/\gO ae bu i<=1073741788)/\keyOf ae keys i=bm 4 (gO ae bu i):=by
 obtain⟨f,-⟩:=b.ok.key b.own g;have d:(J ae i).toNat<bu.length:=by rw[b.eq,dy]at f;exact f
 refine⟨d,b.sec _ (by unfold gO;rw[di d];exact bM d),?_⟩;unfold keyOf gO;rw[b.eq,EN d]
def MW(rows:ak)(b:V)(i:Nat):Int:=cz (rows.getD i []) b
theorem tP.sd(b:tP rows ae keys dealer x aQ us)(d:KeysOf ae bu keys):SD rows ae x aQ dealer (gO ae bu) (J us) (MW rows (x::aQ)) where
 ok:=b.ok
 p0:=b.p0
 dl:=b.dl
 hs i hi:=(d.at (by rw[<-b.ok.prog.len];exact hi)).2.1
 hu i hi:=b.us _ (by rw[di (by rw[b.len];exact hi)];exact bM _)
 hv i _:=by have:=n6 (rows.getD i []) (x::aQ);unfold MW;omega
theorem abp(d:tP rows ae keys dealer x aQ us)(f:KeysOf ae bu keys):sG rows ae keys dealer x aQ us=tF rows (x::aQ) dealer (gO ae bu) (J us) (MW rows (x::aQ)):=by
 unfold sG;rw[aD (abm.2 d)];unfold tF vH;refine congrArg (bD.mk dealer (bt (x::aQ))) ?_;refine xZ λi b=>?_;have b:=dT.1 b;unfold QZ GM MW;rw[(f.at (by rw[<-d.ok.prog.len];exact b)).2.2]
theorem MX(b:tP rows ae keys dealer x aQ us):(sG rows ae keys dealer x aQ us).dealer=dealer/\(sG rows ae keys dealer x aQ us).cs=bt (x::aQ)/\(sG rows ae keys dealer x aQ us).ps.length=rows.length:=by
 unfold sG;rw[aD (abm.2 b)];exact⟨rfl,rfl,ahX _ _ _ _ _ _ _⟩
theorem abq(b:tP rows ae keys dealer x aQ us)(d:KeysOf ae bu keys){i:Nat}(f:i<rows.length):mkV (gO ae bu i) (sG rows ae keys dealer x aQ us) (i:Int)=cz (rows.getD i []) (x::aQ):=by
 rw[abp b d,(b.sd d).mkV f];rfl
end
def nF(n b:Int):Bool:=decide (0<=n)&&decide (n<b)
theorem VF{n b:Int}:nF n (b+1)=ct n 0 b:=by
 unfold nF ct
 congr 1
 exact N7.2 (by omega)
theorem JS(n b:Int)(w:World):Calls prog 73 #[n,b] w λg w'=>g=.returned (.bool (nF n b))/\w=w':=by
 by_cases f:0<=n
 ·have d:=A (show nF n b=decide (n<b) by unfold nF;rw[bB f,jY]);go_enter func73,ntmps73;go_wp2_with fail;go_ret;exact⟨cg d.1.symm,rfl⟩
 ·have d:=A (show nF n b=false by unfold nF;rw[bw f,uP]);go_enter func73,ntmps73;go_wp2_with fail;go_ret;exact⟨cg d.1.symm,rfl⟩
theorem JT(x:Int)(w:World):Calls prog 70 #[x,(0:Int)] w λb w'=>b=.returned x/\w=w':=by
 go_enter func70,ntmps70;go_wp2_with fail;go_ret;exact⟨rfl,rfl⟩
theorem Q9(x e:Int)(w:World)(b:e≠0):Calls prog 70 #[x,e] w λd w'=>d=.panicked (Cw e)/\w=w':=by
 have f:(e !=0)=true:=jg.2 b;clear b;go_enter func70,ntmps70;go_wp2_with fail;exact⟨rfl,rfl,rfl⟩
theorem zd(e:Int)(w:World):Calls prog 71 #[true,e] w λb w'=>b=.returned (.tuple #[])/\w=w':=by
 go_enter func71,ntmps71;go_wp2_with fail;go_end0;exact⟨rfl,rfl⟩
theorem vI(e:Int)(w:World)(b:e≠0):Calls prog 71 #[false,e] w λd w'=>d=.panicked (Cw e)/\w=w':=by
 have f:=A b;clear b;go_enter func71,ntmps71;go_wp2_with fail;with_reducible refine(Q9 0 e _ f.1).mono ?_
 rintro d g ⟨rfl,rfl⟩;go_wp2_with fail;exact⟨rfl,rfl,rfl⟩
theorem atO(a b c:Int)(w:World):Calls prog 76 #[.agg #[a,b,c],(0:Int)] w λF w'=>F=.returned (.agg #[a,b,c])/\Below w w w':=by
 obtain⟨u,j,p,o,q⟩:=C4 w a b c 88;obtain⟨G,h,f,g,D⟩:=C4 u (0:Int) (0:Int) (0:Int) 88;have t:=A (az f o);rw[q]at g;have d:=A g;rw[j]at h;obtain⟨E,s⟩:=aR h (ar p f);clear j h p f o g q D;obtain⟨H,I,K⟩:=jZ t.1;obtain⟨M,N,O⟩:=jZ d.1;obtain⟨P,Q,R⟩:=Xw d.1;have r:=cK (cK (cK d.1 0 a) 1 b) 2 c;obtain⟨y,z,C⟩:=jZ r;clear r;go_enter func76,ntmps76;go_wp2_with (rw[<-E.1]);refine gB (v:=.agg #[a,b,c]) (by simp[results,results76,go_sem,y,z,C]) rfl ⟨rfl,?_⟩;exact((s.1.setCell (by simp only;omega) _).setCell (by simp only;omega) _).setCell (by simp only;omega) _
theorem MY(p:Addr)(x e:Int)(d:List PanicEntry)(w:World)(z:w.cell? p=x)(C:w.frozen? p=false):
  CallsD prog 69 #[.pointer (some p)] (.panicking ({v:=.iface 29 e,recovered:=false}::d)) w λh j w' =>
   h=.returned (.tuple #[])/\j=.panicking ({v:=.iface 29 e,recovered:=true}::d)/\w'=w.setCell p e:=by
 have y:∀w,(Instr.typeAssert (.iface 29 e) 20 29 true).run prog w=.ok (.tuple #[e,true]) w:=λ_=>by kernel_rfl
 refine FC func69 rfl λc₀ o s=>?_;simp only[ntmps69,kS,dZ,je,Nat.reduceAdd,Nat.reduceSub,kU,kV,kW,kX,jf,jn];apply zM;apply zN;simp[wpOpsS,go_sem,recoverD,s,Exit.thenS];generalize r:({fn:=c₀.fn,tmps:=c₀.tmps,todo:=c₀.todo,defers:=c₀.defers,mode:=FrameMode.panicking ({v:=Value.iface 29 (Value.int IntKind.i64 e),recovered:=true}::d),kind:=c₀.kind,roundOf:=c₀.roundOf}:Frame)=u;have t:=A (show ∀b w',b.defers=[]->w'=w.setCell p e->bodyPostS prog Tryz.f69 c₀ o (λh j w'=>h=Ending.returned (Value.tuple #[])/\j=FrameMode.panicking ({v:=Value.iface 29 (Value.int IntKind.i64 e),recovered:=true}::d)/\w'=w.setCell p (Value.int IntKind.i64 e)) .normal b (u::o) w' by
  intro b w' f g;simp[bodyPostS,results,results69,f,g,<-r])
 clear r s;refine FD ?_;refine wp_mono (Q:=λq b w'=>q=.normal/\b.defers=[]/\w'=w.setCell p e) ?_ ?_
 ·go_wp2
 ·rintro q b w' ⟨rfl,f,g⟩;exact t.1 b w' f g
theorem atP(p:Addr)(w:World):
  CallsD prog 69 #[.pointer (some p)] .returning w λd f w'=>d=.returned (.tuple #[])/\f=.returning/\w'=w:=by
 refine FC func69 rfl λc₀ g b=>?_;apply zM;apply zN;simp[wpOpsS,go_sem,recoverD,b,ntmps69,Exit.thenS];apply zM;apply zN;simp[wpOpsS,go_sem,Exit.thenS];refine wpS_cond (t:=false) (by simp[Act.eval,Array.replicate]) ?_;simp only[FE,Ck];refine FD (wp_skip ?_);cases c₀;simp_all[bodyPostS,results,results69]
theorem atQ(z:Int)(w:World)(f:aN z):Calls prog 140 #[z] w λg w'=>g=.returned (.bool (AB z))/\w=w':=by
 by_cases b:z=0
 ·have d:=A (show AB z=false by unfold AB;rw[b];rfl);have j:(z !=0)=false:=by rw[b];rfl
  clear b;go_enter func140,ntmps140;go_wp2_with fail;go_ret;exact⟨cg d.1.symm,rfl⟩
 ·have d:=A (show AB z=!eA z by unfold AB;rw[eH.2 b];rfl);have j:(z !=0)=true:=jg.2 b;have h:=A (λw=>tf z w f);clear b f;go_enter func140,ntmps140;go_wp2_with fail;with_reducible refine(h.1 _).mono ?_
  rintro g o ⟨rfl,rfl⟩;go_wp2_with fail;go_ret;exact⟨cg d.1.symm,rfl⟩
theorem atS(w:World)(b:V)(f:∀z∈b,aN z):yl 140 #[] w AB b:=
 λz g w' _=>(atQ z w' (f z g)).mono λ_ _ ⟨d,e⟩=>⟨d,e▸aY _ _⟩
theorem atT:eQ prog 140:=iw func140 (by kernel_rfl) rfl
theorem atU(p:Nat)(q:Value)(keys:V)(b:Int)(w:World)(u:w.cell? (p,0)=some q)(r:aM w q keys)(j:0<=b):Calls prog 141 #[b,(p,0)] w λs w'=>s=.returned (.bool (AD keys b))/\w=w':=by
 obtain⟨a,y,rfl,-,-,-,h⟩:=r;by_cases d:(keys.length:Int)<=b
 ·have f:=A (show AD keys b=true by unfold AD;rw[bB d,Bool.true_or]);have o:decide ((keys.length:Int)<=b)=true:=bB d;clear d h j;go_enter func141,ntmps141;go_wp2_with fail;go_ret;exact⟨cg f.1.symm,rfl⟩
 ·have o:decide ((keys.length:Int)<=b)=false:=bw d;obtain⟨k,rfl⟩:∃k:Nat,b=(k:Int):=⟨b.toNat,by omega⟩;have g:k<keys.length:=by omega
  obtain⟨t,E,rfl,F⟩:=h k g;have f:=A (show AD keys (k:Int)=(keys[k]==0) by unfold AD;rw[o,DB,AZ,di g]);have C:(0:Int)<=(k:Int):=j;have D:(k:Int)<(keys.length:Int):=by omega
  have z:decide (keys.length<=k)=false:=bw (by omega);clear h d j;generalize keys[k]=x at *;clear g;go_enter func141,ntmps141;go_wp2_with fail;go_ret;exact⟨cg f.1.symm,rfl⟩
theorem atV(b:Nat)(d:Value)(keys:V)(w:World)(g:V)(h:w.cell? (b,0)=some d)(o:aM w d keys)(p:∀z∈g,0<=z):yl 141 #[(b,0)] w (AD keys) g:=
 λz q w' f=>(atU b d keys z w' (U f h) (o.below f) (p z q)).mono λ_ _ ⟨j,e⟩=>⟨j,e▸aY _ _⟩
theorem atW:eQ prog 141:=iw func141 (by kernel_rfl) rfl
theorem ah4(rv ov r:Value)(ae keys:V)(w:World)(hR:∃a n c,rv=.slice a n c)(D:aM w ov ae)(C:aM w r keys)(P:∀z5∈ae,0<=z5):
  Calls prog 72 #[.agg #[rv,ov],r] w λs w'=>s=.returned (.bool (AE ae keys))/\Below w.heap.size w w':=by
 obtain⟨o,z,I,K,hz⟩:=ee w rv ov 25;have O:o.heap.size=w.heap.size+1:=by rw[z];simp
 obtain⟨f,g⟩:=aK (o.alloc (.cells #[r] 23));have u:Below o.heap.size o f:=by rw[g];exact bk _ _ _
 have H:f.heap[w.heap.size+1]?=some (.cells #[r] 23 (0,0)):=by rw[g,<-O];exact World.alloc_heap_new _ _
 have p:=ar I u;obtain⟨Q,G⟩:=aR (D.below p) (C.below p);obtain⟨a1,n1,k1,rfl⟩:=hR;obtain⟨R,k2,rfl,-,dR,-⟩:=id D;obtain⟨S,k3,rfl,-,gC,M,-⟩:=id C;have X:=Y (az u K) (k:=1) (d:=.slice R ae.length k2) rfl;have z0:=Y H (k:=0) (d:=.slice S keys.length k3) rfl;rw[z]at g;obtain⟨y,t,j,ve⟩:=cY g p (wx 140 #[] AB _ keys f G.1 atT (atS _ _ M)) (λF (E:Below f.heap.size f F)=>wx 141 #[.pointer (some ⟨w.heap.size+1,0,none⟩)] (AD keys) _ ae F (Q.1.below E) atW (atV _ _ keys F ae (U E z0) (G.1.below E) P));clear D C p I u K H z g O hz M P;by_cases q:keys.length<=64;rotate_left
 ·have b:=A (show AE ae keys=false by unfold AE;rw[bw q,uP]);have Z:decide ((keys.length:Int)<=64)=false:=bw (by omega);clear q;go_enter func72,ntmps72;go_wp2_with (rw[<-y.1]);go_ret;exact⟨cg b.1.symm,t.1⟩
 have b:=A (show AE ae keys=(!keys.any AB&&!ae.any (AD keys)) by unfold AE;rw[bB q,jY]);have Z:decide ((keys.length:Int)<=64)=true:=bB (by omega);clear q;generalize ae.any (AD keys)=q2 at *;cases d:keys.any AB with
 |true =>
  rw[d]at j;replace b:=A (b.1.trans (show _=false by simp[d]));clear d;go_enter func72,ntmps72;go_wp2_with (rw[<-y.1]);refine j.1.mono ?_;rintro s w2 ⟨rfl,h⟩;go_wp2_with fail;go_ret;exact⟨cg b.1.symm,ar t.1 h⟩
 |false =>
  rw[d]at j;replace b:=A (b.1.trans (show _=!q2 by simp[d]));clear d;go_enter func72,ntmps72;go_wp2_with (rw[<-y.1]);refine j.1.mono ?_;rintro s w2 ⟨rfl,h⟩;have c1':=U h X;have N:=A h;clear h;go_wp2_with fail;refine(ve.1 _ N.1).mono ?_;rintro s w3 ⟨rfl,T⟩;go_wp2_with fail;go_ret;have eG:=ar t.1 N.1;exact⟨cg b.1.symm,ar eG T⟩
theorem atX(z:Int)(w:World)(b:aN z):Calls prog 193 #[z] w λd w'=>d=.returned (.bool (j8 z))/\w=w':=by
 have f:=A (λw=>tf z w b);clear b;go_enter func193,ntmps193;go_wp2_with fail;with_reducible refine(f.1 _).mono ?_
 rintro d g ⟨rfl,rfl⟩;go_wp2_with fail;go_ret;exact⟨rfl,rfl⟩
theorem atY(w:World)(b:V)(f:∀z∈b,aN z):yl 193 #[] w j8 b:=
 λz g w' _=>(atX z w' (f z g)).mono λ_ _ ⟨d,e⟩=>⟨d,e▸aY _ _⟩
theorem atZ:eQ prog 193:=iw func193 (by kernel_rfl) rfl
theorem at0{b:bD}(d:nF b.dealer 64=false):mX rows b=false:=by
 unfold mX;rw[<-VF (n:=b.dealer) (b:=63),show(63:Int)+1=64 from rfl,d];rfl
theorem at1{b:bD}(d:b.cs.length≠bh rows):mX rows b=false:=by
 unfold mX fQ;rw[bw d,KU];simp
theorem at2{b:bD}(d:b.cs.any j8=true):mX rows b=false:=by
 unfold mX fQ;rw[d];simp
theorem at3{b:bD}(d:b.ps.length≠rows.length):mX rows b=false:=by
 unfold mX;rw[bw d];simp
theorem at4{b:bD}(f:k<b.ps.length)(d:BS b.ps k=false):mX rows b=false:=by
 unfold mX;rw[atD f d];simp
theorem at5{b:bD}(d:nF b.dealer 64=true)(f:b.cs.length=bh rows)(g:b.cs.any j8=false)(h:b.ps.length=rows.length)(j:∀k,k<b.ps.length->BS b.ps k=true):mX rows b=true:=by
 unfold mX fQ;rw[<-VF (n:=b.dealer) (b:=63),show(63:Int)+1=64 from rfl,d,g,bB f,bB h,ahV j];rfl
theorem at6(rv ov cv pv:Value)(rows:ak)(b:bD)(w:World)(hR:bI w rv rows)(ho:∃a n c,ov=.slice a n c)(hC:aM w cv b.cs)(hP:ir w pv b.ps):
  Calls prog 161 #[.agg #[rv,ov],.agg #[b.dealer,cv,pv]] w λe w'=>e=.returned (.bool (mX rows b))/\Below w w w':=by
 obtain⟨W0,X,bO,cF,-⟩:=ee w rv ov 25;have fl:W0.heap.size=w.heap.size+1:=by rw[X];simp
 obtain⟨W1,O,R,P,-⟩:=C4 W0 b.dealer cv pv 84;have j:=ar bO R;have Q0:=A (az R cF);rw[fl]at P;obtain⟨Q1,HR,HC,HP⟩:=cY P (hR.below j) (hC.below j) (hP.below j);obtain⟨a1,k1,rfl,-,eI,-⟩:=id hR;obtain⟨a2,n2,k2,rfl⟩:=ho;obtain⟨a3,k3,rfl,-,gC,iY,-⟩:=id hC;obtain⟨a4,k4,rfl,-,fj,-⟩:=id hP;rw[X]at O;obtain⟨bp,E⟩:=aR O j;have S:=Y Q0.1 (k:=0) (d:=.slice a1 rows.length k1) rfl;obtain⟨d0,d1,T⟩:=jZ Q1.1;obtain⟨I,eT⟩:=aR (wx 193 #[] j8 _ b.cs W1 HC.1 atZ (atY _ _ iY)) (λk (f:k<b.ps.length)=>HP.1.at f);clear hR hC hP j bO R cF P X O fl iY;go_enter func161,ntmps161;go_upto_if 12 with(rw[<-bp.1]);go_cut [5] from 13 to 17 (λn W=>n=.int .i64 (bh rows:Nat)/\W=W1);case first =>
  by_cases Z:rows.length=0
  ·have d:=A (show bh rows=1 by unfold bh;rw[aD Z]);go_wp2_with fail;go_meet;exact⟨by rw[d.1];rfl,rfl⟩
  ·have d:=A (show bh rows=wide rows by unfold bh;rw[aA Z]);have i3:(0:Int)<(rows.length:Int):=by omega
   have i4:0<rows.length:=by omega
   obtain⟨aa,cc,e1,-,-,H⟩:=HR.1;obtain⟨z0,off,r,ha,q1,hI⟩:=H 0 (by omega);simp only[dr]at e1;obtain⟨rfl,-,rfl⟩:=e1;subst ha;rw[rF]at q1;obtain⟨ra,rc,rfl,-⟩:=id hI;rw[A7 rows (by omega)]at q1;clear H hI Z;generalize wide rows=m at *;go_wp2_with fail;go_meet;exact⟨by rw[d.1],rfl⟩
 case rest =>
  obtain⟨rfl,rfl⟩:=hcut;obtain⟨HFD,JU,uu,HFP,HFK,HFA,y⟩:=qy (λf=>at0 (rows:=rows) (b:=b) f) (λf=>at1 (rows:=rows) (b:=b) f) (λf=>at2 (rows:=rows) (b:=b) f) (λf=>at3 (rows:=rows) (b:=b) f) (λk H f=>at4 (rows:=rows) (b:=b) (k:=k) H f) (λh1 h2 h3 h4 h5=>at5 (rows:=rows) (b:=b) h1 h2 h3 h4 h5) (λw=>JS b.dealer 64 w);cases q:nF b.dealer 64 with
  |false =>
   rw[q]at y;have d:=A (HFD.1 q);clear q;go_wp2_with fail;with_reducible refine(y.1 _).mono ?_
   rintro r u ⟨rfl,rfl⟩;go_wp2_with fail;go_ret;exact⟨cg d.1.symm,E.1⟩
  |true =>
  rw[q]at y;by_cases z:b.cs.length=bh rows;rotate_left
  ·have d:=A (JU.1 z);have x1:((b.cs.length:Int)!=((bh rows:Nat):Int))=true:=jg.2 (by omega);clear z q;go_wp2_with fail;with_reducible refine(y.1 _).mono ?_
   rintro r u ⟨rfl,rfl⟩;go_wp2_with fail;go_ret;exact⟨cg d.1.symm,E.1⟩
  have x1:((b.cs.length:Int)!=((bh rows:Nat):Int))=false:=by rw[z];simp
  obtain⟨vB,Fb⟩:=aR z q;clear z q;go_wp2_with fail;with_reducible refine(y.1 _).mono ?_
  rintro r u ⟨rfl,rfl⟩;cases t:b.cs.any j8 with
  |true =>
   rw[t]at I;have d:=A (uu.1 t);clear t;go_wp2_with fail;with_reducible refine I.1.mono ?_
   rintro r u ⟨rfl,p⟩;have C:=A (ar E.1 p);clear p;go_wp2_with fail;go_ret;exact⟨cg d.1.symm,C.1⟩
  |false =>
  rw[t]at I;have Qp:=A t;clear t;go_wp2_with fail;with_reducible refine I.1.mono ?_
  rintro r u ⟨rfl,p⟩;obtain⟨C,nG⟩:=aR (ar E.1 p) (HP.1.below p);refine jM p S T ?_;clear S T;intro S T;clear p;by_cases D:b.ps.length=rows.length;rotate_left
  ·have d:=A (HFP.1 D);have x2:((b.ps.length:Int)!=(rows.length:Int))=true:=jg.2 (by omega);clear D;go_wp2_with fail;go_ret;exact⟨cg d.1.symm,C.1⟩
  have x2:((b.ps.length:Int)!=(rows.length:Int))=false:=by rw[D];simp
  have rh:=A D;clear D;go_wp2_with fail;go_loopw[7,8,47] (λ_ _ i W=>∃k:Nat,k<=b.ps.length/\i=.int .i64 k/\Hid (∀g,g<k->BS b.ps g=true)/\Below u u W) (λ_ _ i _=>b.ps.length-(intOf i).toNat);case atStart=>exact⟨0,bS _,rfl,A (λg f=>absurd f (fG g)),aY _ _⟩
  case round =>
   obtain⟨k,dg,rfl,HK,j⟩:=hrel;by_cases Q:k<b.ps.length
   ·obtain⟨xb,xo,hx,y0,y1,y2,iX⟩:=(nG.1.below j).at Q;subst hx;obtain⟨h,N⟩:=aR (show BS b.ps k=(b.ps[k].1==(k:Int)&&(eA b.ps[k].2.1&&ct b.ps[k].2.2 0 1073741788)) by unfold BS;rw[dp Q]) (λf=>HFK.1 k Q f);obtain⟨K,JC⟩:=aK (b.ps[k].1);obtain⟨M,Dg⟩:=aK (b.ps[k].2.1);obtain⟨o,nH⟩:=aK (b.ps[k].2.2);rw[<-JC]at y0 h;rw[<-Dg]at y1 iX h;rw[<-nH]at y2 h;clear JC Dg nH;obtain⟨HVA,iV⟩:=aR (λw=>tf M w iX) (λw=>JS o 1073741789 w);rw[show nF o 1073741789=ct o 0 1073741788 by have:=VF (n:=o) (b:=1073741788);simpa using this]at iV;obtain⟨W5,dk,aG,gD,rQ⟩:=C4 wr K M o 88;have gX:=A dk;obtain⟨s0,s1,s2⟩:=jZ gD;have gp:=A (ar j aG);have qQ:=A (ar C.1 gp.1);have i0:(0:Int)<=(k:Int):=by omega
    have i1:(k:Int)<(b.ps.length:Int):=by omega
    clear dk aG gD j iX rQ;by_cases s:K=(k:Int);rotate_left
    ·have d:=A (N.1 (by rw[h.1,eH.2 s];rfl));have t0:(K !=(k:Int))=true:=jg.2 s;clear s;go_wp2_with (rw[<-gX.1]);go_ret;exact⟨cg d.1.symm,qQ.1⟩
    have t0:(K !=(k:Int))=false:=by rw[s];simp
    replace h:=A (h.1.trans (show _=(eA M&&ct o 0 1073741788) by rw[gI.2 s,jY]));clear s;go_wp2_with (rw[<-gX.1]);with_reducible refine(HVA.1 _).mono ?_
    rintro r w5 ⟨rfl,rfl⟩;cases F:eA M with
    |false =>
     have d:=A (N.1 (by rw[h.1,F];rfl));clear F;go_wp2_with fail;go_ret;exact⟨cg d.1.symm,qQ.1⟩
    |true =>
     replace h:=A (h.1.trans (show _=ct o 0 1073741788 by rw[F,jY]));clear F;go_wp2_with fail;with_reducible refine(iV.1 _).mono ?_
     rintro r w5 ⟨rfl,rfl⟩;cases G:ct o 0 1073741788 with
     |false =>
      have d:=A (N.1 (by rw[h.1,G]));clear G;go_wp2_with fail;go_ret;exact⟨cg d.1.symm,qQ.1⟩
     |true =>
      have HN:=A (show ∀g,g<k+1->BS b.ps g=true from λg f=>by
       by_cases e:g=k
       ·subst e;rw[h.1,G]
       ·exact HK.1 g (by omega))
      clear G;go_wp2_with fail;go_roundw;case rel=>exact⟨k+1,by omega,by go_num,HN,gp.1⟩
      case measure=>simp[intOf];omega
   ·have d:=A (HFA.1 Fb.1 vB.1 Qp.1 rh.1 (λg hj=>HK.1 g (by omega)));go_wp2_with fail;go_ret;exact⟨cg d.1.symm,ar C.1 j⟩
structure Ra(w:World)(d f:Nat)(b:bD)(cv pv:Value):Prop where
 c0:w.cell? (d,f)=b.dealer
 c1:w.cell? (d,f+1)=some cv
 c2:w.cell? (d,f+2)=some pv
 r:aN b.dealer
 cs:aM w cv b.cs
 ps:ir w pv b.ps
theorem Ra.below{f h:Nat}{g:bD}{cv pv:Value}(b:Ra w f h g cv pv)(d:Below w w w'):Ra w' f h g cv pv:=
 ⟨U d b.c0,U d b.c1,U d b.c2,b.r,b.cs.below d,b.ps.below d⟩
abbrev tQ:=Nat->Value×Value
def ze(w:World)(v:Value)(l:List bD)(g:tQ):Prop:=
 ∃a d,v=.slice a l.length d/\l.length<=d/\l.length<=17592186044416/\∀k (h:k<l.length),∃b f,a=some ⟨b,f,none⟩/\Ra w b (f+k*3) l[k] (g k).1 (g k).2
theorem ze.below{l:List bD}{b:tQ}(h:ze w v l b)(j:Below w w w'):ze w' v l b:=by
 obtain⟨a,g,rfl,o,r,q⟩:=h;exact⟨a,g,rfl,o,r,λk d=>by
  obtain⟨f,s,ha,p⟩:=q k d;exact⟨f,s,ha,p.below j⟩⟩
theorem ze.at{l:List bD}{b:tQ}(g:ze w (.slice a n c) l b)(o:k<l.length):∃d f,a=some ⟨d,f,none⟩/\Ra w d (f+k*3) l[k] (b k).1 (b k).2:=by
 obtain⟨p,q,h,-,-,j⟩:=g;cases h;exact j k o
theorem ah5(I:Value)(l:List bD)(Z:tQ)(w:World)(q:ze w I l Z):
  Calls prog 86 #[I] w λe w'=>e=.returned (.bool (qt l))/\Below w w w':=by
 have C:=A q;obtain⟨a1,k1,rfl,-,eI,-⟩:=id q;clear q;obtain⟨X,O,M⟩:=bJ (λk d f=>atF (l:=l) (k:=k) d f) (λd=>abn (l:=l) d) (λk (d:k<l.length)=>Q7 d);generalize qt l=OB at *;go_enter func86,ntmps86;go_wp2_with fail;go_loopw[3] (λi W=>∃k:Nat,k<=l.length/\i=((k:Int)+1:Int)/\Hid (∀b,b<k->b+1<l.length->J (eW l) b<J (eW l) (b+1))/\Below w w W) (λi _=>l.length+1-(intOf i).toNat);case atStart=>exact⟨0,bS _,rfl,A (λb d=>absurd d (fG b)),aY _ _⟩
 case round =>
  obtain⟨k,dg,rfl,z,f⟩:=hrel;by_cases o:k+1<l.length
  ·obtain⟨E,K,ha,F⟩:=C.1.at (k:=k) (by omega);obtain⟨b2,oQ,u,D⟩:=C.1.at (k:=k+1) o;subst ha;simp only[tX,Cn]at u;obtain⟨rfl,rfl,-⟩:=u;have y0:wr.cell? (E,K+k*3)=some (.int .i64 l[k].dealer):=U f F.c0;have y1:wr.cell? (E,K+(k+1)*3)=some (.int .i64 l[k+1].dealer):=U f D.c0;have s:=M.1 k (by omega);have p:=M.1 (k+1) o;obtain⟨r,G⟩:=aK (l[k].dealer);obtain⟨t,H⟩:=aK (l[k+1].dealer);rw[<-G]at y0 s;rw[<-H]at y1 p;obtain⟨g,y⟩:=aR (And.intro s p) f;have i0:(0:Int)<=(k:Int):=by omega
   have i1:(k:Int)<(l.length:Int):=by omega
   have i2:(0:Int)<=((k+1:Nat):Int):=by omega
   have T:((k:Int)+1)<(l.length:Int):=by omega
   have i4:(0:Int)<=(k:Int)+1:=by omega
   have w1:IntKind.i64.wrap ((k:Int)+1-1)=(k:Int):=by rw[show(k:Int)+1-1=(k:Int) by omega];exact jw _ (by omega)
   have e3:((k:Int)+1).toNat=k+1:=by omega
   have P:decide ((k:Int)+1<(l.length:Int))=true:=bB T;clear G H s p f F D;by_cases j:r<t
   ·have N:=A (show ∀b,b<k+1->b+1<l.length->J (eW l) b<J (eW l) (b+1) from λb h1 R=>by
     by_cases e:b=k
     ·subst e;rw[g.1.1,g.1.2];exact j
     ·exact z.1 b (by omega) R)
    have Q:decide (t<=r)=false:=bw (by omega);clear j;go_wp2_with fail;go_quiet (fail);go_wp2_with fail;go_roundw;case rel=>exact⟨k+1,by omega,by go_num,N,ID y.1 _⟩
    case measure=>simp[intOf];omega
   ·have h:=A (X.1 k o (by rw[g.1.1,g.1.2];omega));have Q:decide (t<=r)=true:=bB (by omega);clear j;go_wp2_with fail;go_quiet (fail);go_wp2_with fail;go_ret;exact⟨cg h.1.symm,ID y.1 _⟩
  ·have h:=A (O.1 (λb S=>z.1 b (by omega) S));have P:decide ((k:Int)+1<(l.length:Int))=false:=bw (by omega);go_wp2_with fail;go_ret;exact⟨cg h.1.symm,f⟩
def Fc(W:World)(B:Nat)(a b c:Value):World:=((W.setCell ⟨B,0,none⟩ a).setCell ⟨B,1,none⟩ b).setCell ⟨B,2,none⟩ c
theorem aua{x g z:Value}(a b c:Value)(d:TypeId)(f:W.heap[B]?=QC.mk #[x,g,z] d):(Fc W B a b c).heap[B]?=QC.mk #[a,b,c] d:=cK (cK (cK f 0 a) 1 b) 2 c
theorem aub{b:Nat}(a f c:Value)(d:b≠B):(Fc W B a f c).heap[b]?=W.heap[b]?:=by
 unfold Fc;rw[dJ _ _ _ _ d,dJ _ _ _ _ d,dJ _ _ _ _ d]
theorem auc{d:Nat}{f:World}(a g c:Value)(h:Below d f W)(b:d<=B):Below d f (Fc W B a g c):=((h.setCell b _).setCell b _).setCell b _
theorem aud{l:bF}(f:fK w (.slice a n c) l)(j:k<l.length):∃b d,a=some ⟨b,d,none⟩/\w.cell? ⟨b,d+k*2,none⟩=some (.int .i64 l[k].1)/\w.cell? ⟨b,d+k*2+1,none⟩=some (.int .i64 l[k].2):=by
 obtain⟨o,p,g,-,-,-,h⟩:=f;cases g;exact h k j
theorem aue{l:List gG}(f:ir w (.slice a n c) l)(b:∀d g,a=some ⟨d,g,none⟩->d≠B)(x h z:Value):ir (Fc w B x h z) (.slice a n c) l:=((f.set b _).set b _).set b _
theorem auf(w:World):Calls prog 53 #[()] w λe w'=>e=.returned (.agg #[(3:Int),(0:Int),.string ⟨#[]⟩,()])/\Below w w w':=by
 have d:=World.alloc_heap_new w (.cells #[(3:Int),(0:Int),.string ⟨#[]⟩,()] 72);obtain⟨W,b⟩:=aK (w.alloc (.cells #[(3:Int),(0:Int),.string ⟨#[]⟩,()] 72));have f:Below w w W:=b▸bk _ _ _;rw[<-b]at d;obtain⟨j,o,q,r⟩:=fh d;have s:=cB d;obtain⟨h,g⟩:=aR b ((((f.setCell (p:=(w,0)) (aP _) (3:Int)).setCell (p:=(w,1)) (aP _) (0:Int)).setCell (p:=(w,2)) (aP _) (.string ⟨#[]⟩)).setCell (p:=(w,3)) (aP _) ());clear b f d;go_enter func53,ntmps53;go_wp2_with (rw[<-h.1]);go_loopw[11] (λi W'=>i=(0:Int)/\W'=W) (λ_ _=>0);case atStart=>exact⟨rfl,rfl⟩
 case round =>
  obtain⟨rfl,rfl⟩:=hrel;go_wp2_with fail;refine gB (v:=.agg #[(3:Int),(0:Int),.string ⟨#[]⟩,()]) (by simp[results,results53,go_sem,j,o,q,r]) rfl ⟨rfl,g.1⟩
theorem aug(z:Int)(w:World)(b:aN z):Calls prog 135 #[z] w λd w'=>d=.returned (.bool (j8 z))/\w=w':=by
 go_enter func135,ntmps135;go_wp2_with fail;with_reducible refine(tf z _ b).mono ?_
 rintro e f ⟨rfl,rfl⟩;go_wp2_with fail;go_ret;exact⟨rfl,rfl⟩
theorem auh:eQ prog 135:=iw func135 (by kernel_rfl) rfl
theorem aui(ep:Int)(rv ov cv:Value)(rows:ak)(d:V)(w:World)(M:bI w rv rows)(N:∃a n c,ov=.slice a n c)(j:aM w cv d)(b:ks rows ep d=true)(h:0<rows.length):
  Calls prog 52 #[.agg #[ep,rv,ov,cv]] w λe w'=>e=.returned true/\Below w w w':=by
 obtain⟨p,q,g,f,-⟩:=lF w ep rv ov cv 33;have Q:=A (wx 135 #[] j8 _ d _ (j.below g) auh (λD P w' _=>(aug D w' (by obtain⟨_,_,-,-,-,O,-⟩:=j;exact O D P)).mono λe eN b=>⟨b.1,b.2▸aY _ _⟩));obtain⟨X,R,rfl,-,eI,r⟩:=M;obtain⟨Z,n2,k2,rfl⟩:=N;obtain⟨G,S,rfl,-,gC,-⟩:=id j;unfold ks fQ at b;rw[cu,cu,cu,fU,fU,fU]at b;obtain⟨t,u,z,y⟩:=b;have C:bh rows=wide rows:=by unfold bh;rw[aA (by intro e;rw[e]at h;simp at h)]
 have E:Hid ((!d.any j8)=true):=A z;obtain⟨I,T,z0,rfl,o,s⟩:=r 0 h;rw[rF]at o;obtain⟨ra,rc,rfl,-⟩:=id s;rw[A7 rows h,<-C,<-y]at o;have y1:=U g o;have c0:p.cell? (w,0)=ep:=Y f rfl;have c1:p.cell? (w,1)=some (.slice (I,T) rows.length R):=Y f rfl;have c3:p.cell? (w,3)=some (.slice G d.length S):=Y f rfl;have d0:decide (0<=ep)=true:=bB t;have d1:decide (ep<=64)=true:=bB u;obtain⟨K,F⟩:=aR q g;clear j r s o f q g t u z y C;go_enter func52,ntmps52;go_wp2_with (rw[<-K.1]);refine(Q.1).mono ?_;rintro e w2 ⟨rfl,H⟩;go_wp2_with fail;go_ret;exact⟨cg E.1,ar F.1 H⟩
def qz:Int×Int×ByteArray×Option Addr×Nat×Nat:=(0,0,⟨#[]⟩,none,0,0)
def JV(w:World)(v:Value):Prop:=∃b c,v=.slice (some ⟨b,0,none⟩) 1 c/\∀d f,(fS qz)[d]?=some f->w.cell? ⟨b,d,none⟩=some f
theorem JV.below(d:JV w v)(f:Below w w w'):JV w' v:=by
 obtain⟨b,c,e,g⟩:=d;exact⟨b,c,e,λj o h=>U f (g j o h)⟩
theorem JV.new(W:World):JV (W.alloc (.cells #[(0:Int),(0:Int),.string ⟨#[]⟩,()] 72)) (.slice (W,0) 1 1):=
 ⟨W.heap.size,1,rfl,λd f b=>Y (World.alloc_heap_new _ _) (by
  match d with
  |0|1|2|3=>exact b
  |n+4=>simp[fS,qz]at b)⟩
theorem auj(W:World){z1 z2 z3 z4:Int}(b:aN z1)(r2:aN z2)(d:aN z3)(f:aN z4):Db 0 (W.alloc (.cells #[.iface 3 z1,.iface 3 z2,.iface 3 z3,.iface 3 z4] 20)) (.slice (W,0) 4 4) [dB z1,dB z2,dB z3,dB z4]:=
 ahC (Y (World.alloc_heap_new _ _) rfl) (Y (World.alloc_heap_new _ _) rfl) (Y (World.alloc_heap_new _ _) rfl) (Y (World.alloc_heap_new _ _) rfl) (anyI b) (anyI r2) (anyI d) (anyI f)
def VH:Value->Int×Int×ByteArray×Option Addr×Nat×Nat
 |.agg #[_,_,_,.slice a m c]=>(3,0,⟨#[]⟩,a,m,c)
 |_=>qz
def oy(base:Nat)(L:Value)(W:World)(g:Int×Int×ByteArray×Option Addr×Nat×Nat)(e:List aO):Prop:=
 ∃a c,g=(3,0,⟨#[]⟩,a,e.length,c)/\VL (ig 0) W (.slice a e.length c) e/\∀b,(Value.slice a e.length c).ownBlock=some b->base<=b/\L.ownBlock≠some b/\∃d f,W.heap[b]?=some (.cells d 72 f)
theorem auk{d:Nat}{z:Int}(b:ig d w v (dB z)):Gy v (dB z):=by
 cases d with
 |zero=>exact b
 |succ d =>
  rcases b with b|⟨a,m,c,L,g,h,f⟩
  ·exact b
  ·unfold dB gg at f;simp at f
theorem VL.imp{b d:World->Value->aO->Prop}{L:List aO}(g:VL b w v L)(t:∀k (g:k<L.length) x,b w x L[k]->d w x L[k]):VL d w v L:=by
 obtain⟨a,j,u,D,z,y⟩:=g;refine⟨a,j,u,D,z,λk f=>?_⟩;obtain⟨h,C,E,F,G,H,m,c,ha,o,p,q,r,s⟩:=y k f;exact⟨h,C,E,F,G,H,m,c,ha,o,p,q,r,t k f _ s⟩
theorem VL.cells{f:World->Value->aO->Prop}{L:List aO}(q:VL f w (.slice a m c) L)(z:∀x e,f w x e->f w' x e)(g:∀b E o,a=some ⟨b,E,none⟩->∀j,w.cell? ⟨b,j,none⟩=some o->w'.cell? ⟨b,j,none⟩=some o):VL f w' (.slice a m c) L:=by
 obtain⟨M,N,h,F,D,C⟩:=q;simp only[dr]at h;obtain⟨rfl,rfl,rfl⟩:=h;refine⟨_,_,rfl,F,D,λk p=>?_⟩;obtain⟨b,d,G,H,I,K,m,c,ha,r,s,t,u,y⟩:=C k p;exact⟨b,d,G,H,I,K,m,c,ha,g b d _ ha _ r,g b d _ ha _ s,g b d _ ha _ t,g b d _ ha _ u,z _ _ y⟩
theorem kO{b:Nat}{a:Value}(d:b≠B):(W.setCell (B,k) a).heap[b]?=W.heap[b]?:=dJ _ _ _ _ d
theorem oy.below{f:Int×Int×ByteArray×Option Addr×Nat×Nat}(b:oy base L W f e)(d:Below W W W'):oy base L W' f e:=by
 obtain⟨a,c,o,p,q⟩:=b;exact⟨a,c,o,p.below (λ_ _ b=>b) d,λg e=>by obtain⟨r,s,h,j,t⟩:=q g e;exact⟨r,s,h,j,az d t⟩⟩
theorem oy.kept{r:Value}{u:Int×Int×ByteArray×Option Addr×Nat×Nat}(j:oy base L W u e)(t:∀b,base<=b->b<W.heap.size->L.ownBlock≠some b->(∃g h,W.heap[b]?=some (.cells g 72 h))->W'.heap[b]?=W.heap[b]?/\r.ownBlock≠some b):oy base r W' u e:=by
 obtain⟨a,c,y,z,s⟩:=j;refine⟨a,c,y,z.cells (λ_ _ j=>j) λb E F ha D C=>?_,λb e=>?_⟩
 ·subst ha;obtain⟨f,o,d⟩:=s b rfl;have p:=(t b f (by obtain⟨_,_,q⟩:=d;exact bG q) o d).1;exact(rB (a:=⟨b,D,none⟩) p).trans C
 ·obtain⟨f,o,g,h,d⟩:=s b e;obtain⟨p,q⟩:=t b f (bG d) o ⟨_,_,d⟩;exact⟨f,q,g,h,p.trans d⟩
theorem oy.app{f d:Nat}{j:Int×Int×ByteArray×Option Addr×Nat×Nat}(p:oy base L W j e)(h:fI W L W' (.slice (f,0) n d)):oy base (.slice (f,0) n d) W' j e:=
 p.kept λo _ g b _=>⟨h.1.block o g (λe=>b e.symm),PM h g b⟩
theorem oy.set{b f:Nat}{g:Int×Int×ByteArray×Option Addr×Nat×Nat}(h:oy base (.slice (b,0) n f) W g e)(j:Value):oy base (.slice (b,0) n f) (W.setCell (b,k) j) g e:=
 h.kept λo _ _ d _=>⟨kO (λe=>d (by rw[e];rfl)),d⟩
theorem oy.setL{b:Int×Int×ByteArray×Option Addr×Nat×Nat}(f:oy base L W b e)(j:B<base)(g:Value):oy base L (W.setCell (B,k) g) b e:=
 f.kept λh o _ d _=>⟨kO (by omega),d⟩
theorem oy.other{h u:Nat}{g:TypeId}{wv:Value}{f:Int×Int×ByteArray×Option Addr×Nat×Nat}(o:oy base L W f e)(s:W.ownsRow h g u wv m xs)(t:g ≠ 72)(q:W.grownBy W' wv.ownBlock):oy base L W' f e:=
 o.kept λd _ r j ⟨z,D,p⟩=>⟨q.block d r (λe=>by
  obtain⟨y,C,b⟩:=dS.own s d e.symm;rw[p]at b;simp only[tX,Obj.cells.injEq]at b;exact t b.2.1.symm),j⟩
theorem aul(b:List Value)(j o p q d f g h:Value)(r:b.length=m):((((b++[j,o,p,q]).set m d).set (m+1) f).set (m+2) g).set (m+3) h=b++[d,f,g,h]:=by
 subst r;simp
structure ri(bb xb bs:Nat)(ep:Int)(rv ov cv tv pv wv:Value)(ws:V)(L:Value)(k:Nat)(qs:List (Int×Int×ByteArray×Option Addr×Nat×Nat))(es:List (List aO))(z1 z2 z3 z4:Int)(d18 d21 d23 d27:Bool)(sH nI:Value)(w:World):Prop where
 row:w.heap[bb]?=QC.mk (MF ep rv ov cv tv pv () (if d27=true then nI else L) 0 0) 74
 xr:w.heap[xb]?=QC.mk #[z1,z2,z3,z4] 59
 own0:d21=false->w.ownsRow bs 72 4 L k (qs.flatMap fS)
 own1:d21=true->w.ownsRow bs 72 4 nI (k+1) ((qs++[if d23=true then VH sH else qz]).flatMap fS)
 who:w.ownsRow bs 3 1 wv ws.length (ws.map (Value.int .i64))
 val:d21=true->∃d c,nI=.slice (some ⟨d,0,none⟩) (k+1) c
 ap:(if d21=true then nI else L).ownBlock≠some xb
 ins:∀b (f:b<qs.length),oy bs (if d21=true then nI else L) w qs[b] (es.getD b [])
 new:d18=true->oy bs (if d21=true then nI else L) w (VH sH) [dB z1,dB z2,dB z3,dB z4]
 form:d18=true->∃a c,sH=.agg #[(3:Int),(0:Int),.string ⟨#[]⟩,.slice a 4 c]
 lo:bb<bs
 big:bb<w.heap.size
 wide:bs<=w.heap.size
 few:qs.length=k
section
variable {bb xb bs k:Nat} {ep:Int} {rv ov cv tv pv wv L sH nI:Value} {ws:V} {qs:List (Int×Int×ByteArray×Option Addr×Nat×Nat)} {es:List (List aO)} {z1 z2 z3 z4:Int} {d18 d21 d23 d27:Bool} {W W':World}
theorem ri.below(b:ri bb xb bs ep rv ov cv tv pv wv ws L k qs es z1 z2 z3 z4 d18 d21 d23 d27 sH nI W)(d:Below W W W'):ri bb xb bs ep rv ov cv tv pv wv ws L k qs es z1 z2 z3 z4 d18 d21 d23 d27 sH nI W':=
 ⟨(d.block _ b.big).trans b.row,az d b.xr,λe=>dM (b.own0 e) d,λe=>dM (b.own1 e) d,dM b.who d,b.val,b.ap,λg f=>(b.ins g f).below d,λe=>(b.new e).below d,b.form,b.lo,eJ b.big d.size,bK b.wide d.size,b.few⟩
theorem ri.cell(b:ri bb xb bs ep rv ov cv tv pv wv ws L k qs es z1 z2 z3 z4 d18 d21 d23 d27 sH nI W)(e:d27=false):W.cell? (bb,10)=some L:=Y b.row (by rw[e];rfl)
theorem ri.call{a:Option Addr}{c:Nat}(h:ri bb xb bs ep rv ov cv tv pv wv ws L k qs es z1 z2 z3 z4 d18 d21 d23 d27 sH nI W)(_e:d18=false)(g:d21=false)(r:VL (ig 1) W' (.slice a 4 c) [dB z1,dB z2,dB z3,dB z4])(t:∀d,(Value.slice a 4 c).ownBlock=some d->W.heap.size<=d/\∃p q,W'.heap[d]?=some (.cells p 72 q))(s:Below W W W'):
  ri bb xb bs ep rv ov cv tv pv wv ws L k qs es z1 z2 z3 z4 true d21 d23 d27 (.agg #[(3:Int),(0:Int),.string ⟨#[]⟩,.slice a 4 c]) nI W':=by
 have b:=h.below s;refine⟨b.row,b.xr,b.own0,(λf=>by rw[g]at f;cases f),b.who,b.val,b.ap,b.ins,λ_=>?_,λ_=>⟨_,_,rfl⟩,b.lo,b.big,b.wide,b.few⟩;rw[g];refine⟨a,c,rfl,r.imp λk u x y=>?_,λd f=>?_⟩
 ·have j:k=0\/k=1\/k=2\/k=3:=by simp only[dZ,je]at u;omega
  rcases j with rfl|rfl|rfl|rfl;all_goals exact auk (d:=1) (w:=W') (v:=x) y
 ·obtain⟨o,j⟩:=t d f;exact⟨bK h.wide o,pQ (h.own0 g) (.inl o),j⟩
theorem ri.app{g f:Nat}(u:ri bb xb bs ep rv ov cv tv pv wv ws L k qs es z1 z2 z3 z4 d18 d21 d23 d27 sH nI W)(e:d21=false)(d:d23=false)(t:d27=false)(y:W'.ownsRow bs 72 4 (.slice (g,0) (k+1) f) (k+1) ((qs++[qz]).flatMap fS))(b:fI W L W' (.slice (g,0) (k+1) f)):
  ri bb xb bs ep rv ov cv tv pv wv ws L k qs es z1 z2 z3 z4 d18 true d23 d27 sH (.slice (g,0) (k+1) f) W':=by
 obtain⟨D,r2,E,I,F,K,p,G,H,r,h,j,s,q⟩:=u;subst e t d;have o:=E rfl;refine⟨(b.1.block _ j (λd=>pQ o (a:=bb) (.inr h) d.symm)).trans D,(b.1.block _ (bG r2) (λd=>p d.symm)).trans r2,(λe=>by cases e),λ_=>y,sF F o (by decide) b.1,λ_=>⟨_,_,rfl⟩,PM b (bG r2) p,λC z=>(G C z).app b,λe=>(H e).app b,r,h,eJ j b.1.size,bK s b.1.size,q⟩
theorem ri.store(p:ri bb xb bs ep rv ov cv tv pv wv ws L k qs es z1 z2 z3 z4 d18 d21 d23 d27 sH nI W)(e:d21=true)(o:d27=false):ri bb xb bs ep rv ov cv tv pv wv ws L k qs es z1 z2 z3 z4 d18 d21 d23 true sH nI (W.setCell (bb,10) nI):=by
 obtain⟨d,r2,E,t,u,y,z,C,D,h,b,f,j,g⟩:=p;subst e o;have r:xb≠bb:=λe=>by rw[e,d]at r2;simp[MF]at r2
 refine⟨cK d 10 nI,(dJ _ _ _ _ r).trans r2,(λe=>by cases e),λ_=>nM (t rfl) b _,nM u b _,y,z,λs q=>(C s q).setL b _,λe=>(D e).setL b _,h,b,by simpa [World.setCell] using f,by simpa [World.setCell] using j,g⟩
theorem ri.put1{g c c5:Nat}{a5:Option Addr}(h:ri bb xb bs ep rv ov cv tv pv wv ws L k qs es z1 z2 z3 z4 d18 d21 d23 d27 sH nI W)(e:d18=true)(e2:d21=true)(e3:d23=false)(e8:nI=.slice (some ⟨g,0,none⟩) (k+1) c)(e5:sH=.agg #[.int .i64 3,.int .i64 0,.string ⟨#[]⟩,.slice a5 4 c5]):
  (W.cell? ⟨g,k*4,none⟩=some (.int .i64 0)/\W.cell? ⟨g,k*4+1,none⟩=some (.int .i64 0)/\W.cell? ⟨g,k*4+2,none⟩=some (.string ⟨#[]⟩)/\W.cell? ⟨g,k*4+3,none⟩=some (.slice none 0 0))/\(W.frozen? ⟨g,k*4,none⟩=false/\W.frozen? ⟨g,k*4+1,none⟩=false/\W.frozen? ⟨g,k*4+2,none⟩=false/\W.frozen? ⟨g,k*4+3,none⟩=false)/\bb<=g /\
   ri bb xb bs ep rv ov cv tv pv wv ws L k qs es z1 z2 z3 z4 d18 d21 true d27 sH nI ((((W.setCell ⟨g,k*4,none⟩ (.int .i64 3)).setCell ⟨g,k*4+1,none⟩ (.int .i64 0)).setCell ⟨g,k*4+2,none⟩ (.string ⟨#[]⟩)).setCell ⟨g,k*4+3,none⟩ (.slice a5 4 c5)):=by
 obtain⟨r1,r2,r3,r4,r5,r6,r7,r8,r9,Rc,Dh,M0,Rd,M4⟩:=h;subst e e2 e3 e8 e5;have ow:=r4 rfl;have hx:xb≠g:=λe=>r7 (by rw[e];rfl);obtain⟨f0,hg,o1⟩:=EX ow (k*4) (.int .i64 3);obtain⟨f1,-,-⟩:=EX ow (k*4+1) (.int .i64 3);obtain⟨f2,-,-⟩:=EX ow (k*4+2) (.int .i64 3);obtain⟨f3,-,-⟩:=EX ow (k*4+3) (.int .i64 3);have o2:=(EX o1 (k*4+1) (.int .i64 0)).2.2;have o3:=(EX o2 (k*4+2) (.string ⟨#[]⟩)).2.2;have o4:=(EX o3 (k*4+3) (.slice a5 4 c5)).2.2;have hl:(qs.flatMap fS).length=k*4:=by rw[ahx,M4]
 have e9:(qs++[if (false:Bool)=true then VH (.agg #[.int .i64 3,.int .i64 0,.string ⟨#[]⟩,.slice a5 4 c5]) else qz]).flatMap fS=qs.flatMap fS++[.int .i64 0,.int .i64 0,.string ⟨#[]⟩,.slice none 0 0]:=by rw[AY];rfl
 rw[e9,aul _ _ _ _ _ _ _ _ _ hl]at o4;have hc:∀j u,j<4->(fS qz)[j]?=some u->W.cell? ⟨g,k*4+j,none⟩=some u:=λj u hj hu=>by
  have h2:=abc (qs++[qz]) k j (by simp;omega) hj;have h3:(qs++[qz])[k]'(by simp;omega)=qz:=by rw[Cr (by omega)];simp
  rw[h3]at h2;have h5:=ow.cells (g:=g) rfl (k*4+j) u (h2.trans hu);rwa [Cu]at h5
 have hw:wv.ownBlock≠some g:=λe=>(dS.own r5).ne ow (by decide) g e rfl;refine⟨⟨hc 0 _ (by omega) rfl,hc 1 _ (by omega) rfl,hc 2 _ (by omega) rfl,hc 3 _ (by omega) rfl⟩,⟨f0,f1,f2,f3⟩,by omega,?_,?_,(λe=>by cases e),λ_=>?_,?_,r6,r7,λj hj=>?_,λe=>?_,Rc,Dh,by simpa [World.setCell] using M0,by simpa [World.setCell] using Rd,M4⟩
 ·rw[kO,kO,kO,kO]
  ·exact r1
  all_goals omega
 ·rw[kO,kO,kO,kO]
  ·exact r2
  all_goals exact hx
 ·rw[AY];exact o4
 ·exact K2 (K2 (K2 (K2 r5 hw _) hw _) hw _) hw _
 ·exact((((r8 j hj).set _).set _).set _).set _
 ·exact((((r9 e).set _).set _).set _).set _
end
structure aum(h:World)(bb xb bs:Nat)(ep:Int)(rv ov cv tv pv wv:Value)(ws:V)(d:Option Addr)(f k:Nat)(qs:List (Int×Int×ByteArray×Option Addr×Nat×Nat))(es:List (List aO))(z1 z2 z3 z4:Int)(done:Nat->Bool)(v:Nat->Value)(w:World):Prop where
 b:Below bb h w
 f0:done 0=true->v 0=(bb,0)
 f1:done 1=true->v 1=(bb,0)
 f2:done 2=true->v 2=(bb,7)
 f3:done 3=true->v 3=(bb,10)
 f4:done 4=true->v 4=.slice d k f
 f5:done 5=true->v 5=(xb,0)
 f6:done 6=true->v 6=z1
 f7:done 7=true->v 7=.iface 3 z1
 f8:done 8=true->v 8=(xb,1)
 f9:done 9=true->v 9=z2
 f10:done 10=true->v 10=.iface 3 z2
 f11:done 11=true->v 11=(xb,2)
 f12:done 12=true->v 12=z3
 f13:done 13=true->v 13=.iface 3 z3
 f14:done 14=true->v 14=(xb,3)
 f15:done 15=true->v 15=z4
 f16:done 16=true->v 16=.iface 3 z4
 f17:done 17=true->done 18=false->Db 0 w (v 17) [dB z1,dB z2,dB z3,dB z4]
 f19:done 19=true->v 19=k
 f20:done 20=true->done 21=false->JV w (v 20)
 f22:done 22=true->∃g c,v 21=.slice (some ⟨g,0,none⟩) (k+1) c/\v 22=.pointer (some ⟨g,k*4,none⟩)
 f24:done 24=true->v 24=(bb,0)
 f25:done 25=true->v 25=(bb,7)
 f26:done 26=true->v 26=(bb,10)
 bx:ri bb xb bs ep rv ov cv tv pv wv ws (.slice d k f) k qs es z1 z2 z3 z4 (done 18) (done 21) (done 23) (done 27) (v 18) (v 21) w
