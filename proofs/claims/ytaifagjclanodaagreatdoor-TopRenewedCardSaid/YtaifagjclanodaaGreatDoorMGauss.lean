/- Gauss's lemma at P = 2147483579: the symbol by counting is the power to (P - 1) / 2. -/
import Derived.Test.YtaifagjclanodaaGreatDoorMFp
import Derived.Test.YtaifagjclanodaaGreatDoorMLinJ
set_option maxHeartbeats 2000000
set_option maxRecDepth 100000
namespace Go.Proofs.YtaifagjclanodaaGreatDoor
open Go.Proofs.Tryz
variable{b d:Int}{h c k a g:Nat}{e:World}{f:aO}
namespace FP
def gT(f:aO)(i:Nat->Fp):Fp:=f.foldr (λk d=>i k*d) 1
theorem aeP{j:aO}(p:f.Perm j)(i:Nat->Fp):gT f i=gT j i:=by
 induction p with
 |nil=>rfl
 |cons d _ o=>show i d*gT _ i=i d*gT _ i;rw[o]
 |swap d l f=>show i l*(i d*gT f i)=i d*(i l*gT f i);generalize gT f i=q;grind
 |trans _ _ m n=>rw[m,n]
theorem anw(f:aO)(i:Nat->Nat)(j:Nat->Fp):gT (f.map i) j=gT f (λk=>j (i k)):=by
 induction f with
 |nil=>rfl
 |cons d f l=>show j (i d)*gT (f.map i) j=j (i d)*gT f _;rw[l]
theorem anx{i j:Nat->Fp}(l:∀k∈f,i k=j k):gT f i=gT f j:=by
 induction f with
 |nil=>rfl
 |cons d f n=>show i d*gT f i=j d*gT f j;rw[l d (wh),n λk m=>l k (wi _ m)]
theorem aeQ(f:aO)(i j:Nat->Fp):gT f (λk=>i k*j k)=gT f i*gT f j:=by
 induction f with
 |nil=>show(1:Fp)=1*1;grind
 |cons d f l =>
  show i d*j d*gT f _=i d*gT f i*(j d*gT f j);rw[l];generalize gT f i=n;generalize gT f j=m;grind
theorem anz{i:Nat->Fp}(l:∀k∈f,i k≠0):gT f i≠0:=by
 induction f with
 |nil=>show(1:Fp)≠0;decide
 |cons d f n =>
  intro o;rcases O2 (show i d*gT f i=0 from o) with j|j
  ·exact l d (wh) j
  ·exact n (λk m=>l k (wi _ m)) j
theorem anA(i:Nat)(b:Fp):gT (upto i) (λ_=>b)=b^i:=by
 have:∀f:aO,gT f (λ_=>b)=b^f.length:=λf=>by
  induction f with
  |nil=>exact(pow_0 b).symm
  |cons d f j=>show b*gT f _=_;rw[j,dZ,pow_s];grind
 rw[this];simp[upto]
theorem anB(i:Nat)(j:Nat->Nat):gT (upto i) (λk=>(-1:Fp)^j k)=(-1:Fp)^S1 i j:=by
 induction i with
 |zero=>exact(pow_0 _).symm
 |succ i l =>
  have m:gT (upto (i+1)) (λk=>(-1:Fp)^j k)=gT (upto i) (λk=>(-1:Fp)^j k)*(-1:Fp)^j (i+1):=by
   rw[adf,aeP (List.perm_append_comm)];show(-1:Fp)^j (i+1)*gT (upto i) _=_;grind
  rw[m,l,X7];generalize S1 i j=d;generalize j (i+1)=n;grind
theorem anC(b i:Nat):natq (b*i)=natq b*natq i:=by unfold natq;rw[<-OZ];rfl
theorem anD(b:Nat):natq (b%2147483579)=natq b:=by unfold natq;rw[N9];exact TN b
theorem anE(j:0<k)(l:k<2147483579):natq k≠0:=λi=>by
 unfold natq at i;rw[YN]at i;omega
theorem anF{b i:Nat}(p:2*i+1=2147483579)(x:Nat.Coprime b (2*i+1)):natq b^i=(-1:Fp)^nP i b:=by
 have r:gT (upto i) (λk=>natq (b*k))=gT (upto i) (λk=>(-1:Fp)^over i b k*natq (sg i b k)):=by
  refine anx λk _=>?_;have n:=anD (b*k);have y:b*k%(2*i+1)<2*i+1:=xV _ (by omega);rw[<-p]at n;unfold over sg;generalize b*k%(2*i+1)=j at *;rw[<-n];by_cases l:i<j
  ·rw[aD l,aD l];have z:natq (2*i+1-j)+natq j=0:=by
    rw[<-LA,Nat.sub_add_cancel (by omega),p];exact LB ⟨1,rfl⟩
   have m:(-1:Fp)^1=-1:=by rw[pow_s,pow_0];grind
   rw[m];generalize natq (2*i+1-j)=d at *;generalize natq j=v at *;grind
  ·rw[aA l,aA l,pow_0];generalize natq j=v;grind
 have m:gT (upto i) (λk=>natq (b*k))=natq b^i*gT (upto i) natq:=by
  rw[show(λk=>natq (b*k))=λk=>natq b*natq k from funext λk=>anC b k,aeQ,anA]
 have s:gT (upto i) (λk=>natq (sg i b k))=gT (upto i) natq:=by
  rw[<-anw,aeP (X9 x).perm]
 rw[m,aeQ,anB,s]at r;have q:gT (upto i) natq≠0:=anz λk u=>by
  have:=Ov.1 u;exact anE (by omega) (by omega)
 generalize gT (upto i) natq=w at *;have t:(natq b^i-(-1:Fp)^S1 i (over i b))*w=0:=by grind
 rcases O2 t with o|o
 ·show natq b^i=(-1:Fp)^S1 i (over i b);grind
 ·exact absurd o q
theorem anG(a:Nat):(-1:Fp)^a=if a%2=0 then 1 else -1:=by
 induction a with
 |zero=>exact pow_0 _
 |succ a j =>
  rw[pow_s,j];by_cases i:a%2=0
  ·rw[aD i,aA (by omega)];grind
  ·rw[aA i,aD (by omega)];grind
theorem anH{b i:Nat}(l:2*i+1=2147483579)(m:0<b)(p:b<2147483579):natq b^i=1↔nP i b%2=0:=by
 have o:Nat.Coprime b (2*i+1):=by
  rw[l];exact(prime_cop (λn=>by have:=DD m n;omega)).symm
 rw[anF l o,anG];by_cases j:nP i b%2=0
 ·rw[aD j];exact⟨λ_=>j,λ_=>rfl⟩
 ·rw[aA j];exact⟨λd=>absurd d (by decide),λd=>absurd d j⟩
end FP
def vJ(d a:Nat):Bool:=decide (nP (a/2) d%2=0)
theorem aeR(a:Nat):vJ 1 a=true:=by unfold vJ;rw[ali];rfl
theorem IL(hn:a%2=1):2*(a/2)+1=a:=by omega
theorem aeS{b j l:Nat}(m:l%2=(b+j)%2):decide (l%2=0)=(decide (b%2=0)==decide (j%2=0)):=by
 by_cases ha:b%2=0<;>by_cases i:j%2=0
 ·rw[bB ha,bB i,bB (by omega)];rfl
 ·rw[bB ha,bw i,bw (by omega)];rfl
 ·rw[bw ha,bB i,bw (by omega)];rfl
 ·rw[bw ha,bw i,bB (by omega)];rfl
theorem anI{i:Nat}(hn:a%2=1)(m:Nat.Coprime (2*i) a):vJ (2*i) a=(vJ i a==!(decide (a%8=3)||decide (a%8=5))):=by
 have o:Nat.Coprime 2 a:=Nat.Coprime.coprime_mul_right m;have p:Nat.Coprime i a:=Nat.Coprime.coprime_mul_left m;have n:=alk (a:=a/2) (c:=i) (x:=2) (by rw[IL hn];exact p) (by rw[IL hn];exact o);rw[KP]at n;unfold vJ;rw[aeS n,alm]
 congr 1
 by_cases j:a%8=3
 ·rw[bB j,bw (by omega)];rfl
 ·by_cases l:a%8=5
  ·rw[bw j,bB l,bw (by omega)];rfl
  ·rw[bw j,bw l,bB (by omega)];rfl
theorem anJ{d:Nat}(i:d%2=1)(hn:a%2=1)(o:Nat.Coprime d a):vJ (a%d) d=(vJ d a==!(decide (d%4=3)&&decide (a%4=3))):=by
 have p:=aln (a:=a/2) (m:=d/2) (by rw[IL i,IL hn];exact o);rw[IL i,IL hn]at p;have n:nP (d/2) (a%d)=nP (d/2) a:=by have:=alj (d/2) a;rw[IL i]at this;exact this
 unfold vJ;rw[n,aeS (b:=nP (a/2) d) (j:=a/2*(d/2)) (by omega)]
 congr 1
 have m:(a/2*(d/2))%2=((a/2)%2)*((d/2)%2)%2:=Nat.mul_mod _ _ _;by_cases j:d%4=3
 ·rw[bB j,jY];have:d/2%2=1:=by omega
  rw[this,KR]at m;by_cases l:a%4=3
  ·rw[bB l,bw (by omega)];rfl
  ·rw[bw l,bB (by omega)];rfl
 ·have:d/2%2=0:=by omega
  rw[this,N6]at m;rw[bw j,bB (by omega)];rfl
open FP
theorem Pf(b:Fp)(i:Nat):∀a:Nat,b^(i+a)=b^i*b^a
 |0=>by rw[rF,FP.pow_0];grind
 |a+1=>by rw[<-Oa,FP.pow_s,FP.pow_s,Pf b i a];grind
theorem Pg(b:Fp)(i:Nat):∀a:Nat,b^(i*a)=(b^i)^a
 |0=>by rw[N6,FP.pow_0,FP.pow_0]
 |a+1=>by rw[Nat.mul_succ,Pf,FP.pow_s,Pg b i a]
theorem Y5(b i:Fp):∀a:Nat,(b*i)^a=b^a*i^a
 |0=>by rw[FP.pow_0,FP.pow_0,FP.pow_0];grind
 |a+1=>by rw[FP.pow_s,FP.pow_s,FP.pow_s,Y5 b i a];grind
theorem Ph:∀a:Nat,(1:Fp)^a=1
 |0=>FP.pow_0 1
 |a+1=>by rw[FP.pow_s,Ph a];grind
def nQ:Nat:=1073741789
theorem aeT:nQ=1073741789:=rfl
theorem aeU{b:Fp}(l:b^nQ=1)(i:Nat):b^(i%nQ)=b^i:=by
 have j:b^(nQ*(i/nQ)+i%nQ)=b^(i%nQ):=by
  rw[Pf,Pg,l,Ph];grind
 rw[Nat.div_add_mod]at j;exact j.symm
theorem aeV{b:Fp}(j:b^nQ=1){i:Nat}(l:i%nQ=a%nQ):b^i=b^a:=by
 rw[<-aeU j i,<-aeU j a,l]
def wO(b:Int)(a:Nat):Int:=b^a%2147483579
theorem aeW(b:Int)(a:Nat):0<=wO b a/\wO b a<2147483579:=by unfold wO;omega
theorem Y6(b:Int)(a:Nat):cp (wO b a)=cp b^a:=by unfold wO;rw[TN,aeB]
def eA(d:Int):Bool:=decide (1<=d)&&(decide (d<2147483579)&&(wO d nQ==1))
structure El(d:Int):Prop where
 lo:1<=d
 hi:d<2147483579
 pw:cp d^nQ=1
theorem El.num(i:El d):0<=d/\d<2147483579:=⟨by have:=i.lo;omega,i.hi⟩
theorem aeX:wO d nQ=1↔cp d^nQ=1:=by
 rw[<-Y6];constructor
 ·intro i;rw[i,Lz]
 ·intro i;exact aeA (aeW d nQ) (by omega) (i.trans Lz.symm)
theorem oU:eA d=true↔El d:=by
 unfold eA;rw[cu,cu,fU,fU,gI,aeX];exact⟨λ⟨b,i,j⟩=>⟨b,i,j⟩,λ⟨b,i,j⟩=>⟨b,i,j⟩⟩
theorem anK(j:cp d^nQ=1):cp d≠0:=λl=>by
 rw[l]at j;have i:(0:Fp)^(nQ-1+1)=1:=j;rw[FP.pow_s]at i;have:(0:Fp)=1:=by rw[<-i];grind
 exact absurd this (by decide)
theorem Y7(j:0<=d/\d<2147483579)(i:cp d^nQ=1):El d:=by
 refine⟨?_,j.2,i⟩;by_cases l:d=0
 ·exact absurd (by rw[l];exact aez) (anK i)
 ·omega
theorem LG:El 1:=⟨by omega,by omega,by rw[Lz,Ph]⟩
theorem Eh{i:Int}(ha:El b)(j:El i):El (b*i%2147483579):=
 Y7 (by omega) (by rw[TN,OZ,Y5,ha.pw,j.pw];grind)
theorem anL(ha:El b)(a:Nat):El (wO b a):=
 Y7 (aeW b a) (by rw[Y6,<-Pg,KP,Pg,ha.pw,Ph])
def ex(a:Int):Nat:=(a%1073741789).toNat
theorem anM(a:Int):ex a<1073741789:=by unfold ex;omega
theorem IM(a:Int):((ex a:Nat):Int)=a%1073741789:=by unfold ex;omega
theorem anN(a:Int):ex (a%1073741789)=ex a:=by unfold ex;rw[Hx]
theorem anO{i a:Int}(j:i%1073741789=a%1073741789):ex i=ex a:=by unfold ex;rw[j]
theorem anP(i a:Int):ex (i+a)%nQ=(ex i+ex a)%nQ:=by
 rw[aeT];have j:=IM i;have l:=IM a;have m:=IM (i+a);omega
theorem anQ(i a:Int):ex (i*a)%nQ=(ex i*ex a)%nQ:=by
 rw[aeT];have j:=IM i;have l:=IM a;have m:=IM (i*a);have n:((ex i*ex a%1073741789:Nat):Int)=i*a%1073741789:=by
  rw[N9,Int.natCast_mul,j,l];exact(lO i a _).symm
 have o:((ex (i*a)%1073741789:Nat):Int)=i*a%1073741789:=by
  rw[N9,m];exact Hx _ _
 exact Int.ofNat.inj (o.trans n.symm)
theorem anR:ex 0=0:=rfl
theorem anS:ex 1=1:=rfl
def bm(b a:Int):Int:=wO b (ex a)
theorem Gf(b a:Int):cp (bm b a)=cp b^ex a:=Y6 _ _
theorem fJ(ha:El b)(a:Int):El (bm b a):=anL ha _
theorem aeY(b a:Int):bm b (a%1073741789)=bm b a:=by unfold bm;rw[anN]
theorem TR{i a:Int}(j:i%1073741789=a%1073741789):bm b i=bm b a:=by unfold bm;rw[anO j]
theorem TS{i:Int}(ha:El b)(j:El i)(l:cp b=cp i):b=i:=aeA ha.num j.num l
theorem Ei(ha:El b)(i a:Int):bm b (i+a)=bm b i*bm b a%2147483579:=by
 refine TS (fJ ha _) (Eh (fJ ha _) (fJ ha _)) ?_;rw[TN,OZ,Gf,Gf,Gf,<-Pf];exact aeV ha.pw (anP i a)
theorem Gg(ha:El b)(i a:Int):bm (bm b i) a=bm b (i*a):=by
 refine TS (fJ (fJ ha _) _) (fJ ha _) ?_;rw[Gf,Gf,Gf,<-Pg];exact(aeV ha.pw (anQ i a)).symm
theorem Pj(b:Int):bm b 0=1:=by unfold bm wO;rw[anR,uO];rfl
theorem anT(ha:El b):bm b 1=b:=by
 refine TS (fJ ha _) ha ?_;rw[Gf,anS,FP.pow_s,FP.pow_0];grind
theorem anU(ha:El b)(a:Int):bm b a*bm b (-a)%2147483579=1:=by
 rw[<-Ei ha,Int.add_right_neg,Pj]
theorem anV(a:Int):bm 1 a=1:=by
 refine TS (fJ LG _) LG ?_;rw[Gf,Lz,Ph]
theorem anW{z:Int}(n:z%1073741789≠0):(IH z 1073741787*z)%1073741789=1:=by
 have l:cq z≠0:=λm=>n (TO.1 m);have i:=aeE l;rw[<-wM]at i;have j:=rY (IH z 1073741787*z);rw[i]at j;exact j.symm
theorem anX(ha:El b)(j:b≠1){a:Int}(m:bm b a=1):a%1073741789=0:=by
 by_cases hn:a%1073741789=0
 ·exact hn
 ·have l:=anW hn;have i:bm (bm b a) (IH a 1073741787)=1:=by rw[m,anV]
  rw[Gg ha,Hz,TR (a:=1) (by rw[l];rfl),anT ha]at i;exact absurd i j
theorem aeZ(ha:El b)(j:b≠1){i a:Int}(m:bm b i=bm b a):i%1073741789=a%1073741789:=by
 have l:bm b (i-a)=1:=by
  rw[Int.sub_eq_add_neg,Ei ha,m,anU ha]
 have:=anX ha j l;omega
open Go.RowKit
theorem anY(b i:Int):(b%2147483579*i)%2147483579=(b*i)%2147483579:=by rw[lO,Hx,<-lO]
theorem anZ(b i:Int):(b*(i%2147483579))%2147483579=(b*i)%2147483579:=by rw[lO,Hx,<-lO]
theorem ae0(b:Int)(a:Nat):(b%2147483579)^a%2147483579=b^a%2147483579:=by
 induction a with
 |zero=>rw[uO,uO]
 |succ a i=>rw[zP,zP,anZ,lO,i,<-lO]
theorem ae1(i:Int)(left:Nat):i^left=(i*i)^(left/2)*i^(left%2):=by
 have:i*i=i^2:=by rw[zP,zP,uO,Hy]
 rw[this,<-Int.pow_mul,<-Int.pow_add];congr 1;omega
theorem an0(d i:Int)(left:Nat)(j:left%2=1):((d*i)%2147483579*((i*i)%2147483579)^(left/2))%2147483579=(d*i^left)%2147483579:=by
 rw[anY,lO,ae0,<-lO,ae1 i left,j,zP,uO,Hy,Int.mul_assoc,Hz i]
theorem an1(d i:Int)(left:Nat)(j:left%2=0):(d*((i*i)%2147483579)^(left/2))%2147483579=(d*i^left)%2147483579:=by
 rw[lO,ae0,<-lO,ae1 i left,j,uO,Int.mul_one]
theorem Y8{i:Int}(ha:0<=b/\b<2147483579)(j:0<=i/\i<2147483579):0<=b*i/\b*i<=4611685721957729241:=by
 have l:0<=b*i:=Sw ha.1 j.1;have m:b*i<=2147483578*2147483578:=Sx (by omega) (by omega) j.1 (by omega);omega
theorem an2(j:0<k)(l:k<2147483579):eA k=vJ k 2147483579:=by
 have i:=anH (b:=k) (i:=nQ) rfl j l;have m:FP.natq k=cp (k:Int):=rfl;rw[m,<-aeX]at i;unfold eA vJ;rw[bB (by omega),bB (by omega),jY,jY];rw[Bool.eq_iff_iff,gI,fU];exact i
theorem an3(i:0<k)(l:k<2147483579):Nat.Coprime k 2147483579:=
 (FP.prime_cop (λj=>by have:=DD i j;omega)).symm
theorem tf(d:Int)(M:World)(D:aN d):
  Calls prog 54 #[.int .i64 d] M λH w'=>H=.returned (.bool (eA d))/\M=w':=by
 by_cases T:d<1
 ·have B:=A (show eA d=false by unfold eA;rw[bw (by omega),uP]);obtain⟨x1,x2⟩:=D;go_enter func54,ntmps54;go_wp2_with fail;go_step3;go_wp2_with fail;try rw[N3]
  go_ret;exact⟨cg B.1.symm,rfl⟩
 by_cases s:2147483579<=d
 ·have B:=A (show eA d=false by unfold eA;rw[bw (p:=d<2147483579) (by omega),uP,KU]);obtain⟨x1,x2⟩:=D;go_enter func54,ntmps54;go_wp2_with fail;go_step3;go_wp2_with fail;try rw[N3]
  go_ret;exact⟨cg B.1.symm,rfl⟩
 obtain⟨k,rfl⟩:=Int.eq_ofNat_of_zero_le (show 0<=d by omega);have X:=A (an2 (k:=k) (by omega) (by omega));have W:=an3 (k:=k) (by omega) (by omega);generalize eA (k:Int)=p at *;have R:1<=k:=by omega
 have S:k<2147483579:=by omega
 clear T s D;go_enter func54,ntmps54;go_wp2_with fail;go_step3;go_wp2_with fail;go_step3;go_wp2_with fail;go_loop [0,3,4] (λd a E=>∃(q i:Nat) (v:Bool),d=q/\a=i/\E=.bool v/\1<=q/\q<2147483579/\1<=i/\i<=2147483579/\i%2=1/\Nat.Coprime q i/\Hid ((vJ q i==v)=p)) (λd _ _=>(intOf d).toNat);case atStart=>exact⟨k,2147483579,true,rfl,rfl,rfl,R,S,by omega,by omega,by omega,W,A (by rw[X.1];cases vJ k 2147483579<;>rfl)⟩
 case round =>
  obtain⟨q,i,v,rfl,rfl,rfl,N,Y9,CG,qO,I,Z,K⟩:=hrel;by_cases O:q=1
  ·subst O;have G:=A (show v=p by rw[<-K.1,aeR];cases v<;>rfl);go_wp2;try rw[N3]
   go_ret;exact⟨cg G.1,rfl⟩
  ·have e2:decide ((q:Int)>1)=true:=by simp;omega
   go_wp2_with fail;go_loop [0,4] (λd E=>∃(j:Nat) (l:Bool),d=j/\E=.bool l/\1<=j/\j<=q/\Nat.Coprime j i/\Hid ((vJ j i==l)=p)) (λd _=>(intOf d).toNat);case atStart=>exact⟨q,v,rfl,rfl,N,aP _,Z,K⟩
   case round =>
    obtain⟨j,l,rfl,rfl,dP,dQ,w,r⟩:=hrel;rcases Xq j with s|s
    ·obtain⟨n,rfl⟩:∃n,j=2*n:=⟨j/2,by omega⟩;have t:=A (anI I w);have z:Nat.Coprime n i:=Nat.Coprime.coprime_mul_left w;by_cases m:i%8=3
     ·have C:((i:Int)%8==3)=true:=by rw[gI];omega
      have o:=A (show(vJ n i==!l)=p by
       rw[<-r.1,t.1,bB m];cases vJ n i<;>cases l<;>rfl)
      clear m;go_wp2;go_round;case rel=>exact⟨n,!l,by go_num,rfl,by omega,by omega,z,o⟩
      case measure=>simp[intOf];omega
     ·have C:((i:Int)%8==3)=false:=by rw[eH];omega
      by_cases y:i%8=5
      ·have Q:((i:Int)%8==5)=true:=by rw[gI];omega
       have o:=A (show(vJ n i==!l)=p by
        rw[<-r.1,t.1,bB y,N0];cases vJ n i<;>cases l<;>rfl)
       clear m y;go_wp2;go_round;case rel=>exact⟨n,!l,by go_num,rfl,by omega,by omega,z,o⟩
       case measure=>simp[intOf];omega
      ·have Q:((i:Int)%8==5)=false:=by rw[eH];omega
       have o:=A (show(vJ n i==l)=p by
        rw[<-r.1,t.1,bw m,bw y];cases vJ n i<;>cases l<;>rfl)
       clear m y;go_wp2;go_round;case rel=>exact⟨n,l,by go_num,rfl,by omega,by omega,z,o⟩
       case measure=>simp[intOf];omega
    ·have f2:((j:Int)%2==0)=false:=by rw[eH];omega
     by_cases L:j=1
     ·subst L;have G:=A (show l=p by rw[<-r.1,aeR];cases l<;>rfl);go_wp2;try rw[N3]
      go_ret;exact⟨cg G.1,rfl⟩
     ·have f1:((j:Int)==1)=false:=by rw[eH];omega
      have t:=A (anJ s I w);have u:Nat.Coprime (i%j) j:=by
       have:=Nat.Coprime.symm w;unfold Nat.Coprime at this ⊢;rw[<-this,<-Nat.gcd_rec,Nat.gcd_comm]
      have F:1<=i%j:=by
       by_cases H:i%j=0
       ·rw[H]at u;simp at u;exact absurd u L
       ·omega
      have aq:i%j<j:=xV _ (by omega);by_cases m:j%4=3
      ·have C:((j:Int)%4==3)=true:=by rw[gI];omega
       by_cases x:i%4=3
       ·have P:((i:Int)%4==3)=true:=by rw[gI];omega
        have o:=A (show(vJ (i%j) j==!l)=p by
         rw[<-r.1,t.1,bB m,bB x];cases vJ j i<;>cases l<;>rfl)
        clear m x;go_wp2;go_round;case rel=>exact⟨i%j,j,!l,by go_num,rfl,rfl,F,by omega,by omega,by omega,s,u,o⟩
        case measure=>simp[intOf];omega
       ·have P:((i:Int)%4==3)=false:=by rw[eH];omega
        have o:=A (show(vJ (i%j) j==l)=p by
         rw[<-r.1,t.1,bB m,bw x];cases vJ j i<;>cases l<;>rfl)
        clear m x;go_wp2;go_round;case rel=>exact⟨i%j,j,l,by go_num,rfl,rfl,F,by omega,by omega,by omega,s,u,o⟩
        case measure=>simp[intOf];omega
      ·have C:((j:Int)%4==3)=false:=by rw[eH];omega
       have o:=A (show(vJ (i%j) j==l)=p by
        rw[<-r.1,t.1,bw m];cases vJ j i<;>cases l<;>rfl)
       clear m;go_wp2;go_round;case rel=>exact⟨i%j,j,l,by go_num,rfl,rfl,F,by omega,by omega,by omega,s,u,o⟩
       case measure=>simp[intOf];omega
attribute [local go_sem] DF
def sf(b:Int):Nat->Int
 |0=>b
 |c+1=>sf b c*sf b c%2147483579
def kN(a:Nat):Nat->Nat
 |0=>a
 |c+1=>kN a c/2
def cN(b:Int)(a:Nat):Nat->Int
 |0=>1
 |c+1=>if kN a c%2=1 then cN b a c*sf b c%2147483579 else cN b a c
def wP(a:Nat):Nat:=if i:a=0 then 0 else wP (a/2)+1
theorem Za(a:Nat):∀c,kN a (c+1)=kN (a/2) c
 |0=>rfl
 |c+1=>by rw[kN,Za a c];rfl
theorem ae2:∀(c a:Nat),c<wP a->0<kN a c
 |0,a,i=>by
  rw[wP]at i;by_cases j:a=0
  ·rw[Cj j]at i;omega
  ·show 0<a;omega
 |c+1,a,i=>by
  rw[wP]at i;by_cases j:a=0
  ·rw[Cj j]at i;omega
  ·rw[DA j]at i;rw[Za];exact ae2 c (a/2) (by omega)
theorem ae3(a:Nat):kN a (wP a)=0:=by
 induction a using Nat.strongRecOn with
 |ind a j =>
  rw[wP];by_cases i:a=0
  ·rw[Cj i];exact i
  ·rw[DA i,Za];exact j (a/2) (by omega)
theorem ae4(a:Nat):∀c,kN a c<=a
 |0=>aP _
 |c+1=>by have:=ae4 a c;rw[kN];omega
theorem TT(ha:0<=b/\b<2147483579):∀c,0<=sf b c/\sf b c<2147483579
 |0=>ha
 |c+1=>by rw[sf];omega
theorem Zb:∀c,0<=cN b a c/\cN b a c<2147483579
 |0=>by rw[cN];omega
 |c+1=>by
  rw[cN];split
  ·omega
  ·exact Zb c
theorem ae5(b:Int)(a:Nat):∀c,(cN b a c*sf b c^kN a c)%2147483579=wO b a
 |0=>by rw[cN,sf,kN,Hy];rfl
 |c+1=>by
  rw[cN,sf,kN,<-ae5 b a c];rcases Xq (kN a c) with i|i
  ·rw[aA (by omega),an1 _ _ _ i]
  ·rw[aD i,an0 _ _ _ i]
theorem an4(b:Int)(a:Nat):cN b a (wP a)=wO b a:=by
 have i:=ae5 b a (wP a);have j:=Zb (b:=b) (a:=a) (wP a);rw[ae3,uO,Int.mul_one]at i;omega
theorem an5(k:Nat)(i:k<9223372036854775808):bits .and .i64 (k:Int) 1=((k%2:Nat):Int):=by
 show IntKind.i64.wrap ((BitVec.ofInt 64 (k:Int)&&&BitVec.ofInt 64 (1:Int)).toNat:Int)=_;rw[BitVec.toNat_and,ofInt_u64 k (by omega),show(BitVec.ofInt 64 (1:Int)).toNat=1 from rfl,nat_mask1,KV];omega
structure IP(h g:Nat)(b:Int)(a c:Nat)(e:World):Prop where
 ca:e.cell? (h,0)=(sf b c:Int)
 cn:e.cell? (g,0)=(kN a c:Int)
 fa:e.frozen? (h,0)=false
 fn:e.frozen? (g,0)=false
def wQ(h g:Nat)(b:Int)(a c:Nat)(e:World):World:=(e.setCell ⟨h,0,none⟩ (.int .i64 (sf b (c+1)))).setCell ⟨g,0,none⟩ (.int .i64 (kN a (c+1)))
theorem Ac{n m i j:Nat}{s:Value}(l:n≠i\/m≠j):(e.setCell (n,m) s).cell? (i,j)=e.cell? (i,j):=by
 have p:((n,m):Addr)≠(i,j):=by
  intro o;have q:n=i:=congrArg Addr.block o;have r:m=j:=congrArg Addr.off o;rcases l with l|l
  ·exact l q
  ·exact l r
 simp[SC,p]
theorem ae6(j:h≠g)(i:IP h g b a c e):IP h g b a (c+1) (wQ h g b a c e) where
 ca:=by
  unfold wQ;rw[Ac (.inl (λl=>j l.symm))];exact jL _ _ _ (by rw[i.ca];rfl)
 cn:=by
  unfold wQ;exact jL _ _ _ (by rw[Ac (.inl j),i.cn];rfl)
 fa:=by unfold wQ;rw[jK,jK];exact i.fa
 fn:=by unfold wQ;rw[jK,jK];exact i.fn
theorem an6(e:World):KeepsOthers e (wQ h g b a c e):=by
 unfold wQ;exact(KeepsOthers.setCell _ _ _).trans (KeepsOthers.setCell _ _ _)
theorem an7(h g:Nat)(p:h≠g)(b:Int)(ha:0<=b/\b<2147483579)(a:Nat)(hn:a<2147483579)(m n:Nat->World->Prop)(z:∀c e,m c e->IP h g b a c e)(r:∀c e,n c e->IP h g b a c e):
  aea prog 139 #[(g,0),(h,0)] (wP a) (λc=>#[(sf b c:Int),.bool (decide (kN a c%2=1))]) m n (wQ h g b a):=by
 intro f u M L e B q D E y;refine FH func139 rfl trivial ?_ rfl;simp only[ntmps139,kS,dZ,je,Nat.reduceAdd,Nat.reduceSub,kU,kV,kW,kX,jf,jn]
 gi_wp2
 gi_loopw[] (λwr=>∃c:Nat,c<=wP a/\u c wr) (λwr=>(intOf ((wr.cell? (g,0)).getD undef)).toNat)
 case atStart=>exact⟨0,bS _,y⟩
 case round =>
  obtain⟨c,X,j⟩:=hrel;obtain⟨F,l,G,I⟩:=z c wr (B c wr j);have Z:=ae4 a c;by_cases o:c<wP a
  ·have hp:=ae2 c a o;have N:(bits .and .i64 (kN a c:Int) 1==1)=decide (kN a c%2=1):=by
    rw[an5 _ (by omega),Bool.eq_iff_iff,gI,fU];omega
   have H:=TT ha c;obtain⟨s1,s2⟩:=H;obtain⟨q1,q2⟩:=Y8 (TT ha c) (TT ha c);obtain⟨W,tmps,O,T,s,C⟩:=E c wr j o
   gi_wp2
   refine⟨rfl,C.mono ?_⟩;rintro z0z W3 (⟨rfl,i⟩|⟨rfl,K⟩)
   ·obtain⟨P,v,Q,R⟩:=r c W3 (q c W3 i);have S:(W3.setCell (h,0) (sf b c*sf b c%2147483579:Int)).cell? (g,0)=(kN a c:Int):=by
     rw[Ac (.inl p)];exact v
    obtain⟨t,w⟩:=aR (D c W3 i) l;clear s l F G I
    gi_wp2
    go_roundw;case rel=>exact⟨c+1,by omega,t.1⟩
    case measure =>
     have x:(wQ h g b a c W3).cell? (g,0)=(kN a (c+1):Int):=(ae6 p (r c W3 (q c W3 i))).cn;show(intOf (((wQ h g b a c W3).cell? (g,0)).getD undef)).toNat<_;rw[x,w.1];show(Int.toNat (kN a c/2:Nat))<Int.toNat (kN a c:Nat);omega
   ·clear s
    gi_wp2
    refine gB (xX rfl _ _ _) rfl ?_;exact⟨⟨_,rfl⟩,.inr ⟨c+1,by omega,K⟩⟩
  ·obtain rfl:c=wP a:=by omega
   rw[ae3]at l
   gi_wp2
   go_end0;exact⟨⟨_,rfl⟩,.inl j⟩
theorem aoa(b a:Int)(i:World):
  Calls prog 67 #[b,a] i λl j =>
   l=.returned (.func (.func 139) #[] #[(i.heap.size+1,0),(i,0)])/\j=(i.alloc (.cells #[b] 3)).alloc (.cells #[a] 3):=by
 go_enter func67,ntmps67;go_wp2;go_ret;exact⟨rfl,rfl⟩
theorem aM.one(i:World)(b:Int)(l:TypeId)(ha:aN b):aM (i.alloc (.cells #[b] l)) (.slice (i,0) 1 1) [b]:=by
 refine⟨_,1,rfl,by simp,by simp,by simp[ha],λk j=>⟨_,_,rfl,?_⟩⟩;rw[wg _ _ _ _ rfl];have:k=0:=by simp at j;omega
 subst this;rfl
theorem aob(a:Int):-1073741789<a.tmod 1073741789/\a.tmod 1073741789<1073741789:=by
 by_cases j:0<=a
 ·rw[pM j];omega
 ·have i:a.tmod 1073741789=-((-a)%1073741789):=by
   have i:a.tmod 1073741789=(-(-a)).tmod 1073741789:=by rw[Int.neg_neg]
   rw[i,Int.neg_tmod,pM (by omega)]
  rw[i];omega
theorem aoc(a:Int):(a.tmod 1073741789+1073741789)%1073741789=a%1073741789:=by
 by_cases j:0<=a
 ·rw[pM j];omega
 ·have i:a.tmod 1073741789=-((-a)%1073741789):=by
   have i:a.tmod 1073741789=(-(-a)).tmod 1073741789:=by rw[Int.neg_neg]
   rw[i,Int.neg_tmod,pM (by omega)]
  rw[i];omega
theorem aod(o:Value)(a:Int)(j:World)(q:aM j o [a]):
  Calls prog 68 #[o] j λu s=>u=.returned (.int .i64 (ex a:Nat))/\j=s:=by
 obtain⟨b,v,rfl,z,x,n,m⟩:=q;obtain⟨B,C⟩:aN a:=n a (by simp);obtain⟨t,r,rfl,l⟩:=m 0 (by simp);have y:=aob a;have p:=A (show(a.tmod 1073741789+1073741789)%1073741789=((ex a:Nat):Int) by rw[aoc,IM]);have w:j.cell? (t,r)=a:=l;clear m n l;go_enter func68,ntmps68;go_wp2;go_loop [3,8] (λd i=>(i=(0:Int)/\d=(1:Int))\/(i=(1:Int)/\d=.int .i64 (ex a:Nat))) (λ_ i=>1-(intOf i).toNat);case atStart=>exact .inl ⟨rfl,rfl⟩
 case round =>
  rcases hrel with⟨rfl,rfl⟩|⟨rfl,rfl⟩
  ·go_wp2;go_round;case rel=>exact .inr ⟨by go_num,by rw[<-p.1]⟩
   case measure=>simp[intOf]
  ·go_wp2;go_ret;exact⟨rfl,rfl⟩
structure TU(i:World)(j:Int)(h g:Nat)(b:Int)(a c:Nat)(e:World):Prop where
 sq:IP h g b a c e
 cc:e.cell? (i,0)=j
 fc:e.frozen? (i,0)=false
 be:Below i i e
theorem aoe{m:Nat}{l:World}(i:IP h g b a c e)(j:eM m e l):IP h g b a c l:=
 ⟨jx j i.ca,jx j i.cn,by rw[Oh j i.ca];exact i.fa,by rw[Oh j i.cn];exact i.fn⟩
theorem ae7{l:World}{o:Int}{m:Nat}{n:World}(i:TU l o h g b a c e)(j:eM m e n)(p:l.heap.size<=m):TU l o h g b a c n:=
 ⟨aoe i.sq j,jx j i.cc,by rw[Oh j i.cc];exact i.fc,i.be.trans (nf (akr j p))⟩
theorem aM.one_at(i:World)(j:Nat)(m:i.heap.size=j)(b:Int)(l:TypeId)(ha:aN b):aM (i.alloc (.cells #[b] l)) (.slice (j,0) 1 1) [b]:=by
 subst m;exact aM.one i b l ha
theorem aof(i:World)(b q j l:Value)(m n o p:TypeId):∃e,e=((((i.alloc (.cells #[b] m)).alloc (.cells #[q] n)).alloc (.cells #[j] o)).alloc (.cells #[l] p)) /\
  Below i i e/\e.heap.size=i.heap.size+1+1+1+1/\e.cell? (i,0)=some b/\e.cell? (i.heap.size+1+1,0)=some j/\e.cell? (i.heap.size+1+1+1,0)=some l /\
  e.frozen? (i,0)=false/\e.frozen? (i.heap.size+1+1,0)=false/\e.frozen? (i.heap.size+1+1+1,0)=false:=by
 refine⟨_,rfl,((((aY _ _).alloc (aP _) _).alloc (by simp) _).alloc (by simp;omega) _).alloc (by simp;omega) _,by simp,?_,?_,?_,?_,?_,?_⟩<;>simp[go_sem]
theorem vf(b a:Int)(j:World)(ha:El b)(hn:aN a):
  Calls prog 24 #[b,a] j λs w'=>s=.returned (.tuple #[(bm b a:Int),(0:Int)])/\Below j j w':=by
 have P:=A (oU.2 ha);have a1:=ha.lo;have y:=ha.hi;have Q:aN b:=⟨by omega,by omega⟩;refine wu func24 rfl ?_;simp only[ntmps24,kS,dZ,je,Nat.reduceAdd,Nat.reduceSub,kU,kV,kW,kX,jf,jn];go_wp2_with fail;with_reducible refine(tf _ _ Q).mono ?_
 rintro s w1 ⟨rfl,rfl⟩;rw[P.1];go_wp2_with fail;with_reducible refine(aod _ a _ (aM.one_at _ _ (by simp) _ _ hn)).mono ?_
 rintro s w1 ⟨rfl,rfl⟩;go_wp2_with fail;with_reducible refine(aoa _ _ _).mono ?_
 rintro s w4 ⟨rfl,B⟩;obtain⟨e,z,q,Ad,S,T,W,I,K,L⟩:=aof j (1:Int) a b (.int .i64 (ex a:Nat)) 3 3 3 3;obtain rfl:w4=e:=B.trans z.symm;clear B z;have vg:=TT (b:=b) ⟨by omega,y⟩;have oO:=anM a;go_wp2_with fail;refine amX (h:=139) (m:=#[(j.heap.size+1+1+1,0),(j.heap.size+1+1,0)]) (i:=wP (ex a)) (fi:=λc=>#[(sf b c:Int),.bool (decide (kN (ex a) c%2=1))]) rfl (iw func139 (by kernel_rfl) rfl) (λ_=>rfl)
  (λc=>TU j (cN b (ex a) c) (j.heap.size+1+1) (j.heap.size+1+1+1) b (ex a) c) (λc=>TU j (cN b (ex a) (c+1)) (j.heap.size+1+1) (j.heap.size+1+1+1) b (ex a) c) (wQ (j.heap.size+1+1) (j.heap.size+1+1+1) b (ex a)) (λ_ _ _=>False) ?seq ?qH (λ_ _ _ _ i _=>i) ?Pk ?hT ⟨⟨T,W,K,L⟩,S,I,q⟩
  (λc z0=>(((z0.setIfInBounds 16 (sf b c:Int)).setIfInBounds 17 (.bool (decide (kN (ex a) c%2=1)))).setIfInBounds 6 (sf b c:Int)).setIfInBounds 7 (.bool (decide (kN (ex a) c%2=1)))) ?assign ?body ?done (λ_ _ _ _ _ _ i=>i.elim)
 case seq=>exact an7 _ _ (by omega) b ⟨by omega,y⟩ (ex a) (by omega) _ _ (λc e i=>i.sq) (λc e i=>i.sq)
 case qH=>exact λc e D i l=>ae7 i l q.size
 case Pk=>exact λc e D i l=>ae7 i l q.size
 case hT =>
  intro c e i;refine⟨⟨ae6 (by omega) i.sq,?_,?_,?_⟩,an6 e⟩
  ·unfold wQ;rw[Ac (.inl (by omega)),Ac (.inl (by omega))];exact i.cc
  ·unfold wQ;rw[jK,jK];exact i.fc
  ·unfold wQ;exact(i.be.setCell (by simp;omega) _).setCell (by simp;omega) _
 case assign =>
  intro f c e z1 O
  gi_wp2
  exact O
 case body =>
  intro f c e o F;simp only[vZ,zH,AV];obtain⟨n,p,v,r⟩:=o;obtain⟨X,Z⟩:=vg c;obtain⟨G,H⟩:=Zb (b:=b) (a:=ex a) c;obtain⟨q1',q2'⟩:=Y8 ⟨G,H⟩ ⟨X,Z⟩;clear F;by_cases m:kN (ex a) c%2=1
  ·have t:=A (show cN b (ex a) (c+1)=cN b (ex a) c*sf b c%2147483579 by rw[cN,aD m]);have u:decide (kN (ex a) c%2=1)=true:=bB m;clear m;rw[u]
   gi_wp2
   refine⟨KeepsOthers.setCell _ _ _,⟨⟨?_,?_,?_,?_⟩,?_,?_,?_⟩⟩
   ·rw[Ac (.inl (by omega))];exact n.ca
   ·rw[Ac (.inl (by omega))];exact n.cn
   ·rw[jK];exact n.fa
   ·rw[jK];exact n.fn
   ·rw[t.1];exact jL _ _ _ (by rw[p];rfl)
   ·rw[jK];exact v
   ·exact r.setCell (by simp) _
  ·have t:=A (show cN b (ex a) (c+1)=cN b (ex a) c by rw[cN,aA m]);have u:decide (kN (ex a) c%2=1)=false:=bw m;clear m;rw[u]
   gi_wp2
   exact⟨KeepsOthers.refl _,⟨n,by rw[t.1];exact p,v,r⟩⟩
 case done =>
  intro C e N o R hO;have p:=o.cc;rw[an4]at p;have v:=o.fc;have r:=o.be;go_wp2_with fail;refine F9 (f:=j.heap.size) (k:=.tuple #[(wO b (ex a):Int),(0:Int)]) (λe=>e.cell? (j,0)=(wO b (ex a):Int)) ?_ ?_ ?_ _ _ ⟨⟨C,rfl,bK q.size N,?_,λ_ i=>by cases i⟩,trivial⟩ ?_ ⟨rfl,?_⟩
  ·intro x w;simp[results,results24,go_sem,w]
  ·exact λx E i l=>jx l i
  ·rintro x E ⟨w,M⟩ l;exact⟨w,M.trans (nf l)⟩
  ·exact(KeepsOthers.setCell _ _ _).same _ _ R rfl
  ·exact jL _ _ _ (by rw[p];rfl)
  ·exact r.setCell (by simp) _
