/- The field of the numbers modulo the prime 2147483579: an element's inverse is its power. -/
import Derived.Test.YtaifagjclanodaaGreatDoorRows
import Derived.Test.YtaifagjclanodaaGreatDoorMBase
import Derived.ProofKit
import Derived.OpenShut
import Derived.Carry
import Derived.ChangeSlices
import Derived.ReadAgain
import Derived.Deep.Matrix
import Derived.SizedLaws
set_option maxRecDepth 100000
namespace Go.Proofs.YtaifagjclanodaaGreatDoor
open Go.Proofs.Tryz
variable{a:Int}{j:List TypeId}{e k d b c:Nat}
namespace FP
abbrev Fp:=Fin 2147483579
def cp(z:Int):Fp:=⟨(z%2147483579).toNat,by omega⟩
theorem yy(z:Int):((cp z).val:Int)=z%2147483579:=by
 show(((z%2147483579).toNat:Nat):Int)=_;omega
theorem Ab{a f:Fp}(g:(a.val:Int)=f.val):a=f:=Fin.ext (by omega)
theorem YL(a f:Fp):((a+f).val:Int)=((a.val:Int)+f.val)%2147483579:=by
 rw[Fin.val_add];omega
theorem YM(a f:Fp):((a*f).val:Int)=((a.val:Int)*f.val)%2147483579:=by
 rw[Fin.val_mul];simp
theorem ana(a f:Int):cp (a+f)=cp a+cp f:=by
 apply Ab;rw[YL,yy,yy,yy];omega
theorem OZ(a f:Int):cp (a*f)=cp a*cp f:=by
 apply Ab;rw[YM,yy,yy,yy];exact lO a f _
theorem TN(a:Int):cp (a%2147483579)=cp a:=by
 apply Ab;rw[yy,yy];omega
theorem aez:cp 0=0:=by decide +kernel
theorem Lz:cp 1=1:=by decide +kernel
theorem YN:cp a=0↔a%2147483579=0:=by
 constructor
 ·intro f;have:=yy a;rw[f]at this;exact this.symm
 ·intro f;apply Ab;rw[yy,f];rfl
theorem aeA{f:Int}(ha:0<=a/\a<2147483579)(n:0<=f/\f<2147483579)(l:cp a=cp f):a=f:=by
 have g:=yy a;have m:=yy f;rw[l]at g;omega
theorem anb(a:Fp):cp (a.val:Int)=a:=by
 apply Ab;rw[yy];have:=a.isLt;omega
def yz:Nat->Nat->Bool
 |0,e=>2147483579%e !=0
 |k+1,e=>yz k e&&yz k (e+2^k)
theorem IG:∀(k e:Nat),yz k e=true->∀f,e<=f->f<e+2^k->2147483579%f≠0
 |0,e,g,f,m,l=>by
  obtain rfl:f=e:=by simp at l;omega
  simpa [yz] using g
 |k+1,e,g,f,m,l=>by
  simp only[yz,cu]at g;by_cases n:f<e+2^k
  ·exact IG k e g.1 f m n
  ·exact IG k (e+2^k) g.2 f (by omega) (by rw[Nat.pow_succ]at l;omega)
theorem YO:yz 16 2=true:=by decide +kernel
theorem O0(f:e ∣ 2147483579)(m:e<=65537):e=1:=by
 by_cases l:e=1
 ·exact l
 ·by_cases g:e=0
  ·subst g;simp at f
  ·exact absurd (Nat.mod_eq_zero_of_dvd f) (IG 16 2 YO e (by omega) (by omega))
theorem YP(l:e ∣ 2147483579):e=1\/e=2147483579:=by
 by_cases n:e<=65537
 ·exact .inl (O0 l n)
 ·obtain⟨f,g⟩:=l;have o:f<=65537:=by
   by_cases m:f<=65537
   ·exact m
   ·have:=SM (show 65538<=e by omega) (show 65538<=f by omega);omega
  have:=O0 ⟨e,by rw[KP];exact g⟩ o;rw[this]at g;right;omega
theorem prime_cop{a:Nat}(g:¬ 2147483579 ∣ a):Nat.Coprime 2147483579 a:=by
 rcases YP (Nat.gcd_dvd_left 2147483579 a) with f|f
 ·exact f
 ·exact absurd (f▸Nat.gcd_dvd_right 2147483579 a) g
theorem O1{a f:Nat}(g:2147483579 ∣ a*f)(ha:¬ 2147483579 ∣ a):2147483579 ∣ f:=
 (prime_cop ha).dvd_of_dvd_mul_left g
theorem O2{a f:Fp}(l:a*f=0):a=0\/f=0:=by
 have g:(a*f).val=0:=by rw[l];rfl
 rw[Fin.val_mul]at g;by_cases ha:2147483579 ∣ a.val
 ·left;apply Fin.ext;exact SN ha a.isLt
 ·right;apply Fin.ext;exact SN (O1 (Sz g) ha) f.isLt
def dw:Nat->Nat->Nat
 |_,0=>1
 |0,_+1=>0
 |b+1,k+1=>dw b k+dw b (k+1)
theorem yB(b:Nat):dw b 0=1:=by cases b<;>rfl
theorem yD:∀(b k:Nat),b<k->dw b k=0
 |0,k+1,_=>rfl
 |b+1,k+1,f=>by rw[dw,yD b k (by omega),yD b (k+1) (by omega)]
theorem O3:∀b,dw b b=1
 |0=>rfl
 |b+1=>by rw[dw,O3 b,yD b (b+1) (by omega)]
theorem Ec:∀(b k:Nat),(k+1)*dw (b+1) (k+1)=(b+1)*dw b k
 |0,0=>rfl
 |0,k+1=>by rw[yD 1 (k+2) (by omega),yD 0 (k+1) (by omega)];simp
 |b+1,0=>by
  have:=Ec b 0;rw[show dw (b+1+1) (0+1)=dw (b+1) 0+dw (b+1) (0+1) from rfl,H3,this,yB,yB];omega
 |b+1,k+1=>by
  have g:=Ec b k;have l:=Ec b (k+1);rw[show dw (b+1+1) (k+1+1)=dw (b+1) (k+1)+dw (b+1) (k+1+1) from rfl,H3,l];have m:(k+1+1)*dw (b+1) (k+1)=(b+1)*dw b k+dw (b+1) (k+1):=by rw[<-g];grind
  rw[m];have f:dw (b+1) (k+1)=dw b k+dw b (k+1):=rfl;rw[f];grind
theorem YQ(m:0<k)(n:k<2147483579):2147483579 ∣ dw 2147483579 k:=by
 obtain⟨f,rfl⟩:∃f,k=f+1:=⟨k-1,by omega⟩;have l:=Ec 2147483578 f;refine O1 (a:=f+1) ⟨dw 2147483578 f,l⟩ (λg=>?_);have:=DD (by omega) g;omega
def sm:Nat->(Nat->Fp)->Fp
 |0,_=>0
 |b+1,f=>sm b f+f b
theorem iJ{l g:Nat->Fp}(m:∀f,f<b->l f=g f):sm b l=sm b g:=by
 induction b with
 |zero=>rfl
 |succ b n=>rw[sm,sm,n (λf o=>m f (by omega)),m b (by omega)]
theorem Ed(b:Nat)(f g:Nat->Fp):sm b (λl=>f l+g l)=sm b f+sm b g:=by
 induction b with
 |zero=>rfl
 |succ b m=>rw[sm,sm,sm,m];grind
theorem Ee(b:Nat)(a:Fp)(f:Nat->Fp):sm b (λl=>a*f l)=a*sm b f:=by
 induction b with
 |zero=>simp only[sm];grind
 |succ b g=>rw[sm,sm,g];grind
theorem O5(b:Nat)(a:Fp)(f:Nat->Fp):sm b (λg=>f g*a)=sm b f*a:=by
 rw[DG,<-Ee];exact iJ λg _=>DG _ _
theorem Gc{g:Nat->Fp}(l:∀f,f<b->g f=0):sm b g=0:=by
 induction b with
 |zero=>rfl
 |succ b m=>rw[sm,m (λf n=>l f (by omega)),l b (by omega)];rfl
theorem Gd(b:Nat)(f:Nat->Fp):sm (b+1) f=f 0+sm b (λl=>f (l+1)):=by
 induction b with
 |zero=>simp[sm]
 |succ b g=>rw[sm,g,sm];grind
def natq(k:Nat):Fp:=cp k
theorem LA(a f:Nat):natq (a+f)=natq a+natq f:=by unfold natq;rw[<-ana];rfl
theorem LB(f:2147483579 ∣ k):natq k=0:=by unfold natq;rw[YN];omega
theorem Ef:natq 1=1:=Lz
theorem pow_0(a:Fp):a^0=1:=by grind
theorem pow_s(a:Fp)(b:Nat):a^(b+1)=a^b*a:=by grind
theorem O7(a:Fp):∀b,(a+1)^b=sm (b+1) (λk=>natq (dw b k)*a^k)
 |0=>by show(a+1)^0=0+natq (dw 0 0)*a^0;rw[yB,Ef,pow_0,pow_0];rfl
 |b+1=>by
  rw[pow_s,O7 a b,Gd (b+1)];have g:sm (b+1) (λf=>natq (dw (b+1) (f+1))*a^(f+1))=sm (b+1) (λf=>natq (dw b f)*a^f)*a+sm (b+1) (λf=>natq (dw b (f+1))*a^(f+1)):=by
   rw[<-O5,<-Ed];refine iJ λf _=>?_;rw[show dw (b+1) (f+1)=dw b f+dw b (f+1) from rfl,LA,pow_s];grind
  have l:sm (b+1) (λk=>natq (dw b k)*a^k)=natq (dw b 0)*a^0+sm (b+1) (λf=>natq (dw b (f+1))*a^(f+1)):=by
   rw[Gd]
   congr 1
   show _=sm b _+natq (dw b (b+1))*a^(b+1);rw[yD b (b+1) (by omega),LB ⟨0,rfl⟩];grind
  rw[g,yB];rw[yB]at l;grind
theorem YR(a:Fp)(b:Nat)(l:∀f,f<b->natq (dw (b+1) (f+1))=0):(a+1)^(b+1)=a^(b+1)+1:=by
 rw[O7 a (b+1)];show sm (b+1) _+natq (dw (b+1) (b+1))*a^(b+1)=_;rw[O3,Ef,Gd b,yB,Ef,Gc]
 ·rw[pow_0];grind
 ·intro f g;rw[l f g];grind
theorem YS(a:Fp)(b:Nat)(hn:b+1=2147483579):(a+1)^(b+1)=a^(b+1)+1:=
 YR a b λg f=>LB (by rw[hn];exact YQ (by omega) (by omega))
theorem Pa(b:Nat)(hn:b+1=2147483579):∀k:Nat,natq k^(b+1)=natq k
 |0=>by rw[show natq 0=0 from aez,pow_s];grind
 |k+1=>by rw[LA,Ef,YS _ b hn,Pa b hn k]
theorem YT(a:Fp):natq a.val=a:=anb a
theorem YU{a f l:Fp}(o:a≠0)(p:l*a=a)(m:l=f*a):f*a=1:=by
 have n:a*(f*a-1)=0:=by rw[<-m];grind
 rcases O2 n with g|g
 ·exact absurd g o
 ·generalize f*a=q at *;grind
theorem fermat_n{a:Fp}(b:Nat)(hn:b+1+1=2147483579)(g:a≠0):a^b*a=1:=by
 have f:=Pa (b+1) hn a.val;rw[YT,pow_s]at f;exact YU g f (pow_s a b)
theorem aeB(z:Int):∀b:Nat,cp (z^b)=cp z^b
 |0=>by rw[pow_0,uO,Lz]
 |b+1=>by rw[pow_s,zP,OZ,aeB z b]
def IH(a:Int)(b:Nat):Int:=a^b%2147483579
end FP
abbrev Fq:=Fin 1073741789
def cq(z:Int):Fq:=⟨(z%1073741789).toNat,by omega⟩
theorem rY(z:Int):((cq z).val:Int)=z%1073741789:=by
 show(((z%1073741789).toNat:Nat):Int)=_;omega
theorem Ab{a f:Fq}(g:(a.val:Int)=f.val):a=f:=Fin.ext (by omega)
theorem YL(a f:Fq):((a+f).val:Int)=((a.val:Int)+f.val)%1073741789:=by
 rw[Fin.val_add];omega
theorem YM(a f:Fq):((a*f).val:Int)=((a.val:Int)*f.val)%1073741789:=by
 rw[Fin.val_mul];simp
theorem anc(a:Fq):((-a).val:Int)=(-(a.val:Int))%1073741789:=by
 have f:=a.isLt;rw[Fin.val_neg'];omega
theorem vd(a f:Int):cq (a+f)=cq a+cq f:=by
 apply Ab;rw[YL,rY,rY,rY];omega
theorem wM(a f:Int):cq (a*f)=cq a*cq f:=by
 apply Ab;rw[YM,rY,rY,rY];exact lO a f _
theorem aeC(a:Int):cq (-a)=-cq a:=by
 apply Ab;rw[anc,rY,rY];omega
theorem nX(a:Int):cq (a%1073741789)=cq a:=by
 apply Ab;rw[rY,rY];omega
theorem se:cq 0=0:=by decide +kernel
theorem Pb:cq 1=1:=by decide +kernel
theorem TO:cq a=0↔a%1073741789=0:=by
 constructor
 ·intro f;have:=rY a;rw[f]at this;exact this.symm
 ·intro f;apply Ab;rw[rY,f];rfl
theorem LC{f:Int}(ha:0<=a/\a<1073741789)(n:0<=f/\f<1073741789)(l:cq a=cq f):a=f:=by
 have g:=rY a;have m:=rY f;rw[l]at g;omega
theorem ane(a:Fq):cq (a.val:Int)=a:=by
 apply Ab;rw[rY];have:=a.isLt;omega
def yz:Nat->Nat->Bool
 |0,e=>1073741789%e !=0
 |k+1,e=>yz k e&&yz k (e+2^k)
theorem IG:∀(k e:Nat),yz k e=true->∀f,e<=f->f<e+2^k->1073741789%f≠0
 |0,e,g,f,m,l=>by
  obtain rfl:f=e:=by simp at l;omega
  simpa [yz] using g
 |k+1,e,g,f,m,l=>by
  simp only[yz,cu]at g;by_cases n:f<e+2^k
  ·exact IG k e g.1 f m n
  ·exact IG k (e+2^k) g.2 f (by omega) (by rw[Nat.pow_succ]at l;omega)
theorem YO:yz 15 2=true:=by decide +kernel
theorem O0(f:e ∣ 1073741789)(m:e<=32769):e=1:=by
 by_cases l:e=1
 ·exact l
 ·by_cases g:e=0
  ·subst g;simp at f
  ·exact absurd (Nat.mod_eq_zero_of_dvd f) (IG 15 2 YO e (by omega) (by omega))
theorem YP(l:e ∣ 1073741789):e=1\/e=1073741789:=by
 by_cases n:e<=32769
 ·exact .inl (O0 l n)
 ·obtain⟨f,g⟩:=l;have o:f<=32769:=by
   by_cases m:f<=32769
   ·exact m
   ·have:=SM (show 32770<=e by omega) (show 32770<=f by omega);omega
  have:=O0 ⟨e,by rw[KP];exact g⟩ o;rw[this]at g;right;omega
theorem prime_cop{a:Nat}(g:¬ 1073741789 ∣ a):Nat.Coprime 1073741789 a:=by
 rcases YP (Nat.gcd_dvd_left 1073741789 a) with f|f
 ·exact f
 ·exact absurd (f▸Nat.gcd_dvd_right 1073741789 a) g
theorem O1{a f:Nat}(g:1073741789 ∣ a*f)(ha:¬ 1073741789 ∣ a):1073741789 ∣ f:=
 (prime_cop ha).dvd_of_dvd_mul_left g
theorem O2{a f:Fq}(l:a*f=0):a=0\/f=0:=by
 have g:(a*f).val=0:=by rw[l];rfl
 rw[Fin.val_mul]at g;by_cases ha:1073741789 ∣ a.val
 ·left;apply Fin.ext;exact SN ha a.isLt
 ·right;apply Fin.ext;exact SN (O1 (Sz g) ha) f.isLt
def dw:Nat->Nat->Nat
 |_,0=>1
 |0,_+1=>0
 |b+1,k+1=>dw b k+dw b (k+1)
theorem yB(b:Nat):dw b 0=1:=by cases b<;>rfl
theorem yD:∀(b k:Nat),b<k->dw b k=0
 |0,k+1,_=>rfl
 |b+1,k+1,f=>by rw[dw,yD b k (by omega),yD b (k+1) (by omega)]
theorem O3:∀b,dw b b=1
 |0=>rfl
 |b+1=>by rw[dw,O3 b,yD b (b+1) (by omega)]
theorem Ec:∀(b k:Nat),(k+1)*dw (b+1) (k+1)=(b+1)*dw b k
 |0,0=>rfl
 |0,k+1=>by rw[yD 1 (k+2) (by omega),yD 0 (k+1) (by omega)];simp
 |b+1,0=>by
  have:=Ec b 0;rw[show dw (b+1+1) (0+1)=dw (b+1) 0+dw (b+1) (0+1) from rfl,H3,this,yB,yB];omega
 |b+1,k+1=>by
  have g:=Ec b k;have l:=Ec b (k+1);rw[show dw (b+1+1) (k+1+1)=dw (b+1) (k+1)+dw (b+1) (k+1+1) from rfl,H3,l];have m:(k+1+1)*dw (b+1) (k+1)=(b+1)*dw b k+dw (b+1) (k+1):=by rw[<-g];grind
  rw[m];have f:dw (b+1) (k+1)=dw b k+dw b (k+1):=rfl;rw[f];grind
theorem YQ(m:0<k)(n:k<1073741789):1073741789 ∣ dw 1073741789 k:=by
 obtain⟨f,rfl⟩:∃f,k=f+1:=⟨k-1,by omega⟩;have l:=Ec 1073741788 f;refine O1 (a:=f+1) ⟨dw 1073741788 f,l⟩ (λg=>?_);have:=DD (by omega) g;omega
def sm:Nat->(Nat->Fq)->Fq
 |0,_=>0
 |b+1,f=>sm b f+f b
theorem iJ{l g:Nat->Fq}(m:∀f,f<b->l f=g f):sm b l=sm b g:=by
 induction b with
 |zero=>rfl
 |succ b n=>rw[sm,sm,n (λf o=>m f (by omega)),m b (by omega)]
theorem Ed(b:Nat)(f g:Nat->Fq):sm b (λl=>f l+g l)=sm b f+sm b g:=by
 induction b with
 |zero=>rfl
 |succ b m=>rw[sm,sm,sm,m];grind
theorem Ee(b:Nat)(a:Fq)(f:Nat->Fq):sm b (λl=>a*f l)=a*sm b f:=by
 induction b with
 |zero=>simp only[sm];grind
 |succ b g=>rw[sm,sm,g];grind
theorem O5(b:Nat)(a:Fq)(f:Nat->Fq):sm b (λg=>f g*a)=sm b f*a:=by
 rw[DG,<-Ee];exact iJ λg _=>DG _ _
theorem Gc{g:Nat->Fq}(l:∀f,f<b->g f=0):sm b g=0:=by
 induction b with
 |zero=>rfl
 |succ b m=>rw[sm,m (λf n=>l f (by omega)),l b (by omega)];rfl
theorem LD{g:Nat->Fq}(p:k<b)(l:∀f,f<b->f≠k->g f=0):sm b g=g k:=by
 induction b with
 |zero=>omega
 |succ b n =>
  rw[sm];by_cases o:k=b
  ·subst o;rw[Gc (λf m=>l f (by omega) (by omega))];simp
  ·rw[n (by omega) (λf m=>l f (by omega)),l b (by omega) (by omega)];simp
theorem TP(b d:Nat)(l:Nat->Nat->Fq):sm b (λf=>sm d (λg=>l f g))=sm d (λg=>sm b (λf=>l f g)):=by
 induction b with
 |zero=>exact(Gc (λ_ _=>rfl)).symm
 |succ b m=>rw[sm,m,<-Ed];exact iJ λ_ _=>rfl
theorem Gd(b:Nat)(f:Nat->Fq):sm (b+1) f=f 0+sm b (λl=>f (l+1)):=by
 induction b with
 |zero=>simp[sm]
 |succ b g=>rw[sm,g,sm];grind
def natq(k:Nat):Fq:=cq k
theorem LA(a f:Nat):natq (a+f)=natq a+natq f:=by unfold natq;rw[<-vd];rfl
theorem LB(f:1073741789 ∣ k):natq k=0:=by unfold natq;rw[TO];omega
theorem Ef:natq 1=1:=Pb
theorem pow_0(a:Fq):a^0=1:=by grind
theorem pow_s(a:Fq)(b:Nat):a^(b+1)=a^b*a:=by grind
theorem O7(a:Fq):∀b,(a+1)^b=sm (b+1) (λk=>natq (dw b k)*a^k)
 |0=>by show(a+1)^0=0+natq (dw 0 0)*a^0;rw[yB,Ef,pow_0,pow_0];rfl
 |b+1=>by
  rw[pow_s,O7 a b,Gd (b+1)];have g:sm (b+1) (λf=>natq (dw (b+1) (f+1))*a^(f+1))=sm (b+1) (λf=>natq (dw b f)*a^f)*a+sm (b+1) (λf=>natq (dw b (f+1))*a^(f+1)):=by
   rw[<-O5,<-Ed];refine iJ λf _=>?_;rw[show dw (b+1) (f+1)=dw b f+dw b (f+1) from rfl,LA,pow_s];grind
  have l:sm (b+1) (λk=>natq (dw b k)*a^k)=natq (dw b 0)*a^0+sm (b+1) (λf=>natq (dw b (f+1))*a^(f+1)):=by
   rw[Gd]
   congr 1
   show _=sm b _+natq (dw b (b+1))*a^(b+1);rw[yD b (b+1) (by omega),LB ⟨0,rfl⟩];grind
  rw[g,yB];rw[yB]at l;grind
theorem YR(a:Fq)(b:Nat)(l:∀f,f<b->natq (dw (b+1) (f+1))=0):(a+1)^(b+1)=a^(b+1)+1:=by
 rw[O7 a (b+1)];show sm (b+1) _+natq (dw (b+1) (b+1))*a^(b+1)=_;rw[O3,Ef,Gd b,yB,Ef,Gc]
 ·rw[pow_0];grind
 ·intro f g;rw[l f g];grind
theorem YS(a:Fq)(b:Nat)(hn:b+1=1073741789):(a+1)^(b+1)=a^(b+1)+1:=
 YR a b λg f=>LB (by rw[hn];exact YQ (by omega) (by omega))
theorem Pa(b:Nat)(hn:b+1=1073741789):∀k:Nat,natq k^(b+1)=natq k
 |0=>by rw[show natq 0=0 from se,pow_s];grind
 |k+1=>by rw[LA,Ef,YS _ b hn,Pa b hn k]
theorem YT(a:Fq):natq a.val=a:=ane a
theorem YU{a f l:Fq}(o:a≠0)(p:l*a=a)(m:l=f*a):f*a=1:=by
 have n:a*(f*a-1)=0:=by rw[<-m];grind
 rcases O2 n with g|g
 ·exact absurd g o
 ·generalize f*a=q at *;grind
theorem fermat_n{a:Fq}(b:Nat)(hn:b+1+1=1073741789)(g:a≠0):a^b*a=1:=by
 have f:=Pa (b+1) hn a.val;rw[YT,pow_s]at f;exact YU g f (pow_s a b)
theorem aeD(z:Int):∀b:Nat,cq (z^b)=cq z^b
 |0=>by rw[pow_0,uO,Pb]
 |b+1=>by rw[pow_s,zP,wM,aeD z b]
def IH(a:Int)(b:Nat):Int:=a^b%1073741789
theorem anf{z:Int}(b:Nat)(hn:b+1+1=1073741789)(f:cq z≠0):cq (IH z b)*cq z=1:=by
 unfold IH;rw[nX,aeD];exact fermat_n b hn f
theorem aeE{z:Int}(f:cq z≠0):cq (IH z 1073741787)*cq z=1:=anf 1073741787 rfl f
abbrev pX:=Nat->Nat->Fq
def dt(d:Nat)(g l:Nat->Fq):Fq:=sm d (λf=>g f*l f)
def YV(b d:Nat)(g:pX)(l:Nat->Fq):Prop:=∀f,f<b->dt d (g f) l=0
def Span(b d:Nat)(l:pX)(m:Nat->Fq):Prop:=∃n:Nat->Fq,∀f,f<d->m f=sm b (λg=>n g*l g f)
theorem Ge{l m n o:Nat->Fq}(q:∀f,f<d->l f=m f)(p:∀f,f<d->n f=o f):dt d l n=dt d m o:=
 iJ λf g=>by rw[q f g,p f g]
theorem ang(d:Nat)(f a l:Nat->Fq):dt d f (λg=>a g+l g)=dt d f a+dt d f l:=by
 unfold dt;rw[<-Ed];exact iJ λg _=>by grind
theorem anh(d:Nat)(g a:Nat->Fq)(f:Fq):dt d g (λl=>f*a l)=f*dt d g a:=by
 unfold dt;rw[<-Ee];exact iJ λl _=>by grind
theorem Pc(d:Nat)(f g:Nat->Fq):dt d f g=dt d g f:=iJ λ_ _=>DG _ _
theorem aeF(d:Nat)(f a g:Nat->Fq):dt d (λl=>a l+g l) f=dt d a f+dt d g f:=by
 rw[Pc,ang,Pc d f a,Pc d f g]
theorem Pd(d:Nat)(g a:Nat->Fq)(f:Fq):dt d (λl=>f*a l) g=f*dt d a g:=by
 rw[Pc,anh,Pc]
theorem aeG(b d:Nat)(n:Nat->Fq)(l:pX)(m:Nat->Fq):dt d (λg=>sm b (λf=>n f*l f g)) m=sm b (λf=>n f*dt d (l f) m):=by
 unfold dt;rw[show(λg=>sm b (λf=>n f*l f g)*m g)=λg=>sm b (λf=>n f*l f g*m g) from funext λ_=>(O5 b _ _).symm,TP];refine iJ λf _=>?_;rw[<-Ee];exact iJ λg _=>by grind
theorem YW{g:pX}{m n:Nat->Fq}(r:Span b d g m)(q:∀f,f<d->n f=m f):Span b d g n:=
 let ⟨p,o⟩:=r;⟨p,λf l=>by rw[q f l,o f l]⟩
theorem aeH{g:pX}{l m:Nat->Fq}(t:Span b d g l)(k:Span b d g m):Span b d g (λf=>l f+m f):=
 let ⟨r,p⟩:=t;let ⟨s,q⟩:=k
 ⟨λn=>r n+s n,λf o=>by
  show l f+m f=_;rw[p f o,q f o,<-Ed];exact iJ λn _=>by grind⟩
theorem YX{m:pX}{l:Nat->Fq}(g:Fq)(r:Span b d m l):Span b d m (λf=>g*l f):=
 let ⟨q,p⟩:=r
 ⟨λn=>g*q n,λf o=>by
  show g*l f=_;rw[p f o,<-Ee];exact iJ λn _=>by grind⟩
theorem ani{g:pX}{f:Nat}(m:f<b):Span b d g (g f):=
 ⟨λk=>if k=f then 1 else 0,λl _=>by
  rw[LD m (λk _ n=>by show(if k=f then (1:Fq) else 0)*g k l=0;rw[aA n];grind)];show _=(if f=f then (1:Fq) else 0)*g f l;rw[aD rfl];grind⟩
structure Bi(b d:Nat)(n g:pX)(c:Nat)(p:Nat->Nat)(q:Nat):Prop where
 rn:c<=b
 ker:∀o,YV b d g o↔YV b d n o
 span:∀f,f<b->Span b d n (g f)
 pc:∀k,k<c->p k<q
 mono:∀k m,k<m->m<c->p k<p m
 one:∀k,k<c->g k (p k)=1
 zero:∀k f,k<c->f<b->f≠k->g f (p k)=0
 low:∀f l,c<=f->f<b->l<q->g f l=0
 left:∀k l,k<c->l<p k->g k l=0
theorem anj(b d:Nat)(g:pX)(p:Nat->Nat):Bi b d g g 0 p 0:=
 ⟨bS _,λ_=>Iff.rfl,λ_ l=>ani l,λ_ f=>by omega,λ_ _ _ f=>by omega,λ_ f=>by omega,λ_ _ f=>by omega,λ_ _ _ _ f=>by omega,λ_ _ f=>by omega⟩
theorem ank{n l:pX}{p:Nat->Nat}{g:Nat}(m:Bi b d n l c p g)(s:∀f,c<=f->f<b->l f g=0):Bi b d n l c p (g+1):=
 {m with
  pc:=λk t=>H5 (m.pc k t)
  low:=λf r o q v=>by
   by_cases u:r=g
   ·rw[u];exact s f o q
   ·exact m.low f r o q (by omega)}
def Bj(l:pX)(c o k:Nat)(n:Fq):pX:=λf g =>
 let m:pX:=λf g=>if f=c then l k g else if f=k then l c g else l f g
 if f=c then l k g*n else m f g-m f o*(l k g*n)
theorem LF(f:pX)(c m k:Nat)(g:Fq)(l:Nat):Bj f c m k g c l=f k l*g:=by unfold Bj;rw[aD rfl]
theorem II(f:pX)(c m k:Nat)(l:Fq)(g:Nat)(n:k≠c):Bj f c m k l k g=f c g-f c m*(f k g*l):=by
 unfold Bj;simp only[aA n,if_true]
theorem Eg(g:pX)(c n k:Nat)(m:Fq)(f l:Nat)(p:f≠c)(o:f≠k):Bj g c n k m f l=g f l-g f n*(g k l*m):=by
 unfold Bj;simp only[aA p,aA o]
theorem anl{K g:pX}{p:Nat->Nat}{r:Nat}{t:Fq}(m:Bi b d K g c p r)(x:c<=k)(u:k<b)(W:t*g k r=1)(I:p c=r):
  Bi b d K (Bj g c r k t) (c+1) p (r+1):=by
 have E:c<b:=by omega
 have F:g k r*t=1:=by rw[DG];exact W
 refine⟨by omega,λv=>Iff.trans ?_ (m.ker v),?_,?_,?_,?_,?_,?_,?_⟩
 ·have S:dt d (Bj g c r k t c) v=t*dt d (g k) v:=by
   rw[Ge (m:=λn=>t*g k n) (λn _=>by rw[LF];exact DG _ _) (λ_ _=>rfl),Pd]
  have P:k≠c->dt d (Bj g c r k t k) v=dt d (g c) v+(- g c r)*(t*dt d (g k) v):=λD=>by
   rw[Ge (m:=λn=>g c n+(- g c r)*(t*g k n)) (λn _=>by rw[II _ _ _ _ _ _ D];grind) (λ_ _=>rfl),aeF,Pd,Pd]
  have Q:∀f,f≠c->f≠k->dt d (Bj g c r k t f) v=dt d (g f) v+(- g f r)*(t*dt d (g k) v):=λf y G=>by
   rw[Ge (m:=λn=>g f n+(- g f r)*(t*g k n)) (λn _=>by rw[Eg _ _ _ _ _ _ _ y G];grind) (λ_ _=>rfl),aeF,Pd,Pd]
  constructor
  ·intro w;have y:=w c E;rw[S]at y;have O:dt d (g k) v=0:=by
    have:g k r*(t*dt d (g k) v)=0:=by rw[y];grind
    grind
   intro f z;by_cases l:f=k
   ·rw[l];exact O
   ·by_cases q:f=c
    ·rw[q];have:=w k u;rw[P (λo=>l (by rw[q,o])),O]at this;grind
    ·have:=w f z;rw[Q f q l,O]at this;grind
  ·intro w f z;by_cases q:f=c
   ·rw[q,S,w k u];grind
   ·by_cases l:f=k
    ·rw[l,P (λo=>q (by rw[l,o])),w k u,w c E];grind
    ·rw[Q f q l,w k u,w f z];grind
 ·intro f z;have L:Span b d K (λn=>t*g k n):=YX t (m.span k u);by_cases q:f=c
  ·exact YW L λn _=>by rw[q,LF];exact DG _ _
  ·by_cases l:f=k
   ·exact YW (aeH (m.span c E) (YX (- g c r) L)) λn _=>by rw[l,II _ _ _ _ _ _ (λo=>q (by rw[l,o]))];grind
   ·exact YW (aeH (m.span f z) (YX (- g f r) L)) λn _=>by rw[Eg _ _ _ _ _ _ _ q l];grind
 ·intro s N;by_cases o:s=c
  ·rw[o,I];omega
  ·have:=m.pc s (by omega);omega
 ·intro s R y G;by_cases o:R=c
  ·rw[o,I];exact m.pc s (by omega)
  ·exact m.mono s R y (by omega)
 ·intro s N;by_cases o:s=c
  ·rw[o,I,LF];exact F
  ·have B:=m.pc s (by omega);rw[Eg _ _ _ _ _ _ _ o (by omega),m.one s (by omega),m.low k _ x u B];grind
 ·intro s f N z D;by_cases o:s=c
  ·rw[o,I];by_cases l:f=k
   ·rw[l,II _ _ _ _ _ _ (λM=>D (by rw[l,M,o])),F];grind
   ·rw[Eg _ _ _ _ _ _ _ (λM=>D (by rw[M,o])) l,F];grind
  ·have B:=m.pc s (by omega);by_cases q:f=c
   ·rw[q,LF,m.low k _ x u B];grind
   ·by_cases l:f=k
    ·rw[l,II _ _ _ _ _ _ (λo=>q (by rw[l,o])),m.low k _ x u B,m.low c _ (aP _) E B];grind
    ·rw[Eg _ _ _ _ _ _ _ q l,m.low k _ x u B,m.zero s f (by omega) z D];grind
 ·intro f n y G X;have q:f≠c:=by omega
  by_cases T:n=r
  ·rw[T];by_cases l:f=k
   ·rw[l,II _ _ _ _ _ _ (by omega),F];grind
   ·rw[Eg _ _ _ _ _ _ _ q l,F];grind
  ·have C:n<r:=by omega
   by_cases l:f=k
   ·rw[l,II _ _ _ _ _ _ (by omega),m.low k _ x u C,m.low c _ (aP _) E C];grind
   ·rw[Eg _ _ _ _ _ _ _ q l,m.low k _ x u C,m.low f _ (by omega) G C];grind
 ·intro s n N C;by_cases o:s=c
  ·subst o;rw[LF,m.low k n x u (by omega)];grind
  ·have B:=m.pc s (by omega);rw[Eg _ _ _ _ _ _ _ o (by omega),m.left s n (by omega) C,m.low k n x u (by omega)];grind
theorem anm{p:Nat->Nat}{f:Nat->Fq}(s:∀k,k<c->p k<d)(q:∀k n,k<n->n<c->p k<p n)(r:∀g,g<d->(∀k,k<c->p k≠g)->f g=0):
  sm d f=sm c (λk=>f (p k)):=by
 induction c generalizing f with
 |zero=>exact Gc λg o=>r g o (λk m=>by omega)
 |succ c y =>
  have t:∀k,k<c->p k≠p c:=λk m=>Nat.ne_of_lt (q k c m (by omega));have v:sm d f=sm d (λg=>if g=p c then 0 else f g)+sm d (λg=>if g=p c then f g else 0):=by
   rw[<-Ed];refine iJ λg _=>?_;by_cases l:g=p c
   ·rw[aD l,aD l];grind
   ·rw[aA l,aA l];grind
  rw[v,y (f:=λg=>if g=p c then 0 else f g) (λk m=>s k (by omega)) (λk n x z=>q k n x (by omega)) (λg o m=>by
   by_cases l:g=p c
   ·show(if g=p c then 0 else f g)=0;rw[aD l]
   ·show(if g=p c then 0 else f g)=0;rw[aA l];exact r g o (λk B=>by
     by_cases w:k=c
     ·rw[w];exact λu=>l u.symm
     ·exact m k (by omega))),LD (k:=p c) (s c (by omega)) (λg _ l=>by show(if g=p c then f g else 0)=0;rw[aA l])]
  show _=sm c _+f (p c)
  congr 1
  ·exact iJ λk m=>by show(if p k=p c then 0 else f (p k))=f (p k);rw[aA (t k m)]
  ·show(if p c=p c then f (p c) else 0)=_;rw[aD rfl]
open Go.ChangeShapes Go.WideShapes Go.ChangeAt Go.RowKit Go.Deep
theorem ann:ownKnob prog.godebug=none:=by kernel_rfl
theorem ano:laidOutB prog=true:=by kernel_rfl
theorem aeL:prog.cellsOf 3 = 1:=by kernel_rfl
theorem anp:prog.cellsOf 23 = 1:=by kernel_rfl
theorem aeM:prog.bytesOf 3 = 8:=by kernel_rfl
theorem bytesRow:prog.bytesOf 23 = 24:=by kernel_rfl
theorem TQ:reachBytes=140737488351232:=rfl
theorem aeN{b:Int}(f:(Lit.int .i64 b).wf=true):aN b:=by
 simp[Lit.wf,IntKind.min,IntKind.max,IntKind.signed,IntKind.bits]at f;unfold aN;omega
def IK{H:Type}(f:TypeId)(e:DataW H):Prop:=∀b∈e.weights prog f,b<=reachBytes
theorem YZ{H:Type}{f:List (DataW H)}(o:(DataW.weightsEach prog j f).all (·<=reachBytes)=true){l:Nat}{g:TypeId}{e:DataW H}(n:j[l]?=some g)(m:f[l]?=some e):IK g e:=λb hn=>by
 have:=fg.1 o _ (DataW.weights_mem_each n m b hn);simpa using this
theorem anq{H:Type}{l:TypeId}{f:List (DataW H)}{e:DataW H}(g:e∈f)(hn:b∈e.weights prog l):b∈DataW.weightsAll prog l f:=by
 induction f with
 |nil=>cases g
 |cons a o m =>
  simp only[DataW.weightsAll,lN];rcases iu.1 g with rfl|n
  ·exact .inl hn
  ·exact .inr (m n)
section
variable {H:Type} {i:TypeId×Value->H} {h:World}
theorem anr{m:Value}{e:DataW H}{D:List MemPlace}(B:∃a b K,m=.slice a b K)(L:DataW.Trod i prog h 0 (λ_=>true) true 23 m e D)(y:IK 23 e):∃f,aM h m f:=by
 obtain⟨N,l,o,rfl⟩:=B;obtain⟨O,w⟩:=L;rcases open_ints underlying23 underlying3 aeL w with⟨g,-⟩|⟨a,M,R,f,g,-,z,Q,r,q,n,s⟩
 ·simp[Value.cells]at g;obtain⟨rfl,rfl,rfl⟩:=g;exact⟨[],aM.nil _ _ _⟩
 ·simp[Value.cells]at g;obtain⟨rfl,rfl,rfl⟩:=g;simp only[if_true]at r;simp only[pN]at q;have P:o<=17592186044416:=by
   have:=y ((f.take l).length+(f.drop l).length |>.mul 8) (by
    rw[q.1];simp only[DataW.weights,underlying23,aeM,lits,dy];exact wh ..)
   have p:((f.take l).length+(f.drop l).length)*8<=reachBytes:=this;rw[TQ]at p;simp at p;omega
  refine⟨f.take l,some a,o,by simp[r,z],by simp;omega,by simp;omega,λG t=>aeN (s G (FM t)),λk x=>?_⟩;simp at x;have v:=n k (by omega);obtain⟨I,C,E⟩:=a;have F:E=none:=by
   have u:=N8 (n 0 (by omega));simpa [Addr.add] using u
  subst F;refine⟨I,C,rfl,?_⟩;rw[<-add_plain,v];simp[List.getD,fw (show k<f.length by omega)]
theorem ans{g:Option Addr}{l:Nat}{f:V}(o:IK 23 (intRow (H:=H) .i64 g l f))(n:g≠none):f.length<=17592186044416:=by
 cases g with
 |none=>exact absurd rfl n
 |some a =>
  have m:((f.take l).length+(f.drop l).length)*8<=reachBytes:=o _ (by
   simp only[intRow,DataW.weights,underlying23,aeM,lits,dy];exact wh ..)
  rw[TQ]at m;simp at m;omega
theorem ant{B:Value}{e:DataW H}{Z:List MemPlace}(X:∃a b z1z,B=.slice a b z1z)(z2z:DataW.Trod i prog h 0 (λ_=>true) true 22 B e Z)(G:IK 22 e):∃rows,bI h B rows:=by
 obtain⟨a0,f,n,rfl⟩:=X;obtain⟨fuel,R⟩:=z2z;rcases open_int_rows underlying22 underlying23 underlying3 anp aeL R with⟨o,-⟩|⟨a,Y3,ue,m,g,p,s,o,-,T,hm,x,r⟩
 ·simp[Value.cells]at o;obtain⟨rfl,rfl,rfl⟩:=o;exact⟨[],bI.nil _ _ _⟩
 ·simp[Value.cells]at o;obtain⟨rfl,rfl,rfl⟩:=o;simp only[pN]at x;have W:n*24<=reachBytes:=by
   have:=G ((f+(n-f))*24) (by
    rw[x.1];simp only[DataW.weights,underlying22,bytesRow,dy,List.length_range];exact wh ..)
   rwa [show f+(n-f)=n by omega]at this
  rw[TQ]at W;have F:∀c,c<f->∃zs:V,aM h (.slice (m c) (g c) (p c)) zs:=λc l=>by
   obtain⟨h1,L,h3,M,N,O,P⟩:=r c (by omega);cases w:m c with
   |none =>
    have:=O w;have Q:g c=0:=by omega
    rw[Q];exact⟨[],aM.nil _ _ _⟩
   |some t =>
    obtain⟨-,E⟩:=P t w;have I:IK 23 (intRow (H:=H) .i64 (m c) (g c) (s c)):=λb hn=>G b (by
     rw[x.1];simp only[DataW.weights,underlying22];refine wi _ (KM _ (anq (ey.2 ⟨c,dT.2 l,rfl⟩) hn)))
    have Bk:=ans I (by rw[w];simp);refine⟨(s c).take (g c),some t,p c,by simp[M,L],by simp;omega,by simp;omega,λz0 K=>aeN (N z0 (FM K)),λk q=>?_⟩;simp at q;obtain⟨D,y,z⟩:=t;have C:z=none:=by
     have v:=N8 (E 0 (by omega));simpa [Addr.add] using v
    subst C;refine⟨D,y,rfl,?_⟩;rw[<-add_plain,E k (by omega)];simp[List.getD,fw (show k<(s c).length by omega)]
  obtain⟨u,S⟩:∃u:Nat->V,∀c,c<f->aM h (.slice (m c) (g c) (p c)) (u c):=
   ⟨λc=>if l:c<f then (F c l).choose else [],λc l=>by simp only[Cj l];exact(F c l).choose_spec⟩
  refine⟨(List.range f).map u,some a,n,by simp,by simp[T],by simp;omega,λk q=>?_⟩;simp at q;obtain⟨D,y,z⟩:=a;have C:z=none:=by
   have v:=N8 (r 0 (by omega)).1;simpa [Addr.add] using v
  subst C;refine⟨D,y,.slice (m k) (g k) (p k),rfl,?_,?_⟩
  ·rw[<-add_plain];exact(r k (by omega)).1
  ·simpa using S k q
theorem aeO{r:World}(t:Below h h r):∀{j:List TypeId} {n:List Value} {m:List (DataW H)} {f:List MemPlace},(∀g∈j,prog.readableRec g=true/\g < prog.types.size) ->
  DataW.TrodAll i prog h 0 (λ_=>true) true j n m f->(∀l∈f,l.block<h.heap.size)->DataW.TrodAll i prog r 0 (λy=>decide (y<h.heap.size)) true j n m f
 |[],n,m,f,_,q,_=>by
  obtain⟨rfl,rfl,rfl⟩:=trodAll_nil q;exact trodAll_mk0
 |g::j,n,m,f,o,q,s=>by
  obtain⟨D,E,e,z,B,C,rfl,rfl,rfl,u,v⟩:=trodAll_cons q;exact trodAll_cons_mk (Below.trod ano (o g (by simp)).1 (o g (by simp)).2 u t (λl p=>s l (KM _ p)))
   (aeO t (λx w=>o x (by simp[w])) v (λl p=>s l (Ia _ p)))
theorem anu{g:Func}{m:ChangeSpec}{p:World}{args:Array Value}{f:List (DataW H)}{l:List MemPlace}{apart:Bool}(t:m.vars=[])(s:g.resultTypes=#[4])
  (w:(g.params.toList.all λn => prog.readableRec n&&decide (n < prog.types.size))=true) (u:DataW.TrodAll i prog h 0 (λ_=>true) true g.params.toList args.toList f l)
  (q:DataW.Whole i prog g.params.toList m.vars apart h args.toList f [] l) (r:Below h.heap.size h p) (o:m.fn H (f++[])={results:=[.lit (.bool true)],args:=f}):
  m.post i prog g apart true false false h args (.bool true) p:=by
 refine⟨f,[],l,[],l,[],q,?_,?_,?_,r.frame _,λz=>by cases z⟩
 ·rw[o,s];exact trodAll_mk1 (shut_bool underlying4 true)
 ·rw[o];exact aeO r (λn v=>by have:=fg.1 w n v;simpa using this) u (λy x=>by simpa using q.lt y x)
 ·rw[o,t];rfl
end
