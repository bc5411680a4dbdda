/- Package group: Hash. -/
import Derived.Test.YtaifagjclanodaaGreatDoorMCat
import Derived.Test.YtaifagjclanodaaGreatDoorMDeaD
import Derived.Deep.CutRange
import Derived.Deep.DeepCutAuto
set_option maxHeartbeats 8000000
set_option maxRecDepth 100000
namespace Go.Proofs.YtaifagjclanodaaGreatDoor
open Go.Proofs.Tryz
open Go.RowKit
variable{v:Array Oper}{m:Int}{t u:List Value}{n s k h:Nat}{j l r:Value}{e o d:World}{g i f:V}
def dd(a:Nat->Nat)(k:Nat):Nat:=if k=0 then a 0%128 else a k
def hn(a:Nat->Nat):Nat->Nat
 |0=>0
 |k+1=>hn a k*256+dd a k
theorem GD{a:Nat->Nat}(b:∀k,a k<256)(k:Nat):dd a k<256:=by unfold dd;have:=b k;split<;>omega
theorem agh{b:Nat->Nat}(a:∀k,b k<256):∀k,k<=7->hn b k<36028797018963968
 |0,_=>by rw[hn];omega
 |k+1,c=>by
  have p:dd b 0<128:=by unfold dd;rw[aD rfl];exact xV _ (by decide)
  have q:=GD a 1;have w:=GD a 2;have x:=GD a 3;have y:=GD a 4;have z:=GD a 5;have B:=GD a 6
  match k,c with
  |0,_|1,_|2,_|3,_|4,_|5,_|6,_=>simp only[hn];omega
theorem aqp{a:Nat->Nat}(b:∀k,a k<256):hn a 8<9223372036854775808:=by
 have p:=agh b 7 (aP 7);have c:=GD b 7;show hn a 7*256+dd a 7<_;omega
def mV(i:aO)(k:Nat):Nat:=i.getD k 0
theorem Uv{i:aO}(c:∀a∈i,a<256)(k:Nat):mV i k<256:=by
 unfold mV;rw[kR];cases b:i[k]? with
 |none=>decide
 |some a=>exact c a (SJ b)
def uz(b a:aO):Int:=(hn (mV (Io b a)) 8:Nat)%1073741789
theorem PV(b a:aO):0<=uz b a/\uz b a<1073741789:=by unfold uz;omega
theorem aqq(h a:Nat)(hn:h<36028797018963968)(c:a<256):bits .or .i64 ((h:Int)*256) (a:Int)=((h*256+a:Nat):Int):=by
 have b:(h:Int)*256=((h*256:Nat):Int):=by omega
 have p:h*256|||a<2^63:=Nat.or_lt_two_pow (by omega) (by omega)
 rw[b];show IntKind.i64.wrap ((BitVec.ofInt 64 ((h*256:Nat):Int)|||BitVec.ofInt 64 (a:Int)).toNat:Int)=_;rw[BitVec.toNat_or,ofInt_u64 (h*256) (by omega),ofInt_u64 a (by omega),KV,<-nat_join 8 (h*256) a (by omega) c];omega
theorem aqr(a:Nat)(b:a<256):bits .and .u8 (a:Int) 127=((a%128:Nat):Int):=by
 rw[show(127:Int)=((127:Nat):Int) from rfl,u8_and_nat a 127 b (by omega),nat_mask7]
theorem aqs{a:Nat}{i:aO}(c:e.rangeAt a 0 (i.map cX))(b:k<i.length):e.cell? (a,k)=some (.int .u8 (mV i k:Nat)):=by
 have:=c k (cX (mV i k)) (by rw[tY,fw b];unfold mV;rw[kR,fw b];rfl);rwa [iN]at this
theorem PW(c:ByteArray)(r:Value)(b:aO)(d:World)(hs:c.size<=17592186044416)(R:fC d r b)(h0:0<b.length)(hl:b.length<=8796093022208)(hG:gz d):
  Calls prog 133 #[.string c,r] d λw w'=>w=.returned (uz (fp c) b:Int)/\Below d d w':=by
 have HT:=A (apX c r b d hs R h0 hl hG);clear R;go_enter func133,ntmps133;go_wp2_with fail;refine HT.1.mono ?_;rintro w p ⟨rfl,P⟩;have L:(Io (fp c) b).length=32:=Le _;have B:∀C∈Io (fp c) b,C<256:=acI _;have HH:=A (show uz (fp c) b=(hn (mV (Io (fp c) b)) 8:Nat)%1073741789 from rfl);generalize Io (fp c) b=a at *;have z:(a.map cX).length=32:=by rw[dy,L]
 have H:(a.map cX).toArray.all (·.oneCell')=true:=all_oneCell_toArray (λr hv=>by obtain⟨C,-,rfl⟩:=ey.1 hv;rfl);obtain⟨x,y,W,M,Z⟩:=stored p (a.map cX) z;simp only[ux]at y;obtain⟨q,F⟩:∃q,a.map cX=q:=⟨_,rfl⟩;have T:∀k,x.frozen? ⟨p.heap.size,k,none⟩=false:=λk=>by
  rw[y,World.frozen?_setCells];exact SB _ _ _ _ rfl
 have E:∀k,k<32->x.cell? ⟨p.heap.size,k,none⟩=some (.int .u8 (mV a k:Nat)):=λk S=>aqs W (by omega);rw[F]at z H y;rw[F];have kG:=A y;have aaa:Hid (q.toArray.size=32):=A (by simpa using z);obtain⟨nB,Je⟩:=aR (Gw.trans (congrArg some (show 32=q.toArray.size by simpa using z.symm))) H;have N:=ar P M;have Q:=E 0 (by omega);have Tv:=T 0;have X:=Uv B 0;obtain⟨HA,vB⟩:=aR (aqr (mV a 0) X) E;clear F z H y E T W L M Z;go_wp2_with (refine wpList_store_mid rfl 243 (.tmp 5) (.tmp 9) rfl p.heap.size 0 q.toArray rfl rfl (Z9 _ _ _ aaa.1.symm) nB.1 Je.1 ?_;rw[show q.toArray.toList=q from rfl,<-kG.1]);have D:∀k,k<8->(x.setCell (p,0) (.int .u8 (bits .and .u8 (mV a 0:Nat) 127))).cell? ⟨p.heap.size,k,none⟩=some (.int .u8 (dd (mV a) k:Nat)):=λk S=>by
  unfold dd;by_cases w:k=0
  ·subst w;rw[aD rfl,HA.1];exact jL _ _ _ (by rw[Q];rfl)
  ·rw[aA w,jS (.inr (λe2=>w e2.symm))];exact vB.1 k (by omega)
 have aG:Below d d (x.setCell (p,0) (.int .u8 (bits .and .u8 (mV a 0:Nat) 127))):=N.setCell P.size _;generalize x.setCell (p,0) (.int .u8 (bits .and .u8 (mV a 0:Nat) 127))=W3 at *;clear Q Tv N;generalize bits .and .u8 (mV a 0:Nat) 127=z0 at *;go_loop [4,14] (λh I=>∃k:Nat,k<=8/\I=.int .i64 k/\h=.int .i64 (hn (mV a) k:Nat)) (λ_ I=>8-(intOf I).toNat);case atStart=>exact⟨0,by omega,rfl,rfl⟩
 case round =>
  obtain⟨k,S,rfl,rfl⟩:=hrel;by_cases O:k<8
  ·have tq:=D k O;have eI:=agh (Uv B) k (by omega);have dR:=GD (Uv B) k;obtain⟨HN,HJ⟩:=aR (show hn (mV a) (k+1)=hn (mV a) k*256+dd (mV a) k from rfl) (aqq _ _ eI dR);generalize hn (mV a) k=C at *;generalize dd (mV a) k=z1 at *;have k0:0<=(k:Int):=by omega
   have k1:(k:Int)<8:=by omega
   have k2:(k:Int)<32:=by omega
   clear D;go_wp2_with fail;go_round;case rel=>exact⟨k+1,by omega,by go_num,by rw[HJ.1,HN.1]⟩
   case measure=>simp[intOf];omega
  ·have G:k=8:=by omega
   have K:=aqp (Uv B);have HK:=A (show(hn (mV a) k:Nat)=hn (mV a) 8 by rw[G]);have L0:decide ((k:Int)<8)=false:=bw (by omega);have Uw:hn (mV a) k<9223372036854775808:=by rw[G];exact K
   clear G D K O;generalize hn (mV a) k=C at *;go_wp2_with fail;go_ret;exact⟨fL (by rw[HH.1,HK.1]),aG⟩
open FP
attribute [local go_sem] Oper.semAt_some
def bP(g f:V)(h:Nat):aO:=(List.range h).filter (λa=>decide (J g a∈f))
theorem Mb(a:J g h∈f):bP g f (h+1)=bP g f h++[h]:=by
 unfold bP;rw[sP,x9];simp[a]
theorem PX(a:¬ J g h∈f):bP g f (h+1)=bP g f h:=by
 unfold bP;rw[sP,x9];simp[a]
theorem aqt(g f:V){a:Nat}(c:h<=a):∃b,bP g f a=bP g f h++b:=by
 obtain⟨k,rfl⟩:∃k,a=h+k:=⟨a-h,by omega⟩;unfold bP;rw[List.range_add,x9];exact⟨_,rfl⟩
theorem aaf{a:Nat}(p:h<a)(c:J g h∈f):(bP g f a).getD (bP g f h).length 0=h/\(bP g f h).length<(bP g f a).length:=by
 obtain⟨q,b⟩:=aqt g f (show h+1<=a by omega);rw[Mb c]at b;rw[b];refine⟨?_,by simp⟩;rw[DK,kR,rD (aP _)];simp
theorem By{b a:Nat}(c:a∈bP g f b):a<b/\J g a∈f:=by
 unfold bP at c;simpa using c
theorem aqu(B L:Nat)(rv ov wv:Value)(b:ak)(g f:V)(W:Option Addr)(cap:Nat)(M:Nat->Value)(sj:rv=.slice W b.length cap)(Bq:∀a,∃c h z3,M a=.slice c h z3)(hlen:g.length=b.length)(CJ:b.length<=1000000)
  (hs:f.Pairwise (·<·)) (oY:f.length<=1000000000) (S:Nat->World->Prop)
  (F:∀a e,S a e->(∀k,k<b.length->∃E H,W=some ⟨E,H,none⟩/\e.cell? ⟨E,H+k,none⟩=some (M k))/\aM e ov g/\aM e wv f/\e.cell? (B,0)=some rv/\e.cell? (B,1)=some ov/\e.cell? (L,0)=some wv):
  wL prog 172 #[(B,0),(L,0)] (bP g f b.length).length (λa=>#[((bP g f b.length).getD a 0:Int),M ((bP g f b.length).getD a 0)]) S:=by
 subst sj;intro ll z2 Jx e hJ hA hY h0;obtain⟨-,T,dx,c0,-,-⟩:=F 0 e (hJ 0 e h0);obtain⟨al,cl,rfl,-⟩:=id T;obtain⟨Z,cw,rfl,-⟩:=id dx;obtain⟨HF,HY,Q,HS,R⟩:=gw F hY hA hs hlen;refine FH func172 rfl trivial ?_ rfl;simp only[ntmps172,kS,dZ,je,Nat.reduceAdd,Nat.reduceSub,kU,kV,kW,kX,jf,jn];clear T dx F hY hA hs hlen
 gi_wp2
 gi_loopw[4,5,6,7,11] (λ_ _ _ _ O wr=>∃a:Nat,a<=b.length/\O=.int .i64 a/\z2 (bP g f a).length wr) (λ_ _ _ _ O _=>b.length-(intOf O).toNat)
 case atStart=>exact⟨0,bS _,rfl,h0⟩
 case round =>
  obtain⟨a,hj,rfl,z⟩:=hrel;by_cases x:a<b.length
  ·obtain⟨hg,hO,hWm,z0,z1,zw⟩:=HF.1 _ wr (hJ _ wr z);obtain⟨E,H,rfl,y0⟩:=hg a x;obtain⟨mq,b2,o2,n2,k2,e2,y2⟩:=hO.get (k:=a) (by rw[R.1];exact x);simp only[dr]at e2;obtain⟨rfl,-,-⟩:=e2;obtain⟨fA,D9⟩:=aR (λc e N=>am4 (.slice Z f.length cw) f c e N HS.1 oY) (hWm.below ((aY wr.heap.size wr).drew));obtain⟨gx,gn,gc,C⟩:=Bq a;have Er:=A C;rw[C]at y0;have i0:0<=(a:Int):=by omega
   have i1:(a:Int)<(b.length:Int):=by omega
   have i2:(a:Int)<(g.length:Int):=by have:=R.1;omega
   obtain⟨c,G⟩:=aK (J g a);rw[<-G]at y2 mq;obtain⟨w,P⟩:=aR G z;clear hg hO hWm C G z
   gi_wp2
   refine AW.2 ?_;go_region_held3 (λI=>I.cell? (B,1)=some (.slice (b2,o2) g.length cl)/\I.cell? (L,0)=some (.slice Z f.length cw)/\I.cell? (b2,o2+a)=some (.int .i64 c)) (first|go_keep|exact⟨t1,t2,t3⟩)
    (first
     |(go_at_call 173;(with_reducible refine(fA.1 c _ D9.1).mono ?_);rintro z0z K ⟨⟨ix,rfl⟩,X⟩;have q:=((aY wr.heap.size wr).drew).trans X;have hZ:=A q;have t1:=U q z1;have t2:=U q zw;have t3:=U q y2;clear X q))
   by_cases p:c∈f
   ·have y:decide (c∈f)=true:=bB p;obtain⟨wW,lS⟩:=aaf (g:=g) (f:=f) x (by rw[<-w.1];exact p);have D:=A (show(bP g f (a+1)).length=(bP g f a).length+1 by rw[Mb (by rw[<-w.1];exact p)];simp);obtain⟨fn,tmps,assign,body,hy,hR⟩:=HY.1 _ K (Q.1 _ wr K P.1 hZ.1) lS;simp only[wW]at hy;rw[Er.1]at hy;clear p wW lS;rw[y]
    gi_wp2
    refine⟨rfl,hR.mono ?_⟩;rintro z0z W3 (⟨rfl,yu⟩|⟨rfl,uV⟩)
    ·gi_wp2
     go_roundw;case rel=>exact⟨a+1,by omega,by go_num,by rw[D.1];exact yu⟩
     case measure=>simp[intOf];omega
    ·gi_wp2
     refine gB (xX rfl _ _ _) rfl ?_;exact⟨⟨_,rfl⟩,.inr ⟨_,by have:=(aaf (g:=g) (f:=f) x (by rw[<-w.1];exact Cp y)).2;omega,uV⟩⟩
   ·have y:decide (c∈f)=false:=bw p;obtain⟨D,HJ6⟩:=aR (show(bP g f (a+1)).length=(bP g f a).length by rw[PX (by rw[<-w.1];exact p)]) (Q.1 _ wr K P.1 hZ.1);rw[y]
    gi_wp2
    refine⟨λ_ N=>(by cases N),?_⟩
    gi_wp2
    go_roundw;case rel=>exact⟨a+1,by omega,by go_num,by rw[D.1];exact HJ6.1⟩
    case measure=>simp[intOf];omega
  ·obtain rfl:a=b.length:=by omega
   gi_wp2
   go_end0;exact⟨⟨_,rfl⟩,.inl z⟩
theorem aqv:eQ prog 172:=iw func172 (by kernel_rfl) rfl
theorem aqw(p c q:Value)(d:World)(y:∃a h b,p=.slice a h b)(x:∃a h b,c=.slice a h b)(w:∃a h b,q=.slice a h b):
  Calls prog 120 #[.agg #[p,c],q] d λB z =>
   B=.returned (.func (.func 172) #[] #[(d,0),(d.heap.size+1,0)])/\z=(d.alloc (.cells #[p,c] 25)).alloc (.cells #[q] 23):=by
 obtain⟨a,h,b,rfl⟩:=y;obtain⟨C,G,E,rfl⟩:=x;obtain⟨D,H,F,rfl⟩:=w;go_enter func120,ntmps120;go_wp2_with fail;go_ret;exact⟨rfl,rfl⟩
def eU(m:Int):V->Bool
 |[]=>true
 |h::i=>ct h 0 63&&(decide (m<h)&&eU h i)
def mr(m:Int)(i:V):Int:=i.getLast?.getD m
theorem aag{p:Int}:∀{i:V} {m:Int},eU m (i++[p])=(eU m i&&(ct p 0 63&&decide (mr m i<p)))
 |[],m=>by
  simp[eU,mr];rfl
 |a::i,m=>by
  rw[jn,eU,aag,eU];have:mr a i=mr m (a::i):=by
   unfold mr;cases i with
   |nil=>rfl
   |cons b c=>rw[List.getLast?_cons_cons];simp[List.getLast?_cons]
  rw[this];cases ct a 0 63<;>cases decide (m<a)<;>simp
theorem aqx(m:Int)(i:V)(p:Int):mr m (i++[p])=p:=by unfold mr;simp
theorem Ux(a:k<i.length):mr m (i.take (k+1))=i[k]:=by
 rw[jv a,aqx]
theorem Uy(a:k<i.length):eU m (i.take (k+1))=(eU m (i.take k)&&(ct i[k] 0 63&&decide (mr m (i.take k)<i[k]))):=by
 rw[jv a,aag]
theorem Uz:∀{i:V} {m:Int},eU m i=true->∀k,eU m (i.take k)=true
 |[],_,_,k=>by rw[List.take_nil];rfl
 |b::i,m,a,0=>rfl
 |b::i,m,a,k+1=>by
  rw[SE];unfold eU at a ⊢;simp only[cu]at a ⊢;exact⟨a.1,a.2.1,Uz a.2.2 k⟩
theorem aqy(a:eU m (i.take (k+1))=false):eU m i=false:=by
 cases b:eU m i with
 |false=>rfl
 |true=>rw[Uz b]at a;cases a
theorem Bz:∀{i:V} {m:Int},eU m i=true->(∀p∈i,0<=p/\p<=63)/\(∀p∈i,m<p)/\i.Pairwise (·<·)/\(i≠[]->m+i.length<=63)
 |[],_,_=>⟨by simp,by simp,List.Pairwise.nil,λb=>absurd rfl b⟩
 |p::i,m,b=>by
  unfold eU at b;simp only[cu,fU]at b;obtain⟨x,y,z⟩:=b;obtain⟨C,w,D,E⟩:=Bz z;have B:=jo.1 x;refine⟨λc a=>?_,λc a=>?_,List.pairwise_cons.2 ⟨w,D⟩,λ_=>?_⟩
  ·rcases iu.1 a with rfl|a
   ·exact B
   ·exact C c a
  ·rcases iu.1 a with rfl|a
   ·exact y
   ·have:=w c a;omega
  ·by_cases q:i=[]
   ·subst q;simp;omega
   ·have:=E q;rw[dZ];omega
theorem aqz(b:eU (-1) i=true):i.length<=64:=by
 by_cases a:i=[]
 ·subst a;simp
 ·have:=(Bz b).2.2.2 a;omega
def mu(a:ak)(g f:V):Int:=if bH a g≠0 then bH a g else if eU (-1) f=true then 0 else 1
theorem agi(d:World)(c r:Value):∃e,e=((d.alloc (.cells #[c,r] 25)).alloc (.cells #[()] 22)).alloc (.cells #[()] 23)/\Below d d e/\e.heap.size=d.heap.size+3/\e.heap[d.heap.size]?=QC.mk #[c,r] 25/\e.heap[d.heap.size+1]?=QC.mk #[()] 22/\e.heap[d.heap.size+1+1]?=QC.mk #[()] 23:=by
 obtain⟨p,b⟩:=aK (d.alloc (.cells #[c,r] 25));obtain⟨n,a⟩:=aK (p.alloc (.cells #[()] 22));have q:p.heap.size=d.heap.size+1:=by rw[b];simp
 have z:n.heap.size=d.heap.size+1+1:=by rw[a];simp[q]
 have w:p.heap[d.heap.size]?=QC.mk #[c,r] 25:=by rw[b];exact World.alloc_heap_new _ _
 have y:n.heap[d.heap.size+1]?=QC.mk #[()] 22:=by rw[a,<-q];exact World.alloc_heap_new _ _
 have x:n.heap[d.heap.size]?=QC.mk #[c,r] 25:=by rw[a,xU _ _ _ (by omega)];exact w
 refine⟨_,rfl,?_,?_,?_,?_,?_⟩
 ·exact(((aY _ _).alloc (aP _) _).alloc (by simp) _).alloc (by simp;omega) _
 ·simp
 ·rw[<-b,<-a,xU _ _ _ (by omega)];exact x
 ·rw[<-b,<-a,xU _ _ _ (by omega)];exact y
 ·rw[<-b,<-a,<-z];exact World.alloc_heap_new _ _
theorem aqA(R Q wv:Value)(x:ak)(g f:V)(d:World)(hR:bI d R x)(z:aM d Q g)(hW:aM d wv f)(K:mu x g f≠0):
  Calls prog 41 #[.agg #[R,Q],wv] d λz3z w'=>z3z=.returned (.tuple #[(),(),(),(mu x g f:Int)])/\Below d d w':=by
 obtain⟨y,aE,H,O,cF,q,w⟩:=agi d R Q;obtain⟨W,T,iB⟩:=bJ (hR.below H) (z.below H) (hW.below H);have I:=A (sW R Q x g y W.1 T.1);obtain⟨z0,cap,rfl,-,hlen,-⟩:=id hR;obtain⟨a2,dj,rfl,-,qF,-⟩:=id z;obtain⟨a3,fP,rfl,-,En,-⟩:=id hW;have Z:y.cell? (d,0)=some (.slice z0 x.length cap):=Y cF rfl;have c1:y.cell? (d,1)=some (.slice a2 g.length dj):=Y cF rfl;obtain⟨C,bp⟩:=aR H aE;have S:Hid (∀(e:World) (F:Int),Below d d e->d.heap.size+3<=e.heap.size->F=mu x g f->e.heap[d.heap.size+1]?=QC.mk #[()] 22->e.heap[d.heap.size+1+1]?=QC.mk #[()] 23->Below d d ((e.setCell (d.heap.size+1,0) ()).setCell (d.heap.size+1+1,0) ())/\((e.setCell (d.heap.size+1,0) ()).setCell (d.heap.size+1+1,0) ()).cell? (d.heap.size+1,0)=some (.slice none 0 0)/\((e.setCell (d.heap.size+1,0) ()).setCell (d.heap.size+1+1,0) ()).cell? (d.heap.size+1+1,0)=some (.slice none 0 0)):=A (by
  intro e F hb c K a p;refine⟨(hb.setCell (by simp) _).setCell (by simp;omega) _,?_,?_⟩
  ·rw[World.cell?_setCell_far _ _ _ _ (by simp)];exact jL _ _ _ (by rw[Y (k:=0) a rfl];rfl)
  ·refine jL _ _ _ ?_;rw[World.cell?_setCell_far _ _ _ _ (by simp),Y (k:=0) p rfl];rfl)
 clear hR z hW cF aE H;by_cases L:bH x g=0
 ·have HE:=A (show mu x g f=if eU (-1) f=true then 0 else 1 by unfold mu;rw[aA (by simp[L])]);have HN:=A (show eU (-1) f=false by
   cases F:eU (-1) f with
   |false=>rfl
   |true=>rw[HE.1,F]at K;exact absurd rfl K)
  have D:=A (show(1:Int)=mu x g f by rw[HE.1,HN.1];rfl);rw[L]at I;clear L K;refine wu func41 rfl ?_;simp only[ntmps41,kS,dZ,je,Nat.reduceAdd,Nat.reduceSub,kU,kV,kW,kX,jf,jn];go_wp2_with fail;rw[<-bp.1];refine I.1.mono ?_;rintro z3z w2 ⟨rfl,b⟩;replace q:=(b.block _ (by omega)).trans q;replace w:=(b.block _ (by omega)).trans w;have P:=bK (Oc O.symm) b.size;refine jM b Z c1 ?_;clear Z c1;intro Z c1;obtain⟨W,T,iB,C⟩:=cY (W.1.below b) (T.1.below b) (iB.1.below b) (ar C.1 b);clear b;clear I O;go_wp2_with fail;go_loopw[8,10,21] (λm _ z2z e=>∃k:Nat,k<=f.length/\z2z=k/\m=(mr (-1) (f.take k):Int)/\Hid (eU (-1) (f.take k)=true)/\e=w2) (λ_ _ z2z _=>f.length-(intOf z2z).toNat);case atStart=>exact⟨0,bS _,rfl,rfl,A rfl,rfl⟩
  case round =>
   obtain⟨k,dg,rfl,rfl,HS,rfl⟩:=hrel;by_cases N:k<f.length
   ·obtain⟨mq,z1,off,n1,k1,e1,q1⟩:=iB.1.get N;simp only[dr]at e1;obtain⟨rfl,-,-⟩:=e1;obtain⟨lW,dq⟩:=aR (Uy (m:=-1) N) (Ux (m:=-1) N);rw[<-di N]at lW dq;have i0:0<=(k:Int):=by omega
    have i1:(k:Int)<(f.length:Int):=by omega
    generalize J f k=E at *;cases ex:ct E 0 63 with
    |false =>
     have x1:wr.cell? (d.heap.size+1,0)=some (.slice none 0 0):=Y q rfl;have x2:wr.cell? (d.heap.size+1+1,0)=some (.slice none 0 0):=Y w rfl;have f1:=cB q 0;have f2:=cB w 0;have HX:=A ex;clear ex;go_wp2_with fail;with_reducible refine(IA E _).mono ?_
     rintro F w3 ⟨rfl,rfl⟩;rw[HX.1];go_wp2_with fail;have z:=S.1 wr _ C.1 P D.1 q w;refine F9 (f:=d.heap.size) (k:=.tuple #[(),(),(),(1:Int)]) (λe=>e.cell? (d.heap.size+1,0)=some (.slice none 0 0)/\e.cell? (d.heap.size+1+1,0)=some (.slice none 0 0)) ?_ ?_ ?_ _ _ trivial z.2 ⟨by rw[<-D.1],z.1⟩
     ·rintro y ⟨a,p⟩;simp[results,results41,go_sem,a,p]
     ·exact λy G B c=>⟨jx c B.1,jx c B.2⟩
     ·rintro y G ⟨a,p⟩ c;exact⟨a,p.trans (nf c)⟩
    |true =>
     have X:=A ex;clear ex;obtain⟨la,M⟩:=aK (mr (-1) (f.take k));rw[<-M]at lW;by_cases I6:la<E
     ·have mO:Hid (eU (-1) (f.take (k+1))=true):=A (by rw[lW.1,HS.1,X.1,bB I6];rfl);have ZA:mr (-1) (f.take k)<E:=by rw[<-M];exact I6
      clear M;go_wp2_with fail;with_reducible refine(IA E _).mono ?_
      rintro F w3 ⟨rfl,rfl⟩;rw[X.1];go_wp2_with fail;go_roundw;case rel=>exact⟨k+1,by omega,by go_num,by rw[dq.1],mO,by trivial⟩
      case measure=>simp[intOf];omega
     ·have ZA:E<=mr (-1) (f.take k):=by rw[<-M];omega
      clear M;have x1:wr.cell? (d.heap.size+1,0)=some (.slice none 0 0):=Y q rfl;have x2:wr.cell? (d.heap.size+1+1,0)=some (.slice none 0 0):=Y w rfl;have f1:=cB q 0;have f2:=cB w 0;go_wp2_with fail;with_reducible refine(IA E _).mono ?_
      rintro F w3 ⟨rfl,rfl⟩;rw[X.1];go_wp2_with fail;have z:=S.1 wr _ C.1 P D.1 q w;refine F9 (f:=d.heap.size) (k:=.tuple #[(),(),(),(1:Int)]) (λe=>e.cell? (d.heap.size+1,0)=some (.slice none 0 0)/\e.cell? (d.heap.size+1+1,0)=some (.slice none 0 0)) ?_ ?_ ?_ _ _ trivial z.2 ⟨by rw[<-D.1],z.1⟩
      ·rintro y ⟨a,p⟩;simp[results,results41,go_sem,a,p]
      ·exact λy G B c=>⟨jx c B.1,jx c B.2⟩
      ·rintro y G ⟨a,p⟩ c;exact⟨a,p.trans (nf c)⟩
   ·exfalso;obtain rfl:k=f.length:=by omega
    have a:=HS.1;rw[m9,HN.1]at a;cases a
 ·have D:=A (show bH x g=mu x g f by unfold mu;rw[aD L]);have p:(bH x g !=0)=true:=jg.2 L;clear K;refine wu func41 rfl ?_;simp only[ntmps41,kS,dZ,je,Nat.reduceAdd,Nat.reduceSub,kU,kV,kW,kX,jf,jn];go_wp2_with fail;rw[<-bp.1];refine I.1.mono ?_;rintro z3z wr ⟨rfl,b⟩;replace q:=(b.block _ (by omega)).trans q;replace w:=(b.block _ (by omega)).trans w;have P:=bK (Oc O.symm) b.size;replace C:=A (ar C.1 b);clear b;clear I O;have x1:wr.cell? (d.heap.size+1,0)=some (.slice none 0 0):=Y q rfl;have x2:wr.cell? (d.heap.size+1+1,0)=some (.slice none 0 0):=Y w rfl;have f1:=cB q 0;have f2:=cB w 0;go_wp2_with fail;have z:=S.1 wr _ C.1 P D.1 q w;refine F9 (f:=d.heap.size) (k:=.tuple #[(),(),(),(bH x g:Int)]) (λe=>e.cell? (d.heap.size+1,0)=some (.slice none 0 0)/\e.cell? (d.heap.size+1+1,0)=some (.slice none 0 0)) ?_ ?_ ?_ _ _ trivial z.2 ⟨by rw[<-D.1],z.1⟩
  ·rintro y ⟨a,p⟩;simp[results,results41,go_sem,a,p]
  ·exact λy G B c=>⟨jx c B.1,jx c B.2⟩
  ·rintro y G ⟨a,p⟩ c;exact⟨a,p.trans (nf c)⟩
theorem aM.cells{b:World}{q:V}(I:aM d r q)(F:∀a c p,d.cell? ⟨a,c,none⟩=some p->b.cell? ⟨a,c,none⟩=some p):aM b r q:=by
 obtain⟨w,x,rfl,y,z,B,C⟩:=I;exact⟨w,x,rfl,y,z,B,λk G=>by obtain⟨a,H,D,E⟩:=C k G;exact⟨a,H,D,F _ _ _ E⟩⟩
theorem bI.cells{p:World}{c:ak}(I:bI d r c)(b:∀a q w,d.cell? ⟨a,q,none⟩=some w->p.cell? ⟨a,q,none⟩=some w):bI p r c:=by
 obtain⟨x,y,rfl,z,B,C⟩:=I;exact⟨x,y,rfl,z,B,λk G=>by obtain⟨a,H,K,D,E,F⟩:=C k G;exact⟨a,H,K,D,b _ _ _ E,F.cells b⟩⟩
theorem PZ{p q:Nat}(y:e.cell? (p,q)=some r):∀b c w,e.cell? ⟨b,c,none⟩=some w->(e.setCell (p,q) r).cell? ⟨b,c,none⟩=some w:=λb c w a=>by
 by_cases x:((p,q):Addr)=⟨b,c,none⟩
 ·rw[<-x]at a ⊢;rw[y]at a;injection a with a;subst a;exact jL _ _ _ (by rw[y];rfl)
 ·rw[SC _ _ _ _ x];exact a
theorem UA{c:Nat}{p:TypeId}(q:e.ownsRow s p c r h t):∃a k b,r=.slice a k b:=by
 rcases q.2 with⟨rfl,-⟩|⟨y,w,x,rfl,-⟩
 ·exact⟨_,_,_,rfl⟩
 ·exact⟨_,_,_,rfl⟩
structure BA(s:Nat)(e:World)(h p:Nat)(j l:Value)(t u:List Value):Prop where
 a:e.ownsRow s 23 1 j h t
 b:e.ownsRow s 3 1 l p u
 ap:∀c,j.ownBlock=some c->l.ownBlock≠some c
theorem BA.keep{c:Nat}(a:BA s e h c j l t u)(b:Below e e o):BA s o h c j l t u:=
 ⟨dM a.a b,dM a.b b,a.ap⟩
theorem BA.one{B y a w:Nat}{z:List Value}(c:BA s e h B j l t u)(E:o.ownsRow s 23 1 (.slice (a,0) k w) y z)(D:e.grownBy o j.ownBlock)(C:j.ownBlock=some a\/a=e.heap.size):BA s o y B (.slice (a,0) k w) l z u:=by
 refine⟨E,FQ c.b D (λq p b=>c.ap q b p),λq p b=>?_⟩;have F:a=q:=by injection p
 subst F;rcases C with x|x
 ·exact c.ap a x b
 ·have:=(pP c.b a b).2;omega
theorem BA.two{F w a c:Nat}{x:List Value}(b:BA s e h F j l t u)(C:o.ownsRow s 3 1 (.slice (a,0) k c) w x)(B:e.grownBy o l.ownBlock)(y:l.ownBlock=some a\/a=e.heap.size):BA s o h w j (.slice (a,0) k c) t x:=by
 refine⟨FQ b.a B b.ap,C,λD p z=>?_⟩;have E:a=D:=by injection z
 subst E;rcases y with q|q
 ·exact b.ap a p q
 ·have:=(pP b.a a p).2;omega
structure Ji(d c:World)(n b:Nat)(p q:Nat->Value)(a:Nat)(e:World):Prop where
 be:Below d d e
 size:b<=e.heap.size
 same:∀k,k<b->k≠n->k≠n+1->e.heap[k]?=c.heap[k]?
 row:∃j l,e.heap[n]?=QC.mk #[j] 22/\e.heap[n+1]?=QC.mk #[l] 23/\BA b e a a j l ((List.range a).map p) ((List.range a).map q)
theorem aqB{q:World}{b:Nat}{w x:Nat->Value}{y c:Nat}(z:Ji d q n b w x y e)(L:b<=c)(K:d.heap.size<=c)(a:eM c e o):Ji d q n b w x y o:=by
 obtain⟨D,E,F,j,l,G,H,p⟩:=z;exact⟨D.trans ((nf a).mono K),bK E a.size,λk I B C=>(a.low k (by omega)).trans (F k I B C),j,l,a.cells _ _ G rfl,a.cells _ _ H rfl,Gq p.a a,Gq p.b a,p.ap⟩
theorem aah{B:World}{b:Nat}{w x:Nat->Value}{a:Nat}(C:Ji d B n b w x a e)(L:d.heap.size<=n)(q:n+1<b)(c:Below b e o)
  (p:BA b o (a+1) (a+1) j l ((List.range (a+1)).map w) ((List.range (a+1)).map x)):Ji d B n b w x (a+1) ((o.setCell (n,0) j).setCell (n+1,0) l):=by
 obtain⟨G,P,H,D,y,I,K,-⟩:=C;have M:o.heap[n]?=QC.mk #[D] 22:=(c.block _ (by omega)).trans I;have r2:o.heap[n+1]?=QC.mk #[y] 23:=(c.block _ q).trans K;have N:(o.setCell (n,0) j).heap[n]?=QC.mk #[j] 22:=cK M 0 j;have O:(o.setCell (n,0) j).heap[n+1]?=QC.mk #[y] 23:=(dJ _ _ _ _ (by show n+1≠n;omega)).trans r2;refine⟨?_,?_,λk z E F=>?_,j,l,(dJ _ _ _ _ (by show n≠n+1;omega)).trans N,cK O 0 l,?_⟩
 ·exact((G.trans (c.mono (by omega))).setCell L _).setCell (by show _<=n+1;omega) _
 ·have:=c.size;simp[World.setCell];omega
 ·rw[dJ _ _ _ _ (by show k≠n+1;omega),dJ _ _ _ _ (by show k≠n;omega),c.block k z,H k z E F]
 ·exact⟨nM (nM p.a (by omega) _) q _,nM (nM p.b (by omega) _) q _,p.ap⟩
theorem UB(a:KeepsOthers e o):KeepsOthers e ((o.setCell (n,0) j).setCell (n+1,0) l):=
 (a.trans (KeepsOthers.setCell _ _ _)).trans (KeepsOthers.setCell _ _ _)
theorem aai{p:Oper}{b:Act}{C:Act->World->Prop}{H:Exit->Act->World->Prop}{G:Prop}(M:p.guard=none)(B y:Operand)(R:p.op=.call {callee:=.builtin .append,args:=#[B,y],argTypes:=#[22,22]})
  (s h:Nat) (r:Value) (t:List Value) (S:b.eval B=r) (K:e.ownsRow s 23 1 r h t) (x D:Nat) (z:Value) (T:b.eval y=.slice (x,0) 1 D) (L:e.cell? (x,0)=some z) (O:z.oneCell'=true) (hn:h<=1000000) (N:s<=e.heap.size) (w:Nat) (Q:e.heap.size=w)
  (z1z:∀c E q,q.ownsRow s 23 1 (.slice (some ⟨c,0,none⟩) (h+1) E) (h+1) (t++[z])->e.grownBy q r.ownBlock->(r.ownBlock=some c\/c=w)->c<q.heap.size->C (b.put p.dst (.slice (some ⟨c,0,none⟩) (h+1) E)) q):
  if Region.wanted p (yielded v b.tmps)=true then Oper.wp prog p b e C H else G:=by
 obtain⟨W,X,Z,P,I⟩:=xY afC;refine step_append_lies _ M B y 22 R s 23 W () 1 24 underlying22 X Z P I rfl (by decide) r h t S K (x,0) 1 D [z] T rfl ?_ ?_ (by decide) ?_ ?_ N w Q z1z
 ·intro F z5z a;cases F with
  |zero=>simp at a;subst a;rw[zS];exact L
  |succ F=>simp at a
 ·intro z5z a;simp at a;subst a;exact O
 ·unfold maxLen;omega
 ·omega
attribute [local go_sem] DF
def iS(a:ak)(g f:V):ak:=(bP g f a.length).map λb=>a.getD b []
def yK(a:ak)(g f:V):V:=(bP g f a.length).map λ(b:Nat)=>(b:Int)
theorem GG(g f:V)(h:Nat):(bP g f h).length<=h:=by
 unfold bP;exact bK (Od _ _) (by simp)
theorem aqC(rv ov wv:Value)(w:ak)(g f:V)(d:World)(hR:bI d rv w)(hO:aM d ov g)(hW:aM d wv f)(hp:bH w g=0)(mw:eU (-1) f=true):
  Calls prog 41 #[.agg #[rv,ov],wv] d λz7z w'=>∃v1 v2 v3,z7z=.returned (.tuple #[v1,v2,v3,.int .i64 0])/\bI w' v1 (iS w g f)/\aM w' v2 (yK w g f)/\aM w' v3 (gL (bh w))/\Below d.heap.size d w':=by
 obtain⟨W1,aE,au,dP,cF,aI,bE⟩:=agi d rv ov;obtain⟨HR,HO,iB⟩:=bJ (hR.below au) (hO.below au) (hW.below au);have gd:=A (sW rv ov w g W1 HR.1 HO.1);obtain⟨z4,cap,rfl,-,hlen,-⟩:=id hR;obtain⟨a2,dj,rfl,-,qF,-⟩:=id hO;obtain⟨a3,fP,rfl,-,En,-⟩:=id hW;have c0:W1.cell? ⟨d.heap.size,0,none⟩=some (.slice z4 w.length cap):=Y cF rfl;have c1:W1.cell? ⟨d.heap.size,1,none⟩=some (.slice a2 g.length dj):=Y cF rfl;obtain⟨HB,bp,eT,Bp,Mc,HO0,tr⟩:=qy au aE (fs hp) mw hR hO hW;rw[hp]at gd;clear hR hO hW cF aE au hp mw;refine wu func41 rfl ?_;simp only[ntmps41,kS,dZ,je,Nat.reduceAdd,Nat.reduceSub,kU,kV,kW,kX,jf,jn];go_wp2_with fail;rw[<-bp.1];refine gd.1.mono ?_;rintro z7z w2 ⟨rfl,an⟩;replace aI:=(an.block _ (by omega)).trans aI;replace bE:=(an.block _ (by omega)).trans bE;have dQ:=bK (Oc dP.symm) an.size;refine jM an c0 c1 ?_;clear c0 c1;intro c0 c1;obtain⟨HR,HO,iB,HB⟩:=cY (HR.1.below an) (HO.1.below an) (iB.1.below an) (ar HB.1 an);clear an;clear gd dP;go_wp2_with fail;go_loopw[8,10,21] (λm _ z3z e=>∃k:Nat,k<=f.length/\z3z=.int .i64 k/\m=.int .i64 (mr (-1) (f.take k))/\e=w2) (λ_ _ z3z _=>f.length-(intOf z3z).toNat);case atStart=>exact⟨0,bS _,rfl,rfl,rfl⟩
 case round =>
  obtain⟨k,dg,rfl,rfl,rfl⟩:=hrel;by_cases aq:k<f.length
  ·obtain⟨mq,z2,off,n1,O,e1,q1⟩:=iB.1.get aq;simp only[dr]at e1;obtain⟨rfl,-,-⟩:=e1;have dq:=A (Ux (m:=-1) aq);have bU:=Uz Bp.1 (k+1);rw[Uy aq]at bU;rw[<-di aq]at dq bU;simp only[cu,fU]at bU;obtain⟨-,fB,I6⟩:=bU;have CX:=A fB;have i0:0<=(k:Int):=by omega
   have i1:(k:Int)<(f.length:Int):=by omega
   clear fB;generalize J f k=z8 at *;go_wp2_with fail;with_reducible refine(IA z8 _).mono ?_
   rintro z0z w3 ⟨rfl,rfl⟩;rw[CX.1];go_wp2_with fail;go_roundw;case rel=>exact⟨k+1,by omega,by go_num,by rw[dq.1],by trivial⟩
   case measure=>simp[intOf];omega
  ·have UC:decide (k<f.length)=false:=bw aq;have azp:decide ((k:Int)<(f.length:Int))=false:=bw (by omega);clear aq dg;go_upto_if 38 with fail;go_cut [11] from 39 to 43 (λh e=>h=.int .i64 (bh w:Nat)/\e=wr);case first =>
    by_cases h0:w.length=0
    ·have HV:=A (show bh w=1 by unfold bh;rw[aD h0]);have hd:decide ((w.length:Int)>0)=false:=bw (by omega);go_wp2_with fail;go_meet;exact⟨by rw[HV.1];rfl,rfl⟩
    ·have HV:=A (show bh w=wide w by unfold bh;rw[aA h0]);have hd:decide ((w.length:Int)>0)=true:=bB (by omega);have i3:(0:Int)<(w.length:Int):=by omega
     obtain⟨aa,cc,e1,-,-,hk⟩:=HR.1;obtain⟨z2,off,z7z,ha,q1,T⟩:=hk 0 (by omega);simp only[dr]at e1;obtain⟨rfl,-,rfl⟩:=e1;subst ha;rw[rF]at q1;obtain⟨ra,rc,rfl,-⟩:=id T;rw[A7 w (by omega)]at q1;clear hk T h0;generalize wide w=z5z at *;go_wp2_with fail;go_meet;exact⟨by rw[HV.1],rfl⟩
   case rest =>
    obtain⟨rfl,rfl⟩:=hcut;have iP:=eT.1.cols;have lj:=eT.1.cols_le;obtain⟨h,hn⟩:=aK (bh w);rw[<-hn]at iP lj ⊢;have HN:=A hn;have jE:=TE h (by omega);have Bd:(madeCells #[.int .i64 0] h)[0]?=some (.int .i64 0):=by
     have x:=(lr.made wc h 3).cell 0 (by omega);rwa [wg _ _ _ _ rfl]at x
    have n1:(0:Int)<(h:Int):=by omega
    obtain⟨z5,hC⟩:=aK ((madeCells #[.int .i64 0] h).setIfInBounds 0 (.int .i64 1));have vr:lr (wc.alloc (.cells z5 3)) wc.heap.size h Gs:=by
     have S:=(lr.made wc h 3).set (k:=0) 1;have h2:(wc.alloc (.cells (madeCells #[.int .i64 0] h) 3)).setCell ⟨wc.heap.size,0,none⟩ (.int .i64 1)=wc.alloc (.cells z5 3):=by rw[hC];simp[go_sem]
     rw[h2]at S;exact S
    have yL:=A vr;have tj:=bk wc z5 3;have z0:=U tj c0;have z1:=U tj c1;rw[hC]at z0 z1;have HC:=A hC;clear hn vr hC;go_wp2_with fail;rw[<-HC.1]at z0 z1 ⊢;obtain⟨G,rW⟩:=aK (wc.alloc (.cells z5 3));have EG:G.heap.size=wc.heap.size+1:=by rw[rW];simp
    rw[<-rW]at yL tj z0 z1 ⊢;replace aI:=(tj.block _ (by omega)).trans aI;replace bE:=(tj.block _ (by omega)).trans bE;clear c0 c1 jE Bd n1 HC rW;obtain⟨HR,HO,iB,HB⟩:=cY (HR.1.below tj) (HO.1.below tj) (iB.1.below tj) (ar HB.1 tj);clear tj;have de:=A (aqw (.slice z4 w.length cap) (.slice a2 g.length dj) (.slice a3 f.length fP) G ⟨_,_,_,rfl⟩ ⟨_,_,_,rfl⟩ ⟨_,_,_,rfl⟩);refine de.1.mono ?_;rintro z0z C ⟨rfl,uW⟩;clear de;have h41:=bk G #[.slice z4 w.length cap,.slice a2 g.length dj] 25;have h42:=bk (G.alloc (.cells #[.slice z4 w.length cap,.slice a2 g.length dj] 25)) #[.slice a3 f.length fP] 23;have EH:(G.alloc (.cells #[.slice z4 w.length cap,.slice a2 g.length dj] 25)).heap.size=G.heap.size+1:=by simp
    have aG:Below G.heap.size G C:=by rw[uW];exact ar h41 h42
    have Md:C.heap.size=G.heap.size+1+1:=by rw[uW];simp
    have p0:C.heap[G.heap.size]?=some (.cells #[.slice z4 w.length cap,.slice a2 g.length dj] 25 (0,0)):=by
     rw[uW,h42.block _ (by rw[EH];omega)];exact World.alloc_heap_new _ _
    have p1:C.heap[G.heap.size+1]?=some (.cells #[.slice a3 f.length fP] 23 (0,0)):=by
     rw[uW,<-EH];exact World.alloc_heap_new _ _
    replace aI:=(aG.block _ (by omega)).trans aI;replace bE:=(aG.block _ (by omega)).trans bE;obtain⟨yL,HR,HO,iB,HB⟩:=gw (yL.1.below aG (by omega)) (HR.1.below aG) (HO.1.below aG) (iB.1.below aG) (ar HB.1 aG);obtain⟨HZ4,HZ5⟩:=aR EG Md;clear aG uW h41 h42 EH z0 z1 EG Md;go_wp2_with fail;have EG:=HZ4.1;have Md:=HZ5.1;obtain⟨ga,gc,Z,rG,Bq,wX⟩:=Zv Mc.1;simp only[dr]at rG;obtain⟨rfl,-,rfl⟩:=rG;obtain⟨kh,Jj⟩:=aR wX Bq;clear wX Bq;obtain⟨z6,hN⟩:=aK ((bP g f w.length).length);obtain⟨at_,fk⟩:∃at_:Nat->Nat,at_=λa=>(bP g f w.length).getD a 0:=⟨_,rfl⟩;have et:=Bz Bp.1;obtain⟨HN2,qW⟩:=aR hN fk;have aaj:z6<=64:=by rw[hN];have:=GG g f w.length;have:=eT.1.few;omega
    clear hN fk;have HF:Hid (∀a e,Ji d C (d.heap.size+1) C.heap.size (λa=>Z (at_ a)) (λa=>.int .i64 (at_ a)) a e->(∀k,k<w.length->∃z2 off,z4=some ⟨z2,off,none⟩/\e.cell? ⟨z2,off+k,none⟩=some (Z k))/\aM e (.slice a2 g.length dj) g/\aM e (.slice a3 f.length fP) f/\e.cell? ⟨G.heap.size,0,none⟩=some (.slice z4 w.length cap)/\e.cell? ⟨G.heap.size,1,none⟩=some (.slice a2 g.length dj)/\e.cell? ⟨G.heap.size+1,0,none⟩=some (.slice a3 f.length fP)):=A (by
     intro a e x;have q0:=(x.same G.heap.size (by omega) (by omega) (by omega)).trans p0;have q1:=(x.same (G.heap.size+1) (by omega) (by omega) (by omega)).trans p1;exact⟨λk hk=>by obtain⟨z2,off,S,h2,-⟩:=kh.1 k hk;exact⟨z2,off,S,U x.be h2⟩,HO0.1.below x.be,tr.1.below x.be,Y q0 rfl,Y q0 rfl,Y q1 rfl⟩)
    have iZ:Ji d C (d.heap.size+1) C.heap.size (λa=>Z (at_ a)) (λa=>.int .i64 (at_ a)) 0 C:=
     ⟨HB.1,aP _,λ_ _ _ _=>rfl,_,_,aI,bE,⟨iv _ _ _ _,iv _ _ _ _,λz9 x=>by cases x⟩⟩
    refine OU (h:=172) (m:=#[.pointer (some ⟨G.heap.size,0,none⟩),.pointer (some ⟨G.heap.size+1,0,none⟩)]) (i:=z6) (fi:=λa=>#[.int .i64 (at_ a),Z (at_ a)]) rfl aqv (λ_=>rfl)
     (λa=>Ji d C (d.heap.size+1) C.heap.size (λa=>Z (at_ a)) (λa=>.int .i64 (at_ a)) a) (λ_ _ _=>False) ?seq ?qH (λ_ _ _ _ x _=>x) iZ
     (λa z8z=>(((z8z.setIfInBounds 51 (.int .i64 (at_ a))).setIfInBounds 52 (Z (at_ a))).setIfInBounds 12 (.int .i64 (at_ a))).setIfInBounds 13 (Z (at_ a))) ?assign ?body ?done (λ_ _ _ _ _ _ x=>x.elim)
    case seq =>
     have hN:=HN2.1;have fk:=qW.1;subst hN fk;exact aqu G.heap.size (G.heap.size+1) _ _ _ w g f z4 cap Z rfl Jj.1 eT.1.len.symm (by have:=eT.1.few;omega) et.2.2.1 (by have:=aqz Bp.1;omega) _ HF.1
    case qH=>exact λa e o x W=>aqB x (aP _) HB.1.size W
    case assign =>
     clear EG Md dQ;intro i a e B b
     gi_wp2
     exact b
    case body =>
     have EI:Hid (d.heap.size+1+1<C.heap.size):=A (by omega);clear EG Md dQ;intro i a e T aq;obtain⟨j,l,r1,r2,hT⟩:=T.row;simp only[vZ,zH,AV];have x1:e.cell? ⟨d.heap.size+1,0,none⟩=some j:=Y r1 rfl;have x2:e.cell? ⟨d.heap.size+1+1,0,none⟩=some l:=Y r2 rfl;obtain⟨gx,gn,gk,Ah⟩:=Jj.1 (at_ a);obtain⟨Er,HI,HT,gF,dz⟩:=gw Ah T hT r1 r2;rw[Ah];have Me:a<=1000000:=by omega
     have aak:Hid (Z (at_ a)=.slice gx gn gk):=A Ah;clear Ah T hT r1 r2
     gi_wp2
     refine alx (λo=>o.cell? ⟨d.heap.size+1,0,none⟩=some j/\o.cell? ⟨d.heap.size+1+1,0,none⟩=some l) [7,8,9] (by kernel_rfl) (by
      intro z6z ho;simp only[iu,oG,oH]at ho;rcases ho with rfl|rfl|rfl|rfl|rfl|rfl|rfl|rfl|rfl|rfl
      ·exact adm
      ·exact adl
      ·exact adn
      ·exact adp
      ·exact adm
      ·exact adl
      ·exact adn
      ·exact adp
      ·exact ado
      ·exact ado) (λx=>by obtain⟨_,_,x⟩:=x;exact x) ?_
     have ph:(λo:World=>o.cell? ⟨d.heap.size+1,0,none⟩=some j/\o.cell? ⟨d.heap.size+1+1,0,none⟩=some l) e.drew:=⟨x1,x2⟩;refine Ti [3,7,8,9] (some 53) j (b:=0) rfl rfl (by kernel_rfl) (by kernel_rfl) (by kernel_rfl) (λ_ _ _ x=>x) (by kernel_rfl) (by kernel_rfl) (by kernel_rfl) (by kernel_rfl) (by kernel_rfl) (λd pq=>by obtain⟨ud,L4⟩:=pq;go_simp) ph ?_;simp only[Act.put,dD];refine Ti [2,3,7,8,9] (some 54) _ (b:=1) rfl rfl (by kernel_rfl) (by kernel_rfl) (by kernel_rfl) (λ_ _ _ x=>x) (by kernel_rfl) (by kernel_rfl) (by kernel_rfl) (by kernel_rfl) (by kernel_rfl) (λd _=>by rfl) ph ?_;simp only[Act.put,dD];refine Ti [7,8,9] (some 57) l (b:=4) rfl rfl (by kernel_rfl) (by kernel_rfl) (by kernel_rfl) (λ_ _ _ x=>x) (by kernel_rfl) (by kernel_rfl) (by kernel_rfl) (by kernel_rfl) (by kernel_rfl) (λd pq=>by obtain⟨ud,L4⟩:=pq;go_simp) ph ?_;simp only[Act.put,dD];refine Ti [6,7,8,9] (some 58) _ (b:=5) rfl rfl (by kernel_rfl) (by kernel_rfl) (by kernel_rfl) (λ_ _ _ x=>x) (by kernel_rfl) (by kernel_rfl) (by kernel_rfl) (by kernel_rfl) (by kernel_rfl) (λd _=>by rfl) ph ?_;simp only[Act.put,dD];have xg:Hid (∀z3,Below C.heap.size e z3->z3.cell? ⟨d.heap.size+1,0,none⟩=some j/\z3.cell? ⟨d.heap.size+1+1,0,none⟩=some l):=A (λz3 hb=>⟨(hb.cell (p:=⟨d.heap.size+1,0,none⟩) (by show d.heap.size+1<_;have:=EI.1;omega)).trans x1,(hb.cell (p:=⟨d.heap.size+1+1,0,none⟩) (by show d.heap.size+1+1<_;exact EI.1)).trans x2⟩);have HFX:Hid (∀z3,Below C.heap.size e z3->z3.frozen? ⟨d.heap.size+1,0,none⟩=false/\z3.frozen? ⟨d.heap.size+1+1,0,none⟩=false):=A (λz3 hb=>⟨cB ((hb.block _ (by have:=EI.1;omega)).trans gF.1) 0,cB ((hb.block _ EI.1).trans dz.1) 0⟩);obtain⟨L,hX0⟩:=aK e.drew;rw[<-hX0]at ph ⊢;have P0:Below e.heap.size e L:=hX0▸(aY _ _).drew;obtain⟨q,E,y⟩:=bJ (HT.1.keep P0) (Bg P0) (P0.mono HI.1.size);have z:Hid (C.heap.size<=L.heap.size):=A (bK HI.1.size P0.size);clear hX0 P0 ph x1 x2;refine uT (q:=[2,6]) (by kernel_rfl) (by simp) ?_;refine gK.cons rfl rfl (λB b=>?_) (gK.cons rfl rfl (λB b=>?_) gK.nil)
     ·rw[aD (by rfl)];go_simp;obtain⟨X1,yE⟩:=aK (L.alloc (.cells #[.slice gx gn gk] 23));rw[<-yE];have BB:Below L.heap.size L X1:=yE▸bk _ _ _;have mP:Hid (X1.cell? ⟨L.heap.size,0,none⟩=some (.slice gx gn gk)):=A (by rw[yE];exact Y (World.alloc_heap_new _ _) rfl);replace E:Hid (KeepsOthers e X1):=A (E.1.trans (Bg BB));replace q:=A (q.1.keep BB);replace y:=A (y.1.trans (BB.mono z.1));replace z:Hid (C.heap.size<=X1.heap.size):=A (bK z.1 BB.size);refine Shut.out b _ _ (xg.1 _ y.1) ?_;clear b B yE BB;try simp only[Act.put,dD]
      refine uT (q:=[3,6]) (by kernel_rfl) (by simp) ?_;refine gK.cons rfl rfl (λB b=>?_) (gK.cons rfl rfl (λB b=>?_) gK.nil)
      ·refine aai (by rfl) _ _ (by rfl) C.heap.size a j _ (by rfl) q.1.a L.heap.size 1 (.slice gx gn gk) (by rfl) mP.1 (by rfl) Me z.1 _ rfl ?_;intro g1 im H I D K BC;have F:=fH q.1.a D z.1;replace E:Hid (KeepsOthers e H):=A (E.1.trans (Gp q.1.a D));replace q:=A (q.1.one I D K);replace y:=A (y.1.trans F);replace z:Hid (C.heap.size<=H.heap.size):=A (bK z.1 F.size);refine Shut.out b _ _ (xg.1 _ y.1) ?_;clear b B I D K BC F;try simp only[Act.put,vZ]
       refine uT (q:=[6]) (by kernel_rfl) (by simp) ?_;refine gK.cons rfl rfl (λB b=>?_) gK.nil;rw[aD (by rfl)];go_simp;have px:=A (pQ q.1.a (a:=H.heap.size) (.inl (aP _)));obtain⟨Q,UD⟩:=aK (H.alloc (.cells #[.int .i64 (at_ a)] 3));rw[<-UD];have P1:Below H.heap.size H Q:=UD▸bk _ _ _;have N:Hid (Q.cell? ⟨H.heap.size,0,none⟩=some (.int .i64 (at_ a))):=A (by rw[UD];exact Y (World.alloc_heap_new _ _) rfl);replace E:Hid (KeepsOthers e Q):=A (E.1.trans (Bg P1));replace q:=A (q.1.keep P1);replace y:=A (y.1.trans (P1.mono z.1));replace z:Hid (C.heap.size<=Q.heap.size):=A (bK z.1 P1.size);refine Shut.out b _ _ (xg.1 _ y.1) ?_;clear b B UD P1;try simp only[Act.put,dD]
       refine uT (q:=[7]) (by kernel_rfl) (by simp) ?_;refine gK.late rfl rfl (λB b=>?_) gK.nil;refine TY (by rfl) _ _ (by rfl) C.heap.size a l _ (by rfl) q.1.b H.heap.size 1 (at_ a) (by rfl) N.1 Me z.1 _ rfl ?_;intro g2 agj M I D K BC;have F:=fH q.1.b D z.1;replace E:Hid (KeepsOthers e M):=A (E.1.trans (Gp q.1.b D));replace q:=A (q.1.two I D K);replace y:=A (y.1.trans F);replace z:Hid (C.heap.size<=M.heap.size):=A (bK z.1 F.size);refine Shut.out b _ _ ?_;clear b B I D K BC F;obtain⟨y1,y2⟩:=xg.1 _ y.1;obtain⟨f1,f2⟩:=HFX.1 _ y.1;try simp only[Act.put]
       refine uT (q:=[8]) (by kernel_rfl) (by simp) ?_;refine gK.late rfl rfl (λB b=>?_) gK.nil;rw[aD (by rfl)];go_simp;refine Shut.out b _ _ ?_;clear b B;try simp only[Act.put,dD]
       refine uT (q:=[9]) (by kernel_rfl) (by simp) ?_;refine gK.late rfl rfl (λB b=>?_) gK.nil;rw[aD (by rfl)];have y3:(M.setCell ⟨d.heap.size+1,0,none⟩ (.slice (some ⟨g1,0,none⟩) (a+1) im)).cell? ⟨d.heap.size+1+1,0,none⟩=some l:=by rw[World.cell?_setCell_far _ _ _ _ (by simp)];exact y2
       have f3:(M.setCell ⟨d.heap.size+1,0,none⟩ (.slice (some ⟨g1,0,none⟩) (a+1) im)).frozen? ⟨d.heap.size+1+1,0,none⟩=false:=by rw[jK];exact f2
       go_simp;refine Shut.out b _ _ ?_;clear b B;try simp only[Act.put,dD]
       refine Yb (by kernel_rfl) ?_ _
       gi_wp2
       refine⟨UB E.1,aah HI.1 (by omega) EI.1 y.1 ?_⟩;rw[Af,Af,aak.1];exact q.1
      ·rw[aD (by rfl)];go_simp;have px:=A (pQ q.1.a (a:=X1.heap.size) (.inl (aP _)));obtain⟨H,EJ⟩:=aK (X1.alloc (.cells #[.int .i64 (at_ a)] 3));rw[<-EJ];have P:Below X1.heap.size X1 H:=EJ▸bk _ _ _;have N:Hid (H.cell? ⟨X1.heap.size,0,none⟩=some (.int .i64 (at_ a))):=A (by rw[EJ];exact Y (World.alloc_heap_new _ _) rfl);replace mP:=A (U P mP.1);replace E:Hid (KeepsOthers e H):=A (E.1.trans (Bg P));replace q:=A (q.1.keep P);replace y:=A (y.1.trans (P.mono z.1));replace z:Hid (C.heap.size<=H.heap.size):=A (bK z.1 P.size);refine Shut.out b _ _ (xg.1 _ y.1) ?_;clear b B EJ P;try simp only[Act.put,dD]
       refine uT (q:=[3]) (by kernel_rfl) (by simp) ?_;refine gK.cons rfl rfl (λB b=>?_) gK.nil;refine aai (by rfl) _ _ (by rfl) C.heap.size a j _ (by rfl) q.1.a L.heap.size 1 (.slice gx gn gk) (by rfl) mP.1 (by rfl) Me z.1 _ rfl ?_;intro g1 im Q I D K BC;have F:=fH q.1.a D z.1;replace E:Hid (KeepsOthers e Q):=A (E.1.trans (Gp q.1.a D));replace N:Hid (Q.cell? ⟨X1.heap.size,0,none⟩=some (.int .i64 (at_ a))):=A ((rB (a:=⟨X1.heap.size,0,none⟩) (D.block _ (iO N.1) (λz0z=>px.1 z0z.symm))).trans N.1);replace q:=A (q.1.one I D K);replace y:=A (y.1.trans F);replace z:Hid (C.heap.size<=Q.heap.size):=A (bK z.1 F.size);refine Shut.out b _ _ (xg.1 _ y.1) ?_;clear b B I D K BC F;try simp only[Act.put,vZ]
       refine uT (q:=[7]) (by kernel_rfl) (by simp) ?_;refine gK.late rfl rfl (λB b=>?_) gK.nil;refine TY (by rfl) _ _ (by rfl) C.heap.size a l _ (by rfl) q.1.b X1.heap.size 1 (at_ a) (by rfl) N.1 Me z.1 _ rfl ?_;intro g2 agj M I D K BC;have F:=fH q.1.b D z.1;replace E:Hid (KeepsOthers e M):=A (E.1.trans (Gp q.1.b D));replace q:=A (q.1.two I D K);replace y:=A (y.1.trans F);replace z:Hid (C.heap.size<=M.heap.size):=A (bK z.1 F.size);refine Shut.out b _ _ ?_;clear b B I D K BC F;obtain⟨y1,y2⟩:=xg.1 _ y.1;obtain⟨f1,f2⟩:=HFX.1 _ y.1;try simp only[Act.put]
       refine uT (q:=[8]) (by kernel_rfl) (by simp) ?_;refine gK.late rfl rfl (λB b=>?_) gK.nil;rw[aD (by rfl)];go_simp;refine Shut.out b _ _ ?_;clear b B;try simp only[Act.put,dD]
       refine uT (q:=[9]) (by kernel_rfl) (by simp) ?_;refine gK.late rfl rfl (λB b=>?_) gK.nil;rw[aD (by rfl)];have y3:(M.setCell ⟨d.heap.size+1,0,none⟩ (.slice (some ⟨g1,0,none⟩) (a+1) im)).cell? ⟨d.heap.size+1+1,0,none⟩=some l:=by rw[World.cell?_setCell_far _ _ _ _ (by simp)];exact y2
       have f3:(M.setCell ⟨d.heap.size+1,0,none⟩ (.slice (some ⟨g1,0,none⟩) (a+1) im)).frozen? ⟨d.heap.size+1+1,0,none⟩=false:=by rw[jK];exact f2
       go_simp;refine Shut.out b _ _ ?_;clear b B;try simp only[Act.put,dD]
       refine Yb (by kernel_rfl) ?_ _
       gi_wp2
       refine⟨UB E.1,aah HI.1 (by omega) EI.1 y.1 ?_⟩;rw[Af,Af,aak.1];exact q.1
     ·rw[aD (by rfl)];go_simp;have px:=A (pQ q.1.a (a:=L.heap.size) (.inl (aP _)));obtain⟨X1,yE⟩:=aK (L.alloc (.cells #[.int .i64 (at_ a)] 3));rw[<-yE];have BB:Below L.heap.size L X1:=yE▸bk _ _ _;have N:Hid (X1.cell? ⟨L.heap.size,0,none⟩=some (.int .i64 (at_ a))):=A (by rw[yE];exact Y (World.alloc_heap_new _ _) rfl);replace E:Hid (KeepsOthers e X1):=A (E.1.trans (Bg BB));replace q:=A (q.1.keep BB);replace y:=A (y.1.trans (BB.mono z.1));replace z:Hid (C.heap.size<=X1.heap.size):=A (bK z.1 BB.size);refine Shut.out b _ _ (xg.1 _ y.1) ?_;clear b B yE BB;try simp only[Act.put,dD]
      refine uT (q:=[2]) (by kernel_rfl) (by simp) ?_;refine gK.cons rfl rfl (λB b=>?_) gK.nil;rw[aD (by rfl)];go_simp;obtain⟨H,EJ⟩:=aK (X1.alloc (.cells #[.slice gx gn gk] 23));rw[<-EJ];have P:Below X1.heap.size X1 H:=EJ▸bk _ _ _;have mP:Hid (H.cell? ⟨X1.heap.size,0,none⟩=some (.slice gx gn gk)):=A (by rw[EJ];exact Y (World.alloc_heap_new _ _) rfl);replace N:=A (U P N.1);replace E:Hid (KeepsOthers e H):=A (E.1.trans (Bg P));replace q:=A (q.1.keep P);replace y:=A (y.1.trans (P.mono z.1));replace z:Hid (C.heap.size<=H.heap.size):=A (bK z.1 P.size);refine Shut.out b _ _ (xg.1 _ y.1) ?_;clear b B EJ P;try simp only[Act.put,dD]
      refine uT (q:=[3]) (by kernel_rfl) (by simp) ?_;refine gK.cons rfl rfl (λB b=>?_) gK.nil;refine aai (by rfl) _ _ (by rfl) C.heap.size a j _ (by rfl) q.1.a X1.heap.size 1 (.slice gx gn gk) (by rfl) mP.1 (by rfl) Me z.1 _ rfl ?_;intro g1 im Q I D K BC;have F:=fH q.1.a D z.1;replace E:Hid (KeepsOthers e Q):=A (E.1.trans (Gp q.1.a D));replace N:Hid (Q.cell? ⟨L.heap.size,0,none⟩=some (.int .i64 (at_ a))):=A ((rB (a:=⟨L.heap.size,0,none⟩) (D.block _ (iO N.1) (λz0z=>px.1 z0z.symm))).trans N.1);replace q:=A (q.1.one I D K);replace y:=A (y.1.trans F);replace z:Hid (C.heap.size<=Q.heap.size):=A (bK z.1 F.size);refine Shut.out b _ _ (xg.1 _ y.1) ?_;clear b B I D K BC F;try simp only[Act.put,vZ]
      refine uT (q:=[7]) (by kernel_rfl) (by simp) ?_;refine gK.late rfl rfl (λB b=>?_) gK.nil;refine TY (by rfl) _ _ (by rfl) C.heap.size a l _ (by rfl) q.1.b L.heap.size 1 (at_ a) (by rfl) N.1 Me z.1 _ rfl ?_;intro g2 agj M I D K BC;have F:=fH q.1.b D z.1;replace E:Hid (KeepsOthers e M):=A (E.1.trans (Gp q.1.b D));replace q:=A (q.1.two I D K);replace y:=A (y.1.trans F);replace z:Hid (C.heap.size<=M.heap.size):=A (bK z.1 F.size);refine Shut.out b _ _ ?_;clear b B I D K BC F;obtain⟨y1,y2⟩:=xg.1 _ y.1;obtain⟨f1,f2⟩:=HFX.1 _ y.1;try simp only[Act.put]
      refine uT (q:=[8]) (by kernel_rfl) (by simp) ?_;refine gK.late rfl rfl (λB b=>?_) gK.nil;rw[aD (by rfl)];go_simp;refine Shut.out b _ _ ?_;clear b B;try simp only[Act.put,dD]
      refine uT (q:=[9]) (by kernel_rfl) (by simp) ?_;refine gK.late rfl rfl (λB b=>?_) gK.nil;rw[aD (by rfl)];have y3:(M.setCell ⟨d.heap.size+1,0,none⟩ (.slice (some ⟨g1,0,none⟩) (a+1) im)).cell? ⟨d.heap.size+1+1,0,none⟩=some l:=by rw[World.cell?_setCell_far _ _ _ _ (by simp)];exact y2
      have f3:(M.setCell ⟨d.heap.size+1,0,none⟩ (.slice (some ⟨g1,0,none⟩) (a+1) im)).frozen? ⟨d.heap.size+1+1,0,none⟩=false:=by rw[jK];exact f2
      go_simp;refine Shut.out b _ _ ?_;clear b B;try simp only[Act.put,dD]
      refine Yb (by kernel_rfl) ?_ _
      gi_wp2
      refine⟨UB E.1,aah HI.1 (by omega) EI.1 y.1 ?_⟩;rw[Af,Af,aak.1];exact q.1
    case done =>
     intro z7 e hD T np hO';have HIW:Hid (lr e wc.heap.size h Gs):=A (by
      have W:=T.same wc.heap.size (by omega) (by omega) (by omega);exact⟨λz3z hi=>(rB (a:=⟨wc.heap.size,z3z,none⟩) W).trans (yL.1.cell z3z hi),λz3z hi=>(Sv (a:=⟨wc.heap.size,z3z,none⟩) W).trans (yL.1.fro z3z hi)⟩)
     have HTI:Hid (aM e (.slice (some ⟨wc.heap.size,0,none⟩) h h) (gL h)):=A (HIW.1.ints (c:=h) (aP _) (by omega) (λz3z _=>by unfold Gs;split<;>exact aN.mk (by omega) (by omega)));obtain⟨j,l,r1,r2,hT⟩:=T.row;have UE:Hid (bI e j (iS w g f)):=A (bI.own hT.a (by rw[HN2.1];simp[iS]) (by simp[iS];have:=GG g f w.length;have:=eT.1.few;omega) (by
      intro k S h2;have hk:k<(bP g f w.length).length:=by simpa [iS] using S
      have hm:=(By (bM hk)).1;obtain⟨z2,off,-,-,h3⟩:=kh.1 _ hm;have e1:((List.range z6).map (λa=>Z (at_ a)))[k]=Z (bP g f w.length)[k]:=by
       rw[gj,Ct,qW.1];show Z ((bP g f w.length).getD k 0)=_;rw[dp hk]
      have e2:(iS w g f)[k]=w[(bP g f w.length)[k]]:=by
       simp only[iS,gj];exact dp hm []
      rw[e1,e2];exact h3.below T.be))
     have qT:Hid (aM e l (yK w g f)):=A (aM.own (zs:=yK w g f) (by
      have z0z:(yK w g f).map (Value.int .i64)=(List.range z6).map (λa=>Value.int .i64 (at_ a)):=by
       refine x8 (by rw[HN2.1];simp[yK]) λk S h2=>?_;have hk:k<(bP g f w.length).length:=by simpa [yK] using S
       simp only[yK,gj,Ct,qW.1,dp hk]
      rw[z0z];exact hT.b) (by
      intro z10 hz;obtain⟨z3z,hi,rfl⟩:=ey.1 hz;have:=(By hi).1;have:=eT.1.few;exact aN.mk (by omega) (by omega)) (by simp[yK];have:=GG g f w.length;have:=eT.1.few;omega))
     have x1:e.cell? ⟨d.heap.size+1,0,none⟩=some j:=Y r1 rfl;have x2:e.cell? ⟨d.heap.size+1+1,0,none⟩=some l:=Y r2 rfl;have f1:=cB r1 0;have f2:=cB r2 0;obtain⟨R,O,X,rfl⟩:=UA hT.a;obtain⟨b2,k2,m2,rfl⟩:=UA hT.b;have x1d:e.drew.cell? ⟨d.heap.size+1,0,none⟩=some (.slice R O X):=x1;have x2d:e.drew.cell? ⟨d.heap.size+1+1,0,none⟩=some (.slice b2 k2 m2):=x2;have f1d:e.drew.frozen? ⟨d.heap.size+1,0,none⟩=false:=f1;have f2d:e.drew.frozen? ⟨d.heap.size+1+1,0,none⟩=false:=f2;have f3d:(e.drew.setCell ⟨d.heap.size+1,0,none⟩ (.slice R O X)).frozen? ⟨d.heap.size+1+1,0,none⟩=false:=by rw[jK];exact f2
     have y1:(e.drew.setCell ⟨d.heap.size+1,0,none⟩ (.slice R O X)).cell? ⟨d.heap.size+1,0,none⟩=some (.slice R O X):=jL _ _ _ (by rw[x1d];rfl);have y2:(e.drew.setCell ⟨d.heap.size+1,0,none⟩ (.slice R O X)).cell? ⟨d.heap.size+1+1,0,none⟩=some (.slice b2 k2 m2):=by rw[World.cell?_setCell_far _ _ _ _ (by simp)];exact x2
     have u1:((e.drew.setCell ⟨d.heap.size+1,0,none⟩ (.slice R O X)).setCell ⟨d.heap.size+1+1,0,none⟩ (.slice b2 k2 m2)).cell? ⟨d.heap.size+1,0,none⟩=some (.slice R O X):=by rw[World.cell?_setCell_far _ _ _ _ (by simp)];exact y1
     have u2:((e.drew.setCell ⟨d.heap.size+1,0,none⟩ (.slice R O X)).setCell ⟨d.heap.size+1+1,0,none⟩ (.slice b2 k2 m2)).cell? ⟨d.heap.size+1+1,0,none⟩=some (.slice b2 k2 m2):=jL _ _ _ (by rw[y2];rfl);have LQ:=A T.be;clear T hT r1 r2 EG Md dQ;go_wp2_with fail;go_region_held3 (λw'=>w'.cell? ⟨d.heap.size+1,0,none⟩=some (.slice R O X)/\w'.cell? ⟨d.heap.size+1+1,0,none⟩=some (.slice b2 k2 m2)) (first|exact⟨x1d,x2d⟩|exact⟨y1,y2⟩|exact⟨u1,u2⟩|go_keep) (fail);go_wp2_with fail;have bT:∀z2 z6z z9z,e.cell? ⟨z2,z6z,none⟩=some z9z->((e.setCell ⟨d.heap.size+1,0,none⟩ (.slice R O X)).setCell ⟨d.heap.size+1+1,0,none⟩ (.slice b2 k2 m2)).drew.cell? ⟨z2,z6z,none⟩=some z9z:=λz2 z6z z9z x=>PZ (PZ x1 _ _ _ x2) _ _ _ (PZ x1 _ _ _ x);refine F9 (f:=d.heap.size) (k:=.tuple #[.slice R O X,.slice b2 k2 m2,.slice (some ⟨wc.heap.size,0,none⟩) h h,.int .i64 0]) (λo=>o.cell? ⟨d.heap.size+1,0,none⟩=some (.slice R O X)/\o.cell? ⟨d.heap.size+1+1,0,none⟩=some (.slice b2 k2 m2)) ?_ ?_ ?_ _ _ ⟨⟨z7,rfl,?_,(UB (KeepsOthers.refl e)).same z7 _ np rfl,λ_ x=>by cases x⟩,trivial⟩ ⟨bT _ _ _ x1,bT _ _ _ x2⟩ ⟨_,_,_,rfl,UE.1.cells bT,qT.1.cells bT,HN.1▸HTI.1.cells bT,?_⟩
     ·rintro W1 ⟨S,h2⟩;simp[results,results41,go_sem,S,h2]
     ·exact λW1 W2 x W=>⟨jx W x.1,jx W x.2⟩
     ·rintro W1 W2 ⟨v1,v2,v3,S,h2,h3,h4,h5⟩ W;exact⟨v1,v2,v3,S,h2.cells (λ_ _ _ x=>jx W x),h3.cells (λ_ _ _ x=>jx W x),h4.cells (λ_ _ _ x=>jx W x),h5.trans (nf W)⟩
     ·have:=HB.1.size;omega
     ·exact((LQ.1.setCell (by simp) _).setCell (by simp;omega) _).drew
