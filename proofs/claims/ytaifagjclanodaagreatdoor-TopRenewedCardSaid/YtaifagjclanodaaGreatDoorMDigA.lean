/- Package digest: rotations, words of bytes. -/
import Derived.Test.YtaifagjclanodaaGreatDoorMBase
import Derived.Laws.BitsAllLaws
import Derived.Deep.RegionHeld3
import Derived.IntWalk
import Derived.Laws.CopyOwn
import Derived.Shelf.Abstract
import Derived.Deep.MidRow
set_option maxHeartbeats 2000000
set_option maxRecDepth 100000
namespace Go.Proofs.YtaifagjclanodaaGreatDoor
open Go.Proofs.Tryz
open Go.RowKit
variable{B:Array Value}{C:Func}{w i g v f r b c k h t l n:Nat}{j:Option Addr}{F:TypeId}{m:Value}{e x u a G:World}{o d p:aO}
theorem aph(s h q:Nat)(D:s<4294967296)(E:h+q=32):bits .or .u32 ((s:Int)*2^q%4294967296) ((s:Int)/2^(32-q))=((nN s h:Nat):Int):=by
 have y:(s:Int)*2^q%4294967296=((s*2^q%4294967296:Nat):Int):=by rw[N9,Int.natCast_mul,Int.natCast_pow];rfl
 have z:(s:Int)/2^(32-q)=((s/2^(32-q):Nat):Int):=by rw[Int.natCast_ediv,Int.natCast_pow];rfl
 rw[y,z,u32_or_nat _ _ (xV _ (by decide)) (NY (Nat.div_le_self _ _) D)];obtain rfl:h=32-q:=by omega
 unfold nN;rw[show 32-(32-q)=q by omega]
theorem I8(z h:Nat)(y:Int)(H:y=-(h:Int))(a:World)(I:z<4294967296)(hn:h=2\/h=6\/h=7\/h=11\/h=13\/h=17\/h=18\/h=19\/h=22\/h=25):
  Calls prog 218 #[.int .u32 z,y] a λL K=>L=.returned (.int .u32 (nN z h))/\a=K:=by
 have D:∀(q:Nat) (s:h+q=32) (O:1<=h) (M:1<=q),bits .and .u64 (IntKind.u64.wrap y) 31=(q:Int):=by
  intro q s _ _;have E:IntKind.u64.wrap y=((18446744073709551616-h:Nat):Int):=by
   rw[KZ];omega
  rw[E,show(31:Int)=((31:Nat):Int) from rfl,u64_and_nat _ _ (by omega) (by omega),nat_mask5];omega
 obtain⟨q,s⟩:∃q,h+q=32:=⟨32-h,by omega⟩;have N:=D q s (by omega) (by omega);have P:1<=q:=by omega
 have Q:q<32:=by omega
 clear D H hn;go_enter func218,ntmps218;go_wp2_with fail;go_ret;exact⟨fL (aph z h q I s),rfl⟩
theorem afH(s j f q:Nat)(H I K:Int)(P:H=j)(Q:I=f)(R:K=q)(a:World)(y:s<4294967296)(W:(j=6/\f=11/\q=25)\/(j=2/\f=13/\q=22)):
  Calls prog 219 #[.int .u32 s,H,I,K] a λz T=>z=.returned (.int .u32 (K5 s j f q))/\a=T:=by
 subst P;subst Q;subst R;have L:=Im (c:=j) y;have M:=Im (c:=f) y;have S:=Im (c:=q) y;have O:=A (show bits .xor .u32 (bits .xor .u32 (nN s j) (nN s f)) (nN s q)=((K5 s j f q:Nat):Int) by
  rw[K0 _ _ L M,K0 _ _ (XA L M) S];rfl)
 have ha:j=2\/j=6\/j=7\/j=11\/j=13\/j=17\/j=18\/j=19\/j=22\/j=25:=by omega
 have D:f=2\/f=6\/f=7\/f=11\/f=13\/f=17\/f=18\/f=19\/f=22\/f=25:=by omega
 have E:q=2\/q=6\/q=7\/q=11\/q=13\/q=17\/q=18\/q=19\/q=22\/q=25:=by omega
 have X:j<=40:=by omega
 have Z:f<=40:=by omega
 have c9:q<=40:=by omega
 clear W;obtain⟨ha,D,E⟩:=bJ ha D E;go_enter func219,ntmps219;go_wp2_with fail;with_reducible refine(I8 s j _ rfl _ y ha.1).mono ?_
 rintro z N ⟨rfl,rfl⟩;go_wp2_with fail;with_reducible refine(I8 s f _ rfl _ y D.1).mono ?_
 rintro z N ⟨rfl,rfl⟩;go_wp2_with fail;with_reducible refine(I8 s q _ rfl _ y E.1).mono ?_
 rintro z N ⟨rfl,rfl⟩;go_wp2_with fail;go_ret;exact⟨fL O.1,rfl⟩
def fC(a:World)(m:Value)(d:aO):Prop:=
 ∃j r,m=.slice j d.length r/\d.length<=r/\d.length<=17592186044416/\(∀q∈d,q<256) /\
  ∀k (s:k<d.length),∃f l,j=some ⟨f,l,none⟩/\a.cell? ⟨f,l+k,none⟩=some (.int .u8 (d[k]:Nat))
theorem api(h q:Nat)(hn:h<16777216)(y:q<256):bits .or .u32 ((h:Int)*256) (q:Int)=((h*256+q:Nat):Int):=by
 have s:(h:Int)*256=((h*256:Nat):Int):=by omega
 rw[s,u32_or_nat _ _ (by omega) (by omega),nat_join 8 (h*256) q (by omega) y]
theorem ZD(h:Int)(q:Nat)(s:0<=h)(hn:h<16777216)(y:q<256):bits .or .u32 (h*256) (q:Int)=h*256+(q:Int):=by
 obtain⟨z,rfl⟩:=Int.eq_ofNat_of_zero_le s;exact(api z q (by omega) y).trans (by omega)
theorem ZE{j f:Int}(q:j=f):Value.int .u32 j=.int .u32 f:=by rw[q]
theorem apj(j:Addr)(f l h r:Nat)(ha:j=(f,l))(hn:4<=h)(Q:h<=r)(q:Nat->Nat)(y:∀k,q k<256)(a:World)
  (s:∀k,k<4->a.cell? (f,l+k)=some (.int .u8 (q k:Nat))):
  Calls prog 217 #[.slice (some j) h r] a λL K=>L=.returned (.int .u32 (wd (q 0) (q 1) (q 2) (q 3):Nat))/\a=K:=by
 subst ha;have P:=y 0;have E:=y 1;have H:=y 2;have I:=y 3;have D:=s 0 (by omega);have M:=s 1 (by omega);have N:=s 2 (by omega);have O:=s 3 (by omega);clear s y;rw[rF]at D;go_enter func217,ntmps217;go_wp2_with fail;go_loop [2,8] (λz b=>(b=(0:Int)/\z=.int .u32 0)\/(b=(1:Int)/\z=.int .u32 (q 0))\/(b=(2:Int)/\z=.int .u32 (q 0*256+q 1:Nat))\/(b=(3:Int)/\z=.int .u32 ((q 0*256+q 1)*256+q 2:Nat))\/(b=(4:Int)/\z=.int .u32 (wd (q 0) (q 1) (q 2) (q 3):Nat))) (λ_ b=>4-(intOf b).toNat);case atStart=>exact .inl ⟨rfl,rfl⟩
 case round =>
  rcases hrel with⟨rfl,rfl⟩|⟨rfl,rfl⟩|⟨rfl,rfl⟩|⟨rfl,rfl⟩|⟨rfl,rfl⟩
  ·go_wp2_with fail;go_round;case rel=>exact .inr (.inl ⟨rfl,by rw[show(0:Int)=((0:Nat):Int) from rfl,u32_or_nat _ _ (by omega) (by omega),Nat.zero_or]⟩)
   case measure=>simp[intOf]
  ·go_wp2_with fail;go_round;case rel=>exact .inr (.inr (.inl ⟨rfl,ZE (by rw[ZD _ _ (by omega) (by omega) E];omega)⟩))
   case measure=>simp[intOf]
  ·go_wp2_with fail;go_round;case rel=>exact .inr (.inr (.inr (.inl ⟨rfl,ZE (by rw[ZD _ _ (by omega) (by omega) H];omega)⟩)))
   case measure=>simp[intOf]
  ·go_wp2_with fail;go_round;case rel=>exact .inr (.inr (.inr (.inr ⟨rfl,ZE (by rw[ZD _ _ (by omega) (by omega) I];unfold wd;omega)⟩)))
   case measure=>simp[intOf]
  ·go_wp2_with fail;go_ret;exact⟨rfl,rfl⟩
theorem jS{q s:Nat}{I:Value}(y:f≠q\/t≠s):(e.setCell (f,t) I).cell? (q,s)=e.cell? (q,s):=by
 have D:((f,t):Addr)≠(q,s):=by
  intro z;have E:f=q:=congrArg Addr.block z;have H:t=s:=congrArg Addr.off z;rcases y with y|y
  ·exact y E
  ·exact y H
 simp[SC,D]
def qU(a:World)(f l g h:Nat):Nat->World
 |0=>a
 |c+1=>(qU a f l g h c).setCell ⟨f,l+(g-1-c),none⟩ (.int .u8 ((h/2^(8*c)%256:Nat):Int))
structure Room(a:World)(f l g:Nat):Prop where
 cell:∀k,k<g->∃m,a.cell? (f,l+k)=some m
 free:∀k,k<g->a.frozen? (f,l+k)=false
theorem ZF(a:World)(f l g h:Nat)(j:Addr):∀c,(qU a f l g h c).frozen? j=a.frozen? j
 |0=>rfl
 |c+1=>by rw[qU,jK];exact ZF a f l g h j c
theorem Ue(a:World)(f l g h:Nat){s:Nat}(q:s≠f\/t<l\/l+g<=t):∀c,c<=g->(qU a f l g h c).cell? (s,t)=a.cell? (s,t)
 |0,_=>rfl
 |c+1,z=>by
  rw[qU,jS]
  ·exact Ue a f l g h q c (by omega)
  ·rcases q with q|q|q
   ·exact .inl (λy=>q y.symm)
   ·exact .inr (by omega)
   ·exact .inr (by omega)
theorem ZG:∀c,c<=g->k<g-c->(qU a f l g h c).cell? (f,l+k)=a.cell? (f,l+k)
 |0,_,_=>rfl
 |c+1,_,q=>by
  rw[qU,jS (.inr (by omega))];exact ZG c (by omega) (by omega)
theorem ZH(q:Room a f l g)(s:k<g):∀c,c<=g->g-c<=k->(qU a f l g h c).cell? (f,l+k)=some (.int .u8 ((h/2^(8*(g-1-k))%256:Nat):Int))
 |0,_,D=>by omega
 |c+1,E,D=>by
  rw[qU];by_cases z:k=g-1-c
  ·subst z;rw[show g-1-(g-1-c)=c by omega];obtain⟨m,y⟩:=q.cell (g-1-c) s;exact jL _ _ _ (by rw[ZG c (by omega) (by omega),y];rfl)
  ·rw[jS (.inr (by omega))];exact ZH q s c (by omega) (by omega)
theorem Uf(s:Below w G a)(q:w<=f):∀c,Below w G (qU a f l g h c)
 |0=>s
 |c+1=>by rw[qU];exact(Uf s q c).setCell q _
theorem apk(h c:Nat):IntKind.u8.wrap ((h:Int)/2^(8*c))=((h/2^(8*c)%256:Nat):Int):=by
 rw[IntKind.wrap_u8',N9,Int.natCast_ediv,Int.natCast_pow];rfl
theorem apl(f l g r h:Nat)(a:World)(N:g<=8)(O:g<=r)(_I:h<18446744073709551616)(y:Room a f l g):
  Calls prog 215 #[.slice (f,l) g r,.int .u64 h] a λH E=>H=.returned (.tuple #[])/\E=qU a f l g h g:=by
 go_enter func215,ntmps215;go_wp2_with fail;go_loopw[7] (λb e=>∃c:Nat,c<=g/\b=c/\e=qU a f l g h c) (λb _=>g-(intOf b).toNat);case atStart=>exact⟨0,bS _,rfl,rfl⟩
 case round =>
  obtain⟨c,z,rfl,q⟩:=hrel;by_cases K:c<g
  ·obtain⟨m,D⟩:=y.cell (g-1-c) (by omega);have L:wr.cell? (f,l+(g-1-c))=some m:=by rw[q,ZG c z (by omega)];exact D
   have P:wr.frozen? (f,l+(g-1-c))=false:=by rw[q,ZF];exact y.free _ (by omega)
   have s:=A q;clear q;have M:((g:Int)-1-(c:Int)).toNat=g-1-c:=by omega
   go_wp2_with fail;go_roundw;case rel=>exact⟨c+1,by omega,by go_num,by rw[qU,<-apk h c,IntKind.wrap_u8',s.1]⟩
   case measure=>simp[intOf];omega
  ·obtain rfl:c=g:=by omega
   have s:=A q;clear q;go_wp2_with fail;go_end0;exact⟨rfl,s.1⟩
structure mT(e:World)(f v:Nat)(q:Nat->Nat):Prop where
 cell:∀k,k<v->e.cell? ⟨f,k,none⟩=some (.int .u32 (q k:Nat))
 free:∀k,k<v->e.frozen? ⟨f,k,none⟩=false
def Pw(q:Nat->Nat)(b s:Nat):Nat->Nat:=λk=>if k=b then s else q k
theorem mT.set{z:Nat->Nat}(y:mT e f v z){D:Nat}(H:b<v):mT (e.setCell (f,b) (.int .u32 (D:Nat))) f v (Pw z b D) where
 cell:=λk q=>by
  unfold Pw;by_cases s:k=b
  ·subst s;rw[aD rfl];exact jL _ _ _ (by rw[y.cell k q];rfl)
  ·rw[aA s,jS (.inr (λE=>s E.symm))];exact y.cell k q
 free:=λk q=>by rw[jK];exact y.free k q
theorem mT.congr{s g':Nat->Nat}(y:mT e f v s)(z:∀k,k<v->s k=g' k):mT e f v g':=
 ⟨λk q=>by rw[<-z k q];exact y.cell k q,y.free⟩
theorem mT.set_other{s:Nat}{y:Nat->Nat}(z:mT e f v y)(D:s≠f)(E:Value):mT (e.setCell (s,t) E) f v y:=
 ⟨λk q=>by rw[jS (.inl D)];exact z.cell k q,λk q=>by rw[jK];exact z.free k q⟩
theorem mT.alloc{y:Nat->Nat}(z:mT e f v y)(s:f<e.heap.size)(t:Obj):mT (e.alloc t) f v y:=
 have k:=(aY e.heap.size e).alloc (aP _) t
 ⟨λb q=>by rw[k.cell (p:=⟨f,b,none⟩) s];exact z.cell b q,λb q=>by rw[k.frozen (p:=⟨f,b,none⟩) s];exact z.free b q⟩
theorem apm(a:World)(h:Nat)(m:Value)(s:TypeId)(q:k<h):(a.alloc (.cells (Array.replicate h m) s)).cell? (a,k)=some m:=by
 rw[wg _ _ _ _ rfl];simp[q]
theorem apn(a:World)(h:Nat)(q:TypeId):mT (a.alloc (.cells (Array.replicate h (.int .u32 0)) q)) a.heap.size h (λ_=>0):=
 ⟨λ_ s=>apm a h _ q s,λk _=>by simp[go_sem]⟩
def Br(q:Nat->Nat)(s:Nat):Nat->Nat:=λk=>if k<s then jB q k else 0
theorem apo(s:Nat->Nat)(q:Nat):Pw (Br s q) q (jB s q)=Br s (q+1):=by
 funext k;unfold Pw Br;by_cases z:k=q
 ·subst z;rw[aD rfl,aD (by omega)]
 ·rw[aA z];by_cases y:k<q
  ·rw[aD y,aD (by omega)]
  ·rw[aA y,aA (by omega)]
structure CO(a:World)(q:Nat->Nat)(s:Nat)(e:World):Prop where
 be:Below a a e
 wd:mT e a.heap.size 64 (Br q s)
theorem CO.drew{s:Nat->Nat}{y:Nat}(q:CO a s y e):CO a s y e.drew:=⟨q.be.drew,⟨q.wd.cell,q.wd.free⟩⟩
theorem CO.next{s:Nat->Nat}{q:Nat}(y:CO a s q e)(z:q<64):CO a s (q+1) (e.setCell (a,q) (.int .u32 (jB s q:Nat))):=
 ⟨y.be.setCell (aP _) _,by rw[<-apo];exact y.wd.set z⟩
theorem CP(j f:Nat):IntKind.u32.wrap ((j:Int)+(f:Int))=((iE j f:Nat):Int):=by
 rw[Ob];unfold iE;omega
theorem afI(q j f y:Nat)(z:Int)(D:(z:Int)=((2^y:Nat):Int))(s:q<4294967296):bits .xor .u32 (bits .xor .u32 (nN q j:Nat) (nN q f:Nat)) ((q:Int)/z)=((mix q j f y:Nat):Int):=by
 have E:(q:Int)/z=((q/2^y:Nat):Int):=by rw[D,Int.natCast_ediv]
 rw[E,K0 _ _ (Im s) (Im s),K0 _ _ (XA (Im s) (Im s)) (NY (Nat.div_le_self _ _) s)];rfl
theorem apq(s q z y:Nat)(D:s<4294967296)(E:q<4294967296):
  IntKind.u32.wrap (IntKind.u32.wrap (IntKind.u32.wrap ((z:Int)+bits .xor .u32 (bits .xor .u32 (nN s 7:Nat) (nN s 18:Nat)) ((s:Int)/8))+(y:Int))+bits .xor .u32 (bits .xor .u32 (nN q 17:Nat) (nN q 19:Nat)) ((q:Int)/1024)) =
   ((iE (iE (iE z (mix s 7 18 3)) y) (mix q 17 19 10):Nat):Int):=by
 rw[afI s 7 18 3 8 rfl D,afI q 17 19 10 1024 rfl E,CP,CP,CP]
theorem apr(s q z y:Nat)(D:s<4294967296)(E:q<4294967296):
  ((((z:Int)+bits .xor .u32 (bits .xor .u32 (nN s 7:Nat) (nN s 18:Nat)) ((s:Int)/8))%4294967296+(y:Int))%4294967296+bits .xor .u32 (bits .xor .u32 (nN q 17:Nat) (nN q 19:Nat)) ((q:Int)/1024))%4294967296 =
   ((iE (iE (iE z (mix s 7 18 3)) y) (mix q 17 19 10):Nat):Int):=by
 have H:=apq s q z y D E;rwa [Ob,Ob,Ob]at H
theorem aps(q:St)(s:q.Ok)(k a:Nat):
  IntKind.u32.wrap (IntKind.u32.wrap (IntKind.u32.wrap (IntKind.u32.wrap ((q.h:Int)+(K5 q.e 6 11 25:Nat))+bits .xor .u32 (q.g:Int) (bits .and .u32 (q.e:Int) (bits .xor .u32 (q.f:Int) (q.g:Int))))+(k:Int))+(a:Int))=((t1 q k a:Nat):Int):=by
 rw[K0 _ _ s.f s.g,u32_and_nat _ _ s.e (XA s.f s.g),K0 _ _ s.g (XB s.e),CP,CP,CP,CP];rfl
theorem apt(s:St)(q:s.Ok):
  IntKind.u32.wrap ((K5 s.a 2 13 22:Nat)+bits .or .u32 (bits .and .u32 (s.a:Int) (s.b:Int)) (bits .and .u32 (s.c:Int) (bits .or .u32 (s.a:Int) (s.b:Int))))=((t2 s:Nat):Int):=by
 rw[u32_and_nat _ _ q.a q.b,u32_or_nat _ _ q.a q.b,u32_and_nat _ _ q.c (acE q.a q.b),u32_or_nat _ _ (XB q.a) (XB q.c),CP];rfl
def qg(q:St):Array Value:=#[.int .u32 q.a,.int .u32 q.b,.int .u32 q.c,.int .u32 q.d,.int .u32 q.e,.int .u32 q.f,.int .u32 q.g,.int .u32 q.h]
def I9(q:St):List Value:=[.int .u32 q.a,.int .u32 q.b,.int .u32 q.c,.int .u32 q.d,.int .u32 q.e,.int .u32 q.f,.int .u32 q.g]
theorem apu{s:St}(q:(I9 s)[c]?=some m):(qg s)[c]?=some m:=by
 unfold I9 at q
 match c with
 |0|1|2|3|4|5|6=>exact q
 |h+7=>simp at q
theorem apv(s:St):∀m∈I9 s,m.oneCell'=true:=by
 intro m q;unfold I9 at q;simp only[iu,oG,oH]at q;rcases q with rfl|rfl|rfl|rfl|rfl|rfl|rfl<;>rfl
theorem apw{q:St}{s:TypeId}(y:e.heap[f]?=QC.mk (splice (qg q).toList 1 (I9 q)).toArray s):
  e.heap[f]?=QC.mk #[.int .u32 q.a,.int .u32 q.a,.int .u32 q.b,.int .u32 q.c,.int .u32 q.d,.int .u32 q.e,.int .u32 q.f,.int .u32 q.g] s:=y
structure ZI(a:World)(n:Nat)(s:St)(q:Nat->Nat)(y:Nat)(e:World):Prop where
 be:Below a a e
 sc:mT e a.heap.size 64 (jB q)
 vs:e.heap[n]?=QC.mk (qg (s.rounds q y)) 267
 hv:a.heap.size<n
theorem mT.below{s:World}{D:Nat->Nat}(E:mT e f v D)(z:Below w e s)(y:f<w):mT s f v D:=
 ⟨λk q=>by rw[z.cell (p:=⟨f,k,none⟩) y];exact E.cell k q,λk q=>by rw[z.frozen (p:=⟨f,k,none⟩) y];exact E.free k q⟩
theorem afJ(q:St)(s:b<8):(qg q)[b]?=some (.int .u32 (q.at b:Nat)):=by
 match b,s with
 |0,_|1,_|2,_|3,_|4,_|5,_|6,_|7,_=>rfl
theorem apx(q m:St)(s:b<8):(q.plus m).at b=iE (q.at b) (m.at b):=by
 match b,s with
 |0,_|1,_|2,_|3,_|4,_|5,_|6,_|7,_=>rfl
theorem afK{s:St}(q:s.Ok)(y:b<8):s.at b<4294967296:=by
 match b,y with
 |0,_=>exact q.a
 |1,_=>exact q.b
 |2,_=>exact q.c
 |3,_=>exact q.d
 |4,_=>exact q.e
 |5,_=>exact q.f
 |6,_=>exact q.g
 |7,_=>exact q.h
theorem apy{s:Nat}(q:a.grownBy e (some s))(E:Value):a.grownBy (e.setCell (s,t) E) (some s):=
 ⟨q.os,q.tape,q.output,by simp[World.setCell];exact q.size,λk z y=>(dJ _ _ _ _ (λD=>y (by rw[D]))).trans (q.block k z y)⟩
theorem apz{z:Option Nat}(q:Below w a e)(s:a.heap.size<=w):a.grownBy e z:=
 ⟨q.os,q.tape,q.output,q.size,λk y _=>q.block k (eJ y s)⟩
structure Eu(a:World)(y n:Nat)(s q:St)(b:Nat)(e:World):Prop where
 gr:a.grownBy e (some y)
 vs:e.heap[n]?=QC.mk (qg q) 267
 st:mT e y 8 (λk=>if k<b then iE (s.at k) (q.at k) else s.at k)
theorem Eu.next{y:Nat}{q s:St}(D:Eu a y n q s b e)(I:b<8)(H:y≠n):Eu a y n q s (b+1) (e.setCell (y,b) (.int .u32 (iE (q.at b) (s.at b):Nat))) where
 gr:=apy D.gr _
 vs:=(dJ _ _ _ _ (λz=>H z.symm)).trans D.vs
 st:=(D.st.set I).congr λk _=>by
  unfold Pw;by_cases z:k=b
  ·subst z;rw[aD rfl,aD (by omega)]
  ·rw[aA z];show(if k<b then iE (q.at k) (s.at k) else q.at k)=if k<b+1 then iE (q.at k) (s.at k) else q.at k;by_cases E:k<b
   ·rw[aD E,aD (by omega)]
   ·rw[aA E,aA (by omega)]
theorem Eu.drew{z:Nat}{y s:St}(q:Eu a z n y s b e):Eu a z n y s b e.drew:=
 ⟨⟨q.gr.os,q.gr.tape,q.gr.output,q.gr.size,q.gr.block⟩,q.vs,⟨q.st.cell,q.st.free⟩⟩
theorem ZJ(j f:Nat):((j:Int)+(f:Int))%4294967296=((iE j f:Nat):Int):=by rw[<-CP,Ob]
theorem apA{wr q:World}{H E p D:Nat}{s σ:St}{y:Nat->Nat}(K:Below a a wr)(N:mT wr a.heap.size 64 (jB y))(hv:a.heap.size<n)(z:Below n wr q)
  (I:q.heap[n]?=QC.mk #[.int .u32 σ.a,.int .u32 σ.a,.int .u32 σ.b,.int .u32 σ.c,.int .u32 σ.d,.int .u32 σ.e,.int .u32 σ.f,.int .u32 σ.g] 267)
  (hn:s.rounds y (H+1)=σ.next k E) (L:t1 σ k E=p) (M:t2 σ=D):
  ZI a n s y (H+1) ((q.setCell (n,4) (.int .u32 (((σ.d:Int)+(p:Int))%4294967296))).setCell (n,0) (.int .u32 (((p:Int)+(D:Int))%4294967296))) where
 be:=((K.trans (z.mono (gQ hv))).setCell (gQ hv) _).setCell (gQ hv) _
 sc:=((N.below z hv).set_other (by omega) _).set_other (by omega) _
 vs:=by
  refine(cK (cK I 4 _) 0 _).trans ?_;rw[ZJ,ZJ,hn,<-L,<-M];rfl
 hv:=hv
theorem Px(N bb Ug h r:Nat)(z:St)(s:Nat->Nat)(hf:∀k,s k<256)(hs:z.Ok)(a:World)(hn:64<=h)(jC:h<=r)
  (M:∀b,b<8->a.cell? ⟨N,b,none⟩=some (.int .u32 (z.at b:Nat)))
  (hF:∀b,b<8->a.frozen? ⟨N,b,none⟩=false)
  (hB:∀k,k<64->a.cell? (bb,Ug+k)=some (.int .u8 (s k)))
  (hK:∀k,k<64->a.cell? ⟨1,k,none⟩=some (.int .u32 (K6 k))):
  Calls prog 214 #[(N,0),.slice (bb,Ug) h r] a λP D=>P=.returned (.tuple #[])/\a.grownBy D (some N)/\mT D N 8 (z.absorb s).at:=by
 go_enter func214,ntmps214;go_wp2_with fail;go_loopw[14] (λb e=>∃q:Nat,q<=16/\b=q/\CO a s q e) (λb _=>16-(intOf b).toNat);case atStart=>exact⟨0,bS _,rfl,⟨(aY _ _).alloc (aP _) _,(apn a 64 _).congr (λk _=>by unfold Br;rw[aA (fG k)])⟩⟩
 case round =>
  obtain⟨q,ht,rfl,y⟩:=hrel;by_cases H:q<16
  ·have an:=y.be;have rU:=y.wd.free q (by omega);have bT:=y.wd.cell q (by omega);have e1:((4:Int)*(q:Int)).toNat=4*q:=by omega
   have e2:(4:Int)*(q:Int)<=h:=by omega
   have pR:decide ((q:Int)<16)=true:=bB (by omega);have HW:=A (show jB s q=wd (s (4*q+0)) (s (4*q+1)) (s (4*q+2)) (s (4*q+3)) from acF s H);go_wp2_with fail;with_reducible refine(apj _ bb (Ug+4*q) _ _ rfl (by omega) (by omega) (λk=>s (4*q+k)) (λ_=>hf _) _ (λk O=>?_)).mono ?_
   ·rw[Oa,an.cell (p:=⟨bb,Ug+(4*q+k),none⟩) (iO (hB (4*q+k) (by omega)))];exact hB (4*q+k) (by omega)
   rintro P w1 ⟨rfl,rfl⟩;rw[<-HW.1];go_wp2_with fail;go_roundw;case rel=>exact⟨q+1,by omega,by go_num,y.next (by omega)⟩
   case measure=>simp[intOf];omega
  ·have y:CO a s 16 wr:=by rwa [show q=16 by omega]at y
   have L0:decide ((q:Int)<16)=false:=bw (by omega);clear H ht;go_wp2_with fail;go_loopw[6] (λb e=>∃q:Nat,16<=q/\q<=64/\b=q/\CO a s q e) (λb _=>64-(intOf b).toNat);case atStart=>exact⟨16,by omega,by omega,rfl,y⟩
   case round =>
    obtain⟨q,ht1,ht2,rfl,y⟩:=hrel;by_cases H:q<64
    ·have hI2:=y.drew;have hx:wr.cell? (a,q-15)=some (.int .u32 (jB s (q-15):Nat)):=by
      have:=y.wd.cell (q-15) (by omega);unfold Br at this;rwa [aD (by omega)]at this
     have hy:wr.cell? (a,q-2)=some (.int .u32 (jB s (q-2):Nat)):=by
      have:=y.wd.cell (q-2) (by omega);unfold Br at this;rwa [aD (by omega)]at this
     have hz:wr.cell? (a,q-16)=some (.int .u32 (jB s (q-16):Nat)):=by
      have:=y.wd.cell (q-16) (by omega);unfold Br at this;rwa [aD (by omega)]at this
     have hu:wr.cell? (a,q-7)=some (.int .u32 (jB s (q-7):Nat)):=by
      have:=y.wd.cell (q-7) (by omega);unfold Br at this;rwa [aD (by omega)]at this
     have HW:=A (acG s ht1);have lx:=acH hf (q-15);have ly:=acH hf (q-2);generalize jB s (q-15)=W at *;generalize jB s (q-2)=T at *;generalize jB s (q-16)=z1 at *;generalize jB s (q-7)=z5z at *;have Tq:((q:Int)-15).toNat=q-15:=by omega
     have e2:((q:Int)-2).toNat=q-2:=by omega
     have e16:((q:Int)-16).toNat=q-16:=by omega
     have e7:((q:Int)-7).toNat=q-7:=by omega
     have d15:(q:Int)-15<64:=by omega
     have d2:(q:Int)-2<64:=by omega
     have d16:(q:Int)-16<64:=by omega
     have d7:(q:Int)-7<64:=by omega
     have dt:(q:Int)<64:=by omega
     have hxd:wr.drew.cell? (a,q-15)=some (.int .u32 W):=hx;have hyd:wr.drew.cell? (a,q-2)=some (.int .u32 T):=hy;have c15:15<=(q:Int):=by omega
     have c2:2<=(q:Int):=by omega
     have c16:16<=(q:Int):=by omega
     have c7:7<=(q:Int):=by omega
     have ZK:=jw ((q:Int)-15) (by omega);have w2:=jw ((q:Int)-2) (by omega);have w16:=jw ((q:Int)-16) (by omega);have w7:=jw ((q:Int)-7) (by omega);go_wp2_with fail;go_region_held3 (λD=>D.cell? (a,q-15)=some (.int .u32 W)/\D.cell? (a,q-2)=some (.int .u32 T)) (go_keep) (fail);rename_i X;clear X hxd hyd ZK w2;have Uh:=y.wd.cell q H;have htf:=y.wd.free q H;have azk:wr.drew.drew.cell? (a,q)=some (.int .u32 (Br s q q:Nat)):=Uh;have azl:wr.drew.drew.frozen? (a,q)=false:=htf;have bX:∀m,(wr.setCell (a,q) m).cell? (a,q-16)=some (.int .u32 z1):=λm=>by rw[jS (.inr (by omega))];exact hz
     have gS:∀m,(wr.setCell (a,q) m).cell? (a,q-7)=some (.int .u32 z5z):=λm=>by rw[jS (.inr (by omega))];exact hu
     have hzd:wr.drew.drew.cell? (a,q-16)=some (.int .u32 z1):=hz;have hud:wr.drew.drew.cell? (a,q-7)=some (.int .u32 z5z):=hu;go_wp2_with fail;go_region_held3 (λD=>D.cell? (a,q-16)=some (.int .u32 z1)/\D.cell? (a,q-7)=some (.int .u32 z5z)) (first|go_keep|exact⟨bX _,gS _⟩)
      (first
       |(go_at_call 218;with_reducible refine(I8 W 7 (-7) rfl _ lx (by decide)).mono ?_;rintro P Z ⟨rfl,rfl⟩)
       |(go_at_call 218;with_reducible refine(I8 W 18 (-18) rfl _ lx (by decide)).mono ?_;rintro P Z ⟨rfl,rfl⟩)
       |(go_at_call 218;with_reducible refine(I8 T 17 (-17) rfl _ ly (by decide)).mono ?_;rintro P Z ⟨rfl,rfl⟩)
       |(go_at_call 218;with_reducible refine(I8 T 19 (-19) rfl _ ly (by decide)).mono ?_;rintro P Z ⟨rfl,rfl⟩))
     have HV:=A ((apr W T z1 z5z lx ly).trans (congrArg Nat.cast HW.1.symm));go_wp2_with fail;go_roundw;case rel=>exact⟨q+1,by omega,by omega,by go_num,by rw[HV.1];exact(y.next H).drew.drew⟩
     case measure=>simp[intOf];omega
    ·have y:CO a s 64 wr:=by rwa [show q=64 by omega]at y
     have L0:decide ((q:Int)<64)=false:=bw (by omega);clear H ht1 ht2;obtain⟨I,S⟩:=y;have Ja:=iO (M 0 (by omega));have s0:=U I (M 0 (by omega));have s1:=U I (M 1 (by omega));have s2:=U I (M 2 (by omega));have s3:=U I (M 3 (by omega));have s4:=U I (M 4 (by omega));have s5:=U I (M 5 (by omega));have s6:=U I (M 6 (by omega));have s7:=U I (M 7 (by omega));simp only[St.at]at s0 s1 s2 s3 s4 s5 s6 s7;have Py:a.heap.size<wr.heap.size:=iO (S.cell 0 (by omega));go_wp2_with fail;have ZL:∃e,e=wr.alloc (.cells (qg z) 267)/\Below a a e/\mT e a.heap.size 64 (jB s)/\e.heap[wr.heap.size]?=QC.mk (qg z) 267:=
      ⟨_,rfl,I.alloc (gQ Py) _,(S.congr (λk O=>by unfold Br;rw[aD O])).alloc Py _,World.alloc_heap_new _ _⟩
     obtain⟨W3,dV,g1,g2,g3⟩:=ZL;simp only[qg]at dV;rw[<-dV];generalize wr.heap.size=n at *;clear dV s0 s1 s2 s3 s4 s5 s6 s7 I S;go_loopw[69] (λb e=>∃q:Nat,q<=64/\b=q/\ZI a n z s q e) (λb _=>64-(intOf b).toNat);case atStart=>exact⟨0,by omega,rfl,⟨g1,g2,g3,Py⟩⟩
     case round =>
      clear g1 g2 g3;obtain⟨E,hr,rfl,y⟩:=hrel;by_cases H:E<64
      ·obtain⟨I,S,K,hv⟩:=y;have HN:=A (show z.rounds s (E+1)=(z.rounds s E).next (K6 E) (jB s E) from rfl);have bU:=hs.rounds s E;have pY:=U I (hK E H);have hwc:=S.cell E H;obtain⟨σ,z2zσ⟩:∃ σ,z.rounds s E=σ:=⟨_,rfl⟩;rw[z2zσ]at K bU HN;clear z2zσ;generalize K6 E=kr at *;generalize jB s E=sr at *;have HP:=A (aps σ bU kr sr);have HQ:=A (apt σ bU);obtain⟨la,lb,lc,ld,le,lf,lg,lh⟩:=bU;have v0:wr.cell? (n,0)=some (.int .u32 σ.a):=Y K rfl;have v1:wr.cell? (n,1)=some (.int .u32 σ.b):=Y K rfl;have v2:wr.cell? (n,2)=some (.int .u32 σ.c):=Y K rfl;have v4:wr.cell? (n,4)=some (.int .u32 σ.e):=Y K rfl;have v5:wr.cell? (n,5)=some (.int .u32 σ.f):=Y K rfl;have v6:wr.cell? (n,6)=some (.int .u32 σ.g):=Y K rfl;have v7:wr.cell? (n,7)=some (.int .u32 σ.h):=Y K rfl;have r0:0<=(E:Int):=by omega
       have r1:(E:Int)<64:=by omega
       go_wp2_with fail;go_region_held3 (λD=>D.cell? (n,4)=some (.int .u32 σ.e)/\D.cell? (n,5)=some (.int .u32 σ.f)/\D.cell? (n,6)=some (.int .u32 σ.g)/\D.cell? (n,7)=some (.int .u32 σ.h)/\D.cell? (1,E)=some (.int .u32 kr)/\D.cell? (a,E)=some (.int .u32 sr)) (first|go_keep|exact⟨v4,v5,v6,v7,pY,hwc⟩)
        (first
         |(go_at_call 219;with_reducible refine(afH σ.e 6 11 25 6 11 25 rfl rfl rfl _ le (by decide)).mono ?_;rintro P Z ⟨rfl,rfl⟩))
       rw[HP.1];clear HP;generalize hp:t1 σ kr sr=p at *;rename_i X;clear X pY hwc;have CT:=A hp;clear hp;go_wp2_with fail;go_region_held3 (λD=>D.cell? (n,0)=some (.int .u32 σ.a)/\D.cell? (n,1)=some (.int .u32 σ.b)/\D.cell? (n,2)=some (.int .u32 σ.c)) (first|go_keep|exact⟨v0,v1,v2⟩)
        (first
         |(go_at_call 219;with_reducible refine(afH σ.a 2 13 22 2 13 22 rfl rfl rfl _ la (by decide)).mono ?_;rintro P Z ⟨rfl,rfl⟩))
       rw[HQ.1];clear HQ;generalize hq:t2 σ=z2 at *;rename_i X;clear X v0 v1 v2 v4 v5 v6 v7;have CU:=A hq;clear hq;have IW:∀(c:Nat) m,(I9 σ)[c]?=some m->wr.drew.drew.drew.cell? (((n,0):Addr).add c)=some m:=λc m hj=>by
        rw[Cu];exact Y (b:=wr) K (apu hj)
       have afL:wr.drew.drew.drew.heap[n]?=QC.mk (qg σ).toList.toArray 267:=K;have jh:Below n wr wr.drew.drew.drew:=(aY _ _).drew.drew.drew;go_wp2_with fail;go_region_law (refine step_copy_splice rfl (.tmp 116) (.tmp 117) 27 27 rfl 143 (by kernel_rfl) (by kernel_rfl) _ _ _ _ _ _ rfl rfl n 1 (qg σ).toList 267 afL (I9 σ) rfl (λ_=>⟨rfl,_,rfl,IW⟩) (aP 8) (apv σ) n wr jh (aP _) ?_;intro w4 HG CQ);have Q:=apw HG;clear HG IW afL jh K;have x4:w4.cell? (n,4)=some (.int .u32 σ.d):=Y Q rfl;have x0:w4.cell? (n,0)=some (.int .u32 σ.a):=Y Q rfl;have z4:=cB Q 4;have z0:=cB Q 0;have Q:=A Q;go_wp2_with fail;go_roundw;case rel=>exact⟨E+1,by omega,by go_num,apA I S hv CQ Q.1 HN.1 CT.1 CU.1⟩
       case measure=>simp[intOf];omega
      ·have y:ZI a n z s 64 wr:=by rwa [show E=64 by omega]at y
       have L0:decide ((E:Int)<64)=false:=bw (by omega);clear H hr;have hsv:N≠n:=by omega
       have L:Eu a N n z (z.rounds s 64) 0 wr:=⟨apz y.be (aP _),y.vs,⟨λk O=>by rw[aA (fG k)];exact U y.be (M k O),λk O=>by rw[y.be.frozen (p:=⟨N,k,none⟩) Ja];exact hF k O⟩⟩;have HF:=A (show z.absorb s=z.plus (z.rounds s 64) from rfl);generalize z.rounds s 64=R at *;clear y;go_wp2_with fail;go_loopw[129] (λb e=>∃k:Nat,k<=8/\b=.int .i64 k/\Eu a N n z R k e) (λb _=>8-(intOf b).toNat);case atStart=>exact⟨0,by omega,rfl,L⟩
       case round =>
        clear L;obtain⟨k,O,rfl,L⟩:=hrel;by_cases H:k<8
        ·have cs:=L.st.cell k H;have cf:=L.st.free k H;simp only[aA (KT k)]at cs;have cv:=Y L.vs (afJ R H);have HA:=A (ZJ (z.at k) (R.at k));have Jb:=A (CP (z.at k) (R.at k));have CH:=A (L.next H hsv);generalize z.at k=W at *;generalize R.at k=T at *;have k0:0<=(k:Int):=by omega
         have k1:(k:Int)<8:=by omega
         clear hF M hB hK;go_wp2_with fail;go_region_with (fail);all_goals
          go_wp2_with fail;go_roundw;case rel=>exact⟨k+1,by omega,by go_num,by(first|rw[HA.1]|rw[Jb.1]);exact CH.1.drew⟩
          case measure=>simp[intOf];omega
        ·have L:Eu a N n z R 8 wr:=by rwa [show k=8 by omega]at L
         have L0:decide ((k:Int)<8)=false:=bw (by omega);clear H O;go_wp2_with fail;go_end0;exact⟨rfl,L.gr,L.st.congr λb hi=>by rw[aD hi,HF.1,apx z R hi]⟩
structure gz(a:World):Prop where
 num:∀k,k<64->a.cell? ⟨1,k,none⟩=some (.int .u32 (K6 k))
 sta:∀k,k<8->a.cell? ⟨0,k,none⟩=some (.int .u32 (rI.at k:Nat))
theorem gz.below(y:gz a)(s:Below a a e):gz e:=
 ⟨λk q=>U s (y.num k q),λk q=>U s (y.sta k q)⟩
theorem fC.below{w':World}(I:fC a m d)(y:Below a a w'):fC w' m d:=by
 obtain⟨j,r,rfl,z,E,H,D⟩:=I;refine⟨j,r,rfl,z,E,H,λk q=>?_⟩;obtain⟨f,l,ha,s⟩:=D k q;exact⟨f,l,ha,U y s⟩
theorem fC.at(E:fC a (.slice (f,l) h r) d):∀k (q:k<d.length),a.cell? (f,l+k)=some (.int .u8 (d[k]:Nat)):=by
 obtain⟨j,K,z,-,-,-,q⟩:=E;injection z with e1 e2 e3;subst e1;intro k s;obtain⟨H,I,D,y⟩:=q k s;cases D;exact y
theorem fC.drop(s:fC a (.slice (f,l) h r) d)(c:Nat)(O:c<=d.length)(j:Option Addr)(q:Nat)(D:d.length-c<=q)
  (ha:c<d.length->j=(f,l+c)):fC a (.slice j (d.drop c).length q) (d.drop c):=by
 have y:=s.at
 obtain⟨K,P,N,L,M,z,-⟩:=s;refine⟨j,q,rfl,by rw[Ic];exact D,by rw[Ic];omega,λI H=>z I (List.mem_of_mem_drop H),λk E=>?_⟩;rw[Ic]at E;refine⟨f,l+c,ha (by omega),?_⟩;rw[List.getElem_drop,Oa];exact y (c+k) (by omega)
def ux:Array Value:=#[.int .u8 0,.int .u8 0,.int .u8 0,.int .u8 0,.int .u8 0,.int .u8 0,.int .u8 0,.int .u8 0,.int .u8 0,.int .u8 0,.int .u8 0,.int .u8 0,.int .u8 0,.int .u8 0,.int .u8 0,.int .u8 0,.int .u8 0,.int .u8 0,.int .u8 0,.int .u8 0,.int .u8 0,.int .u8 0,.int .u8 0,.int .u8 0,.int .u8 0,.int .u8 0,.int .u8 0,.int .u8 0,.int .u8 0,.int .u8 0,.int .u8 0,.int .u8 0]
theorem fC.len(s:fC a (.slice j h r) d):h=d.length/\h<=r:=by
 obtain⟨y,D,q,z,-⟩:=s;injection q with e1 e2 e3;omega
theorem fC.next64{y q E:Nat}(D:fC a (.slice (y,l) q E) (d.drop (64*b)))(M:64<=q)(j:Option Addr)(s:Nat)(K:q-64<=s)
  (ha:64<q->j=(y,l+64)):fC a (.slice j (q-64) s) (d.drop (64*(b+1))):=by
 obtain⟨H,-⟩:=D.len;have z:=D.drop 64 (by omega) j s (by omega) (λL=>ha (by omega));rw[List.drop_drop]at z;rw[show 64*(b+1)=64*b+64 by omega];have I:(d.drop (64*b+64)).length=q-64:=by rw[H,Ic,Ic];omega
 rwa [I]at z
structure uy(a:World)(p:aO)(b:Nat)(e:World):Prop where
 be:Below a a e
 rr:e.heap[a.heap.size]?=QC.mk ux 243
 st:mT e (a.heap.size+1) 8 (rI.blocks p b).at
theorem uy.next(q:uy a p b e)(s:e.grownBy x (some (a.heap.size+1)))(D:mT x (a.heap.size+1) 8 (rI.blocks p (b+1)).at):uy a p (b+1) x where
 be:=⟨s.os.trans q.be.os,s.tape.trans q.be.tape,s.output.trans q.be.output,bK q.be.size s.size,λk z=>(s.block k (eJ z q.be.size) (by intro y;injection y with y;omega)).trans (q.be.block k z)⟩
 rr:=(s.block _ (bG q.rr) (by intro y;injection y with y;omega)).trans q.rr
 st:=D
theorem apB(a:World)(p:aO):uy a p 0 ((a.alloc (.cells ux 243)).alloc (.cells (qg rI) 267)) where
 be:=((aY _ _).alloc (aP _) _).alloc (by simp) _
 rr:=by
  refine(xU _ _ _ (by simp)).trans (World.alloc_heap_new a _)
 st:=by
  have q:((a.alloc (.cells ux 243)).alloc (.cells (qg rI) 267)).heap[a.heap.size+1]?=QC.mk (qg rI) 267:=by
   have:=World.alloc_heap_new (a.alloc (.cells ux 243)) (.cells (qg rI) 267);rwa [KK]at this
  exact⟨λk s=>Y q (afJ rI s),λk _=>cB q k⟩
theorem uy.below(s:uy a p b e)(q:Below w e x)(y:a.heap.size+1<w):uy a p b x where
 be:=s.be.trans (q.mono (by omega))
 rr:=(q.block _ (by omega)).trans s.rr
 st:=s.st.below q y
def cX(q:Nat):Value:=.int .u8 (q:Int)
theorem L3:(prog.info? 5).map (λb=>(b.zero,b.size,b.bytes))=some (some (.int .u8 0),1,1):=by kernel_rfl
theorem apC(z:Value)(h:Nat):madeCells #[z] h=(List.replicate h z).toArray:=by
 apply Array.ext
 ·rw[size_madeCells];simp
 ·intro b q s;simp[madeCells,Nat.mod_one]
theorem apD(wr:World):∃q,(Instr.makeSlice 28 (64:Int) (128:Int)).run prog wr=.ok (.slice (wr,0) 64 128) q /\
  q.heap[wr.heap.size]?=QC.mk (List.replicate 128 (Value.int .u8 0)).toArray 5/\Below wr wr q/\wr.heap.size<q.heap.size:=by
 obtain⟨b,z,s⟩:=kA.1 L3;simp only[pN]at s;obtain⟨E,D,y⟩:=s;have H:=run_make (P:=prog) wr 28 5 b (.int .u8 0) underlying28 z E .i64 .i64 64 128 (by omega) (by omega) (by rw[y];decide) (by omega);refine⟨_,H,?_,(aY _ _).alloc (aP _) _,by simp⟩;rw[World.alloc_heap_new,D];exact congrArg (λI=>some (Obj.cells I 5 (0,0))) (apC (.int .u8 0) 128)
def lenOf:Value->Nat
 |.slice _ h _=>h
 |_=>0
theorem afM{y:List Value}(z:o.map cX=y)
  (s:u.heap[i]?=QC.mk (splice (List.replicate 128 (Value.int .u8 0)) 0 y).toArray 5):
  (∀k,u.frozen? ⟨i,k,none⟩=false)/\∀k,k<128->u.cell? ⟨i,k,none⟩=some (.int .u8 ((if s:k<o.length then o[k] else 0:Nat):Int)):=by
 refine⟨λk=>cB s k,λk D=>Y s ?_⟩;rw[SU];unfold splice;rw[KS,jf,<-z];by_cases q:k<o.length
 ·rw[uN (by rw[dy];exact q),tY,fw q,Cj q];rfl
 ·rw[rD (by rw[dy];omega),DA q,List.getElem?_drop,Xm,aD (by rw[dy];omega)];rfl
def Ev(i g:Nat)(p:aO)(b:Nat)(e:World):Prop:=∀k,k<g->e.cell? ⟨i,k,none⟩=some (.int .u8 (p.getD (64*b+k) 0%256:Nat))
theorem afN(S:∀T∈d,T<256)(Q:b=d.length/64)(N:d.drop (64*b)=o)(I:jN d.length=g)
  (P:∀k,u.frozen? ⟨i,k,none⟩=false) (q:∀k,k<128->u.cell? ⟨i,k,none⟩=some (.int .u8 ((if q:k<o.length then o[k] else 0:Nat):Int))):
  Ev i g (fV d) b (qU (u.setCell (i,o.length) (.int .u8 128)) i (g-8) 8 (d.length*8) 8):=by
 subst Q;subst N;subst I;have K:(d.drop (64*(d.length/64))).length=d.length%64:=by rw[Ic];omega
 have I:jN d.length=64\/jN d.length=128:=by unfold jN;split<;>simp
 have W:d.length%64<jN d.length-8:=by unfold jN;split<;>omega
 intro k z;have E:∀k,k<128->(u.setCell (i,(d.drop (64*(d.length/64))).length) (.int .u8 128)).cell? ⟨i,k,none⟩ =
   if k=d.length%64 then some (.int .u8 128) else u.cell? ⟨i,k,none⟩:=λk z=>by
  rw[K];by_cases D:k=d.length%64
  ·subst D;rw[aD rfl];exact jL _ _ _ (by rw[q _ z];rfl)
  ·rw[aA D];exact jS (.inr (λL=>D L.symm))
 rw[tail_at d z];by_cases y:k<jN d.length-8
 ·rw[Ue _ _ _ _ _ (.inr (.inl y)) 8 (aP _),E k (by omega)];by_cases H:k<d.length%64
  ·have O:=S _ (bM (show 64*(d.length/64)+k<d.length by omega));rw[aA (by omega),Cj H,q k (by omega),Cj (by omega),List.getElem_drop,NZ O]
  ·rw[DA H];by_cases s:k=d.length%64
   ·rw[aD s,aD s];rfl
   ·rw[aA s,aA s,aD y,q k (by omega),DA (by omega)]
 ·rw[DA (by omega),aA (by omega),aA y,Nat.mod_mod];have M:Room (u.setCell (i,(d.drop (64*(d.length/64))).length) (.int .u8 128)) i (jN d.length-8) 8:=by
   refine⟨λc R=>?_,λc R=>by rw[jK];exact P _⟩;rw[E _ (by omega)];split
   ·exact⟨_,rfl⟩
   ·exact⟨_,q _ (by omega)⟩
  have:=ZH (h:=d.length*8) M (k:=k-(jN d.length-8)) (by omega) 8 (aP _) (by omega);rw[show jN d.length-8+(k-(jN d.length-8))=k by omega]at this;exact this
theorem afO(q:(∀k,u.frozen? ⟨i,k,none⟩=false)/\∀k,k<128->u.cell? ⟨i,k,none⟩=some (.int .u8 ((if q:k<o.length then o[k] else 0:Nat):Int)))(D:t+8<=128):
  Room (u.setCell (i,o.length) (.int .u8 128)) i t 8:=by
 refine⟨λc z=>?_,λc z=>by rw[jK];exact q.1 _⟩;by_cases s:t+c=o.length
 ·rw[<-s];exact⟨_,jL _ _ _ (by rw[q.2 _ (by omega)];rfl)⟩
 ·rw[jS (.inr (λy=>s y.symm))];exact⟨_,q.2 _ (by omega)⟩
theorem Uj(f l g r h:Nat)(q:Int)(z:(h:Int)=q)(a:World)(s:g<=8)(D:g<=r)(hn:h<18446744073709551616)(y:Room a f l g):
  Calls prog 215 #[.slice (f,l) g r,.int .u64 q] a λH E=>H=.returned (.tuple #[])/\E=qU a f l g h g:=by
 subst z;exact apl f l g r h a s D hn y
inductive Jc:Nat->Nat->Value->Nat->Prop
 |a0 {E:Nat}:Jc 128 E (.slice (some ⟨E,0,none⟩) 128 128) 0
 |a1 {E:Nat}:Jc 128 E (.slice (some ⟨E,64,none⟩) 64 64) 1
 |a2 {E:Nat}:Jc 128 E (.slice (some ⟨E,64,none⟩) 0 0) 2
 |b0 {E:Nat}:Jc 64 E (.slice (some ⟨E,0,none⟩) 64 128) 0
 |b1 {E:Nat}:Jc 64 E (.slice (some ⟨E,64,none⟩) 0 64) 1
theorem ZM(q:Ev i g p b e)(s:64*c+64<=g):∀k,k<64->e.cell? (i,64*c+k)=some (.int .u8 (uR p (b+c) k:Nat)):=λk y=>by
 rw[q (64*c+k) (by omega)];unfold uR;rw[show 64*(b+c)+k=64*b+(64*c+k) by omega]
theorem Ev.grown{q:Nat}(E:Ev i g p b e)(z:e.grownBy x (some q))(y:i<e.heap.size)(H:q≠i):Ev i g p b x:=λk D=>by
 rw[rB (w:=e) (z.block i y (by intro s;injection s with s;omega))];exact E k D
theorem apE{q:Nat}(z:b=d.length/64)(y:jN d.length=g)(s:g=64*q):mg d=(rI.blocks (fV d) (b+q)).bytes:=by
 have D:(fV d).length/64=b+q:=by rw[aky,y,z,s];omega
 unfold mg;rw[D]
def dv(q:St)(c:Nat):Nat:=q.bytes.getD c 0
theorem apF(q:St)(y:k<8)(s:c<4):dv q (4*k+c)=q.at k/2^(8*(4-1-c))%256:=by
 unfold dv;rw[kR,akE q y s];rfl
structure yH(a:World)(q:St)(k:Nat)(e:World):Prop where
 be:Below a a e
 cl:∀c,c<32->e.cell? ⟨a.heap.size,c,none⟩=some (.int .u8 ((if c<4*k then dv q c else 0:Nat):Int))
 fr:∀c,c<32->e.frozen? ⟨a.heap.size,c,none⟩=false
theorem apG(s:c<32):ux[c]?=some (.int .u8 0):=by
 have q:ux=(List.replicate 32 (Value.int .u8 0)).toArray:=rfl;rw[q,SU,Xm,aD s]
theorem yH.room{s:St}(q:yH a s k e)(z:k<8):Room e a.heap.size (4*k) 4:=
 ⟨λc y=>⟨_,q.cl (4*k+c) (by omega)⟩,λc y=>q.fr (4*k+c) (by omega)⟩
theorem yH.next{q:St}(s:yH a q k e)(E:k<8):yH a q (k+1) (qU e a.heap.size (4*k) 4 (q.at k) 4) where
 be:=Uf s.be (aP _) 4
 cl:=λc y=>by
  by_cases z:c<4*k
  ·rw[Ue _ _ _ _ _ (.inr (.inl z)) 4 (aP _),s.cl c y,aD z,aD (by omega)]
  ·by_cases D:c<4*(k+1)
   ·have H:=ZH (h:=q.at k) (s.room E) (k:=c-4*k) (by omega) 4 (aP _) (by omega);rw[show 4*k+(c-4*k)=c by omega]at H;rw[H,aD D,<-apF q E (show c-4*k<4 by omega),show 4*k+(c-4*k)=c by omega]
   ·rw[Ue _ _ _ _ _ (.inr (.inr (by omega))) 4 (aP _),s.cl c y,aA z,aA D]
 fr:=λc y=>by rw[ZF];exact s.fr c y
theorem afP(q:St)(k:Nat)(s:k<8)(a:World):(Instr.index 267 (.agg (qg q)) k).run prog a=.ok (.int .u32 (q.at k:Nat)) a:=by
 have y:=underlying267
 match k,s with
 |0,_|1,_|2,_|3,_|4,_|5,_|6,_|7,_=>simp[Instr.index,DH y,asIntOf,go_sem,qg,St.at]
theorem apH{p:Tmp}(s:C.results=#[.cell p F])(B:Array Value)(q:Program)(a:World):
  (results C B).run q a=((asAddr (B.getD p undef)).run q a).andThen λj a₁=>(loadVar F j).run q a₁:=by
 simp only[results,s];simp[Result.andThen]
theorem ZN{p:Tmp}{q:Program}{j:Addr}(z:C.results=#[.cell p F])(y:B.getD p undef=.pointer (some j))(s:(loadVar F j).run q a=.ok m a):
  (results C B).run q a=.ok m a:=by
 rw[apH z,y];simp[asAddr,Result.andThen,s]
theorem Gw:(prog.info? 243).map (·.size)=some 32:=by kernel_rfl
theorem afQ{y:Nat}{q:St}(H:yH a q 8 e)(D:y=a.heap.size):e.rangeAt y 0 (q.bytes.map cX):=λc m E=>by
 obtain⟨s,z⟩:=DI.1 E;rw[dy,show q.bytes.length=32 from rfl]at s;rw[iN,D,H.cl c s,aD (by omega),<-z,gj];unfold dv;rw[kR,fw (show c<q.bytes.length from s)];rfl
theorem afR(q k:Nat)(s:k<8)(a:World):(Instr.sliceAt 243 (q,0) (some (.int .i64 (4*(k:Int)))) (some (.int .i64 (4*(k:Int)+4))) none).run prog a=.ok (.slice (q,4*k) 4 (32-4*k)) a:=by
 match k,s with
 |0,_|1,_|2,_|3,_|4,_|5,_|6,_|7,_=>simp[go_sem]
theorem PA(s:w<=f):∀(g:List Value) (t:Nat) (a:World),Below w G a->Below w G (a.setCells f t g)
 |[],_,_,q=>q
 |m::g,t,a,q=>by rw[World.setCells];exact PA s g (t+1) _ (q.setCell s _)
theorem uy.fin{y:Nat}(N:uy a (fV d) (b+y) e)(L:b=d.length/64)(K:jN d.length=g)(I:g=64*y):
  ∃q:St,q.Ok/\Hid (mg d=q.bytes)/\yH a q 0 e/\e.cell? (a.heap.size+1,0)=some (.int .u32 (q.a:Nat))/\e.cell? (a.heap.size+1,1)=some (.int .u32 (q.b:Nat)) /\
   e.cell? (a.heap.size+1,2)=some (.int .u32 (q.c:Nat))/\e.cell? (a.heap.size+1,3)=some (.int .u32 (q.d:Nat))/\e.cell? (a.heap.size+1,4)=some (.int .u32 (q.e:Nat)) /\
   e.cell? (a.heap.size+1,5)=some (.int .u32 (q.f:Nat))/\e.cell? (a.heap.size+1,6)=some (.int .u32 (q.g:Nat))/\e.cell? (a.heap.size+1,7)=some (.int .u32 (q.h:Nat)):=by
 have D:=apE L K I;have z:=Lb.blocks (fV d) (b+y);obtain⟨H,E,s⟩:=N;revert D z s;generalize rI.blocks (fV d) (b+y)=q;intro D z s;exact⟨q,z,A D,⟨H,λc M=>Y E ((apG M).trans (by rw[aA (by omega)];rfl)),λc _=>cB E c⟩,s.cell 0 (by omega),s.cell 1 (by omega),s.cell 2 (by omega),s.cell 3 (by omega),s.cell 4 (by omega),s.cell 5 (by omega),s.cell 6 (by omega),s.cell 7 (by omega)⟩
theorem afS(m:Value)(d:aO)(a:World)(hI:fC a m d)(L:gz a):
  Calls prog 205 #[m] a λO w'=>O=.returned (.agg ((mg d).map cX).toArray)/\Below a a w':=by
 have rN:=A hI;obtain⟨j,r,rfl,jC,hlen,et,hk⟩:=hI;clear hk;have g0:=L.sta 0 (by omega);have g1:=L.sta 1 (by omega);have g2:=L.sta 2 (by omega);have g3:=L.sta 3 (by omega);have g4:=L.sta 4 (by omega);have g5:=L.sta 5 (by omega);have g6:=L.sta 6 (by omega);have g7:=L.sta 7 (by omega);simp only[St.at]at g0 g1 g2 g3 g4 g5 g6 g7;have jq:0 < a.heap.size:=iO g0;go_enter func205,ntmps205;go_wp2_with fail;have ZL:∃e,e=(a.alloc (.cells ux 243)).alloc (.cells (qg rI) 267)/\uy a (fV d) 0 e:=
  ⟨_,rfl,apB a _⟩
 obtain⟨W3,dV,hS3⟩:=ZL;simp only[qg,ux]at dV;rw[<-dV];clear dV g0 g1 g2 g3 g4 g5 g6 g7 jq;go_loopw[5] (λrv e=>∃b:Nat,64*b<=d.length/\fC a rv (d.drop (64*b))/\uy a (fV d) b e) (λrv _=>lenOf rv);case atStart=>exact⟨0,by omega,by rw[N6,List.drop_zero];exact rN.1,hS3⟩
 case round =>
  clear hS3;obtain⟨b,hi,hT,H⟩:=hrel;have ZO:(d.drop (64*b)).length=d.length-64*b:=Ic;by_cases hm:64<=(d.drop (64*b)).length
  ·obtain⟨a1,c1,rfl,iP,eI,ZP,cU⟩:=id hT;obtain⟨bb,l,rfl,-⟩:=cU 0 (by omega);have fk:=hT.at
   clear cU;have HT:=A hT;clear hT;have afT:∀k,k<64->wr.cell? (bb,l+k)=some (.int .u8 (uR (fV d) b k:Nat)):=λk hk=>by
    rw[H.be.cell (p:=⟨bb,l+k,none⟩) (iO (fk k (by omega))),fk k (by omega),akD d et (by omega),List.getElem_drop]
   clear fk ZP et;have Gx:=L.below H.be;have wZ:=A ZO;have Gi:(d.drop (64*b)).length<=d.length:=by omega
   clear ZO;have HB:=A afT;clear afT;have qO:64<=c1:=by omega
   generalize Bd:(d.drop (64*b)).length=z2z at *;have HM:=A Bd;clear Bd;have rG:decide ((z2z:Int)>=64)=true:=bB (by omega);by_cases lT:c1=64
   ·subst lT;obtain rfl:z2z=64:=by omega
    clear hm qO;go_wp2_with fail;with_reducible refine(Px (a.heap.size+1) bb l 64 64 (rI.blocks (fV d) b) (uR (fV d) b) (Oj _ _) (Lb.blocks _ _) _ (aP _) (aP _) H.st.cell H.st.free HB.1 Gx.num).mono ?_
    rintro O x ⟨rfl,z,M⟩;go_wp2_with fail;go_roundw;case rel=>exact⟨b+1,by have:=wZ.1;have:=HM.1;omega,HT.1.next64 (aP _) _ _ (by omega) (λz1z=>absurd z1z (KT _)),H.next z M⟩
    case measure=>simp[lenOf]
   ·have bT:64<c1:=by omega
    clear lT;go_wp2_with fail;with_reducible refine(Px (a.heap.size+1) bb l 64 c1 (rI.blocks (fV d) b) (uR (fV d) b) (Oj _ _) (Lb.blocks _ _) _ (aP _) qO H.st.cell H.st.free HB.1 Gx.num).mono ?_
    rintro O x ⟨rfl,z,M⟩;go_wp2_with fail;go_roundw;case rel=>exact⟨b+1,by have:=wZ.1;have:=HM.1;omega,HT.1.next64 hm _ _ (by omega) (λ_=>rfl),H.next z M⟩
    case measure=>simp[lenOf];omega
  ·obtain⟨a1,c1,rfl,iP,eI,ZP,cU⟩:=id hT;have hdi:b=d.length/64:=by omega
   have qh:(d.drop (64*b)).length=d.length%64:=by omega
   have ZQ:=A cU;clear cU ZP ZO;have rG:decide (((d.drop (64*b)).length:Int)>=64)=false:=bw (by omega);have LJ:(d.drop (64*b)).length<64:=by omega
   obtain⟨iR,Uk⟩:=aR qh hdi;clear qh hdi hm hT;obtain⟨o,Ul⟩:∃o,d.drop (64*b)=o:=⟨_,rfl⟩;have HTE:=A Ul;rw[Ul]at ZQ rG LJ iR iP eI;rw[Ul];clear Ul;obtain⟨W2,jE,hE2,rJ,dQ⟩:=apD wr;have Ew:a.heap.size+1<wr.heap.size:=iO (H.st.cell 0 (by omega));have L4:uy a (fV d) b W2:=H.below rJ Ew;have IW:0<(o.map cX).length->∃ad,a1=some ad/\∀c m,(o.map cX)[c]?=some m->W2.cell? (ad.add c)=some m:=λh0=>by
    rw[dy]at h0;obtain⟨f,l,he,gR⟩:=ZQ.1 0 h0;refine⟨_,he,λc m Z=>?_⟩;obtain⟨nh,hjv⟩:=DI.1 Z;rw[dy]at nh;obtain⟨b',Lr,wK,hc⟩:=ZQ.1 c nh;rw[he]at wK;cases wK;rw[zS,rJ.cell (p:=⟨f,l+c,none⟩) (eJ (iO hc) H.be.size),H.be.cell (p:=⟨f,l+c,none⟩) (iO hc),hc,<-hjv,gj];rfl
   have ZR:=A IW;have afU:(o.map cX).length=Nat.min o.length 64:=by rw[dy];exact(SV (gQ LJ)).symm
   have ZS:=A afU;have PB:0+(o.map cX).length<=(List.replicate 128 (Value.int .u8 0)).length:=by rw[dy,KL];omega
   have h1c:∀m∈o.map cX,m.oneCell'=true:=λm hv=>by
    obtain⟨I,-,rfl⟩:=ey.1 hv;rfl
   obtain⟨ZT,ZU⟩:=aR PB h1c;have hsL:(o.map cX).length=o.length:=dy ..;have il:=A hsL;obtain⟨z0,hX⟩:∃z0,o.map cX=z0:=⟨_,rfl⟩;have HX:=A hX;clear IW afU PB h1c hsL;rw[hX]at ZR ZS ZT ZU il;have Ak:=A hE2;clear hX hE2;generalize hE:wr.heap.size=i at *;clear hE;by_cases h55:55<o.length
   ·have HL:=A (show jN d.length=128 by have:=iR.1;unfold jN;rw[aD (by omega)]);have d55:decide ((o.length:Int)>55)=true:=bB (by omega);have Pz:o.length<128:=by omega
    clear h55;go_wp2_with (with_reducible refine wpList_copy_splice rfl (.tmp 22) (.tmp 23) 28 28 rfl 5 (by kernel_rfl) (by kernel_rfl) _ _ _ _ _ _ rfl rfl i 0 (List.replicate 128 (Value.int .u8 0)) 5 Ak.1 z0 ZS.1 (λz1z=>⟨rfl,ZR.1 z1z⟩) ZT.1 ZU.1 i W2 (aY _ _) (aP _) ?_;intro u HG CQ;have Q:=afM HX.1 (Go.RowKit.Hid.out HG);have ZV:=Q.2 o.length Pz;have ZW:=Q.1 o.length;have R:=A Q;clear Q);have S:Below i W2 (qU (u.setCell (i,o.length) (.int .u8 128)) i 120 8 (d.length*8) 8):=Uf (CQ.setCell (aP _) _) (aP _) 8;with_reducible refine(Uj i 120 8 8 (d.length*8) ((d.length:Int)*8) (by omega) _ (by omega) (by omega) (by omega) (afO R.1 (by omega))).mono ?_
    rintro O W ⟨rfl,X⟩;rw[<-X]at S;have D:Ev i 128 (fV d) b W:=by
     rw[X];exact afN et Uk.1 HTE.1 HL.1 R.1.1 R.1.2
    have y:uy a (fV d) (b+0) W:=L4.below S Ew;have E:i<W.heap.size:=eJ dQ S.size;clear ZV ZW R HG CQ S L4 X jE rJ H;go_wp2_with fail;go_loopw[6] (λm e=>∃c,Jc 128 i m c/\uy a (fV d) (b+c) e/\Ev i 128 (fV d) b e/\i<e.heap.size) (λm _=>lenOf m);case atStart=>exact⟨0,.a0,y,D,E⟩
    case round =>
     clear y D E;obtain⟨c,hR,y,D,E⟩:=hrel;rcases hR with _|_|_|_|_
     ·go_wp2_with fail;have jF:∀k,k<64->wr.cell? (i,0+k)=some (.int .u8 (uR (fV d) (b+0) k:Nat)):=ZM (c:=0) D (by omega);with_reducible refine(Px (a.heap.size+1) i 0 64 128 (rI.blocks (fV d) (b+0)) (uR (fV d) (b+0)) (Oj _ _) (Lb.blocks _ _) _ (aP _) (by omega) y.st.cell y.st.free jF (L.below y.be).num).mono ?_
      rintro O W6 ⟨rfl,z,M⟩;have PC:=y.next z M;have D3:=D.grown z E (by omega);have PD:=eJ E z.size;clear z M;go_wp2_with fail;go_roundw;case rel=>exact⟨1,.a1,PC,D3,PD⟩
      case measure=>simp[lenOf]
     ·go_wp2_with fail;have jF:∀k,k<64->wr.cell? (i,64+k)=some (.int .u8 (uR (fV d) (b+1) k:Nat)):=ZM (c:=1) D (by omega);with_reducible refine(Px (a.heap.size+1) i 64 64 64 (rI.blocks (fV d) (b+1)) (uR (fV d) (b+1)) (Oj _ _) (Lb.blocks _ _) _ (aP _) (by omega) y.st.cell y.st.free jF (L.below y.be).num).mono ?_
      rintro O W6 ⟨rfl,z,M⟩;have PC:=y.next z M;have D3:=D.grown z E (by omega);have PD:=eJ E z.size;clear z M;go_wp2_with fail;go_roundw;case rel=>exact⟨2,.a2,PC,D3,PD⟩
      case measure=>simp[lenOf]
     ·obtain⟨q,ZX,HV,s,s0,s1,s2,s3,s4,s5,s6,s7⟩:=y.fin (y:=2) Uk.1 HL.1 rfl;clear y D;go_wp2_with fail;have PE:(#[.int .u32 (q.a:Nat),.int .u32 (q.b:Nat),.int .u32 (q.c:Nat),.int .u32 (q.d:Nat),.int .u32 (q.e:Nat),.int .u32 (q.f:Nat),.int .u32 (q.g:Nat),.int .u32 (q.h:Nat)]:Array Value)=qg q:=rfl;rw[PE];clear PE s0 s1 s2 s3 s4 s5 s6 s7 E;go_loopw[54] (λI e=>∃k:Nat,k<=8/\I=.int .i64 k/\yH a q k e) (λI _=>8-(intOf I).toNat);case atStart=>exact⟨0,by omega,rfl,s⟩
      case round =>
       clear s;obtain⟨k,hk,rfl,s⟩:=hrel;by_cases K:k<8
       ·have ZY:=afP q k K wr;have hx:=afK ZX K;have CH:=A (s.next K);have PF:=s.room K;generalize q.at k=I at *;have k1:(k:Int)<8:=by omega
        clear s;have qN:=afR a.heap.size k K wr;go_wp2_with fail;with_reducible refine(Uj a.heap.size (4*k) 4 (32-4*k) I _ rfl _ (by omega) (by omega) (by omega) PF).mono ?_
        rintro O W7 ⟨rfl,eE⟩;have ZZ:yH a q (k+1) W7:=by rw[eE];exact CH.1
        clear eE ZY PF qN;go_wp2_with fail;go_roundw;case rel=>exact⟨k+1,by omega,by go_num,ZZ⟩
        case measure=>simp[intOf];omega
       ·have s:yH a q 8 wr:=by rwa [show k=8 by omega]at s
        have L0:decide ((k:Int)<8)=false:=bw (by omega);clear K hk;have si:=afQ s rfl;have cQ:=s.be;have T:wr.there a.heap.size 0 32:=λc Z=>by rw[iN];exact⟨by rw[s.cl c Z];rfl,s.fr c Z⟩
        have yI:(q.bytes.map cX).toArray.all (·.oneCell')=true:=all_oneCell_toArray (λm hv=>by obtain⟨I,-,rfl⟩:=ey.1 hv;rfl);have N:(q.bytes.map cX).length=32:=rfl;have tk:Hid ((mg d).map cX=q.bytes.map cX):=A (by rw[HV.1]);generalize q.bytes.map cX=g at *;obtain⟨PG,Je,HI,xd⟩:=cY si yI (Gw.trans (congrArg some N.symm)) (Gw.trans (congrArg some (show 32=g.toArray.size by simpa using N.symm)));have ve:Hid (wr.there a.heap.size 0 g.toArray.size):=A (by rw[show g.toArray.size=32 by simpa using N];exact T);have Z0:Hid (wr.there a.heap.size 0 g.length):=A (by rw[N];exact T);clear si T yI N s;go_wp2_with (first
         |(with_reducible refine wpList_load_mid rfl 243 (.tmp 2) rfl a.heap.size 0 rfl g _ PG.1 underlying243 rfl HI.1 ?_)
         |(with_reducible refine wpList_store_mid rfl 243 (.tmp 2) (.tmp 68) rfl a.heap.size 0 g.toArray rfl rfl ve.1 xd.1 Je.1 ?_))
        have CV:g.toArray.toList=g:=rfl;have ie:(wr.setCells a.heap.size 0 g.toArray.toList).rangeAt a.heap.size 0 g:=by rw[CV];exact World.rangeAt_setCells_same _ _ _ _ Z0.1
        have Jd:=run_loadVar_mid (P:=prog) _ a.heap.size 0 243 g _ ie underlying243 rfl HI.1;refine gB (v:=.agg g.toArray) ?_ rfl ⟨by rw[tk.1],PA (aP _) _ _ _ cQ⟩;exact ZN rfl rfl Jd
   ·have HL:=A (show jN d.length=64 by have:=iR.1;unfold jN;rw[aA (by omega)]);have d55:decide ((o.length:Int)>55)=false:=bw (by omega);have Pz:o.length<128:=by omega
    clear h55;go_wp2_with (with_reducible refine wpList_copy_splice rfl (.tmp 22) (.tmp 23) 28 28 rfl 5 (by kernel_rfl) (by kernel_rfl) _ _ _ _ _ _ rfl rfl i 0 (List.replicate 128 (Value.int .u8 0)) 5 Ak.1 z0 ZS.1 (λz1z=>⟨rfl,ZR.1 z1z⟩) ZT.1 ZU.1 i W2 (aY _ _) (aP _) ?_;intro u HG CQ;have Q:=afM HX.1 (Go.RowKit.Hid.out HG);have ZV:=Q.2 o.length Pz;have ZW:=Q.1 o.length;have R:=A Q;clear Q);have S:Below i W2 (qU (u.setCell (i,o.length) (.int .u8 128)) i 56 8 (d.length*8) 8):=Uf (CQ.setCell (aP _) _) (aP _) 8;with_reducible refine(Uj i 56 8 72 (d.length*8) ((d.length:Int)*8) (by omega) _ (by omega) (by omega) (by omega) (afO R.1 (by omega))).mono ?_
    rintro O W ⟨rfl,X⟩;rw[<-X]at S;have D:Ev i 64 (fV d) b W:=by
     rw[X];exact afN et Uk.1 HTE.1 HL.1 R.1.1 R.1.2
    have y:uy a (fV d) (b+0) W:=L4.below S Ew;have E:i<W.heap.size:=eJ dQ S.size;clear ZV ZW R HG CQ S L4 X jE rJ H;go_wp2_with fail;go_loopw[6] (λm e=>∃c,Jc 64 i m c/\uy a (fV d) (b+c) e/\Ev i 64 (fV d) b e/\i<e.heap.size) (λm _=>lenOf m);case atStart=>exact⟨0,.b0,y,D,E⟩
    case round =>
     clear y D E;obtain⟨c,hR,y,D,E⟩:=hrel;rcases hR with _|_|_|_|_
     ·go_wp2_with fail;have jF:∀k,k<64->wr.cell? (i,0+k)=some (.int .u8 (uR (fV d) (b+0) k:Nat)):=ZM (c:=0) D (by omega);with_reducible refine(Px (a.heap.size+1) i 0 64 128 (rI.blocks (fV d) (b+0)) (uR (fV d) (b+0)) (Oj _ _) (Lb.blocks _ _) _ (aP _) (by omega) y.st.cell y.st.free jF (L.below y.be).num).mono ?_
      rintro O W6 ⟨rfl,z,M⟩;have PC:=y.next z M;have D3:=D.grown z E (by omega);have PD:=eJ E z.size;clear z M;go_wp2_with fail;go_roundw;case rel=>exact⟨1,.b1,PC,D3,PD⟩
      case measure=>simp[lenOf]
     ·obtain⟨q,ZX,HV,s,s0,s1,s2,s3,s4,s5,s6,s7⟩:=y.fin (y:=1) Uk.1 HL.1 rfl;clear y D;go_wp2_with fail;have PE:(#[.int .u32 (q.a:Nat),.int .u32 (q.b:Nat),.int .u32 (q.c:Nat),.int .u32 (q.d:Nat),.int .u32 (q.e:Nat),.int .u32 (q.f:Nat),.int .u32 (q.g:Nat),.int .u32 (q.h:Nat)]:Array Value)=qg q:=rfl;rw[PE];clear PE s0 s1 s2 s3 s4 s5 s6 s7 E;go_loopw[54] (λI e=>∃k:Nat,k<=8/\I=.int .i64 k/\yH a q k e) (λI _=>8-(intOf I).toNat);case atStart=>exact⟨0,by omega,rfl,s⟩
      case round =>
       clear s;obtain⟨k,hk,rfl,s⟩:=hrel;by_cases K:k<8
       ·have ZY:=afP q k K wr;have hx:=afK ZX K;have CH:=A (s.next K);have PF:=s.room K;generalize q.at k=I at *;have k1:(k:Int)<8:=by omega
        clear s;have qN:=afR a.heap.size k K wr;go_wp2_with fail;with_reducible refine(Uj a.heap.size (4*k) 4 (32-4*k) I _ rfl _ (by omega) (by omega) (by omega) PF).mono ?_
        rintro O W7 ⟨rfl,eE⟩;have ZZ:yH a q (k+1) W7:=by rw[eE];exact CH.1
        clear eE ZY PF qN;go_wp2_with fail;go_roundw;case rel=>exact⟨k+1,by omega,by go_num,ZZ⟩
        case measure=>simp[intOf];omega
       ·have s:yH a q 8 wr:=by rwa [show k=8 by omega]at s
        have L0:decide ((k:Int)<8)=false:=bw (by omega);clear K hk;have si:=afQ s rfl;have cQ:=s.be;have T:wr.there a.heap.size 0 32:=λc Z=>by rw[iN];exact⟨by rw[s.cl c Z];rfl,s.fr c Z⟩
        have yI:(q.bytes.map cX).toArray.all (·.oneCell')=true:=all_oneCell_toArray (λm hv=>by obtain⟨I,-,rfl⟩:=ey.1 hv;rfl);have N:(q.bytes.map cX).length=32:=rfl;have tk:Hid ((mg d).map cX=q.bytes.map cX):=A (by rw[HV.1]);generalize q.bytes.map cX=g at *;obtain⟨PG,Je,HI,xd⟩:=cY si yI (Gw.trans (congrArg some N.symm)) (Gw.trans (congrArg some (show 32=g.toArray.size by simpa using N.symm)));have ve:Hid (wr.there a.heap.size 0 g.toArray.size):=A (by rw[show g.toArray.size=32 by simpa using N];exact T);have Z0:Hid (wr.there a.heap.size 0 g.length):=A (by rw[N];exact T);clear si T yI N s;go_wp2_with (first
         |(with_reducible refine wpList_load_mid rfl 243 (.tmp 2) rfl a.heap.size 0 rfl g _ PG.1 underlying243 rfl HI.1 ?_)
         |(with_reducible refine wpList_store_mid rfl 243 (.tmp 2) (.tmp 68) rfl a.heap.size 0 g.toArray rfl rfl ve.1 xd.1 Je.1 ?_))
        have CV:g.toArray.toList=g:=rfl;have ie:(wr.setCells a.heap.size 0 g.toArray.toList).rangeAt a.heap.size 0 g:=by rw[CV];exact World.rangeAt_setCells_same _ _ _ _ Z0.1
        have Jd:=run_loadVar_mid (P:=prog) _ a.heap.size 0 243 g _ ie underlying243 rfl HI.1;refine gB (v:=.agg g.toArray) ?_ rfl ⟨by rw[tk.1],PA (aP _) _ _ _ cQ⟩;exact ZN rfl rfl Jd
