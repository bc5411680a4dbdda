/- Package dealing: numbers, columns, products of lists. -/
import Derived.Test.YtaifagjclanodaaGreatDoorMDeaC
import Derived.Test.YtaifagjclanodaaGreatDoorMMul
import Derived.Deep.AppendSrc
import Derived.Lib.AppendZeros
set_option maxHeartbeats 8000000
set_option maxRecDepth 100000
namespace Go.Proofs.YtaifagjclanodaaGreatDoor
open Go.Proofs.Tryz
open Go.RowKit
variable{g:Act}{t:Array Oper}{i:Int}{u:List Oper}{s o:List Value}{j k n:Nat}{m:Oper}{e:TypeId}{v:Value}{h r b:World}{d f:V}{a:ak}{l:bF}
theorem aoM(z:Int)(b:World):Calls prog 180 #[z] b λw q=>w=.returned (.bool (cM z))/\b=q:=by
 by_cases p:z<0
 ·have c:=A (show cM z=true by simp[cM,p]);go_enter func180,ntmps180;go_wp2_with fail;go_ret;exact⟨cg c.1.symm,rfl⟩
 ·have c:=A (show cM z=decide (1073741789<=z) by unfold cM;rw[bw p,DB]);go_enter func180,ntmps180;go_wp2_with fail;go_ret;exact⟨cg c.1.symm,rfl⟩
theorem aoN(b:World)(w:V):yl 180 #[] b cM w:=
 λp _ c _=>(aoM p c).mono λ_ _ ⟨q,e⟩=>⟨q,e▸aY _ _⟩
theorem aoO:eQ prog 180:=iw func180 (by kernel_rfl) rfl
theorem Gl(v:Value)(c:V)(b:World)(p:aM b v c):Calls prog 129 #[v] b λy x=>y=.returned (.bool (!c.any cM))/\Below b b x:=by
 have q:=A (wx 180 #[] cM v c b p aoO (aoN _ _));clear p;go_enter func129,ntmps129;go_wp2_with fail;refine q.1.mono ?_;rintro e z ⟨rfl,w⟩;go_wp2_with fail;go_ret;exact⟨rfl,w⟩
def bh(a:ak):Nat:=if a.length=0 then 1 else wide a
theorem T6(y x:Value)(a:ak)(d:V)(b:World)(w:bI b y a)(G:aM b x d):
  Calls prog 45 #[.agg #[y,x]] b λe N=>e=.returned (bh a:Int)/\Below b b N:=by
 obtain⟨K,z,q,B,X⟩:=ee b y x 25;have M:=A (w.below q);obtain⟨g,L,rfl,-,W,-⟩:=id w;obtain⟨P,T,rfl,-,qF,-⟩:=id G;have R:K.cell? (b,0)=some (.slice g a.length L):=F8 B rfl;obtain⟨C,D⟩:=aR z q;clear w G B z q;by_cases c:a.length=0
 ·have p:=A (show bh a=1 by unfold bh;rw[aD c]);have O:((a.length:Int)==0)=true:=by rw[c];rfl
  clear c;go_enter func45,ntmps45;go_wp2_with fail;go_ret;exact⟨fL (by rw[p.1];rfl),C.1▸D.1⟩
 ·have p:=A (show bh a=wide a by unfold bh;rw[aA c]);have O:((a.length:Int)==0)=false:=eH.2 (by omega);obtain⟨Q,S,E,-,-,H⟩:=M.1;obtain⟨z0z,off,z2z,ha,I,F⟩:=H 0 (by omega);simp only[dr]at E;obtain⟨rfl,-,rfl⟩:=E;subst ha;rw[rF]at I;obtain⟨ra,rc,rfl,-⟩:=id F;rw[A7 a (by omega)]at I;have Z:(0:Int)<(a.length:Int):=by omega
  clear H F c;generalize wide a=z1z at *;go_enter func45,ntmps45;go_wp2_with (rw[<-C.1]);go_ret;exact⟨fL (by rw[p.1]),D.1⟩
theorem aoP(c:Nat)(n:Int)(w:Nat)(y:Value)(p:V)(b:World)(K:b.cell? (w,0)=some y)(q:aM b y p)(z:c<p.length)(hn:aN n):
  Calls prog 186 #[c,n,(w,0)] b λe C=>e=.returned (n*J p c%1073741789:Int)/\b=C:=by
 obtain⟨B,F,P,O,G,rfl,I⟩:=q.get z;obtain⟨E,H,x,-,L,-⟩:=id q;simp only[dr]at x;obtain⟨-,rfl,rfl⟩:=x;have M:0<=(c:Int):=by omega
 have N:(c:Int)<(p.length:Int):=by omega
 clear q;generalize J p c=D at *;go_enter func186,ntmps186;go_wp2_with fail;with_reducible refine(A9 n D _ hn B).mono ?_
 rintro e Q ⟨rfl,rfl⟩;go_wp2_with fail;go_ret;exact⟨rfl,rfl⟩
theorem aoQ:eQ prog 186:=iw func186 (by kernel_rfl) rfl
theorem aoR(v y:Value)(g c:V)(q:Nat)(b:World)(w:aM b v g)(D:aM b y c)(hl:g.length<=c.length)(E:b.cell? (q,0)=some y):
  Calls prog 185 #[v,.func (.func 186) #[] #[(q,0)]] b λe R=>e=.returned (cz g c:Int)/\Below b b R:=by
 have G:=A (λk (F:k<g.length)=>w.get F);obtain⟨Z,ca,rfl,jC,hlen,-⟩:=id w;have K:=A (λk (F:k<g.length) (n:Int) (hn:aN n) h (p:Below b b h)=>aoP k n q y c h (U p E) (D.below p) (by omega) hn);have X:∀(args:Array Value) (b:World),(callFunc 186 args).run prog b=.ok (.enter 186 args) b:=aoQ;clear w D E;go_enter func185,ntmps185;go_wp2_with fail;go_loopw[4,9] (λW x h=>∃k:Nat,k<=g.length/\x=k/\W=(lR g c k:Int)/\Below b b h) (λ_ x _=>g.length-(intOf x).toNat);case atStart=>exact⟨0,bS _,rfl,rfl,aY _ _⟩
 case round =>
  obtain⟨k,dg,rfl,rfl,p⟩:=hrel;have H:=A (TI g c k);by_cases z:k<g.length
  ·obtain⟨P,b0,off,nn,z0,C,B⟩:=G.1 k z;simp only[dr]at C;obtain⟨rfl,-,-⟩:=C;have y1:=U p B;obtain⟨Q,I⟩:=aR (K.1 k z (J g k) P wr p) (show lR g c (k+1)=(lR g c k+J g k*J c k%1073741789)%1073741789 from rfl);have N:aN (lR g c k):=dK H.1;have M:=Tc (J g k*J c k);generalize J g k*J c k%1073741789=T at *;generalize J g k=z1 at *;clear B;go_wp2_with fail;refine Q.1.mono ?_;rintro e S ⟨rfl,rfl⟩;go_wp2_with fail;with_reducible refine(yr _ T _ N M).mono ?_
   rintro e S ⟨rfl,O⟩;go_wp2_with fail;go_roundw;case rel=>exact⟨k+1,by omega,by go_num,by rw[I.1],ar p O⟩
   case measure=>simp[intOf];omega
  ·have L:=A (show lR g c k=cz g c by unfold cz;rw[show k=g.length by omega]);go_wp2_with fail;go_ret;exact⟨fL L.1,p⟩
theorem aoS(v c:Value)(g p:V)(b:World)(w:aM b v g)(x:aM b c p)(B:g.length<=p.length):
  Calls prog 143 #[v,c] b λe C=>e=.returned (cz g p:Int)/\Below b b C:=by
 have q:=A ((aY b.heap.size b).alloc (aP _) (.cells #[c] 23));have y:=A (aoR v c g p b.heap.size _ (w.below q.1) (x.below q.1) B (F8 (World.alloc_heap_new b (.cells #[c] 23)) rfl));obtain⟨D,F,rfl,-⟩:=id w;obtain⟨E,G,rfl,-⟩:=id x;clear w x;go_enter func143,ntmps143;go_wp2_with fail;refine y.1.mono ?_;rintro e H ⟨rfl,z⟩;go_wp2_with fail;go_ret;exact⟨rfl,ar q.1 z⟩
def gU(p:Int×Int):List Value:=[.int .i64 p.1,.int .i64 p.2]
def fK(b:World)(v:Value)(l:bF):Prop:=
 ∃g q,v=.slice g l.length q/\l.length<=q/\l.length<=17592186044416/\(∀w∈l,aN w.1/\aN w.2) /\
  ∀k (x:k<l.length),∃p c,g=some ⟨p,c,none⟩/\b.cell? ⟨p,c+k*2,none⟩=some (.int .i64 l[k].1)/\b.cell? ⟨p,c+k*2+1,none⟩=some (.int .i64 l[k].2)
theorem fK.below{w':World}(F:fK b v l)(c:Below b b w'):fK w' v l:=by
 obtain⟨g,q,rfl,y,B,C,z⟩:=F;refine⟨g,q,rfl,y,B,C,λk p=>?_⟩;obtain⟨E,D,ha,w,x⟩:=z k p;exact⟨E,D,ha,U c w,U c x⟩
theorem fK.nil(b:World)(g:Option Addr)(c:Nat):fK b (.slice g 0 c) []:=
 ⟨g,c,rfl,bS _,by simp,by simp,λk p=>absurd p (fG _)⟩
theorem afr:∀(l:bF) (k c:Nat) (p:k<l.length),c<2->(l.flatMap gU)[k*2+c]?=(gU l[k])[c]?
 |[],k,_,p,_=>absurd p (fG k)
 |w::l,0,c,_,q=>by
  rw[lP,Ib,iN,uN (by show c<2;exact q)];rfl
 |w::l,k+1,c,p,q=>by
  rw[lP,rD (by show 2<=_;omega)];have e:(k+1)*2+c-(gU w).length=k*2+c:=by show(k+1)*2+c-2=_;omega
  rw[e,afr l k c (by simpa using p) q];rfl
theorem aoT(l:bF):(l.flatMap gU).length=l.length*2:=by
 induction l with
 |nil=>rfl
 |cons p l c=>rw[lP,fu,c,dZ];show 2+_=_;omega
theorem afs(l:bF)(z:Int×Int):(l++[z]).flatMap gU=l.flatMap gU++gU z:=by rw[AY];simp
theorem fK.own(w:b.ownsRow j 66 2 v n (l.flatMap gU))(B:∀p∈l,aN p.1/\aN p.2)(K:l.length<=1000000):fK b v l:=by
 obtain⟨hn,w⟩:=w;rw[aoT]at hn;obtain rfl:n=l.length:=by omega
 rcases w with⟨rfl,E⟩|⟨C,D,x,rfl,-,z,G,-,I,H⟩
 ·exact⟨none,0,by rw[E],by omega,by omega,B,λk q=>absurd q (by omega)⟩
 ·refine⟨some (C,0),D,rfl,G,by omega,B,λk q=>⟨C,0,rfl,?_⟩⟩;have e:∀c,c<2->x[k*2+c]?=(gU l[k])[c]?:=λc F=>by
   have y:(x.toList.take (l.length*2))[k*2+c]?=(gU l[k])[c]?:=by rw[H,afr l k c q F]
   rw[we,aD (by omega)]at y;rw[<-sR];exact y
  rw[iN];exact⟨Y z (e 0 (by omega)),Y z (e 1 (by omega))⟩
theorem aft:(prog.info? 66).map (λc=>(c.zero.map (·.cells.size),c.size,c.bytes))=some (some 2,2,16):=by kernel_rfl
theorem T7{F:Exit->Act->World->Prop}(L:m.guard=none)(E D:Operand)(R:m.op=.call {callee:=.builtin .append,args:=#[E,D],argTypes:=#[38,38]})
  (j:Nat) (v:Value) (l:bF) (n:Nat) (S:g.eval E=v) (K:h.ownsRow j 66 2 v n (l.flatMap gU)) (B y G:Nat) (z:Int×Int) (T:g.eval D=.slice (B,y) 1 G) (N:h.cell? (B,y)=z.1) (C:h.cell? (B,y+1)=z.2) (hn:n<=1000000) (M:j<=h.heap.size)
  (z2z:∀p q w,w.ownsRow j 66 2 (.slice (some ⟨p,0,none⟩) (n+1) q) (n+1) ((l++[z]).flatMap gU)->fI h v w (.slice (some ⟨p,0,none⟩) (n+1) q)->wpList prog t F u (g.put m.dst (.slice (some ⟨p,0,none⟩) (n+1) q)) w):wpList prog t F (m::u) g h:=by
 obtain⟨z3z,Q,H⟩:=kA.1 aft;simp only[pN]at H;obtain⟨W,I,P⟩:=H;obtain⟨zv,X,Z⟩:=kA.1 W;refine wpList_append_lies _ L E D 38 R j 66 z3z zv 2 16 underlying38 Q X I P Z (by decide) v n (l.flatMap gU) S K (B,y) 1 G (gU z) T rfl ?_ ?_ (by decide) ?_ ?_ M h.heap.size rfl ?_
 ·intro z4z z6z c;rw[zS]
  match z4z with
  |0=>simp[gU]at c;rw[<-c];exact N
  |1=>simp[gU]at c;rw[<-c];exact C
  |n+2=>simp[gU]at c
 ·intro z6z c;simp only[gU,iu,oG,oH]at c;rcases c with rfl|rfl<;>rfl
 ·unfold maxLen;omega
 ·omega
 ·intro p q w C O x _;refine z2z p q w (by rw[afs];exact C) ⟨O,?_⟩;rcases x with x|x
  ·exact .inl (x▸rfl)
  ·exact .inr ⟨p,rfl,by omega⟩
theorem afu{G:Exit->Act->World->Prop}(H:m.guard=none)(B z:Operand)(L:m.op=.call {callee:=.builtin .append,args:=#[B,z],argTypes:=#[23,23]})
  (j E n x:Nat) (o:List Value) (M:g.eval B=.slice (E,0) n x) (D:h.ownsRow j 3 1 (.slice (E,0) n x) n o) (R:Value) (c:V) (N:g.eval z=R) (hI:aM h R c) (hn:n+c.length<=17592186044416) (jC:n<=x) (I:j<=h.heap.size)
  (Q:∀y q,q.ownsRow j 3 1 y (n+c.length) (o++c.map (Value.int .i64))->Below j h q->wpList prog t G u (g.put m.dst y) q):wpList prog t G (m::u) g h:=by
 obtain⟨C,w,rfl,hc,hl,hr,K⟩:=hI;cases C with
 |none =>
  have X:c=[]:=by
   cases c with
   |nil=>rfl
   |cons z0 l=>obtain⟨z0z,off,e,-⟩:=K 0 (by simp);cases e
  subst X;obtain⟨O,jD,jq,dP,dQ⟩:=xY F2;have S:Src prog O.size 23 (.slice none 0 w) 0 [] h:=Src.ofNil h underlying23 w;have T:=run_append_room_src (P:=prog) h 23 23 m.type 3 O underlying23 jD E 0 n x (.slice none 0 w) 0 [] S (by omega) (λF p=>absurd p (fG _)) (λF p=>absurd p (fG _));refine am1 H B z 23 L _ _ _ M N T ?_;refine Q _ _ ?_ ?_
  ·simpa [World.setCells] using D
  ·simpa [World.setCells] using aY j h
 |some C =>
  refine adD H B z L j n _ o M D C w c N ?_ hn I ?_
  ·intro F p;obtain⟨z0z,off,e,W⟩:=K F p;injection e with e;subst e;rw[zS];exact W
  ·intro y q Z h2;exact Q y q Z (fH D h2 I)
theorem aM.own{zs:V}(p:b.ownsRow j 3 1 v n (zs.map (Value.int .i64)))(x:∀z∈zs,aN z)(w:zs.length<=17592186044416):aM b v zs:=by
 obtain⟨hn,p⟩:=p;rw[dy,KR]at hn;rcases p with⟨rfl,rfl⟩|⟨y,B,q,rfl,-,D,E,-,G,F⟩
 ·exact⟨none,0,by rw[hn],by omega,w,x,λk c=>absurd c (by omega)⟩
 ·subst hn;refine⟨some (y,0),B,rfl,E,w,x,λk c=>⟨y,0,rfl,?_⟩⟩;rw[iN];have e:q.toList[k]?=some (Value.int .i64 zs[k]):=by
   have C:(q.toList.take (zs.length*1))[k]?=some (Value.int .i64 zs[k]):=by rw[F,tY,fw c];rfl
   rwa [we,aD (by omega)]at C
  exact Y D (by rw[<-sR];exact e)
theorem aoU(n:Nat)(q:0<n)(hn:n<=35184372088832)(b:World):∃p c,(Builtin.append_ #[23,3] 23 #[(),n]).run prog b=.ok (.slice (b,0) n p) c/\n<=p /\
  c.ownsRow b.heap.size 3 1 (.slice (b,0) 0 p) 0 []/\Below b b c/\b.heap.size<c.heap.size:=by
 obtain⟨D,y,z,E,w⟩:=xY F2;have C:=Lib.run_append_nil_zeros (P:=prog) b 23 3 23 3 D (0:Int) .i64 .i64 underlying23 underlying3 y z n q (by omega) (by omega) (by rw[w];omega);have x:=grownCap_ge b n 0 3;have B:=grownCap_le_maxLen b n 0 3 (by unfold maxLen;omega);refine⟨_,_,C,x,⟨rfl,.inr ⟨_,_,_,rfl,aP _,World.alloc_heap_new b.drew _,bS _,B,?_,by simp⟩⟩,((aY _ _).drew).alloc (aP _) _,by simp⟩;rw[Array.size_append,SQ,SQ];show n*1+(grownCap b n 0 3 - n)*1=_;omega
def afv(n:Nat)(b:World)(e:Ending)(p:World):Prop:=∃c,e=.returned (.slice (some ⟨b.heap.size,0,none⟩) 0 c)/\n<=c/\p.ownsRow b.heap.size 3 1 (.slice (some ⟨b.heap.size,0,none⟩) 0 c) 0 []/\Below b.heap.size b p/\b.heap.size<p.heap.size
theorem aoV(n:Nat)(w:Int)(D:(n:Int)=w)(z:0<n)(hn:n<=35184372088832)(b:World):
  Calls prog 184 #[(),w] b (afv n b):=by
 subst D;obtain⟨c,F,q,C,p,B,E⟩:=aoU n z hn b;have G:¬ ((n:Int)<0):=by omega
 have x:Hid (afv n b (.returned (.slice (b,0) 0 c)) F):=A ⟨c,rfl,C,p,B,E⟩;have y:=A q;clear q p;go_enter func184,ntmps184;go_wp2_with (at_builtin;refine Lib.wpList_append_run _ rfl _ _ _ _ rfl _ _ rfl rfl _ _ y.1 ?_);go_ret;exact x.1
theorem aoW{x:Value}(q:h.ownsRow j e 1 v n (x::o)):∃p c,v=.slice (some ⟨p,0,none⟩) n c/\n<=c:=by
 rcases q.2 with⟨-,w⟩|⟨p,c,y,rfl,-,-,hn,-⟩
 ·have:=q.1;rw[w]at this;simp at this
 ·exact⟨p,c,rfl,hn⟩
theorem aoX(M:Nat)(S T:Value)(x:Int)(l:V)(b:World)(E:aM b S [x])(F:aM b T l)(hl:l.length<=1000000)(O:b.cell? (M,0)=some S)(P:b.cell? (M,1)=some T):
  Calls prog 142 #[.slice (M,0) 2 2] b λe W=>∃R,e=.returned R/\aM W R (x::l)/\Below b b W:=by
 obtain⟨a1,k1,e1,-⟩:=id E;obtain⟨a2,k2,e2,-⟩:=id F;subst e1;subst e2;obtain⟨H1,H2⟩:=aR E F;have HX:Hid (∀G∈x::l,aN G):=A (by
  obtain⟨_,_,_,_,_,r1,_⟩:=E;obtain⟨_,_,_,_,_,r2,_⟩:=F;intro G w;rcases iu.1 w with rfl|w
  ·exact r1 G (by simp)
  ·exact r2 G w)
 clear E F;go_enter func142,ntmps142;go_wp2_with fail;go_loop [3,11] (λN c=>(c=(0:Int)/\N=(0:Int))\/(c=(1:Int)/\N=(1:Int))\/(c=(2:Int)/\N=.int .i64 (1+l.length:Nat))) (λ_ c=>2-(intOf c).toNat);case atStart=>exact .inl ⟨rfl,rfl⟩
 case round =>
  rcases hrel with⟨rfl,rfl⟩|⟨rfl,rfl⟩|⟨rfl,rfl⟩
  ·go_wp2_with fail;go_round;case rel=>exact .inr (.inl ⟨rfl,by go_num⟩)
   case measure=>simp[intOf]
  ·go_wp2_with fail;go_round;case rel=>exact .inr (.inr ⟨rfl,by go_num⟩)
   case measure=>simp[intOf]
  ·go_wp2_with fail;with_reducible refine(aoV (1+l.length) (1+(l.length:Int)) (by omega) (by omega) (by omega) _).mono ?_
   rintro e w1 ⟨L,rfl,lT,Q,p,w⟩;obtain⟨HO,X,Z⟩:=bJ Q O P;clear Q O P;go_wp2_with fail;go_loopw[6,27] (λv c h=>Below b b h/\b.heap.size<h.heap.size/\((c=(0:Int)/\v=.slice (b,0) 0 L/\h.ownsRow b.heap.size 3 1 (.slice (b,0) 0 L) 0 [])\/(c=(1:Int)/\∃H C,v=.slice (some ⟨H,0,none⟩) 1 C/\1<=C/\h.ownsRow b.heap.size 3 1 (.slice (some ⟨H,0,none⟩) 1 C) 1 [x])\/(c=(2:Int)/\h.ownsRow b.heap.size 3 1 v (1+l.length) ((x::l).map (Value.int .i64))))) (λ_ c _=>2-(intOf c).toNat);case atStart=>exact⟨p,w,.inl ⟨rfl,rfl,HO.1⟩⟩
   case round =>
    clear p w;obtain⟨p,w,q⟩:=hrel;rcases q with⟨rfl,rfl,q⟩|⟨rfl,H,C,rfl,jC,q⟩|⟨rfl,q⟩
    ·have z0:=U p X.1;obtain⟨I,K⟩:=aR (H1.1.below p) q;clear q;go_wp2_with (refine afu rfl _ _ rfl b.heap.size b.heap.size 0 L [] rfl K.1 _ [x] rfl I.1 (by simp) (bS _) (by omega) ?_;intro v8 w8 y B;have D:=A y;have z:=A B;clear y B);obtain⟨g8,uq,rfl,CI⟩:=aoW (x:=x) (o:=[]) D.1;go_roundw;case rel=>exact⟨p.trans z.1,eJ w z.1.size,.inr (.inl ⟨rfl,_,_,rfl,CI,D.1⟩)⟩
     case measure=>simp[intOf]
    ·have z0:=U p Z.1;obtain⟨I,K⟩:=aR (H2.1.below p) q;clear q;go_wp2_with (refine afu rfl _ _ rfl b.heap.size H 1 C _ rfl K.1 _ l rfl I.1 (by omega) jC (by omega) ?_;intro v8 w8 y B;have D:=A y;have z:=A B;clear y B);go_roundw;case rel=>exact⟨p.trans z.1,eJ w z.1.size,.inr (.inr ⟨rfl,D.1⟩)⟩
     case measure=>simp[intOf]
    ·have HP:=A (aM.own (zs:=x::l) q HX.1 (by simp;omega));clear q;go_wp2_with fail;go_ret;exact⟨_,rfl,HP.1,p⟩
structure lU(a:ak)(d:V):Prop where
 few:a.length<=64
 len:a.length=d.length
 right:uY a (wide a)
 pos:a≠[]->1<=wide a
 own:∀m∈d,0<=m/\m<=63
theorem T8{x:Nat}{c:V}{m:Int}(q:nt x c m=false):c.length≠0/\c.length=x/\(0<=m/\m<=63)/\∀z∈c,0<=z/\z<1073741789:=by
 unfold nt at q;simp only[Bool.or_eq_false_iff,Xu,Bool.not_eq_false']at q;obtain⟨y,B,C,w⟩:=q;refine⟨y,by simpa using B,jo.1 C,λz p=>Lv ?_⟩;cases e:cM z with
 |false=>rfl
 |true=>rw[aoY p e]at w;cases w
where aoY {l:V} {z:Int} (p:z∈l) (e:cM z=true):l.any cM=true:=oI.2 ⟨z,p,e⟩
theorem fs(q:bH a d=0):lU a d:=by
 unfold bH at q;split at q
 ·cases q
 ·rename_i z;split at q
  ·cases q
  ·rename_i K;split at q
   ·cases q
   ·rename_i D;have B:a.length=d.length:=by omega
    have y:a.length<=64:=by
     by_cases E:64<a.length
     ·exact absurd (.inl E) z
     ·omega
    have p:∀k (p:k<a.length),nt (wide a) a[k] (d[k]'(by omega))=false:=λk p=>by
     cases e:nt (wide a) a[k] (d[k]'(by omega)) with
     |false=>rfl
     |true =>
      have I:k<(a.zip d).length:=by simp;omega
      exact absurd (oI.2 ⟨(a.zip d)[k],bM I,by rw[Yx B p];exact e⟩) D
    have H:∀c∈a,c.length<=64:=λc x=>by
     by_cases F:64<c.length
     ·exact absurd (.inr (oI.2 ⟨c,x,by simpa [uZ] using F⟩)) z
     ·omega
    refine⟨y,B,⟨y,?_,?_,?_⟩,?_,?_⟩
    ·cases a with
     |nil=>exact .inr rfl
     |cons c l=>exact .inl (H c (by simp))
    ·intro c x;obtain⟨k,w,rfl⟩:=FJ.1 x;exact(T8 (p k w)).2.1
    ·intro c x;obtain⟨k,w,rfl⟩:=FJ.1 x;exact(T8 (p k w)).2.2.2
    ·intro C;have w:0<a.length:=SR.2 C;have:=T8 (p 0 w);omega
    ·intro m G;obtain⟨k,w,rfl⟩:=FJ.1 G;exact(T8 (p k (by omega))).2.2.1
theorem lU.cols(p:lU a d):1<=bh a:=by
 unfold bh;split
 ·omega
 ·rename_i c;exact p.pos (λe=>c (by rw[e];rfl))
theorem lU.row(p:lU a d)(c:k<a.length):a[k].length=bh a:=by
 unfold bh;rw[aA (by omega)];exact p.right.len _ (bM c)
open FP
theorem lU.cols_le(q:lU a d):bh a<=64:=by
 unfold bh;split
 ·omega
 ·rename_i p;rcases q.right.narrow with c|c
  ·exact c
  ·exact absurd (by rw[c];rfl) p
def mo(a:ak)(d:V)(p:Int)(c:V):Int:=
 if bH a d≠0 then bH a d else if cM p=true\/c.any cM=true\/c.length+1≠bh a then 1 else 0
def lV(a:ak)(p:V)(c:Nat):Int×Int:=((c:Int),cz (a.getD c []) p)
def bV(a:ak)(c:V):bF:=(List.range a.length).map (lV a c)
def bt(c:V):V:=c.map (bm 4)
theorem n6(g c:V):0<=cz g c/\cz g c<1073741789:=TI g c _
theorem aoZ(a:ak)(p:V){c:Nat}(q:c<1000000):aN (lV a p c).1/\aN (lV a p c).2:=
 ⟨aN.mk (by show(-4611686018427387904:Int)<=(c:Int);omega) (by show(c:Int)<=4611686018427387904;omega),dK (n6 _ _)⟩
structure dU(a:ak)(d:V)(p:Int)(c:V):Prop where
 prog:lU a d
 hx:0<=p/\p<1073741789
 hr:∀z∈c,0<=z/\z<1073741789
 len:c.length+1=bh a
theorem Zs{l:V}(c:l.any cM=false):∀z∈l,0<=z/\z<1073741789:=λz p=>Lv (by
 cases e:cM z with
 |false=>rfl
 |true=>rw[oI.2 ⟨z,p,e⟩]at c;cases c)
theorem IX{z:Int}(c:0<=z/\z<1073741789):cM z=false:=by simp[cM];omega
theorem Pq{l:V}(q:∀z∈l,0<=z/\z<1073741789):l.any cM=false:=by
 cases e:l.any cM with
 |false=>rfl
 |true=>obtain⟨z,p,c⟩:=oI.1 e;rw[IX (q z p)]at c;cases c
theorem Zt{w:Int}{p:V}(c:mo a d w p=0):dU a d w p:=by
 unfold mo at c;by_cases q:bH a d=0
 ·rw[aA (by simp[q])]at c;split at c
  ·cases c
  ·rename_i x;have z:cM w=false:=by
    cases e:cM w with
    |false=>rfl
    |true=>exact absurd (.inl e) x
   have y:p.any cM=false:=by
    cases e:p.any cM with
    |false=>rfl
    |true=>exact absurd (.inr (.inl e)) x
   exact⟨fs q,Lv z,Zs y,by
    by_cases e:p.length+1=bh a
    ·exact e
    ·exact absurd (.inr (.inr e)) x⟩
 ·rw[aD q]at c;exact absurd c q
theorem LK(b:World)(c:Int)(y:TypeId)(p:Nat)(q:b.heap.size=p)(x:aN c):aM (b.alloc (.cells #[c] y)) (.slice (p,0) 1 1) [c]:=by
 subst q;refine⟨_,1,rfl,by simp,by simp,by simpa using x,λk w=>⟨_,_,rfl,?_⟩⟩;obtain rfl:k=0:=by simp at w;omega
 exact Y (World.alloc_heap_new b _) rfl
theorem Pr(c:Int):[c].any cM=cM c:=by simp
theorem afw(Q P mv:Value)(a:ak)(d:V)(p:Int)(w:V)(b:World)(hR:bI b Q a)(hO:aM b P d)(Z:aM b mv w)(hx:aN p)(B:mo a d p w≠0):
  Calls prog 74 #[.agg #[Q,P],p,mv] b λq w'=>q=.returned (.tuple #[(),(),(mo a d p w:Int)])/\Below b b w':=by
 obtain⟨W,aE,H,X,hz⟩:=ee b Q P 25;have gF:=A (hR.below H);have jr:=A (hO.below H);have IY:=A (Z.below H);have I:=A (sW Q P a d W gF.1 jr.1);obtain⟨g,cap,rfl,-,hlen,-⟩:=id hR;obtain⟨a2,dj,rfl,-,qF,-⟩:=id hO;obtain⟨a3,fP,rfl,-,En,-⟩:=id Z;have c0:W.cell? (b,0)=some (.slice g a.length cap):=Y X rfl;have c1:W.cell? (b,1)=some (.slice a2 d.length dj):=Y X rfl;have M:=A aE;have N:=A H;clear hR hO Z X aE H;by_cases C:bH a d=0
 ·have F:Hid (mo a d p w=1):=A (by
   unfold mo at B ⊢;rw[aA (by simp[C])]at B ⊢;split at B
   ·rename_i h2;rw[aD h2]
   ·exact absurd rfl B)
  have eT:=A (fs C);rw[C]at I;have HE0:=A B;have vh:=A C;clear B C;have lT:=eT.1.cols;have IN:=eT.1.cols_le;cases ex:cM p with
  |true =>
   have G:=A ex;clear ex;go_enter func74,ntmps74;go_wp2_with fail;rw[<-M.1];refine I.1.mono ?_;rintro q E ⟨rfl,c⟩;have z:=A (ar N.1 c);clear c;go_wp2_with fail;refine(Gl _ [p] _ (LK E p 3 _ rfl hx)).mono ?_;rintro q w3 ⟨rfl,y⟩;rw[Pr,G.1];have L:=(z.1.alloc z.1.size (.cells #[p] 3));go_wp2_with fail;go_ret3;exact⟨by rw[F.1];rfl,ar L y⟩
  |false =>
   have G:=A ex;clear ex;cases O:w.any cM with
   |true =>
    have K:=A O;clear O;go_enter func74,ntmps74;go_wp2_with fail;rw[<-M.1];refine I.1.mono ?_;rintro q E ⟨rfl,c⟩;have z:=A (ar N.1 c);have S:=A (IY.1.below c);clear c;go_wp2_with fail;refine(Gl _ [p] _ (LK E p 3 _ rfl hx)).mono ?_;rintro q w3 ⟨rfl,y⟩;rw[Pr,G.1];have T:=A ((S.1.below (bk _ _ _)).below y);have L:=(z.1.alloc z.1.size (.cells #[p] 3));have qQ:=A (ar L y);clear y L;go_wp2_with fail;refine(Gl _ w _ T.1).mono ?_;rintro q w4 ⟨rfl,x⟩;rw[K.1];go_wp2_with fail;go_ret3;exact⟨by rw[F.1];rfl,ar qQ.1 x⟩
   |false =>
    have K:=A O;have HL:Hid (((w.length:Int)!=((bh a:Nat):Int)-1)=true):=A (jg.2 (by
     intro e;apply HE0.1;unfold mo;rw[aA (by simp[vh.1]),aA];rw[G.1,K.1];rintro(R|R|R)
     ·cases R
     ·cases R
     ·omega))
    have Ae:=HL.1;clear O;go_enter func74,ntmps74;go_wp2_with fail;rw[<-M.1];refine I.1.mono ?_;rintro q E ⟨rfl,c⟩;have z:=A (ar N.1 c);have S:=A (IY.1.below c);have dz:=A (gF.1.below c);have dH:=A (jr.1.below c);have d0:=U c c0;have d1:=U c c1;clear c;go_wp2_with fail;refine(Gl _ [p] _ (LK E p 3 _ rfl hx)).mono ?_;rintro q w3 ⟨rfl,y⟩;rw[Pr,G.1];have D:=(bk E #[p] 3).trans (y.mono (by simp));have T:=A (S.1.below D);have vj:=A (dz.1.below D);have Eo:=A (dH.1.below D);have f0:=U D d0;have f1:=U D d1;have qQ:=A (ar z.1 D);clear y D d0 d1;go_wp2_with fail;refine(Gl _ w _ T.1).mono ?_;rintro q w4 ⟨rfl,x⟩;rw[K.1];have g0:=U x f0;have g1:=U x f1;have ur:=A (vj.1.below x);have wR:=A (Eo.1.below x);have kF:=A (ar qQ.1 x);clear x f0 f1;go_wp2_with fail;refine(T6 _ _ a d _ ur.1 wR.1).mono ?_;rintro q w6 ⟨rfl,aF⟩;go_wp2_with fail;go_ret3;exact⟨by rw[F.1];rfl,ar kF.1 aF⟩
 ·have F:Hid (mo a d p w=bH a d):=A (by unfold mo;rw[aD C]);have h2:(bH a d !=0)=true:=jg.2 C;clear B;go_enter func74,ntmps74;go_wp2_with fail;rw[<-M.1];refine I.1.mono ?_;rintro q E ⟨rfl,c⟩;go_wp2_with fail;go_ret3;exact⟨by rw[F.1];rfl,ar N.1 c⟩
theorem dp{α:Type}{l:List α}(p:k<l.length)(c:α):l.getD k c=l[k]:=by
 rw[kR,fw p];rfl
theorem Af{β:Type}(c:Nat->β)(k:Nat):(List.range (k+1)).map c=(List.range k).map c++[c k]:=by
 rw[sP,gJ];rfl
def j8(c:Int):Bool:=!eA c
theorem ao0(z:Int)(b:World)(p:aN z):Calls prog 138 #[z] b λc q=>c=.returned (.bool (j8 z))/\b=q:=by
 go_enter func138,ntmps138;go_wp2_with fail;with_reducible refine(tf z _ p).mono ?_
 rintro c w ⟨rfl,rfl⟩;go_wp2_with fail;go_ret;exact⟨rfl,rfl⟩
theorem ao1(b:World)(c:V)(p:∀z∈c,aN z):yl 138 #[] b j8 c:=
 λz q w _=>(ao0 z w (p z q)).mono λ_ _ ⟨x,e⟩=>⟨x,e▸aY _ _⟩
theorem ao2:eQ prog 138:=iw func138 (by kernel_rfl) rfl
def jQ(a:ak)(d f:V):Int:=
 if bH a d≠0 then bH a d else if f.length≠bh a\/f.any j8=true then 340 else 0
structure LM(a:ak)(d f:V):Prop where
 prog:lU a d
 prog0:bH a d=0
 len:f.length=bh a
 el:∀c∈f,El c
theorem afx{l:V}(c:l.any j8=false):∀z∈l,El z:=λz p=>by
 refine oU.1 ?_;cases e:eA z with
 |true=>rfl
 |false=>rw[oI.2 ⟨z,p,by unfold j8;rw[e];rfl⟩]at c;cases c
theorem afy(c:jQ a d f=0):LM a d f:=by
 unfold jQ at c;by_cases p:bH a d=0
 ·rw[aA (by simp[p])]at c;split at c
  ·cases c
  ·rename_i q;refine⟨fs p,p,?_,afx ?_⟩
   ·by_cases e:f.length=bh a
    ·exact e
    ·exact absurd (.inl e) q
   ·cases e:f.any j8 with
    |false=>rfl
    |true=>exact absurd (.inr e) q
 ·rw[aD p]at c;exact absurd c p
theorem LN(p:LM a d f):jQ a d f=0:=by
 unfold jQ;rw[aA (by simp[p.prog0]),aA];rintro(e|e)
 ·exact e p.len
 ·obtain⟨w,q,c⟩:=oI.1 e;unfold j8 at c;rw[oU.2 (p.el w q)]at c;cases c
theorem afz(E D cv:Value)(a:ak)(d f:V)(b:World)(O:bI b E a)(N:aM b D d)(M:aM b cv f):
  Calls prog 63 #[.agg #[E,D],cv] b λw w'=>w=.returned (jQ a d f:Int)/\Below b b w':=by
 obtain⟨F,Q,y,G,hz⟩:=ee b E D 25;obtain⟨T,X,Ag⟩:=bJ (O.below y) (N.below y) (M.below y);have K:=A (sW E D a d F T.1 X.1);obtain⟨g,cap,rfl,-,hlen,-⟩:=id O;obtain⟨a2,dj,rfl,-,qF,-⟩:=id N;obtain⟨a3,fP,rfl,-,En,W,-⟩:=id M;have c0:F.cell? (b,0)=some (.slice g a.length cap):=Y G rfl;have c1:F.cell? (b,1)=some (.slice a2 d.length dj):=Y G rfl;obtain⟨R,S,wT⟩:=bJ Q y W;clear O N M G Q y W;by_cases z:bH a d=0
 ·have x:Hid (jQ a d f=if f.length≠bh a\/f.any j8=true then 340 else 0):=A (by unfold jQ;rw[aA (by simp[z])]);rw[z]at K;clear z;go_enter func63,ntmps63;go_wp2_with fail;rw[<-R.1];refine K.1.mono ?_;rintro w w2 ⟨rfl,c⟩;obtain⟨ev,mP,dz,dH⟩:=cY (ar S.1 c) (Ag.1.below c) (T.1.below c) (X.1.below c);have d0:=U c c0;have d1:=U c c1;clear c;go_wp2_with fail;refine(T6 _ _ a d _ dz.1 dH.1).mono ?_;rintro w w3 ⟨rfl,H⟩;obtain⟨L,Ps⟩:=aR (ar ev.1 H) (mP.1.below H);clear H d0 d1;by_cases q:f.length=bh a
  ·have Z:((f.length:Int)!=((bh a:Nat):Int))=false:=by rw[q];exact FF _
   have C:=A (wx 138 #[] j8 _ f _ Ps.1 ao2 (ao1 _ _ wT.1));cases p:f.any j8 with
   |true =>
    have B:Hid (jQ a d f=340):=A (by rw[x.1,aD (.inr p)]);rw[p]at C;clear p q;go_wp2_with fail;refine C.1.mono ?_;rintro w w4 ⟨rfl,I⟩;go_wp2_with fail;go_ret;exact⟨fL B.1.symm,ar L.1 I⟩
   |false =>
    have B:Hid (jQ a d f=0):=A (by rw[x.1,aA];rw[p];rintro(P|P);exact P q;cases P);rw[p]at C;clear p q;go_wp2_with fail;refine C.1.mono ?_;rintro w w4 ⟨rfl,I⟩;go_wp2_with fail;go_ret;exact⟨fL B.1.symm,ar L.1 I⟩
  ·have Z:((f.length:Int)!=((bh a:Nat):Int))=true:=jg.2 (by omega);have B:Hid (jQ a d f=340):=A (by rw[x.1,aD (.inl q)]);clear q;go_wp2_with fail;go_ret;exact⟨fL B.1.symm,L.1⟩
 ·have x:Hid (jQ a d f=bH a d):=A (by unfold jQ;rw[aD z]);have h2:(bH a d !=0)=true:=jg.2 z;go_enter func63,ntmps63;go_wp2_with fail;rw[<-R.1];refine K.1.mono ?_;rintro w w2 ⟨rfl,c⟩;go_wp2_with fail;go_ret;exact⟨fL x.1.symm,ar S.1 c⟩
def Bn(p f:V):Nat->Int
 |0=>1
 |c+1=>Bn p f c*bm (J f c) (J p c)%2147483579
def CK(c f:V):Int:=Bn c f f.length
theorem afA{w:V}(p:∀q∈f,El q):∀c,c<=f.length->El (Bn w f c)
 |0,_=>LG
 |c+1,x=>Eh (afA p c (by omega)) (fJ (p _ (by rw[di (by omega)];exact bM _)) _)
def iQ(a:ak)(d f:V)(c:Int):Int:=
 if jQ a d f≠0 then jQ a d f else if c<0\/(a.length:Int)<=c then 1 else 0
def pZ(a:ak)(d f:V)(c:Int):Int:=if iQ a d f c=0 then CK (a.getD c.toNat []) f else 0
theorem T9(N M cv:Value)(a:ak)(d f:V)(p:Int)(b:World)(S:bI b N a)(R:aM b M d)(Q:aM b cv f)(hr:aN p):
  Calls prog 64 #[.agg #[N,M],cv,p] b λe w'=>e=.returned (.tuple #[(pZ a d f p:Int),(iQ a d f p:Int)])/\Below b b w':=by
 obtain⟨W1,aE,C,aI,hz⟩:=ee b N M 25;obtain⟨gF,jr,Ag⟩:=bJ (S.below C) (R.below C) (Q.below C);have F:=A (afz N M cv a d f W1 gF.1 jr.1 Ag.1);obtain⟨g,cap,rfl,-,hlen,-⟩:=id S;obtain⟨a2,dj,rfl,-,qF,-⟩:=id R;obtain⟨a3,fP,rfl,-,En,iY,-⟩:=id Q;have c0:W1.cell? (b,0)=some (.slice g a.length cap):=Y aI rfl;obtain⟨H,I⟩:=aR aE C;clear S R Q aI aE C iY;by_cases B:jQ a d f=0
 ·obtain⟨G,Z⟩:=aR (afy B) B;rw[B]at F;clear B;by_cases afB:p<0
  ·have x:Hid (iQ a d f p=1):=A (by unfold iQ;rw[aA (by simp[Z.1]),aD (.inl afB)]);have y:Hid (pZ a d f p=0):=A (by unfold pZ;rw[x.1];rfl);go_enter func64,ntmps64;go_wp2_with fail;rw[<-H.1];refine F.1.mono ?_;rintro e E ⟨rfl,w⟩;go_wp2_with fail;go_ret2;exact⟨by rw[x.1,y.1];rfl,ar I.1 w⟩
  ·have Aa:0<=p:=by omega
   by_cases Yp:(a.length:Int)<=p
   ·have x:Hid (iQ a d f p=1):=A (by unfold iQ;rw[aA (by simp[Z.1]),aD (.inr Yp)]);have y:Hid (pZ a d f p=0):=A (by unfold pZ;rw[x.1];rfl);go_enter func64,ntmps64;go_wp2_with fail;rw[<-H.1];refine F.1.mono ?_;rintro e E ⟨rfl,w⟩;have d0:=U w c0;go_wp2_with fail;go_ret2;exact⟨by rw[x.1,y.1];rfl,ar I.1 w⟩
   ·obtain⟨n,hn⟩:∃n:Nat,p=n:=⟨p.toNat,by omega⟩;have O:n<a.length:=by omega
    have x:Hid (iQ a d f p=0):=A (by unfold iQ;rw[aA (by simp[Z.1]),aA (by omega)]);have y:Hid (pZ a d f p=Bn a[n] f f.length):=A (by unfold pZ CK;rw[aD x.1,hn,AZ,dp O]);subst hn;obtain⟨q,P⟩:=aK (a[n]);rw[<-P]at y;have Gn:=A P;clear P;have azi:(n:Int)<(a.length:Int):=by omega
    have rK:decide ((n:Int)<0)=false:=bw (by omega);have ym:decide (a.length<=n)=false:=bw (by omega);clear afB Yp;go_enter func64,ntmps64;go_wp2_with fail;rw[<-H.1];refine F.1.mono ?_;rintro e E ⟨rfl,w⟩;have d0:=U w c0;obtain⟨dz,mP,ev⟩:=bJ (gF.1.below w) (Ag.1.below w) (ar I.1 w);clear w;go_wp2_with fail;go_loopw[6,30] (λz0 z1z h=>∃c:Nat,c<=f.length/\z1z=c/\z0=(Bn q f c:Int)/\Below E E h) (λ_ z1z _=>f.length-(intOf z1z).toNat);case atStart=>exact⟨0,bS _,rfl,rfl,aY _ _⟩
    case round =>
     obtain⟨c,nh,rfl,rfl,z⟩:=hrel;have f0:=U z d0;by_cases T:c<f.length
     ·obtain⟨aa,cc,e1,-,-,hk⟩:=dz.1;obtain⟨z0z,off,rr,ha,q1,L⟩:=hk n O;simp only[dr]at e1;obtain⟨rfl,-,rfl⟩:=e1;subst ha;have y1:=U z q1;have X:=G.1.prog.row O;rw[<-Gn.1]at L X;have mH:c<q.length:=by rw[X,<-G.1.len];exact T
      obtain⟨bE,b2,oQ,n2,k2,D,q2⟩:=(L.below z).get mH;obtain⟨dX,b3,azj,n3,k3,K,q3⟩:=(mP.1.below z).get T;obtain⟨ra,rc,e4,-,-,-,-⟩:=id L;rw[e4]at D y1;simp only[dr]at D K;obtain⟨D,-,-⟩:=D;obtain⟨K,-,-⟩:=K;subst D K;have W:El (J f c):=G.1.el _ (by rw[di T];exact bM _);have LO:=afA (w:=q) G.1.el c (by omega);obtain⟨LP,Bo,mO⟩:=bJ (λb=>vf (J f c) (J q c) b W bE) (λb=>Ej (Bn q f c) (bm (J f c) (J q c)) b LO (fJ W _)) (show Bn q f (c+1)=Bn q f c*bm (J f c) (J q c)%2147483579 from rfl);have i0:0<=(c:Int):=by omega
      have i1:(c:Int)<(q.length:Int):=by omega
      have i2:(c:Int)<(f.length:Int):=by omega
      have df:=A z;clear hk q1 L z e4 W LO X;generalize Bn q f c=p1 at *;generalize bm (J f c) (J q c)=pw at *;generalize J f c=cj at *;generalize J q c=rj at *;go_wp2_with fail;refine(LP.1 _).mono ?_;rintro e w3 ⟨rfl,aJ⟩;go_wp2_with fail;refine(Bo.1 _).mono ?_;rintro e w4 ⟨rfl,rfl⟩;go_wp2_with fail;go_roundw;case rel=>exact⟨c+1,by omega,by go_num,by rw[mO.1],ar df.1 aJ⟩
      case measure=>simp[intOf];omega
     ·obtain rfl:c=f.length:=by omega
      have HF:=A (ar ev.1 z);clear z f0;go_wp2_with fail;go_ret2;exact⟨by rw[x.1,y.1];rfl,HF.1⟩
 ·have x:Hid (iQ a d f p=jQ a d f):=A (by unfold iQ;rw[aD B]);have y:Hid (pZ a d f p=0):=A (by unfold pZ;rw[x.1,aA B]);have h2:(jQ a d f !=0)=true:=jg.2 B;go_enter func64,ntmps64;go_wp2_with fail;rw[<-H.1];refine F.1.mono ?_;rintro e E ⟨rfl,w⟩;go_wp2_with fail;go_ret2;exact⟨by rw[x.1,y.1];rfl,ar I.1 w⟩
def jR(a:ak)(c v:Int):Bool:=decide (0<=c)&&(decide (c<(a.length:Int))&&!cM v)
theorem CL{q v:Int}:jR a q v=true↔(0<=q/\q<(a.length:Int))/\0<=v/\v<1073741789:=by
 unfold jR;rw[cu,cu,fU,fU,FL];constructor
 ·rintro⟨g,p,c⟩;exact⟨⟨g,p⟩,Lv c⟩
 ·rintro⟨⟨g,p⟩,c⟩;exact⟨g,p,IX c⟩
theorem Zu(E D:Value)(a:ak)(d:V)(c v:Int)(b:World)(O:bI b E a)(N:aM b D d)(W:aN v):
  Calls prog 44 #[.agg #[E,D],.agg #[c,v]] b λe Z=>e=.returned (.bool (jR a c v))/\Below b b Z:=by
 obtain⟨F,x,H,G,X⟩:=ee b E D 25;obtain⟨q,I,y,z,S⟩:=ee F c v 66;obtain⟨g,K,rfl,-,hlen,-⟩:=id O;obtain⟨P,T,rfl,-,qF,-⟩:=id N;have B:F.heap.size=b.heap.size+1:=by rw[x];simp
 have c0:q.cell? (b,0)=some (.slice g a.length K):=U y (Y G rfl);have s0:q.cell? (b.heap.size+1,0)=c:=by rw[<-B];exact Y z rfl
 have s1:q.cell? (b.heap.size+1,1)=v:=by rw[<-B];exact Y z rfl
 have C:Hid ((b.alloc (.cells #[.slice g a.length K,.slice P d.length T] 25)).alloc (.cells #[c,v] 66)=q):=A (by rw[I,x]);have w:=A (ar H y);clear O N G z x I H y B X S;by_cases L:0<=c
 ·by_cases M:c<(a.length:Int)
  ·have p:=A (show jR a c v=!cM v by unfold jR;rw[bB L,bB M];rfl);go_enter func44,ntmps44;go_wp2_with (rw[C.1]);refine(Gl _ [v] _ (LK q v 3 _ rfl W)).mono ?_;rintro e w3 ⟨rfl,Q⟩;rw[Pr];have R:=w.1.alloc w.1.size (.cells #[v] 3);go_wp2_with fail;go_ret;exact⟨cg p.1.symm,ar R Q⟩
  ·have p:=A (show jR a c v=false by unfold jR;rw[bw M];simp);go_enter func44,ntmps44;go_wp2_with (rw[C.1]);go_ret;exact⟨cg p.1.symm,w.1⟩
 ·have p:=A (show jR a c v=false by unfold jR;rw[bw L];rfl);go_enter func44,ntmps44;go_wp2_with (rw[C.1]);go_ret;exact⟨cg p.1.symm,w.1⟩
def j9(a:ak)(d f:V)(c v:Int):Int:=
 if jQ a d f≠0 then jQ a d f else if jR a c v=true then 0 else 340
def ke(a:ak)(d f:V)(c v:Int):Bool:=
 if j9 a d f c v=0 then bm 4 v==CK (a.getD c.toNat []) f else false
theorem Ep(L K cv:Value)(a:ak)(d f:V)(c v:Int)(b:World)(hR:bI b L a)(hO:aM b K d)(hC:aM b cv f)(hr:aN c)(hv:aN v):
  Calls prog 18 #[.agg #[L,K],cv,.agg #[c,v]] b λe w'=>e=.returned (.tuple #[.bool (ke a d f c v),(j9 a d f c v:Int)])/\Below b b w':=by
 obtain⟨W1,Q,au,S,hz⟩:=ee b L K 25;obtain⟨C,cG,I,T,dQ⟩:=ee W1 c v 66;have dh:W1.heap.size=b.heap.size+1:=by rw[Q];simp
 have G:=ar au I;obtain⟨dz,dH,mP⟩:=bJ (hR.below G) (hO.below G) (hC.below G);have N:=A (afz L K cv a d f C dz.1 dH.1 mP.1);obtain⟨g,W,rfl,-,hlen,-⟩:=id hR;obtain⟨P,dj,rfl,-,qF,-⟩:=id hO;obtain⟨a3,fP,rfl,-,En,iY,-⟩:=id hC;have D:C.cell? (b,0)=some (.slice g a.length W):=U I (Y S rfl);have E:C.cell? (b,1)=some (.slice P d.length dj):=U I (Y S rfl);have F:C.cell? (b.heap.size+1,0)=c:=by rw[<-dh];exact Y T rfl
 have B:C.cell? (b.heap.size+1,1)=v:=by rw[<-dh];exact Y T rfl
 have kG:Hid ((b.alloc (.cells #[.slice g a.length W,.slice P d.length dj] 25)).alloc (.cells #[c,v] 66)=C):=A (by rw[cG,Q]);have O:=A G;clear hR hO hC S T Q cG au I dh hz dQ G iY;by_cases z:jQ a d f=0
 ·obtain⟨vh,uu⟩:=aR z (show j9 a d f c v=if jR a c v=true then 0 else 340 by unfold j9;rw[aA (by simp[z])]);rw[z]at N;clear z;cases y:jR a c v with
  |false =>
   have w:Hid (j9 a d f c v=340):=A (by rw[uu.1,y];rfl);have x:Hid (ke a d f c v=false):=A (by unfold ke;rw[w.1];rfl);have vm:=A y;clear y;go_enter func18,ntmps18;go_wp2_with fail;rw[kG.1];refine N.1.mono ?_;rintro e w3 ⟨rfl,p⟩;have X:=U p D;have Z:=U p E;have t0:=U p F;have t1:=U p B;obtain⟨M,H,gp⟩:=bJ (dz.1.below p) (dH.1.below p) (ar O.1 p);clear p D E F B;go_wp2_with fail;refine(Zu _ _ a d c v _ M.1 H.1 hv).mono ?_;rintro e w4 ⟨rfl,q⟩;rw[vm.1];go_wp2_with fail;go_ret2;exact⟨by rw[w.1,x.1];rfl,ar gp.1 q⟩
  |true =>
   have w:Hid (j9 a d f c v=0):=A (by rw[uu.1,y];rfl);have vm:=A y;have si:=(CL.1 y).1;have Bp:Hid (iQ a d f c=0):=A (by unfold iQ;rw[aA (by simp[vh.1]),aA (by omega)]);have wV:Hid (pZ a d f c=CK (a.getD c.toNat []) f):=A (by unfold pZ;rw[aD Bp.1]);have x:Hid (ke a d f c v=(bm 4 v==CK (a.getD c.toNat []) f)):=A (by unfold ke;rw[aD w.1]);obtain⟨z1,hq⟩:=aK (CK (a.getD c.toNat []) f);rw[<-hq]at wV x;have LP:=A (λb=>vf 4 v b fO hv);obtain⟨z0,hp4⟩:=aK (bm 4 v);rw[<-hp4]at x LP;have I0:=A (λh h1 h2 h3=>T9 (.slice g a.length W) (.slice P d.length dj) (.slice a3 f.length fP) a d f c h h1 h2 h3 hr);rw[Bp.1,wV.1]at I0;clear y si hq hp4;go_enter func18,ntmps18;go_wp2_with fail;rw[kG.1];refine N.1.mono ?_;rintro e w3 ⟨rfl,p⟩;have X:=U p D;have Z:=U p E;have t0:=U p F;have t1:=U p B;obtain⟨M,H,Ps,gp⟩:=cY (dz.1.below p) (dH.1.below p) (mP.1.below p) (ar O.1 p);clear p D E F B;go_wp2_with fail;refine(Zu _ _ a d c v _ M.1 H.1 hv).mono ?_;rintro e w4 ⟨rfl,q⟩;rw[vm.1];have D:=U q X;have E:=U q Z;have F:=U q t0;have B:=U q t1;obtain⟨I1,HO4,HC4,qQ⟩:=cY (M.1.below q) (H.1.below q) (Ps.1.below q) (ar gp.1 q);clear q X Z t0 t1;go_wp2_with fail;refine(I0.1 _ I1.1 HO4.1 HC4.1).mono ?_;rintro e w5 ⟨rfl,R⟩;have t1:=U R B;have kF:=A (ar qQ.1 R);clear R D E F B;go_wp2_with fail;refine(LP.1 _).mono ?_;rintro e w6 ⟨rfl,aF⟩;go_wp2_with fail;go_ret2;exact⟨by rw[w.1,x.1];rfl,ar kF.1 aF⟩
 ·have w:Hid (j9 a d f c v=jQ a d f):=A (by unfold j9;rw[aD z]);have x:Hid (ke a d f c v=false):=A (by unfold ke;rw[w.1,aA z]);have h2:(jQ a d f !=0)=true:=jg.2 z;go_enter func18,ntmps18;go_wp2_with fail;rw[kG.1];refine N.1.mono ?_;rintro e w3 ⟨rfl,p⟩;go_wp2_with fail;go_ret2;exact⟨by rw[w.1,x.1];rfl,ar O.1 p⟩
attribute [local go_sem] DF
theorem Gp{y:Nat}(B:h.ownsRow j e y v n o)(p:h.grownBy r v.ownBlock):KeepsOthers h r:=
 ⟨p.size,λk m c x=>(p.block k (fF.1 c).1 (by
  rcases B.2 with⟨rfl,-⟩|⟨z,C,D,rfl,-,q,-⟩
  ·intro e;cases e
  ·intro e;have w:k=z:=by injection e
   subst w;rw[q]at c;cases c;cases x)).trans c⟩
theorem Gq{q p:Nat}(F:h.ownsRow j e p v n o)(B:eM q h r):r.ownsRow j e p v n o:=by
 obtain⟨z,c⟩:=F;refine⟨z,?_⟩;rcases c with c|⟨E,x,y,g,C,w,D⟩
 ·exact .inl c
 ·exact .inr ⟨E,x,y,g,C,B.cells _ _ w rfl,D⟩
structure Ua(b:World)(q:Nat->Value)(p:Nat)(h:World):Prop where
 be:Below b b h
 sz:b.heap.size<h.heap.size
 row:∃c,h.heap[b.heap.size]?=QC.mk #[c] 22/\h.ownsRow (b.heap.size+1) 23 1 c p ((List.range p).map q)
theorem ao3{q:Nat->Value}{w p:Nat}(E:Ua b q w h)(y:b.heap.size<=p)(c:eM p h r):Ua b q w r:=by
 obtain⟨z,D,x,C,B⟩:=E;exact⟨z.trans ((nf c).mono y),eJ D c.size,x,c.cells _ _ C rfl,Gq B c⟩
theorem afC:(prog.info? 23).map (λc=>(c.zero,c.size,c.bytes))=some (some (.slice none 0 0),1,24):=by kernel_rfl
theorem ao4(q:h.ownsRow j e 1 v n o)(hn:0<n):∃p c,v=.slice (some ⟨p,0,none⟩) n c/\n<=c:=by
 rcases q.2 with⟨-,w⟩|⟨p,c,y,rfl,-,-,x,-⟩
 ·have:=q.1;rw[w]at this;simp at this;omega
 ·exact⟨p,c,rfl,x⟩
theorem ao5{B:Fence}{F:Nat}{C:Exit->Act->World->Prop}(K:m.guard=none)(y w:Operand)(Q:m.op=.call {callee:=.builtin .append,args:=#[y,w],argTypes:=#[22,22]})
  (j n:Nat) (v:Value) (o:List Value) (R:g.eval y=v) (H:h.ownsRow j 23 1 v n o) (x D:Nat) (z:Value) (S:g.eval w=.slice (x,0) 1 D) (I:h.cell? (x,0)=some z) (M:z.oneCell'=true) (hn:n<=1000000) (L:j<=h.heap.size)
  (Z:∀q p,p.ownsRow j 23 1 q (n+1) (o++[z])->h.grownBy p v.ownBlock->wpListIn B F prog t C u (g.put m.dst q) p):wpListIn B F prog t C (m::u) g h:=by
 obtain⟨T,W,X,N,G⟩:=xY afC;refine wpListIn_append_own h K y w 22 Q j 23 T () 1 24 underlying22 W X N G rfl (by decide) v n o R H (x,0) 1 D [z] S rfl ?_ ?_ ?_ ?_ L ?_
 ·intro E z5z c;cases E with
  |zero=>simp at c;subst c;rw[zS];exact I
  |succ E=>simp at c
 ·intro z5z c;simp at c;subst c;exact M
 ·unfold maxLen;omega
 ·omega
 ·intro q p O P _;exact Z q p O P
theorem ao6(F:FuncId)(N:Array Value)(x:Nat)(p:Nat->Value)(b:World)(CM:eQ prog F)(hg:∀c,∃g n z1,p c=.slice g n z1)(hN:x<=1000000)
  (nK:∀Q:Nat->World->Prop,(∀c h,Q c h->Below b.heap.size b h)->wL prog F N x (λc=>#[p c]) Q):
  Calls prog 130 #[.slice none 0 0,.func (.func F) #[] N] b λe w'=>∃v,e=.returned v/\w'.ownsRow b.heap.size 23 1 v x ((List.range x).map p)/\Below b.heap.size b w':=by
 refine wu func130 rfl ?_;simp only[ntmps130,kS,dZ,je,Nat.reduceAdd,Nat.reduceSub,kU,kV,kW,kX,jf,jn];go_wp2_with fail;have h0:Ua b p 0 (b.alloc (.cells #[.slice none 0 0] 22)):=⟨bk _ _ _,by simp,_,World.alloc_heap_new _ _,iv _ _ _ _⟩;refine OU (h:=F) (m:=N) (i:=x) (fi:=λc=>#[p c]) rfl CM (λ_=>rfl)
  (λc=>Ua b p c) (λ_ _ _=>False) ?seq ?qH (λ_ _ _ _ q _=>q) h0
  (λc z3z=>(z3z.setIfInBounds 7 (p c)).setIfInBounds 5 (p c)) ?assign ?body ?done (λ_ _ _ _ _ _ q=>q.elim)
 case seq=>exact nK _ (λc h q=>q.be)
 case qH=>exact λc h r q H=>ao3 q (by simp) H
 case assign =>
  intro l c h z2 hK
  gi_wp2
  exact hK
 case body =>
  intro l c h M aq;obtain⟨G,hz,w,D,C⟩:=M;obtain⟨y,B,z,I⟩:=hg c;simp only[vZ,zH,AV];rw[I];have x0:h.cell? ⟨b.heap.size,0,none⟩=some w:=Y D rfl;have P:=bk h #[.slice y B z] 23;have K:=A (dM C P);have iP:(h.alloc (.cells #[.slice y B z] 23)).cell? ⟨h.heap.size,0,none⟩=some (.slice y B z):=Y (World.alloc_heap_new _ _) rfl;obtain⟨Ag,HR,dG,Er,R⟩:=gw iP ((P.block _ hz).trans D) (pQ C (a:=b.heap.size) (.inr (by omega))) I G;have rV:b.heap.size+1<=(h.alloc (.cells #[.slice y B z] 23)).heap.size:=by simp;omega
  have Z:=A rV;have X:b.heap.size<(h.alloc (.cells #[.slice y B z] 23)).heap.size:=by simp;omega
  have T:=A X;clear P C iP D I G rV X
  gi_wp2_with (refine ao5 rfl _ _ rfl (b.heap.size+1) c _ ((List.range c).map p) rfl K.1 h.heap.size 1 _ rfl Ag.1 rfl (by omega) Z.1 ?_;intro v8 w8 L O;have E:=(O.block _ T.1 (λe=>dG.1 e.symm)).trans HR.1;have y0:w8.cell? ⟨b.heap.size,0,none⟩=some w:=Y E rfl;have f0:=cB E 0;have I2:=A E;have H8:=A L;have S:=A O;obtain⟨g8,uq,Gr,-⟩:=ao4 L (Nat.succ_pos _);subst Gr;clear L O E)
  have W:=fH K.1 S.1 Z.1;refine⟨((KeepsOthers.alloc _ _).trans (Gp K.1 S.1)).trans (KeepsOthers.setCell _ _ _),⟨?_,?_,_,cK I2.1 0 _,?_⟩⟩
  ·exact((R.1.trans ((bk _ _ _).mono R.1.size)).trans (W.mono (eP _))).setCell (aP _) _
  ·exact eJ T.1 (by simpa [World.setCell] using W.size)
  ·refine nM ?_ (pO _) _;rw[Af,Er.1];exact H8.1
 case done =>
  intro z0 h hD M np hO;obtain⟨G,hz,w,D,C⟩:=M;have x0:h.cell? ⟨b.heap.size,0,none⟩=some w:=Y D rfl;go_wp2_with fail;refine Ik (f:=b.heap.size) (b:=w) ?_ ?_ _ _ ⟨⟨z0,rfl,bK (by simp) hD,np,λ_ q=>by cases q⟩,trivial⟩ ⟨_,rfl,acC C (eP _),G⟩
  ·intro W1;simp[results,results130,go_sem]
  ·rintro W1 W2 ⟨v,h1,h2,h3⟩ H;exact⟨v,h1,Gq h2 H,h3.trans (nf H)⟩
attribute [local go_sem] DF
theorem Zv(E:bI b v a):∃g z,∃D:Nat->Value,v=.slice g a.length z/\(∀F,∃w n q,D F=.slice w n q) /\
  ∀k (C:k<a.length),∃p c,g=some ⟨p,c,none⟩/\b.cell? ⟨p,c+k,none⟩=some (D k)/\aM b (D k) a[k]:=by
 obtain⟨g,z,rfl,-,-,C⟩:=E;have B:∀k:Nat,∃x:Value,(∃w n q,x=.slice w n q)/\∀C:k<a.length,∃p c,g=some ⟨p,c,none⟩/\b.cell? ⟨p,c+k,none⟩=some x/\aM b x a[k]:=λk=>by
  by_cases y:k<a.length
  ·obtain⟨p,c,x,H,I,G⟩:=C k y;obtain⟨w,q,e,-⟩:=id G;exact⟨x,⟨w,_,q,e⟩,λ_=>⟨p,c,H,I,G⟩⟩
  ·exact⟨(),⟨_,_,_,rfl⟩,λE=>absurd E y⟩
 exact⟨g,z,λk=>Classical.choose (B k),rfl,λF=>(Classical.choose_spec (B F)).1,λk y=>(Classical.choose_spec (B k)).2 y⟩
theorem bI.own(c:b.ownsRow j 23 1 v n s)(C:s.length=a.length)(D:a.length<=17592186044416)(B:∀k (I:k<a.length) (K:k<s.length),aM b s[k] a[k]):bI b v a:=by
 obtain⟨hn,c⟩:=c;rw[C,KR]at hn;rcases c with⟨rfl,H⟩|⟨q,x,p,rfl,-,z,E,-,G,F⟩
 ·have:a=[]:=N5.1 (by omega);subst this;exact bI.nil _ _ _
 ·subst hn;refine⟨some (q,0),x,rfl,E,D,λk w=>⟨q,0,s[k]'(by omega),rfl,?_,B k w (by omega)⟩⟩;rw[iN];have e:p.toList[k]?=some (s[k]'(by omega)):=by
   have y:(p.toList.take (a.length*1))[k]?=some (s[k]'(by omega)):=by rw[F,fw (by omega)]
   rwa [we,aD (by omega)]at y
  exact Y z (by rw[<-sR];exact e)
def rowsOf(a:ak)(l:bF):ak:=l.map λc=>a.getD c.1.toNat []
theorem ao7(M O:Nat)(N S:Value)(l:bF)(a:ak)(b:World)(g:Option Addr)(cap:Nat)(q:Nat->Value)(sj:S=.slice g a.length cap)
  (K:∀k,k<a.length->∃C B,g=some ⟨C,B,none⟩/\b.cell? ⟨C,B+k,none⟩=some (q k)) (hL:fK b N l) (F:∀p∈l,0<=p.1/\p.1<(a.length:Int))
  (W:b.cell? (M,0)=some N) (Z:b.cell? (O,0)=some S) (E:Nat->World->Prop) (H:∀c h,E c h->Below b b h):
  wL prog 131 #[(M,0),(O,0)] l.length (λc=>#[q (l.getD c (0,0)).1.toNat]) E:=by
 subst sj;intro ll z0 Jx h I hA hY G;obtain⟨al,cl,rfl,-,I4,mq,L⟩:=hL;refine FH func131 rfl trivial ?_ rfl;simp only[ntmps131,kS,dZ,je,Nat.reduceAdd,Nat.reduceSub,kU,kV,kW,kX,jf,jn];have bO:=H 0 h (I 0 h G);have c0:=U bO W
 gi_wp2
 gi_loopw[8] (λD wr=>∃c:Nat,c<=l.length/\D=.int .i64 c/\z0 c wr) (λD _=>l.length-(intOf D).toNat)
 case atStart=>exact⟨0,bS _,rfl,G⟩
 case round =>
  obtain⟨c,hj,rfl,z⟩:=hrel;have x:=H c wr (I c wr z);by_cases w:c<l.length
  ·obtain⟨C,B,rfl,P,Q⟩:=L c w;obtain⟨i0,i1⟩:=F _ (bM w);obtain⟨n,hn⟩:∃n:Nat,l[c].1=n:=⟨l[c].1.toNat,by omega⟩;have X:n<a.length:=by omega
   obtain⟨b2,oQ,rfl,R⟩:=K n X;have T:q (l.getD c (0,0)).1.toNat=q n:=by rw[dp w,hn,AZ]
   have y0:=U x P;have y1:=U x Q;rw[hn]at y0;have y:=bk wr #[n,.int .i64 l[c].2] 66;have z2:=U y (U x R);have zp:=U y (U x Z);have zs:(wr.alloc (.cells #[n,.int .i64 l[c].2] 66)).cell? (wr,0)=n:=Y (World.alloc_heap_new _ _) rfl;have j0:0<=(c:Int):=by omega
   have j1:(c:Int)<(l.length:Int):=by omega
   have n0:0<=(n:Int):=by omega
   have n1:(n:Int)<(a.length:Int):=by omega
   obtain⟨fn,tmps,assign,body,hy,hR⟩:=hY c _ (hA c wr _ z (bk wr #[n,.int .i64 l[c].2] 66)) w;simp only[T]at hy;clear L K F P Q R hn i0 i1 y mq T;generalize l[c].2=v2 at *;generalize q n=gv at *
   gi_wp2
   refine⟨rfl,hR.mono ?_⟩;rintro e W3 (⟨rfl,yu⟩|⟨rfl,uV⟩)
   ·gi_wp2
    go_roundw;case rel=>exact⟨c+1,by omega,by go_num,yu⟩
    case measure=>simp[intOf];omega
   ·gi_wp2
    refine gB (xX rfl _ _ _) rfl ?_;exact⟨⟨_,rfl⟩,.inr ⟨c+1,by omega,uV⟩⟩
  ·obtain rfl:c=l.length:=by omega
   gi_wp2
   go_end0;exact⟨⟨_,rfl⟩,.inl z⟩
theorem ao8(w q p:Value)(b:World)(z:∃g n c,w=.slice g n c)(y:∃g n c,q=.slice g n c)(x:∃g n c,p=.slice g n c):
  Calls prog 47 #[.agg #[w,q],p] b λe B =>
   e=.returned (.func (.func 131) #[] #[(b.heap.size+1,0),(b,0)])/\B=(b.alloc (.cells #[w,q] 25)).alloc (.cells #[p] 38):=by
 obtain⟨g,n,c,rfl⟩:=z;obtain⟨C,G,E,rfl⟩:=y;obtain⟨D,H,F,rfl⟩:=x;go_enter func47,ntmps47;go_wp2_with fail;go_ret;exact⟨rfl,rfl⟩
theorem afD(q:FuncId)(x:Array Value)(c:Nat)(w:Nat->Value)(b:World)(D:eQ prog q)(K:∀p,∃g n G,w p=.slice g n G)(I:c<=1000000)
  (B:∀y:Nat->World->Prop,(∀p h,y p h->Below b b h)->wL prog q x c (λp=>#[w p]) y):
  Calls prog 46 #[.func (.func q) #[] x] b λe C=>∃v,e=.returned v/\C.ownsRow b.heap.size 23 1 v c ((List.range c).map w)/\Below b b C:=by
 have F:=A (ao6 q x c w b D K I B);clear B;go_enter func46,ntmps46;go_wp2_with fail;refine F.1.mono ?_;rintro e L ⟨v,rfl,z,H⟩;have E:=A z;clear z;go_wp2_with fail;go_ret;exact⟨_,rfl,E.1,H⟩
theorem ao9:eQ prog 131:=iw func131 (by kernel_rfl) rfl
theorem apa(c w q:Value)(a:ak)(l:bF)(b h:World)(C:h=(b.alloc (.cells #[c,w] 25)).alloc (.cells #[q] 38))(hR:bI b c a)(hL:fK b q l)(G:∀p∈l,0<=p.1/\p.1<(a.length:Int))(hl:l.length<=1000000):
  Calls prog 46 #[.func (.func 131) #[] #[(b.heap.size+1,0),(b,0)]] h λe E=>∃v,e=.returned v/\bI E v (rowsOf a l)/\Below h h E:=by
 have T:=bk b #[c,w] 25;have F:=bk (b.alloc (.cells #[c,w] 25)) #[q] 38;have X:(b.alloc (.cells #[c,w] 25)).heap.size=b.heap.size+1:=by simp
 have D:=ar T F;have R:h.cell? (b,0)=some c:=by rw[C];exact U F (Y (World.alloc_heap_new b _) rfl)
 have O:h.cell? (b.heap.size+1,0)=some q:=by
  have:=World.alloc_heap_new (b.alloc (.cells #[c,w] 25)) (.cells #[q] 38);rw[X]at this;rw[C];exact Y this rfl
 rw[<-C]at D;have hRW:=hR.below D;have S:=hL.below D;obtain⟨g,W,y,sj,P,L⟩:=Zv hRW;refine(afD 131 _ l.length (λz=>y (l.getD z (0,0)).1.toNat) h ao9 (λz=>P _) hl
  (λQ hI=>ao7 (b.heap.size+1) b.heap.size q c l a h g W y sj (λk x=>by obtain⟨N,I,B,H,-⟩:=L k x;exact⟨N,I,B,H⟩) S G O R Q hI)).mono ?_
 rintro e E ⟨v,rfl,ho,K⟩;refine⟨v,rfl,bI.own ho (by simp[rowsOf]) (by simp[rowsOf];omega) ?_,K⟩;intro k B H;have x:k<l.length:=by simpa [rowsOf] using B
 obtain⟨i0,i1⟩:=G _ (bM x);have M:l[k].1.toNat<a.length:=by omega
 obtain⟨N,I,-,-,h3⟩:=L _ M;have Z:((List.range l.length).map (λz=>y (l.getD z (0,0)).1.toNat))[k]=y l[k].1.toNat:=by
  rw[gj,Ct,dp x]
 have e2:(rowsOf a l)[k]=a[l[k].1.toNat]:=by
  simp only[rowsOf,gj];exact dp M []
 rw[Z,e2];exact h3.below K
theorem apb(c:Nat)(y v:Int)(D:Nat)(K:Value)(p:V)(b:World)(C:b.cell? (D,0)=some K)(B:aM b K p)(P:c<p.length)(R:aN v):
  Calls prog 49 #[c,.agg #[y,v],(D,0)] b λe w=>e=.returned (J p c*v%1073741789:Int)/\Below b b w:=by
 have x:=bk b #[y,v] 66;have S:(b.alloc (.cells #[y,v] 66)).cell? (b,1)=v:=Y (World.alloc_heap_new _ _) rfl;obtain⟨Q,F,H,nn,X,q,O⟩:=(B.below x).get P;obtain⟨W,M,G,-,Z,-⟩:=id B;rw[G]at q C;simp only[dr]at q;obtain⟨q,-,-⟩:=q;subst q;have N:=U x C;have i0:0<=(c:Int):=by omega
 have i1:(c:Int)<(p.length:Int):=by omega
 have E:=A x;clear B C G x;generalize J p c=I at *;generalize p.length=n at *;obtain⟨T,z⟩:=aK (b.alloc (.cells #[y,v] 66));rw[<-z]at E S O N;have L:=A z;clear z;go_enter func49,ntmps49;go_wp2_with fail;rw[<-L.1];go_region_held3 (λw=>w.cell? (D,0)=some (.slice (F,H) n M)/\w.cell? (F,H+c)=I/\w.cell? (b,1)=v) (go_keep)
  (first
   |(go_at_call 20;(with_reducible refine(A9 I v _ Q R).mono ?_);rintro e w2 ⟨rfl,rfl⟩))
 go_wp2_with fail;go_ret;exact⟨rfl,E.1.drew⟩
theorem apc:eQ prog 49:=iw func49 (by kernel_rfl) rfl
def uw(l:bF):V:=l.map Prod.snd
theorem afE(c:k<l.length):J (uw l) k=l[k].2:=by
 unfold J uw;rw[tY,fw c];rfl
theorem apd(v B:Value)(l:bF)(c:V)(y:Nat)(b:World)(hL:fK b v l)(D:aM b B c)(F:c.length=l.length)(E:b.cell? (y,0)=some B):
  Calls prog 48 #[v,.func (.func 49) #[] #[(y,0)]] b λe w'=>e=.returned (cz c (uw l):Int)/\Below b b w':=by
 obtain⟨al,cl,rfl,-,I4,G,q⟩:=hL;obtain⟨K,M,C,O⟩:=cY q G F (λk (q:k<c.length) (z2z v:Int) (hv:aN v) h (p:Below b b h)=>apb k z2z v y B c h (U p E) (D.below p) q hv);have FR:∀(args:Array Value) (b:World),(callFunc 49 args).run prog b=.ok (.enter 49 args) b:=apc;clear D E q G F;go_enter func48,ntmps48;go_wp2_with fail;go_loopw[4,9] (λz3z z h=>∃k:Nat,k<=l.length/\z=k/\z3z=(lR c (uw l) k:Int)/\Below b b h) (λ_ z _=>l.length-(intOf z).toNat);case atStart=>exact⟨0,bS _,rfl,rfl,aY _ _⟩
 case round =>
  obtain⟨k,dg,rfl,rfl,p⟩:=hrel;have L:=A (TI c (uw l) k);by_cases w:k<l.length
  ·obtain⟨z0z,off,Z,H,I⟩:=K.1 k w;subst Z;have y0:=U p H;have y1:=U p I;have X:=(M.1 _ (bM w)).2;have x:=p.alloc p.size (.cells #[.int .i64 l[k].1,.int .i64 l[k].2] 66);obtain⟨ve,N⟩:=aR (O.1 k (by have:=C.1;omega) l[k].1 l[k].2 X _ x) (show lR c (uw l) (k+1)=(lR c (uw l) k+J c k*l[k].2%1073741789)%1073741789 by rw[<-afE w];rfl);have z0:(wr.alloc (.cells #[.int .i64 l[k].1,.int .i64 l[k].2] 66)).cell? (wr,0)=some (.int .i64 l[k].1):=Y (World.alloc_heap_new _ _) rfl;have z1:(wr.alloc (.cells #[.int .i64 l[k].1,.int .i64 l[k].2] 66)).cell? (wr,1)=some (.int .i64 l[k].2):=Y (World.alloc_heap_new _ _) rfl;have ti:=A x;have R:aN (lR c (uw l) k):=dK L.1;have Q:=Tc (J c k*l[k].2);clear H I x p;generalize J c k*l[k].2%1073741789=z2 at *;generalize l[k].1=r1 at *;generalize l[k].2=v1 at *;go_wp2_with fail;refine ve.1.mono ?_;rintro e w3 ⟨rfl,T⟩;have W:=ar ti.1 T;go_wp2_with fail;with_reducible refine(yr _ z2 _ R Q).mono ?_
   rintro e w4 ⟨rfl,S⟩;go_wp2_with fail;go_roundw;case rel=>exact⟨k+1,by omega,by go_num,by rw[N.1],ar W S⟩
   case measure=>simp[intOf];omega
  ·have P:=A (show lR c (uw l) k=cz c (uw l) by unfold cz;rw[C.1,show k=l.length by omega]);go_wp2_with fail;go_ret;exact⟨fL P.1,p⟩
def jk(a:ak)(i:Int):bF->Bool
 |[]=>true
 |c::l=>jR a c.1 c.2&&(decide (i<c.1)&&jk a c.1 l)
def mS(i:Int)(l:bF):Int:=(l.getLast?.map Prod.fst).getD i
theorem afF{p:Int×Int}:∀{l:bF} {i:Int},jk a i (l++[p])=(jk a i l&&(jR a p.1 p.2&&decide (mS i l<p.1)))
 |[],i=>by
  simp[jk,mS];rfl
 |c::l,i=>by
  rw[jn,jk,afF,jk];have:mS c.1 l=mS i (c::l):=by
   unfold mS;cases l with
   |nil=>rfl
   |cons g q=>rw[List.getLast?_cons_cons];simp[List.getLast?_cons]
  rw[this];cases jR a c.1 c.2<;>cases decide (i<c.1)<;>simp
theorem afG(i:Int)(l:bF)(p:Int×Int):mS i (l++[p])=p.1:=by unfold mS;simp
theorem Zx(c:k<l.length):jk a i (l.take (k+1))=(jk a i (l.take k)&&(jR a l[k].1 l[k].2&&decide (mS i (l.take k)<l[k].1))):=by
 rw[jv c,afF]
theorem Ub(c:k<l.length):mS i (l.take (k+1))=l[k].1:=by
 rw[jv c,afG]
theorem Uc:∀{l:bF} {i:Int},jk a i l=true->∀k,jk a i (l.take k)=true
 |[],_,_,k=>by rw[List.take_nil];rfl
 |p::l,i,c,0=>rfl
 |p::l,i,c,k+1=>by
  rw[SE];unfold jk at c ⊢;simp only[cu]at c ⊢;exact⟨c.1,c.2.1,Uc c.2.2 k⟩
theorem apf(c:jk a i (l.take (k+1))=false):jk a i l=false:=by
 cases e:jk a i l with
 |false=>rfl
 |true=>rw[Uc e]at c;cases c
theorem LR:∀{l:bF} {i:Int},jk a i l=true->(∀p∈l,jR a p.1 p.2=true)/\(l≠[]->i+l.length<(a.length:Int))
 |[],_,_=>⟨by simp,λc=>absurd rfl c⟩
 |p::l,i,c=>by
  unfold jk at c;simp only[cu,fU]at c;obtain⟨w,D,y⟩:=c;obtain⟨z,B⟩:=LR y;refine⟨λC q=>?_,λ_=>?_⟩
  ·rcases iu.1 q with rfl|q
   ·exact w
   ·exact z C q
  ·have E:=(CL.1 w).1;by_cases x:l=[]
   ·subst x;simp;omega
   ·have:=B x;rw[dZ];omega
theorem Ud(p:jk a (-1) l=true):l.length<=a.length:=by
 by_cases c:l=[]
 ·subst c;simp
 ·have:=(LR p).2 c;omega
def Gs(c:Nat):Int:=if c=0 then 1 else 0
def gL(n:Nat):V:=(List.range n).map Gs
theorem Gt(n:Nat):(gL n).length=n:=by simp[gL]
theorem LU(n:Nat):∀z∈gL n,0<=z/\z<1073741789:=by
 intro z c;obtain⟨p,-,rfl⟩:=ey.1 c;unfold Gs;split<;>omega
def Ai(a:ak)(d:V)(l:bF):Int:=
 if bH a d≠0 then bH a d else if jk a (-1) l=true then 0 else 340
def Pu(a:ak)(l:bF):V:=fy (rowsOf a l) (gL (bh a))
def Aj(a:ak)(l:bF):Bool:=mR (rowsOf a l) (gL (bh a))
def vq(a:ak)(d:V)(l:bF):Bool:=decide (Ai a d l=0)&&Aj a l
def yF(a:ak)(d:V)(l:bF):Int:=if vq a d l=true then cz (Pu a l) (uw l) else 0
theorem Zy(w:lU a d)(y:jk a (-1) l=true):uY (rowsOf a l) (gL (bh a)).length:=by
 rw[Gt];have F:=Ud y;have D:=w.few;have B:=(LR y).1;have x:∀p∈rowsOf a l,∃k,∃c:k<a.length,p=a[k]:=by
  intro p q;obtain⟨z,C,rfl⟩:=ey.1 q;have E:=(CL.1 (B z C)).1;have c:z.1.toNat<a.length:=by omega
  exact⟨_,c,dp c []⟩
 refine⟨by simp[rowsOf];omega,.inl w.cols_le,?_,?_⟩
 ·intro p q;obtain⟨k,c,rfl⟩:=x p q;exact w.row c
 ·intro p q;obtain⟨k,c,rfl⟩:=x p q;exact w.right.num _ (bM c)
theorem Zz{c:V}(q:uY a c.length)(x:∀z∈c,0<=z/\z<1073741789)(w:c.length<=64):gy a c=0:=by
 unfold gy;rw[aD (aoG q),aD (am0 w (Pq x)),aD];by_cases p:a=[]
 ·exact .inl (by rw[p];rfl)
 ·exact .inr (afo q p)
theorem apg(rv ov lv:Value)(a:ak)(d:V)(l:bF)(b:World)(hR:bI b rv a)(hO:aM b ov d)(hL:fK b lv l):
  Calls prog 12 #[.agg #[rv,ov],lv] b λz3z w'=>z3z=.returned (.tuple #[(yF a d l:Int),.bool (vq a d l),(Ai a d l:Int)])/\Below b b w':=by
 obtain⟨W1,aE,M,aI,hz⟩:=ee b rv ov 25;obtain⟨gF,jr,Es⟩:=bJ (hR.below M) (hO.below M) (hL.below M);have gd:=A (sW rv ov a d W1 gF.1 jr.1);obtain⟨g,cap,rfl,-,hlen,-⟩:=id hR;obtain⟨a2,dj,rfl,-,qF,-⟩:=id hO;obtain⟨a3,fP,rfl,-,En,-⟩:=id hL;have c0:W1.cell? (b,0)=some (.slice g a.length cap):=Y aI rfl;have c1:W1.cell? (b,1)=some (.slice a2 d.length dj):=Y aI rfl;obtain⟨bp,du⟩:=aR aE M;clear hR hO hL aI aE M;by_cases D:bH a d=0
 ·obtain⟨N,HE⟩:=aR (fs D) (show Ai a d l=if jk a (-1) l=true then 0 else 340 by unfold Ai;rw[aA (by simp[D])]);rw[D]at gd;clear D;go_enter func12,ntmps12;go_wp2_with fail;rw[<-bp.1];refine gd.1.mono ?_;rintro z3z w2 ⟨rfl,C⟩;have d0:=U C c0;have d1:=U C c1;obtain⟨dz,dH,n7,O⟩:=cY (gF.1.below C) (jr.1.below C) (Es.1.below C) (ar du.1 C);clear C c0 c1 gd gF jr Es;go_wp2_with fail;go_loopw[8,20] (λi z2z h=>∃k:Nat,k<=l.length/\z2z=k/\i=(mS (-1) (l.take k):Int)/\Hid (jk a (-1) (l.take k)=true)/\Below w2 w2 h) (λ_ z2z _=>l.length-(intOf z2z).toNat);case atStart=>exact⟨0,bS _,rfl,rfl,A rfl,aY _ _⟩
  case round =>
   obtain⟨k,dg,rfl,rfl,HS,y⟩:=hrel;have x0:=U y d0;have x1:=U y d1;obtain⟨P,de⟩:=aR (dz.1.below y) (dH.1.below y);by_cases aq:k<l.length
   ·obtain⟨al,cl,e1,-,-,mq,hk⟩:=n7.1;obtain⟨z0z,off,ha,q0,q1⟩:=hk k aq;simp only[dr]at e1;obtain⟨rfl,-,rfl⟩:=e1;subst ha;obtain⟨cF,hv0⟩:=mq _ (bM aq);have y0:=U y q0;have y1:=U y q1;obtain⟨lW,dq,gM⟩:=bJ (Zx (a:=a) (i:=-1) aq) (Ub (i:=-1) aq) (λz1z=>apf (a:=a) (l:=l) (i:=-1) (k:=k) z1z);have z:=bk wr #[.int .i64 l[k].1,.int .i64 l[k].2] 66;have W:(wr.alloc (.cells #[.int .i64 l[k].1,.int .i64 l[k].2] 66)).cell? (wr,0)=some (.int .i64 l[k].1):=Y (World.alloc_heap_new _ _) rfl;have z1:(wr.alloc (.cells #[.int .i64 l[k].1,.int .i64 l[k].2] 66)).cell? (wr,1)=some (.int .i64 l[k].2):=Y (World.alloc_heap_new _ _) rfl;have t0:=U z x0;have t1:=U z x1;obtain⟨E,ti⟩:=aR (Zu _ _ a d l[k].1 l[k].2 _ (P.1.below z) (de.1.below z) hv0) (y.alloc y.size (.cells #[.int .i64 l[k].1,.int .i64 l[k].2] 66));clear hk mq q0 q1 z y;generalize l[k].1=r1 at *;generalize l[k].2=v1 at *;cases H:jR a r1 v1 with
    |false =>
     have x:Hid (Ai a d l=340):=A (by
      rw[HE.1,aA];rw[gM.1 (by rw[lW.1,H];simp)];simp)
     have p:Hid (vq a d l=false):=A (by unfold vq;rw[x.1];rfl);have B:Hid (yF a d l=0):=A (by unfold yF;rw[p.1];rfl);rw[H]at E;clear H;go_wp2_with fail;refine E.1.mono ?_;rintro e w ⟨rfl,q⟩;go_wp2_with fail;go_ret3;exact⟨by rw[x.1,p.1,B.1];rfl,O.1.trans ((ar ti.1 q).mono O.1.size)⟩
    |true =>
     have LV:=A H;rw[H]at E;clear H;obtain⟨la,R⟩:=aK (mS (-1) (l.take k));rw[<-R]at lW;by_cases I6:la<r1
     ·have mO:Hid (jk a (-1) (l.take (k+1))=true):=A (by rw[lW.1,HS.1,LV.1,bB I6];rfl);have ZA:mS (-1) (l.take k)<r1:=by rw[<-R];exact I6
      clear R;go_wp2_with fail;refine E.1.mono ?_;rintro e w ⟨rfl,q⟩;have s0:=U q W;go_wp2_with fail;go_roundw;case rel=>exact⟨k+1,by omega,by go_num,by rw[dq.1],mO,ar ti.1 q⟩
      case measure=>simp[intOf];omega
     ·have x:Hid (Ai a d l=340):=A (by
       rw[HE.1,aA];rw[gM.1 (by rw[lW.1,LV.1,bw I6];simp)];simp)
      have p:Hid (vq a d l=false):=A (by unfold vq;rw[x.1];rfl);have B:Hid (yF a d l=0):=A (by unfold yF;rw[p.1];rfl);have ZA:r1<=mS (-1) (l.take k):=by rw[<-R];omega
      clear R;go_wp2_with fail;refine E.1.mono ?_;rintro e w ⟨rfl,q⟩;have s0:=U q W;go_wp2_with fail;go_ret3;exact⟨by rw[x.1,p.1,B.1];rfl,O.1.trans ((ar ti.1 q).mono O.1.size)⟩
   ·have bW:k=l.length:=by omega
    have X:Hid (jk a (-1) l=true):=A (by have:=HS.1;rwa [bW,m9]at this);have x:Hid (Ai a d l=0):=A (by rw[HE.1,aD X.1]);obtain⟨yG,df⟩:=aR (n7.1.below y) (ar O.1 y);obtain⟨wl,oY⟩:∃wl:World,wl=wr:=⟨_,rfl⟩;rw[<-oY]at P de yG df x0 x1 ⊢;clear bW y oY HS;go_wp2_with fail;refine(T6 _ _ a d _ P.1 de.1).mono ?_;rintro e w ⟨rfl,q⟩;have y0:=U q x0;have y1:=U q x1;obtain⟨vj,ZB,gp⟩:=bJ (P.1.below q) (yG.1.below q) (ar df.1 q);have iP:=N.1.cols;have lj:=N.1.cols_le;obtain⟨n,hn⟩:=aK (bh a);rw[<-hn]at iP lj ⊢;have HN:=A hn;have jE:=TE n (by omega);have Bd:(madeCells #[(0:Int)] n)[0]?=(0:Int):=by
     have z1z:=(lr.made w n 3).cell 0 (by omega);rwa [wg _ _ _ _ rfl]at z1z
    clear q x0 x1 hn P de yG df;obtain⟨L,hC⟩:=aK ((madeCells #[(0:Int)] n).setIfInBounds 0 (1:Int));have vr:lr (w.alloc (.cells L 3)) w.heap.size n Gs:=by
     have Q:=(lr.made w n 3).set (k:=0) 1;have h2:(w.alloc (.cells (madeCells #[(0:Int)] n) 3)).setCell (w,0) (1:Int)=w.alloc (.cells L 3):=by rw[hC];simp[go_sem]
     rw[h2]at Q;exact Q
    have hti:=vr.ints (c:=n) (aP _) (by omega) (λz2z _=>by unfold Gs;split<;>exact aN.mk (by omega) (by omega));have K:=bk w L 3;have ZC:Hid (aM (w.alloc (.cells L 3)) (.slice (w,0) n n) (gL n)):=A hti;have W:=U K y0;have z1:=U K y1;obtain⟨I1,Z,qQ⟩:=bJ (vj.1.below K) (ZB.1.below K) (ar gp.1 K);rw[hC]at W z1;have HC:=A hC;clear vr hti K hC;go_wp2_with fail;rw[<-HC.1];obtain⟨w4,rW⟩:=aK (w.alloc (.cells L 3));rw[<-rW]at ZC I1 Z qQ ⊢;clear rW W z1 y0 y1 HC;with_reducible refine(ao8 _ _ _ _ ⟨_,_,_,rfl⟩ ⟨_,_,_,rfl⟩ ⟨_,_,_,rfl⟩).mono ?_
    rintro e w5 ⟨rfl,uW⟩;have aG:Below w4 w4 w5:=by
     rw[uW];have Q:=bk w4 #[.slice g a.length cap,.slice a2 d.length dj] 25;exact Q.trans ((bk _ _ _).mono Q.size)
    have fB:∀z2∈l,0<=z2.1/\z2.1<(a.length:Int):=λz2 D=>(CL.1 ((LR X.1).1 z2 D)).1;have I4:l.length<=1000000:=by have:=Ud X.1;have:=N.1.few;omega
    obtain⟨wT,E⟩:=aR (apa _ (.slice a2 d.length dj) _ a l w4 w5 uW I1.1 Z.1 fB I4) (Zy N.1 X.1);obtain⟨Et,HT5,Gu,kF⟩:=cY (Zz E.1 (LU _) (by rw[Gt];exact N.1.cols_le)) (ZC.1.below aG) (Z.1.below aG) (ar qQ.1 aG);clear uW aG fB I1 Z ZC jE Bd;go_wp2_with fail;refine wT.1.mono ?_;rintro e w6 ⟨v6,rfl,ij,aF⟩;obtain⟨Gv,LY,Pv,cO⟩:=cY ij (HT5.1.below aF) (Gu.1.below aF) (ar kF.1 aF);clear ij aF wT;obtain⟨LZ,HRY⟩:=aR (show Aj a l=mR (rowsOf a l) (gL n) by unfold Aj;rw[HN.1]) (show Pu a l=fy (rowsOf a l) (gL n) by unfold Pu;rw[HN.1]);rw[<-HN.1]at Et;cases F:Aj a l with
    |false =>
     have p:Hid (vq a d l=false):=A (by unfold vq;rw[F];simp);have B:Hid (yF a d l=0):=A (by unfold yF;rw[p.1];rfl);have qf:=A (afn _ _ (rowsOf a l) (gL n) _ Gv.1 LY.1 Et.1 (by rw[<-LZ.1];exact F));clear F;go_wp2_with fail;refine qf.1.mono ?_;rintro e S ⟨T,rfl,I,G⟩;obtain⟨ya,yc,rfl,-⟩:=id I;have hZ:=A (ar cO.1 G);have ik:=A (hZ.1.alloc hZ.1.size (.cells #[.slice ya ([]:V).length yc] 23));clear I G;go_wp2_with fail;go_ret3;exact⟨by rw[x.1,p.1,B.1];rfl,ik.1⟩
    |true =>
     have p:Hid (vq a d l=true):=A (by unfold vq;rw[F,x.1];rfl);have B:Hid (yF a d l=cz (fy (rowsOf a l) (gL n)) (uw l)):=A (by unfold yF;rw[aD p.1,HRY.1]);obtain⟨qf,I7⟩:=aR (afm _ _ (rowsOf a l) (gL n) _ Gv.1 LY.1 Et.1 (by rw[<-LZ.1];exact F)) (show(fy (rowsOf a l) (gL n)).length=l.length by rw[Pn];simp[rowsOf]);generalize fy (rowsOf a l) (gL n)=z3 at *;clear F;go_wp2_with fail;refine qf.1.mono ?_;rintro e S ⟨T,rfl,I,G⟩;have z:=bk S #[T] 23;have hcy:(S.alloc (.cells #[T] 23)).cell? (S,0)=some T:=Y (World.alloc_heap_new _ _) rfl;have vt:=A (apd _ T l z3 S.heap.size _ ((Pv.1.below G).below z) (I.below z) I7.1 hcy);obtain⟨ya,yc,rfl,-⟩:=id I;have hZ:=A (ar cO.1 G);have ik:=A (ar hZ.1 z);clear I G z hcy I7;go_wp2_with fail;refine vt.1.mono ?_;rintro e w9 ⟨rfl,bA⟩;go_wp2_with fail;go_ret3;exact⟨by rw[x.1,p.1,B.1];rfl,ar ik.1 bA⟩
 ·have x:Hid (Ai a d l=bH a d):=A (by unfold Ai;rw[aD D]);have p:Hid (vq a d l=false):=A (by unfold vq;rw[x.1,bw D];rfl);have B:Hid (yF a d l=0):=A (by unfold yF;rw[p.1];rfl);have h2:(bH a d !=0)=true:=jg.2 D;go_enter func12,ntmps12;go_wp2_with fail;rw[<-bp.1];refine gd.1.mono ?_;rintro z3z w2 ⟨rfl,C⟩;go_wp2_with fail;go_ret3;exact⟨by rw[x.1,p.1,B.1];rfl,ar du.1 C⟩
