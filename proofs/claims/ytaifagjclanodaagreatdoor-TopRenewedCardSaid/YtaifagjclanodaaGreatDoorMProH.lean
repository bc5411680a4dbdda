/- The laws of dealing: the shares of people (the reference's Of). -/
import Derived.Test.YtaifagjclanodaaGreatDoorMCodD
import Derived.Test.YtaifagjclanodaaGreatDoorMRbH
import Derived.Laws.IdiomStrings
import Derived.Lib.AppendZerosOnto
import Derived.Laws.Append
set_option maxHeartbeats 8000000
set_option maxRecDepth 100000
namespace Go.Proofs.YtaifagjclanodaaGreatDoor
open Go.Proofs.Tryz
open Go.RowKit FP
variable{K:Array Oper}{I:Array Value}{G:FuncId}{e:Int}{L:List Oper}{M:List Value}{r j:List aO}{s F x f k n:Nat}{u:Oper}{a:Option Addr}{P:Program}{C w v:Value}{d t c w':World}{i:aO}{m l h:V}{o:ak}
def jW(m h:V)(l:bF):bF:=l.flatMap λb=>List.replicate (h.count (J m b.1.toNat)) b
theorem aa9(m h:V):∀l:bF,(jW m h l).length<=l.length*h.length
 |[]=>by simp[jW]
 |q::l=>by
  have b:=aa9 m h l;unfold jW at b ⊢;rw[lP,fu,KL,dZ,FG,DE];have:=List.count_le_length (a:=J m q.1.toNat) (l:=h);omega
theorem asU{l:bF}(b:f<l.length):jW m h (l.take (f+1))=jW m h (l.take f)++List.replicate (h.count (J m l[f].1.toNat)) l[f]:=by
 unfold jW;rw[jv b,AY];simp
theorem asV{b:Int}(y:k<h.length):(h.take (k+1)).count b=(h.take k).count b+(if h[k]=b then 1 else 0):=by
 rw[jv y,List.count_append,List.count_singleton];by_cases q:h[k]=b
 ·simp[q]
 ·simp[q]
theorem asW{α:Type}(n:Nat)(b:α):List.replicate (n+1) b=List.replicate n b++[b]:=List.replicate_succ'
theorem asX{y E:Nat}{b:TypeId}(H:d.ownsRow y b E v n M)(z:F<=y):∀q,v.ownBlock=some q->F<=q:=λq b=>by
 rcases H.2 with⟨rfl,-⟩|⟨g,O,Q,rfl,D,-⟩
 ·cases b
 ·injection b with b;subst b;exact bK z D
theorem aho(rv ov lv wv:Value)(m h:V)(l:bF)(c:World)(hr:∃a n e,rv=.slice a n e)(hO:aM c ov m)(hL:fK c lv l)(hW:aM c wv h)(hl:l.length<=100)(hw:h.length<=100)(fB:∀p∈l,0<=p.1/\p.1<(m.length:Int)):
  Calls prog 13 #[.agg #[rv,ov],lv,wv] c λz1z w'=>∃v,z1z=.returned v/\fK w' v (jW m h l)/\(∀z2,v.ownBlock=some z2->c.heap.size<=z2)/\Below c c w':=by
 obtain⟨ra,rn,rc,rfl⟩:=hr;obtain⟨y,Z,S,aI,hz⟩:=ee c (.slice ra rn rc) ov 25;obtain⟨HO,HL,iB⟩:=bJ (hO.below S) (hL.below S) (hW.below S);obtain⟨a2,dj,rfl,-,qF,-⟩:=id hO;obtain⟨a3,fP,rfl,-,En,mq,-⟩:=id hL;obtain⟨a4,xl,rfl,-,azP,-⟩:=id hW;have c1:y.cell? (c,1)=some (.slice a2 m.length dj):=Y aI rfl;obtain⟨HB,bp⟩:=aR S Z;have dP:y.heap.size=c.heap.size+1:=by rw[Z];simp
 obtain⟨CX,agZ⟩:=aR fB mq;clear hO hL hW aI Z S fB mq;have iZ:(y.alloc (.cells #[] 66)).ownsRow y.heap.size 66 2 (.slice (c.heap.size+1,0) 0 0) (jW m h (l.take 0)).length ((jW m h (l.take 0)).flatMap gU):=by
  rw[show jW m h (l.take 0)=[] by simp[jW],<-dP];exact World.ownsRow_made _ #[] 0 (aP _) (by unfold maxLen;omega) rfl
 have hba:=bk y #[] 66;clear dP;go_enter func13,ntmps13;go_wp2_with fail;rw[<-bp.1];go_loopw[7,8,9,10] (λj f _ _ d=>∃k:Nat,k<=l.length/\f=.int .i64 k/\d.ownsRow y.heap.size 66 2 j (jW m h (l.take k)).length ((jW m h (l.take k)).flatMap gU)/\Below y y d) (λ_ f _ _ _=>l.length-(intOf f).toNat);case atStart=>exact⟨0,bS _,rfl,iZ,hba⟩
 case round =>
  clear iZ hba;obtain⟨f,OW,rfl,D,z⟩:=hrel;by_cases aq:f<l.length
  ·obtain⟨aS,cS,eS,-,-,-,cU⟩:=HL.1;obtain⟨b1,o1,ea,T,qb⟩:=cU f aq;simp only[dr]at eS;obtain⟨rfl,-,rfl⟩:=eS;subst ea;obtain⟨in0,in1⟩:=CX.1 _ (bM aq);obtain⟨n,hn⟩:∃n:Nat,l[f].1=n:=⟨l[f].1.toNat,by omega⟩;have F0:n<m.length:=by omega
   obtain⟨azQ,b2,o2,n2,k2,e2,q2⟩:=HO.1.get F0;simp only[dr]at e2;obtain⟨rfl,-,-⟩:=e2;have lW:Hid (jW m h (l.take (f+1))=jW m h (l.take f)++List.replicate (h.count (J m n)) ((n:Int),l[f].2)):=A (by
    rw[asU aq,hn,AZ]
    congr 2
    exact Prod.ext hn rfl)
   rw[hn]at T;obtain⟨QA,QB⟩:=aR T qb;have y1:=U z T;have y3:=U z q2;have z1:=U z c1;obtain⟨Q,H⟩:=aR z D;have hlen:=aa9 m h (l.take f);have asY:(jW m h (l.take f)).length<=10000:=by
    have h1:(l.take f).length<=100:=by simp;omega
    have:=SM h1 hw;omega
   have i0:0<=(f:Int):=by omega
   have i1:(f:Int)<(l.length:Int):=by omega
   have i2:0<=(n:Int):=by omega
   have i3:(n:Int)<(m.length:Int):=by omega
   clear cU T qb q2 z D hlen in0 in1 hn;generalize l[f].2=E at *;generalize J m n=q at *;obtain⟨O,hF⟩:=aK (jW m h (l.take f));rw[<-hF]at lW H asY;clear hF;go_wp2_with fail;go_region_held3 (λw'=>w'.cell? (c,1)=some (.slice (b2,o2) m.length dj)/\w'.cell? (b1,o1+f*2)=some (.int .i64 n)/\w'.cell? (b2,o2+n)=q) (go_keep) (fail);go_wp2_with fail;have X:wr.drew.ownsRow y.heap.size 66 2 u7 (O.length+(h.take 0).count q) ((O++List.replicate ((h.take 0).count q) ((n:Int),E)).flatMap gU):=by
    simp;exact H.1.drew
   have aba:Below y y wr.drew:=Q.1.drew;obtain⟨wd,mU⟩:=aK wr.drew;rw[<-mU]at X aba ⊢;clear mU y1 y3 z1 H Q;go_loopw[7,10] (λj k d=>∃b:Nat,b<=h.length/\k=b/\d.ownsRow y.heap.size 66 2 j (O.length+(h.take b).count q) ((O++List.replicate ((h.take b).count q) ((n:Int),E)).flatMap gU)/\Below y y d) (λ_ k _=>h.length-(intOf k).toNat);case atStart=>exact⟨0,bS _,rfl,X,aba⟩
   case round =>
    clear X aba;obtain⟨b,nh,rfl,D,z⟩:=hrel;by_cases mA:b<h.length
    ·obtain⟨-,b3,o3,n3,k3,e3,q3⟩:=iB.1.get mA;simp only[dr]at e3;obtain⟨rfl,-,-⟩:=e3;have W:=A (asV (b:=q) mA);rw[<-di mA]at W;have y1:=U z QA.1;have y2:=U z QB.1;have y3:=U z q3;obtain⟨Q,H⟩:=aR z D;have JI:((h.take b).count q)<=100:=by
      have h1:=List.count_le_length (a:=q) (l:=h.take b);have h2:(h.take b).length<=h.length:=by simp;omega
      omega
     have j0:0<=(b:Int):=by omega
     have j1:(b:Int)<(h.length:Int):=by omega
     clear D z q3;obtain⟨e,hc⟩:=aK ((h.take b).count q);rw[<-hc]at W H JI;clear hc;generalize J h b=z0 at *;have tK:Hid (O.length+e<=1000000):=A (by omega);by_cases R:z0=q
     ·have hq:(z0==q)=true:=gI.2 R;have mP:Hid ((h.take (b+1)).count q=e+1):=A (by rw[W.1,aD R]);clear R;have fq:=bk wr #[.int .i64 n,E] 66;have oh:=World.alloc_heap_new wr (.cells #[.int .i64 n,E] 66);obtain⟨kq,yV,om,jl⟩:=cY (dM H.1 fq) (show(wr.alloc (.cells #[.int .i64 n,E] 66)).cell? (wr,0)=some (.int .i64 n) from Y oh rfl) (show(wr.alloc (.cells #[.int .i64 n,E] 66)).cell? (wr,0+1)=E from Y oh rfl) (ar Q.1 fq);have fA:=A jl.1.size;clear fq oh;go_wp2_with (refine T7 rfl _ _ rfl y.heap.size _ (O++List.replicate e ((n:Int),E)) _ rfl kq.1 wr.heap.size 0 1 ((n:Int),E) rfl yV.1 om.1 tK.1 fA.1 ?_;intro g8 uq wz h9 o9;have H9:=A h9;have O9:=A o9;clear h9 o9);go_roundw;case rel=>exact⟨b+1,by omega,by go_num,by rw[mP.1,asW,<-DK];exact H9.1,jl.1.trans (fH kq.1 O9.1.1 fA.1)⟩
      case measure=>simp[intOf];omega
     ·have hq:(z0==q)=false:=eH.2 R;have mP:Hid ((h.take (b+1)).count q=e):=A (by rw[W.1,aA R];rfl);clear R;go_wp2_with fail;go_roundw;case rel=>exact⟨b+1,by omega,by go_num,by rw[mP.1];exact H.1,Q.1⟩
      case measure=>simp[intOf];omega
    ·obtain rfl:b=h.length:=by omega
     rw[m9,show O.length+h.count q=(O++List.replicate (h.count q) ((n:Int),E)).length by simp,<-lW.1]at D;obtain⟨H,Q⟩:=aR D z;clear D z;go_wp2_with fail;go_roundw;case rel=>exact⟨f+1,by omega,by go_num,H.1,Q.1⟩
     case measure=>simp[intOf];omega
  ·obtain rfl:f=l.length:=by omega
   rw[m9]at D;have hlen:=aa9 m h l;have h2:=SM hl hw;have HS:=A (fK.own (l:=jW m h l) D (λp hp=>by
    obtain⟨z3z,hs,h3⟩:=List.mem_flatMap.1 hp;rw[(List.mem_replicate.1 h3).2];exact agZ.1 z3z hs) (by omega))
   obtain⟨HF,E4⟩:=aR (ar HB.1 z) (asX D HB.1.size);clear D z hlen h2;go_wp2_with fail;go_ret;exact⟨_,rfl,HS.1,E4.1,HF.1⟩
theorem ahp(y q b z:Value)(m h:V)(l:bF)(c:World)(X:∃a n e,y=.slice a n e)(S:aM c q m)(R:fK c b l)(T:aM c z h)(W:l.length<=100)(Z:h.length<=100)(E:∀p∈l,0<=p.1/\p.1<(m.length:Int)):
  Calls prog 13 #[.agg #[y,q],b,z] c λD w'=>∃v,D=.returned v/\fK w' v (jW m h l)/\Below c c w':=by
 refine(aho y q b z m h l c X S R T W Z E).mono ?_;rintro D w' ⟨v,H,O,-,Q⟩;exact⟨v,H,O,Q⟩
theorem ahq{b:Int}:∀{l:V},l.Pairwise (·<·)->l.count b=if b∈l then 1 else 0
 |[],_=>by simp
 |a::B,y=>by
  obtain⟨D,E⟩:=List.pairwise_cons.1 y;rw[List.count_cons,ahq E];by_cases q:a=b
  ·subst q;have hn:a ∉ B:=λH=>by have:=D a H;omega
   simp[hn]
  ·have z:b≠a:=λy=>q y.symm;simp[q,z]
theorem Qz{b:V}(y:eU (-1) h=true):jW m h (bV o b)=(bP m h o.length).map (lV o b):=by
 have z:=(Bz y).2.2.1;unfold jW bV bP;rw[List.flatMap_map]
 induction o.length with
 |zero=>rfl
 |succ n D =>
  rw[sP,AY,x9,gJ,D]
  congr 1
  rw[lP,List.flatMap_nil,FN];show List.replicate (h.count (J m ((n:Int)).toNat)) (lV o b n)=_;rw[AZ,ahq z];by_cases q:J m n∈h
  ·simp[q]
  ·simp[q]
theorem asZ{b:V}(q:eU (-1) h=true):(jW m h (bV o b)).Sublist (bV o b):=by
 rw[Qz q];unfold bV bP;exact List.filter_sublist.map _
theorem as0{q:V}(b:eU (-1) h=true):rowsOf o (jW m h (bV o q))=iS o m h:=by
 rw[Qz b];unfold rowsOf iS;rw[mD];rfl
theorem as1{y:V}(q:bH o m=0)(b:eU (-1) h=true):Aj o (jW m h (bV o y))=kK o m h:=by
 unfold Aj kK;rw[as0 b,show mu o m h=0 by unfold mu;rw[aA (by simp[q]),aD b]];simp
def _root_.Go.Obj.isLoop:Obj->Bool
 |.loop _=>true
 |.deferred _=>true
 |_=>false
structure ft(d t:World):Prop where
 size:d.heap.size<=t.heap.size
 same:∀(k:Nat) (u:Obj),d.heap[k]?=some u->u.isLoop=true->t.heap[k]?=some u
theorem ft.refl(d:World):ft d d:=⟨aP _,λ_ _ b _=>b⟩
theorem ft.trans{b s y:World}(z:ft b s)(k:ft s y):ft b y:=
 ⟨bK z.size k.size,λf u D q=>k.same f u (z.same f u D q) q⟩
theorem ft.alloc(d:World)(u:Obj):ft d (d.alloc u):=
 ⟨by simp,λk q b _=>(xU d u k (fF.1 b).1).trans b⟩
theorem as2{u:Obj}(b:u.isLoop=true):u.isCells=false:=by
 cases u<;>first|rfl|cases b
theorem abb(b:KeepsOthers d t):ft d t:=⟨b.size,λk u q y=>b.same k u q (as2 y)⟩
theorem MB(b:Below d d t):ft d t:=abb (Bg b)
def ahr(y:Nat->World->Prop)(q:Code->Nat->World->Prop)(b:Nat)(d:World):Exit->Act->World->Prop
 |.normal,_,t=>ft d t/\y (b+1) t
 |.ret,_,t=>ft d t/\q .ret (b+1) t
 |.exit id,_,t=>ft d t/\q (.exit id) (b+1) t
 |.goto B,_,t=>ft d t/\q (.goto B) (b+1) t
 |.panic _,_,_=>False
 |.outgrown,_,_=>False
def ahs(P:Program)(G:FuncId)(I:Array Value)(F:Nat)(fi:Nat->Array Value)(O:Nat->World->Prop)(Step:Nat->World->World->Prop):Prop:=
 ∀(l:Nat) (y H E:Nat->World->Prop) (d:World),(∀b q,y b q->O b q)->(∀b q z,y b q->Below q.heap.size q z->y b z)->(∀b q z,y b q->b<F->Step b q z->H b z) ->
  (∀b q,H b q->b<F->YieldAt Fence.wide 0 P l (fi b) q λD t=>(D=.returned (.bool true)/\y (b+1) t)\/(D=.returned (.bool false)/\E (b+1) t)) ->
  y 0 d->CallsIn Fence.wide 0 P G (#[.func (.yield l) #[] #[]]++I) d λD t=>(∃v,D=.returned v)/\(y F t\/(∃b,b<=F/\E b t))
theorem as3{fi:Nat->Array Value}{y:Nat->World->Prop}(X:wL P G I F fi y):ahs P G I F fi y (λ_ b H=>b=H):=
 λl D _Z E d O Q R S T=>X l D E d O Q (λz b W q=>S z b (R z b b W q rfl) q) T
theorem as4{g:Operand}{ps:Array Tmp}{assign body:Code}{z0:Exit->Act->World->Prop}{a:Act}
    (hg:a.eval g=.func (.func G) #[] I) (eg:eQ P G)
   {fi:Nat->Array Value} (lQ:∀b,(fi b).size=ps.size)
  (W z2z:Nat->World->Prop) (Step:Nat->World->World->Prop) (Ix:Code->Nat->World->Prop) (nK:ahs P G I F fi W Step)
  (hI:∀b d t,W b d->eM c.heap.size d t->W b t) (ng:∀e b d t,Ix e b d->eM c.heap.size d t->Ix e b t)
  (sV:∀b z Z,W b z->b<F->Step b z Z->z2z b Z/\ft z Z)
  (h0:W 0 c) (M2:Nat->Array Value->World->Prop) (hM2:∀b B d t,M2 b B d->eM c.heap.size d t->M2 b B t)
  (yg:∀(l b:Nat) (d:World) (z1z:Act->World->Prop),z2z b d->b<F->(∀B t,M2 b B t->ft d t->z1z {tmps:=B,defers:=[]} t) ->
   assign.wpIn (Fence.wide.inRound l) 0 P (Exit.then z1z (λ_ _ _=>False)) {tmps:=(ps.zip (fi b)).foldl (λB (p,v)=>B.setIfInBounds p v) a.tmps,defers:=[]} d)
  (yh:∀(l b:Nat) (B:Array Value) (d:World),M2 b B d->b<F->body.wpIn (Fence.wide.inRound l) 0 P (ahr W Ix b d) {tmps:=B,defers:=[]} d)
  (yi:∀(X:Nat) (d:World),c.heap.size<=X->W F d->d.heap[X]?=some (.deferred (some []))->ft c d->z0 .normal {a with defers:={target:=.collected X,args:=#[]}::a.defers} d)
  (A3:∀(X:Nat) (e:Code) (b:Nat) (d:World),c.heap.size<=X->b<=F->Ix e b d->d.heap[X]?=some (.deferred (some []))->ft c d->e.wp P z0 {a with defers:={target:=.collected X,args:=#[]}::a.defers} d):
  (Code.rangeFunc g ps assign body).wp P z0 a c:=by
 refine(AW (n:=0)).1 (wpIn_rangeFunc ?_);intro fn uQ;obtain⟨q,R⟩:∃q:LoopState->Option Code->Loop,q=λst pe=>{state:=st,pending:=pe,fn,tmps:=a.tmps,params:=ps,assign,body,defers:=c.heap.size}:=⟨_,rfl⟩;obtain⟨z,aE⟩:∃z,(c.alloc (.deferred (some []))).alloc (.loop (q .ready none))=z:=⟨_,rfl⟩;have Ig:z.heap[c.heap.size+1]?=some (.loop (q .ready none)):=by
  rw[<-aE];have:=World.alloc_heap_new (c.alloc (.deferred (some []))) (.loop (q .ready none));rwa [KK]at this
 have Ih:z.heap[c.heap.size]?=some (.deferred (some [])):=by
  rw[<-aE];exact(xU _ _ _ (by simp)).trans (World.alloc_heap_new c _)
 have ud:eM c.heap.size c z:=by
  rw[<-aE];exact S4 (FO _ (aP _) _) (FO _ (by simp) _)
 have Ii:ft c z:=by rw[<-aE];exact(ft.alloc _ _).trans (ft.alloc _ _)
 refine⟨c.heap.size+1,[{target:=.collected c.heap.size,args:=#[]}],z,{target:=.fn (.func G) I,args:=#[.func (.yield (c.heap.size+1)) #[] #[]]},z,G,
  #[.func (.yield (c.heap.size+1)) #[] #[]]++I,z,?_,?_,λ_ _=>trivial,?_,λQ=>by simp[Fence.wide]at Q,?_⟩
 ·rw[<-aE,R];exact run_enterLoop_outer _ _ _ _ _
 ·simp only[resolve,hg];simp[go_sem]
 ·have Ij:∀(args:Array Value) (c:World),(callFunc G args).run P c=.ok (.enter G args) c:=eg;simp[invoke,go_sem,Ij]
 ·have others:∀{T s:World} (_:ft c T) (_:∀k u,k<c.heap.size->T.heap[k]?=some u->u.isLoop=true->s.heap[k]?=some u) (_:T.heap.size<=s.heap.size),ft c s:=
   λ{T s} h1 h2 h3=>⟨bK h1.size h3,λk u E H=>h2 k u (fF.1 E).1 (h1.same k u E H) H⟩
  have put:∀{T:World} {l:Nat} (o':Obj),c.heap.size<=l->ft c T->ft c (T.putObj l o'):=λ{T l} o' D Q =>
   others Q (λk u E H _=>(World.putObj_heap_other (by omega)).trans H) (by simp)
  refine(nK (c.heap.size+1)
   (λb d=>W b d/\d.heap[c.heap.size+1]?=some (.loop (q .ready none))/\d.heap[c.heap.size]?=some (.deferred (some []))/\ft c d)
   (λb d=>z2z b d/\d.heap[c.heap.size+1]?=some (.loop (q .ready none))/\d.heap[c.heap.size]?=some (.deferred (some []))/\ft c d)
   (λb d=>∃e,Ix e b d/\d.heap[c.heap.size+1]?=some (.loop (q .done (some e)))/\d.heap[c.heap.size]?=some (.deferred (some []))/\ft c d)
   z (λb d Q=>Q.1) (λb d Z ⟨hi,D,E,H⟩ hb=>⟨hI _ _ _ hi (aeb hb (gQ (Nat.lt_of_succ_lt (fF.1 D).1))),(hb.block _ (fF.1 D).1).trans D,(hb.block _ (fF.1 E).1).trans E,H.trans (MB hb)⟩) (λb d Z Q hj S=>by obtain⟨z6z,k⟩:=sV b d Z Q.1 hj S;exact⟨z6z,k.same _ _ Q.2.1 rfl,k.same _ _ Q.2.2.1 rfl,Q.2.2.2.trans k⟩) ?_ ⟨hI _ _ _ h0 ud,Ig,Ih,Ii⟩).mono ?_
  ·rintro b W0 ⟨jD,QF,qB,ho0⟩ hlen;have hy:=run_yield (P:=P) (args:=fi b) QF (by rw[R];exact lQ b);rw[R]at hy;refine⟨fn,_,assign,body,hy,roundIn_of_wpIn uQ (yg _ b W0 _ jD hlen λB d hi hkw=>?_)⟩;have D:=hkw.same _ _ QF rfl;have E:=hkw.same _ _ qB rfl;have H:=ho0.trans hkw;have aq:c.heap.size+1<d.heap.size:=(fF.1 D).1;refine⟨_,run_beginRound D (by rw[R]),?_⟩;have dR:(d.putObj (c.heap.size+1) (.loop {q .ready none with state:=.busy})).heap[c.heap.size+1]?=some (.loop {q .ready none with state:=.busy}):=World.putObj_heap_same aq;have bW:(d.putObj (c.heap.size+1) (.loop {q .ready none with state:=.busy})).heap[c.heap.size]?=some (.deferred (some [])):=(World.putObj_heap_other (by omega)).trans E;have yj:=put (.loop {q .ready none with state:=.busy}) (by omega) H (l:=c.heap.size+1);refine wpIn_mono (yh _ b _ _ (hM2 _ _ _ _ hi (mF _ (by omega) D rfl)) hlen) ?_;have fin:∀(y:Option Code) (W3:World),ft (d.putObj (c.heap.size+1) (.loop {q .ready none with state:=.busy})) W3 ->
     (Instr.endRound (c.heap.size+1) y).run P W3=.ok (.bool y.isNone) (W3.putObj (c.heap.size+1) (.loop (q (if y.isNone then .ready else .done) y))) /\
     eM c.heap.size W3 (W3.putObj (c.heap.size+1) (.loop (q (if y.isNone then .ready else .done) y))) /\
     (W3.putObj (c.heap.size+1) (.loop (q (if y.isNone then .ready else .done) y))).heap[c.heap.size+1]?=some (.loop (q (if y.isNone then .ready else .done) y)) /\
     (W3.putObj (c.heap.size+1) (.loop (q (if y.isNone then .ready else .done) y))).heap[c.heap.size]?=some (.deferred (some [])) /\
     ft c (W3.putObj (c.heap.size+1) (.loop (q (if y.isNone then .ready else .done) y))):=λy W3 O=>by
    have gC:=O.same _ _ dR rfl;have:=run_endRound (P:=P) y gC;rw[R]at this ⊢;exact⟨this,mF _ (by omega) gC rfl,World.putObj_heap_same (fF.1 gC).1,(World.putObj_heap_other (by omega)).trans (O.same _ _ bW rfl),
     put _ (by omega) (yj.trans O)⟩
   rintro z3z a3 W3 hp;cases z3z with
   |normal =>
    obtain⟨O,jy⟩:=hp;obtain⟨hr,S,fj,jz,jA⟩:=fin none W3 O;exact⟨_,_,hr,.inl ⟨rfl,hI _ _ _ jy S,fj,jz,jA⟩⟩
   |ret =>
    obtain⟨O,jy⟩:=hp;obtain⟨hr,S,fj,jz,jA⟩:=fin (some .ret) W3 O;exact⟨_,_,hr,.inr ⟨rfl,.ret,ng _ _ _ _ jy S,fj,jz,jA⟩⟩
   |exit id =>
    obtain⟨O,jy⟩:=hp;obtain⟨hr,S,fj,jz,jA⟩:=fin (some (.exit id)) W3 O;exact⟨_,_,hr,.inr ⟨rfl,.exit id,ng _ _ _ _ jy S,fj,jz,jA⟩⟩
   |goto B =>
    obtain⟨O,jy⟩:=hp;obtain⟨hr,S,fj,jz,jA⟩:=fin (some (.goto B)) W3 O;exact⟨_,_,hr,.inr ⟨rfl,.goto B,ng _ _ _ _ jy S,fj,jz,jA⟩⟩
   |panic ch=>exact hp.elim
   |outgrown=>exact hp.elim
  ·rintro z3z Z ⟨⟨v,rfl⟩,(⟨hi,D,E,H⟩|⟨b,hj,e,hi,D,E,H⟩)⟩
   ·exact⟨none,_,by have:=run_endLoop (P:=P) D (by rw[R];simp);rw[R]at this;exact this,
     yi _ _ (aP _) (hI _ _ _ hi (mF _ (by omega) D rfl)) ((World.putObj_heap_other (by omega)).trans E) (put _ (by omega) H)⟩
   ·exact⟨some e,_,by have:=run_endLoop (P:=P) D (by rw[R];simp);rw[R]at this;exact this,
     AW.2 (A3 _ e b _ (aP _) hj (ng _ _ _ _ hi (mF _ (by omega) D rfl)) ((World.putObj_heap_other (by omega)).trans E) (put _ (by omega) H))⟩
theorem as5(b:Int)(z:0<=b)(D:b<65536):bits .and .u16 b 1=b%2:=by
 obtain⟨a,rfl⟩:∃n:Nat,b=n:=⟨b.toNat,by omega⟩;have q:(BitVec.ofInt 16 (a:Int)).toNat=a:=by
  rw[BitVec.ofInt_natCast,BitVec.toNat_ofNat];exact NZ (by omega)
 have y:(BitVec.ofInt 16 (1:Int)).toNat=1:=by decide
 show IntKind.u16.wrap ((BitVec.ofInt 16 (a:Int)&&&BitVec.ofInt 16 (1:Int)).toNat:Int)=_;rw[BitVec.toNat_and,q,y,Nat.and_one_is_mod];have:IntKind.u16.wrap ((a%2:Nat):Int)=((a%2:Nat):Int):=by simp[IntKind.wrap,IntKind.bits,IntKind.signed];omega
 rw[this];omega
theorem as6{b:Int}(q:0<=b)(z:b<65536)(k:Nat):0<=b/2^k/\b/2^k<65536:=by
 have y:(0:Int)<2^k:=Int.pow_pos (by omega);refine⟨Int.ediv_nonneg q (Int.le_of_lt y),?_⟩;have:=Int.ediv_le_self (2^k) q;omega
theorem aht(d:World)(v:Value):(Instr.typeAssert (.iface 3 v) 20 3 true).run prog d=.ok (.tuple #[v,true]) d:=by kernel_rfl
theorem ahu(d:World)(v:Value):(Instr.typeAssert (.iface 28 v) 20 3 true).run prog d=.ok (.tuple #[(0:Int),false]) d:=by kernel_rfl
theorem as7(d:World)(v:Value):(Instr.typeAssert (.iface 72 v) 20 3 true).run prog d=.ok (.tuple #[(0:Int),false]) d:=by kernel_rfl
theorem ahv(d:World)(v:Value):(Instr.typeAssert (.iface 28 v) 20 28 true).run prog d=.ok (.tuple #[v,true]) d:=by kernel_rfl
theorem as8(d:World)(v:Value):(Instr.typeAssert (.iface 72 v) 20 28 true).run prog d=.ok (.tuple #[(),false]) d:=by kernel_rfl
theorem as9(d:World)(v:Value):(Instr.typeAssert (.iface 72 v) 20 72 true).run prog d=.ok (.tuple #[v,true]) d:=by kernel_rfl
theorem ahw(b:fC c v i):∃z:ByteArray,fp z=i/\z.size=i.length/\(convert 28 9 v).run prog c=.ok (.string z) c:=by
 obtain⟨a,D,rfl,hc,hl,H,O⟩:=b;have E:fp ⟨(i.map UInt8.ofNat).toArray⟩=i:=by
  unfold fp;show(i.map UInt8.ofNat).map UInt8.toNat=i;rw[mD];refine(xZ λq X=>?_).trans (List.map_id i);show(UInt8.ofNat q).toNat=q;have:=H q X;simp;omega
 have S:(⟨(i.map UInt8.ofNat).toArray⟩:ByteArray).size=i.length:=by rw[<-Jf,E]
 refine⟨⟨(i.map UInt8.ofNat).toArray⟩,E,S,?_⟩;cases a with
 |none =>
  have T:i=[]:=by
   cases i with
   |nil=>rfl
   |cons q l=>obtain⟨R,Z,b,-⟩:=O 0 (by simp);cases b
  subst T;exact run_convert_bytes_nil c 28 5 underlying28 underlying5 0 D 9 underlying9
 |some a =>
  have b:=run_convert_bytes_back (P:=prog) c 28 9 5 a D (i.map UInt8.ofNat) underlying28 underlying5 underlying9 (λQ y=>by
   rw[dy]at y;obtain⟨R,Z,ha,W⟩:=O Q y;cases ha;rw[zS,W,gj];have:=H i[Q] (bM y)
   congr 2
   simp;omega)
  rw[dy]at b;exact b
def JJ(x:Nat)(c:World)(w:Value)(b:aO):Prop:=
 (∃n,aN n/\w=.iface 3 (.int .i64 n)/\b=dB n)\/(∃a n e i,w=.iface 28 (.slice a n e)/\fC c (.slice a n e) i/\i.length<=1000000/\b=lB i) \/
  ∃a n e j,w=.iface 72 (qV (.slice a n e))/\VL (ig x) c (.slice a n e) j/\b=gg j
theorem JJ.below{E:aO}(b:JJ x c w E)(D:Below c c w'):JJ x w' w E:=by
 rcases b with b|⟨a,n,e,i,q,y,z⟩|⟨a,n,e,j,q,y,z⟩
 ·exact .inl b
 ·exact .inr (.inl ⟨a,n,e,i,q,y.below D,z⟩)
 ·exact .inr (.inr ⟨a,n,e,j,q,y.below (λH E b=>b.below D) D,z⟩)
def QH(z:World->Value->aO->Prop)(c:World)(v:Value)(j:List aO):Prop:=∃a q,v=.slice a j.length q/\j.length<=q/\j.length<=1000/\∀k (D:k<j.length),∃b y w,a=some ⟨b,y,none⟩/\c.cell? ⟨b,y+k,none⟩=some w/\z c w j[k]
abbrev Db(x:Nat):World->Value->List aO->Prop:=QH (JJ x)
def QI(c:World)(w:Value)(b:aO):Prop:=(∃n,aN n/\w=.iface 3 (.int .i64 n)/\b=dB n)\/∃a n e i,w=.iface 28 (.slice a n e)/\fC c (.slice a n e) i/\i.length<=1000000/\b=lB i
theorem QI.below{q:aO}(b:QI c w q)(E:Below c c w'):QI w' w q:=by
 rcases b with b|⟨a,n,e,i,y,z,D⟩
 ·exact .inl b
 ·exact .inr ⟨a,n,e,i,y,z.below E,D⟩
theorem Db.below(b:Db x c v j)(q:Below c c w'):Db x w' v j:=by
 obtain⟨a,z,rfl,O,R,Q⟩:=b;exact⟨a,z,rfl,O,R,λk b=>by obtain⟨y,S,w,D,E,H⟩:=Q k b;exact⟨y,S,w,D,U q E,H.below q⟩⟩
def fS(b:Int×Int×ByteArray×Option Addr×Nat×Nat):List Value:=[.int .i64 b.1,.int .i64 b.2.1,.string b.2.2.1,.slice b.2.2.2.1 b.2.2.2.2.1 b.2.2.2.2.2]
theorem abc:∀(z:List (Int×Int×ByteArray×Option Addr×Nat×Nat)) (k b:Nat) (q:k<z.length),b<4->(z.flatMap fS)[k*4+b]?=(fS z[k])[b]?
 |[],k,_,q,_=>absurd q (fG k)
 |D::E,0,b,_,y=>by
  rw[lP,Ib,iN,uN (by show b<4;exact y)];rfl
 |D::E,k+1,b,q,y=>by
  rw[lP,rD (by show 4<=_;omega)];have H:(k+1)*4+b-(fS D).length=k*4+b:=by show(k+1)*4+b-4=_;omega
  rw[H,abc E k b (by simpa using q) y];rfl
theorem ahx(b:List (Int×Int×ByteArray×Option Addr×Nat×Nat)):(b.flatMap fS).length=b.length*4:=by
 induction b with
 |nil=>rfl
 |cons y z q=>rw[lP,fu,q,dZ];show 4+_=_;omega
theorem VL.own{R:World->Value->aO->Prop}{W:Nat}{b:List (Int×Int×ByteArray×Option Addr×Nat×Nat)}(E:c.ownsRow W 72 4 v n (b.flatMap fS))(S:b.length=j.length)(O:j.length<=1000000)(hR:∀k (h1:k<b.length) (h2:k<j.length),R c (.agg (fS b[k]).toArray) j[k]):VL R c v j:=by
 obtain⟨hn,E⟩:=E;rw[ahx]at hn;obtain rfl:n=b.length:=by omega
 rcases E with⟨rfl,Z⟩|⟨g,X,H,rfl,-,y,kE,-,ew,lu⟩
 ·exact⟨none,0,by rw[<-S,Z],by omega,O,λk D=>absurd D (by omega)⟩
 ·refine⟨some (g,0),X,by rw[S],by omega,O,λk D=>?_⟩;have T:k<b.length:=by omega
  have z:∀q,q<4->H[k*4+q]?=(fS b[k])[q]?:=λq hj=>by
   have Q:(H.toList.take (b.length*4))[k*4+q]?=(fS b[k])[q]?:=by rw[lu,abc b k q T hj]
   rw[we,aD (by omega)]at Q;rw[<-sR];exact Q
  refine⟨g,0,b[k].1,b[k].2.1,b[k].2.2.1,b[k].2.2.2.1,b[k].2.2.2.2.1,b[k].2.2.2.2.2,rfl,?_⟩;rw[iN];exact⟨Y y (z 0 (by omega)),Y y (z 1 (by omega)),Y y (z 2 (by omega)),Y y (z 3 (by omega)),hR k T D⟩
theorem ahy{a:Act}{T:Act->World->Prop}{W:Exit->Act->World->Prop}(Q R:Operand)(ho:u.op=.call {callee:=.builtin .append,args:=#[Q,R],argTypes:=#[70,70]})
  (q:Nat) (v:Value) (O:List (Int×Int×ByteArray×Option Addr×Nat×Nat)) (n:Nat) (hs:a.eval Q=v) (Z:d.ownsRow q 72 4 v n (O.flatMap fS)) (E e:Nat) (H:Int×Int×ByteArray×Option Addr×Nat×Nat) (hx:a.eval R=.slice (E,0) 1 e) (cT:∀D w,(fS H)[D]?=some w->d.cell? ⟨E,D,none⟩=some w) (hn:n<=1000000) (dF:q<=d.heap.size)
  (z1z:∀g b w',w'.ownsRow q 72 4 (.slice (some ⟨g,0,none⟩) (n+1) b) (n+1) ((O++[H]).flatMap fS)->fI d v w' (.slice (some ⟨g,0,none⟩) (n+1) b)->T (a.put u.dst (.slice (some ⟨g,0,none⟩) (n+1) b)) w'):Oper.wp prog u a d T W:=by
 obtain⟨f,hi,S⟩:=kA.1 agd;simp only[pN]at S;obtain⟨hz,X,hb⟩:=S;obtain⟨zv,oW,oX⟩:=kA.1 hz;refine wp_append_lies _ Q R 70 ho q 72 f zv 4 56 underlying70 hi oW X hb oX (by decide) v n (O.flatMap fS) hs Z (E,0) 1 e (fS H) hx rfl ?_ ?_ (by decide) ?_ ?_ dF d.heap.size rfl ?_
 ·intro D w z;rw[Cu];exact cT D w z
 ·intro w z;simp only[fS,iu,oG,oH]at z;rcases z with rfl|rfl|rfl|rfl<;>rfl
 ·unfold maxLen;omega
 ·omega
 ·intro g b w' h1 h2 y _;refine z1z g b w' (by rw[AY];simpa using h1) ⟨h2,?_⟩;rcases y with y|y
  ·exact .inl (y▸rfl)
  ·exact .inr ⟨g,rfl,by omega⟩
theorem QJ{a:Act}{O:Exit->Act->World->Prop}(T:u.guard=none)(E H:Operand)(ho:u.op=.call {callee:=.builtin .append,args:=#[E,H],argTypes:=#[70,70]})
  (q:Nat) (v:Value) (D:List (Int×Int×ByteArray×Option Addr×Nat×Nat)) (n:Nat) (hs:a.eval E=v) (R:d.ownsRow q 72 4 v n (D.flatMap fS)) (y e:Nat) (z:Int×Int×ByteArray×Option Addr×Nat×Nat) (hx:a.eval H=.slice (y,0) 1 e) (S:∀Q w,(fS z)[Q]?=some w->d.cell? ⟨y,Q,none⟩=some w) (hn:n<=1000000) (W:q<=d.heap.size)
  (z0z:∀g b w',w'.ownsRow q 72 4 (.slice (some ⟨g,0,none⟩) (n+1) b) (n+1) ((D++[z]).flatMap fS)->fI d v w' (.slice (some ⟨g,0,none⟩) (n+1) b)->wpList prog K O L (a.put u.dst (.slice (some ⟨g,0,none⟩) (n+1) b)) w'):wpList prog K O (u::L) a d:=
 wpList_plain T λ_ hK=>ahy E H ho q v D n hs R y e z hx S hn W λg b w' X Z=>hK _ _ (z0z g b w' X Z)
structure Dc(x:Nat)(c:World)(j:List aO)(k:Nat)(d:World)(C:Value)(q:List (Int×Int×ByteArray×Option Addr×Nat×Nat)):Prop where
 row:d.heap[c.heap.size]?=QC.mk #[(3:Int),(0:Int),.string ⟨#[]⟩,C] 72
 own:d.ownsRow (c.heap.size+1) 72 4 C k (q.flatMap fS)
 len:q.length=k
 each:∀y (z:y<q.length) (D:y<j.length),ig (x+1) c (.agg (fS q[y]).toArray) j[y]
 b:Below c c d
theorem Dc.next{O z:World}{g y:Nat}{q:List (Int×Int×ByteArray×Option Addr×Nat×Nat)}{E:Int×Int×ByteArray×Option Addr×Nat×Nat}(b:Dc x c j k O C q)(hk:k<j.length)(hq:ig (x+1) c (.agg (fS E).toArray) j[k])
  (h8:z.ownsRow (c.heap.size+1) 72 4 (.slice (g,0) (k+1) y) (k+1) ((q++[E]).flatMap fS)) (S:fI O C z (.slice (g,0) (k+1) y)):
  z.heap[c.heap.size]?=QC.mk #[(3:Int),(0:Int),.string ⟨#[]⟩,C] 72/\Dc x c j (k+1) (z.setCell (c,3) (.slice (g,0) (k+1) y)) (.slice (g,0) (k+1) y) (q++[E]):=by
 have R:=bG b.row;have Q:=(S.1.block _ R (λD=>pQ b.own (a:=c.heap.size) (.inr (by omega)) D.symm)).trans b.row;have T:=fH b.own S.1 R;refine⟨Q,cK Q 3 _,nM h8 (pO _) _,by rw[fu,b.len];rfl,λH X Z=>?_,(b.b.trans (T.mono (eP _))).setCell (aP _) _⟩;by_cases D:H<q.length
 ·rw[AX D];exact b.each H D Z
 ·have W:H=q.length:=by simp at X;omega
  subst W;rw[Cr (aP _)];simp only[zI,K1];obtain rfl:=b.len;exact hq
theorem Dc.keep{y:List (Int×Int×ByteArray×Option Addr×Nat×Nat)}(b:Dc x c j k d C y)(q:Below d d t):Dc x c j k t C y:=
 ⟨az q b.row,dM b.own q,b.len,b.each,ar b.b q⟩
theorem ahz(x:Nat)(v:Value)(j:List aO)(c:World)(hA:Db x c v j):
  Calls prog 53 #[v] c λT w'=>∃a e,T=.returned (qV (.slice a j.length e))/\VL (ig (x+1)) w' (.slice a j.length e) j/\(∀S,(Value.slice a j.length e).ownBlock=some S->c.heap.size<=S/\∃cs fz,w'.heap[S]?=some (.cells cs 72 fz))/\Below c c w':=by
 obtain⟨a,cap,rfl,jC,hlen,hk⟩:=hA;have HK:=A hk;clear hk;have iZ:Dc x c j 0 (c.alloc (.cells #[(3:Int),(0:Int),.string ⟨#[]⟩,()] 72)) () []:=⟨World.alloc_heap_new _ _,iv _ _ _ _,rfl,λb z1z=>absurd z1z (fG _),bk _ _ _⟩;unfold qV;go_enter func53,ntmps53;go_wp2_with fail;go_loopw[11] (λf d=>∃(k:Nat) (C:Value) (qs:List (Int×Int×ByteArray×Option Addr×Nat×Nat)),k<=j.length/\f=k/\Dc x c j k d C qs) (λf _=>j.length-(intOf f).toNat);case atStart=>exact⟨0,_,_,bS _,rfl,iZ⟩
 case round =>
  clear iZ;obtain⟨k,C,qs,dg,rfl,q⟩:=hrel;by_cases aq:k<j.length
  ·obtain⟨S,off,w,rfl,q1,hu⟩:=HK.1 k aq;have c1:=U q.b q1;obtain⟨HU,Vp⟩:=aR (hu.below q.b) hu;have x3:wr.cell? (c,3)=some C:=Y q.row rfl;obtain⟨HI,dq⟩:=aR q aq;have cU:k<=1000000:=by omega
   clear q1 hu q;rcases Vp.1 with⟨n,hn,rfl,he⟩|⟨z,E,D,i,rfl,Q,eI,he⟩|⟨z,E,D,L1,rfl,hV1,he⟩
   ·have HQ:Hid (ig (x+1) c (.agg (fS (1,n,⟨#[]⟩,none,0,0)).toArray) j[k]):=A (.inl (.inl ⟨n,hn,rfl,he⟩));have t1:=λd=>aht d (.int .i64 n);obtain⟨W1,W,Q,X⟩:=tm wr (1:Int) (.int .i64 n) (.string ⟨#[]⟩) () 72;have O:=A (HI.1.keep Q);have lC:Hid (∀b w,(fS (1,n,⟨#[]⟩,none,0,0))[b]?=some w->W1.cell? ⟨wr.heap.size,b,none⟩=some w):=A (λb w hj=>Y X (by
     match b with
     |0|1|2|3=>exact hj
     |n+4=>simp[fS]at hj))
    obtain⟨fA,y⟩:=aR (bG O.1.row) W;clear W Q X he hn;go_wp2_with (refine QJ rfl _ _ rfl (c.heap.size+1) _ qs _ rfl (y.1▸O.1.own) wr.heap.size 1 (1,n,⟨#[]⟩,none,0,0) rfl (y.1▸lC.1) cU (y.1▸fA.1) ?_;rw[<-y.1];intro g8 uq w8 Z o8;obtain⟨H,xu⟩:=O.1.next dq.1 HQ.1 Z o8;have y3:w8.cell? (c,3)=some C:=Y H rfl;have f3:=cB H 3;have vy:=A xu;clear H xu Z o8);go_roundw;case rel=>exact⟨k+1,_,_,by omega,by go_num,vy.1⟩
    case measure=>simp[intOf];omega
   ·obtain⟨z3z,bX,gS,uE⟩:=ahw (Q.below HI.1.b);have HQ:Hid (ig (x+1) c (.agg (fS (2,0,z3z,none,0,0)).toArray) j[k]):=A (.inl (.inr ⟨z3z,by omega,rfl,he.trans (by rw[bX])⟩));have t1:=λd=>ahu d (.slice z E D);have t2:=λd=>ahv d (.slice z E D);obtain⟨W1,W,Q,X⟩:=tm wr (2:Int) (0:Int) (.string z3z) () 72;have O:=A (HI.1.keep Q);have lC:Hid (∀b w,(fS (2,0,z3z,none,0,0))[b]?=some w->W1.cell? ⟨wr.heap.size,b,none⟩=some w):=A (λb w hj=>Y X (by
     match b with
     |0|1|2|3=>exact hj
     |n+4=>simp[fS]at hj))
    obtain⟨fA,y⟩:=aR (bG O.1.row) W;clear W Q X he bX gS eI;go_wp2_with (refine QJ rfl _ _ rfl (c.heap.size+1) _ qs _ rfl (y.1▸O.1.own) wr.heap.size 1 (2,0,z3z,none,0,0) rfl (y.1▸lC.1) cU (y.1▸fA.1) ?_;rw[<-y.1];intro g8 uq w8 Z o8;obtain⟨H,xu⟩:=O.1.next dq.1 HQ.1 Z o8;have y3:w8.cell? (c,3)=some C:=Y H rfl;have f3:=cB H 3;have vy:=A xu;clear H xu Z o8);go_roundw;case rel=>exact⟨k+1,_,_,by omega,by go_num,vy.1⟩
    case measure=>simp[intOf];omega
   ·have HQ:Hid (ig (x+1) c (.agg (fS (3,0,⟨#[]⟩,z,E,D)).toArray) j[k]):=A (.inr ⟨z,E,D,L1,rfl,hV1,he⟩);unfold qV at HU Vp c1;have t1:=λd=>as7 d (.agg #[(3:Int),(0:Int),.string ⟨#[]⟩,.slice z E D]);have t2:=λd=>as8 d (.agg #[(3:Int),(0:Int),.string ⟨#[]⟩,.slice z E D]);have t3:=λd=>as9 d (.agg #[(3:Int),(0:Int),.string ⟨#[]⟩,.slice z E D]);obtain⟨W0,dx,bO,cF⟩:=tm wr (3:Int) (0:Int) (.string ⟨#[]⟩) (.slice z E D) 72;obtain⟨W1,W,Q,X⟩:=tm W0 (3:Int) (0:Int) (.string ⟨#[]⟩) (.slice z E D) 72;have dh:W0.heap.size=wr.heap.size+1:=by rw[dx];simp
    have O:=A ((HI.1.keep bO).keep Q);have lC:Hid (∀b w,(fS (3,0,⟨#[]⟩,z,E,D))[b]?=some w->W1.cell? ⟨wr.heap.size+1,b,none⟩=some w):=A (λb w hj=>dh▸Y X (by
     match b with
     |0|1|2|3=>exact hj
     |n+4=>simp[fS]at hj))
    have fA:=A (bG O.1.row);have x3b:=U bO x3;rw[dx]at x3b;have y:=A (dx▸W);clear W Q X he dx bO cF dh;go_wp2_with (refine QJ rfl _ _ rfl (c.heap.size+1) _ qs _ rfl (y.1▸O.1.own) (wr.heap.size+1) 1 (3,0,⟨#[]⟩,z,E,D) rfl (y.1▸lC.1) cU (y.1▸fA.1) ?_;rw[<-y.1];intro g8 uq w8 Z o8;obtain⟨H,xu⟩:=O.1.next dq.1 HQ.1 Z o8;have y3:w8.cell? (c,3)=some C:=Y H rfl;have f3:=cB H 3;have vy:=A xu;clear H xu Z o8);go_roundw;case rel=>exact⟨k+1,_,_,by omega,by go_num,vy.1⟩
    case measure=>simp[intOf];omega
  ·obtain rfl:k=j.length:=by omega
   have x0:wr.cell? (c,0)=(3:Int):=Y q.row rfl;have x1:wr.cell? (c,1)=(0:Int):=Y q.row rfl;have x2:wr.cell? (c,2)=some (.string ⟨#[]⟩):=Y q.row rfl;have x3:wr.cell? (c,3)=some C:=Y q.row rfl;have f0:=cB q.row;obtain⟨aV,nV,cV,rfl⟩:∃a n e,C=.slice a n e:=by
    rcases q.own.2 with⟨rfl,-⟩|⟨g,cap,cur,rfl,-⟩<;>exact⟨_,_,_,rfl⟩
   have HF:Hid (∀t,t=(((wr.setCell (c,0) (3:Int)).setCell (c,1) (0:Int)).setCell (c,2) (.string ⟨#[]⟩)).setCell (c,3) (.slice aV nV cV)->∃a e,(Ending.returned (.agg #[(3:Int),(0:Int),.string ⟨#[]⟩,.slice aV nV cV]))=.returned (qV (.slice a j.length e))/\VL (ig (x+1)) t (.slice a j.length e) j/\(∀S,(Value.slice a j.length e).ownBlock=some S->c.heap.size<=S/\∃cs fz,t.heap[S]?=some (.cells cs 72 fz))/\Below c c t):=A (λt T=>by
    have hb:Below c c t:=by rw[T];exact(((q.b.setCell (aP _) _).setCell (aP _) _).setCell (aP _) _).setCell (aP _) _
    have ho:t.ownsRow (c.heap.size+1) 72 4 (.slice aV nV cV) j.length (qs.flatMap fS):=by
     rw[T];exact nM (nM (nM (nM q.own (pO _) _) (pO _) _) (pO _) _) (pO _) _
    have hV:=VL.own (R:=ig (x+1)) ho q.len (by omega) (λb h1 h2=>(q.each b h1 h2).below hb);obtain⟨a9,c9,e9,-⟩:=id hV;simp only[dr]at e9;obtain⟨rfl,rfl,rfl⟩:=e9;exact⟨_,_,rfl,hV,λS T=>by
     rcases ho.2 with⟨h1,-⟩|⟨g,cap,cur,h1,h2,h3,-⟩
     ·rw[h1]at T;cases T
     ·rw[h1]at T;have e3:g=S:=by injection T
      subst e3;exact⟨by omega,_,_,h3⟩,hb⟩)
   clear q;go_wp2_with fail;refine gB (v:=.agg #[(3:Int),(0:Int),.string ⟨#[]⟩,.slice aV nV cV]) (by simp[results,results53,go_sem,x0,x1,x2,x3]) rfl (HF.1 _ rfl)
theorem ahA(j:List aO):0<(gg j).length:=by unfold gg;simp
theorem ahB(x:Nat)(hd:x<14)(q:ByteArray)(v:Value)(j:List aO)(c:World)(hs:q.size<=1000)(E:Db x c v j)(hl:(gg j).length<=1099511627776)(H:gz c):
  Calls prog 57 #[.string q,v] c λb w'=>b=.returned (uz (fp q) (gg j):Int)/\Below c c w':=by
 obtain⟨T,S⟩:=aR (ahz x v j c E) H;obtain⟨va,vc,rfl,-⟩:=E;clear H;go_enter func57,ntmps57;go_wp2_with fail;refine T.1.mono ?_;rintro b w1 ⟨a,e,rfl,O,-,z⟩;obtain⟨D,X,R⟩:=bJ (aad (x+1) (by omega) a _ e j w1 O hl) (S.1.below z) z;unfold qV at D ⊢;clear O z;go_wp2_with fail;refine D.1.mono ?_;rintro b w2 ⟨v2,rfl,Q,y⟩;obtain⟨qT,W,ev⟩:=bJ Q (X.1.below y) (ar R.1 y);clear Q y;go_wp2_with fail;refine(PW q v2 (gg j) _ (by omega) qT.1 (ahA _) (by omega) W.1).mono ?_;rintro b w3 ⟨rfl,Z⟩;go_wp2_with fail;go_ret;exact⟨rfl,ar ev.1 Z⟩
theorem abd(a n:Int)(c:World)(ha:El a)(hn:aN n):
  Calls prog 21 #[a,n] c λb w'=>b=.returned (bm a n:Int)/\Below c c w':=by
 go_enter func21,ntmps21;go_wp2_with fail;with_reducible refine(vf a n _ ha hn).mono ?_
 rintro b y ⟨rfl,q⟩;go_wp2_with fail;go_ret;exact⟨rfl,q⟩
theorem ahC{b:World->Value->aO->Prop}{q y z D:Value}{E H O Q:aO}(X:d.cell? (s,0)=some q)(Z:d.cell? (s,1)=some y)(c2:d.cell? (s,2)=some z)(c3:d.cell? (s,3)=some D)
  (R:b d q E) (S:b d y H) (T:b d z O) (W:b d D Q):QH b d (.slice (s,0) 4 4) [E,H,O,Q]:=
 ⟨_,4,rfl,by simp,by simp,λk hk=>by
  match k,hk with
  |0,_=>exact⟨s,0,q,rfl,X,R⟩
  |1,_=>exact⟨s,0,y,rfl,Z,S⟩
  |2,_=>exact⟨s,0,z,rfl,c2,T⟩
  |3,_=>exact⟨s,0,D,rfl,c3,W⟩⟩
theorem ahD{b:World->Value->aO->Prop}{q y z:Value}{D E H:aO}(S:d.cell? (s,0)=some q)(T:d.cell? (s,1)=some y)(W:d.cell? (s,2)=some z)
  (O:b d q D) (Q:b d y E) (R:b d z H):QH b d (.slice (s,0) 3 3) [D,E,H]:=
 ⟨_,3,rfl,by simp,by simp,λk X=>by
  match k,X with
  |0,_=>exact⟨s,0,q,rfl,S,O⟩
  |1,_=>exact⟨s,0,y,rfl,T,Q⟩
  |2,_=>exact⟨s,0,z,rfl,W,R⟩⟩
theorem anyI{n:Int}(b:aN n):JJ x d (.iface 3 n) (dB n):=.inl ⟨n,b,rfl,rfl⟩
theorem ahE{e:Nat}(q:fC d (.slice a n e) i)(b:i.length<=1000000):JJ x d (.iface 28 (.slice a n e)) (lB i):=.inr (.inl ⟨a,n,e,i,rfl,q,b,rfl⟩)
theorem ata{e:Nat}(b:VL (ig x) d (.slice a n e) j):JJ x d (.iface 72 (.agg #[(3:Int),(0:Int),.string ⟨#[]⟩,.slice a n e])) (gg j):=.inr (.inr ⟨a,n,e,j,rfl,b,rfl⟩)
theorem abe(b:i.length<=1000000):(lB i).length<=1000011:=by unfold lB;have:=L5 (f:=i.length) (by omega);simp;omega
theorem QL{y:Nat}(R:j.length<=1000000)(q:∀b∈j,b.length<=y):(gg j).length<=11+j.length*y:=by
 have Q:∀j:List aO,(∀b∈j,b.length<=y)->j.flatten.length<=j.length*y:=by
  intro j
  induction j with
  |nil=>intro _;simp
  |cons b j H =>
   intro q;rw[List.flatten_cons,fu,dZ,FG,DE];have z:=q b (by simp);have D:=H (λO E=>q O (by simp[E]));omega
 have z:=Q j q;have D:=L5 (f:=j.length) (by omega);unfold gg;rw[dZ,fu];omega
def ahF:ByteArray:=⟨#[98,105,110,100]⟩
def MC:ByteArray:=⟨#[115,105,103,110]⟩
def BO(e:Int)(i:aO)(r:List aO)(k:Int):Int:=uz (fp ahF) (gg [dB e,lB i,gg r,dB k])
theorem ahG(e:Int)(i:aO)(r:List aO)(k:Int):0<=BO e i r k/\BO e i r k<1073741789:=PV _ _
def MF(y:Int)(E z cv H pv O b:Value)(D q:Int):Array Value:=#[.int .i64 y,E,z,cv,H,pv,O,.int .i64 3,.int .i64 0,.string ⟨#[]⟩,b,.int .i64 D,.int .i64 q]
structure xx(s:Nat)(D:Int)(O E cv y pv Q b:Value)(H z e:Int)(i:aO)(r:List aO)(d:World):Prop where
 row:d.heap[s]?=QC.mk (MF D O E cv y pv Q b H z) 74
 com:∃a n k q u,cv=.slice a n k/\a=some ⟨q,u,none⟩/\0<n/\aN e/\d.cell? ⟨q,u,none⟩=e
 txt:fC d y i
 few:i.length<=100000
 all:VL (ig 1) d b r
 fewA:r.length<=64
 eachA:∀R∈r,R.length<=1000
theorem xx.below{D:Int}{O E cv Q pv R y:Value}{H z:Int}(b:xx s D O E cv Q pv R y H z e i r d)(q:Below d d t):xx s D O E cv Q pv R y H z e i r t:=by
 obtain⟨a,n,k,S,u,T,W,X,Z,h5⟩:=b.com;exact⟨az q b.row,⟨a,n,k,S,u,T,W,X,Z,U q h5⟩,b.txt.below q,b.few,b.all.below (λz2z z0z b=>b.below q) q,b.fewA,b.eachA⟩
theorem abf(s:Nat)(ep:Int)(rv ov cv tv pv yv av:Value)(pt ch e:Int)(i:aO)(r:List aO)(k no z0 z1:Int)(c:World)(q:xx s ep rv ov cv tv pv yv av pt ch e i r c)(hk:aN k)(hG:gz c):
  Calls prog 22 #[(s,0),.agg #[k,no,z0,z1]] c λT w'=>T=.returned (BO e i r k:Int)/\Below c c w':=by
 obtain⟨b,aE,D,aI⟩:=tm c k no z0 z1 59;have jh:Below b b b.drew:=(aY _ _).drew;have E8:=A ((q.below D).below jh);obtain⟨a,n,kc,S,u,rfl,rfl,Aa,iY,gR⟩:=(q.below D).com;obtain⟨H,O,rfl,-⟩:=id q.txt;obtain⟨Q,R,rfl,-⟩:=id q.all;have E:=az D q.row;have c3:=Y E (k:=3) (d:=.slice (S,u) n kc) rfl;have c4:=Y E (k:=4) (d:=.slice H i.length O) rfl;have c7:=Y E (k:=7) (d:=(3:Int)) rfl;have c8:=Y E (k:=8) (d:=(0:Int)) rfl;have c9:=Y E (k:=9) (d:=.string ⟨#[]⟩) rfl;have c10:=Y E (k:=10) (d:=.slice Q r.length R) rfl;have x0:=Y aI (k:=0) (d:=k) rfl;have HL:Hid ((gg [dB e,lB i,gg r,dB k]).length<=1099511627776):=A (by
  have h1:=Bu iY;have h2:=Bu hk;have h3:=abe (i:=i) (by have:=q.few;omega);have h4:=QL (y:=1000) (by have:=q.fewA;omega) q.eachA;have h5:=q.fewA;have:=QL (j:=[dB e,lB i,gg r,dB k]) (y:=1100000) (by simp) (by
   intro z1z hx;simp only[iu,oG,oH]at hx;rcases hx with rfl|rfl|rfl|rfl<;>omega)
  simp only[dZ,je]at this;omega)
 have bp:=A aE;have HF:Hid (∀z:World,z=(b.alloc (.cells #[.iface 3 e,.iface 28 (.slice H i.length O),.iface 72 (.agg #[(3:Int),(0:Int),.string ⟨#[]⟩,.slice Q r.length R]),.iface 3 k] 20)).drew->Db 1 z (.slice (b,0) 4 4) [dB e,lB i,gg r,dB k]/\Below c c z/\gz z):=A (λz T=>by
  have Z:Below b b z:=by rw[T];exact(bk b _ _).drew
  have hq:=World.alloc_heap_new b (.cells #[.iface 3 e,.iface 28 (.slice H i.length O),.iface 72 (.agg #[(3:Int),(0:Int),.string ⟨#[]⟩,.slice Q r.length R]),.iface 3 k] 20);have W:z.heap[b.heap.size]?=QC.mk #[.iface 3 e,.iface 28 (.slice H i.length O),.iface 72 (.agg #[(3:Int),(0:Int),.string ⟨#[]⟩,.slice Q r.length R]),.iface 3 k] 20:=by rw[T];exact hq
  have cG:=(q.below D).below Z;exact⟨ahC (Y W rfl) (Y W rfl) (Y W rfl) (Y W rfl) (anyI iY) (ahE cG.txt (by have:=cG.few;omega)) (ata cG.all) (anyI hk),ar D Z,(hG.below D).below Z⟩)
 have jU:Hid (∀w',Below b b w'->w'.cell? (s,3)=some (.slice (S,u) n kc)/\w'.cell? (S,u)=e/\w'.cell? (s,4)=some (.slice H i.length O)/\w'.cell? (s,7)=(3:Int)/\w'.cell? (s,8)=(0:Int)/\w'.cell? (s,9)=some (.string ⟨#[]⟩)/\w'.cell? (s,10)=some (.slice Q r.length R)/\w'.cell? (c,0)=k):=A (λw' y=>⟨U y c3,U y gR,U y c4,U y c7,U y c8,U y c9,U y c10,U y x0⟩);clear q hG D aI jh iY hk E aE;go_enter func22,ntmps22;go_wp2_with (rw[<-bp.1]);go_region_held3 (λw'=>w'.cell? (s,3)=some (.slice (S,u) n kc)/\w'.cell? (S,u)=e/\w'.cell? (s,4)=some (.slice H i.length O)/\w'.cell? (s,7)=(3:Int)/\w'.cell? (s,8)=(0:Int)/\w'.cell? (s,9)=some (.string ⟨#[]⟩)/\w'.cell? (s,10)=some (.slice Q r.length R)/\w'.cell? (c,0)=k) (first|go_keep|exact kf)
  (first|(go_simp;go_at_call 57;obtain⟨hA,rJ,GU⟩:=HF.1 _ rfl;(refine(ahB 1 (by decide) ahF _ _ _ (by decide) hA HL.1 GU).mono ?_);rintro T w6 ⟨rfl,X⟩;have kf:=jU.1 w6 (((aY _ _).alloc (aP _) _).drew.trans (X.mono (by simp)));have cO:=A (ar rJ X);clear hA rJ GU X))
 go_wp2_with fail;go_ret;exact⟨rfl,cO.1⟩
def JL(e:Int)(i:aO)(r:List aO)(k b q:Int):Int:=b*bm q (BO e i r k)%2147483579
theorem ahH{k b q:Int}(y:El b)(z:El q):El (JL e i r k b q):=Eh y (fJ z _)
theorem atb(s:Nat)(ep:Int)(rv ov cv tv pv yv W:Value)(pt ch e:Int)(i:aO)(r:List aO)(k z q b:Int)(c:World)(hW:xx s ep rv ov cv tv pv yv W pt ch e i r c)(hk:aN k)(hD:El q)(Q:El b)(hG:gz c):
  Calls prog 56 #[(s,0),.agg #[k,z,q,b]] c λH w'=>H=.returned (JL e i r k q b:Int)/\Below c c w':=by
 obtain⟨y,S,D,T⟩:=tm c k z q b 59;have R:Below y y y.drew:=(aY _ _).drew;obtain⟨HB,du,HD,HE,ti,HV,HEP⟩:=qy (abf s ep rv ov cv tv pv yv W pt ch e i r k z q b y.drew ((hW.below D).below R) hk ((hG.below D).below R)) D hD Q (ahG e i r k) (show JL e i r k q b=q*bm b (BO e i r k)%2147483579 from rfl) (fJ Q (BO e i r k));obtain⟨x0,x1,x2,x3⟩:=fh T;have bp:=A S;have jU:Hid (∀w',Below y y w'->w'.cell? (c,0)=k/\w'.cell? (c,1)=z/\w'.cell? (c,2)=q/\w'.cell? (c,3)=b):=A (λw' E=>⟨U E x0,U E x1,U E x2,U E x3⟩);generalize JL e i r k q b=nv at *;generalize BO e i r k=X at *;clear hW hG D T R hk hD Q S;go_enter func56,ntmps56;go_wp2_with (rw[<-bp.1]);go_region_held3 (λw'=>w'.cell? (c,0)=k/\w'.cell? (c,1)=z/\w'.cell? (c,2)=q/\w'.cell? (c,3)=b) (first|go_keep|exact qY|exact kf)
  (first
   |(go_simp;go_at_call 22;(refine HB.1.mono ?_);rintro H w6 ⟨rfl,O⟩;have kf:=jU.1 w6 ((aY _ _).drew.trans O);have cO:=A ((aY y.heap.size y).drew.trans O);clear O)
   |(go_simp;go_at_call 21;(refine(abd b X _ HE.1 (dK ti.1)).mono ?_);rintro H w7 ⟨rfl,Z⟩;have hZ:=A (ar cO.1 Z);have qY:=jU.1 w7 hZ.1;clear Z)
   |(go_simp;go_at_call 92;(with_reducible refine(Ej q (bm b X) _ HD.1 HEP.1).mono ?_);rintro H w8 ⟨rfl,rfl⟩))
 all_goals
  go_wp2_with fail;go_ret;exact⟨fL HV.1.symm,ar du.1 hZ.1⟩
def vG(c:World)(v:Value)(l:List (Int×Int×Int×Int)):Prop:=∃a q,v=.slice a l.length q/\l.length<=q/\l.length<=64/\(∀p∈l,aN p.1/\aN p.2.1/\aN p.2.2.1/\aN p.2.2.2) /\
 ∀k (y:k<l.length),∃b u,a=some ⟨b,u,none⟩/\c.cell? ⟨b,u+k*4,none⟩=some (.int .i64 l[k].1)/\c.cell? ⟨b,u+k*4+1,none⟩=some (.int .i64 l[k].2.1)/\c.cell? ⟨b,u+k*4+2,none⟩=some (.int .i64 l[k].2.2.1)/\c.cell? ⟨b,u+k*4+3,none⟩=some (.int .i64 l[k].2.2.2)
theorem vG.below{l:List (Int×Int×Int×Int)}(X:vG c v l)(b:Below c c w'):vG w' v l:=by
 obtain⟨a,z,rfl,Q,S,T,R⟩:=X;refine⟨a,z,rfl,Q,S,T,λk q=>?_⟩;obtain⟨y,W,ha,D,E,H,O⟩:=R k q;exact⟨y,W,ha,U b D,U b E,U b H,U b O⟩
def BP(e:Int)(i:aO)(r:List aO)(l:List (Int×Int×Int×Int)):Nat->Int
 |0=>1
 |k+1=>BP e i r l k*JL e i r (l.getD k (0,0,0,0)).1 (l.getD k (0,0,0,0)).2.2.1 (l.getD k (0,0,0,0)).2.2.2%2147483579
theorem abg{l:List (Int×Int×Int×Int)}(b:∀p∈l,El p.2.2.1/\El p.2.2.2):∀k,k<=l.length->El (BP e i r l k)
 |0,_=>LG
 |k+1,y=>by
  have q:l.getD k (0,0,0,0)∈l:=by rw[kR,fw y];exact bM _
  exact Eh (abg b k (by omega)) (ahH (b _ q).1 (b _ q).2)
theorem atc(s:Nat)(Q:Int)(rv ov cv tv pv yv H:Value)(pt O e:Int)(i:aO)(r:List aO)(lv:Value)(l:List (Int×Int×Int×Int))(c:World)(T:xx s Q rv ov cv tv pv yv H pt O e i r c)(hL:vG c lv l)(D:∀p∈l,El p.2.2.1/\El p.2.2.2)(S:gz c):
  Calls prog 55 #[lv,.func (.func 56) #[(s,0)] #[]] c λE w'=>E=.returned (BP e i r l l.length:Int)/\Below c c w':=by
 obtain⟨a,cap,rfl,hc,hl,Z,X⟩:=hL;obtain⟨E8,HG,HE,HR,HK,HP⟩:=oJ T S D Z X (abg (e:=e) (i:=i) (r:=r) D);clear T S D Z X;go_enter func55,ntmps55;go_wp2_with fail;go_loopw[5,10] (λz1z f d=>∃k:Nat,k<=l.length/\f=k/\z1z=(BP e i r l k:Int)/\Below c c d) (λ_ f _=>l.length-(intOf f).toNat);case atStart=>exact⟨0,bS _,rfl,rfl,aY _ _⟩
 case round =>
  obtain⟨k,dg,rfl,rfl,b⟩:=hrel;by_cases z:k<l.length
  ·obtain⟨z0,off,rfl,q1,q2,q3,q4⟩:=HK.1 k z;have c1:=U b q1;have c2:=U b q2;have c3:=U b q3;have c4:=U b q4;have W:l.getD k (0,0,0,0)=l[k]:=by rw[kR,fw z];rfl
   have j5:BP e i r l (k+1)=BP e i r l k*JL e i r l[k].1 l[k].2.2.1 l[k].2.2.2%2147483579:=by rw[<-W];rfl
   have q:=HE.1 _ (bM z);have qO:=HR.1 _ (bM z);have R:=bk wr #[.int .i64 l[k].1,.int .i64 l[k].2.1,.int .i64 l[k].2.2.1,.int .i64 l[k].2.2.2] 59;have y:=ar b R;obtain⟨HN,Bp,dG,mz,ev⟩:=gw (atb s Q rv ov cv tv pv yv H pt O e i r l[k].1 l[k].2.1 l[k].2.2.1 l[k].2.2.2 _ (E8.1.below y) qO.1 q.1 q.2 (HG.1.below y)) (HP.1 k dg) (ahH (e:=e) (i:=i) (r:=r) (k:=l[k].1) q.1 q.2) j5 y;clear q1 q2 q3 q4 W q qO R j5 b y;generalize JL e i r l[k].1 l[k].2.2.1 l[k].2.2.2=nv at *;generalize l[k].1=z1 at *;generalize l[k].2.1=z2 at *;generalize l[k].2.2.1=z3 at *;generalize l[k].2.2.2=z4 at *;generalize BP e i r l k=pk at *;go_wp2_with fail;refine HN.1.mono ?_;rintro E w1 ⟨rfl,au⟩;go_wp2_with fail;with_reducible refine(Ej pk nv _ Bp.1 dG.1).mono ?_
   rintro E w2 ⟨rfl,rfl⟩;go_wp2_with fail;go_roundw;case rel=>exact⟨k+1,by omega,by go_num,by rw[mz.1],ar ev.1 au⟩
   case measure=>simp[intOf];omega
  ·obtain rfl:k=l.length:=by omega
   have HB:=A b;clear b;go_wp2_with fail;go_ret;exact⟨rfl,HB.1⟩
attribute [local go_sem] DF
section
variable {P:Program} {x:Option Tmp} {B:TypeId} {p:String} {N:Array Edge} {g:Option (Nat×Bool)}
end
attribute [local go_sem] Oper.semAt_some
attribute [local go_sem] Oper.semAt_some
theorem atd{β:Type}{a b:List β}(z:k<a.length)(D:k<b.length)(y:a[k]≠b[k]):a≠b:=λq=>y (by subst q;rfl)
theorem ate(w v:Value)(a q:V)(c:World)(hA:aM c w a)(hB:aM c v q):
  Calls prog 110 #[w,v] c λz0z w'=>z0z=.returned (.bool (decide (a=q)))/\Below c c w':=by
 obtain⟨a1,k1,rfl,iP,eI,aI,cU⟩:=hA;obtain⟨a2,k2,rfl,lj,dR,bE,bW⟩:=hB;by_cases z:a.length=q.length;rotate_left
 ·have yY:((a.length:Int)!=(q.length:Int))=true:=by rw[jg];omega
  have H:Hid (decide (a=q)=false):=A (bw (λD=>z (by rw[D])));clear z;go_enter func110,ntmps110;go_wp2_with fail;go_ret;exact⟨cg H.1.symm,aY _ _⟩
 have yY:((a.length:Int)!=(q.length:Int))=false:=by rw[z];simp
 have T:=A z;have yZ:Hid (∀k (D:k<a.length),∃E,E=(q[k]'(by rw[<-T.1];exact D))/\∃z0 X,a2=some ⟨z0,X,none⟩/\c.cell? ⟨z0,X+k,none⟩=some (.int .i64 E)):=A (λk D=>⟨_,rfl,bW k (by omega)⟩);have Az:=A cU;rw[<-z]at yY dR ⊢;clear z cU bW;go_enter func110,ntmps110;go_wp2_with fail;go_loopw[13] (λf d=>∃k:Nat,k<=a.length/\f=.int .i64 k/\Hid (∀b (O:b<a.length) (Q:b<q.length),b<k->a[b]=q[b])/\Below c c d) (λf _=>a.length-(intOf f).toNat);case atStart=>exact⟨0,bS _,rfl,A λb _ _ D=>absurd D (fG _),aY _ _⟩
 case round =>
  obtain⟨k,dg,rfl,HP,R⟩:=hrel;by_cases S:k<a.length
  ·obtain⟨p,X,rfl,qa⟩:=Az.1 k S;obtain⟨Z,hy,p',Lr,rfl,qc⟩:=yZ.1 k S;have y1:=U R qa;have y3:=U R qc;obtain⟨E,W⟩:=aK (a[k]);rw[<-W]at y1;have i1:(0:Int)<=(k:Int):=by omega
   have i2:(k:Int)<(a.length:Int):=by omega
   obtain⟨HX,HY,df⟩:=bJ W hy R;clear W hy qa qc R;by_cases y:E=Z
   ·have wK:(E !=Z)=false:=by simpa using y
    have HN:=A (show ∀b (O:b<a.length) (Q:b<q.length),b<k+1->a[b]=q[b] from λb O Q h3=>by
     by_cases z0z:b=k
     ·subst z0z;rw[<-HX.1,<-HY.1,y]
     ·exact HP.1 b O Q (by omega))
    clear y;go_wp2_with fail;go_region;go_wp2_with fail;go_roundw;case rel=>exact⟨k+1,by omega,by go_num,HN,df.1.drew⟩
    case measure=>simp[intOf];omega
   ·have wK:(E !=Z)=true:=by simpa using y
    have H:Hid (decide (a=q)=false):=A (bw (atd S (by rw[<-T.1];exact S) (by rw[<-HX.1,<-HY.1];exact y)));clear y;go_wp2_with fail;go_region;go_wp2_with fail;go_ret;exact⟨cg H.1.symm,df.1.drew⟩
  ·have H:Hid (decide (a=q)=true):=A (bB (x8 T.1 λb O Q=>HP.1 b O Q (by omega)));go_wp2_with fail;go_ret;exact⟨cg H.1.symm,R⟩
def ku(k:Nat)(B:Value):Value:=match B with
 |.tuple a=>a.getD k undef
 |_=>undef
attribute [local go_sem] Oper.semAt_some
attribute [local go_sem] Oper.semAt_some
attribute [local go_sem] Oper.semAt_some
abbrev O4:V:=[5,6,9,3]
theorem atf:f∈bP m h n↔f<n/\J m f∈h:=by
 unfold bP;simp
theorem ahI{at_:aO}:∀b,(∀q,q<b->at_.getD q 0≠f)->l6 at_ l b f=0
 |0,_=>rfl
 |b+1,y=>by
  unfold l6;rw[aA (λD=>y b (pO _) D.symm)];exact ahI b λq z=>y q (H5 z)
theorem ahJ{at_:aO}(H:at_.Pairwise (·<·))(E:∀a∈at_,a<n)(q:Nat->Fq):∀b,b<=at_.length->sm n (λf=>cq (l6 at_ l b f)*q f)=sm b (λz=>cv l z*q (at_.getD z 0))
 |0,_=>by
  rw[Gc λf _=>?_]
  ·rfl
  ·show cq 0*q f=0;rw[se];grind
 |b+1,Q=>by
  have D:b<at_.length:=Q;have ha:=dp D 0;have R:at_.getD b 0<n:=by rw[ha];exact E _ (bM D)
  have O:l6 at_ l b (at_.getD b 0)=0:=ahI b λz S=>by
   rw[ha,dp (show z<at_.length by omega)];have:=Co.1 H z b (by omega) D S;omega
  have T:∀f,f<n->cq (l6 at_ l (b+1) f)*q f=cq (l6 at_ l b f)*q f+(if f=at_.getD b 0 then cv l b*q (at_.getD b 0) else 0):=λf _=>by
   show cq (if f=at_.getD b 0 then J l b else l6 at_ l b f)*q f=_;by_cases y:f=at_.getD b 0
   ·rw[aD y,aD y,y,O,se];unfold cv;grind
   ·rw[aA y,aA y];grind
  rw[iJ T,Ed,ahJ H E q b (by omega),LD R (λf _ y=>aA y),aD rfl];rfl
theorem ath(m h:V)(n:Nat):(bP m h n).Pairwise (·<·):=by
 unfold bP;exact List.pairwise_lt_range.sublist List.filter_sublist
def y7(b:V)(o:ak)(k:Nat):Nat->Int
 |0=>0
 |f+1=>(y7 b o k f+J b f*J (o.getD f []) k)%1073741789
theorem ati(b:V)(o:ak)(k:Nat):∀f,0<=y7 b o k f/\y7 b o k f<1073741789
 |0=>by unfold y7;omega
 |f+1=>by unfold y7;omega
theorem abh(b:V)(o:ak)(k:Nat):∀n,cq (y7 b o k n)=sm n (λf=>cv b f*cv (o.getD f []) k)
 |0=>by unfold y7;rw[se];rfl
 |n+1=>by
  unfold y7;rw[nX,vd,wM,abh b o k n];rfl
structure Vq(o:ak)(m h b:V):Prop where
 len:b.length=o.length
 num:∀z∈b,0<=z/\z<1073741789
 own:∀f,f<o.length->J b f≠0->J m f∈h
 sum:∀k,k<bh o->y7 b o k o.length=if k=0 then 1 else 0
theorem ahK{at_:aO}(q:∀k,k<at_.length->0<=J l k/\J l k<1073741789):∀b,b<=at_.length->0<=l6 at_ l b f/\l6 at_ l b f<1073741789
 |0,_=>by unfold l6;omega
 |b+1,y=>by
  unfold l6;split
  ·exact q b y
  ·exact ahK q b (by omega)
theorem ahL{at_:aO}:∀b,b<=at_.length->l6 at_ l b f≠0->f∈at_
 |0,_,q=>absurd rfl q
 |b+1,y,q=>by
  unfold l6 at q;by_cases z:f=at_.getD b 0
  ·rw[z,dp y];exact bM y
  ·rw[aA z]at q;exact ahL b (by omega) q
theorem QM(Z:lU o m)(q:kK o m h=true):Vq o m h (bQ o m h):=by
 have H:=aaV (d:=h) Z;have T:mR (iS o m h) (gL (bh o))=true:=by
  unfold kK at q;rw[cu]at q;exact q.2
 have D:(iS o m h).length=(bP m h o.length).length:=by unfold iS;rw[dy]
 have S:∀k,k<(bP m h o.length).length->0<=J (fy (iS o m h) (gL (bh o))) k/\J (fy (iS o m h) (gL (bh o))) k<1073741789:=λk z=>Zl H (LU _) (by rw[D];exact z);have E:∀f,f<o.length->J (bQ o m h) f=l6 (bP m h o.length) (fy (iS o m h) (gL (bh o))) (bP m h o.length).length f:=λf b=>by
  unfold bQ Vg;rw[aD q,IU _ _ b]
 have hl:(bQ o m h).length=o.length:=by unfold bQ Vg;rw[aD q];simp
 refine⟨hl,λz0 hz=>?_,λf b R=>?_,λk z=>?_⟩
 ·obtain⟨f,b,rfl⟩:=FJ.1 hz;rw[<-di b,E f (by omega)];exact ahK S _ (aP _)
 ·rw[E f b]at R;exact(By (ahL _ (aP _) R)).2
 ·have W:=Zk H (LU _) T k (by rw[Gt];exact z);have X:=ahJ (l:=fy (iS o m h) (gL (bh o))) (ath m h o.length) (λa ha=>(By ha).1) (λf=>cv (o.getD f []) k) _ (aP _);have y:cq (y7 (bQ o m h) o k o.length)=cv (gL (bh o)) k:=by
   rw[abh,W,D,iJ (g:=λf=>cq (l6 (bP m h o.length) (fy (iS o m h) (gL (bh o))) (bP m h o.length).length f)*cv (o.getD f []) k) (λf b=>by unfold cv;rw[E f b]),X];refine iJ λz2z O=>?_;rw[TZ _ (by rw[D];exact O)]
   congr 1
   unfold iS;rw[gj,dp O]
  rw[aay z]at y;have hn:=ati (bQ o m h) o k o.length;by_cases Q:k=0
  ·rw[aD Q]at y ⊢;exact LC hn (by omega) (y.trans Pb.symm)
  ·rw[aA Q]at y ⊢;exact LC hn (by omega) (y.trans se.symm)
