/- Package linear: Check and examine. -/
import Derived.Test.YtaifagjclanodaaGreatDoorMSlices
import Derived.Test.YtaifagjclanodaaGreatDoorMCalm
import Derived.Shelf.Abstract
import Derived.OwnWalkIn
import Derived.TacticsInMore
import Derived.LoopNIn
import Derived.LoopIn
set_option maxHeartbeats 4000000
set_option maxRecDepth 100000
namespace Go.Proofs.YtaifagjclanodaaGreatDoor
open Go.Proofs.Tryz
open Go.RowKit
variable{m:Act}{t:Array Oper}{u:List Oper}{j r g d h:Nat}{i:Oper}{n:Option Nat}{P:Program}{s:TypeId}{a:Value}{c o b l:World}{f:V}{e:ak}
def wD(e:ak):Int:=if 64<e.length then 2 else mh e
def gy(e:ak)(f:V):Int:=
 if wD e=0 then
  if mh [f]=0 then (if e.length=0\/wide e=f.length then 0 else 130) else mh [f]
 else wD e
theorem aly(k:64<e.length):wD e=2:=by rw[wD,aD k]
theorem Yc(k:e.length<=64):wD e=mh e:=by rw[wD,aA (by omega)]
theorem bI.one{k:Value}(v:aM b k f)(s:TypeId):bI (b.alloc (.cells #[k] s)) (.slice (b,0) 1 1) [f]:=by
 refine⟨_,1,rfl,by simp,by simp,λq p=>⟨_,_,k,rfl,?_,?_⟩⟩
 ·rw[wg _ _ _ _ rfl];have:q=0:=by simp at p;omega
  subst this;rfl
 ·have:q=0:=by simp at p;omega
  subst this;exact v.below ((aY _ _).alloc (aP _) _)
theorem uU{w:FuncId}{args:Array Value}{v q:Ending}{p:World->Prop}(y:Calls P w args b λn k=>n=v/\p k)(x:v=q):Calls P w args b λn k=>n=q/\p k:=x▸y
theorem adt(k:Below (b.alloc (.cells #[a] s)).heap.size (b.alloc (.cells #[a] s)) l):
  l.cell? (b,0)=some a/\l.frozen? (b,0)=false:=by
 have q:b.heap.size<(b.alloc (.cells #[a] s)).heap.size:=by simp
 rw[k.cell (p:=⟨b.heap.size,0,none⟩) q,k.frozen (p:=⟨b.heap.size,0,none⟩) q,wg _ _ _ _ rfl,SB _ _ _ _ rfl];exact⟨rfl,rfl⟩
theorem alz(k:Below (b.alloc (.cells #[a] s)).heap.size (b.alloc (.cells #[a] s)) l)(p:Value):
  Below b b (l.setCell (b,0) p):=
 (((aY _ _).alloc (aP _) _).trans (k.mono (by simp))).setCell (aP _) _
theorem Oz{i:Obj}(k:Below (b.alloc i).heap.size (b.alloc i) l):Below b b l:=
 ((aY _ _).alloc (aP _) _).trans (k.mono (by simp))
theorem adu(k:wD e≠0):gy e f=wD e:=by rw[gy,aA k]
theorem alA(p:wD e=0)(k:mh [f]≠0):gy e f=mh [f]:=by rw[gy,aD p,aA k]
theorem alB(p:wD e=0)(k:mh [f]=0)(hn:¬ (e.length=0\/wide e=f.length)):gy e f=130:=by
 rw[gy,aD p,aD k,aA hn]
theorem adv(p:wD e=0)(k:mh [f]=0)(hn:e.length=0\/wide e=f.length):gy e f=0:=by
 rw[gy,aD p,aD k,aD hn]
theorem adw(S W:Value)(e:ak)(f:V)(b:World)(O:bI b S e)(hT:aM b W f):
  Calls prog 122 #[S,W] b λn w'=>n=raised (gy e f)/\Below b b w':=by
 have D:=O;obtain⟨m,cap,rfl,jC,hlen,Q⟩:=O;obtain⟨L,N,rfl,Z,qF,bE,M⟩:=hT;have G:aM b (.slice L f.length N) f:=⟨L,N,rfl,Z,qF,bE,M⟩;clear M;by_cases C:e.length<=64;case neg =>
  have hd:decide ((e.length:Int)<=64)=false:=bw (by omega);have q:=A (show raised (gy e f)=.panicked (Cw 2) by
   have:=aly (e:=e) (by omega);rw[adu (by rw[this];decide),this];rfl)
  clear C;go_enter func122,ntmps122;go_wp2_with fail;with_reducible refine(Ol _ _).mono ?_
  rintro p l ⟨rfl,rfl⟩;exact⟨rfl,q.1.symm,aY _ _⟩
 have hd:decide ((e.length:Int)<=64)=true:=bB (by omega);by_cases x:mh e=0;case neg =>
  have q:=A (show raised (gy e f)=.panicked (Cw (mh e)) by
   have:=Yc C;rw[adu (by rw[this];exact x),this];exact FT x)
  have y:=A x;clear x C;go_enter func122,ntmps122;go_wp2_with fail;with_reducible refine(DO _ _).mono ?_
  rintro p l ⟨rfl,rfl⟩;go_wp2_with fail;with_reducible refine(uU (DP _ e _ D) (FT y.1)).mono ?_
  rintro p l ⟨rfl,k⟩;exact⟨rfl,q.1.symm,k⟩
 obtain⟨E,y⟩:=aR ((Yc C).trans x) x;clear x C;by_cases z:mh [f]=0;case neg =>
  obtain⟨q,v⟩:=aR (show raised (gy e f)=.panicked (Cw (mh [f])) by rw[alA E.1 z];exact FT z) z;clear z;go_enter func122,ntmps122;go_wp2_with fail;with_reducible refine(DO _ _).mono ?_
  rintro p l ⟨rfl,rfl⟩;go_wp2_with fail;with_reducible refine(uU (DP _ e _ D) (A6 y.1)).mono ?_
  rintro p l ⟨rfl,k⟩;go_wp2_with fail;with_reducible refine(uU (DP _ [f] _ (bI.one (G.below k) _)) (FT v.1)).mono ?_
  rintro p I ⟨rfl,w⟩;exact⟨rfl,q.1.symm,k.trans ((Oz w).mono k.size)⟩
 have v:=A z;clear z;by_cases hn:e.length=0
 ·have q:=A (show raised (gy e f)=.returned (.tuple #[]) from A6 (adv E.1 v.1 (.inl hn)));have he:((e.length:Int)==0)=true:=by rw[gI];omega
  clear hn;go_enter func122,ntmps122;go_wp2_with fail;with_reducible refine(DO _ _).mono ?_
  rintro p l ⟨rfl,rfl⟩;go_wp2_with fail;with_reducible refine(uU (DP _ e _ D) (A6 y.1)).mono ?_
  rintro p l ⟨rfl,k⟩;go_wp2_with fail;with_reducible refine(uU (DP _ [f] _ (bI.one (G.below k) _)) (A6 v.1)).mono ?_
  rintro p I ⟨rfl,w⟩;go_wp2_with fail;with_reducible refine(DO _ _).mono ?_
  rintro p T ⟨rfl,rfl⟩;go_wp2_with fail;go_end0;exact⟨q.1.symm,k.trans ((Oz w).mono k.size)⟩
 have R:0<e.length:=by omega
 obtain⟨z0z,off,n,rfl,H,a',ue,rfl,acO,acP,Om,iy⟩:=Q 0 R;rw[rF]at H;have K:=A (A7 e R);have he:((e.length:Int)==0)=false:=by rw[eH];omega
 clear Q iy;by_cases F:e[0].length=f.length
 ·have q:=A (show raised (gy e f)=.returned (.tuple #[]) from A6 (adv E.1 v.1 (.inr (K.1▸F))));have hq:((e[0].length:Int)==(f.length:Int))=true:=by rw[gI];omega
  clear F hn;go_enter func122,ntmps122;go_wp2_with fail;with_reducible refine(DO _ _).mono ?_
  rintro p l ⟨rfl,rfl⟩;go_wp2_with fail;with_reducible refine(uU (DP _ e _ D) (A6 y.1)).mono ?_
  rintro p l ⟨rfl,k⟩;go_wp2_with fail;with_reducible refine(uU (DP _ [f] _ (bI.one (G.below k) _)) (A6 v.1)).mono ?_
  rintro p I ⟨rfl,w⟩;have B:=k.trans ((Oz w).mono k.size);have X:=U B H;go_wp2_with fail;with_reducible refine(DO _ _).mono ?_
  rintro p T ⟨rfl,rfl⟩;go_wp2_with fail;go_end0;exact⟨q.1.symm,B⟩
 ·have q:=A (show raised (gy e f)=.panicked (Cw 130) by
   rw[alB E.1 v.1 (by rw[<-K.1];simp[hn,F])];rfl)
  have hq:((e[0].length:Int)==(f.length:Int))=false:=by rw[eH];omega
  clear F hn;go_enter func122,ntmps122;go_wp2_with fail;with_reducible refine(DO _ _).mono ?_
  rintro p l ⟨rfl,rfl⟩;go_wp2_with fail;with_reducible refine(uU (DP _ e _ D) (A6 y.1)).mono ?_
  rintro p l ⟨rfl,k⟩;go_wp2_with fail;with_reducible refine(uU (DP _ [f] _ (bI.one (G.below k) _)) (A6 v.1)).mono ?_
  rintro p I ⟨rfl,w⟩;have B:=k.trans ((Oz w).mono k.size);have X:=U B H;go_wp2_with fail;with_reducible refine(Ol _ _).mono ?_
  rintro p T ⟨rfl,rfl⟩;exact⟨rfl,q.1.symm,B⟩
attribute [local go_sem] DF
structure Reads(w x k d:Nat)(q:Option Addr)(y:Nat)(a:Nat->Int)(p:Nat)(c:World):Prop where
 col:c.cell? (w,0)=k
 row:c.cell? (x,0)=some (.slice q d y)
 elem:k+p<d->∃v,q=some ⟨v,0,none⟩/\c.cell? ⟨v,k+p,none⟩=(a (k+p):Int)
theorem adx(x C p d:Nat)(K:Option Addr)(L:Nat)(a:Nat->Int)(X:p<=d)(hn:d<=17592186044416)(w:Nat->World->Prop)(z:∀k c,w k c->Reads x C p d K L a k c):
  Xy prog 204 #[(x,0),(C,0)] (d-p) (λk=>#[((p:Int)+(k:Int):Int),(a (p+k):Int)]) w:=by
 intro z5z D O c B H y;refine FH func204 rfl trivial ?_ rfl;simp only[ntmps204,kS,dZ,je,Nat.reduceAdd,Nat.reduceSub,kU,kV,kW,kX,jf,jn];have G:=B 0 c y;obtain⟨Q,S,-⟩:=z 0 c G
 gi_wp2
 gi_loopw[4] (λv wr=>∃k:Nat,k<=d-p/\v=((p+k:Nat):Int)/\D k wr) (λv _=>d-(intOf v).toNat)
 case atStart=>exact⟨0,bS _,rfl,y⟩
 case round =>
  obtain⟨k,Z,rfl,q⟩:=hrel;obtain⟨iP,lj,I⟩:=z k wr (B k wr q);by_cases E:p+k<d
  ·obtain⟨z0z,rfl,hx⟩:=I E;obtain⟨W,tmps,R,T,hy,F⟩:=H k wr q (by omega)
   gi_wp2
   refine⟨rfl,F.mono ?_⟩;rintro z2z W3 (⟨rfl,N⟩|⟨rfl,M⟩)
   ·gi_wp2
    go_roundw;case rel=>exact⟨k+1,by omega,by go_num,N⟩
    case measure=>simp[intOf];omega
   ·gi_wp2
    refine gB (xX rfl _ _ _) rfl ?_;exact⟨⟨_,rfl⟩,.inr ⟨k+1,by omega,M⟩⟩
  ·obtain rfl:k=d-p:=by omega
   gi_wp2
   go_end0;exact⟨⟨_,rfl⟩,.inl q⟩
theorem ady(k:Value)(q:Int)(b:World)(v:∃m d p,k=.slice m d p):
  Calls prog 177 #[k,q] b λx w =>
   x=.returned (.func (.func 204) #[] #[(b.heap.size+1,0),(b,0)])/\w=(b.alloc (.cells #[k] 23)).alloc (.cells #[q] 3):=by
 obtain⟨m,d,p,rfl⟩:=v;go_enter func177,ntmps177;go_wp2;go_ret;exact⟨rfl,rfl⟩
attribute [local go_sem] DF
structure ml(j h:Nat)(q:Nat->Nat)(d g:Nat)(a:Nat->Nat->Int)(c:World):Prop where
 tbB:j<=h
 rbB:∀p,p<d->j<=q p
 ne:∀p,p<d->q p≠h
 inj:∀p v,p<d->v<d->q p=q v->p=v
 row:∀p,p<d->∃w,c.cell? ⟨h,p,none⟩=some (.slice (q p,0) g w)
 rowF:∀p,p<d->c.frozen? ⟨h,p,none⟩=false
 elem:∀p k,p<d->k<g->c.cell? ⟨q p,k,none⟩=(a p k:Int)
 elemF:∀p k,p<d->k<g->c.frozen? ⟨q p,k,none⟩=false
 num:∀p k,p<d->k<g->0<=a p k/\a p k<1073741789
theorem OC{z:Nat->Nat}{a:Nat->Nat->Int}(k:ml j h z d g a c)(w:eM r c o):ml j h z d g a o where
 tbB:=k.tbB
 rbB:=k.rbB
 ne:=k.ne
 inj:=k.inj
 row:=λq p=>let ⟨B,y⟩:=k.row q p;⟨B,jx w y⟩
 rowF:=λq p=>by obtain⟨B,y⟩:=k.row q p;rw[Oh w y];exact k.rowF q p
 elem:=λq x p v=>jx w (k.elem q x p v)
 elemF:=λq x p v=>by rw[Oh w (k.elem q x p v)];exact k.elemF q x p v
 num:=k.num
theorem F1{B:Nat->Nat}{a:Nat->Nat->Int}(k:ml j h B d g a c)(y:Below c c o):ml j h B d g a o where
 tbB:=k.tbB
 rbB:=k.rbB
 ne:=k.ne
 inj:=k.inj
 row:=λq v=>let ⟨C,z⟩:=k.row q v;⟨C,U y z⟩
 rowF:=λq v=>by obtain⟨C,z⟩:=k.row q v;rw[y.frozen (p:=⟨h,q,none⟩) (iO z)];exact k.rowF q v
 elem:=λq w v x=>U y (k.elem q w v x)
 elemF:=λq w v x=>by rw[y.frozen (p:=⟨B q,w,none⟩) (iO (k.elem q w v x))];exact k.elemF q w v x
 num:=k.num
theorem set_other{v i k p:Nat}{B:Value}(q:v≠k\/i≠p):(c.setCell (v,i) B).cell? (k,p)=c.cell? (k,p):=by
 have x:((v,i):Addr)≠(k,p):=by
  intro w;have y:v=k:=congrArg Addr.block w;have z:i=p:=congrArg Addr.off w;rcases q with q|q
  ·exact q y
  ·exact q z
 simp[SC,x]
theorem adz{D:Nat->Nat}{a H:Nat->Nat->Int}(w:ml j h D d g a c){y k:Nat}(F:y<d)(M:k<g){B:Int}(K:0<=B/\B<1073741789)
  (G:∀p q,p<d->q<g->H p q=if p=y/\q=k then B else a p q):ml j h D d g H (c.setCell (D y,k) B) where
 tbB:=w.tbB
 rbB:=w.rbB
 ne:=w.ne
 inj:=w.inj
 row:=λp v=>by
  obtain⟨L,I⟩:=w.row p v;refine⟨L,?_⟩;rw[set_other (.inl (λz=>w.ne y F z))];exact I
 rowF:=λp v=>by rw[jK];exact w.rowF p v
 elem:=λp q v x=>by
  rw[G p q v x];by_cases z:p=y/\q=k
  ·obtain⟨rfl,rfl⟩:=z;rw[aD ⟨rfl,rfl⟩];exact jL _ _ _ (by rw[w.elem p q v x];rfl)
  ·rw[aA z];by_cases E:p=y
   ·subst E;rw[set_other (.inr (λC=>z ⟨rfl,C.symm⟩))];exact w.elem p q v x
   ·rw[set_other (.inl (λC=>E (w.inj p y v F C.symm)))];exact w.elem p q v x
 elemF:=λp q v x=>by rw[jK];exact w.elemF p q v x
 num:=λp q v x=>by
  rw[G p q v x];split
  ·exact K
  ·exact w.num p q v x
def zW(a:Nat->Nat->Int)(q w p x:Nat):Nat->Nat->Int:=λv k=>if v=q/\p<=k/\k<p+x then (a q k+-(a q p*a w k%1073741789))%1073741789 else a v k
def Ln(a:Nat->Nat->Int)(p w v:Nat):Nat->Nat->Int:=λq k=>if q=p/\v<=k then (a p k+-(a p v*a w k%1073741789))%1073741789 else a q k
theorem OD{k:World}(q:Below c c k):KeepsOthers c k:=⟨q.size,λv _ p _=>(q.block v (fF.1 p).1).trans p⟩
theorem adA{q:World}(k:b.grownBy c n)(p:Below c c q):b.grownBy q n:=
 ⟨p.os.trans k.os,p.tape.trans k.tape,p.output.trans k.output,bK k.size p.size,λw v x=>(p.block w (eJ v k.size)).trans (k.block w v x)⟩
theorem adB{n i:Nat}(k:b.grownBy c (some n))(x:Value):b.grownBy (c.setCell (n,i) x) (some n):=
 ⟨k.os,k.tape,k.output,by simp[World.setCell];exact k.size,λv q p=>(dJ _ _ _ _ (λw=>p (by rw[w]))).trans (k.block v q p)⟩
theorem Ye{x:Nat->Nat}{a y:Nat->Nat->Int}(p:ml j h x d g a c)(z:∀q k,q<d->k<g->a q k=y q k):ml j h x d g y c where
 tbB:=p.tbB
 rbB:=p.rbB
 ne:=p.ne
 inj:=p.inj
 row:=p.row
 rowF:=p.rowF
 elem:=λq k v w=>by rw[<-z q k v w];exact p.elem q k v w
 elemF:=p.elemF
 num:=λq k v w=>by rw[<-z q k v w];exact p.num q k v w
theorem adC(b:World)(i k:Obj):Below b b ((b.alloc i).alloc k):=((aY _ _).alloc (aP _) i).alloc (by simp) k
theorem OE(b:World)(i p k:Obj):Below b b (((b.alloc i).alloc p).alloc k):=(adC b i p).alloc (by simp;omega) k
theorem alC(b:World)(m k p q v:Value)(w h x y z:TypeId):∃c,c=(((((b.alloc (.cells #[m] w)).alloc (.cells #[k] h)).alloc (.cells #[p] x)).alloc (.cells #[q] y)).alloc (.cells #[v] z)) /\
  Below b b c/\c.heap.size=b.heap.size+1+1+1+1+1/\c.cell? (b,0)=some m/\c.cell? (b.heap.size+1,0)=some k/\c.cell? (b.heap.size+1+1,0)=some p /\
  c.cell? (b.heap.size+1+1+1,0)=some q/\c.cell? (b.heap.size+1+1+1+1,0)=some v:=by
 refine⟨_,rfl,((OE b _ _ _).alloc (by simp;omega) _).alloc (by simp;omega) _,by simp,?_,?_,?_,?_,?_⟩
 ·simp[go_sem]
 ·simp[go_sem]
 ·simp[go_sem]
 ·simp[go_sem]
 ·simp[go_sem]
structure Yf(j h:Nat)(q:Nat->Nat)(d g:Nat)(a:Nat->Nat->Int)(b:World)(w v:Value)(k x p y:Nat)(c:World):Prop where
 tab:ml j h q d g (zW a k x p y) c
 but:b.grownBy c (some (q k))
 c1:c.cell? (b,0)=some w
 c2:c.cell? (b.heap.size+1,0)=k
 c3:c.cell? (b.heap.size+1+1,0)=(a k p:Int)
 c4:c.cell? (b.heap.size+1+1+1,0)=some v
 c5:c.cell? (b.heap.size+1+1+1+1,0)=p
theorem Tk(p:b.grownBy c n)(k:eM r c o)(x:b.heap.size<=r):b.grownBy o n:=
 ⟨k.os.trans p.os,k.tape.trans p.tape,k.output.trans p.output,bK p.size k.size,λq v w=>(k.low q (by omega)).trans (p.block q v w)⟩
theorem alD{q:Nat->Nat}{a:Nat->Nat->Int}{w v:Value}{z x y B:Nat}(p:Yf j h q d g a b w v z x y B c)(k:eM r c o)(C:b.heap.size<=r):Yf j h q d g a b w v z x y B o:=
 ⟨OC p.tab k,Tk p.but k C,jx k p.c1,jx k p.c2,jx k p.c3,jx k p.c4,jx k p.c5⟩
theorem alE(a:Nat->Nat->Int)(q p v y k:Nat)(x:q≠p):zW a q p v y p k=a p k:=by
 unfold zW;rw[aA (by rintro⟨w,_⟩;exact x w.symm)]
theorem alF(a:Nat->Nat->Int)(p v k q:Nat):zW a p v k q p (k+q)=a p (k+q):=by
 unfold zW;rw[aA (by omega)]
theorem alG(a:Nat->Nat->Int)(v y p q x k:Nat):zW a v y p (q+1) x k=if x=v/\k=p+q then (a v (p+q)+-(a v p*a y (p+q)%1073741789))%1073741789 else zW a v y p q x k:=by
 unfold zW;by_cases z:x=v/\k=p+q
 ·obtain⟨rfl,rfl⟩:=z;rw[aD ⟨rfl,by omega,by omega⟩,aD ⟨rfl,rfl⟩]
 ·rw[aA z];by_cases w:x=v/\p<=k/\k<p+q
  ·rw[aD w,aD ⟨w.1,w.2.1,by omega⟩]
  ·rw[aA w,aA];rintro⟨B,C,E⟩;apply w;refine⟨B,C,?_⟩;by_cases D:k=p+q
   ·exact absurd ⟨B,D⟩ z
   ·omega
theorem alH(j h:Nat)(C:Nat->Nat)(d g:Nat)(a:Nat->Nat->Int)(b:World)(G:ml j h C d g a b)(L p v k:Nat)(H:p<d)(Z:v<d)(br:p≠v)(hc:k<g)(_hn:d<=1000000)(hm:g<=1000000):
  Calls prog 178 #[.slice (h,0) d L,p,v,k] b λz Q =>
   z=.returned (.tuple #[])/\b.grownBy Q (some (C p))/\ml j h C d g (Ln a p v k) Q:=by
 obtain⟨Tl,rP⟩:=G.row p H;obtain⟨S,mI⟩:=G.row v Z;have hxi:=G.elem p k H hc;have b2:=adC b (.cells #[.slice (h,0) d L] 195) (.cells #[p] 3);have ay7:=U b2 rP;have alI:=U b2 hxi;have T:=iO hxi;by_cases N:a p k=0
 ·have OF:ml j h C d g (Ln a p v k) b:=by
   refine Ye G (λK D iF M=>?_);unfold Ln;by_cases z:K=p/\k<=D
   ·have:=G.num K D iF M;rw[aD z,N,Int.zero_mul,z.1];rw[z.1]at this;omega
   ·rw[aA z]
  rw[N]at alI;clear N;refine wu func178 rfl ?_;simp only[ntmps178,kS,dZ,je,Nat.reduceAdd,Nat.reduceSub,kU,kV,kW,kX,jf,jn];go_wp2_with fail;refine Ik (f:=b.heap.size) (b:=.tuple #[]) (xX rfl _ _) ?_ [] _ trivial ⟨rfl,?_,F1 OF (OE b _ _ _)⟩
  ·rintro l w2 ⟨F,W,X⟩ I;exact⟨F,Tk W I (aP _),OC X I⟩
  ·have B:=OE b (.cells #[.slice (h,0) d L] 195) (.cells #[p] 3) (.cells #[(0:Int)] 3);exact⟨B.os,B.tape,B.output,B.size,λD M _=>B.block D M⟩
 ·have hz:(a p k==0)=false:=by simpa using N
  refine wu func178 rfl ?_;simp only[ntmps178,kS,dZ,je,Nat.reduceAdd,Nat.reduceSub,kU,kV,kW,kX,jf,jn];have ay8:=U (OE b (.cells #[.slice (h,0) d L] 195) (.cells #[p] 3) (.cells #[(a p k:Int)] 3)) mI;go_wp2_with fail;with_reducible refine(ady _ _ _ ⟨_,_,_,rfl⟩).mono ?_
  rintro z w5 ⟨rfl,uW⟩;obtain⟨c,hW,B,rQ,q1,q2,q3,q4,q5⟩:=alC b (.slice (h,0) d L) p (a p k:Int) (.slice (C v,0) g S) k 195 3 3 23 3;obtain rfl:w5=c:=uW.trans hW.symm;clear uW hW;have oP:ml j h C d g (zW a p v k 0) w5:=by
   have:zW a p v k 0=a:=by funext K D;unfold zW;rw[aA (by omega)]
   rw[this];exact F1 G B
  have rR:b.grownBy w5 (some (C p)):=⟨B.os,B.tape,B.output,B.size,λD M _=>B.block D M⟩;go_wp2_with fail;refine acB (n:=204) (v:=#[(b.heap.size+1+1+1+1,0),(b.heap.size+1+1+1,0)]) (k:=g-k) (fi:=λq=>#[((k:Int)+(q:Int):Int),(a v (k+q):Int)]) rfl (iw func204 (by kernel_rfl) rfl) (λ_=>rfl)
   (Yf j h C d g a b (.slice (h,0) d L) (.slice (C v,0) g S) p v k) (λ_ _ _=>False) ?seq ?qH (λ_ _ _ _ E _=>E) ⟨oP,rR,q1,q2,q3,q4,q5⟩
   (λq f=>(((f.setIfInBounds 26 ((k:Int)+(q:Int):Int)).setIfInBounds 27 (a v (k+q):Int)).setIfInBounds 9 ((k:Int)+(q:Int):Int)).setIfInBounds 10 (a v (k+q):Int)) ?assign ?body ?done (λ_ _ _ _ _ _ E=>E.elim)
  case seq =>
   refine adx _ _ k g (C v,0) S (λD=>a v D) (by omega) (by omega) _ ?_;intro q c x;refine⟨x.c5,x.c4,λT=>⟨_,rfl,?_⟩⟩;have:=x.tab.elem v (k+q) Z T;rwa [alE a p v k q _ br]at this
  case qH=>exact λq c o E I=>alD E I B.size
  case assign =>
   intro z6z q c z0 O
   gi_wp2
   exact O
  case body =>
   intro z6z q c x T;simp only[vZ,zH,AV]
   gi_wp2
   obtain⟨Tl,Yh⟩:=x.tab.row p H;have hf:∀y,Below c c y->y.cell? (b,0)=some (.slice (h,0) d L)/\y.cell? (b.heap.size+1,0)=p /\
     y.cell? (b.heap.size+1+1,0)=(a p k:Int)/\y.cell? (h,p)=some (.slice (C p,0) g Tl)/\y.cell? (C p,k+q)=(a p (k+q):Int):=λy F =>
    ⟨U F x.c1,U F x.c2,U F x.c3,U F Yh,U F (by have:=x.tab.elem p (k+q) H (by omega);rwa [alF]at this)⟩
   have R:k+q<g:=by omega
   have i1:0<=(k:Int)+(q:Int):=by omega
   have i2:(k:Int)+(q:Int)<(g:Int):=by omega
   have i3:((k:Int)+(q:Int)).toNat=k+q:=by omega
   refine acV 18 (by kernel_rfl) (by kernel_rfl) rfl rfl rfl (λy=>Below c c y) (aY _ _).drew (λz0 O=>?_);simp only[SE,KS];have HK:=A O;clear O
   iterate 14
    apply FW
    ·intro y w;obtain⟨f1,f2,f3,f4,f5⟩:=hf y w;go_simp;exact⟨w,rfl⟩
    go_simp
   have hmn:=uf (a p k*a v (k+q));have qA:=jw (-(a p k*a v (k+q)%1073741789)) (by omega);have r4:aN (-(a p k*a v (k+q)%1073741789)):=aN.mk (by omega) (by omega);have r1:aN (a p k):=dK (G.num p k H hc);have r2:aN (a v (k+q)):=dK (G.num v (k+q) Z R);have r3:aN (a p (k+q)):=dK (G.num p (k+q) H R);apply FW
   ·intro y w;go_simp;refine(A9 _ _ _ r1 r2).mono ?_;rintro z Q ⟨rfl,rfl⟩;exact⟨rfl,w⟩
   go_simp;apply FW
   ·intro y w;go_simp;exact⟨w,rfl⟩
   go_simp;apply FW
   ·intro y w;go_simp;refine(yr _ _ _ r3 r4).mono ?_;rintro z Q ⟨rfl,rS⟩;exact⟨rfl,ar w rS⟩
   go_simp;apply FW
   ·intro y w;go_simp;exact⟨w,rfl⟩
   go_simp;apply acT;apply HK.1;intro y w;have Lo:=F1 x.tab w;have hsf:=Lo.elemF p (k+q) H R;refine acW (f:=y.setCell (C p,k+q) ((a p (k+q)+-(a p k*a v (k+q)%1073741789))%1073741789:Int)) ?_ ?_
   ·go_simp
   ·refine⟨(OD w).trans (KeepsOthers.setCell _ _ _),?_⟩;exact⟨adz Lo H R (uf _) (λK k' _ _=>alG a p v k q K k'),adB (adA x.but w) _,
     by rw[set_other (.inl (by omega))];exact U w x.c1,by rw[set_other (.inl (by omega))];exact U w x.c2,by rw[set_other (.inl (by omega))];exact U w x.c3,
     by rw[set_other (.inl (by omega))];exact U w x.c4,by rw[set_other (.inl (by omega))];exact U w x.c5⟩
  case done =>
   intro r c hD x np hO;refine Ik (f:=b.heap.size) (b:=.tuple #[]) (xX rfl _ _) ?_ _ c ⟨⟨r,rfl,bK B.size hD,np,λ_ E=>by cases E⟩,trivial⟩ ⟨rfl,x.but,?_⟩
   ·rintro l w2 ⟨F,W,X⟩ I;exact⟨F,Tk W I (aP _),OC X I⟩
   ·refine Ye x.tab (λK D _ M=>?_);unfold zW Ln;by_cases z:K=p/\k<=D
    ·rw[aD z,aD ⟨z.1,z.2,by omega⟩]
    ·rw[aA z,aA (λE=>z ⟨E.1,E.2.1⟩)]
theorem Yi(b:World)(k:Value)(f:TypeId):(b.alloc (.cells #[k] f)).cell? (b,0)=some k:=by
 rw[wg _ _ _ _ rfl];rfl
theorem F2:(prog.info? 3).map (λk=>(k.zero,k.size,k.bytes))=some (some (.int .i64 0),1,8):=by kernel_rfl
theorem zX{C:Exit->Act->World->Prop}(H:i.guard=none)(B a:Operand)(O:i.op=.call {callee:=.builtin .append,args:=#[B,a],argTypes:=#[23,23]})
  (p d:Nat) (q:Value) (x:List Value) (Q:m.eval B=q) (F:c.ownsRow p 3 1 q d x) (y D:Nat) (z:Int) (R:m.eval a=.slice (y,0) 1 D) (G:c.cell? (y,0)=z) (hn:d<=1000000) (I:p<=c.heap.size)
  (X:∀v k,k.ownsRow p 3 1 v (d+1) (x++[.int .i64 z])->c.grownBy k q.ownBlock->wpList prog t C u (m.put i.dst v) k):wpList prog t C (i::u) m c:=by
 obtain⟨S,T,W,K,L⟩:=xY F2;refine SF _ H B a 23 O p 3 S (0:Int) 1 8 underlying23 T W K L rfl (by decide) q d x Q F (y,0) 1 D [z] R rfl ?_ ?_ ?_ ?_ I ?_
 ·intro E Z w;cases E with
  |zero=>simp at w;subst w;simpa [Addr.add] using G
  |succ E=>simp at w
 ·simp[Value.oneCell']
 ·unfold maxLen;omega
 ·omega
 ·intro v k M N _;exact X v k M N
theorem adD{D:Exit->Act->World->Prop}(K:i.guard=none)(C a:Operand)(R:i.op=.call {callee:=.builtin .append,args:=#[C,a],argTypes:=#[23,23]})
  (w d:Nat) (x:Value) (B:List Value) (S:m.eval C=x) (H:c.ownsRow w 3 1 x d B) (z:Addr) (F:Nat) (k:V) (T:m.eval a=.slice (some z) k.length F)
  (I:∀q (G:q<k.length),c.cell? (z.add q)=some (.int .i64 k[q])) (hn:d+k.length<=17592186044416) (L:w<=c.heap.size)
  (G:∀y v,v.ownsRow w 3 1 y (d+k.length) (B++k.map (Value.int .i64))->c.grownBy v x.ownBlock->wpList prog t D u (m.put i.dst y) v):wpList prog t D (i::u) m c:=by
 obtain⟨W,X,Z,M,N⟩:=xY F2;refine SF _ K C a 23 R w 3 W (0:Int) 1 8 underlying23 X Z M N rfl (by decide) x d B S H z k.length F (k.map (Value.int .i64)) T (by simp) ?_ ?_ ?_ ?_ L ?_
 ·intro q z4z p;rw[tY]at p;by_cases E:q<k.length
  ·rw[fw E]at p;simp at p;rw[<-p];exact I q E
  ·rw[Xs (by omega)]at p;cases p
 ·intro z4z p;obtain⟨z0,_,rfl⟩:=ey.1 p;rfl
 ·unfold maxLen;omega
 ·omega
 ·intro y v O Q _;exact G y v O Q
theorem alJ(B p d:Nat)(q:Value)(x:List Value)(E:c.ownsRow p 3 1 q d x)(y C:Nat)(z:Int)(F:c.cell? (y,0)=z)(hn:d<=1000000)(G:p<=c.heap.size):
  ∃v k,(Builtin.append_ #[23,23] B #[q,.slice (y,0) 1 C]).run prog c=.ok v k/\k.ownsRow p 3 1 v (d+1) (x++[.int .i64 z])/\c.grownBy k q.ownBlock:=by
 obtain⟨N,O,Q,H,I⟩:=xY F2;obtain⟨v,k,K,L,M,-⟩:=run_append_own (P:=prog) c p 23 B 3 N (0:Int) 1 8 underlying23 O Q H I rfl (by decide) q d x E (y,0) 1 C [z] rfl (by
  intro D R w;cases D with
  |zero=>simp at w;subst w;simpa [Addr.add] using F
  |succ D=>simp at w) (by simp[Value.oneCell']) (by unfold maxLen;omega) (by omega) G
 exact⟨v,k,K,L,M⟩
theorem alK{q:World}{p:Value}(v a:Operand)(t1 t2:TypeId)(x:i.op=.call {callee:=.builtin .append,args:=#[v,a],argTypes:=#[t1,t2]})
  (k w:Value) (z:m.eval v=k) (B:m.eval a=w) (y:(Builtin.append_ #[t1,t2] i.type #[k,w]).run P c=.ok p q):(execOp m.eval i).run P c=.ok (.value p) q:=by
 unfold execOp;simp only[x,resolve,invoke,builtin,Cm,Sem.run_pure,Result.andThen_ok,List.map_toArray,zQ,FI,z,B,y]
