/- The words in which the contracts of this claim are stated: slices of integers that read as lists, wo. -/
import Derived.Test.YtaifagjclanodaaGreatDoorProg
import Derived.WalkKit
import Derived.BigQuiet
import Derived.Lib.Hide
import Derived.RangeFuncFrom
import Derived.RangeFuncLeaves
import Derived.RangeFuncCalls
import Derived.RangeFuncBound
import Derived.Deep.OwnRows
namespace Go.Proofs.YtaifagjclanodaaGreatDoor
open Go.RowKit
structure Hid(p:Prop):Prop where
 out:p
theorem A{p:Prop}(a:p):Hid p:=⟨a⟩
structure QC where
 a:Array Value
 t:TypeId
instance ayS:Coe Int Value:=⟨λa=>.int .i64 a⟩
instance ayT:Coe Nat Value:=⟨λa=>.int .i64 (a:Int)⟩
instance ayU:Coe Bool Value:=⟨λa=>.bool a⟩
instance ayV:Coe Int (Option Value):=⟨λa=>some (.int .i64 a)⟩
instance ayW:Coe Nat (Option Value):=⟨λa=>some (.int .i64 (a:Int))⟩
instance ayX (a b:Nat):CoeDep (Nat×Nat) (a,b) Addr:=⟨⟨a,b,none⟩⟩
instance ayY (a b:Nat):CoeDep (Nat×Nat) (a,b) (Option Addr):=⟨some ⟨a,b,none⟩⟩
instance ayZ (a b:Nat):CoeDep (Nat×Nat) (a,b) Value:=⟨.pointer (some ⟨a,b,none⟩)⟩
instance ay0:Coe World Nat:=⟨λa=>a.heap.size⟩
instance ay1 (a:World)(b:Nat):CoeDep (World×Nat) (a,b) Addr:=⟨⟨a.heap.size,b,none⟩⟩
instance ay2 (a:World)(b:Nat):CoeDep (World×Nat) (a,b) (Option Addr):=⟨some ⟨a.heap.size,b,none⟩⟩
instance ay3 (a:World)(b:Nat):CoeDep (World×Nat) (a,b) Value:=⟨.pointer (some ⟨a.heap.size,b,none⟩)⟩
instance ay4:Coe Unit Value:=⟨λ_=>.slice none 0 0⟩
instance ay5 (a:Array Value)(b:TypeId):CoeDep QC (.mk a b) (Option Obj):=⟨some (.cells a b (0,0))⟩
abbrev gu:=List (List (Int×Int))
abbrev ak:=List (List Int)
abbrev bF:=List (Int×Int)
abbrev V:=List Int
abbrev aO:=List Nat
abbrev aA:=@if_neg
abbrev aD:=@if_pos
abbrev aP:=@Nat.le_refl
abbrev aY:=@Below.refl
abbrev bw:=@decide_eq_false
abbrev bB:=@decide_eq_true
abbrev bK:=@Nat.le_trans
abbrev bM:=@List.getElem_mem
abbrev bS:=@Nat.zero_le
abbrev cu:=@Bool.and_eq_true
abbrev dr:=@Value.slice.injEq
abbrev dy:=@List.length_map
abbrev dJ:=@Below.heap_setCell
abbrev dT:=@List.mem_range
abbrev dZ:=@List.length_cons
abbrev ey:=@List.mem_map
abbrev eH:=@beq_eq_false_iff_ne
abbrev eJ:=@Nat.lt_of_lt_of_le
abbrev eP:=@Nat.le_succ
abbrev fg:=@List.all_eq_true
abbrev fu:=@List.length_append
abbrev fw:=@List.getElem?_eq_getElem
abbrev fF:=@Array.getElem?_eq_some_iff
abbrev fG:=@Nat.not_lt_zero
abbrev fU:=@decide_eq_true_eq
abbrev gi:=@Array.getD_eq_getD_getElem?
abbrev gj:=@List.getElem_map
abbrev gB:=@bodyPost_ret
abbrev gI:=@beq_iff_eq
abbrev gJ:=@List.map_append
abbrev gQ:=@Nat.le_of_lt
abbrev iu:=@List.mem_cons
abbrev iv:=@World.ownsRow_nil
abbrev iN:=@Nat.zero_add
abbrev je:=@List.length_nil
abbrev jf:=@List.nil_append
abbrev jg:=@bne_iff_ne
abbrev jn:=@List.cons_append
abbrev jv:=@List.take_succ_eq_append_getElem
abbrev jw:=@IntWalk.i64_in
abbrev jJ:=@List.mem_singleton
abbrev jK:=@World.frozen?_setCell
abbrev jL:=@World.cell?_setCell_same'
abbrev jY:=@Bool.true_and
abbrev kA:=@Option.map_eq_some_iff
abbrev kR:=@List.getD_eq_getElem?_getD
abbrev kS:=@List.size_toArray
abbrev kU:=@Array.replicate_succ
abbrev kV:=@Array.replicate_zero
abbrev kW:=@List.push_toArray
abbrev kX:=@List.append_toArray
abbrev lM:=@Array.getElem?_eq_getElem
abbrev lN:=@List.mem_append
abbrev lO:=@Int.mul_emod
abbrev lP:=@List.flatMap_cons
abbrev me:=@Int.natCast_nonneg
abbrev mD:=@List.map_map
abbrev m9:=@List.take_length
abbrev oG:=@List.not_mem_nil
abbrev oH:=@or_false
abbrev oI:=@List.any_eq_true
abbrev pM:=@Int.tmod_eq_emod_of_nonneg
abbrev pN:=@Prod.mk.injEq
abbrev pO:=@Nat.lt_succ_self
abbrev rB:=@World.cell?_of_block
abbrev rD:=@List.getElem?_append_right
abbrev rF:=@Nat.add_zero
abbrev sP:=@List.range_succ
abbrev sQ:=@leaves_cons
abbrev sR:=@Array.getElem?_toList
abbrev tX:=@Option.some.injEq
abbrev tY:=@List.getElem?_map
abbrev tZ:=@Below.alloc
abbrev uN:=@List.getElem?_append_left
abbrev uO:=@Int.pow_zero
abbrev uP:=@Bool.false_and
abbrev vZ:=@List.setIfInBounds_toArray
abbrev we:=@List.getElem?_take
abbrev wg:=@World.cell?_alloc_at
abbrev wh:=@List.mem_cons_self
abbrev wi:=@List.mem_cons_of_mem
abbrev xU:=@Below.heap_alloc
abbrev xV:=@Nat.mod_lt
abbrev xW:=@mem_ready
abbrev xX:=@results_none
abbrev xY:=@info_parts
abbrev xZ:=@List.map_congr_left
abbrev x8:=@List.ext_getElem
abbrev x9:=@List.filter_append
abbrev zH:=@List.set_cons_succ
abbrev zI:=@Nat.sub_self
abbrev zJ:=@List.take_of_length_le
abbrev zM:=@wpS_seq
abbrev zN:=@wpS_region
abbrev zO:=@getD_set_ne
abbrev zP:=@Int.pow_succ
abbrev zQ:=@List.map_cons
abbrev zR:=@Below.setCell
abbrev AV:=@List.set_cons_zero
abbrev AW:=@wpIn_wide
abbrev AX:=@List.getElem_append_left
abbrev AY:=@List.flatMap_append
abbrev AZ:=@Int.toNat_natCast
abbrev A1:=@Below.drew
abbrev Cj:=@dif_pos
abbrev Ck:=@if_false
abbrev Cl:=@Option.getD_some
abbrev Cm:=@Sem.run_bind
abbrev Cn:=@Addr.mk.injEq
abbrev Co:=@List.pairwise_iff_getElem
abbrev Cp:=@of_decide_eq_true
abbrev Cq:=@List.mem_filter
abbrev Cr:=@List.getElem_append_right
abbrev Cs:=@List.getElem_of_mem
abbrev Ct:=@List.getElem_range
abbrev Dz:=@callsIn_wide
abbrev DA:=@dif_neg
abbrev DB:=@Bool.false_or
abbrev DC:=@List.foldl_append
abbrev DD:=@Nat.le_of_dvd
abbrev DE:=@Nat.one_mul
abbrev DF:=@Oper.semAt_some
abbrev DG:=@Fin.mul_comm
abbrev DH:=@run_underlying
abbrev DI:=@List.getElem?_eq_some_iff
abbrev DK:=@List.append_assoc
abbrev FC:=@callsD_of_wpS
abbrev FD:=@wpS_of_wp
abbrev FE:=@Bool.false_eq_true
abbrev FF:=@bne_self_eq_false
abbrev FG:=@Nat.add_mul
abbrev FH:=@callsIn_of_wp
abbrev FI:=@List.map_nil
abbrev FJ:=@List.mem_iff_getElem
abbrev FK:=@List.any_eq_false
abbrev FL:=@Bool.not_eq_true'
abbrev FM:=@List.mem_of_mem_take
abbrev FN:=@List.append_nil
abbrev Hu:=@Array.getElem?_replicate
abbrev Hv:=@Array.getElem_mem
abbrev Hw:=@CallsIn.mono
abbrev Hx:=@Int.emod_emod
abbrev Hy:=@Int.one_mul
abbrev Hz:=@Int.mul_comm
abbrev H3:=@Nat.mul_add
abbrev H5:=@Nat.lt_succ_of_lt
abbrev Ia:=@List.mem_append_right
abbrev Ib:=@Nat.zero_mul
abbrev Ic:=@List.length_drop
abbrev KK:=@World.size_alloc
abbrev KL:=@List.length_replicate
abbrev KM:=@List.mem_append_left
abbrev KN:=@Bool.or_eq_true
abbrev KO:=@Array.any_eq_true
abbrev KP:=@Nat.mul_comm
abbrev KR:=@Nat.mul_one
abbrev KS:=@List.take_zero
abbrev KT:=@Nat.lt_irrefl
abbrev KU:=@Bool.and_false
abbrev KV:=@IntKind.wrap_i64
abbrev KW:=@List.length_singleton
abbrev KX:=@MapKept.run_getObj_map
abbrev KY:=@Array.toList_push
abbrev KZ:=@IntKind.wrap_u64
abbrev K0:=@u32_xor_nat
abbrev K1:=@List.getElem_cons_zero
abbrev K2:=@ownsRow_setCell_other
abbrev K3:=@List.map_eq_nil_iff
abbrev NY:=@Nat.lt_of_le_of_lt
abbrev NZ:=@Nat.mod_eq_of_lt
abbrev N0:=@Bool.or_true
abbrev N1:=@Option.map_some
abbrev N2:=@Oper.semAt_eq
abbrev N3:=@Exit.noGoto_ret
abbrev N4:=@Int.emod_eq_of_lt
abbrev N5:=@List.length_eq_zero_iff
abbrev N6:=@Nat.mul_zero
abbrev N7:=@decide_eq_decide
abbrev N8:=@World.cell?_spot
abbrev N9:=@Int.natCast_emod
abbrev Oa:=@Nat.add_assoc
abbrev Ob:=@IntKind.wrap_u32'
abbrev Oc:=@Nat.le_of_eq
abbrev Od:=@List.length_filter_le
abbrev Oe:=@List.length_set
abbrev Of:=@Function.comp_apply
abbrev Og:=@Int.emod_nonneg
abbrev Sv:=@World.frozen?_of_block
abbrev Sw:=@Int.mul_nonneg
abbrev Sx:=@Int.mul_le_mul
abbrev Sy:=@List.pairwise_map
abbrev Sz:=@Nat.dvd_of_mod_eq_zero
abbrev SA:=@List.contains_iff_mem
abbrev SB:=@World.frozen?_alloc_at
abbrev SC:=@World.cell?_setCell_other
abbrev SE:=@List.take_succ_cons
abbrev SF:=@wpList_append_own
abbrev SG:=@ownsRow_setCell_below
abbrev SH:=@Nat.lt_trichotomy
abbrev SI:=@List.getElem?_cons_zero
abbrev SJ:=@List.mem_of_getElem?
abbrev SM:=@Nat.mul_le_mul
abbrev SN:=@Nat.eq_zero_of_dvd_of_lt
abbrev SO:=@List.map_singleton
abbrev SP:=@List.getElem_set
abbrev SQ:=@size_zeroCells
abbrev SR:=@List.length_pos_iff
abbrev SU:=@List.getElem?_toArray
abbrev SV:=@Nat.min_eq_left
abbrev SW:=@List.length_take
abbrev SX:=@List.foldl_cons
abbrev SY:=@List.filter_cons_of_neg
abbrev Xl:=@List.getElem?_cons_succ
abbrev Xm:=@List.getElem?_replicate
abbrev Xn:=@Array.all_eq_true_iff_forall_mem
abbrev Xo:=@List.eq_nil_or_concat
abbrev Xp:=@List.concat_eq_append
abbrev Xq:=@Nat.mod_two_eq_zero_or_one
abbrev Xr:=@Array.getElem_mem_toList
abbrev Xs:=@List.getElem?_eq_none
abbrev Xt:=@Array.getElem?_setIfInBounds_ne
abbrev Xu:=@decide_eq_false_iff_not
abbrev Xv:=@List.filter_cons_of_pos
theorem fL{k:IntKind}{a b:Int}(c:a=b):Ending.returned (.int k a)=.returned (.int k b):=by rw[c]
theorem cg{a b:Bool}(c:a=b):Ending.returned a=.returned b:=by rw[c]
def eQ(c:Program)(a:FuncId):Prop:=∀(args:Array Value) (b:World),(callFunc a args).run c b=.ok (.enter a args) b
theorem iw{b : Program}{c : FuncId}{a : Func}{e : Code}(h : b.funcs[c]?=some a)(d : (a.name == "runtime.NumGoroutine")=false)(g : a.body=some e): eQ b c := by
 intro args i;have f : a.name ≠ "runtime.NumGoroutine" := by simpa using d
 simp[callFunc,h,f,g,mark]
def aN(a:Int):Prop:=-9223372036854775808<=a/\a<=9223372036854775807
theorem aN.mk{a:Int}(b:-4611686018427387904<=a)(c:a<=4611686018427387904):aN a:=⟨by omega,by omega⟩
theorem iO{b:World}{a e:Nat}{f:Value}(d:b.cell? (a,e)=some f):a<b.heap.size:=by
 by_cases c:a<b.heap.size
 ·exact c
 ·simp[World.cell?,Array.getElem?_eq_none (Nat.le_of_not_lt c)]at d
theorem U{c f:World}(g:Below c c f){a b:Nat}{e:Value}(d:c.cell? (a,b)=some e):f.cell? (a,b)=some e:=by
 rw[g.cell (p:=⟨a,b,none⟩) (iO d)];exact d
theorem ar{a b c : World}(d : Below a a b)(e : Below b b c): Below a a c:=d.trans (e.mono d.size)
theorem az{a b : World}{c : Nat}{e : Obj}(f : Below a a b)(d : a.heap[c]?=some e): b.heap[c]?=some e:=(f.block _ (fF.1 d).1).trans d
theorem aK{α : Type}(a : α): ∃b,b=a:=⟨_,rfl⟩
theorem ax{p : Prop}(a : false=true): p:=by cases a
theorem wj{p : Prop}(a : true=false): p:=by cases a
theorem kY{b : Bool}{p : Prop}(c : b=false)(a : b=true): p:=by rw[c]at a;cases a
theorem dD{α : Type}(b : List α): (∀(d : Nat)(a : α),b.toArray.setIfInBounds d a=(b.set d a).toArray)/\(∀(c a : α),(c::b).set 0 a=a::b)/\∀(c a : α)(e : Nat),(c::b).set (e+1) a=c::b.set e a:=⟨λ_ _=>vZ ..,λ_ _=>AV ..,λ_ _ _=>zH ..⟩
theorem aR{a b : Prop}(c : a)(d : b): Hid a/\Hid b:=⟨⟨c⟩,⟨d⟩⟩
theorem bJ{a b c : Prop}(d : a)(e : b)(f : c): Hid a/\Hid b/\Hid c:=⟨⟨d⟩,⟨e⟩,⟨f⟩⟩
theorem cY{a b c d : Prop}(e : a)(f : b)(g : c)(h : d): Hid a/\Hid b/\Hid c/\Hid d:=⟨⟨e⟩,⟨f⟩,⟨g⟩,⟨h⟩⟩
theorem gw{a b c d e : Prop}(f : a)(g : b)(h : c)(i : d)(j : e): Hid a/\Hid b/\Hid c/\Hid d/\Hid e:=⟨⟨f⟩,⟨g⟩,⟨h⟩,⟨i⟩,⟨j⟩⟩
theorem oJ{a b c d e f : Prop}(g : a)(h : b)(i : c)(j : d)(k : e)(l : f): Hid a/\Hid b/\Hid c/\Hid d/\Hid e/\Hid f:=⟨⟨g⟩,⟨h⟩,⟨i⟩,⟨j⟩,⟨k⟩,⟨l⟩⟩
theorem qy{a b c d e f g : Prop}(h : a)(i : b)(j : c)(k : d)(l : e)(m : f)(n : g): Hid a/\Hid b/\Hid c/\Hid d/\Hid e/\Hid f/\Hid g:=⟨⟨h⟩,⟨i⟩,⟨j⟩,⟨k⟩,⟨l⟩,⟨m⟩,⟨n⟩⟩
theorem DL{a b c d e f g h : Prop}(i : a)(j : b)(k : c)(l : d)(m : e)(n : f)(o : g)(p : h): Hid a/\Hid b/\Hid c/\Hid d/\Hid e/\Hid f/\Hid g/\Hid h:=⟨⟨i⟩,⟨j⟩,⟨k⟩,⟨l⟩,⟨m⟩,⟨n⟩,⟨o⟩,⟨p⟩⟩
theorem fx{a b c d e f g h i : Prop}(j : a)(k : b)(l : c)(m : d)(n : e)(o : f)(p : g)(q : h)(r : i): Hid a/\Hid b/\Hid c/\Hid d/\Hid e/\Hid f/\Hid g/\Hid h/\Hid i:=⟨⟨j⟩,⟨k⟩,⟨l⟩,⟨m⟩,⟨n⟩,⟨o⟩,⟨p⟩,⟨q⟩,⟨r⟩⟩
theorem ez{a : World}{b : Nat}{g : TypeId}{c d : Value}{f : List Value}(e : a.heap[b]?=QC.mk (c::d::f).toArray g): a.cell? (b,0)=some c/\a.cell? (b,1)=some d:=by refine⟨?_,?_⟩<;>simp[World.cell?,e]
theorem jZ{a : World}{b : Nat}{h : TypeId}{c d e : Value}{g : List Value}(f : a.heap[b]?=QC.mk (c::d::e::g).toArray h): a.cell? (b,0)=some c/\a.cell? (b,1)=some d/\a.cell? (b,2)=some e:=by refine⟨?_,?_,?_⟩<;>simp[World.cell?,f]
theorem fh{a : World}{b : Nat}{i : TypeId}{c d e f : Value}{h : List Value}(g : a.heap[b]?=QC.mk (c::d::e::f::h).toArray i): a.cell? (b,0)=some c/\a.cell? (b,1)=some d/\a.cell? (b,2)=some e/\a.cell? (b,3)=some f:=by refine⟨?_,?_,?_,?_⟩<;>simp[World.cell?,g]
theorem Ie{a : World}{b : Nat}{j : TypeId}{c d e f g : Value}{i : List Value}(h : a.heap[b]?=QC.mk (c::d::e::f::g::i).toArray j): a.cell? (b,0)=some c/\a.cell? (b,1)=some d/\a.cell? (b,2)=some e/\a.cell? (b,3)=some f/\a.cell? (b,4)=some g:=by refine⟨?_,?_,?_,?_,?_⟩<;>simp[World.cell?,h]
theorem A2{a : World}{b : Nat}{c : Array Value}{e : TypeId}(d : a.heap[b]?=QC.mk c e): a.frozen? (b,0)=false/\a.frozen? (b,1)=false:=by simp[World.frozen?,d]
theorem Xw{a : World}{b : Nat}{c : Array Value}{e : TypeId}(d : a.heap[b]?=QC.mk c e): a.frozen? (b,0)=false/\a.frozen? (b,1)=false/\a.frozen? (b,2)=false:=by simp[World.frozen?,d]
theorem wm{a : World}{b : Nat}{c : Array Value}{e : TypeId}(d : a.heap[b]?=QC.mk c e): a.frozen? (b,0)=false/\a.frozen? (b,1)=false/\a.frozen? (b,2)=false/\a.frozen? (b,3)=false:=by simp[World.frozen?,d]
theorem acz{a : World}{b : Nat}{c : Array Value}{e : TypeId}(d : a.heap[b]?=QC.mk c e): a.frozen? (b,0)=false/\a.frozen? (b,1)=false/\a.frozen? (b,2)=false/\a.frozen? (b,3)=false/\a.frozen? (b,4)=false:=by simp[World.frozen?,d]
theorem jM{a b : World}(f : Below a a b){e : Prop}{c g d h : Nat}{i j : Value}(l : a.cell? (c,g)=some i)(m : a.cell? (d,h)=some j)(k : b.cell? (c,g)=some i->b.cell? (d,h)=some j->e): e:=k (U f l) (U f m)
theorem ua{a b : World}(c : Below a a b){g : Prop}{d h e i f j : Nat}{l m n : Value}(o : a.cell? (d,h)=some l)(p : a.cell? (e,i)=some m)(q : a.cell? (f,j)=some n)(k : b.cell? (d,h)=some l->b.cell? (e,i)=some m->b.cell? (f,j)=some n->g): g:=k (U c o) (U c p) (U c q)
theorem uc{a b : World}(c : Below a a b){h : Prop}{d i e j f l g m : Nat}{n o p q : Value}(r : a.cell? (d,i)=some n)(s : a.cell? (e,j)=some o)(t : a.cell? (f,l)=some p)(u : a.cell? (g,m)=some q)(k : b.cell? (d,i)=some n->b.cell? (e,j)=some o->b.cell? (f,l)=some p->b.cell? (g,m)=some q->h): h:=k (U c r) (U c s) (U c t) (U c u)
theorem acA{a b : World}(c : Below a a b){i : Prop}{d j e l f m g n h o : Nat}{p q r s t : Value}(u : a.cell? (d,j)=some p)(v : a.cell? (e,l)=some q)(w : a.cell? (f,m)=some r)(x : a.cell? (g,n)=some s)(y : a.cell? (h,o)=some t)(k : b.cell? (d,j)=some p->b.cell? (e,l)=some q->b.cell? (f,m)=some r->b.cell? (g,n)=some s->b.cell? (h,o)=some t->i): i:=k (U c u) (U c v) (U c w) (U c x) (U c y)
theorem akp{a b : World}(c : Below a a b){j : Prop}{d l e m f n g o h p i q : Nat}{r s t u v w : Value}(x : a.cell? (d,l)=some r)(y : a.cell? (e,m)=some s)(z : a.cell? (f,n)=some t)(B : a.cell? (g,o)=some u)(C : a.cell? (h,p)=some v)(D : a.cell? (i,q)=some w)(k : b.cell? (d,l)=some r->b.cell? (e,m)=some s->b.cell? (f,n)=some t->b.cell? (g,o)=some u->b.cell? (h,p)=some v->b.cell? (i,q)=some w->j): j:=k (U c x) (U c y) (U c z) (U c B) (U c C) (U c D)
theorem akq{a b : World}(c : Below a a b){l : Prop}{d m e n f o g p h q i r j s : Nat}{t u v w x y z : Value}(B : a.cell? (d,m)=some t)(C : a.cell? (e,n)=some u)(D : a.cell? (f,o)=some v)(E : a.cell? (g,p)=some w)(F : a.cell? (h,q)=some x)(G : a.cell? (i,r)=some y)(H : a.cell? (j,s)=some z)(k : b.cell? (d,m)=some t->b.cell? (e,n)=some u->b.cell? (f,o)=some v->b.cell? (g,p)=some w->b.cell? (h,q)=some x->b.cell? (i,r)=some y->b.cell? (j,s)=some z->l): l:=k (U c B) (U c C) (U c D) (U c E) (U c F) (U c G) (U c H)
theorem SZ{a b : World}(c : Below a a b){m : Prop}{d n e o f p g q h r i s j t l u : Nat}{v w x y z B C D : Value}(E : a.cell? (d,n)=some v)(F : a.cell? (e,o)=some w)(G : a.cell? (f,p)=some x)(H : a.cell? (g,q)=some y)(I : a.cell? (h,r)=some z)(K : a.cell? (i,s)=some B)(L : a.cell? (j,t)=some C)(M : a.cell? (l,u)=some D)(k : b.cell? (d,n)=some v->b.cell? (e,o)=some w->b.cell? (f,p)=some x->b.cell? (g,q)=some y->b.cell? (h,r)=some z->b.cell? (i,s)=some B->b.cell? (j,t)=some C->b.cell? (l,u)=some D->m): m:=k (U c E) (U c F) (U c G) (U c H) (U c I) (U c K) (U c L) (U c M)
theorem yd{a b : World}(c : Below a a b){n : Prop}{d o e p f q g r h s i t j u l v m w : Nat}{x y z B C D E F G : Value}(H : a.cell? (d,o)=some x)(I : a.cell? (e,p)=some y)(K : a.cell? (f,q)=some z)(L : a.cell? (g,r)=some B)(M : a.cell? (h,s)=some C)(N : a.cell? (i,t)=some D)(O : a.cell? (j,u)=some E)(P : a.cell? (l,v)=some F)(Q : a.cell? (m,w)=some G)(k : b.cell? (d,o)=some x->b.cell? (e,p)=some y->b.cell? (f,q)=some z->b.cell? (g,r)=some B->b.cell? (h,s)=some C->b.cell? (i,t)=some D->b.cell? (j,u)=some E->b.cell? (l,v)=some F->b.cell? (m,w)=some G->n): n:=k (U c H) (U c I) (U c K) (U c L) (U c M) (U c N) (U c O) (U c P) (U c Q)
theorem K4{c b d:World}{a:Nat}(e:Below a c b)(f:a<=c.heap.size)(k:Below b b d):Below a c d:=
 e.trans (k.mono (bK f e.size))
def aM(h:World)(g:Value)(a:V):Prop:=
 ∃c e,g=.slice c a.length e/\a.length<=e/\a.length<=17592186044416/\(∀i∈a,aN i) /\
  ∀b (j:b<a.length),∃d f,c=some ⟨d,f,none⟩/\h.cell? ⟨d,f+b,none⟩=some (.int .i64 a[b])
theorem aM.below{a w':World}{b:Value}{c:V}(i:aM a b c)(j:Below a a w'):aM w' b c:=by
 obtain⟨d,h,rfl,k,m,n,l⟩:=i;refine⟨d,h,rfl,k,m,n,λo e=>?_⟩;obtain⟨f,p,ha,g⟩:=l o e;exact⟨f,p,ha,U j g⟩
theorem aM.nil(d:World)(a:Option Addr)(b:Nat):aM d (.slice a 0 b) []:=
 ⟨a,b,rfl,bS _,by simp,by simp,λe c=>absurd c (fG _)⟩
def bI(h:World)(i:Value)(a:ak):Prop:=
 ∃c e,i=.slice c a.length e/\a.length<=e/\a.length<=17592186044416 /\
  ∀b (j:b<a.length),∃d f g,c=some ⟨d,f,none⟩/\h.cell? ⟨d,f+b,none⟩=some g/\aM h g a[b]
theorem bI.below{a w':World}{d:Value}{c:ak}(j:bI a d c)(b:Below a a w'):bI w' d c:=by
 obtain⟨e,i,rfl,k,m,l⟩:=j;refine⟨e,i,rfl,k,m,λo f=>?_⟩;obtain⟨g,p,q,ha,h,n⟩:=l o f;exact⟨g,p,q,ha,U b h,n.below b⟩
theorem bI.nil(d:World)(a:Option Addr)(b:Nat):bI d (.slice a 0 b) []:=
 ⟨a,b,rfl,bS _,by simp,λe c=>absurd c (fG _)⟩
structure eM(d:Nat)(a b:World):Prop where
 os:b.os=a.os
 tape:b.tape=a.tape
 output:b.output=a.output
 size:a.heap.size<=b.heap.size
 low:∀k:Nat,k<d->b.heap[k]?=a.heap[k]?
 cells:∀(k:Nat) (c:Obj),a.heap[k]?=some c->c.isCells=true->b.heap[k]?=some c
theorem S4{d:Nat}{e f g:World}(a:eM d e f)(k:eM d f g):eM d e g:=
 ⟨k.os.trans a.os,k.tape.trans a.tape,k.output.trans a.output,bK a.size k.size,λb c=>(k.low b c).trans (a.low b c),λb i c h=>k.cells b i (a.cells b i c h) h⟩
theorem akr{b c:Nat}{d e:World}(a:eM b d e)(f:c<=b):eM c d e:=
 ⟨a.os,a.tape,a.output,a.size,λh g=>a.low h (eJ g f),a.cells⟩
theorem nf{b:Nat}{c d:World}(a:eM b c d):Below b c d:=⟨a.os,a.tape,a.output,a.size,a.low⟩
theorem FO{c:Nat}(a:World)(f:c<=a.heap.size)(e:Obj):eM c a (a.alloc e):=
 ⟨rfl,rfl,rfl,by simp,λd b=>xU _ _ _ (by omega),λd g b _=>(xU a e d (fF.1 b).1).trans b⟩
theorem mF{d:Nat}{c:World}{b:Nat}{h:Obj}(k:Obj)(m:d<=b)(i:c.heap[b]?=some h)(j:h.isCells=false):eM d c (c.putObj b k):=
 ⟨rfl,rfl,rfl,by simp,λg a=>World.putObj_heap_other (by omega),λg l a f=>by
  by_cases e:g=b
  ·subst e;rw[i]at a;cases a;rw[j]at f;cases f
  ·exact(World.putObj_heap_other e).trans a⟩
theorem jx{g:Nat}{a b:World}(h:eM g a b){c:Addr}{f:Value}(d:a.cell? c=some f):b.cell? c=some f:=by
 obtain⟨j,e,i⟩:=cells_of_cell d;rw[rB (w:=a) ((h.cells _ j e i).trans e.symm)];exact d
theorem Oh{e:Nat}{a c:World}(f:eM e a c){b:Addr}{j:Value}(g:a.cell? b=some j):c.frozen? b=a.frozen? b:=by
 obtain⟨i,d,h⟩:=cells_of_cell g;exact Sv (w:=a) ((f.cells _ i d h).trans d.symm)
def rangePost(e:Nat->World->Prop)(d:Code->Nat->World->Prop)(c:Nat)(b:World):Exit->Act->World->Prop
 |.normal,_,a=>KeepsOthers b a/\e (c+1) a
 |.ret,_,a=>KeepsOthers b a/\d .ret (c+1) a
 |.exit id,_,a=>KeepsOthers b a/\d (.exit id) (c+1) a
 |.goto f,_,a=>KeepsOthers b a/\d (.goto f) (c+1) a
 |.panic _,_,_=>False
 |.outgrown,_,_=>False
def Xy(h:Program)(l:FuncId)(m:Array Value)(f:Nat)(fi:Nat->Array Value)(k:Nat->World->Prop):Prop:=
 ∀(j:Nat) (b g:Nat->World->Prop) (i:World),(∀a d,b a d->k a d) ->
  (∀a d,b a d->a<f->YieldAt Fence.wide 0 h j (fi a) d λe c=>(e=.returned (.bool true)/\b (a+1) c)\/(e=.returned (.bool false)/\g (a+1) c)) ->
  b 0 i->CallsIn Fence.wide 0 h l (#[.func (.yield j) #[] #[]]++m) i λe c=>(∃n,e=.returned n)/\(b f c\/(∃a,a<=f/\g a c))
theorem aks{P:Program}{z0:Operand}{Q:Array Tmp}{assign body:Code}{T:Exit->Act->World->Prop}{f:Act}{a:World}
  {t:FuncId} {N:Array Value} (hg:f.eval z0=.func (.func t) #[] N) (eg:eQ P t)
  {K:Nat} {fi:Nat->Array Value} (lQ:∀c,(fi c).size=Q.size)
  (q:Nat->World->Prop) (D:Code->Nat->World->Prop) (nK:Xy P t N K fi q)
  (M:∀c b E,q c b->eM a.heap.size b E->q c E) (O:∀g c b E,D g c b->eM a.heap.size b E->D g c E)
  (h0:q 0 a) (f₁:Nat->Act)
  (yg:∀(l c:Nat) (b:World) (X:Act->World->Prop),X (f₁ c) b ->
   assign.wpIn (Fence.wide.inRound l) 0 P (Exit.then X (λ_ _ _=>False)) {tmps:=(Q.zip (fi c)).foldl (λS (p,z1)=>S.setIfInBounds p z1) f.tmps,defers:=[]} b)
  (yh:∀(l c:Nat) (b:World),q c b->c<K->body.wpIn (Fence.wide.inRound l) 0 P (rangePost q D c b) (f₁ c) b)
  (yi:∀(r:Nat) (b:World),a.heap.size<=r->q K b->b.heap[r]?=some (.deferred (some []))->KeepsOthers a b->T .normal {f with defers:={target:=.collected r,args:=#[]}::f.defers} b)
  (A3:∀(r:Nat) (g:Code) (c:Nat) (b:World),a.heap.size<=r->c<=K->D g c b->b.heap[r]?=some (.deferred (some []))->KeepsOthers a b->g.wp P T {f with defers:={target:=.collected r,args:=#[]}::f.defers} b):
  (Code.rangeFunc z0 Q assign body).wp P T f a:=by
 refine(AW (n:=0)).1 (wpIn_rangeFunc ?_);intro fn uQ;obtain⟨d,m⟩:∃d:LoopState->Option Code->Loop,d=λst pe=>{state:=st,pending:=pe,fn,tmps:=f.tmps,params:=Q,assign,body,defers:=a.heap.size}:=⟨_,rfl⟩;obtain⟨j,F⟩:∃j,(a.alloc (.deferred (some []))).alloc (.loop (d .ready none))=j:=⟨_,rfl⟩;have Ig:j.heap[a.heap.size+1]?=some (.loop (d .ready none)):=by
  rw[<-F];have:=World.alloc_heap_new (a.alloc (.deferred (some []))) (.loop (d .ready none));rwa [KK]at this
 have Ih:j.heap[a.heap.size]?=some (.deferred (some [])):=by
  rw[<-F];exact(xU _ _ _ (by simp)).trans (World.alloc_heap_new a _)
 have ud:eM a.heap.size a j:=by
  rw[<-F];exact S4 (FO _ (aP _) _) (FO _ (by simp) _)
 have Ii:KeepsOthers a j:=by rw[<-F];exact(KeepsOthers.alloc _ _).trans (KeepsOthers.alloc _ _)
 refine⟨a.heap.size+1,[{target:=.collected a.heap.size,args:=#[]}],j,{target:=.fn (.func t) N,args:=#[.func (.yield (a.heap.size+1)) #[] #[]]},j,t,
  #[.func (.yield (a.heap.size+1)) #[] #[]]++N,j,?_,?_,λ_ _=>trivial,?_,λG=>by simp[Fence.wide]at G,?_⟩
 ·rw[<-F,m];exact run_enterLoop_outer _ _ _ _ _
 ·simp only[resolve,hg];simp[go_sem]
 ·have Ij:∀(args:Array Value) (a:World),(callFunc t args).run P a=.ok (.enter t args) a:=eg;simp[invoke,go_sem,Ij]
 ·have others:∀{o I:World} (_:KeepsOthers a o) (_:∀z B,z<a.heap.size->o.heap[z]?=some B->B.isCells=false->I.heap[z]?=some B) (_:o.heap.size<=I.heap.size),KeepsOthers a I:=
   λ{o I} h1 h2 h3=>⟨bK h1.size h3,λz B n k=>h2 z B (fF.1 n).1 (h1.same z B n k) k⟩
  have R:∀{o:World} {l:Nat} (o':Obj),a.heap.size<=l->KeepsOthers a o->KeepsOthers a (o.putObj l o'):=λ{o l} o' i G =>
   others G (λz B n k _=>(World.putObj_heap_other (by omega)).trans k) (by simp)
  refine(nK (a.heap.size+1)
   (λc b=>q c b/\b.heap[a.heap.size+1]?=some (.loop (d .ready none))/\b.heap[a.heap.size]?=some (.deferred (some []))/\KeepsOthers a b)
   (λc b=>∃g,D g c b/\b.heap[a.heap.size+1]?=some (.loop (d .done (some g)))/\b.heap[a.heap.size]?=some (.deferred (some []))/\KeepsOthers a b)
   j (λc b G=>G.1) ?_ ⟨M _ _ _ h0 ud,Ig,Ih,Ii⟩).mono ?_
  ·rintro c b ⟨H,i,n,k⟩ hlen;have aq:a.heap.size+1<b.heap.size:=(fF.1 i).1;have hy:=run_yield (P:=P) (args:=fi c) i (by rw[m];exact lQ c);rw[m]at hy;refine⟨fn,_,assign,body,hy,roundIn_of_wpIn uQ (yg _ c b _ ⟨_,run_beginRound i (by rw[m]),?_⟩)⟩;have dR:(b.putObj (a.heap.size+1) (.loop {d .ready none with state:=.busy})).heap[a.heap.size+1]?=some (.loop {d .ready none with state:=.busy}):=World.putObj_heap_same aq;have bW:(b.putObj (a.heap.size+1) (.loop {d .ready none with state:=.busy})).heap[a.heap.size]?=some (.deferred (some [])):=(World.putObj_heap_other (by omega)).trans n;have yj:=R (.loop {d .ready none with state:=.busy}) (by omega) k (l:=a.heap.size+1);refine wpIn_mono (yh _ c _ (M _ _ _ H (mF _ (by omega) i rfl)) hlen) ?_;have L:∀(e:Option Code) (W3:World),KeepsOthers (b.putObj (a.heap.size+1) (.loop {d .ready none with state:=.busy})) W3 ->
     (Instr.endRound (a.heap.size+1) e).run P W3=.ok (.bool e.isNone) (W3.putObj (a.heap.size+1) (.loop (d (if e.isNone then .ready else .done) e))) /\
     eM a.heap.size W3 (W3.putObj (a.heap.size+1) (.loop (d (if e.isNone then .ready else .done) e))) /\
     (W3.putObj (a.heap.size+1) (.loop (d (if e.isNone then .ready else .done) e))).heap[a.heap.size+1]?=some (.loop (d (if e.isNone then .ready else .done) e)) /\
     (W3.putObj (a.heap.size+1) (.loop (d (if e.isNone then .ready else .done) e))).heap[a.heap.size]?=some (.deferred (some [])) /\
     KeepsOthers a (W3.putObj (a.heap.size+1) (.loop (d (if e.isNone then .ready else .done) e))):=λe W3 h=>by
    have W:=h.same _ _ dR rfl;have:=run_endRound (P:=P) e W;rw[m]at this ⊢;exact⟨this,mF _ (by omega) W rfl,World.putObj_heap_same (fF.1 W).1,(World.putObj_heap_other (by omega)).trans (h.same _ _ bW rfl),
     R _ (by omega) (yj.trans h)⟩
   rintro Z a3 W3 C;cases Z with
   |normal =>
    obtain⟨h,x⟩:=C;obtain⟨u,v,s,y,w⟩:=L none W3 h;exact⟨_,_,u,.inl ⟨rfl,M _ _ _ x v,s,y,w⟩⟩
   |ret =>
    obtain⟨h,x⟩:=C;obtain⟨u,v,s,y,w⟩:=L (some .ret) W3 h;exact⟨_,_,u,.inr ⟨rfl,.ret,O _ _ _ _ x v,s,y,w⟩⟩
   |exit id =>
    obtain⟨h,x⟩:=C;obtain⟨u,v,s,y,w⟩:=L (some (.exit id)) W3 h;exact⟨_,_,u,.inr ⟨rfl,.exit id,O _ _ _ _ x v,s,y,w⟩⟩
   |goto S =>
    obtain⟨h,x⟩:=C;obtain⟨u,v,s,y,w⟩:=L (some (.goto S)) W3 h;exact⟨_,_,u,.inr ⟨rfl,.goto S,O _ _ _ _ x v,s,y,w⟩⟩
   |panic ch=>exact C.elim
   |outgrown=>exact C.elim
  ·rintro Z W2 ⟨⟨z1,rfl⟩,(⟨H,i,n,k⟩|⟨c,hj,g,H,i,n,k⟩)⟩
   ·exact⟨none,_,by have:=run_endLoop (P:=P) i (by rw[m];simp);rw[m]at this;exact this,
     yi _ _ (aP _) (M _ _ _ H (mF _ (by omega) i rfl)) ((World.putObj_heap_other (by omega)).trans n) (R _ (by omega) k)⟩
   ·exact⟨some g,_,by have:=run_endLoop (P:=P) i (by rw[m];simp);rw[m]at this;exact this,
     AW.2 (A3 _ g c _ (aP _) hj (O _ _ _ _ H (mF _ (by omega) i rfl)) ((World.putObj_heap_other (by omega)).trans n) (R _ (by omega) k))⟩
theorem acB{g:Program}{u:Operand}{q:Array Tmp}{s t:Code}{l:Exit->Act->World->Prop}{c:Act}{e:World}
  {n:FuncId} {v:Array Value} (B:c.eval u=.func (.func n) #[] v) (x:eQ g n)
  {k:Nat} {fi:Nat->Array Value} (C:∀b,(fi b).size=q.size)
  (d:Nat->World->Prop) (h:Code->Nat->World->Prop) (D:Xy g n v k fi d)
  (z:∀b a i,d b a->eM e.heap.size a i->d b i) (E:∀j b a i,h j b a->eM e.heap.size a i->h j b i)
  (y:d 0 e) (m:Nat->Array Value->Array Value)
  (H:∀(o b:Nat) (a:World) (r:Act->World->Prop),r {tmps:=m b c.tmps,defers:=[]} a ->
   s.wpIn (Fence.wide.inRound o) 0 g (Exit.then r (λ_ _ _=>False)) {tmps:=(q.zip (fi b)).foldl (λF (p,G)=>F.setIfInBounds p G) c.tmps,defers:=[]} a)
  (I:∀(o b:Nat) (a:World),d b a->b<k->t.wpIn (Fence.wide.inRound o) 0 g (rangePost d h b a) {tmps:=m b c.tmps,defers:=[]} a)
  (K:∀(f:Nat) (a:World),e.heap.size<=f->d k a->a.heap[f]?=some (.deferred (some []))->KeepsOthers e a->l .normal {c with defers:={target:=.collected f,args:=#[]}::c.defers} a)
  (w:∀(f:Nat) (j:Code) (b:Nat) (a:World),e.heap.size<=f->b<=k->h j b a->a.heap[f]?=some (.deferred (some []))->KeepsOthers e a->j.wp g l {c with defers:={target:=.collected f,args:=#[]}::c.defers} a):
  (Code.rangeFunc u q s t).wp g l c e:=
 aks B x C d h D z E y (λb=>{tmps:=m b c.tmps,defers:=[]}) H I K w
theorem wu{a:Program}{e:FuncId}{b:Func}{d:Code}{args:Array Value}{f:World}{c:Ending->World->Prop}
  (i:a.funcs[e]?=some b) (h:b.body=some d)
  (g:d.wp a (bodyPostM Fence.wide 0 a b c) {tmps:=args++Array.replicate (b.ntmps-args.size) undef,defers:=[]} f):Calls a e args f c:=
 (Dz (n:=0)).1 (callsIn_of_wp_marks i h trivial (AW.2 g) rfl)
def Marks(b:Nat)(c:World):List Deferred->Prop
 |[]=>True
 |e::d=>(∃a,e={target:=.collected a,args:=#[]}/\b<=a/\c.heap[a]?=some (.deferred (some []))/\∀f∈d,f.target≠.collected a)/\Marks b c d
theorem S5{a:Nat}{b c:World}:∀{d:List Deferred},Marks a b d->KeepsOthers b c->Marks a c d
 |[],_,_=>trivial
 |_::_,⟨⟨f,g,j,h,i⟩,k⟩,e=>⟨⟨f,g,j,e.same _ _ h rfl,i⟩,S5 k e⟩
theorem Xz{c:Nat}{e:World}{d:Nat}{o:Obj}:∀{a:List Deferred},Marks c e a->(∀b∈a,b.target≠.collected d)->Marks c (e.putObj d o) a
 |[],_,_=>trivial
 |h::a,⟨⟨g,f,l,j,k⟩,n⟩,hn=>⟨⟨g,f,l,(World.putObj_heap_other (λi=>hn h (by simp) (by rw[f,i]))).trans j,k⟩,Xz n (λb m=>hn b (by simp[m]))⟩
theorem Ik{h:Program}{i:Func}{l:Array Value}{c:Ending->World->Prop}{f:Nat}{b:Value}(g:∀a,(results i l).run h a=.ok b a)(k:∀a m,c (.returned b) a->eM f a m->c (.returned b) m):
  ∀(d:List Deferred) (a:World),Marks f a d->c (.returned b) a->LeavesInM Fence.wide 0 h i l c d .returning a
 |[],a,_,e=>⟨b,g a,e⟩
 |s::d,a,⟨⟨n,o,q,j,p⟩,r⟩,e=>by
  subst o;refine⟨by simp,.inl ⟨n,_,rfl,run_takeDeferred j,?_⟩⟩;exact Ik g k d _ (Xz r p) (k _ _ e (mF _ q j rfl))
def ct(a c b:Int):Bool:=decide (c<=a)&&decide (a<=b)
theorem jo{a c b:Int}:ct a c b=true↔c<=a/\a<=b:=by unfold ct;rw[cu,fU,fU]
theorem S6{a c b:Int}(e:¬ (c<=a/\a<=b)):ct a c b=false:=by
 cases d:ct a c b with
 |false=>rfl
 |true=>exact absurd (jo.1 d) e
theorem Y{b:World}{c:Nat}{a:Array Value}{g:TypeId}(e:b.heap[c]?=QC.mk a g){k:Nat}{d:Value}(f:a[k]?=some d):b.cell? (c,k)=some d:=by
 simp[World.cell?,e,f]
theorem cB{a:World}{b:Nat}{c:Array Value}{e:TypeId}(d:a.heap[b]?=QC.mk c e)(k:Nat):a.frozen? (b,k)=false:=by
 simp[World.frozen?,d]
theorem bG{a:World}{b:Nat}{d:Obj}(c:a.heap[b]?=some d):b<a.heap.size:=(fF.1 c).1
theorem cK{b:World}{a:Nat}{c:Array Value}{d:TypeId}(e:b.heap[a]?=QC.mk c d)(k:Nat)(f:Value):(b.setCell (a,k) f).heap[a]?=QC.mk (c.setIfInBounds k f) d:=by
 have g:=bG e;have h:b.heap[a]=.cells c d (0,0):=(fF.1 e).2;show(b.heap.modify a _)[a]?=_;rw[lM (by simpa using g),Array.getElem_modify_self,h];rfl
theorem Cu(b a:Nat):((b,0):Addr).add a=(b,a):=by
 unfold Addr.add;by_cases c:a=0
 ·subst c;rfl
 ·rw[aA c,iN]
theorem zS(b d a:Nat):((b,d):Addr).add a=(b,d+a):=by
 unfold Addr.add;by_cases c:a=0
 ·subst c;rfl
 ·rw[aA c]
theorem fH{c e:World}{d k j:Nat}{a:TypeId}{g:Value}{l:List Value}(i:c.ownsRow d a k g j l)(b:c.grownBy e g.ownBlock)(q:d<=c.heap.size):Below d c e:=
 ⟨b.os,b.tape,b.output,b.size,λf r=>b.block f (by omega) (by
  rcases i.2 with⟨rfl,-⟩|⟨h,n,o,rfl,m,-⟩
  ·intro a;cases a
  ·intro a;have p:f=h:=by injection a
   omega)⟩
def fI(a:World)(c:Value)(e:World)(d:Value):Prop:=a.grownBy e c.ownBlock/\(d.ownBlock=c.ownBlock\/∃b,d.ownBlock=some b/\a.heap.size<=b)
theorem fI.refl(a:World)(b:Value):fI a b a b:=⟨World.grownBy.refl _ _,.inl rfl⟩
theorem fI.trans{f g h:World}{i j l:Value}(q:fI f i g j)(k:fI g j h l):fI f i h l:=by
 obtain⟨b,a⟩:=q;obtain⟨d,c⟩:=k;refine⟨⟨d.os.trans b.os,d.tape.trans b.tape,d.output.trans b.output,bK b.size d.size,λk n o=>(d.block k (eJ n b.size) ?_).trans (b.block k n o)⟩,?_⟩
 ·rcases a with a|⟨e,a,p⟩
  ·rw[a];exact o
  ·rw[a];intro m;injection m with m;omega
 ·rcases c with c|⟨e,c,r⟩
  ·rcases a with a|⟨e,a,p⟩
   ·exact .inl (c.trans a)
   ·exact .inr ⟨e,c.trans a,p⟩
  ·exact .inr ⟨e,c,bK b.size r⟩
theorem fI.below{b c:World}(a:Below b b c)(d:Value):fI b d c d:=⟨⟨a.os,a.tape,a.output,a.size,λf e _=>a.block f e⟩,.inl rfl⟩
theorem dM{a c:World}{d i h:Nat}{f:TypeId}{j:Value}{k:List Value}(q:a.ownsRow d f i j h k)(s:Below a a c):c.ownsRow d f i j h k:=by
 obtain⟨r,b⟩:=q;refine⟨r,?_⟩;rcases b with b|⟨g,n,o,l,m,e,p⟩
 ·exact .inl b
 ·exact .inr ⟨g,n,o,l,m,(s.block g (bG e)).trans e,p⟩
theorem pP{b:World}{c l k:Nat}{h:TypeId}{e:Value}{m:List Value}(j:b.ownsRow c h l e k m):∀a,e.ownBlock=some a->c<=a/\a<b.heap.size:=by
 intro a d;rcases j.2 with⟨rfl,-⟩|⟨i,n,o,rfl,f,g,-⟩
 ·cases d
 ·have:i=a:=by injection d
  subst this;exact⟨f,bG g⟩
theorem rH{b c:World}{d i:Value}(g:fI b d c i){a:Nat}(h:a<b.heap.size)(e:d.ownBlock≠some a)(k:Nat):c.cell? (a,k)=b.cell? (a,k):=
 rB (w:=b) (g.1.block a h (λf=>e f.symm))
theorem pQ{b:World}{c i h:Nat}{e:TypeId}{d:Value}{j:List Value}(g:b.ownsRow c e i d h j){a:Nat}(k:b.heap.size<=a\/a<c):d.ownBlock≠some a:=λf=>by
 have:=pP g a f;omega
theorem FQ{d e:World}{f j i:Nat}{h:TypeId}{c k:Value}{l:List Value}(s:d.ownsRow f h j c i l)(u:d.grownBy e k.ownBlock)(n:∀a,c.ownBlock=some a->k.ownBlock≠some a):e.ownsRow f h j c i l:=by
 obtain⟨t,b⟩:=s;refine⟨t,?_⟩;rcases b with b|⟨a,o,p,rfl,m,g,q⟩
 ·exact .inl b
 ·refine .inr ⟨a,o,p,rfl,m,?_,q⟩;rw[u.block a (fF.1 g).1 (λr=>n a rfl r.symm)];exact g
theorem acC{h:World}{c b f e:Nat}{d:TypeId}{g:Value}{i:List Value}(o:h.ownsRow c d f g e i)(q:b<=c):h.ownsRow b d f g e i:=by
 obtain⟨p,a⟩:=o;refine⟨p,?_⟩;rcases a with a|⟨n,l,m,j,k,r⟩
 ·exact .inl a
 ·exact .inr ⟨n,l,m,j,bK q k,r⟩
theorem nM{d:World}{b h g a r:Nat}{e:TypeId}{i:Value}{j:List Value}(p:d.ownsRow b e h i g j)(u:a<b)(t:Value):(d.setCell (a,r) t).ownsRow b e h i g j:=by
 obtain⟨q,c⟩:=p;refine⟨q,?_⟩;rcases c with c|⟨f,m,n,k,l,o,s⟩
 ·exact .inl c
 ·exact .inr ⟨f,m,n,k,l,(dJ _ _ _ _ (by show f≠a;omega)).trans o,s⟩
theorem bk(a:World)(b:Array Value)(c:TypeId):Below a a (a.alloc (.cells b c)):=(aY _ _).alloc (aP _) _
def nN(b a:Nat):Nat:=b*2^(32-a)%4294967296|||b/2^a
theorem acE{a b:Nat}(ha:a<4294967296)(c:b<4294967296):a|||b<4294967296:=Nat.or_lt_two_pow (n:=32) ha c
theorem XA{a b:Nat}(ha:a<4294967296)(c:b<4294967296):a^^^b<4294967296:=Nat.xor_lt_two_pow (n:=32) ha c
theorem XB{a b:Nat}(ha:a<4294967296):a&&&b<4294967296:=NY Nat.and_le_left ha
theorem Im{a c:Nat}(b:a<4294967296):nN a c<4294967296:=
 acE (xV _ (by decide)) (NY (Nat.div_le_self _ _) b)
def K5(a b c d:Nat):Nat:=(nN a b^^^nN a c)^^^nN a d
def mix(a b c d:Nat):Nat:=(nN a b^^^nN a c)^^^(a/2^d)
def iE(a b:Nat):Nat:=(a+b)%4294967296
theorem A4(a b:Nat):iE a b<4294967296:=xV _ (by decide)
def wd(a b c d:Nat):Nat:=((a*256+b)*256+c)*256+d
theorem akt{a b c d:Nat}(ha:a<256)(e:b<256)(f:c<256)(g:d<256):wd a b c d<4294967296:=by unfold wd;omega
def jB(b:Nat->Nat)(a:Nat):Nat:=
 if c:a<16 then wd (b (4*a)) (b (4*a+1)) (b (4*a+2)) (b (4*a+3))
 else iE (iE (iE (jB b (a-16)) (mix (jB b (a-15)) 7 18 3)) (jB b (a-7))) (mix (jB b (a-2)) 17 19 10)
termination_by a
theorem acF(b:Nat->Nat){a:Nat}(c:a<16):jB b a=wd (b (4*a)) (b (4*a+1)) (b (4*a+2)) (b (4*a+3)):=by
 rw[jB,Cj c]
theorem acG(b:Nat->Nat){a:Nat}(c:16<=a):jB b a=iE (iE (iE (jB b (a-16)) (mix (jB b (a-15)) 7 18 3)) (jB b (a-7))) (mix (jB b (a-2)) 17 19 10):=by
 rw[jB,DA (by omega)]
theorem acH{a:Nat->Nat}(b:∀k,a k<256)(c:Nat):jB a c<4294967296:=by
 by_cases d:c<16
 ·rw[acF a d];exact akt (b _) (b _) (b _) (b _)
 ·rw[acG a (by omega)];exact A4 _ _
structure St where
 a:Nat
 b:Nat
 c:Nat
 d:Nat
 e:Nat
 f:Nat
 g:Nat
 h:Nat
def St.at(a:St):Nat->Nat
 |0=>a.a
 |1=>a.b
 |2=>a.c
 |3=>a.d
 |4=>a.e
 |5=>a.f
 |6=>a.g
 |_=>a.h
structure St.Ok(i:St):Prop where
 a:i.a<4294967296
 b:i.b<4294967296
 c:i.c<4294967296
 d:i.d<4294967296
 e:i.e<4294967296
 f:i.f<4294967296
 g:i.g<4294967296
 h:i.h<4294967296
def chv(a:St):Nat:=a.g^^^(a.e&&&(a.f^^^a.g))
def mjv(a:St):Nat:=(a.a&&&a.b)|||(a.c&&&(a.a|||a.b))
def t1(a:St)(k b:Nat):Nat:=iE (iE (iE (iE a.h (K5 a.e 6 11 25)) (chv a)) k) b
def t2(a:St):Nat:=iE (K5 a.a 2 13 22) (mjv a)
def St.next(a:St)(k b:Nat):St:=⟨iE (t1 a k b) (t2 a),a.a,a.b,a.c,iE a.d (t1 a k b),a.e,a.f,a.g⟩
theorem St.Ok.next{b:St}(a:b.Ok)(k c:Nat):(b.next k c).Ok:=⟨A4 _ _,a.a,a.b,a.c,A4 _ _,a.e,a.f,a.g⟩
def Oi:aO:=[1116352408,1899447441,3049323471,3921009573,961987163,1508970993,2453635748,2870763221,3624381080,310598401,607225278,1426881987,1925078388,2162078206,2614888103,3248222580,3835390401,4022224774,264347078,604807628,770255983,1249150122,1555081692,1996064986,2554220882,2821834349,2952996808,3210313671,3336571891,3584528711,113926993,338241895,666307205,773529912,1294757372,1396182291,1695183700,1986661051,2177026350,2456956037,2730485921,2820302411,3259730800,3345764771,3516065817,3600352804,4094571909,275423344,430227734,506948616,659060556,883997877,958139571,1322822218,1537002063,1747873779,1955562222,2024104815,2227730452,2361852424,2428436474,2756734187,3204031479,3329325298]
def K6(a:Nat):Nat:=Oi.getD a 0
def St.rounds(c:St)(b:Nat->Nat):Nat->St
 |0=>c
 |a+1=>(c.rounds b a).next (K6 a) (jB b a)
theorem St.Ok.rounds{d:St}(c:d.Ok)(b:Nat->Nat):∀a,(d.rounds b a).Ok
 |0=>c
 |a+1=>(c.rounds b a).next _ _
def St.plus(a b:St):St:=⟨iE a.a b.a,iE a.b b.b,iE a.c b.c,iE a.d b.d,iE a.e b.e,iE a.f b.f,iE a.g b.g,iE a.h b.h⟩
theorem St.plus_ok(a b:St):(a.plus b).Ok:=⟨A4 _ _,A4 _ _,A4 _ _,A4 _ _,A4 _ _,A4 _ _,A4 _ _,A4 _ _⟩
def St.absorb(a:St)(b:Nat->Nat):St:=a.plus (a.rounds b 64)
theorem St.absorb_ok(b:St)(a:Nat->Nat):(b.absorb a).Ok:=St.plus_ok _ _
def rI:St:=⟨1779033703,3144134277,1013904242,2773480762,1359893119,2600822924,528734635,1541459225⟩
theorem Lb:rI.Ok:=⟨by decide,by decide,by decide,by decide,by decide,by decide,by decide,by decide⟩
def XC(a:Nat):aO:=[a/72057594037927936%256,a/281474976710656%256,a/1099511627776%256,a/4294967296%256,a/16777216%256,a/65536%256,a/256%256,a%256]
def A5(a:Nat):aO:=[a/16777216%256,a/65536%256,a/256%256,a%256]
def Ld(a:Nat):aO:=List.replicate a 0
def DM(a:Nat):Nat:=(119-a%64)%64
def fV(a:aO):aO:=a++(128::(Ld (DM a.length)++XC (a.length*8)))
def uR(p:aO)(a:Nat):Nat->Nat:=λb=>p.getD (64*a+b) 0%256
def St.blocks(b:St)(p:aO):Nat->St
 |0=>b
 |a+1=>(b.blocks p a).absorb (uR p a)
theorem St.Ok.blocks{a:St}(b:a.Ok)(p:aO):∀c,(a.blocks p c).Ok
 |0=>b
 |_+1=>St.absorb_ok _ _
def St.bytes(a:St):aO:=A5 a.a++A5 a.b++A5 a.c++A5 a.d++A5 a.e++A5 a.f++A5 a.g++A5 a.h
def mg(a:aO):aO:=(rI.blocks (fV a) ((fV a).length/64)).bytes
theorem Le(a:aO):(mg a).length=32:=rfl
theorem aku(c:Nat):∀b∈A5 c,b<256:=by
 intro b a;unfold A5 at a;simp only[iu,oG,oH]at a;rcases a with rfl|rfl|rfl|rfl<;>exact xV _ (by decide)
theorem acI(d:aO):∀c∈mg d,c<256:=by
 intro c b;unfold mg St.bytes at b;simp only[lN]at b;rcases b with((((((a|a)|a)|a)|a)|a)|a)|a<;>exact aku _ c a
def Io(b a:aO):aO:=mg (mg b++a)
theorem akv(b:Nat){a:Nat}(c:a<8):(XC b)[a]?=some (b/2^(8*(7-a))%256):=by
 match a,c with
 |0,_|1,_|2,_|3,_|4,_|5,_|6,_=>rfl
 |7,_=>show some (b%256)=some (b/2^(8*(7-7))%256);simp
theorem akw(b:Nat){a:Nat}(c:a<4):(A5 b)[a]?=some (b/2^(8*(3-a))%256):=by
 match a,c with
 |0,_|1,_|2,_=>rfl
 |3,_=>show some (b%256)=some (b/2^(8*(3-3))%256);simp
def jN(a:Nat):Nat:=if a%64>55 then 128 else 64
theorem akx(a:aO):(fV a).length=64*(a.length/64)+jN a.length:=by
 unfold fV Ld XC DM jN;rw[fu,dZ,fu,KL];simp only[dZ,je];split<;>omega
theorem aky(a:aO):(fV a).length/64=a.length/64+jN a.length/64:=by
 rw[akx];unfold jN;split<;>omega
theorem acJ(a:aO){b:Nat}(c:b<a.length):(fV a).getD b 0=a[b]:=by
 unfold fV;rw[kR,uN c,fw c];rfl
theorem akz(a:aO):(fV a).getD a.length 0=128:=by
 unfold fV;rw[kR,rD (aP _),zI];rfl
theorem akA(a:aO){b:Nat}(e:a.length<b)(f:b<a.length+1+DM a.length):(fV a).getD b 0=0:=by
 unfold fV;rw[kR,rD (by omega)];obtain⟨c,d⟩:∃c,b-a.length=c+1:=⟨b-a.length-1,by omega⟩;rw[d,Xl,uN (by unfold Ld;rw[KL];omega)];unfold Ld;rw[Xm];split<;>rfl
theorem akB(a:aO){b:Nat}(d:b<8):(fV a).getD (a.length+1+DM a.length+b) 0=a.length*8/2^(8*(7-b))%256:=by
 unfold fV;rw[kR,rD (by omega)];have c:a.length+1+DM a.length+b-a.length=(DM a.length+b)+1:=by omega
 rw[c,Xl,rD (by unfold Ld;rw[KL];omega)];unfold Ld;rw[KL,Nat.add_sub_cancel_left,akv _ d];rfl
theorem akC(a:aO):a.length+1+DM a.length+8=64*(a.length/64)+jN a.length:=by
 unfold DM jN;split<;>omega
theorem tail_at(a:aO){k:Nat}(h:k<jN a.length):
  (fV a).getD (64*(a.length/64)+k) 0 =
   if f:k<a.length%64 then a[64*(a.length/64)+k]'(by omega) else if k=a.length%64 then 128 else if k<jN a.length-8 then 0
   else a.length*8/2^(8*(8-1-(k-(jN a.length-8))))%256:=by
 have g:=akC a;have i:64<=jN a.length:=by unfold jN;split<;>omega
 by_cases b:k<a.length%64
 ·rw[Cj b];exact acJ a _
 ·rw[DA b];by_cases c:k=a.length%64
  ·rw[aD c];have:64*(a.length/64)+k=a.length:=by omega
   rw[this];exact akz a
  ·rw[aA c];by_cases d:k<jN a.length-8
   ·rw[aD d];exact akA a (by omega) (by omega)
   ·rw[aA d];have e:64*(a.length/64)+k=a.length+1+DM a.length+(k-(jN a.length-8)):=by omega
    rw[e,akB a (by omega)]
theorem akD(a:aO)(d:∀e∈a,e<256){b k:Nat}(c:64*b+k<a.length):uR (fV a) b k=a[64*b+k]:=by
 unfold uR;rw[acJ a c,NZ (d _ (bM c))]
theorem Oj(p:aO)(a k:Nat):uR p a k<256:=xV _ (by decide)
theorem akE(c:St){b a:Nat}(f:b<8)(d:a<4):c.bytes[4*b+a]?=some (c.at b/2^(8*(4-1-a))%256):=by
 rw[show 4-1-a=3-a by omega];have e:=akw (c.at b) d;rw[<-e]
 match b,f,a,d with
 |0,_,0,_|0,_,1,_|0,_,2,_|0,_,3,_=>rfl
 |1,_,0,_|1,_,1,_|1,_,2,_|1,_,3,_=>rfl
 |2,_,0,_|2,_,1,_|2,_,2,_|2,_,3,_=>rfl
 |3,_,0,_|3,_,1,_|3,_,2,_|3,_,3,_=>rfl
 |4,_,0,_|4,_,1,_|4,_,2,_|4,_,3,_=>rfl
 |5,_,0,_|5,_,1,_|5,_,2,_|5,_,3,_=>rfl
 |6,_,0,_|6,_,1,_|6,_,2,_|6,_,3,_=>rfl
 |7,_,0,_|7,_,1,_|7,_,2,_|7,_,3,_=>rfl
