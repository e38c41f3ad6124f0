import Derived.OrdersHeld
import Derived.Laws.AppendOwn
import Derived.Laws.Entries
import Derived.Tactics
import Derived.Below
import Derived.RangeFuncIn
import Derived.TacticsIn
import Derived.LoopIn
import Derived.OrdersIn
import Derived.Maps.AppendAt
import Derived.Deep.Draws
import Derived.IntWalk
import Derived.Laws.Rows
import Derived.Laws.Strings
import Derived.Laws.StructEq
import Derived.Defers
import Derived.Lib.MakeNoZero
import Derived.Laws.Externs
import Derived.Laws.CopyOwn
import Derived.Lib.AppendStr
import Derived.Recover
import Derived.ChangeKeysEq
import Derived.Lib.ConvBytes
import Derived.KernelRfl
import Derived.Laws.Concat
import Derived.Test.YtligcbdjiolamaaGreatDoorProg
import Derived.RangeFuncSeq
import Derived.RangeFuncBound
import Derived.Laws.MakeOwn
set_option linter.defProp false
set_option linter.unusedSimpArgs false
set_option synthInstance.maxSize 1000000
set_option synthInstance.maxHeartbeats 400000
def Qa:=@Option.bind_some
def Qb:=@if_neg
def Qc:=@if_pos
def Qd:=@Bool.and_eq_true
def Qe:=@List.getElem?_eq_some_iff
def Qf:=@List.mem_cons_of_mem
def Qg:=@Option.some.injEq
def Qh:=@List.mem_cons_self
def Qi:=@Go.Result.andThen_ok
def Qj:=@List.getElem?_eq_getElem
def Qk:=@Nat.eq_of_beq_eq_true
def Ql:=@Go.run_underlying
def Qm:=@Nat.le_of_ble_eq_true
def Qn:=@List.mem_cons
def Qo:=@Nat.lt_succ_self
def Qp:=@Go.Sem.run_bind
def Qq:=@List.mem_singleton
def Qr:=@Nat.le_refl
def Qs:=@Go.Sem.run_pure
def Qt:=@Prod.mk.injEq
def Qu:=@List.mem_of_getElem?
def Qv:=@Array.getElem?_eq_some_iff
def Qw:=@Nat.lt_of_lt_of_le
def Qx:=@List.length_take
def Qy:=@decide_eq_true_eq
def Qz:=@List.length_append
def Q0:=@List.getElem?_map
def Q1:=@Array.getD_eq_getD_getElem?
def Q2:=@List.length_cons
def Q3:=@Bool.false_eq_true
def Q4:=@decide_eq_true
def Q5:=@List.all_eq_true
def Q6:=@List.mem_append_right
def Q7:=@of_decide_eq_true
def Q8:=@List.mem_append
def Q9:=@Array.toArray_toList
def Wa:=@List.pairwise_cons
def Wb:=@Nat.le_trans
def Wc:=@List.map_cons
def Wd:=@if_false
def We:=@Int.toNat_natCast
def Wf:=@Go.Addr.add_lit
def Wg:=@Array.getElem?_eq_getElem
def Wh:=@List.getElem?_eq_none
def Wi:=@Array.getElem?_toList
def Wj:=@List.getElem?_drop
def Wl:=@Nat.zero_add
def Wm:=@Go.World.putObj_heap_same
def Wn:=@List.getElem?_append_left
def Wo:=@Option.map_some
def Wp:=@List.getElem?_cons_zero
def Wq:=@congrArg
def Wr:=@Nat.mul_le_mul_right
def Ws:=@List.mem_append_left
def Wt:=@List.getElem?_take_of_lt
def Wu:=@decide_eq_false
def Wv:=@List.getElem?_toArray
def Ww:=@List.getElem?_cons_succ
def Wx:=@List.length_nil
def Wy:=@Go.World.putObj_heap_other
def Wz:=@List.eq_nil_of_length_eq_zero
def W5:=@List.mem_map
def W6:=@List.length_map
def W7:=@List.length_drop
def W8:=@List.getElem?_take
def W9:=@List.getElem?_append_right
def Xa:=@List.getElem?_modify
def Xb:=@List.nodup_cons
def Xc:=@List.map_append
def Xd:=@List.take_of_length_le
def Xe:=@Go.World.alloc_heap_new
def Xf:=@List.ext_getElem?
def Xg:=@Option.some.inj
def Xh:=@Array.getElem?_setIfInBounds_ne
def Xi:=@List.drop_eq_nil_of_le
def Xj:=@Bool.true_and
def Xk:=@List.size_toArray
def Xl:=@List.nodup_append
def Xm:=@List.mem_iff_getElem?
def Xn:=@Nat.add_assoc
def Xo:=@if_true
def Xp:=@decide_eq_true_iff
def Xq:=@Nat.add_mul
def Xr:=@Array.getElem?_append_left
def Xs:=@Bool.or_eq_true
def Xt:=@Option.isSome_iff_exists
def Xu:=@Nat.le_of_lt
def Xv:=@Nat.mod_two_eq_zero_or_one
def Xw:=@List.getElem?_of_mem
def Xx:=@Nat.min_eq_left
def Xy:=@List.append_nil
def Xz:=@Int.toNat_of_nonneg
def X0:=@Bool.not_eq_true'
def X2:=@List.take_add_one
def X3:=@Nat.le_succ_of_le
def X4:=@List.take_append_drop
def X5:=@List.drop_zero
def X6:=@Bool.not_true
def X7:=@List.all_cons
def X8:=@List.nil_append
def X9:=@List.length_set
abbrev QA:Go.Value:=.slice none 0 0
abbrev QB:Go.Value:=.bool false
abbrev QC:Go.Value:=.bool true
abbrev QD:=Go.IntKind.i32.wrap
abbrev QE:ByteArray:=ByteArray.mk #[]
abbrev QF:List Nat:=[1,2,3,4,5,6,7,8,9,10,11,12,13,14,15,16]
abbrev QG:=Go.Exit->Go.Act->Go.World->Prop
abbrev QH:=Go.Act->Go.World->Prop
abbrev QI:=List (Nat×Go.Value)
abbrev QK:=Option Go.Addr
abbrev QL:=List Go.Value
abbrev QM:=List Nat
abbrev QN:=Option Nat
abbrev QP:=List Int
abbrev QQ:=Go.TypeId
abbrev QR:=Go.Program
abbrev QT:=List Go.Oper
abbrev QU:=Array Go.Oper
def Ya:=@Nat.zero_le
def Yc:=@List.cons_append
def Yd:=@Nat.testBit_or
def Ye:=@List.length_replicate
def Yf:=@Array.toList_inj
def Yg:=@List.map_toArray
def Yh:=@Nat.lt_or_ge
def Yi:=@Bool.false_or
def Yj:=@List.mem_range
def Yk:=@Nat.one_shiftLeft
def Ym:=@List.cons.injEq
def Yn:=@List.getElem_of_mem
def Yo:=@Array.length_toList
def Yp:=@Array.getElem?_eq_none
def Yq:=@List.drop_drop
def Yr:=@Int.tmod_lt_of_pos
def Ys:=@Bool.false_ne_true
def Yt:=@List.drop_eq_getElem_cons
def Yu:=@Option.map_eq_map
def Yv:=@Array.toList_push
def Yw:=@Bool.or_eq_false_iff
def Yx:=@Bool.and_true
def Yy:=@Array.size_setIfInBounds
def Yz:=@Nat.testBit_two_pow
def Y0:=@Option.getD_some
def Y1:=@Nat.le_mul_of_pos_right
def Y2:=@Array.eq_empty_of_size_eq_zero
def Y3:=@List.drop_length
def Y4:=@Bool.not_false
def Y5:=@Nat.one_mul
def Y6:=@Nat.add_comm
def Y7:=@Nat.beq_refl
def Y8:=@List.length_singleton
def Y9:=@Array.getElem?_modify
def Ja:=@Bool.and_eq_false_iff
def Jb:=@List.getElem?_set
def Jc:=@Array.mk.injEq
def Jd:=@List.mem_of_mem_take
def Je:=@List.nodup_nil
def Jf:=@Bool.false_and
def Jg:=@Nat.zero_mul
def Jh:=@List.any_eq_true
def Ji:=@List.map_nil
def Jj:=@Nat.le_of_not_lt
def Jk:=@List.getElem?_eq_none_iff
def Jl:=@Array.filter_eq_empty_iff
def Jm:=@List.pairwise_iff_getElem
def Jn:=@List.map_congr_left
def Jo:=@List.any_cons
def Jp:=@Nat.testBit_two_pow_self
def Jq:=@List.append_of_mem
def Jr:=@Bool.not_eq_false'
def Js:=@List.getElem?_replicate
def Jt:=@Option.bind_eq_some_iff
def Ju:=@List.drop_take
def Jv:=@List.take_take
def Jw:=@Nat.add_zero
def Jy:=@Option.map_eq_some_iff
def Jz:=@List.append_assoc
def J0:=@List.take_left
def J1:=@List.any_eq_false
def J2:=@List.filter_eq_nil_iff
def J3:=@Nat.ble_eq_true_of_le
def J4:=@List.length_filter_le
def J5:=@List.getElem_map
def J6:=@List.isEmpty_iff
def J7:=@List.getElem_inj
def J8:=@List.mem_nil_iff
def J9:=@Bool.not_eq_true
def Va:=@Bool.eq_iff_iff
def Vb:=@List.foldl_cons
def Vc:=@Int.tmod_nonneg
def Vd:=@List.mem_filter
def Ve:=@List.map_map
def Vf:=@Nat.succ_mul
section
namespace Go.Z
open Go.RowKit
def lk:QI->Nat->Option Value
 | [],_=>none
 |(e,v)::r,d=>bif Nat.beq e d then some v else lk r d
def ev (l:QI):Operand->Option Value
 | .tmp t=>lk l t
 | .const v=>some v
 | .global g=>some (.pointer (some ⟨g,0,none⟩))
 | .func f=>some (.func (.func f) #[] #[])
structure Fr (a:Act) (n:Nat) (ds:List Deferred) (l:QI):Prop where
 size:a.tmps.size=n
 defs:a.defers=ds
 get: ∀d v,lk l d=some v->a.tmps[d]?=some v
def Qak (l:QI)(d:Nat)(v:Value):lk ((d,v)::l) d=some v:=by simp[lk]
def Qag (l:QI){d e:Nat}(v:Value)(h:e≠d):lk ((e,v)::l) d=lk l d:=by
 have:Nat.beq e d=false:=by cases E:Nat.beq e d with
  |false=>rfl
  |true=>exact absurd (Qk E) h
 simp[lk,this]
section
variable {a:Act}{n:Nat}{ds:List Deferred}{l:QI}
def Fr.eval (h:Fr a n ds l){x:Operand}{v:Value}(hx:ev l x=some v):a.eval x=v:=by
 cases x with
 |tmp t=>
  have:=h.get t v hx;simp[Act.eval,Q1,this]
 |const u=>injection hx
 |global g=>injection hx
 |func f=>injection hx
def Fr.put (h:Fr a n ds l){d:Nat}(J:d<n)(v:Value):Fr (a.put (some d) v) n ds ((d,v)::l):=by
 refine⟨by simp[Act.put,h.size],h.defs,λe u I=>?_⟩;by_cases E:d=e;subst E;rw[Qak]at I;injection I with I
 subst I;simp[Act.put,h.size,J];rw[Qag _ _ E]at I;simp only[Act.put];rw[Xh E];exact h.get e u I
def kp (l:QI):QM->QI
 | []=>[]
 |k::r=>match lk l k with
  |some v=>(k,v)::kp l r
  |none=>kp l r
def lk_kp (ks:QM)(d:Nat)(v:Value)(h:lk (kp l ks) d=some v):lk l d=some v:=by
 induction ks with
 |nil=>simp[kp,lk]at h
 |cons k r ih=>
  unfold kp at h;cases hk:lk l k with
  |none=>rw[hk]at h;exact ih h
  |some u=>
   rw[hk]at h;by_cases E:k=d;subst E;rw[Qak]at h;rw[hk];exact h;exact ih (by rw[<-h];exact(Qag _ _ E).symm)
def Fr.keep (h:Fr a n ds l)(ks:QM):Fr a n ds (kp l ks):=⟨h.size,h.defs,λd v E=>h.get d v (lk_kp ks d v E)⟩
def Fr.cons {l':QI}{d:Nat}{v:Value}(h:Fr a n ds l)(h':Fr a n ds l')(e:lk l d=some v):Fr a n ds ((d,v)::l'):=by
 refine⟨h.size,h.defs,λd' v' E=>?_⟩;by_cases hk:d=d';subst hk;rw[Qak]at E;injection E with E
 subst E;exact h.get _ _ e;rw[Qag _ _ hk]at E;exact h'.get _ _ E
end
def argl:QL->Nat->QI
 | [],_=>[]
 |v::r,k=>(k,v)::argl r (k+1)
def lk_argl (vs:QL): ∀(k d:Nat) (v:Value),lk (argl vs k) d=some v->k<=d/\vs[d-k]?=some v:=by
 induction vs with
 |nil=>intro k d v h;simp[argl,lk]at h
 |cons u r ih=>
  intro k d v h;unfold argl at h;by_cases E:k=d;subst E;rw[Qak]at h;injection h with h
  subst h;simp;rw[Qag _ _ E]at h;obtain⟨h1,h2⟩:=ih _ _ _ h;refine⟨by omega,?_⟩;have:d-k=(d-(k+1))+1:=by omega
  rw[this,Ww];exact h2
def Fr.entry (vs:QL)(n:Nat)(I:vs.length<=n):
  Fr {tmps:=vs.toArray++Array.replicate (n-vs.toArray.size) undef,defers:=[]} n [] (argl vs 0):=by
 refine⟨by simp;omega,rfl,λd v h=>?_⟩;obtain⟨_,h2⟩:=lk_argl vs 0 d v h;have E:d<vs.length:=by
  rcases Yh d vs.length with h'|h'
  exact h';rw[Wh (by omega)]at h2;cases h2
 rw[Xr (by simpa using E)];simpa using h2
abbrev FW (r:QN):Fence:={Fence.wide with round:=r}
abbrev WP (r:QN) (P:QR) (c:Code) (Q:QG) (a:Act) (w:World):Prop:=c.wpIn (FW r) 0 P Q a w
abbrev WL (r:QN) (P:QR) (ops:QU) (Q:QG) (l:QT) (a:Act) (w:World):Prop:=wpListIn (FW r) 0 P ops Q l a w
def callsFW {r:QN}{n:Nat}{P:QR}{f:FuncId}{args:Array Value}{w:World}{R:Ending->World->Prop}(h:Calls P f args w R):CallsIn (FW r) n P f args w R:=by
 have h1:CallsIn Fence.wide n P f args w R:=callsIn_wide.2 h;cases r with
 |none=>exact h1
 |some l=>exact h1
def Qel {r:QN}{P:QR}{ρ:Operand->Value}{o:Oper}{x:Next}{w w':World}(h:(execOp ρ o).run P w=.ok x w')(hx: ∀d,x≠ .defer d):(o.semAt r ρ).run P w=.ok x w':=by
 cases r with
 |none=>rw[Oper.semAt_none];exact h
 |some l=>
  rw[Oper.semAt_some];exact h;intro c I;unfold execOp at h;rw[I]at h;simp only[Qp]at h;cases E:(resolve ρ c o.type).run P w with
  |ok d J=>rw[E]at h;simp only[Qi,Qs]at h;injection h with h _;exact hx _ h.symm
  |halt y J=>rw[E]at h;simp[Result.andThen]at h
section
variable {r:QN}{P:QR}{ops:QU}{Q:QG}{a:Act}{w:World}{rest:QT}{n:Nat}{ds:List Deferred}{l:QI}
def enter {f:FuncId}{fn:Func}{c:Code}{vs:QL}{m:Nat}{R:Ending->World->Prop}(E:P.funcs[f]?=some fn)(I:fn.body=some c)(J:fn.ntmps=m)(N:vs.length<=m)
  (h: ∀a,Fr a m [] (argl vs 0)->WP none P c (bodyPost P fn R) a w):Calls P f vs.toArray w R:=by
 refine calls_of_wp E I (wpIn_wide.1 (h _ ?_));subst J;exact Fr.entry vs _ N
def stepw {o:Oper}{x:Next}{w':World}(E:o.guard=none)(I:(execOp a.eval o).run P w=.ok x w')(hx: ∀d,x≠ .defer d)
  (h: ∀K:QH,(∀a w,WL r P ops Q rest a w->K a w)->o.uponIn (FW r) 0 P a K Q (.ok x w')):WL r P ops Q (o::rest) a w:=
 wpListIn_plain E λK J=>⟨λ_ _=>trivial,by rw[Qel I hx];exact h K J⟩
def valw {d:Nat}{op:Op}{T:QQ}{pos:String}{af:Array Edge}{v:Value}{w':World}(E:Fr a n ds l)(I:Nat.ble (d+1) n=true)
  (J:(execOp a.eval ⟨some d,op,T,pos,af,none⟩).run P w=.ok (.value v) w')
  (h: ∀a',Fr a' n ds ((d,v)::l)->WL r P ops Q rest a' w'):WL r P ops Q (⟨some d,op,T,pos,af,none⟩::rest) a w:=
 stepw rfl J (λ_ h=>by cases h) λ_ N=>N _ _ (h _ (E.put (Qm I) v))
def val {d:Nat}{op:Op}{T:QQ}{pos:String}{af:Array Edge}{v:Value}(E:Fr a n ds l)(I:Nat.ble (d+1) n=true)
  (J:(execOp a.eval ⟨some d,op,T,pos,af,none⟩).run P w=.ok (.value v) w)
  (h: ∀a',Fr a' n ds ((d,v)::l)->WL r P ops Q rest a' w):WL r P ops Q (⟨some d,op,T,pos,af,none⟩::rest) a w:=valw E I J h
def skipw {op:Op}{T:QQ}{pos:String}{af:Array Edge}{w':World}(E:Fr a n ds l)
  (I:(execOp a.eval ⟨none,op,T,pos,af,none⟩).run P w=.ok .skip w')
  (h: ∀a',Fr a' n ds l->WL r P ops Q rest a' w'):WL r P ops Q (⟨none,op,T,pos,af,none⟩::rest) a w:=
 stepw rfl I (λ_ h=>by cases h) λ_ J=>J _ _ (h _ E)
def call {d:Nat}{op:Op}{T:QQ}{pos:String}{af:Array Edge}{f:FuncId}{args:Array Value}{R:Ending->World->Prop}(E:Fr a n ds l)(I:Nat.ble (d+1) n=true)
  (J:(execOp a.eval ⟨some d,op,T,pos,af,none⟩).run P w=.ok (.enter f args) w) (N:Calls P f args w R)
  (h: ∀e w',R e w'->(∃v,e=.returned v/\∀a',Fr a' n ds ((d,v)::l)->WL r P ops Q rest a' w')\/(∃ch,e=.panicked ch/\Q (.panic ch) a w')):
  WL r P ops Q (⟨some d,op,T,pos,af,none⟩::rest) a w:=
 stepw rfl J (λ_ h=>by cases h) λ_ W=>⟨(λh=>by cases h),(callsFW N).mono λe w' Y=>by
  rcases h e w' Y with⟨v,rfl,h⟩|⟨ch,rfl,h⟩
  exact W _ _ (h _ (E.put (Qm I) v));exact h⟩
def call1 {d:Nat}{op:Op}{T:QQ}{pos:String}{af:Array Edge}{f:FuncId}{args:Array Value}{R:Ending->World->Prop}(E:Fr a n ds l)(I:Nat.ble (d+1) n=true)
  (J:(execOp a.eval ⟨some d,op,T,pos,af,none⟩).run P w=.ok (.enter f args) w) (N:Calls P f args w R)
  (h: ∀e w',R e w'->∃v,e=.returned v/\∀a',Fr a' n ds ((d,v)::l)->WL r P ops Q rest a' w'):
  WL r P ops Q (⟨some d,op,T,pos,af,none⟩::rest) a w:=call E I J N λe w' W=>.inl (h e w' W)
def defer {op:Op}{T:QQ}{pos:String}{af:Array Edge}{dd:Deferred}(E:Fr a n ds l)
  (I:(execOp a.eval ⟨none,op,T,pos,af,none⟩).run P w=.ok (.defer dd) w)
  (h: ∀a',Fr a' n (dd::ds) l->WL none P ops Q rest a' w):WL none P ops Q (⟨none,op,T,pos,af,none⟩::rest) a w:=
 wpListIn_plain rfl λK J=>⟨λ_ _=>trivial,by
  show Oper.uponIn _ _ _ _ _ _ _ ((Oper.semAt none a.eval _).run P w);rw[Oper.semAt_none,I];exact J _ _ (h _ ⟨E.size,by rw[<-E.defs];rfl,E.get⟩)⟩
def on {dst:Option Tmp}{op:Op}{T:QQ}{pos:String}{af:Array Edge}{j dj:Nat}{b:Bool}(E:Fr a n ds l)(I:(ops[j]?).bind (·.dst)=some dj)(J:lk l dj=some (.bool b))
  (h:WL r P ops Q (⟨dst,op,T,pos,af,none⟩::rest) a w):WL r P ops Q (⟨dst,op,T,pos,af,some (j,b)⟩::rest) a w:=by
 have N:yielded ops a.tmps j=some b:=by simp[yielded,I,E.get _ _ J]
 unfold WL wpListIn at h ⊢;have h1:Region.wanted ⟨dst,op,T,pos,af,some (j,b)⟩ (yielded ops a.tmps)=true:=by simp[Region.wanted,N]
 have h2:Region.wanted ⟨dst,op,T,pos,af,none⟩ (yielded ops a.tmps)=true:=by simp[Region.wanted]
 rw[Qc h1];rw[Qc h2]at h;exact h
def off {d:Nat}{op:Op}{T:QQ}{pos:String}{af:Array Edge}{j dj:Nat}{b:Bool}{u:Value}(E:Fr a n ds l)(I:Nat.ble (d+1) n=true)(J:(ops[j]?).bind (·.dst)=some dj)(N:lk l dj=some u)
  (W:u=.bool (!b)\/u=undef)
  (h: ∀a',Fr a' n ds ((d,undef)::l)->WL r P ops Q rest a' w):WL r P ops Q (⟨some d,op,T,pos,af,some (j,b)⟩::rest) a w:=by
 have h1:Region.wanted ⟨some d,op,T,pos,af,some (j,b)⟩ (yielded ops a.tmps)=false:=by
  rcases W with rfl|rfl<;>simp[Region.wanted,yielded,J,E.get _ _ N,undef]
 unfold WL wpListIn;rw[h1];exact⟨λ_ _=>trivial,h _ (E.put (Qm I) undef)⟩
def done (h:Q .normal a w):WL r P ops Q [] a w:=h
def reg {id:Nat}{lo:QT}(h:WL r P lo.toArray Q lo a w):WP r P (Code.region id lo.toArray false) Q a w:=wpIn_region_lit h
def cond {c:Operand}{x y:Code}{b:Bool}(E:Fr a n ds l)(I:ev l c=some (.bool b))(J:b=true->WP r P x Q a w)(N:b=false->WP r P y Q a w):WP r P (Code.cond c x y) Q a w:=
 wpIn_cond_split (E.eval I) J N
def condp {c:Operand}{x y:Code}{p:Prop}[Decidable p](E:Fr a n ds l)(I:ev l c=some (.bool (decide p)))(J:p->WP r P x Q a w)(N: ¬p->WP r P y Q a w):WP r P (Code.cond c x y) Q a w:=
 wpIn_cond_split (E.eval I) (λh=>J (Q7 h)) (λh=>N (of_decide_eq_false h))
def condt {c:Operand}{x y:Code}(E:Fr a n ds l)(I:ev l c=some (.bool true))(J:WP r P x Q a w):WP r P (Code.cond c x y) Q a w:=
 wpIn_cond_split (E.eval I) (λ_=>J) (λh=>by cases h)
def condf {c:Operand}{x y:Code}(E:Fr a n ds l)(I:ev l c=some (.bool false))(J:WP r P y Q a w):WP r P (Code.cond c x y) Q a w:=
 wpIn_cond_split (E.eval I) (λh=>by cases h) (λ_=>J)
def skip (h:Q .normal a w):WP r P Code.skip Q a w:=wpIn_skip h
def exit {id:Nat}(h:Q (.exit id) a w):WP r P (Code.exit id) Q a w:=wpIn_exit h
def ret (h:Q .ret a w):WP r P Code.ret Q a w:=wpIn_ret h
def loop {c:Code}(I:Nat->QH)(m:Nat)(h0:I m a w)
  (round: ∀m a w,I m a w->WP r P c (Exit.then (λa' w'=>∃m',m'<m/\I m' a' w') Q) a w):WP r P (Code.loop c) Q a w:=by
 intro b k cs E J N;have key: ∀m a w,I m a w->∃e a' w',Q e a' w'/\ArrivesIn (Machine.fenced P (FW r)) P (lone (b.atR a (.code c:: .inLoop c::k)) cs w) b k cs e a' w':=by
  intro m;induction m using Nat.strongRecOn with
  |_ m ih=>
   intro a w Y;obtain⟨e,a₁,w₁,hq,harr⟩:=round m a w Y b (.inLoop c::k) cs E J N;cases e with
   |normal=>
    obtain⟨m',W,hI₁⟩:=hq;obtain⟨e₂,a₂,w₂,hq₂,harr₂⟩:=ih m' W a₁ w₁ hI₁;exact⟨e₂,a₂,w₂,hq₂,.of_steps (StepsIn.trans harr (.one (fenced_calm J N rfl) stepR_inLoop)) harr₂⟩
   |exit id=>exact⟨_,a₁,w₁,hq,.pass (x:=.inLoop c) rfl (λ_ _=>.inl (by simp)) harr⟩
   |goto l=>exact⟨_,a₁,w₁,hq,.pass (x:=.inLoop c) rfl (λ_ _=>.inl (by simp)) harr⟩
   |ret=>exact⟨_,a₁,w₁,hq,.pass (x:=.inLoop c) rfl (λ_ _=>.inl (by simp)) harr⟩
   |panic ch=>exact⟨_,a₁,w₁,hq,.pass (x:=.inLoop c) rfl (λ_ _=>.inl (by simp)) harr⟩
   |outgrown=>exact⟨_,a₁,w₁,hq,.pass (x:=.inLoop c) rfl (λ_ _=>.inl (by simp)) harr⟩
 obtain⟨e,a',w',hq,harr⟩:=key m a w h0;exact⟨e,a',w',hq,.of_steps (.one (fenced_calm J N rfl) stepR_loop) harr⟩
def ret0 {fn:Func}{R:Ending->World->Prop}(E:Fr a n [] l)(I:fn.results=#[])(J:R (.returned (.tuple #[])) w):bodyPost P fn R .ret a w:=
 bodyPost_ret (results_none I _ _ _) E.defs J
end
structure Ch (S:QM) (w w':World):Prop where
 os:w'.os=w.os
 tape:w'.tape=w.tape
 output:w'.output=w.output
 size:w.heap.size<=w'.heap.size
 block: ∀k,k<w.heap.size->k∉S->w'.heap[k]?=w.heap[k]?
def Ch.refl (w:World):Ch [] w w:=⟨rfl,rfl,rfl,Qr _,λ_ _ _=>rfl⟩
def Ch.refl' (S:QM)(w:World):Ch S w w:=⟨rfl,rfl,rfl,Qr _,λ_ _ _=>rfl⟩
def Ch.mono {S S':QM}{a b:World}(h:Ch S a b)(E: ∀k,k∈S->k∈S'\/a.heap.size<=k):Ch S' a b:=
 ⟨h.os,h.tape,h.output,h.size,λk hk I=>h.block k hk (λJ=>by rcases E k J with h1|h1;exact I h1;omega)⟩
def Ch.then {S T U:QM}{a b c:World}(h:Ch S a b)(k:Ch T b c)(J: ∀i,i∈S->i∈U\/a.heap.size<=i:=by simp)(N: ∀i,i∈T->i∈U\/a.heap.size<=i:=by simp):Ch U a c:=
 ⟨k.os.trans h.os,k.tape.trans h.tape,k.output.trans h.output,Wb h.size k.size,λi hi I=>by
  have h1:=h.size;refine(k.block i (by omega) (λE=>?_)).trans (h.block i hi (λE=>?_));rcases N i E with h2|h2
  exact I h2;omega;rcases J i E with h2|h2
  exact I h2;omega⟩
def Ch.of_grown {w w':World}{row:QN}(h:w.grownBy w' row):Ch row.toList w w':=
 ⟨h.os,h.tape,h.output,h.size,λk hk E=>h.block k hk (λe=>E (by rw[<-e];simp))⟩
def Ch.below {w w':World}(h:Ch [] w w'):Below w.heap.size w w':=⟨h.os,h.tape,h.output,h.size,λk hk=>h.block k hk (by simp)⟩
def Ch.of_below {w w':World}(h:Below w.heap.size w w'):Ch [] w w':=⟨h.os,h.tape,h.output,h.size,λk hk _=>h.block k hk⟩
def Ch.drew (w:World):Ch [] w w.drew:=⟨rfl,rfl,rfl,Qr _,λ_ _ _=>rfl⟩
def Ch.alloc (w:World)(o:Obj):Ch [] w (w.alloc o):=⟨rfl,rfl,rfl,by simp,λk hk _=>Below.heap_alloc w o k hk⟩
def Ch.setRow (w:World)(g:Nat)(cs:Array Value):Ch [g] w (w.setRow g cs):=
 ⟨rfl,rfl,rfl,by simp[World.setRow],λk _ E=>setRow_other w g k cs (by simpa using E)⟩
def Ch.cell {S:QM}{w w':World}(h:Ch S w w'){p:Addr}(hp:p.block<w.heap.size)(E:p.block∉S):w'.cell? p=w.cell? p:=World.cell?_of_block (h.block _ hp E)
def Blk (w:World)(g:Nat)(t:QQ)(cs:QL):Prop:=w.heap[g]?=some (.cells cs.toArray t (0,0))
section
variable {w w':World}{g:Nat}{t:QQ}{cs:QL}
def Blk.lt (h:Blk w g t cs):g<w.heap.size:=by
 rcases Yh g w.heap.size with E|I
 exact E;unfold Blk at h;rw[Yp I]at h;cases h
def Blk.cell (h:Blk w g t cs)(i:Nat):w.cell? ⟨g,i,none⟩=cs[i]?:=by rw[cell_of_row w g i cs.toArray t (0,0) h];simp
def Blk.new (w:World)(t:QQ)(cs:QL):Blk (w.alloc (.cells cs.toArray t)) w.heap.size t cs:=heap_alloc_new w _
def Blk.ch {S:QM}(h:Blk w g t cs)(E:Ch S w w')(I:g∉S):Blk w' g t cs:=(E.block g h.lt I).trans h
end
section
variable {P:QR}{a:Act}{w:World}{d:Option Tmp}{T:QQ}{pos:String}{af:Array Edge}{gd:Option (Nat×Bool)}
def r_move {x:Operand}{v:Value}(hx:a.eval x=v):(execOp a.eval ⟨d,.move x,T,pos,af,gd⟩).run P w=.ok (.value v) w:=by
 simp[execOp,hx]
def r_assign {x:Operand}{v:Value}(hx:a.eval x=v):(execOp a.eval ⟨d,.assign x,T,pos,af,gd⟩).run P w=.ok (.value v) w:=by
 simp[execOp,hx]
def Qhb {c x y:Operand}{u:Value}(E:a.eval c=.bool true)(hx:a.eval x=u):
  (execOp a.eval ⟨d,.pick c x y,T,pos,af,gd⟩).run P w=.ok (.value u) w:=by
 simp[execOp,E,hx,asBool]
def Qgz {c x y:Operand}{v:Value}(E:a.eval c=.bool false)(I:a.eval y=v):
  (execOp a.eval ⟨d,.pick c x y,T,pos,af,gd⟩).run P w=.ok (.value v) w:=by
 simp[execOp,E,I,asBool]
def r_not {t:QQ}{x:Operand}{b:Bool}(hx:a.eval x=.bool b):(execOp a.eval ⟨d,.unOp .not t x,T,pos,af,gd⟩).run P w=.ok (.value (.bool (!b))) w:=by
 simp[execOp,hx,Op.unary]
def r_extract {x:Operand}{vs:Array Value}{i:Nat}{v:Value}(hx:a.eval x=.tuple vs)(E:vs[i]?=some v):(execOp a.eval ⟨d,.extract x i,T,pos,af,gd⟩).run P w=.ok (.value v) w:=by
 simp[execOp,hx,Instr.extract,E]
def Qdk {x:Operand}{ad:Addr}(hx:a.eval x=.pointer (some ad)):(execOp a.eval ⟨d,.nilCheck x,T,pos,af,gd⟩).run P w=.ok (.value (.pointer (some ad))) w:=by
 simp[execOp,hx]
def Qfx {fn:Fn}{first captured:Array Operand}{vs us:Array Value}(h1:first.map a.eval=vs)(h2:captured.map a.eval=us):
  (execOp a.eval ⟨d,.makeFunc fn first captured,T,pos,af,gd⟩).run P w=.ok (.value (.func fn vs us)) w:=by
 simp[execOp,Instr.makeFunc,h1,h2]
section ints
variable {t ty:QQ}{x y:Operand}{k:IntKind}{m n:Int}
def r_add (hx:a.eval x=.int k m)(E:a.eval y=.int k n):(execOp a.eval ⟨d,.binOp .add t x y ty,T,pos,af,gd⟩).run P w=.ok (.value (.int k (k.wrap (m+n)))) w:=by
 simp[execOp,hx,E,binOp_add,eqGuard_add,Op.intArith]
def r_sub (hx:a.eval x=.int k m)(E:a.eval y=.int k n):(execOp a.eval ⟨d,.binOp .sub t x y ty,T,pos,af,gd⟩).run P w=.ok (.value (.int k (k.wrap (m-n)))) w:=by
 simp[execOp,hx,E,binOp_sub,eqGuard_sub,Op.intArith]
def r_mul (hx:a.eval x=.int k m)(E:a.eval y=.int k n):(execOp a.eval ⟨d,.binOp .mul t x y ty,T,pos,af,gd⟩).run P w=.ok (.value (.int k (k.wrap (m*n)))) w:=by
 simp[execOp,hx,E,binOp_mul,eqGuard_mul,Op.intArith]
def r_quo (hx:a.eval x=.int k m)(E:a.eval y=.int k n)(h0:n≠0):(execOp a.eval ⟨d,.binOp .quo t x y ty,T,pos,af,gd⟩).run P w=.ok (.value (.int k (k.wrap (m.tdiv n)))) w:=by
 simp[execOp,hx,E,binOp_quo,eqGuard_quo,Op.intDiv,h0]
def r_rem (hx:a.eval x=.int k m)(E:a.eval y=.int k n)(h0:n≠0):(execOp a.eval ⟨d,.binOp .rem t x y ty,T,pos,af,gd⟩).run P w=.ok (.value (.int k (m.tmod n))) w:=by
 simp[execOp,hx,E,binOp_rem,eqGuard_rem,Op.intDiv,h0]
def r_lss (hx:a.eval x=.int k m)(E:a.eval y=.int k n):(execOp a.eval ⟨d,.binOp .lss t x y ty,T,pos,af,gd⟩).run P w=.ok (.value (.bool (decide (m<n)))) w:=by
 simp[execOp,hx,E,binOp_lss,eqGuard_lss]
def r_leq (hx:a.eval x=.int k m)(E:a.eval y=.int k n):(execOp a.eval ⟨d,.binOp .leq t x y ty,T,pos,af,gd⟩).run P w=.ok (.value (.bool (decide (m<=n)))) w:=by
 simp[execOp,hx,E,binOp_leq,eqGuard_leq]
def r_gtr (hx:a.eval x=.int k m)(E:a.eval y=.int k n):(execOp a.eval ⟨d,.binOp .gtr t x y ty,T,pos,af,gd⟩).run P w=.ok (.value (.bool (decide (n<m)))) w:=by
 simp[execOp,hx,E,binOp_gtr,eqGuard_gtr]
def r_geq (hx:a.eval x=.int k m)(E:a.eval y=.int k n):(execOp a.eval ⟨d,.binOp .geq t x y ty,T,pos,af,gd⟩).run P w=.ok (.value (.bool (decide (n<=m)))) w:=by
 simp[execOp,hx,E,binOp_geq,eqGuard_geq]
def r_eql (hx:a.eval x=.int k m)(E:a.eval y=.int k n):(execOp a.eval ⟨d,.binOp .eql t x y ty,T,pos,af,gd⟩).run P w=.ok (.value (.bool (decide (m=n)))) w:=by
 simp[execOp,hx,E,binOp_eql,eqGuard_at_int];rfl
def r_neq (hx:a.eval x=.int k m)(E:a.eval y=.int k n):(execOp a.eval ⟨d,.binOp .neq t x y ty,T,pos,af,gd⟩).run P w=.ok (.value (.bool (decide (m≠n)))) w:=by
 have e:(m !=n)=decide (m≠n):=by rw[Va];simp
 simp only[execOp,hx,E,binOp_neq,eqGuard_at_int,Qp,Qs,Qi,e]
def r_shr {k':IntKind}(hx:a.eval x=.int .u64 m)(E:a.eval y=.int k' n)(h0:0<=n)(h1:n<=64):(execOp a.eval ⟨d,.binOp .shr t x y ty,T,pos,af,gd⟩).run P w=.ok (.value (.int .u64 (m / 2^n.toNat))) w:=by
 simp[execOp,hx,E,binOp_shr,eqGuard_shr,shift_shr_u64 k' m n h0 h1]
end ints
section bools
variable {t ty:QQ}{x y:Operand}{b c:Bool}
def Qbt {t:QQ}(E:P.underlying t=some .bool)(m:Nat):(Op.equalIn (m+1) t (.bool b) (.bool c)).run P w=.ok (b==c) w:=by
 simp[Op.equalIn,Ql E]
def Qch {t:QQ}(E:P.underlying t=some .bool):(Op.equal t (.bool b) (.bool c)).run P w=.ok (b==c) w:=Qbt E 9999
def r_eqb (E:P.underlying t=some .bool)(hx:a.eval x=.bool b)(I:a.eval y=.bool c):(execOp a.eval ⟨d,.binOp .eql t x y ty,T,pos,af,gd⟩).run P w=.ok (.value (.bool (b==c))) w:=by
 simp[execOp,hx,I,eqGuard_at_bool,binOp,Qch E]
def r_neb (E:P.underlying t=some .bool)(hx:a.eval x=.bool b)(I:a.eval y=.bool c):(execOp a.eval ⟨d,.binOp .neq t x y ty,T,pos,af,gd⟩).run P w=.ok (.value (.bool (!(b==c)))) w:=by
 simp[execOp,hx,I,eqGuard_at_bool,binOp,Qch E]
end bools
section strings
variable {t ty:QQ}{x y:Operand}{s u:ByteArray}
def str_eq (s u:ByteArray):(s.toList==u.toList)=decide (s=u):=by
 rw[Va];simp only[beq_iff_eq,Qy];constructor;intro h;rw[ByteArray.toList_eq,ByteArray.toList_eq]at h;exact ByteArray.ext (Yf.1 h);rintro rfl;rfl
def r_eqs (hx:a.eval x=.string s)(E:a.eval y=.string u):(execOp a.eval ⟨d,.binOp .eql t x y ty,T,pos,af,gd⟩).run P w=.ok (.value (.bool (decide (s=u)))) w:=by
 simp[execOp,hx,E,eqGuard_at_string,binOp,Op.stringOp,str_eq]
def r_nes (hx:a.eval x=.string s)(E:a.eval y=.string u):(execOp a.eval ⟨d,.binOp .neq t x y ty,T,pos,af,gd⟩).run P w=.ok (.value (.bool (!decide (s=u)))) w:=by
 simp[execOp,hx,E,eqGuard_at_string,binOp,Op.stringOp,str_eq]
end strings
section conv
variable {src dst:QQ}{x:Operand}{k k':IntKind}{n:Int}
def r_conv {de:TypeDesc}(E:P.underlying src=some de)(I:P.underlying dst=some (.int k'))(hx:a.eval x=.int k n):(execOp a.eval ⟨d,.convert src dst x,T,pos,af,gd⟩).run P w=.ok (.value (.int k' (k'.wrap n))) w:=by
 simp[execOp,hx,convert,Ql E,Ql I,Conv.intToInt]
end conv
section lens
variable {t e:QQ}{x y:Operand}{A:QK}{n c:Nat}
def r_len (E:P.underlying t=some (.slice e))(hx:a.eval x=.slice A n c):
  (execOp a.eval ⟨d,.call {callee:=.builtin .len,args:=#[x],argTypes:=#[t]},T,pos,af,gd⟩).run P w=.ok (.value (.int .i64 (n:Int))) w:=by
 simp[execOp,resolve,invoke,builtin,hx,Builtin.len_,Ql E,goInt]
def r_lens {s:ByteArray}(E:P.underlying t=some .string)(hx:a.eval x=.string s):
  (execOp a.eval ⟨d,.call {callee:=.builtin .len,args:=#[x],argTypes:=#[t]},T,pos,af,gd⟩).run P w=.ok (.value (.int .i64 (s.size:Int))) w:=by
 simp[execOp,resolve,invoke,builtin,hx,Builtin.len_,Ql E,goInt]
def r_min {k k':IntKind}{p q:Int}{ts:Array QQ}(hx:a.eval x=.int k p)(E:a.eval y=.int k' q):
  (execOp a.eval ⟨d,.call {callee:=.builtin .min,args:=#[x,y],argTypes:=ts},T,pos,af,gd⟩).run P w=.ok (.value (.int k (min p q))) w:=by
 have e:(if q<p then q else p)=min p q:=by omega
 simp[execOp,resolve,invoke,builtin,hx,E,Builtin.min_,Builtin.min2,e]
def r_max {k k':IntKind}{p q:Int}{ts:Array QQ}(hx:a.eval x=.int k p)(E:a.eval y=.int k' q):
  (execOp a.eval ⟨d,.call {callee:=.builtin .max,args:=#[x,y],argTypes:=ts},T,pos,af,gd⟩).run P w=.ok (.value (.int k (max p q))) w:=by
 have e:(if p<q then q else p)=max p q:=by omega
 simp[execOp,resolve,invoke,builtin,hx,E,Builtin.max_,Builtin.max2,e]
end lens
section mem
variable {t e:QQ}{x y:Operand}{g o:Nat}{cs:QL}{v:Value}{n:Nat}
def r_load1 {ad:Addr}(E: ∀w,(isAgg t).run P w=.ok false w)(hx:a.eval x=.pointer (some ad))(I:w.cell? ad=some v):
  (execOp a.eval ⟨d,.load t x,T,pos,af,gd⟩).run P w=.ok (.value v) w:=by
 simp[execOp,Instr.loadAt,hx,Instr.sureAddr,loadVar,E,I]
def r_loadN {ad:Addr}(E: ∀w,(isAgg t).run P w=.ok true w)(I: ∀w,(sizeOf t).run P w=.ok n w)(hx:a.eval x=.pointer (some ad))(J:cs.length=n)
  (N: ∀j u,cs[j]?=some u->w.cell? (ad.add j)=some u):
  (execOp a.eval ⟨d,.load t x,T,pos,af,gd⟩).run P w=.ok (.value (.agg cs.toArray)) w:=by
 subst J;have:=run_loadCells_list (P:=P) w ad cs N;simp[execOp,Instr.loadAt,hx,Instr.sureAddr,loadVar,E,I,this]
def r_indexAddr {A:Addr}{c:Nat}{i:Int}{k:IntKind}(E:P.underlying t=some (.slice e))(I: ∀w,(sizeOf e).run P w=.ok g w)(hx:a.eval x=.slice (some A) n c)(J:a.eval y=.int k i)(h0:0<=i)(h1:i<n):
  (execOp a.eval ⟨d,.indexAddr t x y,T,pos,af,gd⟩).run P w=.ok (.value (.pointer (some (A.add (i.toNat*g))))) w:=by
 simp[execOp,Instr.indexAt,hx,J,asIntOf,Ql E,I,h0,h1]
end mem
end
inductive Ty where
 |int (k:IntKind)
 |byte
 |bool
 |str
 |slice (e:Ty)
 |pair (a b:Ty)
@[reducible] def Ty.den:Ty->Type
 | .int _=>Int
 | .byte=>UInt8
 | .bool=>Bool
 | .str=>ByteArray
 | .slice e=>List e.den
 | .pair a b=>a.den×b.den
def Ty.size:Ty->Nat
 | .pair a b=>a.size+b.size
 |_=>1
def Ty.rep (w:World)(F:Nat->Prop):(t:Ty)->QL->t.den->Prop
 | .int k,cs,x=>cs=[.int k x]/\k.has x
 | .byte,cs,x=>cs=[.int .u8 (x.toNat:Int)]
 | .bool,cs,x=>cs=[.bool x]
 | .str,cs,x=>cs=[.string x]/\x.size<=maxLen
 | .slice e,cs,xs=>∃(A:QK) (c:Nat) (cells:QL),cs=[.slice A xs.length c]/\xs.length<=c/\c<=maxLen/\cells.length=xs.length*e.size/\
   (xs.length=0\/∃b o,A=some ⟨b,o,none⟩/\F b/\∀j u,cells[j]?=some u->w.cell? ⟨b,o+j,none⟩=some u)/\
   ∀(i:Nat) (x:e.den),xs[i]?=some x->e.rep w F ((cells.drop (i*e.size)).take e.size) x
 | .pair a b,cs,x=>∃ca cb,cs=ca++cb/\a.rep w F ca x.1/\b.rep w F cb x.2
section
variable {w w':World}{F F':Nat->Prop}
def Qkg: ∀(t:Ty) {cs:QL} {x:t.den},t.rep w F cs x->cs.length=t.size
 | .int _,_,_,h=>by rw[h.1];rfl
 | .byte,_,_,h=>by rw[show _=_ from h];rfl
 | .bool,_,_,h=>by rw[show _=_ from h];rfl
 | .str,_,_,h=>by rw[h.1];rfl
 | .slice e,_,_,h=>by obtain⟨A,c,cells,h,_⟩:=h;rw[h];rfl
 | .pair a b,_,_,h=>by
  obtain⟨ca,cb,h,E,I⟩:=h;rw[h,Qz,Qkg a E,Qkg b I];rfl
def Qgy: ∀(t:Ty) {cs:QL} {x:t.den},t.rep w F cs x->∀u∈cs,u.oneCell'=true
 | .int _,_,_,h=>by rw[h.1];simp[Value.oneCell']
 | .byte,_,_,h=>by rw[show _=_ from h];simp[Value.oneCell']
 | .bool,_,_,h=>by rw[show _=_ from h];simp[Value.oneCell']
 | .str,_,_,h=>by rw[h.1];simp[Value.oneCell']
 | .slice e,_,_,h=>by obtain⟨A,c,cells,h,_⟩:=h;rw[h];simp[Value.oneCell']
 | .pair a b,_,_,h=>by
  obtain⟨ca,cb,h,I,J⟩:=h;intro u E;rw[h,Q8]at E;rcases E with E|E
  exact Qgy a I u E;exact Qgy b J u E
def rep_keep (hk: ∀p:Addr,F p.block->p.block<w.heap.size->w'.cell? p=w.cell? p)(E: ∀b,F b->F' b): ∀(t:Ty) {cs:QL} {x:t.den},t.rep w F cs x->t.rep w' F' cs x
 | .int _,_,_,h=>h
 | .byte,_,_,h=>h
 | .bool,_,_,h=>h
 | .str,_,_,h=>h
 | .slice e,_,_,h=>by
  obtain⟨A,c,cells,h1,h2,N,W,J,h6⟩:=h;refine⟨A,c,cells,h1,h2,N,W,?_,λi x hi=>rep_keep hk E e (h6 i x hi)⟩;rcases J with J|⟨b,o,Y,I,hc⟩
  exact .inl J;refine .inr ⟨b,o,Y,E b I,λj u hu=>?_⟩;have:=hc j u hu;rw[hk ⟨b,o+j,none⟩ I (World.block_lt_of_cell? w _ this)];exact this
 | .pair a b,_,_,h=>by
  obtain⟨ca,cb,h,ha,I⟩:=h;exact⟨ca,cb,h,rep_keep hk E a ha,rep_keep hk E b I⟩
def Ty.flat:Ty->Bool
 | .slice _=>false
 | .pair a b=>a.flat&&b.flat
 |_=>true
def rep_flat: ∀(t:Ty),t.flat=true->∀{cs:QL} {x:t.den},t.rep w F cs x->t.rep w F' cs x
 | .int _,_,_,_,h=>h
 | .byte,_,_,_,h=>h
 | .bool,_,_,_,h=>h
 | .str,_,_,_,h=>h
 | .slice e,E,_,_,_=>by cases E
 | .pair a b,E,_,_,h=>by
  simp only[Ty.flat,Qd]at E;obtain⟨ca,cb,h,I,J⟩:=h;exact⟨ca,cb,h,rep_flat a E.1 I,rep_flat b E.2 J⟩
def rep_ch {S:QM}(E:Ch S w w')(I: ∀b,F b->b∉S)(t:Ty){cs:QL}{x:t.den}(h:t.rep w F cs x):t.rep w' F cs x:=
 rep_keep (λ_ hp J=>E.cell J (I _ hp)) (λ_ h=>h) t h
def rep_ch0 (E:Ch [] w w')(t:Ty){cs:QL}{x:t.den}(h:t.rep w F cs x):t.rep w' F cs x:=rep_ch E (λ_ _=>by simp) t h
def Qhr (E: ∀b,F b->F' b)(t:Ty){cs:QL}{x:t.den}(h:t.rep w F cs x):t.rep w F' cs x:=rep_keep (λ_ _ _=>rfl) E t h
def rep_slice {e:Ty}{cs:QL}{xs:List e.den}(h:(Ty.slice e).rep w F cs xs): ∃A c,cs=[.slice A xs.length c]/\xs.length<=c/\c<=maxLen:=by
 obtain⟨A,c,cells,h1,h2,E,_⟩:=h;exact⟨A,c,h1,h2,E⟩
def rep_slice_len {e:Ty}{A:QK}{n c:Nat}{xs:List e.den}(h:(Ty.slice e).rep w F [.slice A n c] xs):xs.length=n/\n<=c/\c<=maxLen:=by
 obtain⟨A',c',cells,h1,h2,E,_⟩:=h;injection h1 with h1
 injection h1 with N I J
 subst I;subst J;exact⟨rfl,h2,E⟩
def Qhl (e:Ty):(Ty.slice e).rep w F [.slice none 0 0] []:=⟨none,0,[],rfl,Qr _,by simp[maxLen],by simp,.inl rfl,λi x h=>by simp at h⟩
def rep_take {e:Ty}{A:QK}{n c:Nat}{xs:List e.den}(h:(Ty.slice e).rep w F [.slice A n c] xs){k:Nat}(hk:k<=xs.length):(Ty.slice e).rep w F [.slice A k c] (xs.take k):=by
 obtain⟨A',c',cells,h1,h2,Y,h4,N,h6⟩:=h;injection h1 with h1
 injection h1 with I hn hc
 subst I;subst hc;have J:(xs.take k).length=k:=by rw[Qx];omega
 refine⟨A,c,cells.take (k*e.size),by rw[J],by omega,Y,by rw[Qx,h4,J];exact Xx (Wr _ hk),?_,λi x hi=>?_⟩;rw[J];rcases N with N|⟨b,o,I,hb,hcell⟩
 exact .inl (by omega);refine .inr ⟨b,o,I,hb,λj u W=>hcell j u ?_⟩;have hj:=(Qe.1 W).1;rw[Qx]at hj;rwa[Wt (by omega)]at W;have E:i<k:=by
  have:=(Qe.1 hi).1;omega
 have hx:xs[i]?=some x:=by rwa[Wt E]at hi
 have:=h6 i x hx;have hm:(i+1)*e.size<=k*e.size:=Wr _ E;rw[Xq,Y5]at hm;rw[Ju,Jv,Xx (by omega)];exact this
def rep_drop {e:Ty}{A:QK}{n c:Nat}{xs:List e.den}(h:(Ty.slice e).rep w F [.slice A n c] xs){k c':Nat}{A':QK}(hk:k<=xs.length)(hc':n-k<=c')(N:c'<=maxLen)
  (hA':k<xs.length->∀ad,A=some ad->A'=some (ad.add (k*e.size))):(Ty.slice e).rep w F [.slice A' (n-k) c'] (xs.drop k):=by
 obtain⟨A1,c1,cells,h1,h2,h3,W,I,h6⟩:=h;injection h1 with h1
 injection h1 with Y hn hc
 subst Y;subst hn;have E:(xs.drop k).length=xs.length-k:=W7;refine⟨A',c',cells.drop (k*e.size),by rw[E],by omega,N,by rw[W7,W,E,Nat.sub_mul],?_,λi x hi=>?_⟩;rw[E];by_cases hz:xs.length-k=0;exact .inl hz;rcases I with I|⟨b,o,rfl,hb,hcell⟩
 omega;refine .inr ⟨b,o+k*e.size,by rw[hA' (by omega) _ rfl,Wf],hb,λj u J=>?_⟩;rw[Wj]at J;rw[Xn];exact hcell _ _ J;rw[Wj]at hi;have:=h6 _ _ hi;rw[Yq,show k*e.size+i*e.size=(k+i)*e.size from(Xq _ _ _).symm];exact this
end
def obl:QK->QM
 |none=>[]
 |some a=>[a.block]
def Own (t:Ty)(e:QQ)(B:Nat)(w:World)(F:Nat->Prop)(A:QK)(c:Nat)(xs:List t.den):Prop:=
 ∃cells:QL,w.ownsRow B e t.size (.slice A xs.length c) xs.length cells/\(∀u∈cells,u.oneCell'=true)/\
  ∀(i:Nat) (x:t.den),xs[i]?=some x->t.rep w F ((cells.drop (i*t.size)).take t.size) x
section
variable {t:Ty}{e:QQ}{B:Nat}{w w':World}{F F':Nat->Prop}{A:QK}{c:Nat}{xs:List t.den}
def ownBlock_slice (A:QK)(n c:Nat):(Value.slice A n c).ownBlock.toList=obl A:=by cases A<;>rfl
def Own.nil (t:Ty)(e:QQ)(B:Nat)(w:World)(F:Nat->Prop):Own t e B w F none 0 []:=
 ⟨[],World.ownsRow_nil w B e t.size,by simp,λi x h=>by simp at h⟩
def Own.lt (h:Own t e B w F A c xs): ∀k,k∈obl A->B<=k/\k<w.heap.size:=by
 obtain⟨cells,E,_⟩:=h;intro k hk;exact E.lt k (by cases A<;>simp_all [obl,Value.ownBlock])
def Own.len (h:Own t e B w F A c xs):xs.length<=c/\c<=maxLen:=by
 obtain⟨cells,J,_⟩:=h;rcases J.2 with⟨E,N⟩|⟨g,cap,cur,E,_,_,h1,h2,_⟩
 injection E with _ _ I;subst I;exact⟨by omega,by simp[maxLen]⟩
 injection E with _ _ I;subst I;exact⟨h1,h2⟩
def Own.more (h:Own t e B w F A c xs)(E: ∀b,F b->F' b):Own t e B w F' A c xs:=by
 obtain⟨cells,I,h1,h2⟩:=h;exact⟨cells,I,h1,λi x hi=>Qhr E t (h2 i x hi)⟩
def Own.base {B':Nat}(h:Own t e B w F A c xs)(N:B'<=B):Own t e B' w F A c xs:=by
 obtain⟨cells,E,h1,h2⟩:=h;refine⟨cells,⟨E.1,?_⟩,h1,h2⟩;rcases E.2 with I|⟨g,cap,cur,J,W,rest⟩
 exact .inl I;exact .inr ⟨g,cap,cur,J,by omega,rest⟩
def Own.rep (h:Own t e B w F A c xs)(Y: ∀b,F b->F' b)(hA: ∀k,k∈obl A->F' k):(Ty.slice t).rep w F' [.slice A xs.length c] xs:=by
 obtain⟨cells,hr,h1,h2⟩:=h;have hl:cells.length=xs.length*t.size:=hr.1;rcases hr.2 with⟨I,hn⟩|⟨g,cap,cur,I,hb,hg,J,N,hcs,htake⟩
 injection I with hA' _ W
 subst hA';subst W;exact⟨none,0,cells,rfl,by omega,by simp[maxLen],hl,.inl hn,λi x hi=>Qhr Y t (h2 i x hi)⟩;injection I with hA' _ W
 subst hA';subst W;refine⟨_,_,cells,rfl,J,N,hl,.inr ⟨g,0,rfl,hA g (by simp[obl]),λj u E=>?_⟩,λi x hi=>Qhr Y t (h2 i x hi)⟩;rw[Wl,cell_of_row w g j cur e (0,0) hg];rw[<-htake,W8]at E;split at E;simpa using E;cases E
def Own.made {w:World}{g:Nat}{cs:QL}(I:Blk w g e cs)(J:B<=g)(E:cs.length=xs.length*t.size)(N:xs.length<=maxLen)(h1: ∀u∈cs,u.oneCell'=true)
  (h2: ∀(i:Nat) (x:t.den),xs[i]?=some x->t.rep w F ((cs.drop (i*t.size)).take t.size) x):Own t e B w F (some ⟨g,0,none⟩) xs.length xs:=
 ⟨cs,⟨E,.inr ⟨g,xs.length,cs.toArray,rfl,J,I,Qr _,N,by simpa using E,by simp[<-E]⟩⟩,h1,h2⟩
end
def Qgn {t:Ty}{w:World}{F:Nat->Prop}{xs ys:List t.den}{cs ds:QL}(I:cs.length=xs.length*t.size)
  (h1: ∀(i:Nat) (x:t.den),xs[i]?=some x->t.rep w F ((cs.drop (i*t.size)).take t.size) x) (h2: ∀(i:Nat) (x:t.den),ys[i]?=some x->t.rep w F ((ds.drop (i*t.size)).take t.size) x):
  ∀(i:Nat) (x:t.den),(xs++ys)[i]?=some x->t.rep w F (((cs++ds).drop (i*t.size)).take t.size) x:=by
 intro i x hi;by_cases E:i<xs.length;rw[Wn E]at hi;have J:(i+1)*t.size<=xs.length*t.size:=Wr _ E;rw[Xq,Y5]at J;rw[List.drop_append_of_le_length (by omega),List.take_append_of_le_length (by rw[W7];omega)];exact h1 i x hi;rw[W9 (by omega)]at hi;have:=h2 _ _ hi;have e:(cs++ds).drop (i*t.size)=ds.drop ((i-xs.length)*t.size):=by
  rw[List.drop_append,Xi (by rw[I];exact Wr _ (by omega)),X8,I,Nat.sub_mul]
 rw[e];exact this
section
variable {P:QR}{t:Ty}{e:QQ}{B:Nat}{w:World}{F:Nat->Prop}{A:QK}{c:Nat}{xs:List t.den}
end
def evs (l:QI):List Operand->Option (QL)
 | []=>some []
 |x::r=>match ev l x,evs l r with
  |some v,some vs=>some (v::vs)
  |_,_=>none
def evp (l:QI):List (Nat×Operand)->Option (QI)
 | []=>some []
 |(i,x)::r=>match ev l x,evp l r with
  |some v,some vs=>some ((i,v)::vs)
  |_,_=>none
def Fr.evals {a:Act}{n:Nat}{ds:List Deferred}{l:QI}(h:Fr a n ds l): ∀(xs:List Operand) {vs:QL},evs l xs=some vs->xs.toArray.map a.eval=vs.toArray:=by
 intro xs;induction xs with
 |nil=>intro vs E;simp only[evs,Qg]at E;subst E;simp
 |cons x r ih=>
  intro vs E;unfold evs at E;cases hx:ev l x with
  |none=>simp[hx]at E
  |some v=>
   cases I:evs l r with
   |none=>simp[hx,I]at E
   |some us=>
    simp only[hx,I,Qg]at E;subst E;have:=ih I;simp only[Yg,Wc,h.eval hx]at this ⊢;rw[Jc]at this;rw[this]
def Fr.evalp {a:Act}{n:Nat}{ds:List Deferred}{l:QI}(h:Fr a n ds l): ∀(xs:List (Nat×Operand)) {vs:QI},evp l xs=some vs->
  xs.toArray.map (λ(i,x)=>(i,a.eval x))=vs.toArray:=by
 intro xs;induction xs with
 |nil=>intro vs E;simp only[evp,Qg]at E;subst E;simp
 |cons x r ih=>
  obtain⟨i,x⟩:=x;intro vs E;unfold evp at E;cases hx:ev l x with
  |none=>simp[hx]at E
  |some v=>
   cases I:evp l r with
   |none=>simp[hx,I]at E
   |some us=>
    simp only[hx,I,Qg]at E;subst E;have:=ih I;simp only[Yg,Wc,h.eval hx]at this ⊢;rw[Jc]at this;rw[this]
section
variable {P:QR}{a:Act}{w:World}{d:Option Tmp}{T:QQ}{pos:String}{af:Array Edge}{gd:Option (Nat×Bool)}{n:Nat}{ds:List Deferred}{l:QI}
def Qdr {t:QQ}{x:Operand}{fs:Array Field}{f:Field}{i m:Nat}{ad:Addr}(E:P.underlying t=some (.struct fs))(I:fs[i]?=some f)(J: ∀w,(sizeOf f.type).run P w=.ok (m+1) w)(hx:a.eval x=.pointer (some ad)):
  (execOp a.eval ⟨d,.fieldAddr t x i,T,pos,af,gd⟩).run P w=.ok (.value (.pointer (some (ad.add f.offset)))) w:=by
 simp[execOp,Instr.fieldAt,Ql E,I,hx,Instr.sureAddr,fieldPlace,J]
section
variable {t e:QQ}{x lo hi mx:Operand}{A:QK}{len c sz:Nat}{k k1 k2 k3:IntKind}{p q r:Int}
def Qil {u:Nat}(E:P.underlying t=some (.slice e))(I: ∀w,(sizeOf e).run P w=.ok sz w)(hx:a.eval x=.slice A len c)(J:a.eval hi=.int k q)(hq:q=(u:Int))(h1:u<=c):
  (execOp a.eval ⟨d,.slice t x none (some hi) none,T,pos,af,gd⟩).run P w=.ok (.value (.slice A u c)) w:=by
 subst hq;simp[execOp,Instr.sliceAt,Ql E,hx,J,Instr.slice,Instr.sliceBounds,Instr.sliceBound,asIntOf,h1,I];cases A<;>simp[Addr.add]
def cutA (A:QK)(m p sz:Nat):QK:=if m=p then A else A.map (·.add (p*sz))
def r_slice_lh {u v:Nat}(E:P.underlying t=some (.slice e))(I: ∀w,(sizeOf e).run P w=.ok sz w)(hx:a.eval x=.slice A len c)(J:a.eval lo=.int k p)(N:a.eval hi=.int k1 q)(hp:p=(u:Int))(hq:q=(v:Int))(h1:u<=v)(h2:v<=c):
  (execOp a.eval ⟨d,.slice t x (some lo) (some hi) none,T,pos,af,gd⟩).run P w=.ok (.value (.slice (cutA A c u sz) (v-u) (c-u))) w:=by
 subst hp;subst hq;simp[execOp,Instr.sliceAt,Ql E,hx,J,N,Instr.slice,Instr.sliceBounds,Instr.sliceBound,asIntOf,h1,h2,I,cutA]
def r_eqnil {ty:QQ}{y:Operand}(E:P.underlying t=some (.slice e))(hx:a.eval x=.slice A len c)(I:a.eval y=.slice none 0 0):
  (execOp a.eval ⟨d,.binOp .eql t x y ty,T,pos,af,gd⟩).run P w=.ok (.value (.bool A.isNone)) w:=by
 have h: ∀m,(Op.equalIn (m+1) t (.slice A len c) (.slice none 0 0)).run P w=.ok A.isNone w:=λm=>by
  cases A<;>simp[Op.equalIn,Ql E]
 have h2:(Op.equal t (.slice A len c) (.slice none 0 0)).run P w=.ok A.isNone w:=h 9999;simp[execOp,hx,I,eqGuard_at_slice,binOp,h2]
end
def r_callv {f:FuncId}{c:Operand}{xs:List Operand}{vs first cap:QL}{ts:Array QQ}(E: ∀args w,(callFunc f args).run P w=.ok (.enter f args) w)(I:Fr a n ds l)
  (J:ev l c=some (.func (.func f) first.toArray cap.toArray)) (hx:evs l xs=some vs):
  (execOp a.eval ⟨d,.call {callee:=.value c,args:=xs.toArray,argTypes:=ts},T,pos,af,gd⟩).run P w=.ok (.enter f (first++vs++cap).toArray) w:=by
 have h:=I.evals xs hx;have h2:=I.eval J;simp only[execOp,resolve,h,h2];simp[Deferred.ofValue,invoke,E]
end
section
variable {r:QN}{P:QR}{ops:QU}{Q:QG}{a:Act}{w:World}{rest:QT}{n:Nat}{ds:List Deferred}{l:QI}{d:Nat}{T:QQ}{pos:String}{af:Array Edge}
def st_box {e:QQ}{x:Operand}{v:Value}{cs:QL}(E:Fr a n ds l)(I:Nat.ble (d+1) n=true)(hx:ev l x=some v)(J:v.cells=cs.toArray)
  (h: ∀g w' a',g=w.heap.size->w'.heap.size=g+1->Blk w' g e cs->Ch [] w w'->Fr a' n ds ((d,.pointer (some ⟨g,0,none⟩))::l)->WL r P ops Q rest a' w'):
  WL r P ops Q (⟨some d,.box e x,T,pos,af,none⟩::rest) a w:=
 valw (w':=w.alloc (.cells cs.toArray e)) (v:=.pointer (some ⟨w.heap.size,0,none⟩)) E I (by simp[execOp,E.eval hx,Instr.box,newVar,newRow,J])
  λa' hf'=>h _ _ a' rfl (by simp) (Blk.new w e cs) (Ch.alloc w _) hf'
def st_alloc {e:QQ}{z:Value}{cs:QL}(E:Fr a n ds l)(I:Nat.ble (d+1) n=true)(J: ∀w,(zeroValue e).run P w=.ok z w)(N:z.cells=cs.toArray)
  (h: ∀g w' a',g=w.heap.size->w'.heap.size=g+1->Blk w' g e cs->Ch [] w w'->Fr a' n ds ((d,.pointer (some ⟨g,0,none⟩))::l)->WL r P ops Q rest a' w'):
  WL r P ops Q (⟨some d,.alloc e,T,pos,af,none⟩::rest) a w:=
 valw (w':=w.alloc (.cells cs.toArray e)) (v:=.pointer (some ⟨w.heap.size,0,none⟩)) E I (by simp[execOp,Instr.alloc,J,newVar,newRow,N])
  λa' hf'=>h _ _ a' rfl (by simp) (Blk.new w e cs) (Ch.alloc w _) hf'
def run_bslice {t e:QQ}{len sz:Nat}{z:Value}{vs:QI}{cs:QL}(E:P.underlying t=some (.slice e))(I: ∀w,(sizeOf e).run P w=.ok sz w)(J: ∀w,(zeroValue e).run P w=.ok z w)
  (W:len*sz<=2^24) (h0:len*sz≠0) (N:Instr.fill (λi=>some (i*sz,sz)) ((Array.range (len*sz)).map (z.cells[· %z.cells.size]!)) vs=some cs.toArray):
  (Instr.buildSlice t len vs.toArray).run P w=.ok (.slice (some ⟨w.heap.size,0,none⟩) len len) (w.alloc (.cells cs.toArray e)):=by
 have h1: ¬2^24<len*sz:=by omega
 simp only[Instr.buildSlice,Qp,Ql E,Qi,I,h1,Wd,h0,J,Qs,N,newRow,run_newObj,gt_iff_lt];rfl
def st_bslice {t e:QQ}{len sz:Nat}{z:Value}{parts:List (Nat×Operand)}{vs:QI}{cs:QL}(I:Fr a n ds l)(J:Nat.ble (d+1) n=true)(N:P.underlying t=some (.slice e))(W: ∀w,(sizeOf e).run P w=.ok sz w)
  (Y: ∀w,(zeroValue e).run P w=.ok z w) (hp:evp l parts=some vs) (hs:Nat.ble (len*sz) 16777216=true) (h0:Nat.ble 1 (len*sz)=true)
  (hc:Instr.fill (λi=>some (i*sz,sz)) ((Array.range (len*sz)).map (z.cells[· %z.cells.size]!)) vs=some cs.toArray)
  (h: ∀g w' a',g=w.heap.size->w'.heap.size=g+1->Blk w' g e cs->Ch [] w w'->Fr a' n ds ((d,.slice (some ⟨g,0,none⟩) len len)::l)->WL r P ops Q rest a' w'):
  WL r P ops Q (⟨some d,.buildSlice t len parts.toArray,T,pos,af,none⟩::rest) a w:=
 valw (w':=w.alloc (.cells cs.toArray e)) (v:=.slice (some ⟨w.heap.size,0,none⟩) len len) I J (by
  have hb:=run_bslice (P:=P) (w:=w) N W Y (Qm hs) (by have:=Qm h0;omega) hc;have E:=I.evalp parts hp;simp only[execOp,E,Qp,hb,Qi,Qs])
  λa' hf'=>h _ _ a' rfl (by simp) (Blk.new w e cs) (Ch.alloc w _) hf'
def st_bslice0 {t e:QQ}{sz:Nat}(E:Fr a n ds l)(I:Nat.ble (d+1) n=true)(J:P.underlying t=some (.slice e))(N: ∀w,(sizeOf e).run P w=.ok sz w)
  (h: ∀g w' a',g=w.heap.size->w'.heap.size=g+1->Blk w' g e []->Ch [] w w'->Fr a' n ds ((d,.slice (some ⟨g,0,none⟩) 0 0)::l)->WL r P ops Q rest a' w'):
  WL r P ops Q (⟨some d,.buildSlice t 0 #[],T,pos,af,none⟩::rest) a w:=
 valw (w':=w.alloc (.cells ([]:QL).toArray e)) (v:=.slice (some ⟨w.heap.size,0,none⟩) 0 0) E I (by
  simp only[execOp,Instr.buildSlice,Qp,Ql J,Qi,N,Jg];simp[Instr.fill,newRow,Array.range_zero'])
  λa' hf'=>h _ _ a' rfl (by simp) (Blk.new w e []) (Ch.alloc w _) hf'
def run_storeB {t bt:QQ}{g o m:Nat}{cs new:QL}{v:Value}(I:Blk w g bt cs)(J: ∀w,(sizeOf t).run P w=.ok m w)(N:v.cells=new.toArray)(E:new.length=m)(W:o+m<=cs.length)(h1: ∀u∈new,u.oneCell'=true):
  (Instr.storeAt t (.pointer (some ⟨g,o,none⟩)) v).run P w=.ok () (w.setRow g (cs.take o++new++cs.drop (o+m)).toArray):=by
 have:=run_storeCells_at P g o bt new 0 cs.toArray w I (by simp;omega) h1;simp only[Jw]at this;simp only[Instr.storeAt,Instr.sureAddr,Qp,Qs,Qi,storeVar,J,N,Xk,E,ne_eq,not_true,Wd];rw[this,E]
def Blk.setRow {g:Nat}{bt:QQ}{cs cs':QL}(E:Blk w g bt cs):Blk (w.setRow g cs'.toArray) g bt cs':=setRow_heap w g cs.toArray cs'.toArray bt (0,0) E
def st_store {t bt:QQ}{x y:Operand}{g o m:Nat}{cs new cs':QL}{v:Value}(E:Fr a n ds l)(I:Blk w g bt cs)(hx:ev l x=some (.pointer (some ⟨g,o,none⟩)))(N:ev l y=some v)(W: ∀w,(sizeOf t).run P w=.ok m w)
  (Y:v.cells=new.toArray) (hm:new.length=m) (ho:Nat.ble (o+m) cs.length=true) (h1: ∀u∈new,u.oneCell'=true) (hc:cs.take o++new++cs.drop (o+m)=cs')
  (h: ∀w' a',w'.heap.size=w.heap.size->Blk w' g bt cs'->Ch [g] w w'->Fr a' n ds l->WL r P ops Q rest a' w'):
  WL r P ops Q (⟨none,.store t x y,T,pos,af,none⟩::rest) a w:=
 skipw (w':=w.setRow g cs'.toArray) E (by
  have J:=run_storeB (P:=P) I W Y hm (Qm ho) h1;rw[hc]at J;simp only[execOp,E.eval hx,E.eval N,Qp,J,Qi,Qs])
  λa' hf'=>h _ a' (by simp[World.setRow]) I.setRow (Ch.setRow w g _) hf'
end
section
variable {r:QN}{P:QR}{ops:QU}{Q:QG}{a:Act}{w:World}{rest:QT}{n:Nat}{ds:List Deferred}{l:QI}{d:Nat}{T:QQ}{pos:String}{af:Array Edge}
end
section
variable {r:QN}{P:QR}{ops:QU}{Q:QG}{S:World->Prop}{a:Act}{w:World}{n:Nat}{ds:List Deferred}{l:QI}{fuel:Nat}{listed:Array Bool}
def Hel (r:QN)(P:QR)(ops:QU)(Q:QG)(S:World->Prop):Nat->Array Bool->QH
 |0,listed,a,w=>Region.ready .any ops listed=[]/\Q .normal a w
 |f+1,listed,a,w=>(Region.ready .any ops listed=[]->Q .normal a w)/\
  ∀i∈Region.ready .any ops listed,wpOpIn (FW r) 0 P ops Q i (λa' w'=>S w'/\Hel r P ops Q S f (listed.setIfInBounds i true) a' w') a w
def Hel.any: ∀(f:Nat) (listed:Array Bool) (a:Act) (w:World),Hel r P ops Q S f listed a w->wpAnyIn (FW r) 0 P .any ops Q f listed a w
 |0,_,_,_,h=>h
 |f+1,_,_,_,h=>⟨h.1,λi hi=>wpOpIn_mono (λa' w' h'=>Hel.any f _ a' w' h'.2) (h.2 i hi)⟩
def Qbr (ops:QU):Bool:=ops.toList.all λo=>match o.op with| .defer _=>false|_=>true
def Qcb (h:Qbr ops=true){j:Nat}{o:Oper}(E:ops[j]?=some o): ∀c,o.op≠ .defer c:=λc I=>by
 have:=Q5.1 h o (Qu (i:=j) (by rw[Wi];exact E));simp[I]at this
def Qhi {ρ:Operand->Value}{o:Oper}(h: ∀c,o.op≠ .defer c):o.semAt r ρ=execOp ρ o:=by
 cases r with
 |none=>exact Oper.semAt_none ρ o
 |some l=>exact Oper.semAt_some l ρ o h
def Hel.put {j:Nat}{oi oj:Oper}{v:Value}(J: ∀c,oj.op≠ .defer c)(hj:ops[j]?=some oj)(N:oi.apart ops oj=true)(W: ∀cs b,oi.op≠ .select cs b)(Y: ∀cs b,oj.op≠ .select cs b)
  (hQ: ∀c a w,Q (.panic c) (a.put oi.dst v) w->Q (.panic c) a w) {K:QH} (E:YieldsIf P ops S oi v a) (h:wpOpIn (FW r) 0 P ops Q j K (a.put oi.dst v) w):
  wpOpIn (FW r) 0 P ops Q j (λa' w'=>YieldsIf P ops S oi v a'/\K (a'.put oi.dst v) w') a w:=by
 obtain⟨h1,h2,h3⟩:=Oper.apart_spec N;have kp1: ∀(a:Act),YieldsIf P ops S oi v a->∀u,YieldsIf P ops S oi v (a.put oj.dst u):=λa E u=>E.of_same (execOp_put oi W a oj.dst u h3) (wanted_put oi a oj.dst u h3);have kp2: ∀d,YieldsIf P ops S oi v {a with defers:=d::a.defers}:=λd=>E.of_same rfl rfl;unfold wpOpIn at*;rw[hj]at h ⊢;simp only[]at h ⊢;rw[wanted_put oj a oi.dst v h1]at h;by_cases hw:Region.wanted oj (yielded ops a.tmps)=true;rw[Qc hw]at h ⊢;refine⟨λ_ _=>trivial,?_⟩;have h:=h.2;rw[Qhi J,execOp_put oj Y a oi.dst v h1]at h;rw[Qhi J];generalize (execOp a.eval oj).run P w=res at h ⊢;cases res with
 |ok x w'=>
  cases x with
  |value u=>exact⟨kp1 a E u,by rw[<-Act.put_comm a v u h2];exact h⟩
  |skip=>exact⟨kp1 a E _,by rw[<-Act.put_comm a v undef h2];exact h⟩
  |defer d=>exact⟨kp1 _ (kp2 d) _,by rw[<-Act.put_comm _ v undef h2,<-Act.put_defers];exact h⟩
  |enter f args=>
   refine⟨h.1,CallsIn.mono h.2 λe w'' I=>?_⟩;cases e with
   |returned u=>exact⟨kp1 a E u,by rw[<-Act.put_comm a v u h2];exact I⟩
   |panicked c=>exact hQ _ _ _ I
   |outgrown=>exact I
  |row row args=>exact⟨h.1,RowsIn.mono h.2 λu w'' I=>⟨kp1 a E u,by rw[<-Act.put_comm a v u h2];exact I⟩⟩
  |round l f tmps assign body=>
   refine⟨h.1,RoundIn.mono h.2 λe w'' I=>?_⟩;cases e with
   |returned u=>exact⟨kp1 a E u,by rw[<-Act.put_comm a v u h2];exact I⟩
   |panicked c=>exact hQ _ _ _ I
   |outgrown=>exact I
  |_=>exact h
 |halt x w'=>cases x<;>first|exact hQ _ _ _ h|exact h
 rw[Qb hw]at h ⊢;exact⟨λ_ _=>trivial,kp1 a E _,by rw[<-Act.put_comm a v undef h2];exact h.2⟩
def Hel.op {i:Nat}{o:Oper}{v:Value}(E: ∀c,o.op≠ .defer c)(hi:ops[i]?=some o)(J:YieldsIf P ops S o v a){K:QH}(N:S w)(h:K (a.put o.dst v) w):wpOpIn (FW r) 0 P ops Q i K a w:=by
 unfold wpOpIn;rw[hi];simp only[];rcases J with⟨I,W⟩|⟨I,rfl⟩
 rw[Qc I];exact⟨λ_ _=>trivial,by rw[Qhi E,W w N];exact h⟩;rw[Qb (by rw[I];decide)];exact⟨λ_ _=>trivial,h⟩
def Qco {dst:Option Tmp}{op:Op}{T:QQ}{pos:String}{af:Array Edge}{y:Nat->Option Bool}:Region.wanted ⟨dst,op,T,pos,af,none⟩ y=true:=by simp[Region.wanted]
def Qcp {dst:Option Tmp}{op:Op}{T:QQ}{pos:String}{af:Array Edge}{j dj:Nat}{b:Bool}(E:Fr a n ds l)(I:(ops[j]?).bind (·.dst)=some dj)(J:lk l dj=some (.bool b)):Region.wanted ⟨dst,op,T,pos,af,some (j,b)⟩ (yielded ops a.tmps)=true:=by
 simp[Region.wanted,yielded,I,E.get _ _ J]
def Qdb {dst:Option Tmp}{op:Op}{T:QQ}{pos:String}{af:Array Edge}{j dj:Nat}{b:Bool}{u:Value}(E:Fr a n ds l)(I:(ops[j]?).bind (·.dst)=some dj)(J:lk l dj=some u)(N:u=.bool (!b)\/u=undef):
  Region.wanted ⟨dst,op,T,pos,af,some (j,b)⟩ (yielded ops a.tmps)=false:=by
 rcases N with rfl|rfl<;>simp[Region.wanted,yielded,I,E.get _ _ J,undef]
end
def Pq (Q:QG):Prop:=∀c a d v w,Q (.panic c) (Act.put a d v) w->Q (.panic c) a w
def put_defers (a:Act)(d:Option Tmp)(v:Value):(a.put d v).defers=a.defers:=by cases d<;>rfl
def Pq.body (P:QR)(fn:Func)(R:Ending->World->Prop):Pq (bodyPost P fn R):=λc a d v w h=>by
 obtain⟨h1,h2⟩:=h;rw[put_defers]at h1;exact⟨h1,h2⟩
section
variable {r:QN}{P:QR}{Q:QG}{a:Act}{w:World}{n:Nat}{ds:List Deferred}{l:QI}
def r_indexAddrA {d:Option Tmp}{T:QQ}{pos:String}{af:Array Edge}{gd:Option (Nat×Bool)}{t e:QQ}{x y:Operand}{g:Nat}{A:QK}{ad:Addr}{len c:Nat}{i:Int}{kd:IntKind}{k:Nat}(E:P.underlying t=some (.slice e))(I: ∀w,(sizeOf e).run P w=.ok g w)(hx:a.eval x=.slice A len c)(J:A=some ad)(N:a.eval y=.int kd i)(hi:i=(k:Int))(h1:k<len):
  (execOp a.eval ⟨d,.indexAddr t x y,T,pos,af,gd⟩).run P w=.ok (.value (.pointer (some (ad.add (k*g))))) w:=by
 subst J;subst hi;have:=r_indexAddr (P:=P) (a:=a) (w:=w) (d:=d) (T:=T) (pos:=pos) (af:=af) (gd:=gd) E I hx N (by omega) (by omega);simpa using this
end
def Qax: ∀t:Ty,0<t.size
 | .pair a _=>by have:=Qax a;simp only[Ty.size];omega
 | .int _=>by simp[Ty.size]
 | .byte=>by simp[Ty.size]
 | .bool=>by simp[Ty.size]
 | .str=>by simp[Ty.size]
 | .slice _=>by simp[Ty.size]
def Ty.ok:(t:Ty)->t.den->Prop
 | .int k,x=>k.has x
 | .byte,_=>True
 | .bool,_=>True
 | .str,x=>x.size<=maxLen
 | .slice e,xs=>xs.length<=maxLen/\∀x∈xs,e.ok x
 | .pair a b,x=>a.ok x.1/\b.ok x.2
def rep_ok {w:World}{F:Nat->Prop}: ∀(t:Ty) {cs:QL} {x:t.den},t.rep w F cs x->t.ok x
 | .int _,_,_,h=>h.2
 | .byte,_,_,_=>trivial
 | .bool,_,_,_=>trivial
 | .str,_,_,h=>h.2
 | .slice e,_,xs,h=>by
  obtain⟨A,c,cells,h1,h2,J,N,W,h6⟩:=h;refine⟨by omega,λx hx=>?_⟩;obtain⟨i,hi,rfl⟩:=Yn hx;exact rep_ok e (h6 i _ (Qj hi))
 | .pair a b,_,_,h=>by
  obtain⟨ca,cb,h,E,I⟩:=h;exact⟨rep_ok a E,rep_ok b I⟩
def i64_has {n:Int}(h: -9223372036854775808<=n/\n<=9223372036854775807):IntKind.i64.has n:=by
 simpa[IntKind.has,IntKind.min,IntKind.max,IntKind.bits,IntKind.signed] using h
def Qal {w:World}{F:Nat->Prop}: ∀(t:Ty) {cs:QL} {x:t.den},t.rep w F cs x->t.rep w (λb=>F b/\b<w.heap.size) cs x
 | .int _,_,_,h=>h
 | .byte,_,_,h=>h
 | .bool,_,_,h=>h
 | .str,_,_,h=>h
 | .slice e,_,xs,h=>by
  obtain⟨A,c,cells,h1,h2,N,E,I,h6⟩:=h;by_cases W:cells.length=0;have h7: ∀i x,xs[i]?=some x->e.size=0:=λi x hi=>by
   have hl:=(Qe.1 hi).1;rw[W]at E;rcases Nat.mul_eq_zero.1 E.symm with h|h
   omega;exact h
  refine⟨A,c,cells,h1,h2,N,E,?_,λi x hi=>Qal e (h6 i x hi)⟩;by_cases hx:xs.length=0;exact .inl hx;have hp:=Qax e;rw[W]at E;rcases Nat.mul_eq_zero.1 E.symm with h|h<;>omega
  refine⟨A,c,cells,h1,h2,N,E,?_,λi x hi=>Qal e (h6 i x hi)⟩;rcases I with I|⟨b,o,hA,J,Y⟩
  exact .inl I;exact .inr ⟨b,o,hA,⟨J,World.block_lt_of_cell? w _ (Y 0 _ (Qj (by omega)))⟩,Y⟩
 | .pair a b,_,_,h=>by
  obtain⟨ca,cb,h,ha,J⟩:=h;exact⟨ca,cb,h,Qal a ha,Qal b J⟩
def iv (lo hi:Nat):Nat->Prop:=λb=>lo<=b/\b<hi
@[reducible] def no:Nat->Prop:=λ_=>False
def Cells (w:World)(E:Addr)(es:QL):Prop:=∀j u,es[j]?=some u->w.cell? (E.add j)=some u
def Cells.ch {w w':World}{E:Addr}{es:QL}{S:QM}(h:Cells w E es)(J:Ch S w w')(N:E.block<w.heap.size->E.block∉S):Cells w' E es:=λj u W=>by
 have h1:=h j u W;have Y:(E.add j).block=E.block:=by unfold Addr.add;split<;>rfl
 have I:=World.block_lt_of_cell? w _ h1;rw[J.cell I (by rw[Y]at I ⊢;exact N I)];exact h1
section
variable {P:QR}{a:Act}{w:World}{d:Option Tmp}{T:QQ}{pos:String}{af:Array Edge}{gd:Option (Nat×Bool)}
def add_add (E:Addr)(i j:Nat):(E.add i).add j=E.add (i+j):=by
 unfold Addr.add;by_cases hi:i=0<;>by_cases I:j=0<;>simp[hi,I,Xn]
end
def u8_of {m:Int}(h:0<=m/\m<=255):m=((UInt8.ofNat m.toNat).toNat:Int):=by
 have:(UInt8.ofNat m.toNat).toNat=m.toNat%256:=by simp
 omega
section
variable {P:QR}{a:Act}{w:World}{d:Option Tmp}{T:QQ}{pos:String}{af:Array Edge}{gd:Option (Nat×Bool)}
def r_convw {src dst:QQ}{x:Operand}{k k':IntKind}{n m:Int}{de:TypeDesc}(E:P.underlying src=some de)(I:P.underlying dst=some (.int k'))(hx:a.eval x=.int k n)(J:k'.wrap n=m):(execOp a.eval ⟨d,.convert src dst x,T,pos,af,gd⟩).run P w=.ok (.value (.int k' m)) w:=by
 rw[r_conv E I hx,J]
def r_quow {t ty:QQ}{x y:Operand}{k:IntKind}{m n u:Int}(hx:a.eval x=.int k m)(E:a.eval y=.int k n)(h0:n≠0)(I:k.wrap (m.tdiv n)=u):(execOp a.eval ⟨d,.binOp .quo t x y ty,T,pos,af,gd⟩).run P w=.ok (.value (.int k u)) w:=by rw[r_quo hx E h0,I]
end
def rep_le {w:World}{F:Nat->Prop}{e:Ty}{A:QK}{n c:Nat}{xs:List e.den}(h:(Ty.slice e).rep w F [.slice A n c] xs):xs.length<=9223372036854775807:=by
 have E:=rep_slice_len h;simp only[maxLen]at E;omega
def slice_n {A:QK}{n m c:Nat}(h:n=m):Value.slice A n c=Value.slice A m c:=by rw[h]
def nt (M:QM):Nat->Prop:=λb=>b∉M
def ol (M:QM)(n:Nat):Nat->Prop:=λb=>b∉M/\b<n
def rep_to {t:Ty}{w w':World}{F F':Nat->Prop}{S:QM}{cs:QL}{x:t.den}(h:t.rep w F cs x)(N:Ch S w w')(E: ∀b,F b->b<w.heap.size->b∉S/\F' b:=by intro b h1 h2;(try simp only[Go.Z.nt,Go.Z.iv,Go.Z.no,Go.Z.ol,Qn,List.not_mem_nil,or_false,not_or,not_false_eq_true]at h1);(try simp only[Go.Z.nt,Go.Z.iv,Go.Z.no,Go.Z.ol,Qn,Q8,List.not_mem_nil,or_false,not_or,not_false_eq_true,true_and,and_true])<;>omega):t.rep w' F' cs x:=by
 have h1:t.rep w (λb=>F b/\b<w.heap.size) cs x:=Qal t h;exact rep_keep (λp hp I=>N.cell I (E _ hp.1 I).1) (λb J=>(E b J.1 J.2).2) t h1
def Qga {t:Ty}{w:World}{F F':Nat->Prop}{cs:QL}{x:t.den}(h:t.rep w F cs x)(E: ∀b,F b->b<w.heap.size->F' b):t.rep w F' cs x:=
 rep_to h (Ch.refl w) λb h1 h2=>⟨by simp,E b h1 h2⟩
def Own.to {t:Ty}{e:QQ}{B:Nat}{w w':World}{F F':Nat->Prop}{A:QK}{c:Nat}{xs:List t.den}{S:QM}(h:Own t e B w F A c xs)(J:Ch S w w')(hA: ∀k,k∈obl A->B<=k->k<w.heap.size->k∉S)(hF: ∀b,F b->b<w.heap.size->b∉S/\F' b):Own t e B w' F' A c xs:=by
 have E:=h.lt;obtain⟨cells,N,h1,h2⟩:=h;refine⟨cells,⟨N.1,?_⟩,h1,λi x hi=>rep_to (h2 i x hi) J hF⟩;rcases N.2 with h3|⟨g,cap,cur,W,hb,Y,rest⟩
 exact .inl h3;refine .inr ⟨g,cap,cur,W,hb,?_,rest⟩;injection W with hA' _ _
 have I:g∈obl A:=by rw[hA'];simp[obl]
 rw[J.block g (Qv.1 Y).1 (hA g I (E g I).1 (E g I).2)];exact Y
def bv (b:UInt8):Value:=.int .u8 (b.toNat:Int)
def FB (w:World)(g:Nat)(e:QQ)(u:Nat)(done:List UInt8):Prop:=
 ∃rest:QL,Blk w g e (done.map bv++rest)/\u<=done.length+rest.length/\done.length+rest.length<=maxLen
def FB.rep {w:World}{g:Nat}{e:QQ}{u:Nat}{done:List UInt8}{F:Nat->Prop}{c:Nat}(h:FB w g e u done)(Y:done.length=u)(J:F g)(hc:u<=c)(N:c<=maxLen):(Ty.slice .byte).rep w F [.slice (some ⟨g,0,none⟩) done.length c] done:=by
 obtain⟨r,W,h1,h2⟩:=h;refine⟨_,_,done.map bv,rfl,by omega,N,by simp[Ty.size],.inr ⟨g,0,rfl,J,λj v I=>?_⟩,λi x hi=>?_⟩;rw[W.cell,Wl,Wn (by have:=(Qe.1 I).1;exact this)];exact I
 ·show _=_
  have E:=(Qe.1 hi).1;simp only[Ty.size,Nat.mul_one];have:(done.map bv).drop i=bv x::(done.map bv).drop (i+1):=by
   rw[Yt (by simpa using E)];congr 1;rw[J5];rw[(Qe.1 hi).2]
  rw[this];rfl
section
variable {r:QN}{P:QR}{ops:QU}{Q:QG}{a:Act}{w:World}{rest:QT}{n:Nat}{ds:List Deferred}{l:QI}{d:Nat}{T:QQ}{pos:String}{af:Array Edge}
end
end Go.Z
end
section
namespace Go.Z
open Go.RowKit Go.Lib
section
variable {P:QR}{a:Act}{w:World}{d:Option Tmp}{T:QQ}{pos:String}{af:Array Edge}{gd:Option (Nat×Bool)}
end
section
variable {r:QN}{P:QR}{ops:QU}{Q:QG}{a:Act}{w:World}{rest:QT}{n:Nat}{ds:List Deferred}{l:QI}{d:Nat}{T:QQ}{pos:String}{af:Array Edge}
end
end Go.Z
end
section
namespace Go.Z
open Go.RowKit
section
variable {r:QN}{P:QR}{Q:QG}{a:Act}{w:World}{n:Nat}{ds:List Deferred}{l:QI}
def seqn {x y:Code}(h: ∀Q':QG,(∀a w,WP r P y Q a w->Q' .normal a w)->(∀e a w,e≠ .normal->Q e a w->Q' e a w)->WP r P x Q' a w):WP r P (Code.seq x y) Q a w:=by
 refine wpIn_seq (h _ (λ_ _ h=>h) (λe a w E hq=>?_));cases e<;>first|exact hq|exact absurd rfl E
def Rec (u:FrameMode)(v:Value)(u':FrameMode):Prop:=
 (u=.returning/\v=.nilIface/\u'=.returning)\/(∃older,u=.panicking ({v,recovered:=false,goexit:=false}::older)/\u'=.panicking ({v,recovered:=true}::older))
def bodyPost_S {fn:Func}{R:Ending->World->Prop}{u':FrameMode}{c₀:Frame}{cs:List Frame}(e:Exit)(a:Act)(w:World)(h:bodyPost P fn R e a w):
  bodyPostS P fn c₀ cs (λe I w'=>I=u'/\R e w') e a ({c₀ with mode:=u'}::cs) w:=by
 cases e with
 |normal=>exact⟨h.1,u',rfl,h.2.elim λv E=>⟨v,E.1,rfl,E.2⟩⟩
 |ret=>exact⟨h.1,u',rfl,h.2.elim λv E=>⟨v,E.1,rfl,E.2⟩⟩
 |panic c=>exact⟨h.1,u',rfl,rfl,h.2⟩
 |exit _=>exact h.elim
 |goto _=>exact h.elim
 |outgrown=>exact⟨u',rfl,h⟩
section
variable {d:Option Tmp}{T:QQ}{pos:String}{af:Array Edge}{gd:Option (Nat×Bool)}{t ty e0:QQ}{x:Operand}{v:Value}
end
end
def EqV (P:QR)(d:Nat)(t:QQ)(x y:Value)(b:Bool):Prop:=∀w,(Op.equalIn d t x y).run P w=.ok b w
def EqF (P:QR)(d:Nat)(xs ys:Array Value)(fs:List Field)(b:Bool):Prop:=∀w,(Op.eqFields d xs ys fs).run P w=.ok b w
def EqI (P:QR)(d:Nat)(e:QQ)(c:Nat)(xs ys:Array Value)(is:QM)(b:Bool):Prop:=∀w,(Op.eqItems d e c xs ys is).run P w=.ok b w
section
variable {P:QR}{d:Nat}{t e:QQ}
def eq_int {k k':IntKind}{a b:Int}(h:P.underlying t=some (.int k')):EqV P (d+1) t (.int k a) (.int k b) (decide (a=b)):=λw=>by
 rw[run_equalIn_int w d t k k' a b h];rfl
def eq_bool {a b:Bool}(h:P.underlying t=some .bool):EqV P (d+1) t (.bool a) (.bool b) (decide (a=b)):=λw=>by
 rw[Qbt h];cases a<;>cases b<;>rfl
def eq_str {a b:ByteArray}(h:P.underlying t=some .string):EqV P (d+1) t (.string a) (.string b) (decide (a=b)):=λw=>by
 rw[run_equalIn_string w d t a b h,str_eq]
def part_one {xs:Array Value}{o:Nat}{v:Value}(w:World)(E: ∀w,(isAgg t).run P w=.ok false w)(h:xs[o]?=some v):(part t xs o).run P w=.ok v w:=by simp[part,E,h]
def part_agg {xs zs:Array Value}{o n:Nat}(w:World)(E: ∀w,(isAgg t).run P w=.ok true w)(I: ∀w,(sizeOf t).run P w=.ok n w)(h:xs.extract o (o+n)=zs):(part t xs o).run P w=.ok (.agg zs) w:=by simp[part,E,I,h]
def eqf_nil {xs ys:Array Value}:EqF P d xs ys [] true:=λw=>by simp[Op.eqFields]
def eqf_cons {xs ys:Array Value}{f:Field}{fs:List Field}{a b:Value}{r r':Bool}(E:(f.name != "_")=true)(I: ∀w,(part f.type xs f.offset).run P w=.ok a w)(J: ∀w,(part f.type ys f.offset).run P w=.ok b w)
  (N:EqV P d f.type a b r) (h:EqF P d xs ys fs r'):EqF P d xs ys (f::fs) (r&&r'):=λw=>by
 have hn':f.name≠ "_" :=by simpa using E
 have h1:=N w;have h2:=h w;cases r<;>simp[Op.eqFields,hn',I,J,h1,h2]
def eqi_nil {xs ys:Array Value}{c:Nat}:EqI P d e c xs ys [] true:=λw=>by simp[Op.eqItems]
def eqi_cons {xs ys:Array Value}{c i:Nat}{is:QM}{a b:Value}{r r':Bool}(E: ∀w,(part e xs (i*c)).run P w=.ok a w)(I: ∀w,(part e ys (i*c)).run P w=.ok b w)
  (J:EqV P d e a b r) (h:EqI P d e c xs ys is r'):EqI P d e c xs ys (i::is) (r&&r'):=λw=>by
 have h1:=J w;have h2:=h w;cases r<;>simp[Op.eqItems,E,I,h1,h2]
def eq_struct {xs ys:Array Value}{fs:List Field}{r:Bool}(E:P.underlying t=some (.struct fs.toArray))(J:P.stoodInHeld t=false)(h:EqF P d xs ys fs r):EqV P (d+1) t (.agg xs) (.agg ys) r:=λw=>by
 have I:P.fieldsOf t=fs.toArray:=by simp[Program.fieldsOf,E]
 rw[run_equalIn_struct w d t xs ys (by rw[I];exact E) J,I];exact h w
def eq_array {xs ys:Array Value}{n c:Nat}{i:TypeInfo}{is:QM}{r:Bool}(I:P.underlying t=some (.array n e))(hi:P.info? e=some i)(J:P.cellsOf e=c)(E:List.range n=is)(h:EqI P d e c xs ys is r):EqV P (d+1) t (.agg xs) (.agg ys) r:=λw=>by
 rw[run_equalIn_array w d xs ys I hi,J,E];exact h w
def decide_pair {α β:Type}[DecidableEq α][DecidableEq β](x y:α×β):decide (x=y)=(decide (x.1=y.1)&&decide (x.2=y.2)):=by
 rw[<-Bool.decide_and];exact decide_eq_decide.2 Prod.ext_iff
section
variable {a:Act}{w:World}{dd:Option Tmp}{T ty:QQ}{pos:String}{af:Array Edge}{gd:Option (Nat×Bool)}{x y:Operand}
def r_eqagg {xs ys:Array Value}{b:Bool}(h:EqV P 10000 t (.agg xs) (.agg ys) b)(E:P.eqGuardType P.depth t=false)(hx:a.eval x=.agg xs)(I:a.eval y=.agg ys):
  (execOp a.eval ⟨dd,.binOp .eql t x y ty,T,pos,af,gd⟩).run P w=.ok (.value (.bool b)) w:=by
 have h0:=h w;have h1:=run_eqGuard_agg w .eql t x y xs ys E;have h2:=run_eql_struct (P:=P) w t xs ys;rw[h0]at h2;simp[execOp,hx,I,h1,h2]
def r_neagg {xs ys:Array Value}{p:Prop}[Decidable p](h:EqV P 10000 t (.agg xs) (.agg ys) (decide p))(E:P.eqGuardType P.depth t=false)(hx:a.eval x=.agg xs)(I:a.eval y=.agg ys):
  (execOp a.eval ⟨dd,.binOp .neq t x y ty,T,pos,af,gd⟩).run P w=.ok (.value (.bool (decide (¬p)))) w:=by
 have h0:=h w;have h1:=run_eqGuard_agg w .neq t x y xs ys E;have h2:=run_neq_struct (P:=P) w t xs ys;rw[h0]at h2;simp[execOp,hx,I,h1,h2]
def r_nes' {s u:ByteArray}(hx:a.eval x=.string s)(E:a.eval y=.string u):(execOp a.eval ⟨dd,.binOp .neq t x y ty,T,pos,af,gd⟩).run P w=.ok (.value (.bool (decide (s≠u)))) w:=by
 rw[r_nes hx E];simp
def r_neb' {b c:Bool}(E:P.underlying t=some .bool)(hx:a.eval x=.bool b)(I:a.eval y=.bool c):(execOp a.eval ⟨dd,.binOp .neq t x y ty,T,pos,af,gd⟩).run P w=.ok (.value (.bool (decide (b≠c)))) w:=by
 rw[r_neb E hx I];cases b<;>cases c<;>rfl
end
end
section
variable {P:QR}{a:Act}{w:World}{d:Option Tmp}{T:QQ}{pos:String}{af:Array Edge}{gd:Option (Nat×Bool)}{t ty:QQ}{x y:Operand}
def rep_none {w:World}{F:Nat->Prop}{e:Ty}{A:QK}{n c:Nat}{xs:List e.den}(h:(Ty.slice e).rep w F [.slice A n c] xs)(I:A.isNone=true):xs=[]:=by
 obtain⟨A',c',cells,h1,_,_,_,E,_⟩:=h;injection h1 with h1 _;injection h1 with h1 _ _
 subst h1;rcases E with E|⟨b,o,rfl,_⟩
 exact Wz E;cases I
def Qkz {e:QQ}{ad:Addr}(E:P.underlying t=some (.pointer e))(hx:a.eval x=.pointer (some ad))(I:a.eval y=.pointer none):
  (execOp a.eval ⟨d,.binOp .neq t x y ty,T,pos,af,gd⟩).run P w=.ok (.value (.bool true)) w:=by
 have h: ∀m,(Op.equalIn (m+1) t (.pointer (some ad)) (.pointer none)).run P w=.ok false w:=λm=>by simp[Op.equalIn,Ql E]
 have h2:(Op.equal t (.pointer (some ad)) (.pointer none)).run P w=.ok false w:=h 9999;simp[execOp,hx,I,eqGuard_at_pointer,binOp,h2]
end
section
variable {r:QN}{P:QR}{ops:QU}{Q:QG}{a:Act}{w:World}{rest:QT}{n:Nat}{ds:List Deferred}{l:QI}{d:Nat}{T:QQ}{pos:String}{af:Array Edge}
end
section
variable {r:QN}{P:QR}{ops:QU}{Q:QG}{a:Act}{w:World}{rest:QT}{n:Nat}{ds:List Deferred}{l:QI}{d:Nat}{T:QQ}{pos:String}{af:Array Edge}
end
@[reducible] def R64 (x:Int):Prop:= -9223372036854775808<=x/\x<=9223372036854775807
inductive Hint where
 |n
 |b (i o:Nat)
 |e (i o:Nat)
 |pk
 |off
 |on (h:Hint)
 |sy (h:Hint)
structure Kn where
 bs:List (Nat×QQ×QL)
 es:List (Addr×QL)
def Kn.ok (K:Kn)(w:World):Prop:=(∀b,b∈K.bs->Blk w b.1 b.2.1 b.2.2)/\(∀e,e∈K.es->Cells w e.1 e.2)
def k0 {w:World}:Kn.ok ⟨[],[]⟩ w:=⟨λb h=>(by cases h),λb h=>(by cases h)⟩
def kb {w:World}{g:Nat}{t:QQ}{cs:QL}{bs:List (Nat×QQ×QL)}{es:List (Addr×QL)}(h:Blk w g t cs)(I:Kn.ok ⟨bs,es⟩ w):Kn.ok ⟨(g,t,cs)::bs,es⟩ w:=
 ⟨λb E=>by rcases Qn.1 E with rfl|E;exact h;exact I.1 b E,I.2⟩
def ke {w:World}{E:Addr}{cs:QL}{bs:List (Nat×QQ×QL)}{es:List (Addr×QL)}(h:Cells w E cs)(J:Kn.ok ⟨bs,es⟩ w):Kn.ok ⟨bs,(E,cs)::es⟩ w:=
 ⟨J.1,λb I=>by rcases Qn.1 I with rfl|I;exact h;exact J.2 b I⟩
def aggB (P:QR)(t:QQ):Option Bool:=match P.underlying t with
 |some (.struct _)=>some true
 |some (.array _ _)=>some true
 |some _=>some false
 |none=>none
def szB (P:QR)(t:QQ):QN:=(P.info? t).map (·.size)
section
variable {P:QR}{t:QQ}
def Qce {b:Bool}(h:aggB P t=some b)(w:World):(isAgg t).run P w=.ok b w:=by
 unfold aggB at h;cases E:P.underlying t with
 |none=>rw[E]at h;cases h
 |some d=>
  rw[E]at h;unfold isAgg;rw[Qp,Ql E,Qi];cases d<;>simp at h<;>subst h<;>rfl
def Qaf {n:Nat}(h:szB P t=some n)(w:World):(sizeOf t).run P w=.ok n w:=by
 unfold szB at h;cases hi:P.info? t with
 |none=>rw[hi]at h;cases h
 |some i=>rw[hi]at h;simp at h;subst h;simp[sizeOf,typeInfo,hi]
def zero_run {i:TypeInfo}{z:Value}(hi:P.info? t=some i)(E:i.zero=some z)(w:World):(zeroValue t).run P w=.ok z w:=by
 simp[zeroValue,typeInfo,hi,E]
end
abbrev QO:=Option (List Prop×List (Value×Value)×Value)
def qok (v:Value):QO:=some ([],[],v)
def qar (k:IntKind)(x:Int):QO:=match k with
 | .i64=>some ([R64 x],[],.int .i64 x)
 |k=>qok (.int k (k.wrap x))
def qint (op:BinOp)(k:IntKind)(m n:Int):QO:=match op with
 | .add=>qar k (m+n)
 | .sub=>qar k (m-n)
 | .mul=>qar k (m*n)
 | .lss=>qok (.bool (decide (m<n)))
 | .leq=>qok (.bool (decide (m<=n)))
 | .gtr=>qok (.bool (decide (n<m)))
 | .geq=>qok (.bool (decide (n<=m)))
 | .eql=>qok (.bool (decide (m=n)))
 | .neq=>qok (.bool (decide (m≠n)))
 | .quo=>match k with
  | .i64=>some ([n≠0,R64 (m.tdiv n)],[],.int .i64 (m.tdiv n))
  |_=>none
 | .rem=>some ([n≠0],[],.int k (m.tmod n))
 | .shr=>match k with
  | .u64=>some ([0<=n/\n<=64],[],.int .u64 (m / 2^n.toNat))
  |_=>none
 |_=>none
def qbin (P:QR)(op:BinOp)(t:QQ):Option Value->Option Value->QO
 |some (.int k m),some (.int k' n)=>if k'=k then qint op k m n else none
 |some (.bool b),some (.bool c)=>match P.underlying t with
  |some .bool=>match op with
   | .eql=>qok (.bool (b==c))
   | .neq=>qok (.bool (decide (b≠c)))
   |_=>none
  |_=>none
 |some (.string s),some (.string u)=>match op with
  | .eql=>qok (.bool (decide (s=u)))
  | .neq=>qok (.bool (decide (s≠u)))
  | .lss=>qok (.bool (Op.bytesLess s.toList u.toList))
  | .gtr=>qok (.bool (!(Op.bytesLess s.toList u.toList||s.toList==u.toList)))
  | .add=>some ([s.size+u.size<=9223372036854775807],[],.string (s++u))
  |_=>none
 |some (.slice A _ _),some (.slice none 0 0)=>match P.underlying t with
  |some (.slice _)=>match op with
   | .eql=>qok (.bool A.isNone)
   |_=>none
  |_=>none
 |some (.pointer (some _)),some (.pointer none)=>match P.underlying t with
  |some (.pointer _)=>match op with
   | .neq=>qok (.bool true)
   |_=>none
  |_=>none
 |_,_=>none
def qconv (P:QR)(s d:QQ):Option Value->QO
 |some (.int _ n)=>match P.underlying s,P.underlying d with
  |some _,some (.int .i64)=>some ([R64 n],[],.int .i64 n)
  |some _,some (.int k)=>qok (.int k (k.wrap n))
  |_,_=>none
 |_=>none
def qfa (P:QR)(t:QQ)(i:Nat):Option Value->QO
 |some (.pointer (some a))=>match P.underlying t with
  |some (.struct fs)=>match fs[i]? with
   |some f=>match szB P f.type with
    |some (_+1)=>qok (.pointer (some (a.add f.offset)))
    |_=>none
   |none=>none
  |_=>none
 |_=>none
def qfl (P:QR)(t:QQ)(i:Nat):Option Value->QO
 |some (.agg cs)=>match P.underlying t with
  |some (.struct fs)=>match fs[i]? with
   |some f=>match aggB P f.type with
    |some false=>match cs[f.offset]? with
     |some v=>qok v
     |none=>none
    |some true=>match szB P f.type with
     |some n=>qok (.agg (cs.extract f.offset (f.offset+n)))
     |none=>none
    |none=>none
   |none=>none
  |_=>none
 |_=>none
def qcut (P:QR)(t:QQ)(cs:QL)(o:Nat):Option Value:=match aggB P t with
 |some false=>cs[o]?
 |some true=>match szB P t with
  |some n=>if((cs.drop o).take n).length=n then some (.agg ((cs.drop o).take n).toArray)else none
  |none=>none
 |none=>none
def qld (P:QR)(K:Kn)(h:Hint)(t:QQ):Option Value->QO
 |some (.pointer (some a))=>match h with
  | .b i o=>match K.bs[i]? with
   |some (g,_,cs)=>match qcut P t cs o with
    |some v=>some ([],[(.pointer (some a),.pointer (some ⟨g,o,none⟩))],v)
    |none=>none
   |none=>none
  | .e i o=>match K.es[i]? with
   |some (E,cs)=>match qcut P t cs o with
    |some v=>some ([],[(.pointer (some a),.pointer (some (E.add o)))],v)
    |none=>none
   |none=>none
  |_=>none
 |_=>none
def qbi (P:QR)(b:Builtin):List (Option Value)->List QQ->QO
 | [some (.slice _ n _)],[t]=>match b,P.underlying t with
  | .len,some (.slice _)=>qok (.int .i64 (n:Int))
  |_,_=>none
 | [some (.string s)],[t]=>match b,P.underlying t with
  | .len,some .string=>qok (.int .i64 (s.size:Int))
  |_,_=>none
 | [some (.int k p),some (.int _ q)],_=>match b with
  | .min=>qok (.int k (min p q))
  | .max=>qok (.int k (max p q))
  |_=>none
 |_,_=>none
def qes (e:Operand->Option Value):List Operand->Option (QL)
 | []=>some []
 |x::r=>match e x,qes e r with
  |some v,some vs=>some (v::vs)
  |_,_=>none
def qps (e:Operand->Option Value):List (Nat×Operand)->Option (QI)
 | []=>some []
 |(i,x)::r=>match e x,qps e r with
  |some v,some vs=>some ((i,v)::vs)
  |_,_=>none
def qpl (P:QR):List Field->Option (List (Nat×Nat))
 | []=>some []
 |f::r=>match szB P f.type,qpl P r with
  |some n,some l=>some ((f.offset,n)::l)
  |_,_=>none
def qbd (P:QR)(t:QQ)(vs:Option (QI)):QO:=match vs,P.info? t,P.underlying t with
 |some vs,some i,some (.struct fs)=>match i.zero,qpl P fs.toList with
  |some z,some pl=>match Instr.fill (pl.toArray[·]?) z.cells vs with
   |some cs=>qok (.agg cs)
   |none=>none
  |_,_=>none
 |_,_,_=>none
def qv (P:QR)(K:Kn)(h:Hint)(e:Operand->Option Value):Op->QO
 | .move x=>(e x).map λv=>([],[],v)
 | .assign x=>(e x).map λv=>([],[],v)
 | .pick c x y=>match e c with
  |some (.bool true)=>(e x).map λv=>([],[],v)
  |some (.bool false)=>(e y).map λv=>([],[],v)
  |_=>none
 | .unOp .not _ x=>match e x with
  |some (.bool b)=>qok (.bool (!b))
  |_=>none
 | .extract x i=>match e x with
  |some (.tuple vs)=>(vs[i]?).map λv=>([],[],v)
  |_=>none
 | .nilCheck x=>match e x with
  |some (.pointer (some a))=>qok (.pointer (some a))
  |_=>none
 | .makeFunc fn xs ys=>match qes e xs.toList,qes e ys.toList with
  |some vs,some us=>qok (.func fn vs.toArray us.toArray)
  |_,_=>none
 | .binOp op t x y _=>qbin P op t (e x) (e y)
 | .convert s d x=>qconv P s d (e x)
 | .fieldAddr t x i=>qfa P t i (e x)
 | .field t x i=>qfl P t i (e x)
 | .load t x=>qld P K h t (e x)
 | .call {callee:=.builtin b,args:=xs,argTypes:=ts}=>qbi P b (xs.toList.map e) ts.toList
 | .build t ps=>qbd P t (qps e ps.toList)
 |_=>none
section
variable {P:QR}{K:Kn}{a:Act}{w:World}{d:Option Tmp}{T:QQ}{pos:String}{af:Array Edge}{gd:Option (Nat×Bool)}{e:Operand->Option Value}
def qes_eval (I: ∀x v,e x=some v->a.eval x=v): ∀(xs:List Operand) {vs:QL},qes e xs=some vs->xs.toArray.map a.eval=vs.toArray:=by
 intro xs;induction xs with
 |nil=>intro vs h;simp only[qes,Qg]at h;subst h;simp
 |cons x r ih=>
  intro vs h;unfold qes at h;cases hx:e x with
  |none=>simp[hx]at h
  |some v=>cases E:qes e r with
   |none=>simp[hx,E]at h
   |some us=>
    simp only[hx,E,Qg]at h;subst h;have:=ih E;simp only[Yg,Wc,I x v hx]at this ⊢;rw[Jc]at this;rw[this]
def qps_eval (I: ∀x v,e x=some v->a.eval x=v): ∀(xs:List (Nat×Operand)) {vs:QI},qps e xs=some vs->xs.toArray.map (λ(i,x)=>(i,a.eval x))=vs.toArray:=by
 intro xs;induction xs with
 |nil=>intro vs h;simp only[qps,Qg]at h;subst h;simp
 |cons x r ih=>
  obtain⟨i,x⟩:=x;intro vs h;unfold qps at h;cases hx:e x with
  |none=>simp[hx]at h
  |some v=>cases E:qps e r with
   |none=>simp[hx,E]at h
   |some us=>
    simp only[hx,E,Qg]at h;subst h;have:=ih E;simp only[Yg,Wc,I x v hx]at this ⊢;rw[Jc]at this;rw[this]
def qpl_run: ∀(fs:List Field) {pl:List (Nat×Nat)},qpl P fs=some pl->∀w,(fs.mapM λf=>do pure (f.offset,<-sizeOf f.type):Sem (List (Nat×Nat))).run P w=.ok pl w:=by
 intro fs;induction fs with
 |nil=>intro pl h w;simp only[qpl,Qg]at h;subst h;rfl
 |cons f r ih=>
  intro pl h w;unfold qpl at h;cases E:szB P f.type with
  |none=>simp[E]at h
  |some n=>cases I:qpl P r with
   |none=>simp[E,I]at h
   |some l=>
    simp only[E,I,Qg]at h;subst h;rw[List.mapM_cons];simp only[Qp,Qaf E,Qi,Qs,ih I]
def qpl_arr {fs:Array Field}{pl:List (Nat×Nat)}(h:qpl P fs.toList=some pl)(w:World):(fs.mapM λf=>do pure (f.offset,<-sizeOf f.type):Sem (Array (Nat×Nat))).run P w=.ok pl.toArray w:=by
 have h1:=qpl_run fs.toList h w;rw[Array.mapM_eq_mapM_toList,map_eq_pure_bind,Qp,h1];rfl
def o_bM {k:IntKind}{x:Int}{c:List Prop}{q:List (Value×Value)}{v:Value}(h:qar k x=some (c,q,v))(E: ∀p,p∈c->p):v=.int k (k.wrap x):=by
 unfold qar at h;split at h;injection h with h;injection h with h1 h;injection h with h2 h;subst h;subst h1
 rw[IntWalk.i64_in _ (E _ (Qq.2 rfl))];unfold qok at h;injection h with h;injection h with h1 h;injection h with h2 h;exact h.symm
def o_d {u v:Value}{c:List Prop}{q:List (Value×Value)}(h:qok u=some (c,q,v)):v=u:=by
 unfold qok at h;injection h with h;injection h with h1 h;injection h with h2 h;exact h.symm
def Qiy {t:QQ}{x:Operand}{cs:QL}{o:Nat}{v:Value}{A:Addr}(h:qcut P t cs o=some v)(hx:a.eval x=.pointer (some A))(hcell: ∀j u,cs[o+j]?=some u->w.cell? (A.add j)=some u):
  (execOp a.eval ⟨d,.load t x,T,pos,af,gd⟩).run P w=.ok (.value v) w:=by
 unfold qcut at h;split at h;rename_i E;refine r_load1 (λw=>Qce E w) hx ?_;have:=hcell 0 v (by simpa using h);rwa[Addr.add_zero']at this;rename_i E;split at h;rename_i n W;split at h;rename_i J;injection h with h;subst h
 refine r_loadN (λw=>Qce E w) (λw=>Qaf W w) hx J λj u N=>hcell j u ?_;have I:j<n:=by have:=(Qe.1 N).1;rw[J]at this;exact this
 rwa[Wt I,Wj]at N;cases h;cases h;cases h
def o_dy {op:BinOp}{t ty:QQ}{k:IntKind}{m n:Int}{x y:Operand}{c:List Prop}{q:List (Value×Value)}{v:Value}(h:qint op k m n=some (c,q,v))(I: ∀p,p∈c->p)(hx:a.eval x=.int k m)(E:a.eval y=.int k n):
  (execOp a.eval ⟨d,.binOp op t x y ty,T,pos,af,gd⟩).run P w=.ok (.value v) w:=by
 unfold qint at h;split at h;rw[o_bM h I];exact r_add hx E;rw[o_bM h I];exact r_sub hx E;rw[o_bM h I];exact r_mul hx E;rw[o_d h];exact r_lss hx E;rw[o_d h];exact r_leq hx E;rw[o_d h];exact r_gtr hx E;rw[o_d h];exact r_geq hx E;rw[o_d h];exact r_eql hx E;rw[o_d h];exact r_neq hx E;split at h;injection h with h;injection h with h1 h;injection h with h2 h;subst h;subst h1
 exact r_quow hx E (I _ (by simp)) (IntWalk.i64_in _ (I _ (by simp)));cases h;injection h with h;injection h with h1 h;injection h with h2 h;subst h;subst h1
 exact r_rem hx E (I _ (by simp));split at h;injection h with h;injection h with h1 h;injection h with h2 h;subst h;subst h1
 have J:=I (0<=n/\n<=64) (by simp);exact r_shr hx E J.1 J.2;cases h;cases h
def Qkb {t ty:QQ}{x y:Operand}{s u:ByteArray}(hx:a.eval x=.string s)(E:a.eval y=.string u):(execOp a.eval ⟨d,.binOp .lss t x y ty,T,pos,af,gd⟩).run P w=.ok (.value (.bool (Op.bytesLess s.toList u.toList))) w:=by
 simp[execOp,hx,E,binOp_string_lss,eqGuard_lss]
def Qit {t ty:QQ}{x y:Operand}{s u:ByteArray}(hx:a.eval x=.string s)(E:a.eval y=.string u):(execOp a.eval ⟨d,.binOp .gtr t x y ty,T,pos,af,gd⟩).run P w=.ok (.value (.bool (!(Op.bytesLess s.toList u.toList||s.toList==u.toList)))) w:=by
 simp[execOp,hx,E,binOp,Op.stringOp,eqGuard_gtr]
def r_cat {t ty:QQ}{x y:Operand}{s u:ByteArray}(hx:a.eval x=.string s)(E:a.eval y=.string u)(h:s.size+u.size<=9223372036854775807):(execOp a.eval ⟨d,.binOp .add t x y ty,T,pos,af,gd⟩).run P w=.ok (.value (.string (s++u))) w:=by
 simp[execOp,hx,E,binOp_string_add,run_string_add_sum w s u h,eqGuard_add]
def o_dz {op:BinOp}{t ty:QQ}{x y:Operand}{c:List Prop}{q:List (Value×Value)}{v:Value}(E: ∀x v,e x=some v->a.eval x=v)(h:qbin P op t (e x) (e y)=some (c,q,v))(N: ∀p,p∈c->p):
  (execOp a.eval ⟨d,.binOp op t x y ty,T,pos,af,gd⟩).run P w=.ok (.value v) w:=by
 unfold qbin at h;split at h;rename_i k m k' n hx I;split at h;rename_i hk;subst hk;exact o_dy h N (E _ _ hx) (E _ _ I);cases h;rename_i b c' hx I;split at h;rename_i J;split at h;rw[o_d h];exact r_eqb J (E _ _ hx) (E _ _ I);rw[o_d h];exact r_neb' J (E _ _ hx) (E _ _ I);cases h;cases h;rename_i s u hx I;split at h;rw[o_d h];exact r_eqs (E _ _ hx) (E _ _ I);rw[o_d h];exact r_nes' (E _ _ hx) (E _ _ I);rw[o_d h];exact Qkb (E _ _ hx) (E _ _ I);rw[o_d h];exact Qit (E _ _ hx) (E _ _ I);injection h with h;injection h with h1 h;injection h with h2 h;subst h;subst h1
 exact r_cat (E _ _ hx) (E _ _ I) (N _ (by simp));cases h;rename_i A n c' hx I;split at h;rename_i J;split at h;rw[o_d h];exact r_eqnil J (E _ _ hx) (E _ _ I);cases h;cases h;rename_i A hx I;split at h;rename_i J;split at h;rw[o_d h];exact Qkz J (E _ _ hx) (E _ _ I);cases h;cases h;cases h
def o_dq {hn:Hint}{op:Op}{c:List Prop}{q:List (Value×Value)}{v:Value}(I: ∀x v,e x=some v->a.eval x=v)(hK:K.ok w)(h:qv P K hn e op=some (c,q,v))(hc: ∀p,p∈c->p)(hq: ∀p,p∈q->p.1=p.2):
  (execOp a.eval ⟨d,op,T,pos,af,gd⟩).run P w=.ok (.value v) w:=by
 unfold qv at h;split at h;rename_i x;cases hx:e x with
 |none=>simp[hx]at h
 |some u=>simp[hx]at h;obtain⟨_,_,rfl⟩:=h;exact r_move (I _ _ hx)
 rename_i x;cases hx:e x with
 |none=>simp[hx]at h
 |some u=>simp[hx]at h;obtain⟨_,_,rfl⟩:=h;exact r_assign (I _ _ hx)
 rename_i c' x y;split at h;rename_i N;cases hx:e x with
 |none=>simp[hx]at h
 |some u=>simp[hx]at h;obtain⟨_,_,rfl⟩:=h;exact Qhb (I _ _ N) (I _ _ hx)
 rename_i N;cases hx:e y with
 |none=>simp[hx]at h
 |some u=>simp[hx]at h;obtain⟨_,_,rfl⟩:=h;exact Qgz (I _ _ N) (I _ _ hx)
 cases h;split at h;rename_i hx;rw[o_d h];exact r_not (I _ _ hx);cases h;rename_i x i;split at h;rename_i vs hx;cases hi:vs[i]? with
 |none=>simp[hi]at h
 |some u=>simp[hi]at h;obtain⟨_,_,rfl⟩:=h;exact r_extract (I _ _ hx) hi
 cases h;split at h;rename_i hx;rw[o_d h];exact Qdk (I _ _ hx);cases h;rename_i fn xs ys;split at h;rename_i vs us hx hy;rw[o_d h];have h1:=qes_eval I _ hx;have h2:=qes_eval I _ hy;simp only[Q9]at h1 h2;exact Qfx h1 h2;cases h;exact o_dz I h hc;rename_i s d' x;unfold qconv at h;split at h;rename_i k n hx;split at h;rename_i W hd;injection h with h;injection h with h1 h;injection h with h2 h;subst h;subst h1
 exact r_convw W hd (I _ _ hx) (IntWalk.i64_in _ (hc _ (Qq.2 rfl)));rename_i W hd;rw[o_d h];exact r_conv W hd (I _ _ hx);cases h;cases h;unfold qfa at h;split at h;rename_i A hx;split at h;rename_i fs J;split at h;rename_i f hf;split at h;rename_i m W;rw[o_d h];exact Qdr J hf (λw=>Qaf W w) (I _ _ hx);cases h;cases h;cases h;cases h;unfold qfl at h;split at h;rename_i cs hx;split at h;rename_i fs J;split at h;rename_i f hf;split at h;rename_i Y;split at h;rename_i u hv;rw[o_d h];have:=I _ _ hx;simp[execOp,Instr.field,Ql J,hf,this,asAgg,part,Qce Y,hv];cases h;rename_i Y;split at h;rename_i n W;rw[o_d h];have:=I _ _ hx;simp[execOp,Instr.field,Ql J,hf,this,asAgg,part,Qce Y,Qaf W];cases h;cases h;cases h;cases h;cases h;unfold qld at h;split at h;rename_i A hx;split at h;split at h;rename_i i o _ g bt cs hb;split at h;rename_i u hcut;injection h with h;injection h with h1 h;injection h with h2 h;subst h;subst h2
 have Y:Value.pointer (some A)=.pointer (some ⟨g,o,none⟩):=hq _ (Qq.2 rfl);have hB:Blk w g bt cs:=hK.1 _ (Qu hb);refine Qiy hcut ((I _ _ hx).trans Y) λj u hj=>?_;rw[Wf,hB.cell];exact hj;cases h;cases h;split at h;rename_i i o _ E cs hb;split at h;rename_i u hcut;injection h with h;injection h with h1 h;injection h with h2 h;subst h;subst h2
 have Y:Value.pointer (some A)=.pointer (some (E.add o)):=hq _ (Qq.2 rfl);have hB:Cells w E cs:=hK.2 _ (Qu hb);refine Qiy hcut ((I _ _ hx).trans Y) λj u hj=>?_;rw[add_add];exact hB _ _ hj;cases h;cases h;cases h;cases h;rename_i b xs ts;unfold qbi at h;split at h;rename_i A n c' t h1 h2;split at h;rename_i J;rw[o_d h];obtain⟨x,rfl,hx⟩: ∃x,xs=#[x]/\e x=some (.slice A n c'):=by
  obtain⟨l⟩:=xs;rcases l with _|⟨x,_|⟨y,l⟩⟩
  simp at h1;exact⟨x,rfl,by simpa using h1⟩;simp at h1
 obtain rfl:ts=#[t]:=by obtain⟨l⟩:=ts;simp at h2;rw[h2]
 exact r_len J (I _ _ hx);cases h;rename_i s t h1 h2;split at h;rename_i J;rw[o_d h];obtain⟨x,rfl,hx⟩: ∃x,xs=#[x]/\e x=some (.string s):=by
  obtain⟨l⟩:=xs;rcases l with _|⟨x,_|⟨y,l⟩⟩
  simp at h1;exact⟨x,rfl,by simpa using h1⟩;simp at h1
 obtain rfl:ts=#[t]:=by obtain⟨l⟩:=ts;simp at h2;rw[h2]
 exact r_lens J (I _ _ hx);cases h;rename_i k p k' q' h1;obtain⟨x,y,rfl,hx,hy⟩: ∃x y,xs=#[x,y]/\e x=some (.int k p)/\e y=some (.int k' q'):=by
  obtain⟨l⟩:=xs;rcases l with _|⟨x,_|⟨y,_|⟨z,l⟩⟩⟩
  simp at h1;simp at h1;simp at h1;exact⟨x,y,rfl,h1.1,h1.2⟩;simp at h1
 split at h;rw[o_d h];exact r_min (I _ _ hx) (I _ _ hy);rw[o_d h];exact r_max (I _ _ hx) (I _ _ hy);cases h;cases h;rename_i t ps;unfold qbd at h;split at h;rename_i vs i fs hvs hi J;split at h;rename_i z pl hz hpl;split at h;rename_i cs hcs;rw[o_d h];have h1:=qps_eval I _ hvs;simp only[Q9]at h1;simp only[execOp,Instr.build,h1];simp only[Qp,zero_run hi hz,Qi,Ql J];rw[qpl_arr hpl w];simp only[Qi,hcs,Qs];cases h;cases h;cases h;cases h
end
def bo {x y:Bool}(h:(x||y)=true):x=true\/y=true:=by cases x<;>simp_all
def bn {x:Bool}(h:(!x)=true):x=false:=by cases x<;>simp_all
structure QS where
 l:QI
 g:List (Nat×Nat×Bool×Value)
 c:List Prop
 q:List (Value×Value)
 wr:QM
def gk:List (Nat×Nat×Bool×Value)->Nat->Option (Nat×Bool×Value)
 | [],_=>none
 |(t,x)::r,d=>bif Nat.beq t d then some x else gk r d
def gfree:List (Nat×Nat×Bool×Value)->Nat->Bool
 | [],_=>true
 |(t,j,_)::r,d=> !(Nat.beq t d)&& !(Nat.beq j d)&&gfree r d
def evg (s:QS)(gd:Option (Nat×Bool)):Operand->Option Value
 | .tmp t=>match gk s.g t with
  |some (dj,b,v)=>match gd with
   |some (dj',b')=>if dj'=dj then if b'=b then some v else none else none
   |none=>none
  |none=>lk s.l t
 |x=>ev s.l x
def qput (s:QS)(d:Nat)(c:List Prop)(q:List (Value×Value))(v:Value):Option QS:=
 if gfree s.g d then some ⟨(d,v)::s.l,s.g,s.c++c,q++s.q,d::s.wr⟩else none
def qside (s:QS)(tc:Nat)(b:Bool):Operand->Option Bool
 | .tmp t=>match gk s.g t with
  |some (dj,b',.bool u)=>if dj=tc then if b'=b then some u else none else none
  |some _=>none
  |none=>if t=tc then some b else match lk s.l t with
   |some (.bool u)=>some u
   |_=>none
 |x=>match ev s.l x with
  |some (.bool u)=>some u
  |_=>none
def qpk (s:QS)(d:Nat):Op->Option QS
 | .pick (.tmp tc) x y=>match gk s.g tc,lk s.l tc with
  |none,some (.bool cb)=>match qside s tc true x,qside s tc false y with
   |some b1,some b2=>qput s d [] [] (.bool (bif cb then b1 else b2))
   |_,_=>none
  |_,_=>none
 |_=>none
def qno (P:QR)(K:Kn)(s:QS)(d:Nat)(h:Hint)(op:Op):Option QS:=match qv P K h (evg s none) op with
 |some (c,q,v)=>qput s d c q v
 |none=>none
def q1 (P:QR)(K:Kn)(n:Nat)(ops:QU)(s:QS)(h:Hint)(o:Oper):Option QS:=match o.dst with
 |none=>none
 |some d=>if Nat.ble (d+1) n then match o.guard with
  |none=>match h with
   | .pk=>qpk s d o.op
   |h=>qno P K s d h o.op
  |some (j,b)=>match(ops[j]?).bind (·.dst)with
   |none=>none
   |some dj=>match gk s.g dj,lk s.l dj with
    |none,some (.bool c)=>match h with
     | .off=>if c= !b then qput s d [] [] undef else none
     | .on .pk=>if c=b then qpk s d o.op else none
     | .on h=>if c=b then qno P K s d h o.op else none
     | .sy h=>if d=dj then none else if gfree s.g d then match lk s.l d with
      |none=>match qv P K h (evg s (some (dj,b))) o.op with
       |some (cs,q,v)=>some ⟨s.l,(d,dj,b,v)::s.g,s.c++cs.map (λp=>c=b->p),q++s.q,d::s.wr⟩
       |none=>none
      |some _=>none else none
     |_=>none
    |none,some (.tuple vs)=>match h with
     | .off=>if vs.toList.isEmpty then qput s d [] [] undef else none
     |_=>none
    |_,_=>none else none
def qs (P:QR)(K:Kn)(n:Nat)(ops:QU):List Hint->QT->QS->Option QS
 | [],_,s=>some s
 |h::hs,o::r,s=>match q1 P K n ops s h o with
  |some s'=>qs P K n ops hs r s'
  |none=>none
 |_::_,[],_=>none
def dqs (P:QR)(K:Kn)(n:Nat)(ops:QU):List (Nat×Hint)->Array Bool->QS->Option (Array Bool×QS)
 | [],li,s=>some (li,s)
 |(i,h)::r,li,s=>match ops[i]? with
  |some o=>if Region.free .any ops li i&&(Region.ready .any ops li).contains i then match q1 P K n ops s h o with
   |some s'=>dqs P K n ops r (li.setIfInBounds i true) s'
   |none=>none else none
  |none=>none
def qfin (l0:QI)(ks:QM)(s:QS):Option (List Prop×QI):=
 if s.wr.all (λd=>ks.contains d||(lk l0 d).isNone)then some (s.c,kp s.l ks)else none
def conj:List Prop->Prop
 | []=>True
 | [p]=>p
 |p::q::r=>p/\conj (q::r)
def cat:QI->QI->QI
 | [],l=>l
 |p::r,l=>p::cat r l
def Qgv: ∀{cs:List Prop},conj cs->∀p,p∈cs->p
 | [],_,p,hp=>by cases hp
 | [q],h,p,hp=>by rw[Qq]at hp;subst hp;exact h
 |q::q'::r,h,p,hp=>by
  rcases Qn.1 hp with rfl|hp
  exact h.1;exact Qgv h.2 p hp
def Qcj (d e:Nat)(v:Value)(l:QI):lk ((d,v)::l) e=if d=e then some v else lk l e:=by
 by_cases h:d=e;subst h;rw[Qak,Qc rfl];rw[Qag _ _ h,Qb h]
def Qfn (d e:Nat)(x:Nat×Bool×Value)(l:List (Nat×Nat×Bool×Value)):gk ((d,x)::l) e=if d=e then some x else gk l e:=by
 unfold gk;by_cases h:d=e;subst h;simp;have:Nat.beq d e=false:=by cases E:Nat.beq d e with
  |false=>rfl
  |true=>exact absurd (Qk E) h
 simp only[this,cond_false,Qb h];cases l<;>rfl
def Qdj: ∀{g:List (Nat×Nat×Bool×Value)} {d:Nat},gfree g d=true->gk g d=none/\∀t j b v,gk g t=some (j,b,v)->j≠d
 | [],d,_=>⟨rfl,λt j b v h=>by cases h⟩
 |(t,j,x)::r,d,h=>by
  simp only[gfree,Qd,X0]at h;obtain⟨⟨h1,h2⟩,E⟩:=h;have I:t≠d:=λe=>by subst e;simp at h1
  have J:j≠d:=λe=>by subst e;simp at h2
  obtain⟨N,W⟩:=Qdj E;refine⟨by rw[Qfn,Qb I];exact N,λt' j' b v h=>?_⟩;rw[Qfn]at h;split at h;injection h with h;injection h with Y h5;rw[<-Y];exact J
  exact W _ _ _ _ h
structure QS.ok (s:QS) (a:Act) (n:Nat) (ds:List Deferred):Prop where
 fr:Fr a n ds s.l
 gd: ∀t dj b v,gk s.g t=some (dj,b,v)->lk s.l t=none/\∃c,lk s.l dj=some (.bool c)/\gk s.g dj=none/\a.tmps[t]?=some (if c=b then v else undef)
structure QS.inv (l0:QI) (s:QS):Prop where
 out: ∀d,d∉s.wr->lk s.l d=lk l0 d
 wrn: ∀d,d∈s.wr->(lk s.l d).isSome=true\/lk l0 d=none\/∃v,lk s.l d=some v
structure QS.le (s s':QS):Prop where
 c: ∀p,p∈s.c->p∈s'.c
 q: ∀p,p∈s.q->p∈s'.q
def QS.le.refl (s:QS):QS.le s s:=⟨λ_ h=>h,λ_ h=>h⟩
def QS.le.trans {s t u:QS}(h:QS.le s t)(k:QS.le t u):QS.le s u:=⟨λ_ hp=>k.c _ (h.c _ hp),λ_ hp=>k.q _ (h.q _ hp)⟩
section
variable {P:QR}{K:Kn}{n:Nat}{ds:List Deferred}{ops:QU}{a:Act}{s s':QS}
def evg_none (E:s.ok a n ds)(x:Operand)(v:Value)(h:evg s none x=some v):a.eval x=v:=by
 unfold evg at h;split at h;split at h;cases h;exact E.fr.eval (x:=.tmp _) h;exact E.fr.eval h
def evg_some {dj:Nat}{b:Bool}(E:s.ok a n ds)(W:lk s.l dj=some (.bool b))(x:Operand)(v:Value)(h:evg s (some (dj,b)) x=some v):a.eval x=v:=by
 unfold evg at h;split at h;rename_i t;split at h;rename_i dj' b' v' I;by_cases J:dj=dj';subst J;by_cases N:b=b';subst N;simp only[Xo]at h;injection h with h
 subst h;obtain⟨_,c,h1,_,h2⟩:=E.gd _ _ _ _ I;rw[W]at h1;injection h1 with h1;injection h1 with h1
 rw[Qc h1.symm]at h2;simp[Act.eval,Q1,h2];simp[N]at h;simp[J]at h;exact E.fr.eval (x:=.tmp _) h;exact E.fr.eval h
def o_aS {d:Nat}{c:List Prop}{q:List (Value×Value)}{v:Value}(W:d<n)(N:s.ok a n ds)(h:qput s d c q v=some s'):s'.ok (a.put (some d) v) n ds/\QS.le s s'/\(∀p,p∈c->p∈s'.c)/\(∀p,p∈q->p∈s'.q):=by
 unfold qput at h;split at h;rename_i Y;injection h with h
 subst h;obtain⟨g1,g2⟩:=Qdj Y;refine⟨⟨N.fr.put W v,λt dj b u E=>?_⟩,⟨λp hp=>Ws _ hp,λp hp=>Q6 _ hp⟩,λp hp=>Q6 _ hp,λp hp=>Ws _ hp⟩;obtain⟨h1,cc,h2,h3,h4⟩:=N.gd t dj b u E;have I:d≠t:=λe=>by subst e;change gk s.g d=_ at E;rw[g1]at E;cases E
 have J:d≠dj:=λe=>g2 _ _ _ _ E e.symm;refine⟨by rw[Qcj,Qb I];exact h1,cc,by rw[Qcj,Qb J];exact h2,h3,?_⟩;simp only[Act.put];rw[Xh I];exact h4;cases h
def Qea {d:Nat}{c:List Prop}{q:List (Value×Value)}{v:Value}{J:QI}(hi:s.inv J)(h:qput s d c q v=some s'):s'.inv J:=by
 unfold qput at h;split at h;injection h with h
 subst h;refine⟨λe I=>?_,λe I=>?_⟩;simp only[Qn,not_or]at I;rw[Qcj,Qb (λh=>I.1 h.symm)];exact hi.out e I.2;simp only[Qn]at I;by_cases E:d=e;left;subst E;rw[Qcj,Qc rfl];rfl;rw[Qcj,Qb E];exact hi.wrn e (I.resolve_left λh=>E h.symm);cases h
def o_bN {tc:Nat}{b u cb:Bool}{x:Operand}(I:s.ok a n ds)(hg:gk s.g tc=none)(Y:lk s.l tc=some (.bool cb))(E:cb=b)(h:qside s tc b x=some u):a.eval x=.bool u:=by
 unfold qside at h;split at h;rename_i t;split at h;rename_i dj b' u' J;split at h;rename_i N;subst N;split at h;rename_i e2;subst e2;injection h with h;subst h
 obtain⟨_,c,h1,_,h2⟩:=I.gd _ _ _ _ J;rw[Y]at h1;injection h1 with h1;injection h1 with h1
 rw[Qc (h1.symm.trans E)]at h2;simp[Act.eval,Q1,h2];cases h;cases h;cases h;split at h;rename_i N;subst N;injection h with h;subst h;subst E
 exact I.fr.eval (x:=.tmp _) Y;split at h;rename_i W;injection h with h;subst h
 exact I.fr.eval (x:=.tmp _) W;cases h;split at h;rename_i W;injection h with h;subst h
 exact I.fr.eval W;cases h
def QDo (P:QR)(K:Kn)(ops:QU)(a:Act)(o:Oper)(v:Value):Prop:=
 (Region.wanted o (yielded ops a.tmps)=true/\∀w,K.ok w->(execOp a.eval o).run P w=.ok (.value v) w)\/(Region.wanted o (yielded ops a.tmps)=false/\v=undef)
def o_cV {d:Nat}{op:Op}{T:QQ}{pos:String}{af:Array Edge}{gd:Option (Nat×Bool)}(W:d<n)(I:s.ok a n ds)(h:qpk s d op=some s'):
  ∃v,s'.ok (a.put (some d) v) n ds/\QS.le s s'/\∀w,(execOp a.eval ⟨some d,op,T,pos,af,gd⟩).run P w=.ok (.value v) w:=by
 unfold qpk at h;split at h;rename_i tc x y;split at h;rename_i cb N J;split at h;rename_i b1 b2 h1 h2;obtain⟨k1,k2,_,_⟩:=o_aS W I h;refine⟨_,k1,k2,λw=>?_⟩;have E:a.eval (.tmp tc)=.bool cb:=I.fr.eval (x:=.tmp tc) J;cases cb with
 |true=>exact Qhb E (o_bN I N J rfl h1)
 |false=>exact Qgz E (o_bN I N J rfl h2)
 cases h;cases h;cases h
def qpk_inv {d:Nat}{op:Op}{E:QI}(hi:s.inv E)(h:qpk s d op=some s'):s'.inv E:=by
 unfold qpk at h;split at h;split at h;split at h;exact Qea hi h;cases h;cases h;cases h
def o_cW {d:Nat}{I:Hint}{op:Op}{T:QQ}{pos:String}{af:Array Edge}{gd:Option (Nat×Bool)}(J:d<n)(E:s.ok a n ds)(h:qno P K s d I op=some s')(N: ∀p,p∈s'.c->p)(hq: ∀p,p∈s'.q->p.1=p.2):
  ∃v,s'.ok (a.put (some d) v) n ds/\QS.le s s'/\∀w,K.ok w->(execOp a.eval ⟨some d,op,T,pos,af,gd⟩).run P w=.ok (.value v) w:=by
 unfold qno at h;split at h;rename_i c q v W;obtain⟨k1,k2,k3,Y⟩:=o_aS J E h;exact⟨v,k1,k2,λw hK=>o_dq (evg_none E) hK W (λp hp=>N p (k3 p hp)) (λp hp=>hq p (Y p hp))⟩;cases h
def qno_inv {d:Nat}{I:Hint}{op:Op}{E:QI}(hi:s.inv E)(h:qno P K s d I op=some s'):s'.inv E:=by
 unfold qno at h;split at h;exact Qea hi h;cases h
def bool_ne {c b:Bool}(h:c≠b):c= !b:=by cases c<;>cases b<;>first|rfl|exact absurd rfl h
def o_cX {d dj:Nat}{b c:Bool}{v u:Value}{cs:List Prop}{q:List (Value×Value)}(hd:d<n)(J:s.ok a n ds)(Y:d≠dj)(hgf:gfree s.g d=true)(N:lk s.l d=none)(hgk:gk s.g dj=none)(hlk:lk s.l dj=some (.bool c))(hu:u=if c=b then v else undef):
  QS.ok ⟨s.l,(d,dj,b,v)::s.g,cs,q,d::s.wr⟩ (a.put (some d) u) n ds:=by
 obtain⟨g1,g2⟩:=Qdj hgf;refine⟨⟨by simp[Act.put,J.fr.size],J.fr.defs,λe x W=>?_⟩,λt dj' b' u' E=>?_⟩;have W:lk s.l e=some x:=W;have hde:d≠e:=λh=>by subst h;rw[N]at W;cases W
 simp only[Act.put];rw[Xh hde];exact J.fr.get e x W;replace E:gk ((d,dj,b,v)::s.g) t=some (dj',b',u'):=E;rw[Qfn]at E;by_cases I:d=t;subst I;rw[Qc rfl]at E;injection E with E;injection E with h1 E;injection E with h2 E
 subst h1;subst h2;subst E;refine⟨N,c,hlk,?_,?_⟩;show gk ((d,dj,b,v)::s.g) dj=none;rw[Qfn,Qb Y];exact hgk;simp only[Act.put];rw[hu,Array.getElem?_setIfInBounds_self_of_lt (by rw[J.fr.size];exact hd)];rw[Qb I]at E;obtain⟨h1,cc,h2,h3,h4⟩:=J.gd t dj' b' u' E;refine⟨h1,cc,h2,?_,?_⟩;show gk ((d,dj,b,v)::s.g) dj'=none;rw[Qfn,Qb (λh=>g2 _ _ _ _ E h.symm)];exact h3;simp only[Act.put];rw[Xh I];exact h4
def o_dr {h:Hint}{o:Oper}(N:s.ok a n ds)(E:q1 P K n ops s h o=some s')(hc: ∀p,p∈s'.c->p)(hq: ∀p,p∈s'.q->p.1=p.2):
  ∃d v,o.dst=some d/\s'.ok (a.put (some d) v) n ds/\QS.le s s'/\QDo P K ops a o v:=by
 obtain⟨dst,op,T,pos,af,gd⟩:=o;unfold q1 at E;split at E;cases E;rename_i d hdst;have hdst:dst=some d:=hdst;subst hdst;split at E;rename_i hd;have hd:d<n:=Qm hd;split at E;rename_i W;have W:gd=none:=W;subst W;split at E;obtain⟨v,k1,k2,k3⟩:=o_cV (P:=P) (T:=T) (pos:=pos) (af:=af) (gd:=none) hd N E;exact⟨d,v,rfl,k1,k2,.inl ⟨Qco,λw _=>k3 w⟩⟩;obtain⟨v,k1,k2,k3⟩:=o_cW (T:=T) (pos:=pos) (af:=af) (gd:=none) hd N E hc hq;exact⟨d,v,rfl,k1,k2,.inl ⟨Qco,k3⟩⟩;rename_i j b W;have W:gd=some (j,b):=W;subst W;split at E;cases E;rename_i dj Y;split at E;rename_i c hgk I;split at E;split at E;rename_i J;obtain⟨k1,k2,_,_⟩:=o_aS hd N E;exact⟨d,undef,rfl,k1,k2,.inr ⟨Qdb N.fr Y I (.inl (by rw[J])),rfl⟩⟩;cases E;split at E;rename_i J;subst J;obtain⟨v,k1,k2,k3⟩:=o_cV (P:=P) (T:=T) (pos:=pos) (af:=af) (gd:=some (j,c)) hd N E;exact⟨d,v,rfl,k1,k2,.inl ⟨Qcp N.fr Y I,λw _=>k3 w⟩⟩;cases E;split at E;rename_i J;subst J;obtain⟨v,k1,k2,k3⟩:=o_cW (T:=T) (pos:=pos) (af:=af) (gd:=some (j,c)) hd N E hc hq;exact⟨d,v,rfl,k1,k2,.inl ⟨Qcp N.fr Y I,k3⟩⟩;cases E;split at E;cases E;rename_i hne;split at E;rename_i hgf;split at E;rename_i hln;split at E;rename_i cs q v hv;injection E with E
 subst E;have hle:QS.le s ⟨s.l,(d,dj,b,v)::s.g,s.c++cs.map (λp=>c=b->p),q++s.q,d::s.wr⟩:=⟨λp hp=>Ws _ hp,λp hp=>Q6 _ hp⟩;by_cases J:c=b;subst J;refine⟨d,v,rfl,o_cX hd N hne hgf hln hgk I (by rw[Qc rfl]),hle,.inl ⟨Qcp N.fr Y I,λw hK=>?_⟩⟩;exact o_dq (evg_some N I) hK hv (λp hp=>hc (c=c->p) (Q6 _ (W5.2 ⟨p,hp,rfl⟩)) rfl) (λp hp=>hq p (Ws _ hp));exact⟨d,undef,rfl,o_cX hd N hne hgf hln hgk I (by rw[Qb J]),hle,.inr ⟨Qdb N.fr Y I (.inl (Wq Value.bool (bool_ne J))),rfl⟩⟩;cases E;cases E;cases E;cases E;rename_i vs hgk I;split at E;split at E;rename_i hvs;obtain⟨k1,k2,_,_⟩:=o_aS hd N E;refine⟨d,undef,rfl,k1,k2,.inr ⟨Qdb N.fr Y I (.inr ?_),rfl⟩⟩;have:vs=#[]:=by
  have h1:vs.toList=[]:=J6.1 hvs;rw[<-Q9 (xs:=vs),h1]
 rw[this];rfl;cases E;cases E;cases E;cases E
def q1_inv {h:Hint}{o:Oper}{N:QI}(hi:s.inv N)(E:q1 P K n ops s h o=some s'):s'.inv N:=by
 unfold q1 at E;split at E;cases E;split at E;split at E;split at E;exact qpk_inv hi E;exact qno_inv hi E;split at E;cases E;split at E;split at E;split at E;exact Qea hi E;cases E;split at E;exact qpk_inv hi E;cases E;split at E;exact qno_inv hi E;cases E;split at E;cases E;split at E;split at E;rename_i J;split at E;injection E with E
 subst E;refine⟨λe I=>hi.out e (λh=>I (Qf _ h)),λe I=>?_⟩;rcases Qn.1 I with rfl|I
 by_cases W:e∈s.wr;exact hi.wrn e W;right;left;rw[<-hi.out e W];exact J;exact hi.wrn e I;cases E;cases E;cases E;cases E;split at E;split at E;exact Qea hi E;cases E;cases E;cases E;cases E
def q1_le {h:Hint}{o:Oper}(E:q1 P K n ops s h o=some s'):QS.le s s':=by
 have hp: ∀{d:Nat} {c:List Prop} {q:List (Value×Value)} {v:Value},qput s d c q v=some s'->QS.le s s':=λh=>by
  unfold qput at h;split at h;injection h with h;subst h;exact⟨λp hp=>Ws _ hp,λp hp=>Q6 _ hp⟩
  cases h
 have hk: ∀{d:Nat} {op:Op},qpk s d op=some s'->QS.le s s':=λh=>by
  unfold qpk at h;split at h;split at h;split at h;exact hp h;cases h;cases h;cases h
 have I: ∀{d:Nat} {g:Hint} {op:Op},qno P K s d g op=some s'->QS.le s s':=λh=>by
  unfold qno at h;split at h;exact hp h;cases h
 unfold q1 at E;split at E;cases E;split at E;split at E;split at E;exact hk E;exact I E;split at E;cases E;split at E;split at E;split at E;exact hp E;cases E;split at E;exact hk E;cases E;split at E;exact I E;cases E;split at E;cases E;split at E;split at E;split at E;injection E with E;subst E;exact⟨λp hp=>Ws _ hp,λp hp=>Q6 _ hp⟩
 cases E;cases E;cases E;cases E;split at E;split at E;exact hp E;cases E;cases E;cases E;cases E
def qs_le: ∀{I:List Hint} {lst:QT} {s:QS},qs P K n ops I lst s=some s'->QS.le s s'
 | [],_,s,h=>by simp only[qs,Qg]at h;subst h;exact QS.le.refl _
 |h::I,[],s,E=>by simp[qs]at E
 |h::I,o::r,s,E=>by
  unfold qs at E;split at E;rename_i s1 h1;exact(q1_le h1).trans (qs_le E);cases E
def dqs_le {li':Array Bool}: ∀{is:List (Nat×Hint)} {li:Array Bool} {s:QS},dqs P K n ops is li s=some (li',s')->QS.le s s'
 | [],_,s,h=>by simp only[dqs,Qg,Qt]at h;rw[h.2];exact QS.le.refl _
 |(i,h)::r,li,s,E=>by
  unfold dqs at E;split at E;split at E;split at E;rename_i s1 h1;exact(q1_le h1).trans (dqs_le E);cases E;cases E;cases E
end
def lk_cat (nl l:QI)(d:Nat):lk (cat nl l) d=(lk nl d).or (lk l d):=by
 induction nl with
 |nil=>rfl
 |cons p r ih=>
  obtain⟨e,v⟩:=p;show lk ((e,v)::cat r l) d=_;rw[Qcj,Qcj,ih];split<;>rfl
def Qgi {l:QI}{ks:QM}{d:Nat}{v:Value}(E:d∈ks)(J:lk l d=some v):lk (kp l ks) d=some v:=by
 induction ks with
 |nil=>cases E
 |cons k r ih=>
  unfold kp;by_cases hk:k=d;subst hk;rw[J];exact Qak _ _ _;have I:=ih ((Qn.1 E).resolve_left λh=>hk h.symm);split;rw[Qag _ _ hk];exact I;exact I
def qfin_fr {Y nl:QI}{ks:QM}{cs:List Prop}{s:QS}{a:Act}{n:Nat}{ds:List Deferred}(I:s.ok a n ds)(hi:s.inv Y)(h:qfin Y ks s=some (cs,nl)):Fr a n ds (cat nl Y)/\s.c=cs:=by
 unfold qfin at h;split at h;rename_i hall;injection h with h;injection h with h1 h2
 refine⟨⟨I.fr.size,I.fr.defs,λd v E=>?_⟩,h1⟩;rw[lk_cat,<-h2]at E;cases hk:lk (kp s.l ks) d with
 |some u=>rw[hk]at E;injection E with E;subst E;exact I.fr.get d _ (lk_kp ks d _ hk)
 |none=>
  rw[hk]at E;have E:lk Y d=some v:=E;by_cases hw:d∈s.wr;have J:=Q5.1 hall d hw;simp only[Xs,List.contains_iff_mem,Option.isNone_iff_eq_none,E]at J;have W:d∈ks:=by rcases J with J|J;exact J;cases J
  rcases hi.wrn d hw with N|N|⟨u,N⟩
  obtain⟨u,hu⟩:=Xt.1 N;rw[Qgi W hu]at hk;cases hk;rw[E]at N;cases N;rw[Qgi W N]at hk;cases hk;exact I.fr.get d v (by rw[hi.out d hw];exact E)
 cases h
section
variable {r:QN}{P:QR}{K:Kn}{ops:QU}{Q:QG}{a:Act}{w:World}{n:Nat}{ds:List Deferred}
def qs_walk: ∀{E:List Hint} {lst:QT} {s s':QS} {a:Act},qs P K n ops E lst s=some s'->(∀p,p∈s'.c->p)->(∀p,p∈s'.q->p.1=p.2)->K.ok w->s.ok a n ds->(∀a',s'.ok a' n ds->WL r P ops Q (lst.drop E.length) a' w)->WL r P ops Q lst a w
 | [],_,s,s',a,hq,_,_,_,E,h=>by simp only[qs,Qg]at hq;subst hq;exact h a E
 |g::E,[],s,s',a,hq,_,_,_,_,_=>by simp[qs]at hq
 |g::E,o::lst,s,s',a,hq,W,Y,hK,J,h=>by
  unfold qs at hq;split at hq;rename_i s1 h1;have I:=qs_le hq;obtain⟨d,v,hd,k1,k2,k3⟩:=o_dr J h1 (λp hp=>W p (I.c p hp)) (λp hp=>Y p (I.q p hp));have hrest:WL r P ops Q lst (a.put (some d) v) w:=qs_walk hq W Y hK k1 h;unfold WL wpListIn;rcases k3 with⟨N,hv⟩|⟨N,rfl⟩
  rw[Qc N];refine⟨λ_ _=>trivial,?_⟩;rw[Qel (hv w hK) (λ_ h=>by cases h)];show wpListIn _ _ _ _ _ _ (a.put o.dst v) w;rw[hd];exact hrest;rw[Qb (by rw[N];decide)];refine⟨λ_ _=>trivial,?_⟩;rw[hd];exact hrest;cases hq
def qs_inv {I:QI}: ∀{E:List Hint} {lst:QT} {s s':QS},s.inv I->qs P K n ops E lst s=some s'->s'.inv I
 | [],_,s,s',hi,hq=>by simp only[qs,Qg]at hq;subst hq;exact hi
 |g::E,[],s,s',_,hq=>by simp[qs]at hq
 |g::E,o::lst,s,s',hi,hq=>by
  unfold qs at hq;split at hq;rename_i s1 h1;exact qs_inv (q1_inv hi h1) hq;cases hq
def dqs_inv {E:QI}{li':Array Bool}: ∀{is:List (Nat×Hint)} {li:Array Bool} {s s':QS},s.inv E->dqs P K n ops is li s=some (li',s')->s'.inv E
 | [],_,s,s',hi,hq=>by simp only[dqs,Qg,Qt]at hq;rw[<-hq.2];exact hi
 |(i,h)::is,li,s,s',hi,hq=>by
  unfold dqs at hq;split at hq;split at hq;split at hq;rename_i s1 h1;exact dqs_inv (q1_inv hi h1) hq;cases hq;cases hq;cases hq
variable {l:QI}
def q0 (l:QI):QS:=⟨l,[],[],[],[]⟩
def o_ds (E:Fr a n ds l):(q0 l).ok a n ds:=⟨E,λt dj b v h=>by cases h⟩
def q0_inv (l:QI):(q0 l).inv l:=⟨λ_ _=>rfl,λd h=>by cases h⟩
def Qet: ∀{q:List (Value×Value)},q.map Prod.fst=q.map Prod.snd->∀p,p∈q->p.1=p.2
 | [],_,p,hp=>by cases hp
 |x::q,h,p,hp=>by
  simp only[Wc,Ym]at h;rcases Qn.1 hp with rfl|hp
  exact h.1;exact Qet h.2 p hp
def qr {lst:QT}(I:List Hint)(ks:QM)(cs:List Prop)(nl:QI)(Y:K.ok w)(hf:Fr a n ds l)
  (h: ∀a',Fr a' n ds (cat nl l)->WL r P ops Q (lst.drop I.length) a' w)
  (hc:conj cs:=by first|exact trivial|(simp only[Go.Z.conj,Go.Z.R64];omega)|omega)
  (hq:((qs P K n ops I lst (q0 l)).bind (qfin l ks))=some (cs,nl):=by kernel_rfl)
  (J:(qs P K n ops I lst (q0 l)).map (λs=>s.q.map Prod.fst)=(qs P K n ops I lst (q0 l)).map (λs=>s.q.map Prod.snd):=by kernel_rfl):WL r P ops Q lst a w:=by
 cases E:qs P K n ops I lst (q0 l)with
 |none=>rw[E]at hq;cases hq
 |some s'=>
  rw[E]at hq J;have hq:qfin l ks s'=some (cs,nl):=hq;have J:s'.q.map Prod.fst=s'.q.map Prod.snd:=by injection J
  have N:s'.c=cs:=by unfold qfin at hq;split at hq;(injection hq with hq;injection hq);cases hq
  exact qs_walk E (by rw[N];exact Qgv hc) (Qet J) Y (o_ds hf) λa' W=>h a' (qfin_fr W (qs_inv (q0_inv l) E) hq).1
variable {S:World->Prop}
end
end Go.Z
end
section
namespace Go.Proofs.YtligcbdjiolamaaGreatDoor
@[reducible] def T46:Z.Ty:=(Z.Ty.pair (Z.Ty.int .i64) (Z.Ty.pair (Z.Ty.int .i64) Z.Ty.str))
abbrev D46:Type:=Int×Int×ByteArray
@[reducible] def T48:Z.Ty:=(Z.Ty.pair (Z.Ty.int .i64) (Z.Ty.pair (Z.Ty.int .i64) (Z.Ty.pair (Z.Ty.slice (Z.Ty.int .i64)) (Z.Ty.pair T46 (Z.Ty.pair Z.Ty.str (Z.Ty.pair (Z.Ty.int .i64) (Z.Ty.int .i64)))))))
abbrev D48:Type:=Int×Int×(QP)×D46×ByteArray×Int×Int
abbrev D23:Type:=(List D48)
@[reducible] def T58:Z.Ty:=(Z.Ty.pair (Z.Ty.int .i64) (Z.Ty.pair (Z.Ty.int .i64) (Z.Ty.pair Z.Ty.str (Z.Ty.int .i64))))
abbrev D58:Type:=Int×Int×ByteArray×Int
@[reducible] def T42:Z.Ty:=(Z.Ty.pair (Z.Ty.int .i64) (Z.Ty.slice T58))
abbrev D42:Type:=Int×(List D58)
@[reducible] def T50:Z.Ty:=(Z.Ty.pair (Z.Ty.int .i64) (Z.Ty.pair (Z.Ty.int .i64) (Z.Ty.pair (Z.Ty.int .i64) (Z.Ty.pair (Z.Ty.int .i64) T46))))
abbrev D50:Type:=Int×Int×Int×Int×D46
@[reducible] def T61:Z.Ty:=(Z.Ty.pair (Z.Ty.int .i64) Z.Ty.str)
abbrev D61:Type:=Int×ByteArray
@[reducible] def T63:Z.Ty:=(Z.Ty.pair (Z.Ty.int .i64) (Z.Ty.pair (Z.Ty.int .i64) T61))
abbrev D63:Type:=Int×Int×D61
abbrev D70:Type:=(List D58)×(List D58)×(List D58)×(List D58)×(List D58)×(List D58)×(List D58)×(List D58)×(List D58)×(List D58)×(List D58)×(List D58)×(List D58)×(List D58)×(List D58)×(List D58)
abbrev D78:Type:=Int×D61
@[reducible] def T129:Z.Ty:=(Z.Ty.pair (Z.Ty.int .i64) (Z.Ty.int .i64))
abbrev D129:Type:=Int×Int
@[reducible] def T131:Z.Ty:=(Z.Ty.pair T129 (Z.Ty.int .i64))
abbrev D131:Type:=D129×Int
@[reducible] def T189:Z.Ty:=(Z.Ty.pair (Z.Ty.int .i64) (Z.Ty.pair (Z.Ty.int .i64) (Z.Ty.pair (Z.Ty.int .i64) (Z.Ty.int .i64))))
abbrev D189:Type:=Int×Int×Int×Int
@[reducible] def T190:Z.Ty:=(Z.Ty.pair (Z.Ty.int .i64) (Z.Ty.pair (Z.Ty.int .i64) (Z.Ty.pair (Z.Ty.int .i64) (Z.Ty.pair (Z.Ty.int .i64) T189))))
abbrev D190:Type:=Int×Int×Int×Int×D189
@[reducible] def T193:Z.Ty:=(Z.Ty.pair T129 (Z.Ty.pair T129 T190))
abbrev D193:Type:=D129×D129×D190
@[reducible] def T183:Z.Ty:=(Z.Ty.pair (Z.Ty.int .i64) (Z.Ty.int .i32))
abbrev D183:Type:=Int×Int
abbrev CF (n:Nat):Prop:=∀(args:Array Value) (w:World),(callFunc n args).run Tryz.prog w=.ok (.enter n args) w
def cf6:CF 6:=λ_ _=>by kernel_rfl
def cf7:CF 7:=λ_ _=>by kernel_rfl
def cf8:CF 8:=λ_ _=>by kernel_rfl
def cf10:CF 10:=λ_ _=>by kernel_rfl
def cf11:CF 11:=λ_ _=>by kernel_rfl
def cf14:CF 14:=λ_ _=>by kernel_rfl
def cf15:CF 15:=λ_ _=>by kernel_rfl
def cf16:CF 16:=λ_ _=>by kernel_rfl
def cf18:CF 18:=λ_ _=>by kernel_rfl
def cf19:CF 19:=λ_ _=>by kernel_rfl
def cf23:CF 23:=λ_ _=>by kernel_rfl
def cf24:CF 24:=λ_ _=>by kernel_rfl
def cf26:CF 26:=λ_ _=>by kernel_rfl
def cf27:CF 27:=λ_ _=>by kernel_rfl
def cf28:CF 28:=λ_ _=>by kernel_rfl
def cf29:CF 29:=λ_ _=>by kernel_rfl
def cf30:CF 30:=λ_ _=>by kernel_rfl
def cf31:CF 31:=λ_ _=>by kernel_rfl
def cf32:CF 32:=λ_ _=>by kernel_rfl
def cf33:CF 33:=λ_ _=>by kernel_rfl
def cf34:CF 34:=λ_ _=>by kernel_rfl
def cf35:CF 35:=λ_ _=>by kernel_rfl
def cf36:CF 36:=λ_ _=>by kernel_rfl
def cf37:CF 37:=λ_ _=>by kernel_rfl
def cf38:CF 38:=λ_ _=>by kernel_rfl
def cf39:CF 39:=λ_ _=>by kernel_rfl
def cf41:CF 41:=λ_ _=>by kernel_rfl
def cf42:CF 42:=λ_ _=>by kernel_rfl
def cf43:CF 43:=λ_ _=>by kernel_rfl
def cf44:CF 44:=λ_ _=>by kernel_rfl
def cf47:CF 47:=λ_ _=>by kernel_rfl
def cf48:CF 48:=λ_ _=>by kernel_rfl
def cf50:CF 50:=λ_ _=>by kernel_rfl
def cf51:CF 51:=λ_ _=>by kernel_rfl
def cf52:CF 52:=λ_ _=>by kernel_rfl
def cf53:CF 53:=λ_ _=>by kernel_rfl
def cf54:CF 54:=λ_ _=>by kernel_rfl
def cf55:CF 55:=λ_ _=>by kernel_rfl
def cf58:CF 58:=λ_ _=>by kernel_rfl
def cf59:CF 59:=λ_ _=>by kernel_rfl
def cf60:CF 60:=λ_ _=>by kernel_rfl
def cf61:CF 61:=λ_ _=>by kernel_rfl
def cf62:CF 62:=λ_ _=>by kernel_rfl
def cf63:CF 63:=λ_ _=>by kernel_rfl
def cf64:CF 64:=λ_ _=>by kernel_rfl
def cf65:CF 65:=λ_ _=>by kernel_rfl
def cf66:CF 66:=λ_ _=>by kernel_rfl
def cf67:CF 67:=λ_ _=>by kernel_rfl
def cf68:CF 68:=λ_ _=>by kernel_rfl
def cf69:CF 69:=λ_ _=>by kernel_rfl
def cf70:CF 70:=λ_ _=>by kernel_rfl
def cf71:CF 71:=λ_ _=>by kernel_rfl
def cf72:CF 72:=λ_ _=>by kernel_rfl
def cf73:CF 73:=λ_ _=>by kernel_rfl
def cf74:CF 74:=λ_ _=>by kernel_rfl
def cf75:CF 75:=λ_ _=>by kernel_rfl
def cf85:CF 85:=λ_ _=>by kernel_rfl
def cf86:CF 86:=λ_ _=>by kernel_rfl
def cf87:CF 87:=λ_ _=>by kernel_rfl
def cf88:CF 88:=λ_ _=>by kernel_rfl
def cf89:CF 89:=λ_ _=>by kernel_rfl
def cf90:CF 90:=λ_ _=>by kernel_rfl
def cf91:CF 91:=λ_ _=>by kernel_rfl
def cf92:CF 92:=λ_ _=>by kernel_rfl
def cf93:CF 93:=λ_ _=>by kernel_rfl
def cf94:CF 94:=λ_ _=>by kernel_rfl
def cf95:CF 95:=λ_ _=>by kernel_rfl
def cf96:CF 96:=λ_ _=>by kernel_rfl
def cf107:CF 107:=λ_ _=>by kernel_rfl
def cf108:CF 108:=λ_ _=>by kernel_rfl
def cf109:CF 109:=λ_ _=>by kernel_rfl
def cf110:CF 110:=λ_ _=>by kernel_rfl
def cf111:CF 111:=λ_ _=>by kernel_rfl
def cf112:CF 112:=λ_ _=>by kernel_rfl
def cf113:CF 113:=λ_ _=>by kernel_rfl
def cf114:CF 114:=λ_ _=>by kernel_rfl
def cf115:CF 115:=λ_ _=>by kernel_rfl
def cf116:CF 116:=λ_ _=>by kernel_rfl
def cf117:CF 117:=λ_ _=>by kernel_rfl
def cf118:CF 118:=λ_ _=>by kernel_rfl
def cf119:CF 119:=λ_ _=>by kernel_rfl
def cf120:CF 120:=λ_ _=>by kernel_rfl
def cf121:CF 121:=λ_ _=>by kernel_rfl
def cf122:CF 122:=λ_ _=>by kernel_rfl
def cf130:CF 130:=λ_ _=>by kernel_rfl
def cf131:CF 131:=λ_ _=>by kernel_rfl
def cf132:CF 132:=λ_ _=>by kernel_rfl
def cf133:CF 133:=λ_ _=>by kernel_rfl
def cf134:CF 134:=λ_ _=>by kernel_rfl
def cf135:CF 135:=λ_ _=>by kernel_rfl
def cf136:CF 136:=λ_ _=>by kernel_rfl
def cf137:CF 137:=λ_ _=>by kernel_rfl
def cf138:CF 138:=λ_ _=>by kernel_rfl
def cf139:CF 139:=λ_ _=>by kernel_rfl
def cf140:CF 140:=λ_ _=>by kernel_rfl
def cf147:CF 147:=λ_ _=>by kernel_rfl
def cf148:CF 148:=λ_ _=>by kernel_rfl
def cf149:CF 149:=λ_ _=>by kernel_rfl
def cf150:CF 150:=λ_ _=>by kernel_rfl
def cf151:CF 151:=λ_ _=>by kernel_rfl
def cf152:CF 152:=λ_ _=>by kernel_rfl
def cf153:CF 153:=λ_ _=>by kernel_rfl
def cf154:CF 154:=λ_ _=>by kernel_rfl
def cf155:CF 155:=λ_ _=>by kernel_rfl
def cf156:CF 156:=λ_ _=>by kernel_rfl
def cf157:CF 157:=λ_ _=>by kernel_rfl
def cf158:CF 158:=λ_ _=>by kernel_rfl
def cf164:CF 164:=λ_ _=>by kernel_rfl
def cf165:CF 165:=λ_ _=>by kernel_rfl
def cf166:CF 166:=λ_ _=>by kernel_rfl
def cf167:CF 167:=λ_ _=>by kernel_rfl
def cf168:CF 168:=λ_ _=>by kernel_rfl
def cf172:CF 172:=λ_ _=>by kernel_rfl
def cf173:CF 173:=λ_ _=>by kernel_rfl
def cf174:CF 174:=λ_ _=>by kernel_rfl
def cf175:CF 175:=λ_ _=>by kernel_rfl
def cf203:CF 203:=λ_ _=>by kernel_rfl
def cf204:CF 204:=λ_ _=>by kernel_rfl
def cf205:CF 205:=λ_ _=>by kernel_rfl
def cf206:CF 206:=λ_ _=>by kernel_rfl
def cf207:CF 207:=λ_ _=>by kernel_rfl
def cf219:CF 219:=λ_ _=>by kernel_rfl
def mixed:Tryz.prog.follows .mixedOrders=true:=by kernel_rfl
def inf3:Tryz.prog.info? 3=some Tryz.t3/\Tryz.t3.zero=some (.int .i64 0)/\Tryz.t3.size=1/\Tryz.t3.bytes=8/\Array.size (Value.cells (.int .i64 0))=1:=⟨by kernel_rfl,rfl,rfl,rfl,rfl⟩
def inf4:Tryz.prog.info? 4=some Tryz.t4/\Tryz.t4.zero=some (.bool false)/\Tryz.t4.size=1/\Tryz.t4.bytes=1/\Array.size (Value.cells (.bool false))=1:=⟨by kernel_rfl,rfl,rfl,rfl,rfl⟩
def inf43:Tryz.prog.info? 43=some Tryz.t43/\Tryz.t43.zero=some (.agg #[.int .i64 0,.slice none 0 0])/\Tryz.t43.size=2/\Tryz.t43.bytes=32/\Array.size (Value.cells (.agg #[.int .i64 0,.slice none 0 0]))=2:=⟨by kernel_rfl,rfl,rfl,rfl,rfl⟩
def inf49:Tryz.prog.info? 49=some Tryz.t49/\Tryz.t49.zero=some (.agg #[.int .i64 0,.int .i64 0,.slice none 0 0,.int .i64 0,.int .i64 0,.string (ByteArray.mk #[]),.string (ByteArray.mk #[]),.int .i64 0,.int .i64 0])/\Tryz.t49.size=9/\Tryz.t49.bytes=104/\Array.size (Value.cells (.agg #[.int .i64 0,.int .i64 0,.slice none 0 0,.int .i64 0,.int .i64 0,.string (ByteArray.mk #[]),.string (ByteArray.mk #[]),.int .i64 0,.int .i64 0]))=9:=⟨by kernel_rfl,rfl,rfl,rfl,rfl⟩
def Qkp:Tryz.prog.info? 59=some Tryz.t59/\Tryz.t59.zero=some (.agg #[.int .i64 0,.int .i64 0,.string (ByteArray.mk #[]),.int .i64 0])/\Tryz.t59.size=4/\Tryz.t59.bytes=40/\Array.size (Value.cells (.agg #[.int .i64 0,.int .i64 0,.string (ByteArray.mk #[]),.int .i64 0]))=4:=⟨by kernel_rfl,rfl,rfl,rfl,rfl⟩
def Qir:Tryz.prog.info? 130=some Tryz.t130/\Tryz.t130.zero=some (.agg #[.int .i64 0,.int .i64 0])/\Tryz.t130.size=2/\Tryz.t130.bytes=16/\Array.size (Value.cells (.agg #[.int .i64 0,.int .i64 0]))=2:=⟨by kernel_rfl,rfl,rfl,rfl,rfl⟩
def inf132:Tryz.prog.info? 132=some Tryz.t132/\Tryz.t132.zero=some (.agg #[.int .i64 0,.int .i64 0,.int .i64 0])/\Tryz.t132.size=3/\Tryz.t132.bytes=24/\Array.size (Value.cells (.agg #[.int .i64 0,.int .i64 0,.int .i64 0]))=3:=⟨by kernel_rfl,rfl,rfl,rfl,rfl⟩
def inf184:Tryz.prog.info? 184=some Tryz.t184/\Tryz.t184.zero=some (.agg #[.int .i64 0,.int .i32 0])/\Tryz.t184.size=2/\Tryz.t184.bytes=16/\Array.size (Value.cells (.agg #[.int .i64 0,.int .i32 0]))=2:=⟨by kernel_rfl,rfl,rfl,rfl,rfl⟩
def inf194:Tryz.prog.info? 194=some Tryz.t194/\Tryz.t194.zero=some (.agg #[.int .i64 0,.int .i64 0,.int .i64 0,.int .i64 0,.int .i64 0,.int .i64 0,.int .i64 0,.int .i64 0,.int .i64 0,.int .i64 0,.int .i64 0,.int .i64 0])/\Tryz.t194.size=12/\Tryz.t194.bytes=96/\Array.size (Value.cells (.agg #[.int .i64 0,.int .i64 0,.int .i64 0,.int .i64 0,.int .i64 0,.int .i64 0,.int .i64 0,.int .i64 0,.int .i64 0,.int .i64 0,.int .i64 0,.int .i64 0]))=12:=⟨by kernel_rfl,rfl,rfl,rfl,rfl⟩
end Go.Proofs.YtligcbdjiolamaaGreatDoor
end
section
namespace Go.Z
open Go.RowKit
def bindl:QM->QL->QI->QI
 |p::ps,v::vs,l=>bindl ps vs ((p,v)::l)
 |_,_,l=>l
abbrev mkD (D:Nat):Deferred:={target:=.collected D,args:=#[]}
def Dfr (w:World)(D:Nat):Prop:=w.heap[D]?=some (.deferred (some []))
def Dfr.lt {w:World}{D:Nat}(h:Dfr w D):D<w.heap.size:=(Qv.1 h).1
def Dfr.ch {w w':World}{D:Nat}{S:QM}(h:Dfr w D)(E:Ch S w w')(I:D∉S):Dfr w' D:=(E.block D h.lt I).trans h
def Ch.putObj (w:World)(r:Nat)(o:Obj):Ch [r] w (w.putObj r o):=
 ⟨rfl,rfl,rfl,by simp,λk _ E=>Wy (by simpa using E)⟩
def RP (D:Nat)(I:Nat->World->Prop)(X:Exit->World->Prop)(k:Nat)(W:World)(e:Exit)(W':World):Prop:=
 (∃S,Ch S W W'/\D∉S/\D+1∉S)/\match e with
  | .normal=>I (k+1) W'
  | .ret=>X .ret W'
  | .exit id=>X (.exit id) W'
  |_=>False
def RQ (D:Nat)(I:Nat->World->Prop)(X:Exit->World->Prop)(k:Nat)(W:World):QG:=λe _ W'=>RP D I X k W e W'
def RQ.pq {D:Nat}{I:Nat->World->Prop}{X:Exit->World->Prop}{k:Nat}{W:World}:Pq (RQ D I X k W):=λ_ _ _ _ _ h=>h
section
variable {P:QR}{Q:QG}{a:Act}{w:World}{n:Nat}{ds:List Deferred}{l:QI}
def bind_fr: ∀(ps:QM) (args:QL) {l:QI} {t:Array Value},(∀p,p∈ps->p<n)->Fr ⟨t,[]⟩ n [] l->Fr ⟨(ps.zip args).foldl (λt (p,v)=>t.setIfInBounds p v) t,[]⟩ n [] (bindl ps args l)
 | [],_,_,_,_,h=>h
 |_::_,[],_,_,_,h=>h
 |p::ps,v::args,_,_,hp,h=>bind_fr ps args (λq hq=>hp q (Qf _ hq)) (h.put (d:=p) (hp p (Qh ..)) v)
section
variable {r:QN}
def blockn {id:Nat}{c:Code}(h: ∀Q':QG,(∀a w,Q .normal a w->Q' .normal a w)->(∀a w,Q .normal a w->Q' (.exit id) a w)->(∀e a w,e≠ .normal->e≠ .exit id->Q e a w->Q' e a w)->WP r P c Q' a w):WP r P (Code.block id c) Q a w:=by
 refine wpIn_block (h (Exit.inBlock id Q) (λ_ _ h=>h) (λa w hq=>?_) (λe a w h1 h2 hq=>?_));simp[Exit.inBlock,hq];cases e<;>first|exact hq|(rename_i i;have:i≠id:=λe=>h2 (by rw[e]);simp[Exit.inBlock,this,hq])
end
section
variable {d:Option Tmp}{T:QQ}{pos:String}{af:Array Edge}{gd:Option (Nat×Bool)}{t ty:QQ}{x:Operand}{fn:Fn}{f c:Array Value}{p q:Array QQ}{va:Bool}
def r_eqfn (E:P.underlying t=some (.func p q va))(hx:a.eval x=.func fn f c):(execOp a.eval ⟨d,.binOp .eql t x (.const .nilFunc) ty,T,pos,af,gd⟩).run P w=.ok (.value (.bool false)) w:=by
 have I:a.eval (.const .nilFunc)=.nilFunc:=rfl;have h: ∀m,(Op.equalIn (m+1) t (.func fn f c) .nilFunc).run P w=.ok false w:=λm=>by simp[Op.equalIn,Ql E]
 have h2:(Op.equal t (.func fn f c) .nilFunc).run P w=.ok false w:=h 9999;simp[execOp,hx,I,eqGuard,binOp,h2]
end
def enterM {f:FuncId}{fn:Func}{c:Code}{vs:QL}{m:Nat}{R:Ending->World->Prop}(E:P.funcs[f]?=some fn)(I:fn.body=some c)(J:fn.ntmps=m)(N:vs.length<=m)
  (h: ∀a,Fr a m [] (argl vs 0)->WP none P c (bodyPostM (FW none) 0 P fn R) a w):Calls P f vs.toArray w R:=by
 refine callsIn_wide.1 (callsIn_of_wp_marks (F:=FW none) (n:=0) E I trivial (h _ ?_));subst J;exact Fr.entry vs _ N
def marks:QM->List Deferred
 | []=>[]
 |D::r=>mkD D::marks r
def leavesM {fn:Func}{R:Ending->World->Prop}: ∀{Ds:QM} {w:World} {tmps:Array Value},(∀D,D∈Ds->Dfr w D)->Ds.Nodup->(∀w',Ch Ds w w'->w'.heap.size=w.heap.size->∃v,(results fn tmps).run P w'=.ok v w'/\R (.returned v) w')->
  LeavesInM (FW none) 0 P fn tmps R (marks Ds) .returning w
 | [],w,tmps,_,_,h=>by
  obtain⟨v,h1,h2⟩:=h w (Ch.refl w) rfl;exact⟨v,h1,h2⟩
 |D::Ds,w,tmps,E,I,h=>by
  refine⟨by simp,.inl ⟨D,_,rfl,run_takeDeferred (E D (Qh ..)),leavesM (λD' hD'=>?_) (Xb.1 I).2 λw' J N=>h w' ?_ (by rw[N];simp)⟩⟩;exact(E D' (Qf _ hD')).ch (Ch.putObj _ _ _) (by simp only[Qq];rintro rfl;exact(Xb.1 I).1 hD');exact(Ch.putObj w D _).then J (λi hi=>.inl (by simp at hi;simp[hi])) (λi hi=>.inl (Qf _ hi))
def retM {fn:Func}{R:Ending->World->Prop}{Ds:QM}(E:Fr a n (marks Ds) l)(I: ∀D,D∈Ds->Dfr w D)(J:Ds.Nodup)
  (h: ∀w',Ch Ds w w'->w'.heap.size=w.heap.size->∃v,(results fn a.tmps).run P w'=.ok v w'/\R (.returned v) w'):bodyPostM (FW none) 0 P fn R .ret a w:=by
 show LeavesInM _ _ _ _ _ _ a.defers _ _;rw[E.defs];exact leavesM I J h
def res1 {fn:Func}{t:Nat}{v:Value}(E:Fr a n ds l)(h:fn.results=#[.tmp t])(I:lk l t=some v)(w:World):(results fn a.tmps).run P w=.ok v w:=by
 rw[results_tmp h];exact Wq (λx=>Result.ok x w) (E.eval (x:=.tmp t) I)
def res0 {fn:Func}(h:fn.results=#[])(w:World):(results fn a.tmps).run P w=.ok (.tuple #[]) w:=results_none h _ _ _
end
section
variable {r:QN}{P:QR}{ops:QU}{Q:QG}{a:Act}{w:World}{rest:QT}{n:Nat}{ds:List Deferred}{l:QI}
def callY {d:Nat}{T:QQ}{pos:String}{af:Array Edge}{c:Operand}{xs:List Operand}{ts:Array QQ}{lid:Nat}{vs:QL}{R:Ending->World->Prop}(E:Fr a n ds l)(I:Nat.ble (d+1) n=true)
  (J:ev l c=some (.func (.yield lid) #[] #[])) (hx:evs l xs=some vs) (N:YieldAt (FW none) 0 P lid vs.toArray w R) (h: ∀e w',R e w'->∃v,e=.returned v/\∀a',Fr a' n ds ((d,v)::l)->WL none P ops Q rest a' w'):
  WL none P ops Q (⟨some d,.call {callee:=.value c,args:=xs.toArray,argTypes:=ts},T,pos,af,none⟩::rest) a w:=by
 obtain⟨fn,tmps,assign,body,W,Y⟩:=N;have h1:=E.evals xs hx;have h2:=E.eval J;refine stepw (x:=.round lid fn tmps assign body) (w':=w) rfl ?_ (λ_ h=>by cases h) λK hK=>⟨(λh=>by cases h),Y.mono λe w' he=>?_⟩;simp only[execOp,resolve,h1,h2];simp[Deferred.ofValue,invoke,W];obtain⟨v,rfl,hv⟩:=h e w' he;exact hK _ _ (hv _ (E.put (Qm I) v))
end
structure Ky (P:QR) (kt:QQ) {κ:Type} [DecidableEq κ] (enc:κ->Value):Prop where
 check: ∀b k w,(Instr.checkKey b 10000 kt (enc k)).run P w=.ok () w
 eq: ∀a b w,(Op.equal kt (enc a) (enc b)).run P w=.ok (decide (a=b)) w
 now: ∃d,P.underlying kt=some d/\((∀a b,Instr.sameNow d (enc a) (enc b)=some (decide (a=b)))\/(∀a b,Instr.sameNow d (enc a) (enc b)=none))
 bits: ∀a,Instr.sameBits 10000 (enc a) (enc a)=true
section
variable {κ:Type}[DecidableEq κ]{α:Type}
def loc (k:κ):List κ->QN
 | []=>none
 |a::r=>if k=a then some 0 else(loc k r).map (· +1)
def mget (z:α):List (κ×α)->κ->α
 | [],_=>z
 |(a,x)::r,k=>if k=a then x else mget z r k
def mhas:List (κ×α)->κ->Bool
 | [],_=>false
 |(a,_)::r,k=>if k=a then true else mhas r k
def mins:List (κ×α)->κ->α->List (κ×α)
 | [],k,x=>[(k,x)]
 |(a,y)::r,k,x=>if k=a then(a,x)::r else(a,y)::mins r k x
def mget_ins (z:α)(m:List (κ×α))(k j:κ)(x:α):mget z (mins m k x) j=if j=k then x else mget z m j:=by
 induction m with
 |nil=>simp[mins,mget]
 |cons p r ih=>
  obtain⟨a,y⟩:=p;unfold mins;by_cases h:k=a;subst h;rw[Qc rfl];simp only[mget];by_cases E:j=k;rw[Qc E,Qc E];rw[Qb E,Qb E,Qb E];rw[Qb h];simp only[mget,ih];by_cases E:j=a;subst E;rw[Qc rfl,Qb (λe=>h e.symm),Qc rfl];rw[Qb E,Qb E]
def mget_none {z:α}{m:List (κ×α)}{k:κ}(h:mhas m k=false):mget z m k=z:=by
 induction m with
 |nil=>rfl
 |cons p r ih=>
  obtain⟨a,y⟩:=p;simp only[mhas]at h;by_cases hk:k=a;simp[hk]at h;rw[Qb hk]at h;simp only[mget];rw[Qb hk];exact ih h
def mget_mem {z:α}{m:List (κ×α)}{k:κ}(h:mhas m k=true):(k,mget z m k)∈m:=by
 induction m with
 |nil=>simp[mhas]at h
 |cons p r ih=>
  obtain⟨a,y⟩:=p;simp only[mhas]at h;by_cases hk:k=a;subst hk;simp[mget];rw[Qb hk]at h;simp only[mget];rw[Qb hk];exact Qf _ (ih h)
def mget_get {z:α}{m:List (κ×α)}{i:Nat}{p:κ×α}(I:(m.map Prod.fst).Nodup)(h:m[i]?=some p):mget z m p.1=p.2/\mhas m p.1=true:=by
 induction m generalizing i with
 |nil=>simp at h
 |cons q r ih=>
  obtain⟨a,y⟩:=q;rw[Wc,Xb]at I;cases i with
  |zero=>simp at h;subst h;simp[mget,mhas]
  |succ i=>
   rw[Ww]at h;have E:p.1≠a:=λe=>I.1 (by rw[<-e];exact W5.2 ⟨p,Qu h,rfl⟩);simp only[mget,mhas];rw[Qb E,Qb E];exact ih I.2 h
def mins_keys (m:List (κ×α))(k:κ)(x:α):(mins m k x).map Prod.fst=if mhas m k then m.map Prod.fst else m.map Prod.fst++[k]:=by
 induction m with
 |nil=>simp[mins,mhas]
 |cons p r ih=>
  obtain⟨a,y⟩:=p;unfold mins;by_cases h:k=a;subst h;simp[mhas];rw[Qb h];simp only[Wc,ih,mhas,Qb h];split<;>simp
def mhas_iff (m:List (κ×α))(k:κ):mhas m k=true↔k∈m.map Prod.fst:=by
 induction m with
 |nil=>simp[mhas]
 |cons p r ih=>
  obtain⟨a,y⟩:=p;simp only[mhas,Wc,Qn];by_cases h:k=a;simp[h];rw[Qb h,ih];simp[h]
def mins_nodup {m:List (κ×α)}(h:(m.map Prod.fst).Nodup)(k:κ)(x:α):((mins m k x).map Prod.fst).Nodup:=by
 rw[mins_keys];by_cases hk:mhas m k=true;rw[Qc hk];exact h;rw[Qb hk,Xl];exact⟨h,by simp,λa I b E=>by simp at E;subst E;intro e;subst e;exact hk ((mhas_iff _ _).2 I)⟩
def Qkr (m:List (κ×α))(k:κ):loc k (m.map Prod.fst)=none↔mhas m k=false:=by
 induction m with
 |nil=>simp[loc,mhas]
 |cons p r ih=>
  obtain⟨a,y⟩:=p;simp only[Wc,loc,mhas];by_cases h:k=a;simp[h];rw[Qb h,Qb h,Option.map_eq_none_iff,ih]
def Qhu {m:List (κ×α)}{k:κ}{i:Nat}(h:loc k (m.map Prod.fst)=some i)(z:α):m[i]?=some (k,mget z m k):=by
 induction m generalizing i with
 |nil=>simp[loc]at h
 |cons p r ih=>
  obtain⟨a,y⟩:=p;simp only[Wc,loc]at h;by_cases hk:k=a;subst hk;simp at h;subst h;simp[mget];rw[Qb hk,Jy]at h;obtain⟨j,E,rfl⟩:=h;simp only[Ww,mget];rw[Qb hk];exact ih E
def Qbz {m:List (κ×α)}{k:κ}(x:α):mins m k x=match loc k (m.map Prod.fst)with
  |some i=>m.modify i λp=>(p.1,x)
  |none=>m++[(k,x)]:=by
 induction m with
 |nil=>simp[mins,loc]
 |cons p r ih=>
  obtain⟨a,y⟩:=p;simp only[Wc,loc,mins];by_cases hk:k=a;subst hk;simp;rw[Qb hk,Qb hk,ih];cases loc k (r.map Prod.fst)<;>simp
end
section
variable {P:QR}{kt:QQ}{κ:Type}[DecidableEq κ]{enc:κ->Value}
def Qdo {d:TypeDesc}(h: ∀a b,Instr.sameNow d (enc a) (enc b)=some (decide (a=b)))(k:κ): ∀(es:List MapEntry) (ks:List κ) (n:Nat),es.map (·.key)=ks.map enc->
  Instr.findNow d (enc k) es n=some ((loc k ks).bind λi=>(es[i]?).map λe=>(n+i,e.val))
 | [],[],n,_=>rfl
 | [],_::_,_,h=>by cases h
 |_::_,[],_,h=>by cases h
 |e::es,a::ks,n,hk=>by
  simp only[Wc,Ym]at hk;unfold Instr.findNow;rw[hk.1,h];by_cases E:k=a;simp[loc,E];simp only[E,decide_false,loc,Wd];rw[Qdo h k es ks (n+1) hk.2];cases loc k ks with
  |none=>rfl
  |some i=>simp[Xn,Y6 1 i]
def Qcg (h: ∀a b w,(Op.equal kt (enc a) (enc b)).run P w=.ok (decide (a=b)) w)(k:κ)(w:World): ∀(es:List MapEntry) (ks:List κ) (n:Nat),es.map (·.key)=ks.map enc->
  (Instr.findAsking kt (enc k) es n).run P w=.ok ((loc k ks).bind λi=>(es[i]?).map λe=>(n+i,e.val)) w
 | [],[],n,_=>rfl
 | [],_::_,_,h=>by cases h
 |_::_,[],_,h=>by cases h
 |e::es,a::ks,n,hk=>by
  simp only[Wc,Ym]at hk;unfold Instr.findAsking;rw[Qp,hk.1,h,Qi];by_cases E:k=a;simp[loc,E];simp only[E,decide_false,loc,Wd,Q3];rw[Qcg h k w es ks (n+1) hk.2];cases loc k ks with
  |none=>rfl
  |some i=>simp[Xn,Y6 1 i]
def Qci (K:Ky P kt enc)(k:κ)(w:World)(es:List MapEntry)(ks:List κ)(h:es.map (·.key)=ks.map enc):
  (Instr.findKey kt (enc k) es).run P w=.ok ((loc k ks).bind λi=>(es[i]?).map λe=>(i,e.val)) w:=by
 obtain⟨d,I,E⟩:=K.now;unfold Instr.findKey;rw[Qp,Ql I,Qi];rcases E with E|E
 rw[Qdo E k es ks 0 h];simp only[Qs,Wl];cases es with
 |nil=>
  cases ks with
  |nil=>rfl
  |cons a ks=>cases h
 |cons e es=>
  have:Instr.findNow d (enc k) (e::es) 0=none:=by
   cases ks with
   |nil=>cases h
   |cons a ks=>
    simp only[Wc,Ym]at h;unfold Instr.findNow;rw[h.1,E]
  rw[this];have:=Qcg K.eq k w (e::es) ks 0 h;simpa using this
end
def MapC (w:World)(b:Nat)(es:List (Value×Value)):Prop:=
 ∃(arr:List MapEntry) (clock:Nat),w.heap[b]?=some (.map arr.toArray clock)/\arr.map (λe=>(e.key,e.val))=es/\(∀e,e∈arr->e.born<clock)/\(arr.map (·.born)).Nodup
def MapC.lt {w:World}{b:Nat}{es:List (Value×Value)}(h:MapC w b es):b<w.heap.size:=by obtain⟨_,_,h,_⟩:=h;exact(Qv.1 h).1
def MapC.ch {w w':World}{b:Nat}{es:List (Value×Value)}{S:QM}(h:MapC w b es)(E:Ch S w w')(I:b∉S):MapC w' b es:=by
 have J:=h.lt;obtain⟨arr,c,h1,h2⟩:=h;exact⟨arr,c,(E.block b J I).trans h1,h2⟩
def vof (agg:Bool)(cs:QL):Value:=bif agg then .agg cs.toArray else cs.headD undef
def Mt {κ:Type}(enc:κ->Value)(t:Ty)(agg:Bool)(w:World)(F:Nat->Prop)(b:Nat)(m:List (κ×t.den)):Prop:=
 ∃es,MapC w b es/\es.length=m.length/\∀(i:Nat) (p:κ×t.den),m[i]?=some p->∃cs,es[i]?=some (enc p.1,vof agg cs)/\t.rep w F cs p.2
section
variable {κ:Type}{enc:κ->Value}{t:Ty}{agg:Bool}{w w':World}{F F':Nat->Prop}{b:Nat}{m:List (κ×t.den)}
def Mt.lt (h:Mt enc t agg w F b m):b<w.heap.size:=by obtain⟨_,h,_⟩:=h;exact h.lt
def Mt.to {S:QM}(h:Mt enc t agg w F b m)(E:Ch S w w')(I:b∉S)(J: ∀b,F b->b<w.heap.size->b∉S/\F' b):Mt enc t agg w' F' b m:=by
 obtain⟨es,h1,h2,N⟩:=h;refine⟨es,h1.ch E I,h2,λi p hp=>?_⟩;obtain⟨cs,W,Y⟩:=N i p hp;exact⟨cs,W,rep_to Y E J⟩
end
section
variable {r:QN}{P:QR}{ops:QU}{Q:QG}{a:Act}{w:World}{rest:QT}{n:Nat}{ds:List Deferred}{l:QI}{d:Nat}{T:QQ}{pos:String}{af:Array Edge}
variable {κ:Type}{enc:κ->Value}{tt:QQ}{t:Ty}{agg:Bool}{F:Nat->Prop}{m:List (κ×t.den)}
def st_makeMap {x:Option Operand}(hx:x=none)(E:Fr a n ds l)(I:Nat.ble (d+1) n=true)(enc:κ->Value)(t:Ty)(agg:Bool)(F:Nat->Prop)
  (h: ∀g w' a',g=w.heap.size->w'.heap.size=g+1->Mt enc t agg w' F g []->Ch [] w w'->Fr a' n ds ((d,.map (some g))::l)->WL r P ops Q rest a' w'):
  WL r P ops Q (⟨some d,.makeMap tt x,T,pos,af,none⟩::rest) a w:=by
 subst hx;refine valw (w':=w.alloc (.map #[] 0)) (v:=.map (some w.heap.size)) E I (by simp[execOp,Instr.makeMap]) λa' hf'=>h _ _ a' rfl (by simp) ⟨[],⟨[],0,heap_alloc_new w _,rfl,by simp,by simp⟩,rfl,λi p hp=>by simp at hp⟩ (Ch.alloc w _) hf'
def keys_of {arr:List MapEntry}{es:List (Value×Value)}(h1:arr.map (λe=>(e.key,e.val))=es)(W:es.length=m.length)(I: ∀(i:Nat) (p:κ×t.den),m[i]?=some p->∃cs,es[i]?=some (enc p.1,vof agg cs)/\t.rep w F cs p.2):arr.map (·.key)=(m.map Prod.fst).map enc:=by
 have J:arr.map (·.key)=es.map Prod.fst:=by rw[<-h1,Ve];rfl
 rw[J];refine Xf λi=>?_;simp only[Q0];cases E:m[i]? with
 |none=>
  have:=Jk.1 E;rw[Wh (by omega)];rfl
 |some p=>
  obtain⟨cs,N,_⟩:=I i p E;rw[N];rfl
end
section
variable {r:QN}{P:QR}{ops:QU}{Q:QG}{a:Act}{w:World}{rest:QT}{n:Nat}{ds:List Deferred}{l:QI}{d:Nat}{T:QQ}{pos:String}{af:Array Edge}
variable {κ:Type}[DecidableEq κ]{enc:κ->Value}{kt et tt:QQ}{t:Ty}{agg:Bool}{F:Nat->Prop}{b:Nat}{m:List (κ×t.den)}
def run_lookup {x:Value}{zs:QL}(K:Ky P kt enc)(ht:P.underlying tt=some (.map kt et))(hz: ∀w,(zeroValue et).run P w=.ok (vof agg zs) w){z:t.den}(N:t.rep w F zs z)(hm:Mt enc t agg w F b m)(hx:x=.map (some b))(k:κ)(ok:Bool):
  ∃cs,(Instr.lookup tt x (enc k) ok).run P w=.ok (if ok then .tuple #[vof agg cs,.bool (mhas m k)]else vof agg cs) w/\t.rep w F cs (mget z m k):=by
 subst hx;obtain⟨es,⟨arr,clock,hb,h1,_⟩,hl,h3⟩:=hm;have hk:=keys_of h1 hl h3;have hfind:=Qci K k w arr (m.map Prod.fst) hk;have hget:(getObj b).run P w=.ok (.map arr.toArray clock) w:=by simp[getObj,Sem.run,hb]
 cases hloc:loc k (m.map Prod.fst)with
 |none=>
  rw[hloc]at hfind;have I:=(Qkr m k).1 hloc;refine⟨zs,?_,by rw[mget_none I];exact N⟩;simp only[Instr.lookup,Qp,Ql ht,Qi,hget,Qs,K.check,hfind,Option.bind_none,hz,I]
 |some i=>
  rw[hloc]at hfind;have W:=Qhu hloc z;obtain⟨cs,E,h5⟩:=h3 i _ W;have I:mhas m k=true:=by
   cases hc:mhas m k with
   |true=>rfl
   |false=>rw[(Qkr m k).2 hc]at hloc;cases hloc
  have harr: ∃e,arr[i]?=some e/\e.val=vof agg cs:=by
   rw[<-h1,Q0]at E;cases J:arr[i]? with
   |none=>rw[J]at E;cases E
   |some e=>rw[J]at E;injection E with E;injection E with _ E;exact⟨e,rfl,E⟩
  obtain⟨e,J,Y⟩:=harr;refine⟨cs,?_,h5⟩;simp only[Instr.lookup,Qp,Ql ht,Qi,hget,Qs,K.check,hfind,Qa,J,Wo,Y,I]
def st_lookup {x y:Operand}(E:Fr a n ds l)(J:Nat.ble (d+1) n=true)(K:Ky P kt enc)(N:P.underlying tt=some (.map kt et)){zs:QL}(W: ∀w,(zeroValue et).run P w=.ok (vof agg zs) w)(z:t.den)(I:t.rep w F zs z)(Y:Mt enc t agg w F b m)
  (hx:ev l x=some (.map (some b))) (k:κ) (hy:ev l y=some (enc k))
  (h: ∀cs a',t.rep w F cs (mget z m k)->Fr a' n ds ((d,vof agg cs)::l)->WL r P ops Q rest a' w):WL r P ops Q (⟨some d,.lookup tt x y false,T,pos,af,none⟩::rest) a w:=by
 obtain⟨cs,h1,h2⟩:=run_lookup (zs:=zs) K N W I Y rfl k false;refine valw (w':=w) (v:=vof agg cs) E J ?_ λa' hf'=>h cs a' h2 hf';simp only[execOp,E.eval hx,E.eval hy,Qp,h1,Qi,Qs,Q3,Wd]
def st_lookup2 {x y:Operand}(E:Fr a n ds l)(J:Nat.ble (d+1) n=true)(K:Ky P kt enc)(N:P.underlying tt=some (.map kt et)){zs:QL}(W: ∀w,(zeroValue et).run P w=.ok (vof agg zs) w)(z:t.den)(I:t.rep w F zs z)(Y:Mt enc t agg w F b m)
  (hx:ev l x=some (.map (some b))) (k:κ) (hy:ev l y=some (enc k))
  (h: ∀cs a',t.rep w F cs (mget z m k)->Fr a' n ds ((d,.tuple #[vof agg cs,.bool (mhas m k)])::l)->WL r P ops Q rest a' w):WL r P ops Q (⟨some d,.lookup tt x y true,T,pos,af,none⟩::rest) a w:=by
 obtain⟨cs,h1,h2⟩:=run_lookup (zs:=zs) K N W I Y rfl k true;refine valw (w':=w) (v:=.tuple #[vof agg cs,.bool (mhas m k)]) E J ?_ λa' hf'=>h cs a' h2 hf';simp only[execOp,E.eval hx,E.eval hy,Qp,h1,Qi,Qs,Xo]
def MapC.set {arr:List MapEntry}{clock:Nat}{b:Nat}{w:World}(E:w.heap[b]?=some (.map arr.toArray clock))(o:Obj):(setObj b o).run P w=.ok () (w.putObj b o):=by
 have I:=(Qv.1 E).1;simp[setObj,Sem.run,World.putObj,E]
def Qic (K:Ky P kt enc)(ht:P.underlying tt=some (.map kt et))(hm:Mt enc t agg w F b m)(k:κ){v:Value}{cs:QL}(hv:v=vof agg cs){y:t.den}(hr:t.rep w F cs y)(hF: ∀b',F b'->b'≠b):
  ∃w',(Instr.mapUpdate tt (.map (some b)) (enc k) v).run P w=.ok () w'/\Ch [b] w w'/\w'.heap.size=w.heap.size/\Mt enc t agg w' F b (mins m k y):=by
 subst hv;have W:=hm.lt;obtain⟨es,⟨arr,clock,hb,h1,h4,h5⟩,Y,h3⟩:=hm;have hk:=keys_of h1 Y h3;have hfind:=Qci K k w arr (m.map Prod.fst) hk;have hget:(getObj b).run P w=.ok (.map arr.toArray clock) w:=by simp[getObj,Sem.run,hb]
 have hlen:arr.length=m.length:=by rw[<-Y,<-h1,W6]
 have step: ∀o,∀cs' x,t.rep w F cs' x->t.rep (w.putObj b o) F cs' x:=λo cs' x h=>rep_to h (Ch.putObj w b o) λb' hb' _=>⟨by simp only[Qq];exact hF b' hb',hb'⟩;cases hloc:loc k (m.map Prod.fst)with
 |none=>
  rw[hloc]at hfind;refine⟨w.putObj b (.map (arr.toArray.push {key:=enc k,val:=vof agg cs,born:=clock}) (clock+1)),?_,Ch.putObj w b _,by simp,?_⟩;simp only[Instr.mapUpdate,Qp,Ql ht,Qi,hget,K.check,hfind,Option.bind_none,MapC.set hb];rw[Qbz,hloc];refine⟨es++[(enc k,vof agg cs)],⟨arr++[{key:=enc k,val:=vof agg cs,born:=clock}],clock+1,?_,by simp[h1],?_,?_⟩,by simp[Y],λi p hp=>?_⟩;have:=Wm (o:=.map (arr.toArray.push {key:=enc k,val:=vof agg cs,born:=clock}) (clock+1)) W;simpa using this;intro e I;rcases Q8.1 I with I|I
  have:=h4 e I;omega;simp at I;subst I;simp;rw[Xc,Xl];refine⟨h5,by simp,λx hx y hy=>?_⟩;simp at hy;subst hy;obtain⟨e,I,rfl⟩:=W5.1 hx;have:=h4 e I;omega;by_cases hi:i<m.length;rw[Wn hi]at hp;obtain⟨cs',h6,h7⟩:=h3 i p hp;exact⟨cs',by rw[Wn (by omega)];exact h6,step _ _ _ h7⟩;rw[W9 (by omega)]at hp;have hi0:i-m.length=0:=by
   have:=(Qe.1 hp).1;simp at this;omega
  rw[hi0]at hp;simp at hp;subst hp;exact⟨cs,by rw[W9 (by omega),Y,hi0];rfl,step _ _ _ hr⟩
 |some i=>
  rw[hloc]at hfind;have J:=Qhu hloc y;have hil:=(Qe.1 J).1;obtain⟨e,I⟩: ∃e,arr[i]?=some e:=⟨_,Qj (by omega)⟩;have hek:e.key=enc k:=by
   have h6:(arr.map (·.key))[i]?=some e.key:=by rw[Q0,I];rfl
   rw[hk,Q0,Q0,J]at h6;simpa using h6.symm
  have hstay:(Instr.keyThatStays (enc k) (enc k)).run P w=.ok (enc k) w:=by simp[Instr.keyThatStays,K.bits]
  refine⟨w.putObj b (.map (arr.toArray.modify i λe=>{e with key:=enc k,val:=vof agg cs}) clock),?_,Ch.putObj w b _,by simp,?_⟩;simp only[Instr.mapUpdate,Qp,Ql ht,Qi,hget,K.check,hfind,Qa,I,Wo,Wv,Y0,hek,hstay,MapC.set hb];rw[Qbz,hloc];have hmod:(arr.toArray.modify i λe=>{e with key:=enc k,val:=vof agg cs})=(arr.modify i λe=>{e with key:=enc k,val:=vof agg cs}).toArray:=by simp
  refine⟨es.modify i λ_=>(enc k,vof agg cs),⟨arr.modify i λe=>{e with key:=enc k,val:=vof agg cs},clock,?_,?_,?_,?_⟩,by simp[Y],λj p hp=>?_⟩;have:=Wm (o:=.map (arr.toArray.modify i λe=>{e with key:=enc k,val:=vof agg cs}) clock) W;rw[<-hmod];exact this;rw[<-h1];refine Xf λj=>?_;simp only[Q0,Xa];by_cases E:i=j;subst E;simp[I];simp[E];intro e' he';obtain⟨j,N⟩:=Xm.1 he';rw[Xa]at N;cases ha:arr[j]? with
  |none=>rw[ha]at N;simp at N
  |some e0=>
   rw[ha]at N;have hb0:=h4 e0 (Qu ha);simp only[Yu,Wo,Qg]at N;subst N;split<;>exact hb0
  have:(arr.modify i λe=>{e with key:=enc k,val:=vof agg cs}).map (·.born)=arr.map (·.born):=by
   refine Xf λj=>?_;simp only[Q0,Xa];cases arr[j]? with
   |none=>rfl
   |some e0=>simp only[Yu,Wo,Qg];split<;>rfl
  rw[this];exact h5;rw[Xa]at hp;by_cases E:i=j;subst E;rw[J]at hp;simp at hp;subst hp;refine⟨cs,?_,step _ _ _ hr⟩;rw[Xa];have:es[i]?=some es[i]:=Qj (by omega);simp[this];have hp':m[j]?=some p:=by
   cases hmj:m[j]? with
   |none=>rw[hmj]at hp;simp at hp
   |some q=>rw[hmj]at hp;simpa[E] using hp
  obtain⟨cs',h6,h7⟩:=h3 j p hp';refine⟨cs',?_,step _ _ _ h7⟩;rw[Xa,h6];simp[E]
def st_mapUpdate {x y v:Operand}(E:Fr a n ds l)(K:Ky P kt enc)(I:P.underlying tt=some (.map kt et))(J:Mt enc t agg w F b m)(hx:ev l x=some (.map (some b)))(k:κ)(N:ev l y=some (enc k)){cs:QL}(W:ev l v=some (vof agg cs)){u:t.den}(Y:t.rep w F cs u)(hF: ∀b',F b'->b'≠b)
  (h: ∀w' a',Ch [b] w w'->w'.heap.size=w.heap.size->Mt enc t agg w' F b (mins m k u)->Fr a' n ds l->WL r P ops Q rest a' w'):WL r P ops Q (⟨none,.mapUpdate tt x y v,T,pos,af,none⟩::rest) a w:=by
 obtain⟨w',h1,h2,h3,h4⟩:=Qic K I J k rfl Y hF;refine skipw (w':=w') E ?_ λa' hf'=>h _ a' h2 h3 h4 hf';simp only[execOp,E.eval hx,E.eval N,E.eval W,Qp,h1,Qi,Qs]
end
def bbeq (x:ByteArray):(x==x)=true:=by cases x;exact beq_self_eq_true (α:=Array UInt8) _
section
variable {P:QR}{kt:QQ}
def Ky.mkInt {k:IntKind}(h:P.underlying kt=some (.int k)):Ky P kt (λi:Int=>.int k i):=
 ⟨λb _ w=>by show(Instr.checkKey b (9999+1) kt _).run P w=_;unfold Instr.checkKey;simp only[Qp,Ql h,Qi,Qs],λ_ _ w=>eq_int (d:=9999) h w,⟨_,h,.inl λa b=>by simp[Instr.sameNow];exact Bool.beq_eq_decide_eq a b⟩,λa=>by simp[Instr.sameBits]⟩
def Ky.mkAgg {κ:Type}[DecidableEq κ]{enc:κ->Value}{d:TypeDesc}(h:P.underlying kt=some d)(E: ∀a b,Instr.sameNow d (enc a) (enc b)=none)(I: ∀b k w,(Instr.checkKey b 10000 kt (enc k)).run P w=.ok () w)(J: ∀a b,EqV P 10000 kt (enc a) (enc b) (decide (a=b)))(N: ∀a,Instr.sameBits 10000 (enc a) (enc a)=true):Ky P kt enc:=
 ⟨I,λa b w=>J a b w,⟨d,h,.inr E⟩,N⟩
end
def Rg (w:World)(r b n:Nat)(seen:QM):Prop:=
 r≠b/\∃(arr:List MapEntry) (clock since:Nat) (sb:QM),w.heap[b]?=some (.map arr.toArray clock)/\arr.length=n/\w.heap[r]?=some (.mapIter (some b) since sb.toArray since)/\since=clock/\
  (∀e,e∈arr->e.born<since)/\(arr.map (·.born)).Nodup/\∀i e,arr[i]?=some e->(e.born∈sb↔i∈seen)
def Rg.ch {w w':World}{r b n:Nat}{seen:QM}{S:QM}(h:Rg w r b n seen)(E:Ch S w w')(J:r∉S)(N:b∉S):Rg w' r b n seen:=by
 obtain⟨h0,arr,clock,since,sb,h1,h2,I,W⟩:=h;exact⟨h0,arr,clock,since,sb,(E.block _ (Qv.1 h1).1 N).trans h1,h2,(E.block _ (Qv.1 I).1 J).trans I,W⟩
section
variable {r:QN}{P:QR}{ops:QU}{Q:QG}{a:Act}{w:World}{rest:QT}{n:Nat}{ds:List Deferred}{l:QI}{d:Nat}{T:QQ}{pos:String}{af:Array Edge}
def Qlf {x:Operand}{tt kt et:QQ}{b:Nat}{es:List (Value×Value)}(I:Fr a n ds l)(W:Nat.ble (d+1) n=true)(Y:P.underlying tt=some (.map kt et))(hx:ev l x=some (.map (some b)))(J:MapC w b es)
  (h: ∀g w' a',g=w.heap.size->w'.heap.size=g+1->Rg w' g b es.length []->Ch [] w w'->Fr a' n ds ((d,.pointer (some ⟨g,0,none⟩))::l)->WL r P ops Q rest a' w'):
  WL r P ops Q (⟨some d,.range tt x,T,pos,af,none⟩::rest) a w:=by
 have E:=J.lt;obtain⟨arr,clock,N,h1,h4,h5⟩:=J;have hget:(getObj b).run P w=.ok (.map arr.toArray clock) w:=by simp[getObj,Sem.run,N]
 refine valw (w':=w.alloc (.mapIter (some b) clock #[] clock)) (v:=.pointer (some ⟨w.heap.size,0,none⟩)) I W ?_ λa' hf'=>h _ _ a' rfl (by simp) ⟨by omega,arr,clock,clock,[],?_,by rw[<-h1,W6],heap_alloc_new w _,rfl,h4,h5,by simp⟩ (Ch.alloc w _) hf';simp[execOp,Instr.range,Ql Y,I.eval hx,hget];exact(heap_alloc_old w _ E).trans N
def Si (w:World)(g:Nat)(s:ByteArray)(p:Nat):Prop:=w.heap[g]?=some (.stringIter s p)
def Si.lt {w:World}{g p:Nat}{s:ByteArray}(h:Si w g s p):g<w.heap.size:=(Qv.1 h).1
def Si.ch {w w':World}{g p:Nat}{s:ByteArray}{S:QM}(h:Si w g s p)(E:Ch S w w')(I:g∉S):Si w' g s p:=(E.block g h.lt I).trans h
def st_rangeStr {x:Operand}{tt:QQ}{s:ByteArray}(E:Fr a n ds l)(I:Nat.ble (d+1) n=true)(J:P.underlying tt=some .string)(hx:ev l x=some (.string s))
  (h: ∀g w' a',g=w.heap.size->w'.heap.size=g+1->Si w' g s 0->Ch [] w w'->Fr a' n ds ((d,.pointer (some ⟨g,0,none⟩))::l)->WL r P ops Q rest a' w'):
  WL r P ops Q (⟨some d,.range tt x,T,pos,af,none⟩::rest) a w:=
 valw (w':=w.alloc (.stringIter s 0)) (v:=.pointer (some ⟨w.heap.size,0,none⟩)) E I (by simp[execOp,Instr.range,Ql J,E.eval hx]) λa' hf'=>h _ _ a' rfl (by simp) (heap_alloc_new w _) (Ch.alloc w _) hf'
def st_nextStr {x:Operand}{g p:Nat}{s:ByteArray}(E:Fr a n ds l)(J:Nat.ble (d+1) n=true)(hx:ev l x=some (.pointer (some ⟨g,0,none⟩)))(I:Si w g s p)
  (h1: ¬p<s.size->∀a',Fr a' n ds ((d,.tuple #[.bool false])::l)->WL r P ops Q rest a' w)
  (h2:p<s.size->∀w' a',Ch [g] w w'->w'.heap.size=w.heap.size->Si w' g s (p+(Utf8.decode s p).2)->Fr a' n ds ((d,.tuple #[.bool true,.int .i64 (p:Int),.int .i32 ((Utf8.decode s p).1:Int)])::l)->WL r P ops Q rest a' w'):
  WL r P ops Q (⟨some d,.next x true,T,pos,af,none⟩::rest) a w:=by
 have hget:(getObj g).run P w=.ok (.stringIter s p) w:=by simp[getObj,Sem.run,show w.heap[g]?=_ from I]
 by_cases hp:p<s.size
 ·have hset:(setObj g (.stringIter s (p+(Utf8.decode s p).2))).run P w=.ok () (w.putObj g (.stringIter s (p+(Utf8.decode s p).2))):=by simp[setObj,Sem.run,World.putObj,show w.heap[g]?=_ from I]
  refine valw (w':=w.putObj g (.stringIter s (p+(Utf8.decode s p).2))) E J ?_ λa' hf'=>h2 hp _ a' (Ch.putObj w g _) (by simp) (Wm I.lt) hf';simp only[execOp,E.eval hx,Instr.next,Qp,hget,Qi,hp,Xo,hset,Qs,goInt]
 ·refine val E J ?_ λa' hf'=>h1 hp a' hf'
  simp only[execOp,E.eval hx,Instr.next,Qp,hget,Qi,hp,Wd,Qs]
def bat (s:ByteArray)(i:Nat):UInt8:=s.data.getD i 0
def r_indexStr {d:Option Tmp}{gd:Option (Nat×Bool)}{x y:Operand}{tt:QQ}{s:ByteArray}{k:IntKind}{i:Int}{u:Nat}(I:P.underlying tt=some .string)(hx:a.eval x=.string s)(J:a.eval y=.int k i)(N:i=(u:Int))(E:u<s.size):
  (execOp a.eval ⟨d,.index tt x y,T,pos,af,gd⟩).run P w=.ok (.value (.int .u8 ((bat s u).toNat:Int))) w:=by
 subst N;have h1:s[u]?=some (bat s u):=by
  have h2:s[u]?=some (s[u]'E):=ByteArray.getElem?_lt' s u E;rw[h2];congr 1;have hl':u<s.data.size:=E;unfold bat;rw[Q1,Wg hl'];rfl
 simp[execOp,Instr.index,hx,J,asIntOf,Ql I,h1]
end
section
variable {r:QN}{P:QR}{ops:QU}{Q:QG}{a:Act}{w:World}{rest:QT}{n:Nat}{ds:List Deferred}{l:QI}{d:Nat}{T:QQ}{pos:String}{af:Array Edge}
variable {κ:Type}[DecidableEq κ]{enc:κ->Value}{kt et tt:QQ}{t:Ty}{agg:Bool}{F:Nat->Prop}{b:Nat}{m:List (κ×t.den)}
def r_lookup {d:Option Tmp}{gd:Option (Nat×Bool)}{x y:Operand}{ok:Bool}{X Y v:Value}(h:(Instr.lookup tt X Y ok).run P w=.ok v w)(hx:a.eval x=X)(E:a.eval y=Y):(execOp a.eval ⟨d,.lookup tt x y ok,T,pos,af,gd⟩).run P w=.ok (.value v) w:=by
 subst hx;subst E;simp only[execOp,Qp,h,Qi,Qs]
omit [DecidableEq κ]in
def st_rangeMt {x:Operand}(I:Fr a n ds l)(J:Nat.ble (d+1) n=true)(N:P.underlying tt=some (.map kt et))(hx:ev l x=some (.map (some b)))(W:Mt enc t agg w F b m)
  (h: ∀g w' a',g=w.heap.size->w'.heap.size=g+1->Rg w' g b m.length []->Ch [] w w'->Fr a' n ds ((d,.pointer (some ⟨g,0,none⟩))::l)->WL r P ops Q rest a' w'):
  WL r P ops Q (⟨some d,.range tt x,T,pos,af,none⟩::rest) a w:=by
 obtain⟨es,E,Y,h3⟩:=W;exact Qlf I J N hx E λg w' a' h1 h2 h4 h5 h6=>h g w' a' h1 h2 (Y▸h4) h5 h6
end
section
variable {r:QN}{P:QR}{ops:QU}{Q:QG}{a:Act}{w:World}{rest:QT}{n:Nat}{ds:List Deferred}{l:QI}{d:Nat}{T:QQ}{pos:String}{af:Array Edge}
def Qiq {α:Type}{l new:List α}{p:Nat}(hp:p+new.length<=l.length)(q:Nat):(l.take p++new++l.drop (p+new.length))[q]?=if q<p then l[q]? else if q<p+new.length then new[q-p]? else l[q]?:=by
 have h1:(l.take p).length=p:=by rw[Qx];omega
 rw[Jz];by_cases h:q<p;rw[Qc h,Wn (by omega),Wt h];rw[Qb h,W9 (by omega),h1];by_cases h2:q<p+new.length;rw[Qc h2,Wn (by omega)];rw[Qb h2,W9 (by omega),Wj];congr 1;omega
def Qhj {α:Type}(l:List α)(i sz q:Nat):((l.drop i).take sz)[q]?=if q<sz then l[i+q]? else none:=by
 rw[W8];split<;>simp[Wj]
def run_storeOwn {t:Ty}{e tt:QQ}{B:Nat}{F:Nat->Prop}{A:QK}{c:Nat}{xs:List t.den}(h:Own t e B w F A c xs){k o m:Nat}(hk:k<xs.length)(hS: ∀w,(sizeOf tt).run P w=.ok m w)(ho:o+m<=t.size){ad:Addr}(hA:A=some ad)
  {v:Value} {new es:QL} (hv:v.cells=new.toArray) (hm:new.length=m) (h1: ∀u∈new,u.oneCell'=true) (hes:Cells w (ad.add (k*t.size)) es) (hel:es.length=t.size) {y:t.den} (hy:t.rep w F (es.take o++new++es.drop (o+m)) y) (hF: ∀b,F b->b∉obl A):
  ∃w',(Instr.storeAt tt (.pointer (some ((ad.add (k*t.size)).add o))) v).run P w=.ok () w'/\Ch (obl A) w w'/\w'.heap.size=w.heap.size/\Own t e B w' F A c (xs.set k y):=by
 obtain⟨cells,⟨hl,hrow⟩,h1c,h2⟩:=h;rcases hrow with⟨I,hn⟩|⟨g,cap,cur,I,J,hg,Y,hcm,hcs,htake⟩
 injection I with hA' _ _;subst hA';cases hA
 injection I with hA' _ hc'
 subst hA';subst hc';injection hA with hA
 subst hA;subst hm;have hks:k*t.size+t.size<=xs.length*t.size:=by
  have:(k+1)*t.size<=xs.length*t.size:=Wr _ hk;rwa[Xq,Y5]at this
 have hcur:xs.length*t.size<=cur.size:=by rw[hcs];exact Wr _ Y
 have hl:cells.length=xs.length*t.size:=hl;have hcell: ∀q,q<xs.length*t.size->cur.toList[q]?=cells[q]?:=λq hq=>by rw[<-htake,Wt hq]
 have hBlk:Blk w g e cur.toList:=by unfold Blk;simpa using hg
 have hadd:((⟨g,0,none⟩:Addr).add (k*t.size)).add o=⟨g,k*t.size+o,none⟩:=by rw[Wf,Wf];simp
 have hst:=run_storeB (P:=P) (o:=k*t.size+o) hBlk hS hv rfl (by simp;omega) h1;obtain⟨cs',hcs'⟩: ∃cs',cs'=cur.toList.take (k*t.size+o)++new++cur.toList.drop (k*t.size+o+new.length):=⟨_,rfl⟩;rw[<-hcs']at hst;have hlen':cs'.length=cur.size:=by rw[hcs'];simp;omega
 have N:Ch (obl (some (⟨g,0,none⟩:Addr))) w (w.setRow g cs'.toArray):=Ch.setRow w g _;have hget: ∀q,q<xs.length*t.size->(cs'.take (xs.length*t.size))[q]?=if q<k*t.size+o then cells[q]? else if q<k*t.size+o+new.length then new[q-(k*t.size+o)]? else cells[q]?:=λq hq=>by
  rw[Wt hq,hcs',Qiq (by simp;omega),hcell q hq]
 have hesq: ∀q,q<t.size->es[q]?=cells[k*t.size+q]?:=λq hq=>by
  obtain⟨u,hu⟩: ∃u,es[q]?=some u:=⟨_,Qj (by omega)⟩;have:=hes q u hu;rw[Wf,Wf,hBlk.cell]at this;rw[hu,<-hcell _ (by omega)];simpa using this.symm
 refine⟨_,by rw[hadd];exact hst,N,by simp[World.setRow],cs'.take (xs.length*t.size),⟨by rw[X9,Qx,hlen',Xx hcur],.inr ⟨g,c,cs'.toArray,by rw[X9],J,?_,by rw[X9];exact Y,hcm,by rw[Xk,hlen',hcs],by rw[X9]⟩⟩,?_,?_⟩;have:=hBlk.setRow (cs':=cs');unfold Blk at this;exact this;intro u hu;obtain⟨q,hq⟩:=Xm.1 hu;have hql:q<xs.length*t.size:=by have:=(Qe.1 hq).1;rw[Qx]at this;omega
 rw[hget q hql]at hq;split at hq;exact h1c u (Qu hq);split at hq;exact h1 u (Qu hq);exact h1c u (Qu hq);intro i x hx;have hil:i<xs.length:=by have:=(Qe.1 hx).1;rwa[X9]at this
 have his:i*t.size+t.size<=xs.length*t.size:=by
  have:(i+1)*t.size<=xs.length*t.size:=Wr _ hil;rwa[Xq,Y5]at this
 by_cases W:i=k;subst W;rw[List.getElem?_set_self hil]at hx;injection hx with hx
 subst hx;have e1:((cs'.take (xs.length*t.size)).drop (i*t.size)).take t.size=es.take o++new++es.drop (o+new.length):=by
  refine Xf λq=>?_;rw[Qhj,Qiq (by omega)];by_cases hq:q<t.size;rw[Qc hq,hget _ (by omega),hesq q hq];by_cases E:q<o;rw[Qc (by omega),Qc E];rw[Qb (by omega),Qb E];by_cases h4:q<o+new.length;rw[Qc (by omega),Qc h4];congr 1;omega;rw[Qb (by omega),Qb h4];rw[Qb hq,Qb (by omega),Qb (by omega),Wh (by omega)]
 rw[e1];exact rep_to hy N λb J _=>⟨hF b J,J⟩;rw[List.getElem?_set_ne (λh=>W h.symm)]at hx;have e1:((cs'.take (xs.length*t.size)).drop (i*t.size)).take t.size=(cells.drop (i*t.size)).take t.size:=by
  refine Xf λq=>?_;rw[Qhj,Qhj];by_cases hq:q<t.size;rw[Qc hq,Qc hq,hget _ (by omega)];have:i*t.size+q<k*t.size+o\/k*t.size+o+new.length<=i*t.size+q:=by
   rcases Nat.lt_or_gt_of_ne W with E|E
   left;have:(i+1)*t.size<=k*t.size:=Wr _ E;rw[Xq,Y5]at this;omega;right;have:(k+1)*t.size<=i*t.size:=Wr _ E;rw[Xq,Y5]at this;omega
  rcases this with E|E
  rw[Qc E];rw[Qb (by omega),Qb (by omega)];rw[Qb hq,Qb hq]
 rw[e1];exact rep_to (h2 i x hx) N λb J _=>⟨hF b J,J⟩
def st_setel {t:Ty}{e tt:QQ}{B:Nat}{F:Nat->Prop}{A:QK}{c:Nat}{xs:List t.den}{px py:Operand}(E:Fr a n ds l)(h:Own t e B w F A c xs){k o m:Nat}(hk:k<xs.length)(N: ∀w,(sizeOf tt).run P w=.ok m w)(W:Nat.ble (o+m) t.size=true){ad:Addr}(Y:A=some ad)
  (hx:ev l px=some (.pointer (some ((ad.add (k*t.size)).add o)))) {v:Value} (I:ev l py=some v) {new es:QL} (hv:v.cells=new.toArray) (hm:new.length=m) (h1: ∀u∈new,u.oneCell'=true) (J:Cells w (ad.add (k*t.size)) es) (hel:es.length=t.size) {y:t.den} (hy:t.rep w F (es.take o++new++es.drop (o+m)) y) (hF: ∀b,F b->b∉obl A)
  (hn: ∀w' a',Ch (obl A) w w'->w'.heap.size=w.heap.size->Own t e B w' F A c (xs.set k y)->Fr a' n ds l->WL r P ops Q rest a' w'):WL r P ops Q (⟨none,.store tt px py,T,pos,af,none⟩::rest) a w:=by
 obtain⟨w',h2,h3,h4,h5⟩:=run_storeOwn (P:=P) h hk N (Qm W) Y hv hm h1 J hel hy hF;refine skipw (w':=w') E ?_ λa' hf'=>hn _ a' h3 h4 h5 hf';simp only[execOp,E.eval hx,E.eval I,Qp,h2,Qi,Qs]
def st_makeSlice {t:Ty}{tt e:QQ}{x y:Operand}{i:TypeInfo}{z:Value}{bytes u:Nat}{k1 k2:IntKind}{p q:Int}(J:Fr a n ds l)(hd:Nat.ble (d+1) n=true)(ht:P.underlying tt=some (.slice e))(hi:P.info? e=some i)(hz:i.zero=some z)(hsize:i.size=1)(N:i.bytes=bytes)(W:z.cells=#[z])(I:t.size=1)
  (hx:ev l x=some (.int k1 p)) (hy:ev l y=some (.int k2 q)) (hp:p=(u:Int)) (hq:q=(u:Int)) (hu:bytes*u<=140737488355328) (hm:u<=maxLen) (z0:t.den) (Y:t.rep w no [z] z0) (h1:z.oneCell'=true)
  (h: ∀g w' a',g=w.heap.size->w'.heap.size=g+1->Own t e g w' no (some ⟨g,0,none⟩) u (List.replicate u z0)->Ch [] w w'->Fr a' n ds ((d,.slice (some ⟨g,0,none⟩) u u)::l)->WL r P ops Q rest a' w'):
  WL r P ops Q (⟨some d,.makeSlice tt x y,T,pos,af,none⟩::rest) a w:=by
 subst hp;subst hq;have hrun:=run_make (P:=P) w tt e i z ht hi hz k1 k2 (u:Int) (u:Int) (by omega) (by omega) (by rw[N,<-Int.natCast_mul];omega) (by rw[show maxLen=9223372036854775807 from rfl]at hm;omega);have hcells:madeCells z.cells ((u:Int).toNat*i.size)=(List.replicate u z).toArray:=by
  rw[W,hsize,We,Nat.mul_one];unfold madeCells;apply Yf.1;refine Xf λj=>?_;simp only[Array.toList_map,Array.toList_range,Q0];by_cases E:j<u;rw[List.getElem?_range E,Js,Qc E];simp[Nat.mod_one];rw[Wh (by simpa using E),Wh (by simpa using E)];rfl
 rw[hcells,We]at hrun;refine valw (w':=w.alloc (.cells (List.replicate u z).toArray e)) (v:=.slice (some ⟨w.heap.size,0,none⟩) u u) J hd ?_ λa' hf'=>h _ _ a' rfl (by simp) ?_ (Ch.alloc w _) hf';simp only[execOp,J.eval hx,J.eval hy,Qp,hrun,Qi,Qs];have:=Own.made (t:=t) (F:=no) (B:=w.heap.size) (xs:=List.replicate u z0) (Blk.new w e (List.replicate u z)) (Qr _) (by simp[I]) (by simpa using hm) (λv hv=>by rw[List.eq_of_mem_replicate hv];exact h1) λj x hx=>by
  have E:=(Qe.1 hx).1;rw[Ye]at E;have hx0:x=z0:=by
   rw[Js,Qc E]at hx;injection hx with hx;exact hx.symm
  subst hx0;have:((List.replicate u z).drop (j*t.size)).take t.size=[z]:=by
   rw[I,Nat.mul_one];refine Xf λq=>?_;rw[Qhj];cases q with
   |zero=>simp[E]
   |succ q=>simp
  rw[this];exact rep_ch0 (Ch.alloc w _) t Y
 rwa[Ye]at this
end
def ce {α:Type}{a b:α}{x y:List α}(h:a=b)(k:x=y):a::x=b::y:=by rw[h,k]
section
variable {P:QR}{a:Act}{w:World}{n:Nat}{ds:List Deferred}{l:QI}
def RV (P:QR)(tm:Array Value)(w:World):ResultVar->Value->Prop
 | .tmp t,v=>tm.getD t undef=v
 | .cell p ty,v=>∃ad,tm.getD p undef=.pointer (some ad)/\(loadVar ty ad).run P w=.ok v w
def rv_t {t:Nat}{v:Value}(E:Fr a n ds l)(I:lk l t=some v):RV P a.tmps w (.tmp t) v:=E.eval (x:=.tmp t) I
def rv_1 {p g:Nat}{ty bt:QQ}{u:Value}(E:Fr a n ds l)(hp:lk l p=some (.pointer (some ⟨g,0,none⟩)))(I: ∀w,(isAgg ty).run P w=.ok false w)(J:Blk w g bt [u]):RV P a.tmps w (.cell p ty) u:=by
 have N:w.cell? ⟨g,0,none⟩=some u:=J.cell 0;exact⟨_,E.eval (x:=.tmp p) hp,by simp[loadVar,I,N]⟩
def rv_n {p g m:Nat}{ty bt:QQ}{cs:QL}(E:Fr a n ds l)(hp:lk l p=some (.pointer (some ⟨g,0,none⟩)))(I: ∀w,(isAgg ty).run P w=.ok true w)(J: ∀w,(sizeOf ty).run P w=.ok m w)(N:Blk w g bt cs)(W:cs.length=m):RV P a.tmps w (.cell p ty) (.agg cs.toArray):=by
 subst W;refine⟨_,E.eval (x:=.tmp p) hp,?_⟩;have:=run_loadCells_list (P:=P) w ⟨g,0,none⟩ cs λj u Y=>by rw[Wf,N.cell];simpa using Y
 simp[loadVar,I,J,this]
def resv1 {fn:Func}{E:ResultVar}{I:Value}(h:fn.results=#[E])(h1:RV P a.tmps w E I):(results fn a.tmps).run P w=.ok I w:=by
 cases E<;>simp only[RV,Q1]at h1;simp[results,h,h1];obtain⟨ad,h2,J⟩:=h1;simp[results,h,h2,asAddr,J]
def resv2 {fn:Func}{J N:ResultVar}{W Y:Value}(h:fn.results=#[J,N])(h1:RV P a.tmps w J W)(h2:RV P a.tmps w N Y):(results fn a.tmps).run P w=.ok (.tuple #[W,Y]) w:=by
 cases J<;>cases N<;>simp only[RV,Q1]at h1 h2;simp[results,h,h1,h2];obtain⟨ad,E,I⟩:=h2;simp[results,h,h1,E,asAddr,I];obtain⟨ad,E,I⟩:=h1;simp[results,h,h2,E,asAddr,I];obtain⟨ad,E,I⟩:=h1;obtain⟨ae,h5,h6⟩:=h2;simp[results,h,E,h5,asAddr,I,h6]
def retv {fn:Func}{R:Ending->World->Prop}{v:Value}(E:Fr a n [] l)(h:(results fn a.tmps).run P w=.ok v w)(I:R (.returned v) w):bodyPost P fn R .ret a w:=bodyPost_ret h E.defs I
def endv {fn:Func}{R:Ending->World->Prop}{v:Value}(E:Fr a n [] l)(h:(results fn a.tmps).run P w=.ok v w)(I:R (.returned v) w):bodyPost P fn R .normal a w:=bodyPost_end h E.defs I
end
end Go.Z
end
section
namespace Go.Proofs.YtligcbdjiolamaaGreatDoor
def eqin47 {x y:D46}(d:Nat):Z.EqV Tryz.prog (d+2) 47 (.agg #[.int .i64 x.1,.int .i64 x.2.1,.string x.2.2]) (.agg #[.int .i64 y.1,.int .i64 y.2.1,.string y.2.2]) (decide (x=y)):=by
 have h:Z.EqV Tryz.prog (d+2) 47 (.agg #[.int .i64 x.1,.int .i64 x.2.1,.string x.2.2]) (.agg #[.int .i64 y.1,.int .i64 y.2.1,.string y.2.2]) (decide (x.1=y.1)&&(decide (x.2.1=y.2.1)&&(decide (x.2.2=y.2.2)&&true))):=Z.eq_struct Tryz.underlying47 (by kernel_rfl) (Z.eqf_cons rfl (λw=>Z.part_one w Tryz.isAgg3 rfl) (λw=>Z.part_one w Tryz.isAgg3 rfl) (Z.eq_int (d:=d+0) Tryz.underlying3) (Z.eqf_cons rfl (λw=>Z.part_one w Tryz.isAgg2 rfl) (λw=>Z.part_one w Tryz.isAgg2 rfl) (Z.eq_int (d:=d+0) Tryz.underlying2) (Z.eqf_cons rfl (λw=>Z.part_one w Tryz.isAgg9 rfl) (λw=>Z.part_one w Tryz.isAgg9 rfl) (Z.eq_str (d:=d+0) Tryz.underlying9) Z.eqf_nil)));have e:decide (x=y)=(decide (x.1=y.1)&&(decide (x.2.1=y.2.1)&&(decide (x.2.2=y.2.2)&&true))):=by simp only[Z.decide_pair,Yx]
 rw[e];exact h
def eqagg_eql47 {x y:D46}{a:Act}{w:World}{dd:Option Tmp}{T ty:QQ}{pos:String}{af:Array Edge}{gd:Option (Nat×Bool)}{X Y:Operand}(hx:a.eval X=.agg #[.int .i64 x.1,.int .i64 x.2.1,.string x.2.2])(E:a.eval Y=.agg #[.int .i64 y.1,.int .i64 y.2.1,.string y.2.2]):(execOp a.eval ⟨dd,.binOp .eql 47 X Y ty,T,pos,af,gd⟩).run Tryz.prog w=.ok (.value (.bool (decide (x=y)))) w:=Z.r_eqagg (eqin47 9998) (by kernel_rfl) hx E
def eqagg_neq47 {x y:D46}{a:Act}{w:World}{dd:Option Tmp}{T ty:QQ}{pos:String}{af:Array Edge}{gd:Option (Nat×Bool)}{X Y:Operand}(hx:a.eval X=.agg #[.int .i64 x.1,.int .i64 x.2.1,.string x.2.2])(E:a.eval Y=.agg #[.int .i64 y.1,.int .i64 y.2.1,.string y.2.2]):(execOp a.eval ⟨dd,.binOp .neq 47 X Y ty,T,pos,af,gd⟩).run Tryz.prog w=.ok (.value (.bool (decide (x≠y)))) w:=Z.r_neagg (eqin47 9998) (by kernel_rfl) hx E
def eqin59 {x y:D58}(d:Nat):Z.EqV Tryz.prog (d+2) 59 (.agg #[.int .i64 x.1,.int .i64 x.2.1,.string x.2.2.1,.int .i64 x.2.2.2]) (.agg #[.int .i64 y.1,.int .i64 y.2.1,.string y.2.2.1,.int .i64 y.2.2.2]) (decide (x=y)):=by
 have h:Z.EqV Tryz.prog (d+2) 59 (.agg #[.int .i64 x.1,.int .i64 x.2.1,.string x.2.2.1,.int .i64 x.2.2.2]) (.agg #[.int .i64 y.1,.int .i64 y.2.1,.string y.2.2.1,.int .i64 y.2.2.2]) (decide (x.1=y.1)&&(decide (x.2.1=y.2.1)&&(decide (x.2.2.1=y.2.2.1)&&(decide (x.2.2.2=y.2.2.2)&&true)))):=Z.eq_struct Tryz.underlying59 (by kernel_rfl) (Z.eqf_cons rfl (λw=>Z.part_one w Tryz.isAgg3 rfl) (λw=>Z.part_one w Tryz.isAgg3 rfl) (Z.eq_int (d:=d+0) Tryz.underlying3) (Z.eqf_cons rfl (λw=>Z.part_one w Tryz.isAgg2 rfl) (λw=>Z.part_one w Tryz.isAgg2 rfl) (Z.eq_int (d:=d+0) Tryz.underlying2) (Z.eqf_cons rfl (λw=>Z.part_one w Tryz.isAgg9 rfl) (λw=>Z.part_one w Tryz.isAgg9 rfl) (Z.eq_str (d:=d+0) Tryz.underlying9) (Z.eqf_cons rfl (λw=>Z.part_one w Tryz.isAgg2 rfl) (λw=>Z.part_one w Tryz.isAgg2 rfl) (Z.eq_int (d:=d+0) Tryz.underlying2) Z.eqf_nil))));have e:decide (x=y)=(decide (x.1=y.1)&&(decide (x.2.1=y.2.1)&&(decide (x.2.2.1=y.2.2.1)&&(decide (x.2.2.2=y.2.2.2)&&true)))):=by simp only[Z.decide_pair,Yx]
 rw[e];exact h
def eqagg_neq59 {x y:D58}{a:Act}{w:World}{dd:Option Tmp}{T ty:QQ}{pos:String}{af:Array Edge}{gd:Option (Nat×Bool)}{X Y:Operand}(hx:a.eval X=.agg #[.int .i64 x.1,.int .i64 x.2.1,.string x.2.2.1,.int .i64 x.2.2.2])(E:a.eval Y=.agg #[.int .i64 y.1,.int .i64 y.2.1,.string y.2.2.1,.int .i64 y.2.2.2]):(execOp a.eval ⟨dd,.binOp .neq 59 X Y ty,T,pos,af,gd⟩).run Tryz.prog w=.ok (.value (.bool (decide (x≠y)))) w:=Z.r_neagg (eqin59 9998) (by kernel_rfl) hx E
def eqin62 {x y:D61}(d:Nat):Z.EqV Tryz.prog (d+2) 62 (.agg #[.int .i64 x.1,.string x.2]) (.agg #[.int .i64 y.1,.string y.2]) (decide (x=y)):=by
 have h:Z.EqV Tryz.prog (d+2) 62 (.agg #[.int .i64 x.1,.string x.2]) (.agg #[.int .i64 y.1,.string y.2]) (decide (x.1=y.1)&&(decide (x.2=y.2)&&true)):=Z.eq_struct Tryz.underlying62 (by kernel_rfl) (Z.eqf_cons rfl (λw=>Z.part_one w Tryz.isAgg2 rfl) (λw=>Z.part_one w Tryz.isAgg2 rfl) (Z.eq_int (d:=d+0) Tryz.underlying2) (Z.eqf_cons rfl (λw=>Z.part_one w Tryz.isAgg9 rfl) (λw=>Z.part_one w Tryz.isAgg9 rfl) (Z.eq_str (d:=d+0) Tryz.underlying9) Z.eqf_nil));have e:decide (x=y)=(decide (x.1=y.1)&&(decide (x.2=y.2)&&true)):=by simp only[Z.decide_pair,Yx]
 rw[e];exact h
def eqin79 {x y:D78}(d:Nat):Z.EqV Tryz.prog (d+3) 79 (.agg #[.int .i64 x.1,.int .i64 x.2.1,.string x.2.2]) (.agg #[.int .i64 y.1,.int .i64 y.2.1,.string y.2.2]) (decide (x=y)):=by
 have h:Z.EqV Tryz.prog (d+3) 79 (.agg #[.int .i64 x.1,.int .i64 x.2.1,.string x.2.2]) (.agg #[.int .i64 y.1,.int .i64 y.2.1,.string y.2.2]) (decide (x.1=y.1)&&(decide (x.2=y.2)&&true)):=Z.eq_struct Tryz.underlying79 (by kernel_rfl) (Z.eqf_cons rfl (λw=>Z.part_one w Tryz.isAgg3 rfl) (λw=>Z.part_one w Tryz.isAgg3 rfl) (Z.eq_int (d:=d+1) Tryz.underlying3) (Z.eqf_cons rfl (λw=>Z.part_agg w Tryz.isAgg62 Tryz.sizeOf62 rfl) (λw=>Z.part_agg w Tryz.isAgg62 Tryz.sizeOf62 rfl) (eqin62 (x:=x.2) (y:=y.2) d) Z.eqf_nil));have e:decide (x=y)=(decide (x.1=y.1)&&(decide (x.2=y.2)&&true)):=by simp only[Z.decide_pair,Yx]
 rw[e];exact h
def eqin130 {x y:D129}(d:Nat):Z.EqV Tryz.prog (d+2) 130 (.agg #[.int .i64 x.1,.int .i64 x.2]) (.agg #[.int .i64 y.1,.int .i64 y.2]) (decide (x=y)):=by
 have h:Z.EqV Tryz.prog (d+2) 130 (.agg #[.int .i64 x.1,.int .i64 x.2]) (.agg #[.int .i64 y.1,.int .i64 y.2]) (decide (x.1=y.1)&&(decide (x.2=y.2)&&true)):=Z.eq_struct Tryz.underlying130 (by kernel_rfl) (Z.eqf_cons rfl (λw=>Z.part_one w Tryz.isAgg3 rfl) (λw=>Z.part_one w Tryz.isAgg3 rfl) (Z.eq_int (d:=d+0) Tryz.underlying3) (Z.eqf_cons rfl (λw=>Z.part_one w Tryz.isAgg3 rfl) (λw=>Z.part_one w Tryz.isAgg3 rfl) (Z.eq_int (d:=d+0) Tryz.underlying3) Z.eqf_nil));have e:decide (x=y)=(decide (x.1=y.1)&&(decide (x.2=y.2)&&true)):=by simp only[Z.decide_pair,Yx]
 rw[e];exact h
def eqagg_eql130 {x y:D129}{a:Act}{w:World}{dd:Option Tmp}{T ty:QQ}{pos:String}{af:Array Edge}{gd:Option (Nat×Bool)}{X Y:Operand}(hx:a.eval X=.agg #[.int .i64 x.1,.int .i64 x.2])(E:a.eval Y=.agg #[.int .i64 y.1,.int .i64 y.2]):(execOp a.eval ⟨dd,.binOp .eql 130 X Y ty,T,pos,af,gd⟩).run Tryz.prog w=.ok (.value (.bool (decide (x=y)))) w:=Z.r_eqagg (eqin130 9998) (by kernel_rfl) hx E
def ky3:Z.Ky Tryz.prog 3 (λi:Int=>.int .i64 i):=Z.Ky.mkInt Tryz.underlying3
def ky79:Z.Ky Tryz.prog 79 (λx:D78=>.agg #[.int .i64 x.1,.int .i64 x.2.1,.string x.2.2]):=Z.Ky.mkAgg Tryz.underlying79 (λ_ _=>rfl) (λ_ _ _=>by kernel_rfl) (λ_ _=>eqin79 9997) (λ_=>by simp[Instr.sameBits,Z.bbeq])
def ky130:Z.Ky Tryz.prog 130 (λx:D129=>.agg #[.int .i64 x.1,.int .i64 x.2]):=Z.Ky.mkAgg Tryz.underlying130 (λ_ _=>rfl) (λ_ _ _=>by kernel_rfl) (λ_ _=>eqin130 9998) (λ_=>by simp[Instr.sameBits,Z.bbeq])
end Go.Proofs.YtligcbdjiolamaaGreatDoor
end
section
namespace Go.A
open Go.RowKit Go.Z
def Row (t:Ty)(w:World)(F G:Nat->Prop)(A:QK)(c:Nat)(xs:List t.den):Prop:=
 xs.length<=c/\c<=maxLen/\∃cells:QL,cells.length=xs.length*t.size/\
  (xs.length=0\/∃b o,A=some ⟨b,o,none⟩/\G b/\∀j u,cells[j]?=some u->w.cell? ⟨b,o+j,none⟩=some u)/\
  ∀(i:Nat) (x:t.den),xs[i]?=some x->t.rep w F ((cells.drop (i*t.size)).take t.size) x
section
variable {t:Ty}{w w':World}{F F' G G':Nat->Prop}{A:QK}{c:Nat}{xs:List t.den}
def Row.of (h:(Ty.slice t).rep w F [.slice A xs.length c] xs):Row t w F F A c xs:=by
 obtain⟨A',c',cells,h1,h2,E,I,J,h6⟩:=h;injection h1 with h1;injection h1 with N Y W
 subst N;subst W;exact⟨h2,E,cells,I,J,h6⟩
def Row.rep (h:Row t w F F A c xs):(Ty.slice t).rep w F [.slice A xs.length c] xs:=by
 obtain⟨h2,E,cells,I,J,h6⟩:=h;exact⟨A,c,cells,rfl,h2,E,I,J,h6⟩
def Row.to {S:QM}(h:Row t w F G A c xs)(J:Ch S w w')(Y: ∀b,F b->b<w.heap.size->b∉S/\F' b)(hG: ∀b,G b->b<w.heap.size->b∉S/\G' b):Row t w' F' G' A c xs:=by
 obtain⟨h2,h3,cells,N,I,h6⟩:=h;refine⟨h2,h3,cells,N,?_,λi x hi=>rep_to (h6 i x hi) J Y⟩;by_cases W:xs.length=0;exact .inl W;rcases I with I|⟨b,o,hA,hb,hcell⟩
 exact absurd I W;have h0:0<cells.length:=by rw[N];exact Nat.mul_pos (by omega) (Qax t)
 have E:=World.block_lt_of_cell? w _ (hcell 0 _ (Qj h0));obtain⟨h7,h8⟩:=hG b hb E;exact .inr ⟨b,o,hA,h8,λj u hu=>by rw[J.cell (p:=⟨b,o+j,none⟩) E h7];exact hcell j u hu⟩
def Row.own {e:QQ}{B:Nat}(h:Own t e B w F A c xs)(hA: ∀k,k∈obl A->G k):Row t w F G A c xs:=by
 obtain⟨cells,Y,h1,h2⟩:=h;have hl:cells.length=xs.length*t.size:=Y.1;rcases Y.2 with⟨I,hn⟩|⟨g,cap,cur,I,hb,hg,J,N,hcs,htake⟩
 injection I with hA' _ W
 subst hA';subst W;exact⟨by omega,by simp[maxLen],cells,hl,.inl hn,h2⟩;injection I with hA' _ W
 subst hA';subst W;refine⟨J,N,cells,hl,.inr ⟨g,0,rfl,hA g (by simp[obl]),λj u E=>?_⟩,h2⟩;rw[Wl,cell_of_row w g j cur e (0,0) hg];rw[<-htake,W8]at E;split at E;simpa using E;cases E
def Row.at (h:Row t w F G A c xs){k:Nat}{x:t.den}(hk:xs[k]?=some x):
  ∃b o es,A=some ⟨b,o,none⟩/\G b/\b<w.heap.size/\Cells w ⟨b,o+k*t.size,none⟩ es/\t.rep w F es x:=by
 obtain⟨h2,h3,cells,W,N,h6⟩:=h;have E:=(Qe.1 hk).1;rcases N with N|⟨b,o,rfl,Y,hcell⟩
 omega;have hs:=Qax t;have I:k*t.size<cells.length:=by rw[W];exact Nat.mul_lt_mul_of_pos_right E hs
 refine⟨b,o,_,rfl,Y,World.block_lt_of_cell? w ⟨b,o+k*t.size,none⟩ (hcell (k*t.size) _ (Qj I)),λj u J=>?_,h6 k _ hk⟩;rw[Wf];have hj:j<t.size:=by
  have:=(Qe.1 J).1;simp only[Qx]at this;omega
 rw[Wt hj,Wj]at J;rw[Xn];exact hcell _ _ J
def Row.ok (h:Row t w F G A c xs): ∀x,x∈xs->t.ok x:=λx hx=>by
 obtain⟨i,hi,rfl⟩:=Yn hx;obtain⟨_,_,es,_,_,_,_,E⟩:=h.at (Qj hi);exact rep_ok t E
end
def Lst (w:World)(g b:Nat)(k v:Value):Prop:=
 ∃(since clock bo:Nat) (sb:Array Nat) (arr:List MapEntry) (e:MapEntry),w.heap[g]?=some (.mapIter (some b) since (sb.push bo) clock)/\w.heap[b]?=some (.map arr.toArray clock)/\arr.find? (λx=>x.born==bo)=some e/\e.key=k/\e.val=v
def Lst.ch {w w':World}{g b:Nat}{k v:Value}{S:QM}(h:Lst w g b k v)(E:Ch S w w')(I:g∉S)(J:b∉S):Lst w' g b k v:=by
 obtain⟨since,clock,bo,sb,arr,e,h1,h2,N⟩:=h;exact⟨since,clock,bo,sb,arr,e,(E.block _ (Qv.1 h1).1 I).trans h1,(E.block _ (Qv.1 h2).1 J).trans h2,N⟩
def Lst.run {P:QR}{w:World}{g b:Nat}{k v:Value}(h:Lst w g b k v):(Instr.entry (.pointer (some ⟨g,0,none⟩))).run P w=.ok (.tuple #[k,v]) w:=by
 obtain⟨since,clock,bo,sb,arr,e,h1,h2,E,rfl,rfl⟩:=h;have I:(getObj g).run P w=.ok (.mapIter (some b) since (sb.push bo) clock) w:=by rw[getObj,Sem.run];simp only[h1];rfl
 have J:(getObj b).run P w=.ok (.map arr.toArray clock) w:=by rw[getObj,Sem.run];simp only[h2];rfl
 simp only[Instr.entry,Qp,I,Qi,Array.back?_push,J,bne_self_eq_false,Q3,Wd,List.find?_toArray,E,Qs]
def lv:Ty->Nat
 | .slice _=>1
 | .pair a b=>lv a+lv b
 |_=>0
abbrev Lf:=List (QK×Nat)
def cl:(t:Ty)->t.den->Lf->QL
 | .int k,x,_=>[.int k x]
 | .byte,x,_=>[.int .u8 (x.toNat:Int)]
 | .bool,x,_=>[.bool x]
 | .str,x,_=>[.string x]
 | .slice _,xs,p::_=>[.slice p.1 xs.length p.2]
 | .slice _,_,[]=>[]
 | .pair a b,x,ps=>cl a x.1 (ps.take (lv a))++cl b x.2 (ps.drop (lv a))
def rbl (As:List (QK×Nat)):QM:=As.flatMap λa=>obl a.1
def Mr {κ:Type}(enc:κ->Value)(t:Ty)(e:QQ)(w:World)(F:Nat->Prop)(b:Nat)(As:List (QK×Nat))(m:List (κ×List t.den)):Prop:=
 ∃es,MapC w b es/\es.length=m.length/\As.length=m.length/\(b::rbl As).Nodup/\(∀x,x∈rbl As->x<w.heap.size)/\
  ∀(i:Nat) (p:κ×List t.den) (a:QK×Nat),m[i]?=some p->As[i]?=some a->es[i]?=some (enc p.1,.slice a.1 p.2.length a.2)/\Own t e 0 w F a.1 a.2 p.2
def Qbp {As:List (QK×Nat)}{i:Nat}{a:QK×Nat}(h:As[i]?=some a){k:Nat}(hk:k∈obl a.1):k∈rbl As:=List.mem_flatMap.2 ⟨a,Qu h,hk⟩
def Mr.to {κ:Type}{enc:κ->Value}{t:Ty}{e:QQ}{w w':World}{F F':Nat->Prop}{b:Nat}{As:List (QK×Nat)}{m:List (κ×List t.den)}{S:QM}(h:Mr enc t e w F b As m)(E:Ch S w w')(I: ∀x,x∈b::rbl As->x∉S)(N: ∀b,F b->b<w.heap.size->b∉S/\F' b):Mr enc t e w' F' b As m:=by
 obtain⟨es,h1,h2,W,Y,h5,h6⟩:=h;refine⟨es,h1.ch E (I b (Qh ..)),h2,W,Y,λx hx=>Qw (h5 x hx) E.size,λi p a hp J=>?_⟩;obtain⟨h7,h8⟩:=h6 i p a hp J;exact⟨h7,Own.to h8 E (λk hk _ _=>I k (Qf _ (Qbp J hk))) N⟩
inductive Res:Type 1 where
 |dead
 |sh (t:Ty) (cs:QL) (x:t.den)
 |ln (t:Ty) (A:QK) (c:Nat) (xs:List t.den)
 |el (k:QN) (b o:Nat) (cs:QL)
 |own (t:Ty) (e:QQ) (A:QK) (c:Nat) (xs:List t.den)
 |blk (g:Nat) (e:QQ) (cs:QL)
 |mp (κ:Type) (enc:κ->Value) (t:Ty) (agg:Bool) (b:Nat) (m:List (κ×t.den))
 |mit (k g b n:Nat) (seen:QM) (last:Option (Value×Value))
 |si (g:Nat) (s:ByteArray) (p:Nat)
 |ob (g:Nat) (p:Obj->Prop)
 |lmp (κ:Type) (enc:κ->Value) (t:Ty) (agg:Bool) (b:Nat) (m:List (κ×t.den))
 |mr (κ:Type) (enc:κ->Value) (t:Ty) (e:QQ) (b:Nat) (As:List (QK×Nat)) (m:List (κ×List t.den))
 |gn (bs:QM) (p:World->(Nat->Prop)->Prop) (hp: ∀{w w':World} {F F':Nat->Prop} {S:QM},p w F->Ch S w w'->(∀b,b∈bs->b∉S)->(∀b,F b->b<w.heap.size->b∉S/\F' b)->p w' F')
def rs:(t:Ty)->t.den->Lf->List Res
 | .slice t,xs,p::_=>[.sh (.slice t) [.slice p.1 xs.length p.2] xs]
 | .pair a b,x,ps=>rs a x.1 (ps.take (lv a))++rs b x.2 (ps.drop (lv a))
 |_,_,_=>[]
def tele:Nat->(Lf->Prop)->Prop
 |0,K=>K []
 |n+1,K=>∀A c,tele n λps=>K ((A,c)::ps)
def Qbq: ∀{n:Nat} {K:Lf->Prop},tele n K->∀ps:Lf,ps.length=n->K ps
 |0,_,h,[],_=>h
 |n+1,_,h,(A,c)::ps,E=>Qbq (h A c) ps (by simpa using E)
def Res.bl:Res->QM
 | .own _ _ A _ _=>obl A
 | .blk g _ _=>[g]
 | .mp _ _ _ _ b _=>[b]
 | .mit _ g _ _ _ _=>[g]
 | .si g _ _=>[g]
 | .ob g _=>[g]
 | .mr _ _ _ _ b As _=>b::rbl As
 | .gn bs _ _=>bs
 |_=>[]
def Res.ref:Res->QN
 | .el k _ _ _=>k
 | .mit k _ _ _ _ _=>some k
 |_=>none
def Res.holds (w:World)(F:Nat->Prop)(B:Nat->Nat->Prop):Res->Prop
 | .dead=>True
 | .sh t cs x=>t.rep w F cs x
 | .ln t A c xs=>Row t w F (λb=>∀k,¬B k b) A c xs
 | .el k b o cs=>Cells w ⟨b,o,none⟩ cs/\b<w.heap.size/\match k with
  |none=>∀k,¬B k b
  |some k=>B k b
 | .own t e A c xs=>Own t e 0 w F A c xs
 | .blk g e cs=>Blk w g e cs
 | .mp _ enc t agg b m=>Mt enc t agg w F b m
 | .mit k g b n seen last=>Rg w g b n seen/\B k b/\∀kv,last=some kv->Lst w g b kv.1 kv.2
 | .si g s p=>Si w g s p
 | .ob g p=>∃o,w.heap[g]?=some o/\p o
 | .lmp _ enc t agg b m=>Mt enc t agg w F b m/\∀k,¬B k b
 | .mr _ enc t e b As m=>Mr enc t e w F b As m
 | .gn _ p _=>p w F
def Res.to {r:Res}{w w':World}{F F':Nat->Prop}{B B':Nat->Nat->Prop}{S:QM}(h:r.holds w F B)(E:Ch S w w')(J: ∀b,F b->b<w.heap.size->b∉S/\F' b)
  (N: ∀b,(∀k,¬B k b)->b<w.heap.size->b∉S/\∀k,¬B' k b) (W: ∀k b,r.ref=some k->B k b->b∉S/\B' k b) (I: ∀b,b∈r.bl->b∉S):r.holds w' F' B':=by
 cases r with
 |dead=>trivial
 |sh t cs x=>exact rep_to h E J
 |ln t A c xs=>exact Row.to h E J N
 |el k b o cs=>
  obtain⟨h1,h2,Y⟩:=h;cases k with
  |none=>exact⟨h1.ch E λ_=>(N b Y h2).1,Qw h2 E.size,(N b Y h2).2⟩
  |some k=>exact⟨h1.ch E λ_=>(W k b rfl Y).1,Qw h2 E.size,(W k b rfl Y).2⟩
 |own t e A c xs=>exact Own.to h E (λk hk _ _=>I k hk) J
 |blk g e cs=>exact Blk.ch h E (I g (by simp[Res.bl]))
 |mp κ enc t agg b m=>exact Mt.to h E (I b (by simp[Res.bl])) J
 |mit k g b n seen last=>exact⟨h.1.ch E (I g (by simp[Res.bl])) (W k b rfl h.2.1).1,(W k b rfl h.2.1).2,λkv hkv=>(h.2.2 kv hkv).ch E (I g (by simp[Res.bl])) (W k b rfl h.2.1).1⟩
 |si g s p=>exact h.ch E (I g (by simp[Res.bl]))
 |ob g p=>
  obtain⟨o,h1,h2⟩:=h;exact⟨o,(E.block g (Qv.1 h1).1 (I g (by simp[Res.bl]))).trans h1,h2⟩
 |lmp κ enc t agg b m=>
  obtain⟨h1,h2⟩:=h;exact⟨Mt.to h1 E (N b h2 h1.lt).1 J,(N b h2 h1.lt).2⟩
 |mr κ enc t e b As m=>exact Mr.to h E I J
 |gn bs p hp=>exact hp h E I J
def rep_cl {w:World}{F:Nat->Prop}{B:Nat->Nat->Prop}: ∀(t:Ty) {cs:QL} {x:t.den},t.rep w F cs x->∃ps:Lf,ps.length=lv t/\cs=cl t x ps/\∀r∈rs t x ps,r.holds w F B/\r.bl=[]/\r.ref=none
 | .int _,cs,x,h=>⟨[],rfl,h.1,by simp[rs]⟩
 | .byte,cs,x,h=>⟨[],rfl,h,by simp[rs]⟩
 | .bool,cs,x,h=>⟨[],rfl,h,by simp[rs]⟩
 | .str,cs,x,h=>⟨[],rfl,h.1,by simp[rs]⟩
 | .slice e,cs,x,h=>by
  have h0:=h;obtain⟨A,c,cells,h1,_⟩:=h;refine⟨[(A,c)],rfl,h1,λr E=>?_⟩;simp only[rs,Qq]at E;subst E;exact⟨by rw[h1]at h0;exact h0,rfl,rfl⟩
 | .pair a b,cs,x,h=>by
  obtain⟨ca,cb,h1,I,J⟩:=h;obtain⟨pa,a1,a2,a3⟩:=rep_cl (B:=B) a I;obtain⟨pb,b1,b2,b3⟩:=rep_cl (B:=B) b J;refine⟨pa++pb,by rw[Qz,a1,b1];rfl,?_,λr E=>?_⟩;simp only[cl,<-a1,J0,List.drop_left];rw[h1,a2,b2];simp only[rs,<-a1,J0,List.drop_left,Q8]at E;exact E.elim (a3 r) (b3 r)
def hk:List (Nat×Res)->Nat->Option Res
 | [],_=>none
 |(e,v)::r,d=>bif Nat.beq e d then some v else hk r d
def Qab (d e:Nat)(v:Res)(H:List (Nat×Res)):hk ((d,v)::H) e=if d=e then some v else hk H e:=by
 unfold hk;by_cases h:d=e;subst h;simp;have:Nat.beq d e=false:=by cases E:Nat.beq d e with
  |false=>rfl
  |true=>exact absurd (Qk E) h
 simp only[this,cond_false,Qb h];cases H<;>rfl
def drp (k:Nat):List (Nat×Res)->List (Nat×Res)
 | []=>[]
 |(e,v)::r=>(e,match v.ref with
  |none=>v
  |some j=>bif Nat.beq j k then .dead else v)::drp k r
def Qcy (k:Nat): ∀(H:List (Nat×Res)) (e:Nat) (v:Res),hk (drp k H) e=some v->v=.dead\/(hk H e=some v/\v.ref≠some k)
 | [],e,v,h=>by cases h
 |(d,u)::r,e,v,h=>by
  unfold drp at h;rw[Qab]at h;rw[Qab];split at h;rename_i E;injection h with h
  cases I:u.ref with
  |none=>rw[I]at h;subst h;exact .inr ⟨by rw[Qc E],by rw[I];simp⟩
  |some j=>
   rw[I]at h;simp only[]at h;cases J:Nat.beq j k with
   |true=>rw[J]at h;exact .inl h.symm
   |false=>
    rw[J]at h;subst h;refine .inr ⟨by rw[Qc E];rfl,λh2=>?_⟩;rw[show(bif false then Res.dead else u)=u from rfl,I]at h2;injection h2 with h2
    subst h2;simp at J
  rename_i E;rw[Qb E];exact Qcy k r e v h
def Bk (H:List (Nat×Res))(k b:Nat):Prop:=∃r,hk H k=some r/\b∈r.bl
structure Cx where
 n:Nat
 ds:List Deferred
 w0:World
 S:QM
 F:Nat->Prop
def Fh (C:Cx)(H:List (Nat×Res))(b:Nat):Prop:=(∀k,¬Bk H k b)/\(C.F b\/C.w0.heap.size<=b\/b∈C.S)
structure Hp (C:Cx) (H:List (Nat×Res)) (w:World):Prop where
 ch:Ch C.S C.w0 w
 hold: ∀k r,hk H k=some r->r.holds w (Fh C H) (Bk H)
 bnd: ∀k b,Bk H k b->(C.w0.heap.size<=b\/b∈C.S)/\b<w.heap.size
 dis: ∀k k' b,Bk H k b->Bk H k' b->k=k'
 ref: ∀k r j,hk H k=some r->r.ref=some j->j≠k/\∀r',hk H j=some r'->r'.ref=none
section
variable {C:Cx}{H:List (Nat×Res)}{w w':World}{k:Nat}{r':Res}{S:QM}
def Hp.upd (h:Hp C H w)(hc:Ch S w w')(hS: ∀b,b∈S->Bk H k b)(J: ∀b,b∈r'.bl->Bk H k b\/(w.heap.size<=b/\b<w'.heap.size))(hrf: ∀j,r'.ref=some j->j≠k/\∀r,hk H j=some r->r.ref=none)
  (hr: ∀(F:Nat->Prop) (B:Nat->Nat->Prop),(∀b,Fh C H b->b<w.heap.size->F b)->(∀b,(∃r,hk H k=some r/\b∈r.bl)->b∉r'.bl->F b)->(∀b,(∀k,¬Bk H k b)->b<w.heap.size->∀k,¬B k b)->(∀j b,r'.ref=some j->Bk H j b->B j b)->(∀b,b∈r'.bl->B k b)->r'.holds w' F B)
  :Hp C ((k,r')::drp k H) w':=by
 have N: ∀j b,j≠k->Bk ((k,r')::drp k H) j b->Bk H j b:=λj b I ⟨r,h1,h2⟩=>by
  rw[Qab,Qb (Ne.symm I)]at h1;rcases Qcy k H j r h1 with rfl|⟨h3,_⟩
  cases h2;exact⟨r,h3,h2⟩
 have drp_keep: ∀(H:List (Nat×Res)) (j:Nat) (r:Res),hk H j=some r->r.ref≠some k->hk (drp k H) j=some r:=by
  intro H;induction H with
  |nil=>intro j r h1;cases h1
  |cons p q ih=>
   obtain⟨d,u⟩:=p;intro j r h1 h2;unfold drp;rw[Qab]at h1 ⊢;by_cases hd:d=j;rw[Qc hd]at h1 ⊢;injection h1 with h1
   subst h1;cases hu:u.ref with
   |none=>rfl
   |some i=>
    simp only[];have:Nat.beq i k=false:=by cases J:Nat.beq i k with
     |false=>rfl
     |true=>exact absurd (by rw[hu,Qk J]) h2
    rw[this];rfl
   rw[Qb hd]at h1 ⊢;exact ih j r h1 h2
 have hkp: ∀j b,j≠k->(∀r,hk H j=some r->r.ref=none)->Bk H j b->Bk ((k,r')::drp k H) j b:=λj b I hn ⟨r,h1,h2⟩=>
  ⟨r,by rw[Qab,Qb (Ne.symm I)];exact drp_keep H j r h1 (by rw[hn r h1];simp),h2⟩
 have W: ∀b,Bk ((k,r')::drp k H) k b↔b∈r'.bl:=λb=>⟨λ⟨r,h1,h2⟩=>by rw[Qab,Qc rfl]at h1;injection h1 with h1;subst h1;exact h2,λJ=>⟨r',by rw[Qab,Qc rfl],J⟩⟩;have hFh: ∀b,Fh C H b->b<w.heap.size->b∉S/\Fh C ((k,r')::drp k H) b:=λb hf hl=>by
  refine⟨λhS'=>hf.1 k (hS b hS'),⟨λj I=>?_,hf.2⟩⟩;by_cases E:j=k;subst E;rcases J b ((W b).1 I)with h2|h2
  exact hf.1 j h2;omega;exact hf.1 j (N j b E I)
 have hGh: ∀b,(∀k,¬Bk H k b)->b<w.heap.size->b∉S/\∀j,¬Bk ((k,r')::drp k H) j b:=λb hb' hl=>by
  refine⟨λhS'=>hb' k (hS b hS'),λj I=>?_⟩;by_cases E:j=k;subst E;rcases J b ((W b).1 I)with h2|h2
  exact hb' j h2;omega;exact hb' j (N j b E I)
 have hlt: ∀b,Bk H k b->b<w.heap.size:=λb J=>(h.bnd k b J).2;have bnd': ∀j b,Bk ((k,r')::drp k H) j b->(C.w0.heap.size<=b\/b∈C.S)/\b<w'.heap.size:=λj b I=>by
  by_cases E:j=k;subst E;rcases J b ((W b).1 I)with h2|h2
  exact⟨(h.bnd j b h2).1,Qw (h.bnd j b h2).2 hc.size⟩;exact⟨.inl (Wb h.ch.size h2.1),h2.2⟩;have:=h.bnd j b (N j b E I);exact⟨this.1,Qw this.2 hc.size⟩
 refine⟨?_,λj r I=>?_,bnd',λj j' b I hj'=>?_,λj r i I Y=>?_⟩;have hch:=h.ch;refine⟨hc.os.trans hch.os,hc.tape.trans hch.tape,hc.output.trans hch.output,Wb hch.size hc.size,λb hb' hn=>?_⟩;have hb2:b∉S:=λhbS=>by
  rcases(h.bnd k b (hS b hbS)).1 with h1|h1
  omega;exact hn h1
 rw[hc.block b (Qw hb' hch.size) hb2];exact hch.block b hb' hn;rw[Qab]at I;by_cases E:k=j;subst E;rw[Qc rfl]at I;injection I with I
 subst I;refine hr _ _ (λb J hl=>(hFh b J hl).2) (λb J hn=>⟨λj I=>?_,?_⟩) (λb J hl=>(hGh b J hl).2) (λj b E I=>?_) (λb J=>(W b).2 J);by_cases E:j=k;subst E;exact hn ((W b).1 I);exact E (h.dis j k b (N j b E I) J);exact .inr (h.bnd k b J).1;exact hkp j b (hrf j E).1 (hrf j E).2 I;rw[Qb E]at I;rcases Qcy k H j r I with rfl|⟨h3,h4⟩
 trivial;refine Res.to (h.hold j r h3) hc hFh hGh (λi b hi hB=>?_) (λb J hS'=>E (h.dis k j b (hS b hS') ⟨r,h3,J⟩));have hik:i≠k:=λe=>h4 (by rw[hi,e]);exact⟨λhS'=>hik (h.dis i k b hB (hS b hS')),hkp i b hik (h.ref j r i h3 hi).2 hB⟩;by_cases E:j=k<;>by_cases hjk':j'=k;rw[E,hjk'];subst E;have h2:=N j' b hjk' hj';rcases J b ((W b).1 I)with h1|h1
 exact h.dis j j' b h1 h2;have:=(h.bnd j' b h2).2;omega;subst hjk';have h2:=N j b E I;rcases J b ((W b).1 hj')with h1|h1
 exact h.dis j j' b h2 h1;have:=(h.bnd j b h2).2;omega;exact h.dis j j' b (N j b E I) (N j' b hjk' hj');rw[Qab]at I;by_cases E:k=j;subst E;rw[Qc rfl]at I;injection I with I
 subst I;refine⟨(hrf i Y).1,λr2 h2=>?_⟩;rw[Qab,Qb (Ne.symm (hrf i Y).1)]at h2;rcases Qcy k H i r2 h2 with rfl|⟨h3,_⟩
 rfl;exact(hrf i Y).2 r2 h3;rw[Qb E]at I;rcases Qcy k H j r I with rfl|⟨h3,h4⟩
 cases Y;obtain⟨h5,h6⟩:=h.ref j r i h3 Y;have hik:k≠i:=λe=>h4 (by rw[Y,e]);refine⟨h5,λr2 h2=>?_⟩;rw[Qab,Qb hik]at h2;rcases Qcy k H i r2 h2 with rfl|⟨h7,_⟩
 rfl;exact h6 r2 h7
end
end Go.A
end
abbrev QJ:=List (Nat×Go.A.Res)
