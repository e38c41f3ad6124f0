import Derived.OrdersHeld
import Derived.Laws.AppendOwn
import Derived.Laws.Entries
import Derived.Tactics
import Derived.Below
import Derived.RangeFuncIn
import Derived.TacticsIn
import Derived.LoopIn
import Derived.OrdersIn
import Derived.Maps.AppendAt
import Derived.Deep.Draws
import Derived.IntWalk
import Derived.Laws.Rows
import Derived.Laws.Strings
import Derived.Laws.StructEq
import Derived.Defers
import Derived.Lib.MakeNoZero
import Derived.Laws.Externs
import Derived.Laws.CopyOwn
import Derived.Lib.AppendStr
import Derived.Recover
import Derived.ChangeKeysEq
import Derived.Lib.ConvBytes
import Derived.KernelRfl
import Derived.Laws.Concat
import Derived.Test.YtlhiofnikdppeaaGreatDoorProg
import Derived.RangeFuncSeq
import Derived.RangeFuncBound
import Derived.Laws.MakeOwn
set_option linter.defProp false
set_option linter.unusedSimpArgs false
set_option synthInstance.maxSize 1000000
set_option synthInstance.maxHeartbeats 400000
def Qa:=@Option.bind_some
def Qb:=@if_neg
def Qc:=@if_pos
def Qd:=@List.getElem?_eq_some_iff
def Qe:=@List.length_cons
def Qf:=@List.mem_cons_of_mem
def Qg:=@List.getElem?_eq_getElem
def Qh:=@Nat.lt_succ_self
def Qi:=@List.mem_cons_self
def Qj:=@List.mem_of_getElem?
def Qk:=@List.mem_cons
def Ql:=@List.length_nil
def Qm:=@List.length_append
def Qn:=@List.mem_singleton
def Qo:=@Bool.and_eq_true
def Qp:=@Array.getElem?_eq_some_iff
def Qq:=@List.getElem?_map
def Qr:=@decide_eq_true
def Qs:=@decide_eq_true_eq
def Qt:=@Nat.le_refl
def Qu:=@List.pairwise_cons
def Qv:=@Int.toNat_natCast
def Qw:=@List.length_map
def Qx:=@Bool.false_eq_true
def Qy:=@List.length_take
def Qz:=@Option.some.injEq
def Q0:=@List.append_assoc
def Q1:=@List.map_cons
def Q2:=@List.mem_append
def Q3:=@List.take_of_length_le
def Q4:=@Nat.lt_of_lt_of_le
def Q5:=@Bool.false_ne_true
def Q6:=@List.drop_eq_nil_of_le
def Q7:=@decide_eq_false
def Q8:=@Nat.le_of_ble_eq_true
def Q9:=@List.getElem?_append_right
def Wa:=@if_false
def Wb:=@of_decide_eq_true
def Wc:=@List.getElem?_append_left
def Wd:=@List.all_eq_true
def We:=@List.eq_nil_of_length_eq_zero
def Wf:=@List.getElem?_eq_none
def Wg:=@Option.map_some
def Wh:=@List.append_nil
def Wi:=@List.getElem?_cons_succ
def Wj:=@Nat.mul_le_mul_right
def Wk:=@List.getElem?_modify
def Wl:=@List.nil_append
def Wm:=@List.nodup_cons
def Wn:=@congrArg
def Wo:=@List.getElem?_take_of_lt
def Wp:=@Array.getElem?_eq_getElem
def Wq:=@Nat.le_trans
def Wr:=@List.mem_map
def Ws:=@List.mem_append_left
def Wt:=@List.mem_append_right
def Wu:=@List.getElem?_toArray
def Wv:=@Array.getD_eq_getD_getElem?
def Ww:=@decide_eq_true_iff
def Wx:=@Nat.eq_of_beq_eq_true
def Wy:=@Bool.true_and
def Wz:=@Bool.not_true
def W5:=@Array.toArray_toList
def W6:=@List.drop_zero
def W7:=@List.mem_iff_getElem?
def W8:=@if_true
def W9:=@List.nodup_append
def Xa:=@List.ext_getElem?
def Xb:=@Int.toNat_of_nonneg
def Xc:=@Nat.zero_add
def Xd:=@List.length_set
def Xe:=@List.getElem?_of_mem
def Xf:=@List.cons_append
def Xg:=@Option.some.inj
def Xh:=@List.getElem?_cons_zero
def Xi:=@Nat.zero_le
def Xj:=@List.filter_cons
def Xk:=@List.map_nil
def Xl:=@List.all_cons
def Xm:=@List.map_append
def Xn:=@Bool.not_false
def Xo:=@Bool.false_or
def Xp:=@List.getElem?_take
def Xq:=@List.getElem?_drop
def Xr:=@Nat.add_mul
def Xs:=@List.take_append_drop
def Xt:=@List.size_toArray
def Xu:=@Option.map_eq_map
def Xv:=@List.length_drop
def Xw:=@List.drop_length
def Xx:=@Bool.cond_eq_ite
def Xy:=@List.take_add_one
def Xz:=@Array.getElem?_toList
def X1:=@List.length_filter_le
def X2:=@List.singleton_append
def X3:=@List.mem_of_mem_take
def X4:=@Array.getElem?_append_left
def X5:=@List.nodup_nil
def X6:=@Nat.min_eq_left
def X7:=@Bool.or_eq_true
def X8:=@Array.getElem?_setIfInBounds_ne
def X9:=@List.length_replicate
def Ya:=@List.map_toArray
def Yc:=@List.mem_flatMap
def Yd:=@List.any_cons
def Ye:=@Nat.beq_refl
def Yf:=@Nat.testBit_or
def Yg:=@List.getElem?_replicate
def Yh:=@Nat.one_shiftLeft
def Yi:=@List.getElem_of_mem
def Yj:=@Array.getElem?_eq_none
def Yk:=@Option.map_eq_some_iff
def Ym:=@Bool.and_true
def Yn:=@Int.tmod_lt_of_pos
def Yo:=@List.getElem?_eq_none_iff
def Yp:=@Bool.not_eq_true'
def Yq:=@List.getElem?_set
def Yr:=@Prod.mk.injEq
def Ys:=@Option.bind_none
def Yt:=@List.mem_range
def Yu:=@Nat.le_of_not_lt
def Yv:=@List.take_length
def Yw:=@Bool.not_eq_true
def Yx:=@Nat.one_mul
def Yy:=@Nat.lt_or_ge
def Yz:=@List.getElem?_set_self
def Y0:=@List.mem_filter
def Y1:=@Classical.choose_spec
def Y2:=@Array.getElem?_modify
def Y3:=@Bool.and_eq_false_iff
def Y4:=@List.set_append_right
def Y5:=@List.flatMap_cons
def Y6:=@List.getD_eq_getElem?_getD
def Y7:=@Int.le_refl
def Y8:=@Bool.false_and
def Y9:=@List.not_mem_nil
def Ja:=@Option.getD_some
def Jb:=@List.any_eq_true
def Jc:=@List.drop_eq_getElem_cons
def Jd:=@List.pairwise_iff_getElem
def Je:=@Nat.testBit_two_pow
def Jf:=@Nat.testBit_two_pow_self
def Jg:=@Bool.eq_iff_iff
def Jh:=@List.foldl_cons
def Ji:=@Nat.le_mul_of_pos_right
def Jj:=@Option.bind_eq_some_iff
def Jk:=@List.take_take
def Jl:=@Nat.add_comm
def Jm:=@List.take_left
def Jn:=@List.any_eq_false
def Jo:=@List.drop_drop
def Jp:=@Nat.lt_trichotomy
def Jq:=@List.foldl_append
def Jr:=@List.pairwise_map
def Js:=@Int.min_eq_right
def Jt:=@List.mem_nil_iff
def Ju:=@List.cons.injEq
def Jv:=@Int.min_eq_left
def Jw:=@Nat.add_zero
section
namespace Go.Z
open Go.RowKit
def lk:List (Nat×Value)->Nat->Option Value
 | [],_=>none
 |(e,v)::r,d=>bif Nat.beq e d then some v else lk r d
def ev (l:List (Nat×Value)):Operand->Option Value
 | .tmp t=>lk l t
 | .const v=>some v
 | .global g=>some (.pointer (some ⟨g,0,none⟩))
 | .func f=>some (.func (.func f) #[] #[])
structure Fr (a:Act) (n:Nat) (ds:List Deferred) (l:List (Nat×Value)):Prop where
 size:a.tmps.size=n
 defs:a.defers=ds
 get: ∀d v,lk l d=some v->a.tmps[d]?=some v
def Qal (l:List (Nat×Value))(d:Nat)(v:Value):lk ((d,v)::l) d=some v:=by simp[lk]
def Qag (l:List (Nat×Value)){d e:Nat}(v:Value)(h:e≠d):lk ((e,v)::l) d=lk l d:=by
 have:Nat.beq e d=false:=by cases E:Nat.beq e d with
  |false=>rfl
  |true=>exact absurd (Wx E) h
 simp[lk,this]
section
variable {a:Act}{n:Nat}{ds:List Deferred}{l:List (Nat×Value)}
def Fr.eval (h:Fr a n ds l){x:Operand}{v:Value}(E:ev l x=some v):a.eval x=v:=by
 cases x with
 |tmp t=>
  have:=h.get t v E;simp[Act.eval,Wv,this]
 |const u=>injection E
 |global g=>injection E
 |func f=>injection E
def Fr.put (h:Fr a n ds l){d:Nat}(J:d<n)(v:Value):Fr (a.put (some d) v) n ds ((d,v)::l):=by
 refine⟨by simp[Act.put,h.size],h.defs,λe u I=>?_⟩;by_cases E:d=e;subst E;rw[Qal]at I;injection I with I
 subst I;simp[Act.put,h.size,J];rw[Qag _ _ E]at I;simp only[Act.put];rw[X8 E];exact h.get e u I
def Fr.put_none (h:Fr a n ds l)(v:Value):Fr (a.put none v) n ds l:=h
def kp (l:List (Nat×Value)):List Nat->List (Nat×Value)
 | []=>[]
 |k::r=>match lk l k with
  |some v=>(k,v)::kp l r
  |none=>kp l r
def lk_kp (ks:List Nat)(d:Nat)(v:Value)(h:lk (kp l ks) d=some v):lk l d=some v:=by
 induction ks with
 |nil=>simp[kp,lk]at h
 |cons k r I=>
  unfold kp at h;cases hk:lk l k with
  |none=>rw[hk]at h;exact I h
  |some u=>
   rw[hk]at h;by_cases E:k=d;subst E;rw[Qal]at h;rw[hk];exact h;exact I (by rw[<-h];exact(Qag _ _ E).symm)
def Fr.keep (h:Fr a n ds l)(ks:List Nat):Fr a n ds (kp l ks):=⟨h.size,h.defs,λd v E=>h.get d v (lk_kp ks d v E)⟩
def Fr.cons {l':List (Nat×Value)}{d:Nat}{v:Value}(h:Fr a n ds l)(h':Fr a n ds l')(e:lk l d=some v):Fr a n ds ((d,v)::l'):=by
 refine⟨h.size,h.defs,λd' v' E=>?_⟩;by_cases hk:d=d';subst hk;rw[Qal]at E;injection E with E
 subst E;exact h.get _ _ e;rw[Qag _ _ hk]at E;exact h'.get _ _ E
end
def argl:List Value->Nat->List (Nat×Value)
 | [],_=>[]
 |v::r,k=>(k,v)::argl r (k+1)
def lk_argl (vs:List Value): ∀(k d:Nat) (v:Value),lk (argl vs k) d=some v->k<=d/\vs[d-k]?=some v:=by
 induction vs with
 |nil=>intro k d v h;simp[argl,lk]at h
 |cons u r I=>
  intro k d v h;unfold argl at h;by_cases E:k=d;subst E;rw[Qal]at h;injection h with h
  subst h;simp;rw[Qag _ _ E]at h;obtain⟨L,J⟩:=I _ _ _ h;refine⟨by omega,?_⟩;have:d-k=(d-(k+1))+1:=by omega
  rw[this,Wi];exact J
def Fr.entry (vs:List Value)(n:Nat)(J:vs.length<=n):
  Fr {tmps:=vs.toArray++Array.replicate (n-vs.toArray.size) undef,defers:=[]} n [] (argl vs 0):=by
 refine⟨by simp;omega,rfl,λd v h=>?_⟩;obtain⟨_,E⟩:=lk_argl vs 0 d v h;have I:d<vs.length:=by
  rcases Yy d vs.length with h'|h'
  exact h';rw[Wf (by omega)]at E;cases E
 rw[X4 (by simpa using I)];simpa using E
abbrev FW (r:Option Nat):Fence:={Fence.wide with round:=r}
abbrev WP (r:Option Nat) (P:Program) (c:Code) (Q:Exit->Act->World->Prop) (a:Act) (w:World):Prop:=c.wpIn (FW r) 0 P Q a w
abbrev WL (r:Option Nat) (P:Program) (ops:Array Oper) (Q:Exit->Act->World->Prop) (l:List Oper) (a:Act) (w:World):Prop:=wpListIn (FW r) 0 P ops Q l a w
def Qkd {r:Option Nat}{n:Nat}{P:Program}{f:FuncId}{args:Array Value}{w:World}{R:Ending->World->Prop}(h:Calls P f args w R):CallsIn (FW r) n P f args w R:=by
 have E:CallsIn Fence.wide n P f args w R:=callsIn_wide.2 h;cases r with
 |none=>exact E
 |some l=>exact E
def Qjh {r:Option Nat}{P:Program}{ρ:Operand->Value}{o:Oper}{x:Next}{w w':World}(h:(execOp ρ o).run P w=.ok x w')(I: ∀d,x≠ .defer d):(o.semAt r ρ).run P w=.ok x w':=by
 cases r with
 |none=>rw[Oper.semAt_none];exact h
 |some l=>
  rw[Oper.semAt_some];exact h;intro c J;unfold execOp at h;rw[J]at h;simp only[Sem.run_bind]at h;cases E:(resolve ρ c o.type).run P w with
  |ok d L=>rw[E]at h;simp only[Result.andThen_ok,Sem.run_pure]at h;injection h with h _;exact I _ h.symm
  |halt y L=>rw[E]at h;simp[Result.andThen]at h
section
variable {r:Option Nat}{P:Program}{ops:Array Oper}{Q:Exit->Act->World->Prop}{a:Act}{w:World}{rest:List Oper}{n:Nat}{ds:List Deferred}{l:List (Nat×Value)}
def enter {f:FuncId}{fn:Func}{c:Code}{vs:List Value}{m:Nat}{R:Ending->World->Prop}(E:P.funcs[f]?=some fn)(I:fn.body=some c)(J:fn.ntmps=m)(L:vs.length<=m)
  (h: ∀a,Fr a m [] (argl vs 0)->WP none P c (bodyPost P fn R) a w):Calls P f vs.toArray w R:=by
 refine calls_of_wp E I (wpIn_wide.1 (h _ ?_));subst J;exact Fr.entry vs _ L
def stepw {o:Oper}{x:Next}{w':World}(E:o.guard=none)(I:(execOp a.eval o).run P w=.ok x w')(J: ∀d,x≠ .defer d)
  (h: ∀K:Act->World->Prop,(∀a w,WL r P ops Q rest a w->K a w)->o.uponIn (FW r) 0 P a K Q (.ok x w')):WL r P ops Q (o::rest) a w:=
 wpListIn_plain E λK L=>⟨λ_ _=>trivial,by rw[Qjh I J];exact h K L⟩
def valw {d:Nat}{op:Op}{T:TypeId}{pos:String}{af:Array Edge}{v:Value}{w':World}(E:Fr a n ds l)(I:Nat.ble (d+1) n=true)
  (J:(execOp a.eval ⟨some d,op,T,pos,af,none⟩).run P w=.ok (.value v) w')
  (h: ∀a',Fr a' n ds ((d,v)::l)->WL r P ops Q rest a' w'):WL r P ops Q (⟨some d,op,T,pos,af,none⟩::rest) a w:=
 stepw rfl J (λ_ h=>by cases h) λ_ L=>L _ _ (h _ (E.put (Q8 I) v))
def val {d:Nat}{op:Op}{T:TypeId}{pos:String}{af:Array Edge}{v:Value}(E:Fr a n ds l)(I:Nat.ble (d+1) n=true)
  (J:(execOp a.eval ⟨some d,op,T,pos,af,none⟩).run P w=.ok (.value v) w)
  (h: ∀a',Fr a' n ds ((d,v)::l)->WL r P ops Q rest a' w):WL r P ops Q (⟨some d,op,T,pos,af,none⟩::rest) a w:=valw E I J h
def skipw {op:Op}{T:TypeId}{pos:String}{af:Array Edge}{w':World}(E:Fr a n ds l)
  (I:(execOp a.eval ⟨none,op,T,pos,af,none⟩).run P w=.ok .skip w')
  (h: ∀a',Fr a' n ds l->WL r P ops Q rest a' w'):WL r P ops Q (⟨none,op,T,pos,af,none⟩::rest) a w:=
 stepw rfl I (λ_ h=>by cases h) λ_ J=>J _ _ (h _ E)
def call {d:Nat}{op:Op}{T:TypeId}{pos:String}{af:Array Edge}{f:FuncId}{args:Array Value}{R:Ending->World->Prop}(E:Fr a n ds l)(I:Nat.ble (d+1) n=true)
  (J:(execOp a.eval ⟨some d,op,T,pos,af,none⟩).run P w=.ok (.enter f args) w) (L:Calls P f args w R)
  (h: ∀e w',R e w'->(∃v,e=.returned v/\∀a',Fr a' n ds ((d,v)::l)->WL r P ops Q rest a' w')\/(∃ch,e=.panicked ch/\Q (.panic ch) a w')):
  WL r P ops Q (⟨some d,op,T,pos,af,none⟩::rest) a w:=
 stepw rfl J (λ_ h=>by cases h) λ_ N=>⟨(λh=>by cases h),(Qkd L).mono λe w' O=>by
  rcases h e w' O with⟨v,rfl,h⟩|⟨ch,rfl,h⟩
  exact N _ _ (h _ (E.put (Q8 I) v));exact h⟩
def call1 {d:Nat}{op:Op}{T:TypeId}{pos:String}{af:Array Edge}{f:FuncId}{args:Array Value}{R:Ending->World->Prop}(E:Fr a n ds l)(I:Nat.ble (d+1) n=true)
  (J:(execOp a.eval ⟨some d,op,T,pos,af,none⟩).run P w=.ok (.enter f args) w) (L:Calls P f args w R)
  (h: ∀e w',R e w'->∃v,e=.returned v/\∀a',Fr a' n ds ((d,v)::l)->WL r P ops Q rest a' w'):
  WL r P ops Q (⟨some d,op,T,pos,af,none⟩::rest) a w:=call E I J L λe w' N=>.inl (h e w' N)
def defer {op:Op}{T:TypeId}{pos:String}{af:Array Edge}{dd:Deferred}(E:Fr a n ds l)
  (I:(execOp a.eval ⟨none,op,T,pos,af,none⟩).run P w=.ok (.defer dd) w)
  (h: ∀a',Fr a' n (dd::ds) l->WL none P ops Q rest a' w):WL none P ops Q (⟨none,op,T,pos,af,none⟩::rest) a w:=
 wpListIn_plain rfl λK J=>⟨λ_ _=>trivial,by
  show Oper.uponIn _ _ _ _ _ _ _ ((Oper.semAt none a.eval _).run P w);rw[Oper.semAt_none,I];exact J _ _ (h _ ⟨E.size,by rw[<-E.defs];rfl,E.get⟩)⟩
def on {dst:Option Tmp}{op:Op}{T:TypeId}{pos:String}{af:Array Edge}{j dj:Nat}{b:Bool}(E:Fr a n ds l)(I:(ops[j]?).bind (·.dst)=some dj)(J:lk l dj=some (.bool b))
  (h:WL r P ops Q (⟨dst,op,T,pos,af,none⟩::rest) a w):WL r P ops Q (⟨dst,op,T,pos,af,some (j,b)⟩::rest) a w:=by
 have L:yielded ops a.tmps j=some b:=by simp[yielded,I,E.get _ _ J]
 unfold WL wpListIn at h ⊢;have N:Region.wanted ⟨dst,op,T,pos,af,some (j,b)⟩ (yielded ops a.tmps)=true:=by simp[Region.wanted,L]
 have O:Region.wanted ⟨dst,op,T,pos,af,none⟩ (yielded ops a.tmps)=true:=by simp[Region.wanted]
 rw[Qc N];rw[Qc O]at h;exact h
def off {d:Nat}{op:Op}{T:TypeId}{pos:String}{af:Array Edge}{j dj:Nat}{b:Bool}{u:Value}(E:Fr a n ds l)(I:Nat.ble (d+1) n=true)(J:(ops[j]?).bind (·.dst)=some dj)(L:lk l dj=some u)
  (N:u=.bool (!b)\/u=undef)
  (h: ∀a',Fr a' n ds ((d,undef)::l)->WL r P ops Q rest a' w):WL r P ops Q (⟨some d,op,T,pos,af,some (j,b)⟩::rest) a w:=by
 have O:Region.wanted ⟨some d,op,T,pos,af,some (j,b)⟩ (yielded ops a.tmps)=false:=by
  rcases N with rfl|rfl<;>simp[Region.wanted,yielded,J,E.get _ _ L,undef]
 unfold WL wpListIn;rw[O];exact⟨λ_ _=>trivial,h _ (E.put (Q8 I) undef)⟩
def done (h:Q .normal a w):WL r P ops Q [] a w:=h
def reg {id:Nat}{lo:List Oper}(h:WL r P lo.toArray Q lo a w):WP r P (Code.region id lo.toArray false) Q a w:=wpIn_region_lit h
def cond {c:Operand}{x y:Code}{b:Bool}(E:Fr a n ds l)(I:ev l c=some (.bool b))(J:b=true->WP r P x Q a w)(L:b=false->WP r P y Q a w):WP r P (Code.cond c x y) Q a w:=
 wpIn_cond_split (E.eval I) J L
def condp {c:Operand}{x y:Code}{p:Prop}[Decidable p](E:Fr a n ds l)(I:ev l c=some (.bool (decide p)))(J:p->WP r P x Q a w)(L: ¬p->WP r P y Q a w):WP r P (Code.cond c x y) Q a w:=
 wpIn_cond_split (E.eval I) (λh=>J (Wb h)) (λh=>L (of_decide_eq_false h))
def condt {c:Operand}{x y:Code}(E:Fr a n ds l)(I:ev l c=some (.bool true))(J:WP r P x Q a w):WP r P (Code.cond c x y) Q a w:=
 wpIn_cond_split (E.eval I) (λ_=>J) (λh=>by cases h)
def condf {c:Operand}{x y:Code}(E:Fr a n ds l)(I:ev l c=some (.bool false))(J:WP r P y Q a w):WP r P (Code.cond c x y) Q a w:=
 wpIn_cond_split (E.eval I) (λh=>by cases h) (λ_=>J)
def skip (h:Q .normal a w):WP r P Code.skip Q a w:=wpIn_skip h
def exit {id:Nat}(h:Q (.exit id) a w):WP r P (Code.exit id) Q a w:=wpIn_exit h
def ret (h:Q .ret a w):WP r P Code.ret Q a w:=wpIn_ret h
def loop {c:Code}(I:Nat->Act->World->Prop)(m:Nat)(O:I m a w)
  (round: ∀m a w,I m a w->WP r P c (Exit.then (λa' w'=>∃m',m'<m/\I m' a' w') Q) a w):WP r P (Code.loop c) Q a w:=by
 intro b k cs E J L;have key: ∀m a w,I m a w->∃e a' w',Q e a' w'/\ArrivesIn (Machine.fenced P (FW r)) P (lone (b.atR a (.code c:: .inLoop c::k)) cs w) b k cs e a' w':=by
  intro m;induction m using Nat.strongRecOn with
  |_ m V=>
   intro a w W;obtain⟨e,a₁,w₁,hq,harr⟩:=round m a w W b (.inLoop c::k) cs E J L;cases e with
   |normal=>
    obtain⟨m',N,hI₁⟩:=hq;obtain⟨e₂,a₂,w₂,hq₂,harr₂⟩:=V m' N a₁ w₁ hI₁;exact⟨e₂,a₂,w₂,hq₂,.of_steps (StepsIn.trans harr (.one (fenced_calm J L rfl) stepR_inLoop)) harr₂⟩
   |exit id=>exact⟨_,a₁,w₁,hq,.pass (x:=.inLoop c) rfl (λ_ _=>.inl (by simp)) harr⟩
   |goto l=>exact⟨_,a₁,w₁,hq,.pass (x:=.inLoop c) rfl (λ_ _=>.inl (by simp)) harr⟩
   |ret=>exact⟨_,a₁,w₁,hq,.pass (x:=.inLoop c) rfl (λ_ _=>.inl (by simp)) harr⟩
   |panic ch=>exact⟨_,a₁,w₁,hq,.pass (x:=.inLoop c) rfl (λ_ _=>.inl (by simp)) harr⟩
   |outgrown=>exact⟨_,a₁,w₁,hq,.pass (x:=.inLoop c) rfl (λ_ _=>.inl (by simp)) harr⟩
 obtain⟨e,a',w',hq,harr⟩:=key m a w O;exact⟨e,a',w',hq,.of_steps (.one (fenced_calm J L rfl) stepR_loop) harr⟩
def ret0 {fn:Func}{R:Ending->World->Prop}(E:Fr a n [] l)(I:fn.results=#[])(J:R (.returned (.tuple #[])) w):bodyPost P fn R .ret a w:=
 bodyPost_ret (results_none I _ _ _) E.defs J
end
structure Ch (S:List Nat) (w w':World):Prop where
 os:w'.os=w.os
 tape:w'.tape=w.tape
 output:w'.output=w.output
 size:w.heap.size<=w'.heap.size
 block: ∀k,k<w.heap.size->k∉S->w'.heap[k]?=w.heap[k]?
def Ch.refl (w:World):Ch [] w w:=⟨rfl,rfl,rfl,Qt _,λ_ _ _=>rfl⟩
def Ch.refl' (S:List Nat)(w:World):Ch S w w:=⟨rfl,rfl,rfl,Qt _,λ_ _ _=>rfl⟩
def Ch.mono {S S':List Nat}{a b:World}(h:Ch S a b)(hs: ∀k,k∈S->k∈S'\/a.heap.size<=k):Ch S' a b:=
 ⟨h.os,h.tape,h.output,h.size,λk hk I=>h.block k hk (λJ=>by rcases hs k J with E|E;exact I E;omega)⟩
def Ch.then {S T U:List Nat}{a b c:World}(h:Ch S a b)(k:Ch T b c)(L: ∀i,i∈S->i∈U\/a.heap.size<=i:=by simp)(N: ∀i,i∈T->i∈U\/a.heap.size<=i:=by simp):Ch U a c:=
 ⟨k.os.trans h.os,k.tape.trans h.tape,k.output.trans h.output,Wq h.size k.size,λi hi J=>by
  have O:=h.size;refine(k.block i (by omega) (λI=>?_)).trans (h.block i hi (λI=>?_));rcases N i I with E|E
  exact J E;omega;rcases L i I with E|E
  exact J E;omega⟩
def Ch.of_grown {w w':World}{row:Option Nat}(h:w.grownBy w' row):Ch row.toList w w':=
 ⟨h.os,h.tape,h.output,h.size,λk hk E=>h.block k hk (λe=>E (by rw[<-e];simp))⟩
def Ch.below {w w':World}(h:Ch [] w w'):Below w.heap.size w w':=⟨h.os,h.tape,h.output,h.size,λk hk=>h.block k hk (by simp)⟩
def Ch.of_below {w w':World}(h:Below w.heap.size w w'):Ch [] w w':=⟨h.os,h.tape,h.output,h.size,λk hk _=>h.block k hk⟩
def Ch.drew (w:World):Ch [] w w.drew:=⟨rfl,rfl,rfl,Qt _,λ_ _ _=>rfl⟩
def Ch.alloc (w:World)(o:Obj):Ch [] w (w.alloc o):=⟨rfl,rfl,rfl,by simp,λk hk _=>Below.heap_alloc w o k hk⟩
def Ch.setRow (w:World)(g:Nat)(cs:Array Value):Ch [g] w (w.setRow g cs):=
 ⟨rfl,rfl,rfl,by simp[World.setRow],λk _ E=>setRow_other w g k cs (by simpa using E)⟩
def Ch.cell {S:List Nat}{w w':World}(h:Ch S w w'){p:Addr}(hp:p.block<w.heap.size)(E:p.block∉S):w'.cell? p=w.cell? p:=World.cell?_of_block (h.block _ hp E)
def Blk (w:World)(g:Nat)(t:TypeId)(cs:List Value):Prop:=w.heap[g]?=some (.cells cs.toArray t (0,0))
section
variable {w w':World}{g:Nat}{t:TypeId}{cs:List Value}
def Blk.lt (h:Blk w g t cs):g<w.heap.size:=by
 rcases Yy g w.heap.size with E|I
 exact E;unfold Blk at h;rw[Yj I]at h;cases h
def Blk.cell (h:Blk w g t cs)(i:Nat):w.cell? ⟨g,i,none⟩=cs[i]?:=by rw[cell_of_row w g i cs.toArray t (0,0) h];simp
def Blk.new (w:World)(t:TypeId)(cs:List Value):Blk (w.alloc (.cells cs.toArray t)) w.heap.size t cs:=heap_alloc_new w _
def Blk.ch {S:List Nat}(h:Blk w g t cs)(E:Ch S w w')(I:g∉S):Blk w' g t cs:=(E.block g h.lt I).trans h
end
section
variable {P:Program}{a:Act}{w:World}{d:Option Tmp}{T:TypeId}{pos:String}{af:Array Edge}{gd:Option (Nat×Bool)}
def r_move {x:Operand}{v:Value}(E:a.eval x=v):(execOp a.eval ⟨d,.move x,T,pos,af,gd⟩).run P w=.ok (.value v) w:=by
 simp[execOp,E]
def r_assign {x:Operand}{v:Value}(E:a.eval x=v):(execOp a.eval ⟨d,.assign x,T,pos,af,gd⟩).run P w=.ok (.value v) w:=by
 simp[execOp,E]
def r_pick_t {c x y:Operand}{u:Value}(E:a.eval c=.bool true)(I:a.eval x=u):
  (execOp a.eval ⟨d,.pick c x y,T,pos,af,gd⟩).run P w=.ok (.value u) w:=by
 simp[execOp,E,I,asBool]
def r_pick_f {c x y:Operand}{v:Value}(E:a.eval c=.bool false)(I:a.eval y=v):
  (execOp a.eval ⟨d,.pick c x y,T,pos,af,gd⟩).run P w=.ok (.value v) w:=by
 simp[execOp,E,I,asBool]
def r_not {t:TypeId}{x:Operand}{b:Bool}(E:a.eval x=.bool b):(execOp a.eval ⟨d,.unOp .not t x,T,pos,af,gd⟩).run P w=.ok (.value (.bool (!b))) w:=by
 simp[execOp,E,Op.unary]
def r_extract {x:Operand}{vs:Array Value}{i:Nat}{v:Value}(E:a.eval x=.tuple vs)(I:vs[i]?=some v):(execOp a.eval ⟨d,.extract x i,T,pos,af,gd⟩).run P w=.ok (.value v) w:=by
 simp[execOp,E,Instr.extract,I]
def r_nilCheck {x:Operand}{ad:Addr}(E:a.eval x=.pointer (some ad)):(execOp a.eval ⟨d,.nilCheck x,T,pos,af,gd⟩).run P w=.ok (.value (.pointer (some ad))) w:=by
 simp[execOp,E]
def r_makeFunc {fn:Fn}{first captured:Array Operand}{vs us:Array Value}(E:first.map a.eval=vs)(I:captured.map a.eval=us):
  (execOp a.eval ⟨d,.makeFunc fn first captured,T,pos,af,gd⟩).run P w=.ok (.value (.func fn vs us)) w:=by
 simp[execOp,Instr.makeFunc,E,I]
section ints
variable {t ty:TypeId}{x y:Operand}{k:IntKind}{m n:Int}
def r_add (E:a.eval x=.int k m)(I:a.eval y=.int k n):(execOp a.eval ⟨d,.binOp .add t x y ty,T,pos,af,gd⟩).run P w=.ok (.value (.int k (k.wrap (m+n)))) w:=by
 simp[execOp,E,I,binOp_add,eqGuard_add,Op.intArith]
def r_sub (E:a.eval x=.int k m)(I:a.eval y=.int k n):(execOp a.eval ⟨d,.binOp .sub t x y ty,T,pos,af,gd⟩).run P w=.ok (.value (.int k (k.wrap (m-n)))) w:=by
 simp[execOp,E,I,binOp_sub,eqGuard_sub,Op.intArith]
def r_mul (E:a.eval x=.int k m)(I:a.eval y=.int k n):(execOp a.eval ⟨d,.binOp .mul t x y ty,T,pos,af,gd⟩).run P w=.ok (.value (.int k (k.wrap (m*n)))) w:=by
 simp[execOp,E,I,binOp_mul,eqGuard_mul,Op.intArith]
def r_quo (E:a.eval x=.int k m)(I:a.eval y=.int k n)(J:n≠0):(execOp a.eval ⟨d,.binOp .quo t x y ty,T,pos,af,gd⟩).run P w=.ok (.value (.int k (k.wrap (m.tdiv n)))) w:=by
 simp[execOp,E,I,binOp_quo,eqGuard_quo,Op.intDiv,J]
def r_rem (E:a.eval x=.int k m)(I:a.eval y=.int k n)(J:n≠0):(execOp a.eval ⟨d,.binOp .rem t x y ty,T,pos,af,gd⟩).run P w=.ok (.value (.int k (m.tmod n))) w:=by
 simp[execOp,E,I,binOp_rem,eqGuard_rem,Op.intDiv,J]
def r_lss (E:a.eval x=.int k m)(I:a.eval y=.int k n):(execOp a.eval ⟨d,.binOp .lss t x y ty,T,pos,af,gd⟩).run P w=.ok (.value (.bool (decide (m<n)))) w:=by
 simp[execOp,E,I,binOp_lss,eqGuard_lss]
def r_leq (E:a.eval x=.int k m)(I:a.eval y=.int k n):(execOp a.eval ⟨d,.binOp .leq t x y ty,T,pos,af,gd⟩).run P w=.ok (.value (.bool (decide (m<=n)))) w:=by
 simp[execOp,E,I,binOp_leq,eqGuard_leq]
def r_gtr (E:a.eval x=.int k m)(I:a.eval y=.int k n):(execOp a.eval ⟨d,.binOp .gtr t x y ty,T,pos,af,gd⟩).run P w=.ok (.value (.bool (decide (n<m)))) w:=by
 simp[execOp,E,I,binOp_gtr,eqGuard_gtr]
def r_geq (E:a.eval x=.int k m)(I:a.eval y=.int k n):(execOp a.eval ⟨d,.binOp .geq t x y ty,T,pos,af,gd⟩).run P w=.ok (.value (.bool (decide (n<=m)))) w:=by
 simp[execOp,E,I,binOp_geq,eqGuard_geq]
def r_eql (E:a.eval x=.int k m)(I:a.eval y=.int k n):(execOp a.eval ⟨d,.binOp .eql t x y ty,T,pos,af,gd⟩).run P w=.ok (.value (.bool (decide (m=n)))) w:=by
 simp[execOp,E,I,binOp_eql,eqGuard_at_int];rfl
def r_neq (E:a.eval x=.int k m)(I:a.eval y=.int k n):(execOp a.eval ⟨d,.binOp .neq t x y ty,T,pos,af,gd⟩).run P w=.ok (.value (.bool (decide (m≠n)))) w:=by
 have e:(m !=n)=decide (m≠n):=by rw[Jg];simp
 simp only[execOp,E,I,binOp_neq,eqGuard_at_int,Sem.run_bind,Sem.run_pure,Result.andThen_ok,e]
def r_shr {k':IntKind}(E:a.eval x=.int .u64 m)(I:a.eval y=.int k' n)(J:0<=n)(L:n<=64):(execOp a.eval ⟨d,.binOp .shr t x y ty,T,pos,af,gd⟩).run P w=.ok (.value (.int .u64 (m / 2^n.toNat))) w:=by
 simp[execOp,E,I,binOp_shr,eqGuard_shr,shift_shr_u64 k' m n J L]
end ints
section bools
variable {t ty:TypeId}{x y:Operand}{b c:Bool}
def Qdm {t:TypeId}(E:P.underlying t=some .bool)(m:Nat):(Op.equalIn (m+1) t (.bool b) (.bool c)).run P w=.ok (b==c) w:=by
 simp[Op.equalIn,run_underlying E]
def Qbz {t:TypeId}(E:P.underlying t=some .bool):(Op.equal t (.bool b) (.bool c)).run P w=.ok (b==c) w:=Qdm E 9999
def r_eqb (E:P.underlying t=some .bool)(I:a.eval x=.bool b)(J:a.eval y=.bool c):(execOp a.eval ⟨d,.binOp .eql t x y ty,T,pos,af,gd⟩).run P w=.ok (.value (.bool (b==c))) w:=by
 simp[execOp,I,J,eqGuard_at_bool,binOp,Qbz E]
def r_neb (E:P.underlying t=some .bool)(I:a.eval x=.bool b)(J:a.eval y=.bool c):(execOp a.eval ⟨d,.binOp .neq t x y ty,T,pos,af,gd⟩).run P w=.ok (.value (.bool (!(b==c)))) w:=by
 simp[execOp,I,J,eqGuard_at_bool,binOp,Qbz E]
end bools
section strings
variable {t ty:TypeId}{x y:Operand}{s u:ByteArray}
def str_eq (s u:ByteArray):(s.toList==u.toList)=decide (s=u):=by
 rw[Jg];simp only[beq_iff_eq,Qs];constructor;intro h;rw[ByteArray.toList_eq,ByteArray.toList_eq]at h;exact ByteArray.ext (Array.toList_inj.1 h);rintro rfl;rfl
def r_eqs (E:a.eval x=.string s)(I:a.eval y=.string u):(execOp a.eval ⟨d,.binOp .eql t x y ty,T,pos,af,gd⟩).run P w=.ok (.value (.bool (decide (s=u)))) w:=by
 simp[execOp,E,I,eqGuard_at_string,binOp,Op.stringOp,str_eq]
def r_nes (E:a.eval x=.string s)(I:a.eval y=.string u):(execOp a.eval ⟨d,.binOp .neq t x y ty,T,pos,af,gd⟩).run P w=.ok (.value (.bool (!decide (s=u)))) w:=by
 simp[execOp,E,I,eqGuard_at_string,binOp,Op.stringOp,str_eq]
end strings
section conv
variable {src dst:TypeId}{x:Operand}{k k':IntKind}{n:Int}
def r_conv {de:TypeDesc}(hs:P.underlying src=some de)(E:P.underlying dst=some (.int k'))(I:a.eval x=.int k n):(execOp a.eval ⟨d,.convert src dst x,T,pos,af,gd⟩).run P w=.ok (.value (.int k' (k'.wrap n))) w:=by
 simp[execOp,I,convert,run_underlying hs,run_underlying E,Conv.intToInt]
end conv
section lens
variable {t e:TypeId}{x y:Operand}{A:Option Addr}{n c:Nat}
def r_len (E:P.underlying t=some (.slice e))(I:a.eval x=.slice A n c):
  (execOp a.eval ⟨d,.call {callee:=.builtin .len,args:=#[x],argTypes:=#[t]},T,pos,af,gd⟩).run P w=.ok (.value (.int .i64 (n:Int))) w:=by
 simp[execOp,resolve,invoke,builtin,I,Builtin.len_,run_underlying E,goInt]
def r_lens {s:ByteArray}(E:P.underlying t=some .string)(I:a.eval x=.string s):
  (execOp a.eval ⟨d,.call {callee:=.builtin .len,args:=#[x],argTypes:=#[t]},T,pos,af,gd⟩).run P w=.ok (.value (.int .i64 (s.size:Int))) w:=by
 simp[execOp,resolve,invoke,builtin,I,Builtin.len_,run_underlying E,goInt]
def r_min {k k':IntKind}{p q:Int}{ts:Array TypeId}(E:a.eval x=.int k p)(I:a.eval y=.int k' q):
  (execOp a.eval ⟨d,.call {callee:=.builtin .min,args:=#[x,y],argTypes:=ts},T,pos,af,gd⟩).run P w=.ok (.value (.int k (min p q))) w:=by
 have e:(if q<p then q else p)=min p q:=by omega
 simp[execOp,resolve,invoke,builtin,E,I,Builtin.min_,Builtin.min2,e]
def r_max {k k':IntKind}{p q:Int}{ts:Array TypeId}(E:a.eval x=.int k p)(I:a.eval y=.int k' q):
  (execOp a.eval ⟨d,.call {callee:=.builtin .max,args:=#[x,y],argTypes:=ts},T,pos,af,gd⟩).run P w=.ok (.value (.int k (max p q))) w:=by
 have e:(if p<q then q else p)=max p q:=by omega
 simp[execOp,resolve,invoke,builtin,E,I,Builtin.max_,Builtin.max2,e]
end lens
section mem
variable {t e:TypeId}{x y:Operand}{g o:Nat}{cs:List Value}{v:Value}{n:Nat}
def r_load1 {ad:Addr}(E: ∀w,(isAgg t).run P w=.ok false w)(I:a.eval x=.pointer (some ad))(J:w.cell? ad=some v):
  (execOp a.eval ⟨d,.load t x,T,pos,af,gd⟩).run P w=.ok (.value v) w:=by
 simp[execOp,Instr.loadAt,I,Instr.sureAddr,loadVar,E,J]
def r_loadN {ad:Addr}(E: ∀w,(isAgg t).run P w=.ok true w)(I: ∀w,(sizeOf t).run P w=.ok n w)(J:a.eval x=.pointer (some ad))(L:cs.length=n)
  (N: ∀j u,cs[j]?=some u->w.cell? (ad.add j)=some u):
  (execOp a.eval ⟨d,.load t x,T,pos,af,gd⟩).run P w=.ok (.value (.agg cs.toArray)) w:=by
 subst L;have:=run_loadCells_list (P:=P) w ad cs N;simp[execOp,Instr.loadAt,J,Instr.sureAddr,loadVar,E,I,this]
def r_indexAddr {A:Addr}{c:Nat}{i:Int}{k:IntKind}(E:P.underlying t=some (.slice e))(I: ∀w,(sizeOf e).run P w=.ok g w)(J:a.eval x=.slice (some A) n c)(L:a.eval y=.int k i)(N:0<=i)(O:i<n):
  (execOp a.eval ⟨d,.indexAddr t x y,T,pos,af,gd⟩).run P w=.ok (.value (.pointer (some (A.add (i.toNat*g))))) w:=by
 simp[execOp,Instr.indexAt,J,L,asIntOf,run_underlying E,I,N,O]
end mem
end
inductive Ty where
 |int (k:IntKind)
 |byte
 |bool
 |str
 |slice (e:Ty)
 |pair (a b:Ty)
@[reducible] def Ty.den:Ty->Type
 | .int _=>Int
 | .byte=>UInt8
 | .bool=>Bool
 | .str=>ByteArray
 | .slice e=>List e.den
 | .pair a b=>a.den×b.den
def Ty.size:Ty->Nat
 | .pair a b=>a.size+b.size
 |_=>1
def Ty.rep (w:World)(F:Nat->Prop):(t:Ty)->List Value->t.den->Prop
 | .int k,cs,x=>cs=[.int k x]/\k.has x
 | .byte,cs,x=>cs=[.int .u8 (x.toNat:Int)]
 | .bool,cs,x=>cs=[.bool x]
 | .str,cs,x=>cs=[.string x]/\x.size<=maxLen
 | .slice e,cs,xs=>∃(A:Option Addr) (c:Nat) (cells:List Value),cs=[.slice A xs.length c]/\xs.length<=c/\c<=maxLen/\cells.length=xs.length*e.size/\
   (xs.length=0\/∃b o,A=some ⟨b,o,none⟩/\F b/\∀j u,cells[j]?=some u->w.cell? ⟨b,o+j,none⟩=some u)/\
   ∀(i:Nat) (x:e.den),xs[i]?=some x->e.rep w F ((cells.drop (i*e.size)).take e.size) x
 | .pair a b,cs,x=>∃ca cb,cs=ca++cb/\a.rep w F ca x.1/\b.rep w F cb x.2
section
variable {w w':World}{F F':Nat->Prop}
def Qkk: ∀(t:Ty) {cs:List Value} {x:t.den},t.rep w F cs x->cs.length=t.size
 | .int _,_,_,h=>by rw[h.1];rfl
 | .byte,_,_,h=>by rw[show _=_ from h];rfl
 | .bool,_,_,h=>by rw[show _=_ from h];rfl
 | .str,_,_,h=>by rw[h.1];rfl
 | .slice e,_,_,h=>by obtain⟨A,c,cells,h,_⟩:=h;rw[h];rfl
 | .pair a b,_,_,h=>by
  obtain⟨ca,cb,h,E,I⟩:=h;rw[h,Qm,Qkk a E,Qkk b I];rfl
def Qgy: ∀(t:Ty) {cs:List Value} {x:t.den},t.rep w F cs x->∀u∈cs,u.oneCell'=true
 | .int _,_,_,h=>by rw[h.1];simp[Value.oneCell']
 | .byte,_,_,h=>by rw[show _=_ from h];simp[Value.oneCell']
 | .bool,_,_,h=>by rw[show _=_ from h];simp[Value.oneCell']
 | .str,_,_,h=>by rw[h.1];simp[Value.oneCell']
 | .slice e,_,_,h=>by obtain⟨A,c,cells,h,_⟩:=h;rw[h];simp[Value.oneCell']
 | .pair a b,_,_,h=>by
  obtain⟨ca,cb,h,I,J⟩:=h;intro u E;rw[h,Q2]at E;rcases E with E|E
  exact Qgy a I u E;exact Qgy b J u E
def rep_keep (hk: ∀p:Addr,F p.block->p.block<w.heap.size->w'.cell? p=w.cell? p)(E: ∀b,F b->F' b): ∀(t:Ty) {cs:List Value} {x:t.den},t.rep w F cs x->t.rep w' F' cs x
 | .int _,_,_,h=>h
 | .byte,_,_,h=>h
 | .bool,_,_,h=>h
 | .str,_,_,h=>h
 | .slice e,_,_,h=>by
  obtain⟨A,c,cells,L,N,O,V,J,h6⟩:=h;refine⟨A,c,cells,L,N,O,V,?_,λi x hi=>rep_keep hk E e (h6 i x hi)⟩;rcases J with J|⟨b,o,W,I,Y⟩
  exact .inl J;refine .inr ⟨b,o,W,E b I,λj u hu=>?_⟩;have:=Y j u hu;rw[hk ⟨b,o+j,none⟩ I (World.block_lt_of_cell? w _ this)];exact this
 | .pair a b,_,_,h=>by
  obtain⟨ca,cb,h,ha,I⟩:=h;exact⟨ca,cb,h,rep_keep hk E a ha,rep_keep hk E b I⟩
def Ty.flat:Ty->Bool
 | .slice _=>false
 | .pair a b=>a.flat&&b.flat
 |_=>true
def rep_flat: ∀(t:Ty),t.flat=true->∀{cs:List Value} {x:t.den},t.rep w F cs x->t.rep w F' cs x
 | .int _,_,_,_,h=>h
 | .byte,_,_,_,h=>h
 | .bool,_,_,_,h=>h
 | .str,_,_,_,h=>h
 | .slice e,E,_,_,_=>by cases E
 | .pair a b,E,_,_,h=>by
  simp only[Ty.flat,Qo]at E;obtain⟨ca,cb,h,I,J⟩:=h;exact⟨ca,cb,h,rep_flat a E.1 I,rep_flat b E.2 J⟩
def rep_ch {S:List Nat}(E:Ch S w w')(I: ∀b,F b->b∉S)(t:Ty){cs:List Value}{x:t.den}(h:t.rep w F cs x):t.rep w' F cs x:=
 rep_keep (λ_ hp J=>E.cell J (I _ hp)) (λ_ h=>h) t h
def rep_ch0 (E:Ch [] w w')(t:Ty){cs:List Value}{x:t.den}(h:t.rep w F cs x):t.rep w' F cs x:=rep_ch E (λ_ _=>by simp) t h
def Qgh (E: ∀b,F b->F' b)(t:Ty){cs:List Value}{x:t.den}(h:t.rep w F cs x):t.rep w F' cs x:=rep_keep (λ_ _ _=>rfl) E t h
def rep_slice {e:Ty}{cs:List Value}{xs:List e.den}(h:(Ty.slice e).rep w F cs xs): ∃A c,cs=[.slice A xs.length c]/\xs.length<=c/\c<=maxLen:=by
 obtain⟨A,c,cells,E,I,J,_⟩:=h;exact⟨A,c,E,I,J⟩
def rep_slice_len {e:Ty}{A:Option Addr}{n c:Nat}{xs:List e.den}(h:(Ty.slice e).rep w F [.slice A n c] xs):xs.length=n/\n<=c/\c<=maxLen:=by
 obtain⟨A',c',cells,E,I,J,_⟩:=h;injection E with E
 injection E with O L N
 subst L;subst N;exact⟨rfl,I,J⟩
def Qgk (e:Ty):(Ty.slice e).rep w F [.slice none 0 0] []:=⟨none,0,[],rfl,Qt _,by simp[maxLen],by simp,.inl rfl,λi x h=>by simp at h⟩
def rep_take {e:Ty}{A:Option Addr}{n c:Nat}{xs:List e.den}(h:(Ty.slice e).rep w F [.slice A n c] xs){k:Nat}(hk:k<=xs.length):(Ty.slice e).rep w F [.slice A k c] (xs.take k):=by
 obtain⟨A',c',cells,I,h2,V,W,N,h6⟩:=h;injection I with I
 injection I with J hn Y
 subst J;subst Y;have L:(xs.take k).length=k:=by rw[Qy];omega
 refine⟨A,c,cells.take (k*e.size),by rw[L],by omega,V,by rw[Qy,W,L];exact X6 (Wj _ hk),?_,λi x hi=>?_⟩;rw[L];rcases N with N|⟨b,o,J,hb,hcell⟩
 exact .inl (by omega);refine .inr ⟨b,o,J,hb,λj u O=>hcell j u ?_⟩;have hj:=(Qd.1 O).1;rw[Qy]at hj;rwa[Wo (by omega)]at O;have E:i<k:=by
  have:=(Qd.1 hi).1;omega
 have hx:xs[i]?=some x:=by rwa[Wo E]at hi
 have:=h6 i x hx;have hm:(i+1)*e.size<=k*e.size:=Wj _ E;rw[Xr,Yx]at hm;rw[List.drop_take,Jk,X6 (by omega)];exact this
end
def obl:Option Addr->List Nat
 |none=>[]
 |some a=>[a.block]
def Own (t:Ty)(e:TypeId)(B:Nat)(w:World)(F:Nat->Prop)(A:Option Addr)(c:Nat)(xs:List t.den):Prop:=
 ∃cells:List Value,w.ownsRow B e t.size (.slice A xs.length c) xs.length cells/\(∀u∈cells,u.oneCell'=true)/\
  ∀(i:Nat) (x:t.den),xs[i]?=some x->t.rep w F ((cells.drop (i*t.size)).take t.size) x
section
variable {t:Ty}{e:TypeId}{B:Nat}{w w':World}{F F':Nat->Prop}{A:Option Addr}{c:Nat}{xs:List t.den}
def ownBlock_slice (A:Option Addr)(n c:Nat):(Value.slice A n c).ownBlock.toList=obl A:=by cases A<;>rfl
def Own.nil (t:Ty)(e:TypeId)(B:Nat)(w:World)(F:Nat->Prop):Own t e B w F none 0 []:=
 ⟨[],World.ownsRow_nil w B e t.size,by simp,λi x h=>by simp at h⟩
def Own.lt (h:Own t e B w F A c xs): ∀k,k∈obl A->B<=k/\k<w.heap.size:=by
 obtain⟨cells,E,_⟩:=h;intro k hk;exact E.lt k (by cases A<;>simp_all [obl,Value.ownBlock])
def Own.len (h:Own t e B w F A c xs):xs.length<=c/\c<=maxLen:=by
 obtain⟨cells,J,_⟩:=h;rcases J.2 with⟨E,O⟩|⟨g,cap,cur,E,_,_,L,N,_⟩
 injection E with _ _ I;subst I;exact⟨by omega,by simp[maxLen]⟩
 injection E with _ _ I;subst I;exact⟨L,N⟩
def Own.more (h:Own t e B w F A c xs)(E: ∀b,F b->F' b):Own t e B w F' A c xs:=by
 obtain⟨cells,I,J,L⟩:=h;exact⟨cells,I,J,λi x hi=>Qgh E t (L i x hi)⟩
def Own.base {B':Nat}(h:Own t e B w F A c xs)(O:B'<=B):Own t e B' w F A c xs:=by
 obtain⟨cells,E,I,J⟩:=h;refine⟨cells,⟨E.1,?_⟩,I,J⟩;rcases E.2 with L|⟨g,cap,cur,N,V,rest⟩
 exact .inl L;exact .inr ⟨g,cap,cur,N,by omega,rest⟩
def Own.rep (h:Own t e B w F A c xs)(O: ∀b,F b->F' b)(hA: ∀k,k∈obl A->F' k):(Ty.slice t).rep w F' [.slice A xs.length c] xs:=by
 obtain⟨cells,V,h1,W⟩:=h;have Y:cells.length=xs.length*t.size:=V.1;rcases V.2 with⟨I,hn⟩|⟨g,cap,cur,I,hb,hg,J,L,hcs,htake⟩
 injection I with hA' _ N
 subst hA';subst N;exact⟨none,0,cells,rfl,by omega,by simp[maxLen],Y,.inl hn,λi x hi=>Qgh O t (W i x hi)⟩;injection I with hA' _ N
 subst hA';subst N;refine⟨_,_,cells,rfl,J,L,Y,.inr ⟨g,0,rfl,hA g (by simp[obl]),λj u E=>?_⟩,λi x hi=>Qgh O t (W i x hi)⟩;rw[Xc,cell_of_row w g j cur e (0,0) hg];rw[<-htake,Xp]at E;split at E;simpa using E;cases E
def Own.made {w:World}{g:Nat}{cs:List Value}(I:Blk w g e cs)(J:B<=g)(E:cs.length=xs.length*t.size)(L:xs.length<=maxLen)(N: ∀u∈cs,u.oneCell'=true)
  (O: ∀(i:Nat) (x:t.den),xs[i]?=some x->t.rep w F ((cs.drop (i*t.size)).take t.size) x):Own t e B w F (some ⟨g,0,none⟩) xs.length xs:=
 ⟨cs,⟨E,.inr ⟨g,xs.length,cs.toArray,rfl,J,I,Qt _,L,by simpa using E,by simp[<-E]⟩⟩,N,O⟩
end
def Qfo {t:Ty}{w:World}{F:Nat->Prop}{xs ys:List t.den}{cs ds:List Value}(I:cs.length=xs.length*t.size)
  (J: ∀(i:Nat) (x:t.den),xs[i]?=some x->t.rep w F ((cs.drop (i*t.size)).take t.size) x) (L: ∀(i:Nat) (x:t.den),ys[i]?=some x->t.rep w F ((ds.drop (i*t.size)).take t.size) x):
  ∀(i:Nat) (x:t.den),(xs++ys)[i]?=some x->t.rep w F (((cs++ds).drop (i*t.size)).take t.size) x:=by
 intro i x hi;by_cases E:i<xs.length;rw[Wc E]at hi;have N:(i+1)*t.size<=xs.length*t.size:=Wj _ E;rw[Xr,Yx]at N;rw[List.drop_append_of_le_length (by omega),List.take_append_of_le_length (by rw[Xv];omega)];exact J i x hi;rw[Q9 (by omega)]at hi;have:=L _ _ hi;have e:(cs++ds).drop (i*t.size)=ds.drop ((i-xs.length)*t.size):=by
  rw[List.drop_append,Q6 (by rw[I];exact Wj _ (by omega)),Wl,I,Nat.sub_mul]
 rw[e];exact this
section
variable {P:Program}{t:Ty}{e:TypeId}{B:Nat}{w:World}{F:Nat->Prop}{A:Option Addr}{c:Nat}{xs:List t.den}
end
def evs (l:List (Nat×Value)):List Operand->Option (List Value)
 | []=>some []
 |x::r=>match ev l x,evs l r with
  |some v,some vs=>some (v::vs)
  |_,_=>none
def evp (l:List (Nat×Value)):List (Nat×Operand)->Option (List (Nat×Value))
 | []=>some []
 |(i,x)::r=>match ev l x,evp l r with
  |some v,some vs=>some ((i,v)::vs)
  |_,_=>none
def Fr.evals {a:Act}{n:Nat}{ds:List Deferred}{l:List (Nat×Value)}(h:Fr a n ds l): ∀(xs:List Operand) {vs:List Value},evs l xs=some vs->xs.toArray.map a.eval=vs.toArray:=by
 intro xs;induction xs with
 |nil=>intro vs E;simp only[evs,Qz]at E;subst E;simp
 |cons x r L=>
  intro vs E;unfold evs at E;cases I:ev l x with
  |none=>simp[I]at E
  |some v=>
   cases J:evs l r with
   |none=>simp[I,J]at E
   |some us=>
    simp only[I,J,Qz]at E;subst E;have:=L J;simp only[Ya,Q1,h.eval I]at this ⊢;rw[Array.mk.injEq]at this;rw[this]
def Fr.evalp {a:Act}{n:Nat}{ds:List Deferred}{l:List (Nat×Value)}(h:Fr a n ds l): ∀(xs:List (Nat×Operand)) {vs:List (Nat×Value)},evp l xs=some vs->
  xs.toArray.map (λ(i,x)=>(i,a.eval x))=vs.toArray:=by
 intro xs;induction xs with
 |nil=>intro vs E;simp only[evp,Qz]at E;subst E;simp
 |cons x r L=>
  obtain⟨i,x⟩:=x;intro vs E;unfold evp at E;cases I:ev l x with
  |none=>simp[I]at E
  |some v=>
   cases J:evp l r with
   |none=>simp[I,J]at E
   |some us=>
    simp only[I,J,Qz]at E;subst E;have:=L J;simp only[Ya,Q1,h.eval I]at this ⊢;rw[Array.mk.injEq]at this;rw[this]
section
variable {P:Program}{a:Act}{w:World}{d:Option Tmp}{T:TypeId}{pos:String}{af:Array Edge}{gd:Option (Nat×Bool)}{n:Nat}{ds:List Deferred}{l:List (Nat×Value)}
def Qhz {t:TypeId}{x:Operand}{fs:Array Field}{f:Field}{i m:Nat}{ad:Addr}(E:P.underlying t=some (.struct fs))(I:fs[i]?=some f)(J: ∀w,(sizeOf f.type).run P w=.ok (m+1) w)(L:a.eval x=.pointer (some ad)):
  (execOp a.eval ⟨d,.fieldAddr t x i,T,pos,af,gd⟩).run P w=.ok (.value (.pointer (some (ad.add f.offset)))) w:=by
 simp[execOp,Instr.fieldAt,run_underlying E,I,L,Instr.sureAddr,fieldPlace,J]
section
variable {t e:TypeId}{x lo hi mx:Operand}{A:Option Addr}{len c sz:Nat}{k k1 k2 k3:IntKind}{p q r:Int}
def Qem {u:Nat}(E:P.underlying t=some (.slice e))(I: ∀w,(sizeOf e).run P w=.ok sz w)(J:a.eval x=.slice A len c)(L:a.eval hi=.int k q)(hq:q=(u:Int))(N:u<=c):
  (execOp a.eval ⟨d,.slice t x none (some hi) none,T,pos,af,gd⟩).run P w=.ok (.value (.slice A u c)) w:=by
 subst hq;simp[execOp,Instr.sliceAt,run_underlying E,J,L,Instr.slice,Instr.sliceBounds,Instr.sliceBound,asIntOf,N,I];cases A<;>simp[Addr.add]
def r_eqnil {ty:TypeId}{y:Operand}(E:P.underlying t=some (.slice e))(I:a.eval x=.slice A len c)(J:a.eval y=.slice none 0 0):
  (execOp a.eval ⟨d,.binOp .eql t x y ty,T,pos,af,gd⟩).run P w=.ok (.value (.bool A.isNone)) w:=by
 have h: ∀m,(Op.equalIn (m+1) t (.slice A len c) (.slice none 0 0)).run P w=.ok A.isNone w:=λm=>by
  cases A<;>simp[Op.equalIn,run_underlying E]
 have L:(Op.equal t (.slice A len c) (.slice none 0 0)).run P w=.ok A.isNone w:=h 9999;simp[execOp,I,J,eqGuard_at_slice,binOp,L]
end
def r_callv {f:FuncId}{c:Operand}{xs:List Operand}{vs first cap:List Value}{ts:Array TypeId}(E: ∀args w,(callFunc f args).run P w=.ok (.enter f args) w)(I:Fr a n ds l)
  (J:ev l c=some (.func (.func f) first.toArray cap.toArray)) (L:evs l xs=some vs):
  (execOp a.eval ⟨d,.call {callee:=.value c,args:=xs.toArray,argTypes:=ts},T,pos,af,gd⟩).run P w=.ok (.enter f (first++vs++cap).toArray) w:=by
 have h:=I.evals xs L;have N:=I.eval J;simp only[execOp,resolve,h,N];simp[Deferred.ofValue,invoke,E]
end
section
variable {r:Option Nat}{P:Program}{ops:Array Oper}{Q:Exit->Act->World->Prop}{a:Act}{w:World}{rest:List Oper}{n:Nat}{ds:List Deferred}{l:List (Nat×Value)}{d:Nat}{T:TypeId}{pos:String}{af:Array Edge}
def st_box {e:TypeId}{x:Operand}{v:Value}{cs:List Value}(E:Fr a n ds l)(I:Nat.ble (d+1) n=true)(J:ev l x=some v)(L:v.cells=cs.toArray)
  (h: ∀g w' a',g=w.heap.size->w'.heap.size=g+1->Blk w' g e cs->Ch [] w w'->Fr a' n ds ((d,.pointer (some ⟨g,0,none⟩))::l)->WL r P ops Q rest a' w'):
  WL r P ops Q (⟨some d,.box e x,T,pos,af,none⟩::rest) a w:=
 valw (w':=w.alloc (.cells cs.toArray e)) (v:=.pointer (some ⟨w.heap.size,0,none⟩)) E I (by simp[execOp,E.eval J,Instr.box,newVar,newRow,L])
  λa' hf'=>h _ _ a' rfl (by simp) (Blk.new w e cs) (Ch.alloc w _) hf'
def st_alloc {e:TypeId}{z:Value}{cs:List Value}(E:Fr a n ds l)(I:Nat.ble (d+1) n=true)(J: ∀w,(zeroValue e).run P w=.ok z w)(L:z.cells=cs.toArray)
  (h: ∀g w' a',g=w.heap.size->w'.heap.size=g+1->Blk w' g e cs->Ch [] w w'->Fr a' n ds ((d,.pointer (some ⟨g,0,none⟩))::l)->WL r P ops Q rest a' w'):
  WL r P ops Q (⟨some d,.alloc e,T,pos,af,none⟩::rest) a w:=
 valw (w':=w.alloc (.cells cs.toArray e)) (v:=.pointer (some ⟨w.heap.size,0,none⟩)) E I (by simp[execOp,Instr.alloc,J,newVar,newRow,L])
  λa' hf'=>h _ _ a' rfl (by simp) (Blk.new w e cs) (Ch.alloc w _) hf'
def run_bslice {t e:TypeId}{len sz:Nat}{z:Value}{vs:List (Nat×Value)}{cs:List Value}(E:P.underlying t=some (.slice e))(I: ∀w,(sizeOf e).run P w=.ok sz w)(J: ∀w,(zeroValue e).run P w=.ok z w)
  (hs:len*sz<=2^24) (L:len*sz≠0) (N:Instr.fill (λi=>some (i*sz,sz)) ((Array.range (len*sz)).map (z.cells[· %z.cells.size]!)) vs=some cs.toArray):
  (Instr.buildSlice t len vs.toArray).run P w=.ok (.slice (some ⟨w.heap.size,0,none⟩) len len) (w.alloc (.cells cs.toArray e)):=by
 have O: ¬2^24<len*sz:=by omega
 simp only[Instr.buildSlice,Sem.run_bind,run_underlying E,Result.andThen_ok,I,O,Wa,L,J,Sem.run_pure,N,newRow,run_newObj,gt_iff_lt];rfl
def st_bslice {t e:TypeId}{len sz:Nat}{z:Value}{parts:List (Nat×Operand)}{vs:List (Nat×Value)}{cs:List Value}(I:Fr a n ds l)(J:Nat.ble (d+1) n=true)(L:P.underlying t=some (.slice e))(N: ∀w,(sizeOf e).run P w=.ok sz w)
  (O: ∀w,(zeroValue e).run P w=.ok z w) (hp:evp l parts=some vs) (hs:Nat.ble (len*sz) 16777216=true) (V:Nat.ble 1 (len*sz)=true)
  (W:Instr.fill (λi=>some (i*sz,sz)) ((Array.range (len*sz)).map (z.cells[· %z.cells.size]!)) vs=some cs.toArray)
  (h: ∀g w' a',g=w.heap.size->w'.heap.size=g+1->Blk w' g e cs->Ch [] w w'->Fr a' n ds ((d,.slice (some ⟨g,0,none⟩) len len)::l)->WL r P ops Q rest a' w'):
  WL r P ops Q (⟨some d,.buildSlice t len parts.toArray,T,pos,af,none⟩::rest) a w:=
 valw (w':=w.alloc (.cells cs.toArray e)) (v:=.slice (some ⟨w.heap.size,0,none⟩) len len) I J (by
  have Y:=run_bslice (P:=P) (w:=w) L N O (Q8 hs) (by have:=Q8 V;omega) W;have E:=I.evalp parts hp;simp only[execOp,E,Sem.run_bind,Y,Result.andThen_ok,Sem.run_pure])
  λa' hf'=>h _ _ a' rfl (by simp) (Blk.new w e cs) (Ch.alloc w _) hf'
def st_bslice0 {t e:TypeId}{sz:Nat}(E:Fr a n ds l)(I:Nat.ble (d+1) n=true)(J:P.underlying t=some (.slice e))(L: ∀w,(sizeOf e).run P w=.ok sz w)
  (h: ∀g w' a',g=w.heap.size->w'.heap.size=g+1->Blk w' g e []->Ch [] w w'->Fr a' n ds ((d,.slice (some ⟨g,0,none⟩) 0 0)::l)->WL r P ops Q rest a' w'):
  WL r P ops Q (⟨some d,.buildSlice t 0 #[],T,pos,af,none⟩::rest) a w:=
 valw (w':=w.alloc (.cells ([]:List Value).toArray e)) (v:=.slice (some ⟨w.heap.size,0,none⟩) 0 0) E I (by
  simp only[execOp,Instr.buildSlice,Sem.run_bind,run_underlying J,Result.andThen_ok,L,Nat.zero_mul];simp[Instr.fill,newRow,Array.range_zero'])
  λa' hf'=>h _ _ a' rfl (by simp) (Blk.new w e []) (Ch.alloc w _) hf'
def run_storeB {t bt:TypeId}{g o m:Nat}{cs new:List Value}{v:Value}(I:Blk w g bt cs)(J: ∀w,(sizeOf t).run P w=.ok m w)(L:v.cells=new.toArray)(E:new.length=m)(O:o+m<=cs.length)(N: ∀u∈new,u.oneCell'=true):
  (Instr.storeAt t (.pointer (some ⟨g,o,none⟩)) v).run P w=.ok () (w.setRow g (cs.take o++new++cs.drop (o+m)).toArray):=by
 have:=run_storeCells_at P g o bt new 0 cs.toArray w I (by simp;omega) N;simp only[Jw]at this;simp only[Instr.storeAt,Instr.sureAddr,Sem.run_bind,Sem.run_pure,Result.andThen_ok,storeVar,J,L,Xt,E,ne_eq,not_true,Wa];rw[this,E]
def Blk.setRow {g:Nat}{bt:TypeId}{cs cs':List Value}(E:Blk w g bt cs):Blk (w.setRow g cs'.toArray) g bt cs':=setRow_heap w g cs.toArray cs'.toArray bt (0,0) E
def st_store {t bt:TypeId}{x y:Operand}{g o m:Nat}{cs new cs':List Value}{v:Value}(E:Fr a n ds l)(I:Blk w g bt cs)(L:ev l x=some (.pointer (some ⟨g,o,none⟩)))(N:ev l y=some v)(O: ∀w,(sizeOf t).run P w=.ok m w)
  (V:v.cells=new.toArray) (W:new.length=m) (Y:Nat.ble (o+m) cs.length=true) (h1: ∀u∈new,u.oneCell'=true) (hc:cs.take o++new++cs.drop (o+m)=cs')
  (h: ∀w' a',w'.heap.size=w.heap.size->Blk w' g bt cs'->Ch [g] w w'->Fr a' n ds l->WL r P ops Q rest a' w'):
  WL r P ops Q (⟨none,.store t x y,T,pos,af,none⟩::rest) a w:=
 skipw (w':=w.setRow g cs'.toArray) E (by
  have J:=run_storeB (P:=P) I O V W (Q8 Y) h1;rw[hc]at J;simp only[execOp,E.eval L,E.eval N,Sem.run_bind,J,Result.andThen_ok,Sem.run_pure])
  λa' hf'=>h _ a' (by simp[World.setRow]) I.setRow (Ch.setRow w g _) hf'
end
section
variable {r:Option Nat}{P:Program}{ops:Array Oper}{Q:Exit->Act->World->Prop}{a:Act}{w:World}{rest:List Oper}{n:Nat}{ds:List Deferred}{l:List (Nat×Value)}{d:Nat}{T:TypeId}{pos:String}{af:Array Edge}
end
section
variable {r:Option Nat}{P:Program}{ops:Array Oper}{Q:Exit->Act->World->Prop}{S:World->Prop}{a:Act}{w:World}{n:Nat}{ds:List Deferred}{l:List (Nat×Value)}{fuel:Nat}{listed:Array Bool}
def Hel (r:Option Nat)(P:Program)(ops:Array Oper)(Q:Exit->Act->World->Prop)(S:World->Prop):Nat->Array Bool->Act->World->Prop
 |0,listed,a,w=>Region.ready .any ops listed=[]/\Q .normal a w
 |f+1,listed,a,w=>(Region.ready .any ops listed=[]->Q .normal a w)/\
  ∀i∈Region.ready .any ops listed,wpOpIn (FW r) 0 P ops Q i (λa' w'=>S w'/\Hel r P ops Q S f (listed.setIfInBounds i true) a' w') a w
def Qav (ops:Array Oper):Bool:=ops.toList.all λo=>match o.op with| .defer _=>false|_=>true
def Qbu (h:Qav ops=true){j:Nat}{o:Oper}(E:ops[j]?=some o): ∀c,o.op≠ .defer c:=λc I=>by
 have:=Wd.1 h o (Qj (i:=j) (by rw[Xz];exact E));simp[I]at this
def Qgx {ρ:Operand->Value}{o:Oper}(h: ∀c,o.op≠ .defer c):o.semAt r ρ=execOp ρ o:=by
 cases r with
 |none=>exact Oper.semAt_none ρ o
 |some l=>exact Oper.semAt_some l ρ o h
def Hel.put {j:Nat}{oi oj:Oper}{v:Value}(L: ∀c,oj.op≠ .defer c)(hj:ops[j]?=some oj)(N:oi.apart ops oj=true)(O: ∀cs b,oi.op≠ .select cs b)(V: ∀cs b,oj.op≠ .select cs b)
  (W: ∀c a w,Q (.panic c) (a.put oi.dst v) w->Q (.panic c) a w) {K:Act->World->Prop} (E:YieldsIf P ops S oi v a) (h:wpOpIn (FW r) 0 P ops Q j K (a.put oi.dst v) w):
  wpOpIn (FW r) 0 P ops Q j (λa' w'=>YieldsIf P ops S oi v a'/\K (a'.put oi.dst v) w') a w:=by
 obtain⟨Y,J,h3⟩:=Oper.apart_spec N;have kp1: ∀(a:Act),YieldsIf P ops S oi v a->∀u,YieldsIf P ops S oi v (a.put oj.dst u):=λa E u=>E.of_same (execOp_put oi O a oj.dst u h3) (wanted_put oi a oj.dst u h3);have kp2: ∀d,YieldsIf P ops S oi v {a with defers:=d::a.defers}:=λd=>E.of_same rfl rfl;unfold wpOpIn at*;rw[hj]at h ⊢;simp only[]at h ⊢;rw[wanted_put oj a oi.dst v Y]at h;by_cases hw:Region.wanted oj (yielded ops a.tmps)=true;rw[Qc hw]at h ⊢;refine⟨λ_ _=>trivial,?_⟩;have h:=h.2;rw[Qgx L,execOp_put oj V a oi.dst v Y]at h;rw[Qgx L];generalize (execOp a.eval oj).run P w=res at h ⊢;cases res with
 |ok x w'=>
  cases x with
  |value u=>exact⟨kp1 a E u,by rw[<-Act.put_comm a v u J];exact h⟩
  |skip=>exact⟨kp1 a E _,by rw[<-Act.put_comm a v undef J];exact h⟩
  |defer d=>exact⟨kp1 _ (kp2 d) _,by rw[<-Act.put_comm _ v undef J,<-Act.put_defers];exact h⟩
  |enter f args=>
   refine⟨h.1,CallsIn.mono h.2 λe w'' I=>?_⟩;cases e with
   |returned u=>exact⟨kp1 a E u,by rw[<-Act.put_comm a v u J];exact I⟩
   |panicked c=>exact W _ _ _ I
   |outgrown=>exact I
  |row row args=>exact⟨h.1,RowsIn.mono h.2 λu w'' I=>⟨kp1 a E u,by rw[<-Act.put_comm a v u J];exact I⟩⟩
  |round l f tmps assign body=>
   refine⟨h.1,RoundIn.mono h.2 λe w'' I=>?_⟩;cases e with
   |returned u=>exact⟨kp1 a E u,by rw[<-Act.put_comm a v u J];exact I⟩
   |panicked c=>exact W _ _ _ I
   |outgrown=>exact I
  |_=>exact h
 |halt x w'=>cases x<;>first|exact W _ _ _ h|exact h
 rw[Qb hw]at h ⊢;exact⟨λ_ _=>trivial,kp1 a E _,by rw[<-Act.put_comm a v undef J];exact h.2⟩
def Hel.op {i:Nat}{o:Oper}{v:Value}(E: ∀c,o.op≠ .defer c)(hi:ops[i]?=some o)(J:YieldsIf P ops S o v a){K:Act->World->Prop}(L:S w)(h:K (a.put o.dst v) w):wpOpIn (FW r) 0 P ops Q i K a w:=by
 unfold wpOpIn;rw[hi];simp only[];rcases J with⟨I,N⟩|⟨I,rfl⟩
 rw[Qc I];exact⟨λ_ _=>trivial,by rw[Qgx E,N w L];exact h⟩;rw[Qb (by rw[I];decide)];exact⟨λ_ _=>trivial,h⟩
def Qcb {dst:Option Tmp}{op:Op}{T:TypeId}{pos:String}{af:Array Edge}{y:Nat->Option Bool}:Region.wanted ⟨dst,op,T,pos,af,none⟩ y=true:=by simp[Region.wanted]
def Qcj {dst:Option Tmp}{op:Op}{T:TypeId}{pos:String}{af:Array Edge}{j dj:Nat}{b:Bool}(E:Fr a n ds l)(I:(ops[j]?).bind (·.dst)=some dj)(J:lk l dj=some (.bool b)):Region.wanted ⟨dst,op,T,pos,af,some (j,b)⟩ (yielded ops a.tmps)=true:=by
 simp[Region.wanted,yielded,I,E.get _ _ J]
def Qcz {dst:Option Tmp}{op:Op}{T:TypeId}{pos:String}{af:Array Edge}{j dj:Nat}{b:Bool}{u:Value}(E:Fr a n ds l)(I:(ops[j]?).bind (·.dst)=some dj)(J:lk l dj=some u)(L:u=.bool (!b)\/u=undef):
  Region.wanted ⟨dst,op,T,pos,af,some (j,b)⟩ (yielded ops a.tmps)=false:=by
 rcases L with rfl|rfl<;>simp[Region.wanted,yielded,I,E.get _ _ J,undef]
end
def Pq (Q:Exit->Act->World->Prop):Prop:=∀c a d v w,Q (.panic c) (Act.put a d v) w->Q (.panic c) a w
def put_defers (a:Act)(d:Option Tmp)(v:Value):(a.put d v).defers=a.defers:=by cases d<;>rfl
def Pq.body (P:Program)(fn:Func)(R:Ending->World->Prop):Pq (bodyPost P fn R):=λc a d v w h=>by
 obtain⟨E,I⟩:=h;rw[put_defers]at E;exact⟨E,I⟩
section
variable {r:Option Nat}{P:Program}{Q:Exit->Act->World->Prop}{a:Act}{w:World}{n:Nat}{ds:List Deferred}{l:List (Nat×Value)}
def r_indexAddrA {d:Option Tmp}{T:TypeId}{pos:String}{af:Array Edge}{gd:Option (Nat×Bool)}{t e:TypeId}{x y:Operand}{g:Nat}{A:Option Addr}{ad:Addr}{len c:Nat}{i:Int}{kd:IntKind}{k:Nat}(E:P.underlying t=some (.slice e))(I: ∀w,(sizeOf e).run P w=.ok g w)(J:a.eval x=.slice A len c)(L:A=some ad)(N:a.eval y=.int kd i)(hi:i=(k:Int))(O:k<len):
  (execOp a.eval ⟨d,.indexAddr t x y,T,pos,af,gd⟩).run P w=.ok (.value (.pointer (some (ad.add (k*g))))) w:=by
 subst L;subst hi;have:=r_indexAddr (P:=P) (a:=a) (w:=w) (d:=d) (T:=T) (pos:=pos) (af:=af) (gd:=gd) E I J N (by omega) (by omega);simpa using this
end
def Qar: ∀t:Ty,0<t.size
 | .pair a _=>by have:=Qar a;simp only[Ty.size];omega
 | .int _=>by simp[Ty.size]
 | .byte=>by simp[Ty.size]
 | .bool=>by simp[Ty.size]
 | .str=>by simp[Ty.size]
 | .slice _=>by simp[Ty.size]
def Ty.ok:(t:Ty)->t.den->Prop
 | .int k,x=>k.has x
 | .byte,_=>True
 | .bool,_=>True
 | .str,x=>x.size<=maxLen
 | .slice e,xs=>xs.length<=maxLen/\∀x∈xs,e.ok x
 | .pair a b,x=>a.ok x.1/\b.ok x.2
def rep_ok {w:World}{F:Nat->Prop}: ∀(t:Ty) {cs:List Value} {x:t.den},t.rep w F cs x->t.ok x
 | .int _,_,_,h=>h.2
 | .byte,_,_,_=>trivial
 | .bool,_,_,_=>trivial
 | .str,_,_,h=>h.2
 | .slice e,_,xs,h=>by
  obtain⟨A,c,cells,L,N,O,V,W,h6⟩:=h;refine⟨by omega,λx E=>?_⟩;obtain⟨i,hi,rfl⟩:=Yi E;exact rep_ok e (h6 i _ (Qg hi))
 | .pair a b,_,_,h=>by
  obtain⟨ca,cb,h,I,J⟩:=h;exact⟨rep_ok a I,rep_ok b J⟩
def i64_has {n:Int}(h: -9223372036854775808<=n/\n<=9223372036854775807):IntKind.i64.has n:=by
 simpa[IntKind.has,IntKind.min,IntKind.max,IntKind.bits,IntKind.signed] using h
def Qaf {w:World}{F:Nat->Prop}: ∀(t:Ty) {cs:List Value} {x:t.den},t.rep w F cs x->t.rep w (λb=>F b/\b<w.heap.size) cs x
 | .int _,_,_,h=>h
 | .byte,_,_,h=>h
 | .bool,_,_,h=>h
 | .str,_,_,h=>h
 | .slice e,_,xs,h=>by
  obtain⟨A,c,cells,L,N,O,E,I,h6⟩:=h;by_cases V:cells.length=0;have h7: ∀i x,xs[i]?=some x->e.size=0:=λi x hi=>by
   have hl:=(Qd.1 hi).1;rw[V]at E;rcases Nat.mul_eq_zero.1 E.symm with h|h
   omega;exact h
  refine⟨A,c,cells,L,N,O,E,?_,λi x hi=>Qaf e (h6 i x hi)⟩;by_cases Y:xs.length=0;exact .inl Y;have hp:=Qar e;rw[V]at E;rcases Nat.mul_eq_zero.1 E.symm with h|h<;>omega
  refine⟨A,c,cells,L,N,O,E,?_,λi x hi=>Qaf e (h6 i x hi)⟩;rcases I with I|⟨b,o,hA,J,W⟩
  exact .inl I;exact .inr ⟨b,o,hA,⟨J,World.block_lt_of_cell? w _ (W 0 _ (Qg (by omega)))⟩,W⟩
 | .pair a b,_,_,h=>by
  obtain⟨ca,cb,h,ha,J⟩:=h;exact⟨ca,cb,h,Qaf a ha,Qaf b J⟩
def iv (lo hi:Nat):Nat->Prop:=λb=>lo<=b/\b<hi
@[reducible] def no:Nat->Prop:=λ_=>False
def Cells (w:World)(E:Addr)(es:List Value):Prop:=∀j u,es[j]?=some u->w.cell? (E.add j)=some u
def Cells.ch {w w':World}{E:Addr}{es:List Value}{S:List Nat}(h:Cells w E es)(L:Ch S w w')(N:E.block<w.heap.size->E.block∉S):Cells w' E es:=λj u O=>by
 have J:=h j u O;have V:(E.add j).block=E.block:=by unfold Addr.add;split<;>rfl
 have I:=World.block_lt_of_cell? w _ J;rw[L.cell I (by rw[V]at I ⊢;exact N I)];exact J
section
variable {P:Program}{a:Act}{w:World}{d:Option Tmp}{T:TypeId}{pos:String}{af:Array Edge}{gd:Option (Nat×Bool)}
def add_add (E:Addr)(i j:Nat):(E.add i).add j=E.add (i+j):=by
 unfold Addr.add;by_cases hi:i=0<;>by_cases I:j=0<;>simp[hi,I,Nat.add_assoc]
end
def u8_of {m:Int}(h:0<=m/\m<=255):m=((UInt8.ofNat m.toNat).toNat:Int):=by
 have:(UInt8.ofNat m.toNat).toNat=m.toNat%256:=by simp
 omega
section
variable {P:Program}{a:Act}{w:World}{d:Option Tmp}{T:TypeId}{pos:String}{af:Array Edge}{gd:Option (Nat×Bool)}
def r_convw {src dst:TypeId}{x:Operand}{k k':IntKind}{n m:Int}{de:TypeDesc}(hs:P.underlying src=some de)(E:P.underlying dst=some (.int k'))(I:a.eval x=.int k n)(J:k'.wrap n=m):(execOp a.eval ⟨d,.convert src dst x,T,pos,af,gd⟩).run P w=.ok (.value (.int k' m)) w:=by
 rw[r_conv hs E I,J]
def r_quow {t ty:TypeId}{x y:Operand}{k:IntKind}{m n u:Int}(E:a.eval x=.int k m)(I:a.eval y=.int k n)(J:n≠0)(L:k.wrap (m.tdiv n)=u):(execOp a.eval ⟨d,.binOp .quo t x y ty,T,pos,af,gd⟩).run P w=.ok (.value (.int k u)) w:=by rw[r_quo E I J,L]
end
def rep_le {w:World}{F:Nat->Prop}{e:Ty}{A:Option Addr}{n c:Nat}{xs:List e.den}(h:(Ty.slice e).rep w F [.slice A n c] xs):xs.length<=9223372036854775807:=by
 have E:=rep_slice_len h;simp only[maxLen]at E;omega
def slice_n {A:Option Addr}{n m c:Nat}(h:n=m):Value.slice A n c=Value.slice A m c:=by rw[h]
def nt (M:List Nat):Nat->Prop:=λb=>b∉M
def ol (M:List Nat)(n:Nat):Nat->Prop:=λb=>b∉M/\b<n
def rep_to {t:Ty}{w w':World}{F F':Nat->Prop}{S:List Nat}{cs:List Value}{x:t.den}(h:t.rep w F cs x)(N:Ch S w w')(I: ∀b,F b->b<w.heap.size->b∉S/\F' b:=by intro b E O;(try simp only[Go.Z.nt,Go.Z.iv,Go.Z.no,Go.Z.ol,Qk,Y9,or_false,not_or,not_false_eq_true]at E);(try simp only[Go.Z.nt,Go.Z.iv,Go.Z.no,Go.Z.ol,Qk,Q2,Y9,or_false,not_or,not_false_eq_true,true_and,and_true])<;>omega):t.rep w' F' cs x:=by
 have E:t.rep w (λb=>F b/\b<w.heap.size) cs x:=Qaf t h;exact rep_keep (λp hp J=>N.cell J (I _ hp.1 J).1) (λb L=>(I b L.1 L.2).2) t E
def Qdw {t:Ty}{w:World}{F F':Nat->Prop}{cs:List Value}{x:t.den}(h:t.rep w F cs x)(E: ∀b,F b->b<w.heap.size->F' b):t.rep w F' cs x:=
 rep_to h (Ch.refl w) λb I J=>⟨by simp,E b I J⟩
def Own.to {t:Ty}{e:TypeId}{B:Nat}{w w':World}{F F':Nat->Prop}{A:Option Addr}{c:Nat}{xs:List t.den}{S:List Nat}(h:Own t e B w F A c xs)(J:Ch S w w')(V: ∀k,k∈obl A->B<=k->k<w.heap.size->k∉S)(W: ∀b,F b->b<w.heap.size->b∉S/\F' b):Own t e B w' F' A c xs:=by
 have E:=h.lt;obtain⟨cells,L,Y,h2⟩:=h;refine⟨cells,⟨L.1,?_⟩,Y,λi x hi=>rep_to (h2 i x hi) J W⟩;rcases L.2 with h3|⟨g,cap,cur,N,hb,O,rest⟩
 exact .inl h3;refine .inr ⟨g,cap,cur,N,hb,?_,rest⟩;injection N with hA' _ _
 have I:g∈obl A:=by rw[hA'];simp[obl]
 rw[J.block g (Qp.1 O).1 (V g I (E g I).1 (E g I).2)];exact O
section
variable {r:Option Nat}{P:Program}{ops:Array Oper}{Q:Exit->Act->World->Prop}{a:Act}{w:World}{rest:List Oper}{n:Nat}{ds:List Deferred}{l:List (Nat×Value)}{d:Nat}{T:TypeId}{pos:String}{af:Array Edge}
end
end Go.Z
end
section
namespace Go.Z
open Go.RowKit Go.Lib
section
variable {P:Program}{a:Act}{w:World}{d:Option Tmp}{T:TypeId}{pos:String}{af:Array Edge}{gd:Option (Nat×Bool)}
end
section
variable {r:Option Nat}{P:Program}{ops:Array Oper}{Q:Exit->Act->World->Prop}{a:Act}{w:World}{rest:List Oper}{n:Nat}{ds:List Deferred}{l:List (Nat×Value)}{d:Nat}{T:TypeId}{pos:String}{af:Array Edge}
end
end Go.Z
end
section
namespace Go.Z
open Go.RowKit
section
variable {r:Option Nat}{P:Program}{Q:Exit->Act->World->Prop}{a:Act}{w:World}{n:Nat}{ds:List Deferred}{l:List (Nat×Value)}
def Rec (u:FrameMode)(v:Value)(u':FrameMode):Prop:=
 (u=.returning/\v=.nilIface/\u'=.returning)\/(∃older,u=.panicking ({v,recovered:=false,goexit:=false}::older)/\u'=.panicking ({v,recovered:=true}::older))
section
variable {d:Option Tmp}{T:TypeId}{pos:String}{af:Array Edge}{gd:Option (Nat×Bool)}{t ty e0:TypeId}{x:Operand}{v:Value}
end
end
def EqV (P:Program)(d:Nat)(t:TypeId)(x y:Value)(b:Bool):Prop:=∀w,(Op.equalIn d t x y).run P w=.ok b w
def EqF (P:Program)(d:Nat)(xs ys:Array Value)(fs:List Field)(b:Bool):Prop:=∀w,(Op.eqFields d xs ys fs).run P w=.ok b w
section
variable {P:Program}{d:Nat}{t e:TypeId}
def eq_int {k k':IntKind}{a b:Int}(h:P.underlying t=some (.int k')):EqV P (d+1) t (.int k a) (.int k b) (decide (a=b)):=λw=>by
 rw[run_equalIn_int w d t k k' a b h];rfl
def eq_str {a b:ByteArray}(h:P.underlying t=some .string):EqV P (d+1) t (.string a) (.string b) (decide (a=b)):=λw=>by
 rw[run_equalIn_string w d t a b h,str_eq]
def part_one {xs:Array Value}{o:Nat}{v:Value}(w:World)(E: ∀w,(isAgg t).run P w=.ok false w)(h:xs[o]?=some v):(part t xs o).run P w=.ok v w:=by simp[part,E,h]
def part_agg {xs zs:Array Value}{o n:Nat}(w:World)(E: ∀w,(isAgg t).run P w=.ok true w)(I: ∀w,(sizeOf t).run P w=.ok n w)(h:xs.extract o (o+n)=zs):(part t xs o).run P w=.ok (.agg zs) w:=by simp[part,E,I,h]
def eqf_nil {xs ys:Array Value}:EqF P d xs ys [] true:=λw=>by simp[Op.eqFields]
def eqf_cons {xs ys:Array Value}{f:Field}{fs:List Field}{a b:Value}{r r':Bool}(E:(f.name != "_")=true)(I: ∀w,(part f.type xs f.offset).run P w=.ok a w)(J: ∀w,(part f.type ys f.offset).run P w=.ok b w)
  (L:EqV P d f.type a b r) (h:EqF P d xs ys fs r'):EqF P d xs ys (f::fs) (r&&r'):=λw=>by
 have hn':f.name≠ "_" :=by simpa using E
 have N:=L w;have O:=h w;cases r<;>simp[Op.eqFields,hn',I,J,N,O]
def eq_struct {xs ys:Array Value}{fs:List Field}{r:Bool}(E:P.underlying t=some (.struct fs.toArray))(hs:P.stoodInHeld t=false)(h:EqF P d xs ys fs r):EqV P (d+1) t (.agg xs) (.agg ys) r:=λw=>by
 have I:P.fieldsOf t=fs.toArray:=by simp[Program.fieldsOf,E]
 rw[run_equalIn_struct w d t xs ys (by rw[I];exact E) hs,I];exact h w
def decide_pair {α β:Type}[DecidableEq α][DecidableEq β](x y:α×β):decide (x=y)=(decide (x.1=y.1)&&decide (x.2=y.2)):=by
 rw[<-Bool.decide_and];exact decide_eq_decide.2 Prod.ext_iff
section
variable {a:Act}{w:World}{dd:Option Tmp}{T ty:TypeId}{pos:String}{af:Array Edge}{gd:Option (Nat×Bool)}{x y:Operand}
def r_eqagg {xs ys:Array Value}{b:Bool}(h:EqV P 10000 t (.agg xs) (.agg ys) b)(I:P.eqGuardType P.depth t=false)(J:a.eval x=.agg xs)(L:a.eval y=.agg ys):
  (execOp a.eval ⟨dd,.binOp .eql t x y ty,T,pos,af,gd⟩).run P w=.ok (.value (.bool b)) w:=by
 have N:=h w;have O:=run_eqGuard_agg w .eql t x y xs ys I;have E:=run_eql_struct (P:=P) w t xs ys;rw[N]at E;simp[execOp,J,L,O,E]
def r_neagg {xs ys:Array Value}{p:Prop}[Decidable p](h:EqV P 10000 t (.agg xs) (.agg ys) (decide p))(I:P.eqGuardType P.depth t=false)(J:a.eval x=.agg xs)(L:a.eval y=.agg ys):
  (execOp a.eval ⟨dd,.binOp .neq t x y ty,T,pos,af,gd⟩).run P w=.ok (.value (.bool (decide (¬p)))) w:=by
 have N:=h w;have O:=run_eqGuard_agg w .neq t x y xs ys I;have E:=run_neq_struct (P:=P) w t xs ys;rw[N]at E;simp[execOp,J,L,O,E]
def r_nes' {s u:ByteArray}(E:a.eval x=.string s)(I:a.eval y=.string u):(execOp a.eval ⟨dd,.binOp .neq t x y ty,T,pos,af,gd⟩).run P w=.ok (.value (.bool (decide (s≠u)))) w:=by
 rw[r_nes E I];simp
def r_neb' {b c:Bool}(E:P.underlying t=some .bool)(I:a.eval x=.bool b)(J:a.eval y=.bool c):(execOp a.eval ⟨dd,.binOp .neq t x y ty,T,pos,af,gd⟩).run P w=.ok (.value (.bool (decide (b≠c)))) w:=by
 rw[r_neb E I J];cases b<;>cases c<;>rfl
end
end
section
variable {P:Program}{a:Act}{w:World}{d:Option Tmp}{T:TypeId}{pos:String}{af:Array Edge}{gd:Option (Nat×Bool)}{t ty:TypeId}{x y:Operand}
def Qkp {e:TypeId}{ad:Addr}(E:P.underlying t=some (.pointer e))(I:a.eval x=.pointer (some ad))(J:a.eval y=.pointer none):
  (execOp a.eval ⟨d,.binOp .neq t x y ty,T,pos,af,gd⟩).run P w=.ok (.value (.bool true)) w:=by
 have h: ∀m,(Op.equalIn (m+1) t (.pointer (some ad)) (.pointer none)).run P w=.ok false w:=λm=>by simp[Op.equalIn,run_underlying E]
 have L:(Op.equal t (.pointer (some ad)) (.pointer none)).run P w=.ok false w:=h 9999;simp[execOp,I,J,eqGuard_at_pointer,binOp,L]
end
section
variable {r:Option Nat}{P:Program}{ops:Array Oper}{Q:Exit->Act->World->Prop}{a:Act}{w:World}{rest:List Oper}{n:Nat}{ds:List Deferred}{l:List (Nat×Value)}{d:Nat}{T:TypeId}{pos:String}{af:Array Edge}
end
section
variable {r:Option Nat}{P:Program}{ops:Array Oper}{Q:Exit->Act->World->Prop}{a:Act}{w:World}{rest:List Oper}{n:Nat}{ds:List Deferred}{l:List (Nat×Value)}{d:Nat}{T:TypeId}{pos:String}{af:Array Edge}
end
@[reducible] def R64 (x:Int):Prop:= -9223372036854775808<=x/\x<=9223372036854775807
inductive Hint where
 |n
 |b (i o:Nat)
 |e (i o:Nat)
 |pk
 |off
 |on (h:Hint)
 |sy (h:Hint)
structure Kn where
 bs:List (Nat×TypeId×List Value)
 es:List (Addr×List Value)
def Kn.ok (K:Kn)(w:World):Prop:=(∀b,b∈K.bs->Blk w b.1 b.2.1 b.2.2)/\(∀e,e∈K.es->Cells w e.1 e.2)
def k0 {w:World}:Kn.ok ⟨[],[]⟩ w:=⟨λb h=>(by cases h),λb h=>(by cases h)⟩
def ke {w:World}{E:Addr}{cs:List Value}{bs:List (Nat×TypeId×List Value)}{es:List (Addr×List Value)}(h:Cells w E cs)(J:Kn.ok ⟨bs,es⟩ w):Kn.ok ⟨bs,(E,cs)::es⟩ w:=
 ⟨J.1,λb I=>by rcases Qk.1 I with rfl|I;exact h;exact J.2 b I⟩
def aggB (P:Program)(t:TypeId):Option Bool:=match P.underlying t with
 |some (.struct _)=>some true
 |some (.array _ _)=>some true
 |some _=>some false
 |none=>none
def szB (P:Program)(t:TypeId):Option Nat:=(P.info? t).map (·.size)
section
variable {P:Program}{t:TypeId}
def Qdt {b:Bool}(h:aggB P t=some b)(w:World):(isAgg t).run P w=.ok b w:=by
 unfold aggB at h;cases E:P.underlying t with
 |none=>rw[E]at h;cases h
 |some d=>
  rw[E]at h;unfold isAgg;rw[Sem.run_bind,run_underlying E,Result.andThen_ok];cases d<;>simp at h<;>subst h<;>rfl
def Qak {n:Nat}(h:szB P t=some n)(w:World):(sizeOf t).run P w=.ok n w:=by
 unfold szB at h;cases hi:P.info? t with
 |none=>rw[hi]at h;cases h
 |some i=>rw[hi]at h;simp at h;subst h;simp[sizeOf,typeInfo,hi]
def zero_run {i:TypeInfo}{z:Value}(hi:P.info? t=some i)(E:i.zero=some z)(w:World):(zeroValue t).run P w=.ok z w:=by
 simp[zeroValue,typeInfo,hi,E]
end
abbrev QO:=Option (List Prop×List (Value×Value)×Value)
def qok (v:Value):QO:=some ([],[],v)
def qar (k:IntKind)(x:Int):QO:=match k with
 | .i64=>some ([R64 x],[],.int .i64 x)
 |k=>qok (.int k (k.wrap x))
def qint (op:BinOp)(k:IntKind)(m n:Int):QO:=match op with
 | .add=>qar k (m+n)
 | .sub=>qar k (m-n)
 | .mul=>qar k (m*n)
 | .lss=>qok (.bool (decide (m<n)))
 | .leq=>qok (.bool (decide (m<=n)))
 | .gtr=>qok (.bool (decide (n<m)))
 | .geq=>qok (.bool (decide (n<=m)))
 | .eql=>qok (.bool (decide (m=n)))
 | .neq=>qok (.bool (decide (m≠n)))
 | .quo=>match k with
  | .i64=>some ([n≠0,R64 (m.tdiv n)],[],.int .i64 (m.tdiv n))
  |_=>none
 | .rem=>some ([n≠0],[],.int k (m.tmod n))
 | .shr=>match k with
  | .u64=>some ([0<=n/\n<=64],[],.int .u64 (m / 2^n.toNat))
  |_=>none
 |_=>none
def qbin (P:Program)(op:BinOp)(t:TypeId):Option Value->Option Value->QO
 |some (.int k m),some (.int k' n)=>if k'=k then qint op k m n else none
 |some (.bool b),some (.bool c)=>match P.underlying t with
  |some .bool=>match op with
   | .eql=>qok (.bool (b==c))
   | .neq=>qok (.bool (decide (b≠c)))
   |_=>none
  |_=>none
 |some (.string s),some (.string u)=>match op with
  | .eql=>qok (.bool (decide (s=u)))
  | .neq=>qok (.bool (decide (s≠u)))
  | .lss=>qok (.bool (Op.bytesLess s.toList u.toList))
  | .gtr=>qok (.bool (!(Op.bytesLess s.toList u.toList||s.toList==u.toList)))
  | .add=>some ([s.size+u.size<=9223372036854775807],[],.string (s++u))
  |_=>none
 |some (.slice A _ _),some (.slice none 0 0)=>match P.underlying t with
  |some (.slice _)=>match op with
   | .eql=>qok (.bool A.isNone)
   |_=>none
  |_=>none
 |some (.pointer (some _)),some (.pointer none)=>match P.underlying t with
  |some (.pointer _)=>match op with
   | .neq=>qok (.bool true)
   |_=>none
  |_=>none
 |_,_=>none
def qconv (P:Program)(s d:TypeId):Option Value->QO
 |some (.int _ n)=>match P.underlying s,P.underlying d with
  |some _,some (.int .i64)=>some ([R64 n],[],.int .i64 n)
  |some _,some (.int k)=>qok (.int k (k.wrap n))
  |_,_=>none
 |_=>none
def qfa (P:Program)(t:TypeId)(i:Nat):Option Value->QO
 |some (.pointer (some a))=>match P.underlying t with
  |some (.struct fs)=>match fs[i]? with
   |some f=>match szB P f.type with
    |some (_+1)=>qok (.pointer (some (a.add f.offset)))
    |_=>none
   |none=>none
  |_=>none
 |_=>none
def qfl (P:Program)(t:TypeId)(i:Nat):Option Value->QO
 |some (.agg cs)=>match P.underlying t with
  |some (.struct fs)=>match fs[i]? with
   |some f=>match aggB P f.type with
    |some false=>match cs[f.offset]? with
     |some v=>qok v
     |none=>none
    |some true=>match szB P f.type with
     |some n=>qok (.agg (cs.extract f.offset (f.offset+n)))
     |none=>none
    |none=>none
   |none=>none
  |_=>none
 |_=>none
def qcut (P:Program)(t:TypeId)(cs:List Value)(o:Nat):Option Value:=match aggB P t with
 |some false=>cs[o]?
 |some true=>match szB P t with
  |some n=>if((cs.drop o).take n).length=n then some (.agg ((cs.drop o).take n).toArray)else none
  |none=>none
 |none=>none
def qld (P:Program)(K:Kn)(h:Hint)(t:TypeId):Option Value->QO
 |some (.pointer (some a))=>match h with
  | .b i o=>match K.bs[i]? with
   |some (g,_,cs)=>match qcut P t cs o with
    |some v=>some ([],[(.pointer (some a),.pointer (some ⟨g,o,none⟩))],v)
    |none=>none
   |none=>none
  | .e i o=>match K.es[i]? with
   |some (E,cs)=>match qcut P t cs o with
    |some v=>some ([],[(.pointer (some a),.pointer (some (E.add o)))],v)
    |none=>none
   |none=>none
  |_=>none
 |_=>none
def qbi (P:Program)(b:Builtin):List (Option Value)->List TypeId->QO
 | [some (.slice _ n _)],[t]=>match b,P.underlying t with
  | .len,some (.slice _)=>qok (.int .i64 (n:Int))
  |_,_=>none
 | [some (.string s)],[t]=>match b,P.underlying t with
  | .len,some .string=>qok (.int .i64 (s.size:Int))
  |_,_=>none
 | [some (.int k p),some (.int _ q)],_=>match b with
  | .min=>qok (.int k (min p q))
  | .max=>qok (.int k (max p q))
  |_=>none
 |_,_=>none
def qes (e:Operand->Option Value):List Operand->Option (List Value)
 | []=>some []
 |x::r=>match e x,qes e r with
  |some v,some vs=>some (v::vs)
  |_,_=>none
def qps (e:Operand->Option Value):List (Nat×Operand)->Option (List (Nat×Value))
 | []=>some []
 |(i,x)::r=>match e x,qps e r with
  |some v,some vs=>some ((i,v)::vs)
  |_,_=>none
def qpl (P:Program):List Field->Option (List (Nat×Nat))
 | []=>some []
 |f::r=>match szB P f.type,qpl P r with
  |some n,some l=>some ((f.offset,n)::l)
  |_,_=>none
def qbd (P:Program)(t:TypeId)(vs:Option (List (Nat×Value))):QO:=match vs,P.info? t,P.underlying t with
 |some vs,some i,some (.struct fs)=>match i.zero,qpl P fs.toList with
  |some z,some pl=>match Instr.fill (pl.toArray[·]?) z.cells vs with
   |some cs=>qok (.agg cs)
   |none=>none
  |_,_=>none
 |_,_,_=>none
def qv (P:Program)(K:Kn)(h:Hint)(e:Operand->Option Value):Op->QO
 | .move x=>(e x).map λv=>([],[],v)
 | .assign x=>(e x).map λv=>([],[],v)
 | .pick c x y=>match e c with
  |some (.bool true)=>(e x).map λv=>([],[],v)
  |some (.bool false)=>(e y).map λv=>([],[],v)
  |_=>none
 | .unOp .not _ x=>match e x with
  |some (.bool b)=>qok (.bool (!b))
  |_=>none
 | .extract x i=>match e x with
  |some (.tuple vs)=>(vs[i]?).map λv=>([],[],v)
  |_=>none
 | .nilCheck x=>match e x with
  |some (.pointer (some a))=>qok (.pointer (some a))
  |_=>none
 | .makeFunc fn xs ys=>match qes e xs.toList,qes e ys.toList with
  |some vs,some us=>qok (.func fn vs.toArray us.toArray)
  |_,_=>none
 | .binOp op t x y _=>qbin P op t (e x) (e y)
 | .convert s d x=>qconv P s d (e x)
 | .fieldAddr t x i=>qfa P t i (e x)
 | .field t x i=>qfl P t i (e x)
 | .load t x=>qld P K h t (e x)
 | .call {callee:=.builtin b,args:=xs,argTypes:=ts}=>qbi P b (xs.toList.map e) ts.toList
 | .build t ps=>qbd P t (qps e ps.toList)
 |_=>none
section
variable {P:Program}{K:Kn}{a:Act}{w:World}{d:Option Tmp}{T:TypeId}{pos:String}{af:Array Edge}{gd:Option (Nat×Bool)}{e:Operand->Option Value}
def qes_eval (J: ∀x v,e x=some v->a.eval x=v): ∀(xs:List Operand) {vs:List Value},qes e xs=some vs->xs.toArray.map a.eval=vs.toArray:=by
 intro xs;induction xs with
 |nil=>intro vs h;simp only[qes,Qz]at h;subst h;simp
 |cons x r L=>
  intro vs h;unfold qes at h;cases E:e x with
  |none=>simp[E]at h
  |some v=>cases I:qes e r with
   |none=>simp[E,I]at h
   |some us=>
    simp only[E,I,Qz]at h;subst h;have:=L I;simp only[Ya,Q1,J x v E]at this ⊢;rw[Array.mk.injEq]at this;rw[this]
def qps_eval (J: ∀x v,e x=some v->a.eval x=v): ∀(xs:List (Nat×Operand)) {vs:List (Nat×Value)},qps e xs=some vs->xs.toArray.map (λ(i,x)=>(i,a.eval x))=vs.toArray:=by
 intro xs;induction xs with
 |nil=>intro vs h;simp only[qps,Qz]at h;subst h;simp
 |cons x r L=>
  obtain⟨i,x⟩:=x;intro vs h;unfold qps at h;cases E:e x with
  |none=>simp[E]at h
  |some v=>cases I:qps e r with
   |none=>simp[E,I]at h
   |some us=>
    simp only[E,I,Qz]at h;subst h;have:=L I;simp only[Ya,Q1,J x v E]at this ⊢;rw[Array.mk.injEq]at this;rw[this]
def qpl_run: ∀(fs:List Field) {pl:List (Nat×Nat)},qpl P fs=some pl->∀w,(fs.mapM λf=>do pure (f.offset,<-sizeOf f.type):Sem (List (Nat×Nat))).run P w=.ok pl w:=by
 intro fs;induction fs with
 |nil=>intro pl h w;simp only[qpl,Qz]at h;subst h;rfl
 |cons f r I=>
  intro pl h w;unfold qpl at h;cases hs:szB P f.type with
  |none=>simp[hs]at h
  |some n=>cases E:qpl P r with
   |none=>simp[hs,E]at h
   |some l=>
    simp only[hs,E,Qz]at h;subst h;rw[List.mapM_cons];simp only[Sem.run_bind,Qak hs,Result.andThen_ok,Sem.run_pure,I E]
def qpl_arr {fs:Array Field}{pl:List (Nat×Nat)}(h:qpl P fs.toList=some pl)(w:World):(fs.mapM λf=>do pure (f.offset,<-sizeOf f.type):Sem (Array (Nat×Nat))).run P w=.ok pl.toArray w:=by
 have E:=qpl_run fs.toList h w;rw[Array.mapM_eq_mapM_toList,map_eq_pure_bind,Sem.run_bind,E];rfl
def o_bO {k:IntKind}{x:Int}{c:List Prop}{q:List (Value×Value)}{v:Value}(h:qar k x=some (c,q,v))(I: ∀p,p∈c->p):v=.int k (k.wrap x):=by
 unfold qar at h;split at h;injection h with h;injection h with E h;injection h with J h;subst h;subst E
 rw[IntWalk.i64_in _ (I _ (Qn.2 rfl))];unfold qok at h;injection h with h;injection h with E h;injection h with J h;exact h.symm
def o_a {u v:Value}{c:List Prop}{q:List (Value×Value)}(h:qok u=some (c,q,v)):v=u:=by
 unfold qok at h;injection h with h;injection h with E h;injection h with I h;exact h.symm
def Qis {t:TypeId}{x:Operand}{cs:List Value}{o:Nat}{v:Value}{A:Addr}(h:qcut P t cs o=some v)(J:a.eval x=.pointer (some A))(hcell: ∀j u,cs[o+j]?=some u->w.cell? (A.add j)=some u):
  (execOp a.eval ⟨d,.load t x,T,pos,af,gd⟩).run P w=.ok (.value v) w:=by
 unfold qcut at h;split at h;rename_i E;refine r_load1 (λw=>Qdt E w) J ?_;have:=hcell 0 v (by simpa using h);rwa[Addr.add_zero']at this;rename_i E;split at h;rename_i n O;split at h;rename_i L;injection h with h;subst h
 refine r_loadN (λw=>Qdt E w) (λw=>Qak O w) J L λj u N=>hcell j u ?_;have I:j<n:=by have:=(Qd.1 N).1;rw[L]at this;exact this
 rwa[Wo I,Xq]at N;cases h;cases h;cases h
def o_cV {op:BinOp}{t ty:TypeId}{k:IntKind}{m n:Int}{x y:Operand}{c:List Prop}{q:List (Value×Value)}{v:Value}(h:qint op k m n=some (c,q,v))(J: ∀p,p∈c->p)(E:a.eval x=.int k m)(I:a.eval y=.int k n):
  (execOp a.eval ⟨d,.binOp op t x y ty,T,pos,af,gd⟩).run P w=.ok (.value v) w:=by
 unfold qint at h;split at h;rw[o_bO h J];exact r_add E I;rw[o_bO h J];exact r_sub E I;rw[o_bO h J];exact r_mul E I;rw[o_a h];exact r_lss E I;rw[o_a h];exact r_leq E I;rw[o_a h];exact r_gtr E I;rw[o_a h];exact r_geq E I;rw[o_a h];exact r_eql E I;rw[o_a h];exact r_neq E I;split at h;injection h with h;injection h with L h;injection h with N h;subst h;subst L
 exact r_quow E I (J _ (by simp)) (IntWalk.i64_in _ (J _ (by simp)));cases h;injection h with h;injection h with L h;injection h with N h;subst h;subst L
 exact r_rem E I (J _ (by simp));split at h;injection h with h;injection h with L h;injection h with N h;subst h;subst L
 have O:=J (0<=n/\n<=64) (by simp);exact r_shr E I O.1 O.2;cases h;cases h
def r_lss_str {t ty:TypeId}{x y:Operand}{s u:ByteArray}(E:a.eval x=.string s)(I:a.eval y=.string u):(execOp a.eval ⟨d,.binOp .lss t x y ty,T,pos,af,gd⟩).run P w=.ok (.value (.bool (Op.bytesLess s.toList u.toList))) w:=by
 simp[execOp,E,I,binOp_string_lss,eqGuard_lss]
def r_gtr_str {t ty:TypeId}{x y:Operand}{s u:ByteArray}(E:a.eval x=.string s)(I:a.eval y=.string u):(execOp a.eval ⟨d,.binOp .gtr t x y ty,T,pos,af,gd⟩).run P w=.ok (.value (.bool (!(Op.bytesLess s.toList u.toList||s.toList==u.toList)))) w:=by
 simp[execOp,E,I,binOp,Op.stringOp,eqGuard_gtr]
def r_cat {t ty:TypeId}{x y:Operand}{s u:ByteArray}(E:a.eval x=.string s)(I:a.eval y=.string u)(h:s.size+u.size<=9223372036854775807):(execOp a.eval ⟨d,.binOp .add t x y ty,T,pos,af,gd⟩).run P w=.ok (.value (.string (s++u))) w:=by
 simp[execOp,E,I,binOp_string_add,run_string_add_sum w s u h,eqGuard_add]
def o_cW {op:BinOp}{t ty:TypeId}{x y:Operand}{c:List Prop}{q:List (Value×Value)}{v:Value}(E: ∀x v,e x=some v->a.eval x=v)(h:qbin P op t (e x) (e y)=some (c,q,v))(N: ∀p,p∈c->p):
  (execOp a.eval ⟨d,.binOp op t x y ty,T,pos,af,gd⟩).run P w=.ok (.value v) w:=by
 unfold qbin at h;split at h;rename_i k m k' n I J;split at h;rename_i hk;subst hk;exact o_cV h N (E _ _ I) (E _ _ J);cases h;rename_i b c' I J;split at h;rename_i L;split at h;rw[o_a h];exact r_eqb L (E _ _ I) (E _ _ J);rw[o_a h];exact r_neb' L (E _ _ I) (E _ _ J);cases h;cases h;rename_i s u I J;split at h;rw[o_a h];exact r_eqs (E _ _ I) (E _ _ J);rw[o_a h];exact r_nes' (E _ _ I) (E _ _ J);rw[o_a h];exact r_lss_str (E _ _ I) (E _ _ J);rw[o_a h];exact r_gtr_str (E _ _ I) (E _ _ J);injection h with h;injection h with O h;injection h with V h;subst h;subst O
 exact r_cat (E _ _ I) (E _ _ J) (N _ (by simp));cases h;rename_i A n c' I J;split at h;rename_i L;split at h;rw[o_a h];exact r_eqnil L (E _ _ I) (E _ _ J);cases h;cases h;rename_i A I J;split at h;rename_i L;split at h;rw[o_a h];exact Qkp L (E _ _ I) (E _ _ J);cases h;cases h;cases h
def o_cS {hn:Hint}{op:Op}{c:List Prop}{q:List (Value×Value)}{v:Value}(J: ∀x v,e x=some v->a.eval x=v)(hK:K.ok w)(h:qv P K hn e op=some (c,q,v))(hc: ∀p,p∈c->p)(hq: ∀p,p∈q->p.1=p.2):
  (execOp a.eval ⟨d,op,T,pos,af,gd⟩).run P w=.ok (.value v) w:=by
 unfold qv at h;split at h;rename_i x;cases I:e x with
 |none=>simp[I]at h
 |some u=>simp[I]at h;obtain⟨_,_,rfl⟩:=h;exact r_move (J _ _ I)
 rename_i x;cases I:e x with
 |none=>simp[I]at h
 |some u=>simp[I]at h;obtain⟨_,_,rfl⟩:=h;exact r_assign (J _ _ I)
 rename_i c' x y;split at h;rename_i V;cases I:e x with
 |none=>simp[I]at h
 |some u=>simp[I]at h;obtain⟨_,_,rfl⟩:=h;exact r_pick_t (J _ _ V) (J _ _ I)
 rename_i V;cases I:e y with
 |none=>simp[I]at h
 |some u=>simp[I]at h;obtain⟨_,_,rfl⟩:=h;exact r_pick_f (J _ _ V) (J _ _ I)
 cases h;split at h;rename_i I;rw[o_a h];exact r_not (J _ _ I);cases h;rename_i x i;split at h;rename_i vs I;cases hi:vs[i]? with
 |none=>simp[hi]at h
 |some u=>simp[hi]at h;obtain⟨_,_,rfl⟩:=h;exact r_extract (J _ _ I) hi
 cases h;split at h;rename_i I;rw[o_a h];exact r_nilCheck (J _ _ I);cases h;rename_i fn xs ys;split at h;rename_i vs us I Y;rw[o_a h];have L:=qes_eval J _ I;have N:=qes_eval J _ Y;simp only[W5]at L N;exact r_makeFunc L N;cases h;exact o_cW J h hc;rename_i s d' x;unfold qconv at h;split at h;rename_i k n I;split at h;rename_i hs hd;injection h with h;injection h with L h;injection h with N h;subst h;subst L
 exact r_convw hs hd (J _ _ I) (IntWalk.i64_in _ (hc _ (Qn.2 rfl)));rename_i hs hd;rw[o_a h];exact r_conv hs hd (J _ _ I);cases h;cases h;unfold qfa at h;split at h;rename_i A I;split at h;rename_i fs O;split at h;rename_i f hf;split at h;rename_i m hs;rw[o_a h];exact Qhz O hf (λw=>Qak hs w) (J _ _ I);cases h;cases h;cases h;cases h;unfold qfl at h;split at h;rename_i cs I;split at h;rename_i fs O;split at h;rename_i f hf;split at h;rename_i W;split at h;rename_i u hv;rw[o_a h];have:=J _ _ I;simp[execOp,Instr.field,run_underlying O,hf,this,asAgg,part,Qdt W,hv];cases h;rename_i W;split at h;rename_i n hs;rw[o_a h];have:=J _ _ I;simp[execOp,Instr.field,run_underlying O,hf,this,asAgg,part,Qdt W,Qak hs];cases h;cases h;cases h;cases h;cases h;unfold qld at h;split at h;rename_i A I;split at h;split at h;rename_i i o _ g bt cs hb;split at h;rename_i u hcut;injection h with h;injection h with L h;injection h with N h;subst h;subst N
 have W:Value.pointer (some A)=.pointer (some ⟨g,o,none⟩):=hq _ (Qn.2 rfl);have hB:Blk w g bt cs:=hK.1 _ (Qj hb);refine Qis hcut ((J _ _ I).trans W) λj u hj=>?_;rw[Addr.add_lit,hB.cell];exact hj;cases h;cases h;split at h;rename_i i o _ E cs hb;split at h;rename_i u hcut;injection h with h;injection h with L h;injection h with N h;subst h;subst N
 have W:Value.pointer (some A)=.pointer (some (E.add o)):=hq _ (Qn.2 rfl);have hB:Cells w E cs:=hK.2 _ (Qj hb);refine Qis hcut ((J _ _ I).trans W) λj u hj=>?_;rw[add_add];exact hB _ _ hj;cases h;cases h;cases h;cases h;rename_i b xs ts;unfold qbi at h;split at h;rename_i A n c' t L N;split at h;rename_i O;rw[o_a h];obtain⟨x,rfl,I⟩: ∃x,xs=#[x]/\e x=some (.slice A n c'):=by
  obtain⟨l⟩:=xs;rcases l with _|⟨x,_|⟨y,l⟩⟩
  simp at L;exact⟨x,rfl,by simpa using L⟩;simp at L
 obtain rfl:ts=#[t]:=by obtain⟨l⟩:=ts;simp at N;rw[N]
 exact r_len O (J _ _ I);cases h;rename_i s t L N;split at h;rename_i O;rw[o_a h];obtain⟨x,rfl,I⟩: ∃x,xs=#[x]/\e x=some (.string s):=by
  obtain⟨l⟩:=xs;rcases l with _|⟨x,_|⟨y,l⟩⟩
  simp at L;exact⟨x,rfl,by simpa using L⟩;simp at L
 obtain rfl:ts=#[t]:=by obtain⟨l⟩:=ts;simp at N;rw[N]
 exact r_lens O (J _ _ I);cases h;rename_i k p k' q' L;obtain⟨x,y,rfl,I,Y⟩: ∃x y,xs=#[x,y]/\e x=some (.int k p)/\e y=some (.int k' q'):=by
  obtain⟨l⟩:=xs;rcases l with _|⟨x,_|⟨y,_|⟨z,l⟩⟩⟩
  simp at L;simp at L;simp at L;exact⟨x,y,rfl,L.1,L.2⟩;simp at L
 split at h;rw[o_a h];exact r_min (J _ _ I) (J _ _ Y);rw[o_a h];exact r_max (J _ _ I) (J _ _ Y);cases h;cases h;rename_i t ps;unfold qbd at h;split at h;rename_i vs i fs hvs hi O;split at h;rename_i z pl hz hpl;split at h;rename_i cs hcs;rw[o_a h];have L:=qps_eval J _ hvs;simp only[W5]at L;simp only[execOp,Instr.build,L];simp only[Sem.run_bind,zero_run hi hz,Result.andThen_ok,run_underlying O];rw[qpl_arr hpl w];simp only[Result.andThen_ok,hcs,Sem.run_pure];cases h;cases h;cases h;cases h
end
def bo {x y:Bool}(h:(x||y)=true):x=true\/y=true:=by cases x<;>simp_all
def bn {x:Bool}(h:(!x)=true):x=false:=by cases x<;>simp_all
structure QS where
 l:List (Nat×Value)
 g:List (Nat×Nat×Bool×Value)
 c:List Prop
 q:List (Value×Value)
 wr:List Nat
def gk:List (Nat×Nat×Bool×Value)->Nat->Option (Nat×Bool×Value)
 | [],_=>none
 |(t,x)::r,d=>bif Nat.beq t d then some x else gk r d
def gfree:List (Nat×Nat×Bool×Value)->Nat->Bool
 | [],_=>true
 |(t,j,_)::r,d=> !(Nat.beq t d)&& !(Nat.beq j d)&&gfree r d
def evg (s:QS)(gd:Option (Nat×Bool)):Operand->Option Value
 | .tmp t=>match gk s.g t with
  |some (dj,b,v)=>match gd with
   |some (dj',b')=>if dj'=dj then if b'=b then some v else none else none
   |none=>none
  |none=>lk s.l t
 |x=>ev s.l x
def qput (s:QS)(d:Nat)(c:List Prop)(q:List (Value×Value))(v:Value):Option QS:=
 if gfree s.g d then some ⟨(d,v)::s.l,s.g,s.c++c,q++s.q,d::s.wr⟩else none
def qside (s:QS)(tc:Nat)(b:Bool):Operand->Option Bool
 | .tmp t=>match gk s.g t with
  |some (dj,b',.bool u)=>if dj=tc then if b'=b then some u else none else none
  |some _=>none
  |none=>if t=tc then some b else match lk s.l t with
   |some (.bool u)=>some u
   |_=>none
 |x=>match ev s.l x with
  |some (.bool u)=>some u
  |_=>none
def qpk (s:QS)(d:Nat):Op->Option QS
 | .pick (.tmp tc) x y=>match gk s.g tc,lk s.l tc with
  |none,some (.bool cb)=>match qside s tc true x,qside s tc false y with
   |some b1,some b2=>qput s d [] [] (.bool (bif cb then b1 else b2))
   |_,_=>none
  |_,_=>none
 |_=>none
def qno (P:Program)(K:Kn)(s:QS)(d:Nat)(h:Hint)(op:Op):Option QS:=match qv P K h (evg s none) op with
 |some (c,q,v)=>qput s d c q v
 |none=>none
def q1 (P:Program)(K:Kn)(n:Nat)(ops:Array Oper)(s:QS)(h:Hint)(o:Oper):Option QS:=match o.dst with
 |none=>none
 |some d=>if Nat.ble (d+1) n then match o.guard with
  |none=>match h with
   | .pk=>qpk s d o.op
   |h=>qno P K s d h o.op
  |some (j,b)=>match(ops[j]?).bind (·.dst)with
   |none=>none
   |some dj=>match gk s.g dj,lk s.l dj with
    |none,some (.bool c)=>match h with
     | .off=>if c= !b then qput s d [] [] undef else none
     | .on .pk=>if c=b then qpk s d o.op else none
     | .on h=>if c=b then qno P K s d h o.op else none
     | .sy h=>if d=dj then none else if gfree s.g d then match lk s.l d with
      |none=>match qv P K h (evg s (some (dj,b))) o.op with
       |some (cs,q,v)=>some ⟨s.l,(d,dj,b,v)::s.g,s.c++cs.map (λp=>c=b->p),q++s.q,d::s.wr⟩
       |none=>none
      |some _=>none else none
     |_=>none
    |none,some (.tuple vs)=>match h with
     | .off=>if vs.toList.isEmpty then qput s d [] [] undef else none
     |_=>none
    |_,_=>none else none
def qs (P:Program)(K:Kn)(n:Nat)(ops:Array Oper):List Hint->List Oper->QS->Option QS
 | [],_,s=>some s
 |h::hs,o::r,s=>match q1 P K n ops s h o with
  |some s'=>qs P K n ops hs r s'
  |none=>none
 |_::_,[],_=>none
def dqs (P:Program)(K:Kn)(n:Nat)(ops:Array Oper):List (Nat×Hint)->Array Bool->QS->Option (Array Bool×QS)
 | [],li,s=>some (li,s)
 |(i,h)::r,li,s=>match ops[i]? with
  |some o=>if Region.free .any ops li i&&(Region.ready .any ops li).contains i then match q1 P K n ops s h o with
   |some s'=>dqs P K n ops r (li.setIfInBounds i true) s'
   |none=>none else none
  |none=>none
def qfin (l0:List (Nat×Value))(ks:List Nat)(s:QS):Option (List Prop×List (Nat×Value)):=
 if s.wr.all (λd=>ks.contains d||(lk l0 d).isNone)then some (s.c,kp s.l ks)else none
def conj:List Prop->Prop
 | []=>True
 | [p]=>p
 |p::q::r=>p/\conj (q::r)
def cat:List (Nat×Value)->List (Nat×Value)->List (Nat×Value)
 | [],l=>l
 |p::r,l=>p::cat r l
def Qgm: ∀{cs:List Prop},conj cs->∀p,p∈cs->p
 | [],_,p,hp=>by cases hp
 | [q],h,p,hp=>by rw[Qn]at hp;subst hp;exact h
 |q::q'::r,h,p,hp=>by
  rcases Qk.1 hp with rfl|hp
  exact h.1;exact Qgm h.2 p hp
def Qca (d e:Nat)(v:Value)(l:List (Nat×Value)):lk ((d,v)::l) e=if d=e then some v else lk l e:=by
 by_cases h:d=e;subst h;rw[Qal,Qc rfl];rw[Qag _ _ h,Qb h]
def Qeh (d e:Nat)(x:Nat×Bool×Value)(l:List (Nat×Nat×Bool×Value)):gk ((d,x)::l) e=if d=e then some x else gk l e:=by
 unfold gk;by_cases h:d=e;subst h;simp;have:Nat.beq d e=false:=by cases E:Nat.beq d e with
  |false=>rfl
  |true=>exact absurd (Wx E) h
 simp only[this,cond_false,Qb h];cases l<;>rfl
def Qdf: ∀{g:List (Nat×Nat×Bool×Value)} {d:Nat},gfree g d=true->gk g d=none/\∀t j b v,gk g t=some (j,b,v)->j≠d
 | [],d,_=>⟨rfl,λt j b v h=>by cases h⟩
 |(t,j,x)::r,d,h=>by
  simp only[gfree,Qo,Yp]at h;obtain⟨⟨E,I⟩,J⟩:=h;have e1:t≠d:=λe=>by subst e;simp at E
  have e2:j≠d:=λe=>by subst e;simp at I
  obtain⟨L,N⟩:=Qdf J;refine⟨by rw[Qeh,Qb e1];exact L,λt' j' b v h=>?_⟩;rw[Qeh]at h;split at h;injection h with h;injection h with O V;rw[<-O];exact e2
  exact N _ _ _ _ h
structure QS.ok (s:QS) (a:Act) (n:Nat) (ds:List Deferred):Prop where
 fr:Fr a n ds s.l
 gd: ∀t dj b v,gk s.g t=some (dj,b,v)->lk s.l t=none/\∃c,lk s.l dj=some (.bool c)/\gk s.g dj=none/\a.tmps[t]?=some (if c=b then v else undef)
structure QS.inv (l0:List (Nat×Value)) (s:QS):Prop where
 out: ∀d,d∉s.wr->lk s.l d=lk l0 d
 wrn: ∀d,d∈s.wr->(lk s.l d).isSome=true\/lk l0 d=none\/∃v,lk s.l d=some v
structure QS.le (s s':QS):Prop where
 c: ∀p,p∈s.c->p∈s'.c
 q: ∀p,p∈s.q->p∈s'.q
def QS.le.refl (s:QS):QS.le s s:=⟨λ_ h=>h,λ_ h=>h⟩
def QS.le.trans {s t u:QS}(h:QS.le s t)(k:QS.le t u):QS.le s u:=⟨λ_ hp=>k.c _ (h.c _ hp),λ_ hp=>k.q _ (h.q _ hp)⟩
section
variable {P:Program}{K:Kn}{n:Nat}{ds:List Deferred}{ops:Array Oper}{a:Act}{s s':QS}
def evg_none (hs:s.ok a n ds)(x:Operand)(v:Value)(h:evg s none x=some v):a.eval x=v:=by
 unfold evg at h;split at h;split at h;cases h;exact hs.fr.eval (x:=.tmp _) h;exact hs.fr.eval h
def evg_some {dj:Nat}{b:Bool}(hs:s.ok a n ds)(L:lk s.l dj=some (.bool b))(x:Operand)(v:Value)(h:evg s (some (dj,b)) x=some v):a.eval x=v:=by
 unfold evg at h;split at h;rename_i t;split at h;rename_i dj' b' v' I;by_cases e1:dj=dj';subst e1;by_cases e2:b=b';subst e2;simp only[W8]at h;injection h with h
 subst h;obtain⟨_,c,E,_,J⟩:=hs.gd _ _ _ _ I;rw[L]at E;injection E with E;injection E with E
 rw[Qc E.symm]at J;simp[Act.eval,Wv,J];simp[e2]at h;simp[e1]at h;exact hs.fr.eval (x:=.tmp _) h;exact hs.fr.eval h
def o_a3 {d:Nat}{c:List Prop}{q:List (Value×Value)}{v:Value}(L:d<n)(hs:s.ok a n ds)(h:qput s d c q v=some s'):s'.ok (a.put (some d) v) n ds/\QS.le s s'/\(∀p,p∈c->p∈s'.c)/\(∀p,p∈q->p∈s'.q):=by
 unfold qput at h;split at h;rename_i N;injection h with h
 subst h;obtain⟨O,V⟩:=Qdf N;refine⟨⟨hs.fr.put L v,λt dj b u E=>?_⟩,⟨λp hp=>Ws _ hp,λp hp=>Wt _ hp⟩,λp hp=>Wt _ hp,λp hp=>Ws _ hp⟩;obtain⟨W,cc,Y,h3,h4⟩:=hs.gd t dj b u E;have I:d≠t:=λe=>by subst e;change gk s.g d=_ at E;rw[O]at E;cases E
 have J:d≠dj:=λe=>V _ _ _ _ E e.symm;refine⟨by rw[Qca,Qb I];exact W,cc,by rw[Qca,Qb J];exact Y,h3,?_⟩;simp only[Act.put];rw[X8 I];exact h4;cases h
def Qdo {d:Nat}{c:List Prop}{q:List (Value×Value)}{v:Value}{J:List (Nat×Value)}(hi:s.inv J)(h:qput s d c q v=some s'):s'.inv J:=by
 unfold qput at h;split at h;injection h with h
 subst h;refine⟨λe I=>?_,λe I=>?_⟩;simp only[Qk,not_or]at I;rw[Qca,Qb (λh=>I.1 h.symm)];exact hi.out e I.2;simp only[Qk]at I;by_cases E:d=e;left;subst E;rw[Qca,Qc rfl];rfl;rw[Qca,Qb E];exact hi.wrn e (I.resolve_left λh=>E h.symm);cases h
def o_bP {tc:Nat}{b u cb:Bool}{x:Operand}(hs:s.ok a n ds)(V:gk s.g tc=none)(N:lk s.l tc=some (.bool cb))(I:cb=b)(h:qside s tc b x=some u):a.eval x=.bool u:=by
 unfold qside at h;split at h;rename_i t;split at h;rename_i dj b' u' J;split at h;rename_i e1;subst e1;split at h;rename_i e2;subst e2;injection h with h;subst h
 obtain⟨_,c,E,_,O⟩:=hs.gd _ _ _ _ J;rw[N]at E;injection E with E;injection E with E
 rw[Qc (E.symm.trans I)]at O;simp[Act.eval,Wv,O];cases h;cases h;cases h;split at h;rename_i e1;subst e1;injection h with h;subst h;subst I
 exact hs.fr.eval (x:=.tmp _) N;split at h;rename_i L;injection h with h;subst h
 exact hs.fr.eval (x:=.tmp _) L;cases h;split at h;rename_i L;injection h with h;subst h
 exact hs.fr.eval L;cases h
def QDo (P:Program)(K:Kn)(ops:Array Oper)(a:Act)(o:Oper)(v:Value):Prop:=
 (Region.wanted o (yielded ops a.tmps)=true/\∀w,K.ok w->(execOp a.eval o).run P w=.ok (.value v) w)\/(Region.wanted o (yielded ops a.tmps)=false/\v=undef)
def o_cK {d:Nat}{op:Op}{T:TypeId}{pos:String}{af:Array Edge}{gd:Option (Nat×Bool)}(L:d<n)(hs:s.ok a n ds)(h:qpk s d op=some s'):
  ∃v,s'.ok (a.put (some d) v) n ds/\QS.le s s'/\∀w,(execOp a.eval ⟨some d,op,T,pos,af,gd⟩).run P w=.ok (.value v) w:=by
 unfold qpk at h;split at h;rename_i tc x y;split at h;rename_i cb J I;split at h;rename_i b1 b2 N O;obtain⟨k1,k2,_,_⟩:=o_a3 L hs h;refine⟨_,k1,k2,λw=>?_⟩;have E:a.eval (.tmp tc)=.bool cb:=hs.fr.eval (x:=.tmp tc) I;cases cb with
 |true=>exact r_pick_t E (o_bP hs J I rfl N)
 |false=>exact r_pick_f E (o_bP hs J I rfl O)
 cases h;cases h;cases h
def qpk_inv {d:Nat}{op:Op}{E:List (Nat×Value)}(hi:s.inv E)(h:qpk s d op=some s'):s'.inv E:=by
 unfold qpk at h;split at h;split at h;split at h;exact Qdo hi h;cases h;cases h;cases h
def o_cL {d:Nat}{E:Hint}{op:Op}{T:TypeId}{pos:String}{af:Array Edge}{gd:Option (Nat×Bool)}(I:d<n)(hs:s.ok a n ds)(h:qno P K s d E op=some s')(J: ∀p,p∈s'.c->p)(hq: ∀p,p∈s'.q->p.1=p.2):
  ∃v,s'.ok (a.put (some d) v) n ds/\QS.le s s'/\∀w,K.ok w->(execOp a.eval ⟨some d,op,T,pos,af,gd⟩).run P w=.ok (.value v) w:=by
 unfold qno at h;split at h;rename_i c q v L;obtain⟨k1,k2,k3,N⟩:=o_a3 I hs h;exact⟨v,k1,k2,λw O=>o_cS (evg_none hs) O L (λp hp=>J p (k3 p hp)) (λp hp=>hq p (N p hp))⟩;cases h
def qno_inv {d:Nat}{I:Hint}{op:Op}{E:List (Nat×Value)}(hi:s.inv E)(h:qno P K s d I op=some s'):s'.inv E:=by
 unfold qno at h;split at h;exact Qdo hi h;cases h
def bool_ne {c b:Bool}(h:c≠b):c= !b:=by cases c<;>cases b<;>first|rfl|exact absurd rfl h
def o_cM {d dj:Nat}{b c:Bool}{v u:Value}{cs:List Prop}{q:List (Value×Value)}(hd:d<n)(hs:s.ok a n ds)(N:d≠dj)(O:gfree s.g d=true)(J:lk s.l d=none)(V:gk s.g dj=none)(W:lk s.l dj=some (.bool c))(hu:u=if c=b then v else undef):
  QS.ok ⟨s.l,(d,dj,b,v)::s.g,cs,q,d::s.wr⟩ (a.put (some d) u) n ds:=by
 obtain⟨g1,g2⟩:=Qdf O;refine⟨⟨by simp[Act.put,hs.fr.size],hs.fr.defs,λe x L=>?_⟩,λt dj' b' u' E=>?_⟩;have L:lk s.l e=some x:=L;have Y:d≠e:=λh=>by subst h;rw[J]at L;cases L
 simp only[Act.put];rw[X8 Y];exact hs.fr.get e x L;replace E:gk ((d,dj,b,v)::s.g) t=some (dj',b',u'):=E;rw[Qeh]at E;by_cases I:d=t;subst I;rw[Qc rfl]at E;injection E with E;injection E with h1 E;injection E with h2 E
 subst h1;subst h2;subst E;refine⟨J,c,W,?_,?_⟩;show gk ((d,dj,b,v)::s.g) dj=none;rw[Qeh,Qb N];exact V;simp only[Act.put];rw[hu,Array.getElem?_setIfInBounds_self_of_lt (by rw[hs.fr.size];exact hd)];rw[Qb I]at E;obtain⟨h1,cc,h2,h3,h4⟩:=hs.gd t dj' b' u' E;refine⟨h1,cc,h2,?_,?_⟩;show gk ((d,dj,b,v)::s.g) dj'=none;rw[Qeh,Qb (λh=>g2 _ _ _ _ E h.symm)];exact h3;simp only[Act.put];rw[X8 I];exact h4
def o_cT {h:Hint}{o:Oper}(hs:s.ok a n ds)(E:q1 P K n ops s h o=some s')(hc: ∀p,p∈s'.c->p)(hq: ∀p,p∈s'.q->p.1=p.2):
  ∃d v,o.dst=some d/\s'.ok (a.put (some d) v) n ds/\QS.le s s'/\QDo P K ops a o v:=by
 obtain⟨dst,op,T,pos,af,gd⟩:=o;unfold q1 at E;split at E;cases E;rename_i d hdst;have hdst:dst=some d:=hdst;subst hdst;split at E;rename_i O;have O:d<n:=Q8 O;split at E;rename_i L;have L:gd=none:=L;subst L;split at E;obtain⟨v,k1,k2,k3⟩:=o_cK (P:=P) (T:=T) (pos:=pos) (af:=af) (gd:=none) O hs E;exact⟨d,v,rfl,k1,k2,.inl ⟨Qcb,λw _=>k3 w⟩⟩;obtain⟨v,k1,k2,k3⟩:=o_cL (T:=T) (pos:=pos) (af:=af) (gd:=none) O hs E hc hq;exact⟨d,v,rfl,k1,k2,.inl ⟨Qcb,k3⟩⟩;rename_i j b L;have L:gd=some (j,b):=L;subst L;split at E;cases E;rename_i dj N;split at E;rename_i c V I;split at E;split at E;rename_i J;obtain⟨k1,k2,_,_⟩:=o_a3 O hs E;exact⟨d,undef,rfl,k1,k2,.inr ⟨Qcz hs.fr N I (.inl (by rw[J])),rfl⟩⟩;cases E;split at E;rename_i J;subst J;obtain⟨v,k1,k2,k3⟩:=o_cK (P:=P) (T:=T) (pos:=pos) (af:=af) (gd:=some (j,c)) O hs E;exact⟨d,v,rfl,k1,k2,.inl ⟨Qcj hs.fr N I,λw _=>k3 w⟩⟩;cases E;split at E;rename_i J;subst J;obtain⟨v,k1,k2,k3⟩:=o_cL (T:=T) (pos:=pos) (af:=af) (gd:=some (j,c)) O hs E hc hq;exact⟨d,v,rfl,k1,k2,.inl ⟨Qcj hs.fr N I,k3⟩⟩;cases E;split at E;cases E;rename_i W;split at E;rename_i Y;split at E;rename_i hln;split at E;rename_i cs q v hv;injection E with E
 subst E;have hle:QS.le s ⟨s.l,(d,dj,b,v)::s.g,s.c++cs.map (λp=>c=b->p),q++s.q,d::s.wr⟩:=⟨λp hp=>Ws _ hp,λp hp=>Wt _ hp⟩;by_cases J:c=b;subst J;refine⟨d,v,rfl,o_cM O hs W Y hln V I (by rw[Qc rfl]),hle,.inl ⟨Qcj hs.fr N I,λw hK=>?_⟩⟩;exact o_cS (evg_some hs I) hK hv (λp hp=>hc (c=c->p) (Wt _ (Wr.2 ⟨p,hp,rfl⟩)) rfl) (λp hp=>hq p (Ws _ hp));exact⟨d,undef,rfl,o_cM O hs W Y hln V I (by rw[Qb J]),hle,.inr ⟨Qcz hs.fr N I (.inl (Wn Value.bool (bool_ne J))),rfl⟩⟩;cases E;cases E;cases E;cases E;rename_i vs V I;split at E;split at E;rename_i hvs;obtain⟨k1,k2,_,_⟩:=o_a3 O hs E;refine⟨d,undef,rfl,k1,k2,.inr ⟨Qcz hs.fr N I (.inr ?_),rfl⟩⟩;have:vs=#[]:=by
  have h1:vs.toList=[]:=List.isEmpty_iff.1 hvs;rw[<-W5 (xs:=vs),h1]
 rw[this];rfl;cases E;cases E;cases E;cases E
def q1_inv {h:Hint}{o:Oper}{L:List (Nat×Value)}(hi:s.inv L)(E:q1 P K n ops s h o=some s'):s'.inv L:=by
 unfold q1 at E;split at E;cases E;split at E;split at E;split at E;exact qpk_inv hi E;exact qno_inv hi E;split at E;cases E;split at E;split at E;split at E;exact Qdo hi E;cases E;split at E;exact qpk_inv hi E;cases E;split at E;exact qno_inv hi E;cases E;split at E;cases E;split at E;split at E;rename_i J;split at E;injection E with E
 subst E;refine⟨λe I=>hi.out e (λh=>I (Qf _ h)),λe I=>?_⟩;rcases Qk.1 I with rfl|I
 by_cases N:e∈s.wr;exact hi.wrn e N;right;left;rw[<-hi.out e N];exact J;exact hi.wrn e I;cases E;cases E;cases E;cases E;split at E;split at E;exact Qdo hi E;cases E;cases E;cases E;cases E
def q1_le {h:Hint}{o:Oper}(E:q1 P K n ops s h o=some s'):QS.le s s':=by
 have hp: ∀{d:Nat} {c:List Prop} {q:List (Value×Value)} {v:Value},qput s d c q v=some s'->QS.le s s':=λh=>by
  unfold qput at h;split at h;injection h with h;subst h;exact⟨λp hp=>Ws _ hp,λp hp=>Wt _ hp⟩
  cases h
 have hk: ∀{d:Nat} {op:Op},qpk s d op=some s'->QS.le s s':=λh=>by
  unfold qpk at h;split at h;split at h;split at h;exact hp h;cases h;cases h;cases h
 have I: ∀{d:Nat} {g:Hint} {op:Op},qno P K s d g op=some s'->QS.le s s':=λh=>by
  unfold qno at h;split at h;exact hp h;cases h
 unfold q1 at E;split at E;cases E;split at E;split at E;split at E;exact hk E;exact I E;split at E;cases E;split at E;split at E;split at E;exact hp E;cases E;split at E;exact hk E;cases E;split at E;exact I E;cases E;split at E;cases E;split at E;split at E;split at E;injection E with E;subst E;exact⟨λp hp=>Ws _ hp,λp hp=>Wt _ hp⟩
 cases E;cases E;cases E;cases E;split at E;split at E;exact hp E;cases E;cases E;cases E;cases E
def qs_le: ∀{hs:List Hint} {lst:List Oper} {s:QS},qs P K n ops hs lst s=some s'->QS.le s s'
 | [],_,s,h=>by simp only[qs,Qz]at h;subst h;exact QS.le.refl _
 |h::hs,[],s,E=>by simp[qs]at E
 |h::hs,o::r,s,E=>by
  unfold qs at E;split at E;rename_i J I;exact(q1_le I).trans (qs_le E);cases E
def dqs_le {li':Array Bool}: ∀{is:List (Nat×Hint)} {li:Array Bool} {s:QS},dqs P K n ops is li s=some (li',s')->QS.le s s'
 | [],_,s,h=>by simp only[dqs,Qz,Yr]at h;rw[h.2];exact QS.le.refl _
 |(i,h)::r,li,s,E=>by
  unfold dqs at E;split at E;split at E;split at E;rename_i J I;exact(q1_le I).trans (dqs_le E);cases E;cases E;cases E
end
def lk_cat (nl l:List (Nat×Value))(d:Nat):lk (cat nl l) d=(lk nl d).or (lk l d):=by
 induction nl with
 |nil=>rfl
 |cons p r E=>
  obtain⟨e,v⟩:=p;show lk ((e,v)::cat r l) d=_;rw[Qca,Qca,E];split<;>rfl
def Qfl {l:List (Nat×Value)}{ks:List Nat}{d:Nat}{v:Value}(E:d∈ks)(J:lk l d=some v):lk (kp l ks) d=some v:=by
 induction ks with
 |nil=>cases E
 |cons k r L=>
  unfold kp;by_cases hk:k=d;subst hk;rw[J];exact Qal _ _ _;have I:=L ((Qk.1 E).resolve_left λh=>hk h.symm);split;rw[Qag _ _ hk];exact I;exact I
def Qkw {O nl:List (Nat×Value)}{ks:List Nat}{cs:List Prop}{s:QS}{a:Act}{n:Nat}{ds:List Deferred}(I:s.ok a n ds)(hi:s.inv O)(h:qfin O ks s=some (cs,nl)):Fr a n ds (cat nl O)/\s.c=cs:=by
 unfold qfin at h;split at h;rename_i hall;injection h with h;injection h with W Y
 refine⟨⟨I.fr.size,I.fr.defs,λd v E=>?_⟩,W⟩;rw[lk_cat,<-Y]at E;cases hk:lk (kp s.l ks) d with
 |some u=>rw[hk]at E;injection E with E;subst E;exact I.fr.get d _ (lk_kp ks d _ hk)
 |none=>
  rw[hk]at E;have E:lk O d=some v:=E;by_cases V:d∈s.wr;have J:=Wd.1 hall d V;simp only[X7,List.contains_iff_mem,Option.isNone_iff_eq_none,E]at J;have N:d∈ks:=by rcases J with J|J;exact J;cases J
  rcases hi.wrn d V with L|L|⟨u,L⟩
  obtain⟨u,hu⟩:=Option.isSome_iff_exists.1 L;rw[Qfl N hu]at hk;cases hk;rw[E]at L;cases L;rw[Qfl N L]at hk;cases hk;exact I.fr.get d v (by rw[hi.out d V];exact E)
 cases h
section
variable {r:Option Nat}{P:Program}{K:Kn}{ops:Array Oper}{Q:Exit->Act->World->Prop}{a:Act}{w:World}{n:Nat}{ds:List Deferred}
def qs_walk: ∀{hs:List Hint} {lst:List Oper} {s s':QS} {a:Act},qs P K n ops hs lst s=some s'->(∀p,p∈s'.c->p)->(∀p,p∈s'.q->p.1=p.2)->K.ok w->s.ok a n ds->(∀a',s'.ok a' n ds->WL r P ops Q (lst.drop hs.length) a' w)->WL r P ops Q lst a w
 | [],_,s,s',a,hq,_,_,_,hs,h=>by simp only[qs,Qz]at hq;subst hq;exact h a hs
 |g::hs,[],s,s',a,hq,_,_,_,_,_=>by simp[qs]at hq
 |g::hs,o::lst,s,s',a,hq,L,N,O,I,h=>by
  unfold qs at hq;split at hq;rename_i s1 W;have E:=qs_le hq;obtain⟨d,v,V,k1,k2,k3⟩:=o_cT I W (λp hp=>L p (E.c p hp)) (λp hp=>N p (E.q p hp));have hrest:WL r P ops Q lst (a.put (some d) v) w:=qs_walk hq L N O k1 h;unfold WL wpListIn;rcases k3 with⟨J,Y⟩|⟨J,rfl⟩
  rw[Qc J];refine⟨λ_ _=>trivial,?_⟩;rw[Qjh (Y w O) (λ_ h=>by cases h)];show wpListIn _ _ _ _ _ _ (a.put o.dst v) w;rw[V];exact hrest;rw[Qb (by rw[J];decide)];refine⟨λ_ _=>trivial,?_⟩;rw[V];exact hrest;cases hq
def qs_inv {E:List (Nat×Value)}: ∀{hs:List Hint} {lst:List Oper} {s s':QS},s.inv E->qs P K n ops hs lst s=some s'->s'.inv E
 | [],_,s,s',hi,hq=>by simp only[qs,Qz]at hq;subst hq;exact hi
 |g::hs,[],s,s',_,hq=>by simp[qs]at hq
 |g::hs,o::lst,s,s',hi,hq=>by
  unfold qs at hq;split at hq;rename_i J I;exact qs_inv (q1_inv hi I) hq;cases hq
def Qjn {E:List (Nat×Value)}{li':Array Bool}: ∀{is:List (Nat×Hint)} {li:Array Bool} {s s':QS},s.inv E->dqs P K n ops is li s=some (li',s')->s'.inv E
 | [],_,s,s',hi,hq=>by simp only[dqs,Qz,Yr]at hq;rw[<-hq.2];exact hi
 |(i,h)::is,li,s,s',hi,hq=>by
  unfold dqs at hq;split at hq;split at hq;split at hq;rename_i J I;exact Qjn (q1_inv hi I) hq;cases hq;cases hq;cases hq
variable {l:List (Nat×Value)}
def q0 (l:List (Nat×Value)):QS:=⟨l,[],[],[],[]⟩
def o_cx (E:Fr a n ds l):(q0 l).ok a n ds:=⟨E,λt dj b v h=>by cases h⟩
def q0_inv (l:List (Nat×Value)):(q0 l).inv l:=⟨λ_ _=>rfl,λd h=>by cases h⟩
def Qcw: ∀{q:List (Value×Value)},q.map Prod.fst=q.map Prod.snd->∀p,p∈q->p.1=p.2
 | [],_,p,hp=>by cases hp
 |x::q,h,p,hp=>by
  simp only[Q1,Ju]at h;rcases Qk.1 hp with rfl|hp
  exact h.1;exact Qcw h.2 p hp
def qr {lst:List Oper}(hs:List Hint)(ks:List Nat)(cs:List Prop)(nl:List (Nat×Value))(N:K.ok w)(O:Fr a n ds l)
  (h: ∀a',Fr a' n ds (cat nl l)->WL r P ops Q (lst.drop hs.length) a' w)
  (V:conj cs:=by first|exact trivial|(simp only[Go.Z.conj,Go.Z.R64];omega)|omega)
  (hq:((qs P K n ops hs lst (q0 l)).bind (qfin l ks))=some (cs,nl):=by kernel_rfl)
  (I:(qs P K n ops hs lst (q0 l)).map (λs=>s.q.map Prod.fst)=(qs P K n ops hs lst (q0 l)).map (λs=>s.q.map Prod.snd):=by kernel_rfl):WL r P ops Q lst a w:=by
 cases E:qs P K n ops hs lst (q0 l)with
 |none=>rw[E]at hq;cases hq
 |some s'=>
  rw[E]at hq I;have hq:qfin l ks s'=some (cs,nl):=hq;have I:s'.q.map Prod.fst=s'.q.map Prod.snd:=by injection I
  have J:s'.c=cs:=by unfold qfin at hq;split at hq;(injection hq with hq;injection hq);cases hq
  exact qs_walk E (by rw[J];exact Qgm V) (Qcw I) N (o_cx O) λa' L=>h a' (Qkw L (qs_inv (q0_inv l) E) hq).1
variable {S:World->Prop}
end
end Go.Z
end
section
namespace Go.Proofs.YtlhiofnikdppeaaGreatDoor
abbrev D13:Type:=ByteArray×Int
@[reducible] def T40:Z.Ty:=(Z.Ty.pair (Z.Ty.int .i64) (Z.Ty.pair (Z.Ty.int .i64) Z.Ty.str))
abbrev D40:Type:=Int×Int×ByteArray
@[reducible] def T54:Z.Ty:=(Z.Ty.pair (Z.Ty.int .i64) (Z.Ty.pair (Z.Ty.int .i64) (Z.Ty.pair (Z.Ty.slice (Z.Ty.int .i64)) (Z.Ty.pair T40 (Z.Ty.pair Z.Ty.str (Z.Ty.pair (Z.Ty.int .i64) (Z.Ty.int .i64)))))))
abbrev D54:Type:=Int×Int×(List Int)×D40×ByteArray×Int×Int
@[reducible] def T23:Z.Ty:=(Z.Ty.slice T54)
abbrev D23:Type:=(List D54)
@[reducible] def T42:Z.Ty:=(Z.Ty.pair (Z.Ty.int .i64) (Z.Ty.pair (Z.Ty.int .i64) (Z.Ty.pair (Z.Ty.int .i64) (Z.Ty.pair (Z.Ty.int .i64) T40))))
abbrev D42:Type:=Int×Int×Int×Int×D40
@[reducible] def T27:Z.Ty:=(Z.Ty.pair (Z.Ty.slice (Z.Ty.int .i64)) (Z.Ty.pair (Z.Ty.slice T54) (Z.Ty.slice T42)))
abbrev D27:Type:=(List Int)×(List D54)×(List D42)
@[reducible] def T49:Z.Ty:=(Z.Ty.pair (Z.Ty.int .i64) (Z.Ty.pair (Z.Ty.int .i64) (Z.Ty.pair Z.Ty.str (Z.Ty.int .i64))))
abbrev D49:Type:=Int×Int×ByteArray×Int
abbrev D91:Type:=Int×ByteArray
abbrev D93:Type:=Int×D91
@[reducible] def T161:Z.Ty:=(Z.Ty.pair (Z.Ty.int .i64) (Z.Ty.int .i64))
abbrev D161:Type:=Int×Int
@[reducible] def T163:Z.Ty:=(Z.Ty.pair T161 (Z.Ty.int .i64))
abbrev D163:Type:=D161×Int
@[reducible] def T198:Z.Ty:=(Z.Ty.pair (Z.Ty.int .i64) (Z.Ty.pair (Z.Ty.int .i64) (Z.Ty.pair (Z.Ty.int .i64) (Z.Ty.int .i64))))
abbrev D198:Type:=Int×Int×Int×Int
@[reducible] def T199:Z.Ty:=(Z.Ty.pair (Z.Ty.int .i64) (Z.Ty.pair (Z.Ty.int .i64) (Z.Ty.pair (Z.Ty.int .i64) (Z.Ty.pair (Z.Ty.int .i64) T198))))
abbrev D199:Type:=Int×Int×Int×Int×D198
@[reducible] def T202:Z.Ty:=(Z.Ty.pair T161 (Z.Ty.pair T161 T199))
abbrev D202:Type:=D161×D161×D199
@[reducible] def T169:Z.Ty:=(Z.Ty.pair (Z.Ty.int .i64) (Z.Ty.int .i32))
abbrev D169:Type:=Int×Int
abbrev CF (n:Nat):Prop:=∀(args:Array Value) (w:World),(callFunc n args).run Tryz.prog w=.ok (.enter n args) w
def cf5:CF 5:=λ_ _=>by kernel_rfl
def cf6:CF 6:=λ_ _=>by kernel_rfl
def cf7:CF 7:=λ_ _=>by kernel_rfl
def cf8:CF 8:=λ_ _=>by kernel_rfl
def cf9:CF 9:=λ_ _=>by kernel_rfl
def cf10:CF 10:=λ_ _=>by kernel_rfl
def cf11:CF 11:=λ_ _=>by kernel_rfl
def cf12:CF 12:=λ_ _=>by kernel_rfl
def cf13:CF 13:=λ_ _=>by kernel_rfl
def cf14:CF 14:=λ_ _=>by kernel_rfl
def cf16:CF 16:=λ_ _=>by kernel_rfl
def cf17:CF 17:=λ_ _=>by kernel_rfl
def cf18:CF 18:=λ_ _=>by kernel_rfl
def cf19:CF 19:=λ_ _=>by kernel_rfl
def cf20:CF 20:=λ_ _=>by kernel_rfl
def cf21:CF 21:=λ_ _=>by kernel_rfl
def cf22:CF 22:=λ_ _=>by kernel_rfl
def cf23:CF 23:=λ_ _=>by kernel_rfl
def cf24:CF 24:=λ_ _=>by kernel_rfl
def cf25:CF 25:=λ_ _=>by kernel_rfl
def cf26:CF 26:=λ_ _=>by kernel_rfl
def cf27:CF 27:=λ_ _=>by kernel_rfl
def cf28:CF 28:=λ_ _=>by kernel_rfl
def cf29:CF 29:=λ_ _=>by kernel_rfl
def cf30:CF 30:=λ_ _=>by kernel_rfl
def cf31:CF 31:=λ_ _=>by kernel_rfl
def cf32:CF 32:=λ_ _=>by kernel_rfl
def cf33:CF 33:=λ_ _=>by kernel_rfl
def cf34:CF 34:=λ_ _=>by kernel_rfl
def cf35:CF 35:=λ_ _=>by kernel_rfl
def cf36:CF 36:=λ_ _=>by kernel_rfl
def cf38:CF 38:=λ_ _=>by kernel_rfl
def cf39:CF 39:=λ_ _=>by kernel_rfl
def cf40:CF 40:=λ_ _=>by kernel_rfl
def cf41:CF 41:=λ_ _=>by kernel_rfl
def cf42:CF 42:=λ_ _=>by kernel_rfl
def cf43:CF 43:=λ_ _=>by kernel_rfl
def cf44:CF 44:=λ_ _=>by kernel_rfl
def cf45:CF 45:=λ_ _=>by kernel_rfl
def cf46:CF 46:=λ_ _=>by kernel_rfl
def cf47:CF 47:=λ_ _=>by kernel_rfl
def cf48:CF 48:=λ_ _=>by kernel_rfl
def cf49:CF 49:=λ_ _=>by kernel_rfl
def cf50:CF 50:=λ_ _=>by kernel_rfl
def cf51:CF 51:=λ_ _=>by kernel_rfl
def cf52:CF 52:=λ_ _=>by kernel_rfl
def cf53:CF 53:=λ_ _=>by kernel_rfl
def cf54:CF 54:=λ_ _=>by kernel_rfl
def cf55:CF 55:=λ_ _=>by kernel_rfl
def cf56:CF 56:=λ_ _=>by kernel_rfl
def cf57:CF 57:=λ_ _=>by kernel_rfl
def cf58:CF 58:=λ_ _=>by kernel_rfl
def cf59:CF 59:=λ_ _=>by kernel_rfl
def cf60:CF 60:=λ_ _=>by kernel_rfl
def cf61:CF 61:=λ_ _=>by kernel_rfl
def cf62:CF 62:=λ_ _=>by kernel_rfl
def cf63:CF 63:=λ_ _=>by kernel_rfl
def cf64:CF 64:=λ_ _=>by kernel_rfl
def cf65:CF 65:=λ_ _=>by kernel_rfl
def cf66:CF 66:=λ_ _=>by kernel_rfl
def cf67:CF 67:=λ_ _=>by kernel_rfl
def cf68:CF 68:=λ_ _=>by kernel_rfl
def cf69:CF 69:=λ_ _=>by kernel_rfl
def cf70:CF 70:=λ_ _=>by kernel_rfl
def cf71:CF 71:=λ_ _=>by kernel_rfl
def cf72:CF 72:=λ_ _=>by kernel_rfl
def cf73:CF 73:=λ_ _=>by kernel_rfl
def cf74:CF 74:=λ_ _=>by kernel_rfl
def cf75:CF 75:=λ_ _=>by kernel_rfl
def cf76:CF 76:=λ_ _=>by kernel_rfl
def cf77:CF 77:=λ_ _=>by kernel_rfl
def cf78:CF 78:=λ_ _=>by kernel_rfl
def cf79:CF 79:=λ_ _=>by kernel_rfl
def cf80:CF 80:=λ_ _=>by kernel_rfl
def cf83:CF 83:=λ_ _=>by kernel_rfl
def cf84:CF 84:=λ_ _=>by kernel_rfl
def cf85:CF 85:=λ_ _=>by kernel_rfl
def cf86:CF 86:=λ_ _=>by kernel_rfl
def cf87:CF 87:=λ_ _=>by kernel_rfl
def cf88:CF 88:=λ_ _=>by kernel_rfl
def cf89:CF 89:=λ_ _=>by kernel_rfl
def cf90:CF 90:=λ_ _=>by kernel_rfl
def cf91:CF 91:=λ_ _=>by kernel_rfl
def cf92:CF 92:=λ_ _=>by kernel_rfl
def cf93:CF 93:=λ_ _=>by kernel_rfl
def cf94:CF 94:=λ_ _=>by kernel_rfl
def cf95:CF 95:=λ_ _=>by kernel_rfl
def cf96:CF 96:=λ_ _=>by kernel_rfl
def cf97:CF 97:=λ_ _=>by kernel_rfl
def cf98:CF 98:=λ_ _=>by kernel_rfl
def cf99:CF 99:=λ_ _=>by kernel_rfl
def cf100:CF 100:=λ_ _=>by kernel_rfl
def cf101:CF 101:=λ_ _=>by kernel_rfl
def cf102:CF 102:=λ_ _=>by kernel_rfl
def cf103:CF 103:=λ_ _=>by kernel_rfl
def cf104:CF 104:=λ_ _=>by kernel_rfl
def cf105:CF 105:=λ_ _=>by kernel_rfl
def cf106:CF 106:=λ_ _=>by kernel_rfl
def cf107:CF 107:=λ_ _=>by kernel_rfl
def cf108:CF 108:=λ_ _=>by kernel_rfl
def cf109:CF 109:=λ_ _=>by kernel_rfl
def cf110:CF 110:=λ_ _=>by kernel_rfl
def cf121:CF 121:=λ_ _=>by kernel_rfl
def cf122:CF 122:=λ_ _=>by kernel_rfl
def cf123:CF 123:=λ_ _=>by kernel_rfl
def cf124:CF 124:=λ_ _=>by kernel_rfl
def cf125:CF 125:=λ_ _=>by kernel_rfl
def cf126:CF 126:=λ_ _=>by kernel_rfl
def cf127:CF 127:=λ_ _=>by kernel_rfl
def cf128:CF 128:=λ_ _=>by kernel_rfl
def cf129:CF 129:=λ_ _=>by kernel_rfl
def cf130:CF 130:=λ_ _=>by kernel_rfl
def cf131:CF 131:=λ_ _=>by kernel_rfl
def cf132:CF 132:=λ_ _=>by kernel_rfl
def cf133:CF 133:=λ_ _=>by kernel_rfl
def cf134:CF 134:=λ_ _=>by kernel_rfl
def cf135:CF 135:=λ_ _=>by kernel_rfl
def cf136:CF 136:=λ_ _=>by kernel_rfl
def cf137:CF 137:=λ_ _=>by kernel_rfl
def cf138:CF 138:=λ_ _=>by kernel_rfl
def cf139:CF 139:=λ_ _=>by kernel_rfl
def cf140:CF 140:=λ_ _=>by kernel_rfl
def cf141:CF 141:=λ_ _=>by kernel_rfl
def cf143:CF 143:=λ_ _=>by kernel_rfl
def cf144:CF 144:=λ_ _=>by kernel_rfl
def cf145:CF 145:=λ_ _=>by kernel_rfl
def cf146:CF 146:=λ_ _=>by kernel_rfl
def cf147:CF 147:=λ_ _=>by kernel_rfl
def cf148:CF 148:=λ_ _=>by kernel_rfl
def cf149:CF 149:=λ_ _=>by kernel_rfl
def cf150:CF 150:=λ_ _=>by kernel_rfl
def cf151:CF 151:=λ_ _=>by kernel_rfl
def cf152:CF 152:=λ_ _=>by kernel_rfl
def cf153:CF 153:=λ_ _=>by kernel_rfl
def cf159:CF 159:=λ_ _=>by kernel_rfl
def cf160:CF 160:=λ_ _=>by kernel_rfl
def cf161:CF 161:=λ_ _=>by kernel_rfl
def cf162:CF 162:=λ_ _=>by kernel_rfl
def cf163:CF 163:=λ_ _=>by kernel_rfl
def cf164:CF 164:=λ_ _=>by kernel_rfl
def cf165:CF 165:=λ_ _=>by kernel_rfl
def cf166:CF 166:=λ_ _=>by kernel_rfl
def cf167:CF 167:=λ_ _=>by kernel_rfl
def cf168:CF 168:=λ_ _=>by kernel_rfl
def cf171:CF 171:=λ_ _=>by kernel_rfl
def cf172:CF 172:=λ_ _=>by kernel_rfl
def cf173:CF 173:=λ_ _=>by kernel_rfl
def cf174:CF 174:=λ_ _=>by kernel_rfl
def cf175:CF 175:=λ_ _=>by kernel_rfl
def cf176:CF 176:=λ_ _=>by kernel_rfl
def cf177:CF 177:=λ_ _=>by kernel_rfl
def cf179:CF 179:=λ_ _=>by kernel_rfl
def cf180:CF 180:=λ_ _=>by kernel_rfl
def cf181:CF 181:=λ_ _=>by kernel_rfl
def cf182:CF 182:=λ_ _=>by kernel_rfl
def cf183:CF 183:=λ_ _=>by kernel_rfl
def cf184:CF 184:=λ_ _=>by kernel_rfl
def cf185:CF 185:=λ_ _=>by kernel_rfl
def cf186:CF 186:=λ_ _=>by kernel_rfl
def cf187:CF 187:=λ_ _=>by kernel_rfl
def cf188:CF 188:=λ_ _=>by kernel_rfl
def cf189:CF 189:=λ_ _=>by kernel_rfl
def cf190:CF 190:=λ_ _=>by kernel_rfl
def cf191:CF 191:=λ_ _=>by kernel_rfl
def cf192:CF 192:=λ_ _=>by kernel_rfl
def cf193:CF 193:=λ_ _=>by kernel_rfl
def cf194:CF 194:=λ_ _=>by kernel_rfl
def cf195:CF 195:=λ_ _=>by kernel_rfl
def cf196:CF 196:=λ_ _=>by kernel_rfl
def cf197:CF 197:=λ_ _=>by kernel_rfl
def cf198:CF 198:=λ_ _=>by kernel_rfl
def mixed:Tryz.prog.follows .mixedOrders=true:=by kernel_rfl
def inf3:Tryz.prog.info? 3=some Tryz.t3/\Tryz.t3.zero=some (.int .i64 0)/\Tryz.t3.size=1/\Tryz.t3.bytes=8/\Array.size (Value.cells (.int .i64 0))=1:=⟨by kernel_rfl,rfl,rfl,rfl,rfl⟩
def inf4:Tryz.prog.info? 4=some Tryz.t4/\Tryz.t4.zero=some (.bool false)/\Tryz.t4.size=1/\Tryz.t4.bytes=1/\Array.size (Value.cells (.bool false))=1:=⟨by kernel_rfl,rfl,rfl,rfl,rfl⟩
def inf21:Tryz.prog.info? 21=some Tryz.t21/\Tryz.t21.zero=some (.int .i32 0)/\Tryz.t21.size=1/\Tryz.t21.bytes=4/\Array.size (Value.cells (.int .i32 0))=1:=⟨by kernel_rfl,rfl,rfl,rfl,rfl⟩
def inf43:Tryz.prog.info? 43=some Tryz.t43/\Tryz.t43.zero=some (.agg #[.int .i64 0,.int .i64 0,.int .i64 0,.int .i64 0,.int .i64 0,.int .i64 0,.string (ByteArray.mk #[])])/\Tryz.t43.size=7/\Tryz.t43.bytes=64/\Array.size (Value.cells (.agg #[.int .i64 0,.int .i64 0,.int .i64 0,.int .i64 0,.int .i64 0,.int .i64 0,.string (ByteArray.mk #[])]))=7:=⟨by kernel_rfl,rfl,rfl,rfl,rfl⟩
def Qkr:Tryz.prog.info? 50=some Tryz.t50/\Tryz.t50.zero=some (.agg #[.int .i64 0,.int .i64 0,.string (ByteArray.mk #[]),.int .i64 0])/\Tryz.t50.size=4/\Tryz.t50.bytes=40/\Array.size (Value.cells (.agg #[.int .i64 0,.int .i64 0,.string (ByteArray.mk #[]),.int .i64 0]))=4:=⟨by kernel_rfl,rfl,rfl,rfl,rfl⟩
def Qgn:Tryz.prog.info? 55=some Tryz.t55/\Tryz.t55.zero=some (.agg #[.int .i64 0,.int .i64 0,.slice none 0 0,.int .i64 0,.int .i64 0,.string (ByteArray.mk #[]),.string (ByteArray.mk #[]),.int .i64 0,.int .i64 0])/\Tryz.t55.size=9/\Tryz.t55.bytes=104/\Array.size (Value.cells (.agg #[.int .i64 0,.int .i64 0,.slice none 0 0,.int .i64 0,.int .i64 0,.string (ByteArray.mk #[]),.string (ByteArray.mk #[]),.int .i64 0,.int .i64 0]))=9:=⟨by kernel_rfl,rfl,rfl,rfl,rfl⟩
def Qir:Tryz.prog.info? 162=some Tryz.t162/\Tryz.t162.zero=some (.agg #[.int .i64 0,.int .i64 0])/\Tryz.t162.size=2/\Tryz.t162.bytes=16/\Array.size (Value.cells (.agg #[.int .i64 0,.int .i64 0]))=2:=⟨by kernel_rfl,rfl,rfl,rfl,rfl⟩
def inf164:Tryz.prog.info? 164=some Tryz.t164/\Tryz.t164.zero=some (.agg #[.int .i64 0,.int .i64 0,.int .i64 0])/\Tryz.t164.size=3/\Tryz.t164.bytes=24/\Array.size (Value.cells (.agg #[.int .i64 0,.int .i64 0,.int .i64 0]))=3:=⟨by kernel_rfl,rfl,rfl,rfl,rfl⟩
def inf170:Tryz.prog.info? 170=some Tryz.t170/\Tryz.t170.zero=some (.agg #[.int .i64 0,.int .i32 0])/\Tryz.t170.size=2/\Tryz.t170.bytes=16/\Array.size (Value.cells (.agg #[.int .i64 0,.int .i32 0]))=2:=⟨by kernel_rfl,rfl,rfl,rfl,rfl⟩
def inf203:Tryz.prog.info? 203=some Tryz.t203/\Tryz.t203.zero=some (.agg #[.int .i64 0,.int .i64 0,.int .i64 0,.int .i64 0,.int .i64 0,.int .i64 0,.int .i64 0,.int .i64 0,.int .i64 0,.int .i64 0,.int .i64 0,.int .i64 0])/\Tryz.t203.size=12/\Tryz.t203.bytes=96/\Array.size (Value.cells (.agg #[.int .i64 0,.int .i64 0,.int .i64 0,.int .i64 0,.int .i64 0,.int .i64 0,.int .i64 0,.int .i64 0,.int .i64 0,.int .i64 0,.int .i64 0,.int .i64 0]))=12:=⟨by kernel_rfl,rfl,rfl,rfl,rfl⟩
end Go.Proofs.YtlhiofnikdppeaaGreatDoor
end
section
namespace Go.Z
open Go.RowKit
def Qiu:List Nat->List Value->List (Nat×Value)->List (Nat×Value)
 |p::ps,v::vs,l=>Qiu ps vs ((p,v)::l)
 |_,_,l=>l
abbrev mkD (D:Nat):Deferred:={target:=.collected D,args:=#[]}
def Dfr (w:World)(D:Nat):Prop:=w.heap[D]?=some (.deferred (some []))
def Dfr.lt {w:World}{D:Nat}(h:Dfr w D):D<w.heap.size:=(Qp.1 h).1
def Dfr.ch {w w':World}{D:Nat}{S:List Nat}(h:Dfr w D)(E:Ch S w w')(I:D∉S):Dfr w' D:=(E.block D h.lt I).trans h
def Ch.putObj (w:World)(r:Nat)(o:Obj):Ch [r] w (w.putObj r o):=
 ⟨rfl,rfl,rfl,by simp,λk _ E=>World.putObj_heap_other (by simpa using E)⟩
def RP (D:Nat)(I:Nat->World->Prop)(X:Exit->World->Prop)(k:Nat)(W:World)(e:Exit)(W':World):Prop:=
 (∃S,Ch S W W'/\D∉S/\D+1∉S)/\match e with
  | .normal=>I (k+1) W'
  | .ret=>X .ret W'
  | .exit id=>X (.exit id) W'
  |_=>False
def RQ (D:Nat)(I:Nat->World->Prop)(X:Exit->World->Prop)(k:Nat)(W:World):Exit->Act->World->Prop:=λe _ W'=>RP D I X k W e W'
section
variable {P:Program}{Q:Exit->Act->World->Prop}{a:Act}{w:World}{n:Nat}{ds:List Deferred}{l:List (Nat×Value)}
def Qjq: ∀(ps:List Nat) (args:List Value) {l:List (Nat×Value)} {t:Array Value},(∀p,p∈ps->p<n)->Fr ⟨t,[]⟩ n [] l->Fr ⟨(ps.zip args).foldl (λt (p,v)=>t.setIfInBounds p v) t,[]⟩ n [] (Qiu ps args l)
 | [],_,_,_,_,h=>h
 |_::_,[],_,_,_,h=>h
 |p::ps,v::args,_,_,hp,h=>Qjq ps args (λq hq=>hp q (Qf _ hq)) (h.put (d:=p) (hp p (Qi ..)) v)
section
variable {r:Option Nat}
end
section
variable {d:Option Tmp}{T:TypeId}{pos:String}{af:Array Edge}{gd:Option (Nat×Bool)}{t ty:TypeId}{x:Operand}{fn:Fn}{f c:Array Value}{p q:Array TypeId}{va:Bool}
def r_eqfn (E:P.underlying t=some (.func p q va))(I:a.eval x=.func fn f c):(execOp a.eval ⟨d,.binOp .eql t x (.const .nilFunc) ty,T,pos,af,gd⟩).run P w=.ok (.value (.bool false)) w:=by
 have J:a.eval (.const .nilFunc)=.nilFunc:=rfl;have h: ∀m,(Op.equalIn (m+1) t (.func fn f c) .nilFunc).run P w=.ok false w:=λm=>by simp[Op.equalIn,run_underlying E]
 have L:(Op.equal t (.func fn f c) .nilFunc).run P w=.ok false w:=h 9999;simp[execOp,I,J,eqGuard,binOp,L]
end
def enterM {f:FuncId}{fn:Func}{c:Code}{vs:List Value}{m:Nat}{R:Ending->World->Prop}(E:P.funcs[f]?=some fn)(I:fn.body=some c)(J:fn.ntmps=m)(L:vs.length<=m)
  (h: ∀a,Fr a m [] (argl vs 0)->WP none P c (bodyPostM (FW none) 0 P fn R) a w):Calls P f vs.toArray w R:=by
 refine callsIn_wide.1 (callsIn_of_wp_marks (F:=FW none) (n:=0) E I trivial (h _ ?_));subst J;exact Fr.entry vs _ L
def marks:List Nat->List Deferred
 | []=>[]
 |D::r=>mkD D::marks r
def leavesM {fn:Func}{R:Ending->World->Prop}: ∀{Ds:List Nat} {w:World} {tmps:Array Value},(∀D,D∈Ds->Dfr w D)->Ds.Nodup->(∀w',Ch Ds w w'->w'.heap.size=w.heap.size->∃v,(results fn tmps).run P w'=.ok v w'/\R (.returned v) w')->
  LeavesInM (FW none) 0 P fn tmps R (marks Ds) .returning w
 | [],w,tmps,_,_,h=>by
  obtain⟨v,J,L⟩:=h w (Ch.refl w) rfl;exact⟨v,J,L⟩
 |D::Ds,w,tmps,E,I,h=>by
  refine⟨by simp,.inl ⟨D,_,rfl,run_takeDeferred (E D (Qi ..)),leavesM (λD' hD'=>?_) (Wm.1 I).2 λw' N O=>h w' ?_ (by rw[O];simp)⟩⟩;exact(E D' (Qf _ hD')).ch (Ch.putObj _ _ _) (by simp only[Qn];rintro rfl;exact(Wm.1 I).1 hD');exact(Ch.putObj w D _).then N (λi hi=>.inl (by simp at hi;simp[hi])) (λi hi=>.inl (Qf _ hi))
def retM {fn:Func}{R:Ending->World->Prop}{Ds:List Nat}(E:Fr a n (marks Ds) l)(I: ∀D,D∈Ds->Dfr w D)(J:Ds.Nodup)
  (h: ∀w',Ch Ds w w'->w'.heap.size=w.heap.size->∃v,(results fn a.tmps).run P w'=.ok v w'/\R (.returned v) w'):bodyPostM (FW none) 0 P fn R .ret a w:=by
 show LeavesInM _ _ _ _ _ _ a.defers _ _;rw[E.defs];exact leavesM I J h
def res0 {fn:Func}(h:fn.results=#[])(w:World):(results fn a.tmps).run P w=.ok (.tuple #[]) w:=results_none h _ _ _
end
section
variable {r:Option Nat}{P:Program}{ops:Array Oper}{Q:Exit->Act->World->Prop}{a:Act}{w:World}{rest:List Oper}{n:Nat}{ds:List Deferred}{l:List (Nat×Value)}
def callY {d:Nat}{T:TypeId}{pos:String}{af:Array Edge}{c:Operand}{xs:List Operand}{ts:Array TypeId}{lid:Nat}{vs:List Value}{R:Ending->World->Prop}(E:Fr a n ds l)(I:Nat.ble (d+1) n=true)
  (J:ev l c=some (.func (.yield lid) #[] #[])) (L:evs l xs=some vs) (N:YieldAt (FW none) 0 P lid vs.toArray w R) (h: ∀e w',R e w'->∃v,e=.returned v/\∀a',Fr a' n ds ((d,v)::l)->WL none P ops Q rest a' w'):
  WL none P ops Q (⟨some d,.call {callee:=.value c,args:=xs.toArray,argTypes:=ts},T,pos,af,none⟩::rest) a w:=by
 obtain⟨fn,tmps,assign,body,O,V⟩:=N;have W:=E.evals xs L;have Y:=E.eval J;refine stepw (x:=.round lid fn tmps assign body) (w':=w) rfl ?_ (λ_ h=>by cases h) λK hK=>⟨(λh=>by cases h),V.mono λe w' he=>?_⟩;simp only[execOp,resolve,W,Y];simp[Deferred.ofValue,invoke,O];obtain⟨v,rfl,hv⟩:=h e w' he;exact hK _ _ (hv _ (E.put (Q8 I) v))
end
structure Ky (P:Program) (kt:TypeId) {κ:Type} [DecidableEq κ] (enc:κ->Value):Prop where
 check: ∀b k w,(Instr.checkKey b 10000 kt (enc k)).run P w=.ok () w
 eq: ∀a b w,(Op.equal kt (enc a) (enc b)).run P w=.ok (decide (a=b)) w
 now: ∃d,P.underlying kt=some d/\((∀a b,Instr.sameNow d (enc a) (enc b)=some (decide (a=b)))\/(∀a b,Instr.sameNow d (enc a) (enc b)=none))
 bits: ∀a,Instr.sameBits 10000 (enc a) (enc a)=true
section
variable {κ:Type}[DecidableEq κ]{α:Type}
def loc (k:κ):List κ->Option Nat
 | []=>none
 |a::r=>if k=a then some 0 else(loc k r).map (· +1)
def mget (z:α):List (κ×α)->κ->α
 | [],_=>z
 |(a,x)::r,k=>if k=a then x else mget z r k
def mhas:List (κ×α)->κ->Bool
 | [],_=>false
 |(a,_)::r,k=>if k=a then true else mhas r k
def mins:List (κ×α)->κ->α->List (κ×α)
 | [],k,x=>[(k,x)]
 |(a,y)::r,k,x=>if k=a then(a,x)::r else(a,y)::mins r k x
def mget_ins (z:α)(m:List (κ×α))(k j:κ)(x:α):mget z (mins m k x) j=if j=k then x else mget z m j:=by
 induction m with
 |nil=>simp[mins,mget]
 |cons p r I=>
  obtain⟨a,y⟩:=p;unfold mins;by_cases h:k=a;subst h;rw[Qc rfl];simp only[mget];by_cases E:j=k;rw[Qc E,Qc E];rw[Qb E,Qb E,Qb E];rw[Qb h];simp only[mget,I];by_cases E:j=a;subst E;rw[Qc rfl,Qb (λe=>h e.symm),Qc rfl];rw[Qb E,Qb E]
def mhas_ins (m:List (κ×α))(k j:κ)(x:α):mhas (mins m k x) j=(decide (j=k)||mhas m j):=by
 induction m with
 |nil=>by_cases h:j=k<;>simp[mins,mhas,h]
 |cons p r I=>
  obtain⟨a,y⟩:=p;unfold mins;by_cases h:k=a;subst h;rw[Qc rfl];simp only[mhas];by_cases E:j=k<;>simp[E];rw[Qb h];simp only[mhas,I];by_cases E:j=a<;>simp[E]
def mget_none {z:α}{m:List (κ×α)}{k:κ}(h:mhas m k=false):mget z m k=z:=by
 induction m with
 |nil=>rfl
 |cons p r E=>
  obtain⟨a,y⟩:=p;simp only[mhas]at h;by_cases hk:k=a;simp[hk]at h;rw[Qb hk]at h;simp only[mget];rw[Qb hk];exact E h
def mget_mem {z:α}{m:List (κ×α)}{k:κ}(h:mhas m k=true):(k,mget z m k)∈m:=by
 induction m with
 |nil=>simp[mhas]at h
 |cons p r E=>
  obtain⟨a,y⟩:=p;simp only[mhas]at h;by_cases hk:k=a;subst hk;simp[mget];rw[Qb hk]at h;simp only[mget];rw[Qb hk];exact Qf _ (E h)
def mget_get {z:α}{m:List (κ×α)}{i:Nat}{p:κ×α}(I:(m.map Prod.fst).Nodup)(h:m[i]?=some p):mget z m p.1=p.2/\mhas m p.1=true:=by
 induction m generalizing i with
 |nil=>simp at h
 |cons q r J=>
  obtain⟨a,y⟩:=q;rw[Q1,Wm]at I;cases i with
  |zero=>simp at h;subst h;simp[mget,mhas]
  |succ i=>
   rw[Wi]at h;have E:p.1≠a:=λe=>I.1 (by rw[<-e];exact Wr.2 ⟨p,Qj h,rfl⟩);simp only[mget,mhas];rw[Qb E,Qb E];exact J I.2 h
def mins_keys (m:List (κ×α))(k:κ)(x:α):(mins m k x).map Prod.fst=if mhas m k then m.map Prod.fst else m.map Prod.fst++[k]:=by
 induction m with
 |nil=>simp[mins,mhas]
 |cons p r E=>
  obtain⟨a,y⟩:=p;unfold mins;by_cases h:k=a;subst h;simp[mhas];rw[Qb h];simp only[Q1,E,mhas,Qb h];split<;>simp
def mhas_iff (m:List (κ×α))(k:κ):mhas m k=true↔k∈m.map Prod.fst:=by
 induction m with
 |nil=>simp[mhas]
 |cons p r E=>
  obtain⟨a,y⟩:=p;simp only[mhas,Q1,Qk];by_cases h:k=a;simp[h];rw[Qb h,E];simp[h]
def mins_nodup {m:List (κ×α)}(h:(m.map Prod.fst).Nodup)(k:κ)(x:α):((mins m k x).map Prod.fst).Nodup:=by
 rw[mins_keys];by_cases hk:mhas m k=true;rw[Qc hk];exact h;rw[Qb hk,W9];exact⟨h,by simp,λa I b E=>by simp at E;subst E;intro e;subst e;exact hk ((mhas_iff _ _).2 I)⟩
def Qhp (m:List (κ×α))(k:κ):loc k (m.map Prod.fst)=none↔mhas m k=false:=by
 induction m with
 |nil=>simp[loc,mhas]
 |cons p r E=>
  obtain⟨a,y⟩:=p;simp only[Q1,loc,mhas];by_cases h:k=a;simp[h];rw[Qb h,Qb h,Option.map_eq_none_iff,E]
def Qcd {m:List (κ×α)}{k:κ}{i:Nat}(h:loc k (m.map Prod.fst)=some i)(z:α):m[i]?=some (k,mget z m k):=by
 induction m generalizing i with
 |nil=>simp[loc]at h
 |cons p r E=>
  obtain⟨a,y⟩:=p;simp only[Q1,loc]at h;by_cases hk:k=a;subst hk;simp at h;subst h;simp[mget];rw[Qb hk,Yk]at h;obtain⟨j,I,rfl⟩:=h;simp only[Wi,mget];rw[Qb hk];exact E I
def Qao {m:List (κ×α)}{k:κ}(x:α):mins m k x=match loc k (m.map Prod.fst)with
  |some i=>m.modify i λp=>(p.1,x)
  |none=>m++[(k,x)]:=by
 induction m with
 |nil=>simp[mins,loc]
 |cons p r E=>
  obtain⟨a,y⟩:=p;simp only[Q1,loc,mins];by_cases hk:k=a;subst hk;simp;rw[Qb hk,Qb hk,E];cases loc k (r.map Prod.fst)<;>simp
end
section
variable {P:Program}{kt:TypeId}{κ:Type}[DecidableEq κ]{enc:κ->Value}
def Qdh {d:TypeDesc}(h: ∀a b,Instr.sameNow d (enc a) (enc b)=some (decide (a=b)))(k:κ): ∀(es:List MapEntry) (ks:List κ) (n:Nat),es.map (·.key)=ks.map enc->
  Instr.findNow d (enc k) es n=some ((loc k ks).bind λi=>(es[i]?).map λe=>(n+i,e.val))
 | [],[],n,_=>rfl
 | [],_::_,_,h=>by cases h
 |_::_,[],_,h=>by cases h
 |e::es,a::ks,n,hk=>by
  simp only[Q1,Ju]at hk;unfold Instr.findNow;rw[hk.1,h];by_cases E:k=a;simp[loc,E];simp only[E,decide_false,loc,Wa];rw[Qdh h k es ks (n+1) hk.2];cases loc k ks with
  |none=>rfl
  |some i=>simp[Nat.add_assoc,Jl 1 i]
def Qby (h: ∀a b w,(Op.equal kt (enc a) (enc b)).run P w=.ok (decide (a=b)) w)(k:κ)(w:World): ∀(es:List MapEntry) (ks:List κ) (n:Nat),es.map (·.key)=ks.map enc->
  (Instr.findAsking kt (enc k) es n).run P w=.ok ((loc k ks).bind λi=>(es[i]?).map λe=>(n+i,e.val)) w
 | [],[],n,_=>rfl
 | [],_::_,_,h=>by cases h
 |_::_,[],_,h=>by cases h
 |e::es,a::ks,n,hk=>by
  simp only[Q1,Ju]at hk;unfold Instr.findAsking;rw[Sem.run_bind,hk.1,h,Result.andThen_ok];by_cases E:k=a;simp[loc,E];simp only[E,decide_false,loc,Wa,Qx];rw[Qby h k w es ks (n+1) hk.2];cases loc k ks with
  |none=>rfl
  |some i=>simp[Nat.add_assoc,Jl 1 i]
def Qap (K:Ky P kt enc)(k:κ)(w:World)(es:List MapEntry)(ks:List κ)(h:es.map (·.key)=ks.map enc):
  (Instr.findKey kt (enc k) es).run P w=.ok ((loc k ks).bind λi=>(es[i]?).map λe=>(i,e.val)) w:=by
 obtain⟨d,I,E⟩:=K.now;unfold Instr.findKey;rw[Sem.run_bind,run_underlying I,Result.andThen_ok];rcases E with E|E
 rw[Qdh E k es ks 0 h];simp only[Sem.run_pure,Xc];cases es with
 |nil=>
  cases ks with
  |nil=>rfl
  |cons a ks=>cases h
 |cons e es=>
  have:Instr.findNow d (enc k) (e::es) 0=none:=by
   cases ks with
   |nil=>cases h
   |cons a ks=>
    simp only[Q1,Ju]at h;unfold Instr.findNow;rw[h.1,E]
  rw[this];have:=Qby K.eq k w (e::es) ks 0 h;simpa using this
end
def MapC (w:World)(b:Nat)(es:List (Value×Value)):Prop:=
 ∃(arr:List MapEntry) (clock:Nat),w.heap[b]?=some (.map arr.toArray clock)/\arr.map (λe=>(e.key,e.val))=es/\(∀e,e∈arr->e.born<clock)/\(arr.map (·.born)).Nodup
def MapC.lt {w:World}{b:Nat}{es:List (Value×Value)}(h:MapC w b es):b<w.heap.size:=by obtain⟨_,_,h,_⟩:=h;exact(Qp.1 h).1
def MapC.ch {w w':World}{b:Nat}{es:List (Value×Value)}{S:List Nat}(h:MapC w b es)(E:Ch S w w')(I:b∉S):MapC w' b es:=by
 have J:=h.lt;obtain⟨arr,c,L,N⟩:=h;exact⟨arr,c,(E.block b J I).trans L,N⟩
def vof (agg:Bool)(cs:List Value):Value:=bif agg then .agg cs.toArray else cs.headD undef
def Mt {κ:Type}(enc:κ->Value)(t:Ty)(agg:Bool)(w:World)(F:Nat->Prop)(b:Nat)(m:List (κ×t.den)):Prop:=
 ∃es,MapC w b es/\es.length=m.length/\∀(i:Nat) (p:κ×t.den),m[i]?=some p->∃cs,es[i]?=some (enc p.1,vof agg cs)/\t.rep w F cs p.2
section
variable {κ:Type}{enc:κ->Value}{t:Ty}{agg:Bool}{w w':World}{F F':Nat->Prop}{b:Nat}{m:List (κ×t.den)}
def Mt.lt (h:Mt enc t agg w F b m):b<w.heap.size:=by obtain⟨_,h,_⟩:=h;exact h.lt
def Mt.to {S:List Nat}(h:Mt enc t agg w F b m)(E:Ch S w w')(I:b∉S)(J: ∀b,F b->b<w.heap.size->b∉S/\F' b):Mt enc t agg w' F' b m:=by
 obtain⟨es,L,N,O⟩:=h;refine⟨es,L.ch E I,N,λi p hp=>?_⟩;obtain⟨cs,V,W⟩:=O i p hp;exact⟨cs,V,rep_to W E J⟩
end
section
variable {r:Option Nat}{P:Program}{ops:Array Oper}{Q:Exit->Act->World->Prop}{a:Act}{w:World}{rest:List Oper}{n:Nat}{ds:List Deferred}{l:List (Nat×Value)}{d:Nat}{T:TypeId}{pos:String}{af:Array Edge}
variable {κ:Type}{enc:κ->Value}{tt:TypeId}{t:Ty}{agg:Bool}{F:Nat->Prop}{m:List (κ×t.den)}
def st_makeMap {x:Option Operand}(E:x=none)(I:Fr a n ds l)(J:Nat.ble (d+1) n=true)(enc:κ->Value)(t:Ty)(agg:Bool)(F:Nat->Prop)
  (h: ∀g w' a',g=w.heap.size->w'.heap.size=g+1->Mt enc t agg w' F g []->Ch [] w w'->Fr a' n ds ((d,.map (some g))::l)->WL r P ops Q rest a' w'):
  WL r P ops Q (⟨some d,.makeMap tt x,T,pos,af,none⟩::rest) a w:=by
 subst E;refine valw (w':=w.alloc (.map #[] 0)) (v:=.map (some w.heap.size)) I J (by simp[execOp,Instr.makeMap]) λa' hf'=>h _ _ a' rfl (by simp) ⟨[],⟨[],0,heap_alloc_new w _,rfl,by simp,by simp⟩,rfl,λi p hp=>by simp at hp⟩ (Ch.alloc w _) hf'
def Qju {arr:List MapEntry}{es:List (Value×Value)}(I:arr.map (λe=>(e.key,e.val))=es)(N:es.length=m.length)(J: ∀(i:Nat) (p:κ×t.den),m[i]?=some p->∃cs,es[i]?=some (enc p.1,vof agg cs)/\t.rep w F cs p.2):arr.map (·.key)=(m.map Prod.fst).map enc:=by
 have e1:arr.map (·.key)=es.map Prod.fst:=by rw[<-I,List.map_map];rfl
 rw[e1];refine Xa λi=>?_;simp only[Qq];cases E:m[i]? with
 |none=>
  have:=Yo.1 E;rw[Wf (by omega)];rfl
 |some p=>
  obtain⟨cs,L,_⟩:=J i p E;rw[L];rfl
end
section
variable {r:Option Nat}{P:Program}{ops:Array Oper}{Q:Exit->Act->World->Prop}{a:Act}{w:World}{rest:List Oper}{n:Nat}{ds:List Deferred}{l:List (Nat×Value)}{d:Nat}{T:TypeId}{pos:String}{af:Array Edge}
variable {κ:Type}[DecidableEq κ]{enc:κ->Value}{kt et tt:TypeId}{t:Ty}{agg:Bool}{F:Nat->Prop}{b:Nat}{m:List (κ×t.den)}
def run_lookup {x:Value}{zs:List Value}(K:Ky P kt enc)(V:P.underlying tt=some (.map kt et))(hz: ∀w,(zeroValue et).run P w=.ok (vof agg zs) w){z:t.den}(L:t.rep w F zs z)(hm:Mt enc t agg w F b m)(hx:x=.map (some b))(k:κ)(ok:Bool):
  ∃cs,(Instr.lookup tt x (enc k) ok).run P w=.ok (if ok then .tuple #[vof agg cs,.bool (mhas m k)]else vof agg cs) w/\t.rep w F cs (mget z m k):=by
 subst hx;obtain⟨es,⟨arr,clock,hb,W,_⟩,hl,Y⟩:=hm;have hk:=Qju W hl Y;have hfind:=Qap K k w arr (m.map Prod.fst) hk;have hget:(getObj b).run P w=.ok (.map arr.toArray clock) w:=by simp[getObj,Sem.run,hb]
 cases hloc:loc k (m.map Prod.fst)with
 |none=>
  rw[hloc]at hfind;have I:=(Qhp m k).1 hloc;refine⟨zs,?_,by rw[mget_none I];exact L⟩;simp only[Instr.lookup,Sem.run_bind,run_underlying V,Result.andThen_ok,hget,Sem.run_pure,K.check,hfind,Ys,hz,I]
 |some i=>
  rw[hloc]at hfind;have N:=Qcd hloc z;obtain⟨cs,E,h5⟩:=Y i _ N;have I:mhas m k=true:=by
   cases hc:mhas m k with
   |true=>rfl
   |false=>rw[(Qhp m k).2 hc]at hloc;cases hloc
  have harr: ∃e,arr[i]?=some e/\e.val=vof agg cs:=by
   rw[<-W,Qq]at E;cases J:arr[i]? with
   |none=>rw[J]at E;cases E
   |some e=>rw[J]at E;injection E with E;injection E with _ E;exact⟨e,rfl,E⟩
  obtain⟨e,J,O⟩:=harr;refine⟨cs,?_,h5⟩;simp only[Instr.lookup,Sem.run_bind,run_underlying V,Result.andThen_ok,hget,Sem.run_pure,K.check,hfind,Qa,J,Wg,O,I]
def st_lookup {x y:Operand}(E:Fr a n ds l)(J:Nat.ble (d+1) n=true)(K:Ky P kt enc)(L:P.underlying tt=some (.map kt et)){zs:List Value}(N: ∀w,(zeroValue et).run P w=.ok (vof agg zs) w)(z:t.den)(I:t.rep w F zs z)(O:Mt enc t agg w F b m)
  (V:ev l x=some (.map (some b))) (k:κ) (W:ev l y=some (enc k))
  (h: ∀cs a',t.rep w F cs (mget z m k)->Fr a' n ds ((d,vof agg cs)::l)->WL r P ops Q rest a' w):WL r P ops Q (⟨some d,.lookup tt x y false,T,pos,af,none⟩::rest) a w:=by
 obtain⟨cs,Y,h2⟩:=run_lookup (zs:=zs) K L N I O rfl k false;refine valw (w':=w) (v:=vof agg cs) E J ?_ λa' hf'=>h cs a' h2 hf';simp only[execOp,E.eval V,E.eval W,Sem.run_bind,Y,Result.andThen_ok,Sem.run_pure,Qx,Wa]
def st_lookup2 {x y:Operand}(E:Fr a n ds l)(J:Nat.ble (d+1) n=true)(K:Ky P kt enc)(L:P.underlying tt=some (.map kt et)){zs:List Value}(N: ∀w,(zeroValue et).run P w=.ok (vof agg zs) w)(z:t.den)(I:t.rep w F zs z)(O:Mt enc t agg w F b m)
  (V:ev l x=some (.map (some b))) (k:κ) (W:ev l y=some (enc k))
  (h: ∀cs a',t.rep w F cs (mget z m k)->Fr a' n ds ((d,.tuple #[vof agg cs,.bool (mhas m k)])::l)->WL r P ops Q rest a' w):WL r P ops Q (⟨some d,.lookup tt x y true,T,pos,af,none⟩::rest) a w:=by
 obtain⟨cs,Y,h2⟩:=run_lookup (zs:=zs) K L N I O rfl k true;refine valw (w':=w) (v:=.tuple #[vof agg cs,.bool (mhas m k)]) E J ?_ λa' hf'=>h cs a' h2 hf';simp only[execOp,E.eval V,E.eval W,Sem.run_bind,Y,Result.andThen_ok,Sem.run_pure,W8]
def MapC.set {arr:List MapEntry}{clock:Nat}{b:Nat}{w:World}(E:w.heap[b]?=some (.map arr.toArray clock))(o:Obj):(setObj b o).run P w=.ok () (w.putObj b o):=by
 have I:=(Qp.1 E).1;simp[setObj,Sem.run,World.putObj,E]
def Qgq (K:Ky P kt enc)(ht:P.underlying tt=some (.map kt et))(hm:Mt enc t agg w F b m)(k:κ){v:Value}{cs:List Value}(hv:v=vof agg cs){y:t.den}(hr:t.rep w F cs y)(hF: ∀b',F b'->b'≠b):
  ∃w',(Instr.mapUpdate tt (.map (some b)) (enc k) v).run P w=.ok () w'/\Ch [b] w w'/\w'.heap.size=w.heap.size/\Mt enc t agg w' F b (mins m k y):=by
 subst hv;have N:=hm.lt;obtain⟨es,⟨arr,clock,hb,Y,h4,h5⟩,O,h3⟩:=hm;have hk:=Qju Y O h3;have hfind:=Qap K k w arr (m.map Prod.fst) hk;have hget:(getObj b).run P w=.ok (.map arr.toArray clock) w:=by simp[getObj,Sem.run,hb]
 have hlen:arr.length=m.length:=by rw[<-O,<-Y,Qw]
 have step: ∀o,∀cs' x,t.rep w F cs' x->t.rep (w.putObj b o) F cs' x:=λo cs' x h=>rep_to h (Ch.putObj w b o) λb' hb' _=>⟨by simp only[Qn];exact hF b' hb',hb'⟩;cases hloc:loc k (m.map Prod.fst)with
 |none=>
  rw[hloc]at hfind;refine⟨w.putObj b (.map (arr.toArray.push {key:=enc k,val:=vof agg cs,born:=clock}) (clock+1)),?_,Ch.putObj w b _,by simp,?_⟩;simp only[Instr.mapUpdate,Sem.run_bind,run_underlying ht,Result.andThen_ok,hget,K.check,hfind,Ys,MapC.set hb];rw[Qao,hloc];refine⟨es++[(enc k,vof agg cs)],⟨arr++[{key:=enc k,val:=vof agg cs,born:=clock}],clock+1,?_,by simp[Y],?_,?_⟩,by simp[O],λi p hp=>?_⟩;have:=World.putObj_heap_same (o:=.map (arr.toArray.push {key:=enc k,val:=vof agg cs,born:=clock}) (clock+1)) N;simpa using this;intro e I;rcases Q2.1 I with I|I
  have:=h4 e I;omega;simp at I;subst I;simp;rw[Xm,W9];refine⟨h5,by simp,λx hx y hy=>?_⟩;simp at hy;subst hy;obtain⟨e,I,rfl⟩:=Wr.1 hx;have:=h4 e I;omega;by_cases hi:i<m.length;rw[Wc hi]at hp;obtain⟨cs',h6,h7⟩:=h3 i p hp;exact⟨cs',by rw[Wc (by omega)];exact h6,step _ _ _ h7⟩;rw[Q9 (by omega)]at hp;have V:i-m.length=0:=by
   have:=(Qd.1 hp).1;simp at this;omega
  rw[V]at hp;simp at hp;subst hp;exact⟨cs,by rw[Q9 (by omega),O,V];rfl,step _ _ _ hr⟩
 |some i=>
  rw[hloc]at hfind;have J:=Qcd hloc y;have hil:=(Qd.1 J).1;obtain⟨e,I⟩: ∃e,arr[i]?=some e:=⟨_,Qg (by omega)⟩;have hek:e.key=enc k:=by
   have h6:(arr.map (·.key))[i]?=some e.key:=by rw[Qq,I];rfl
   rw[hk,Qq,Qq,J]at h6;simpa using h6.symm
  have hstay:(Instr.keyThatStays (enc k) (enc k)).run P w=.ok (enc k) w:=by simp[Instr.keyThatStays,K.bits]
  refine⟨w.putObj b (.map (arr.toArray.modify i λe=>{e with key:=enc k,val:=vof agg cs}) clock),?_,Ch.putObj w b _,by simp,?_⟩;simp only[Instr.mapUpdate,Sem.run_bind,run_underlying ht,Result.andThen_ok,hget,K.check,hfind,Qa,I,Wg,Wu,Ja,hek,hstay,MapC.set hb];rw[Qao,hloc];have hmod:(arr.toArray.modify i λe=>{e with key:=enc k,val:=vof agg cs})=(arr.modify i λe=>{e with key:=enc k,val:=vof agg cs}).toArray:=by simp
  refine⟨es.modify i λ_=>(enc k,vof agg cs),⟨arr.modify i λe=>{e with key:=enc k,val:=vof agg cs},clock,?_,?_,?_,?_⟩,by simp[O],λj p hp=>?_⟩;have:=World.putObj_heap_same (o:=.map (arr.toArray.modify i λe=>{e with key:=enc k,val:=vof agg cs}) clock) N;rw[<-hmod];exact this;rw[<-Y];refine Xa λj=>?_;simp only[Qq,Wk];by_cases E:i=j;subst E;simp[I];simp[E];intro e' he';obtain⟨j,L⟩:=W7.1 he';rw[Wk]at L;cases ha:arr[j]? with
  |none=>rw[ha]at L;simp at L
  |some e0=>
   rw[ha]at L;have hb0:=h4 e0 (Qj ha);simp only[Xu,Wg,Qz]at L;subst L;split<;>exact hb0
  have:(arr.modify i λe=>{e with key:=enc k,val:=vof agg cs}).map (·.born)=arr.map (·.born):=by
   refine Xa λj=>?_;simp only[Qq,Wk];cases arr[j]? with
   |none=>rfl
   |some e0=>simp only[Xu,Wg,Qz];split<;>rfl
  rw[this];exact h5;rw[Wk]at hp;by_cases E:i=j;subst E;rw[J]at hp;simp at hp;subst hp;refine⟨cs,?_,step _ _ _ hr⟩;rw[Wk];have:es[i]?=some es[i]:=Qg (by omega);simp[this];have hp':m[j]?=some p:=by
   cases W:m[j]? with
   |none=>rw[W]at hp;simp at hp
   |some q=>rw[W]at hp;simpa[E] using hp
  obtain⟨cs',h6,h7⟩:=h3 j p hp';refine⟨cs',?_,step _ _ _ h7⟩;rw[Wk,h6];simp[E]
def st_mapUpdate {x y v:Operand}(E:Fr a n ds l)(K:Ky P kt enc)(I:P.underlying tt=some (.map kt et))(J:Mt enc t agg w F b m)(L:ev l x=some (.map (some b)))(k:κ)(N:ev l y=some (enc k)){cs:List Value}(O:ev l v=some (vof agg cs)){u:t.den}(V:t.rep w F cs u)(W: ∀b',F b'->b'≠b)
  (h: ∀w' a',Ch [b] w w'->w'.heap.size=w.heap.size->Mt enc t agg w' F b (mins m k u)->Fr a' n ds l->WL r P ops Q rest a' w'):WL r P ops Q (⟨none,.mapUpdate tt x y v,T,pos,af,none⟩::rest) a w:=by
 obtain⟨w',Y,h2,h3,h4⟩:=Qgq K I J k rfl V W;refine skipw (w':=w') E ?_ λa' hf'=>h _ a' h2 h3 h4 hf';simp only[execOp,E.eval L,E.eval N,E.eval O,Sem.run_bind,Y,Result.andThen_ok,Sem.run_pure]
end
def bbeq (x:ByteArray):(x==x)=true:=by cases x;exact beq_self_eq_true (α:=Array UInt8) _
section
variable {P:Program}{kt:TypeId}
def Ky.mkInt {k:IntKind}(h:P.underlying kt=some (.int k)):Ky P kt (λi:Int=>.int k i):=
 ⟨λb _ w=>by show(Instr.checkKey b (9999+1) kt _).run P w=_;unfold Instr.checkKey;simp only[Sem.run_bind,run_underlying h,Result.andThen_ok,Sem.run_pure],λ_ _ w=>eq_int (d:=9999) h w,⟨_,h,.inl λa b=>by simp[Instr.sameNow];exact Bool.beq_eq_decide_eq a b⟩,λa=>by simp[Instr.sameBits]⟩
def Ky.mkAgg {κ:Type}[DecidableEq κ]{enc:κ->Value}{d:TypeDesc}(h:P.underlying kt=some d)(E: ∀a b,Instr.sameNow d (enc a) (enc b)=none)(I: ∀b k w,(Instr.checkKey b 10000 kt (enc k)).run P w=.ok () w)(J: ∀a b,EqV P 10000 kt (enc a) (enc b) (decide (a=b)))(L: ∀a,Instr.sameBits 10000 (enc a) (enc a)=true):Ky P kt enc:=
 ⟨I,λa b w=>J a b w,⟨d,h,.inr E⟩,L⟩
end
def Rg (w:World)(r b n:Nat)(seen:List Nat):Prop:=
 r≠b/\∃(arr:List MapEntry) (clock since:Nat) (sb:List Nat),w.heap[b]?=some (.map arr.toArray clock)/\arr.length=n/\w.heap[r]?=some (.mapIter (some b) since sb.toArray since)/\since=clock/\
  (∀e,e∈arr->e.born<since)/\(arr.map (·.born)).Nodup/\∀i e,arr[i]?=some e->(e.born∈sb↔i∈seen)
def Rg.ch {w w':World}{r b n:Nat}{seen:List Nat}{S:List Nat}(h:Rg w r b n seen)(E:Ch S w w')(L:r∉S)(N:b∉S):Rg w' r b n seen:=by
 obtain⟨O,arr,clock,since,sb,I,V,J,W⟩:=h;exact⟨O,arr,clock,since,sb,(E.block _ (Qp.1 I).1 N).trans I,V,(E.block _ (Qp.1 J).1 L).trans J,W⟩
section
variable {r:Option Nat}{P:Program}{ops:Array Oper}{Q:Exit->Act->World->Prop}{a:Act}{w:World}{rest:List Oper}{n:Nat}{ds:List Deferred}{l:List (Nat×Value)}{d:Nat}{T:TypeId}{pos:String}{af:Array Edge}
def Qkt {x:Operand}{tt kt et:TypeId}{b:Nat}{es:List (Value×Value)}(I:Fr a n ds l)(N:Nat.ble (d+1) n=true)(O:P.underlying tt=some (.map kt et))(V:ev l x=some (.map (some b)))(J:MapC w b es)
  (h: ∀g w' a',g=w.heap.size->w'.heap.size=g+1->Rg w' g b es.length []->Ch [] w w'->Fr a' n ds ((d,.pointer (some ⟨g,0,none⟩))::l)->WL r P ops Q rest a' w'):
  WL r P ops Q (⟨some d,.range tt x,T,pos,af,none⟩::rest) a w:=by
 have E:=J.lt;obtain⟨arr,clock,L,W,Y,h5⟩:=J;have hget:(getObj b).run P w=.ok (.map arr.toArray clock) w:=by simp[getObj,Sem.run,L]
 refine valw (w':=w.alloc (.mapIter (some b) clock #[] clock)) (v:=.pointer (some ⟨w.heap.size,0,none⟩)) I N ?_ λa' hf'=>h _ _ a' rfl (by simp) ⟨by omega,arr,clock,clock,[],?_,by rw[<-W,Qw],heap_alloc_new w _,rfl,Y,h5,by simp⟩ (Ch.alloc w _) hf';simp[execOp,Instr.range,run_underlying O,I.eval V,hget];exact(heap_alloc_old w _ E).trans L
def Si (w:World)(g:Nat)(s:ByteArray)(p:Nat):Prop:=w.heap[g]?=some (.stringIter s p)
def Si.lt {w:World}{g p:Nat}{s:ByteArray}(h:Si w g s p):g<w.heap.size:=(Qp.1 h).1
def Si.ch {w w':World}{g p:Nat}{s:ByteArray}{S:List Nat}(h:Si w g s p)(E:Ch S w w')(I:g∉S):Si w' g s p:=(E.block g h.lt I).trans h
def st_rangeStr {x:Operand}{tt:TypeId}{s:ByteArray}(E:Fr a n ds l)(I:Nat.ble (d+1) n=true)(J:P.underlying tt=some .string)(L:ev l x=some (.string s))
  (h: ∀g w' a',g=w.heap.size->w'.heap.size=g+1->Si w' g s 0->Ch [] w w'->Fr a' n ds ((d,.pointer (some ⟨g,0,none⟩))::l)->WL r P ops Q rest a' w'):
  WL r P ops Q (⟨some d,.range tt x,T,pos,af,none⟩::rest) a w:=
 valw (w':=w.alloc (.stringIter s 0)) (v:=.pointer (some ⟨w.heap.size,0,none⟩)) E I (by simp[execOp,Instr.range,run_underlying J,E.eval L]) λa' hf'=>h _ _ a' rfl (by simp) (heap_alloc_new w _) (Ch.alloc w _) hf'
def st_nextStr {x:Operand}{g p:Nat}{s:ByteArray}(E:Fr a n ds l)(I:Nat.ble (d+1) n=true)(J:ev l x=some (.pointer (some ⟨g,0,none⟩)))(hs:Si w g s p)
  (L: ¬p<s.size->∀a',Fr a' n ds ((d,.tuple #[.bool false])::l)->WL r P ops Q rest a' w)
  (N:p<s.size->∀w' a',Ch [g] w w'->w'.heap.size=w.heap.size->Si w' g s (p+(Utf8.decode s p).2)->Fr a' n ds ((d,.tuple #[.bool true,.int .i64 (p:Int),.int .i32 ((Utf8.decode s p).1:Int)])::l)->WL r P ops Q rest a' w'):
  WL r P ops Q (⟨some d,.next x true,T,pos,af,none⟩::rest) a w:=by
 have hget:(getObj g).run P w=.ok (.stringIter s p) w:=by simp[getObj,Sem.run,show w.heap[g]?=_ from hs]
 by_cases hp:p<s.size
 ·have hset:(setObj g (.stringIter s (p+(Utf8.decode s p).2))).run P w=.ok () (w.putObj g (.stringIter s (p+(Utf8.decode s p).2))):=by simp[setObj,Sem.run,World.putObj,show w.heap[g]?=_ from hs]
  refine valw (w':=w.putObj g (.stringIter s (p+(Utf8.decode s p).2))) E I ?_ λa' hf'=>N hp _ a' (Ch.putObj w g _) (by simp) (World.putObj_heap_same hs.lt) hf';simp only[execOp,E.eval J,Instr.next,Sem.run_bind,hget,Result.andThen_ok,hp,W8,hset,Sem.run_pure,goInt]
 ·refine val E I ?_ λa' hf'=>L hp a' hf'
  simp only[execOp,E.eval J,Instr.next,Sem.run_bind,hget,Result.andThen_ok,hp,Wa,Sem.run_pure]
def bat (s:ByteArray)(i:Nat):UInt8:=s.data.getD i 0
def r_indexStr {d:Option Tmp}{gd:Option (Nat×Bool)}{x y:Operand}{tt:TypeId}{s:ByteArray}{k:IntKind}{i:Int}{u:Nat}(I:P.underlying tt=some .string)(J:a.eval x=.string s)(L:a.eval y=.int k i)(N:i=(u:Int))(E:u<s.size):
  (execOp a.eval ⟨d,.index tt x y,T,pos,af,gd⟩).run P w=.ok (.value (.int .u8 ((bat s u).toNat:Int))) w:=by
 subst N;have O:s[u]?=some (bat s u):=by
  have V:s[u]?=some (s[u]'E):=ByteArray.getElem?_lt' s u E;rw[V];congr 1;have hl':u<s.data.size:=E;unfold bat;rw[Wv,Wp hl'];rfl
 simp[execOp,Instr.index,J,L,asIntOf,run_underlying I,O]
end
section
variable {r:Option Nat}{P:Program}{ops:Array Oper}{Q:Exit->Act->World->Prop}{a:Act}{w:World}{rest:List Oper}{n:Nat}{ds:List Deferred}{l:List (Nat×Value)}{d:Nat}{T:TypeId}{pos:String}{af:Array Edge}
variable {κ:Type}[DecidableEq κ]{enc:κ->Value}{kt et tt:TypeId}{t:Ty}{agg:Bool}{F:Nat->Prop}{b:Nat}{m:List (κ×t.den)}
def r_lookup {d:Option Tmp}{gd:Option (Nat×Bool)}{x y:Operand}{ok:Bool}{X Y v:Value}(h:(Instr.lookup tt X Y ok).run P w=.ok v w)(E:a.eval x=X)(I:a.eval y=Y):(execOp a.eval ⟨d,.lookup tt x y ok,T,pos,af,gd⟩).run P w=.ok (.value v) w:=by
 subst E;subst I;simp only[execOp,Sem.run_bind,h,Result.andThen_ok,Sem.run_pure]
omit [DecidableEq κ]in
def st_rangeMt {x:Operand}(I:Fr a n ds l)(J:Nat.ble (d+1) n=true)(L:P.underlying tt=some (.map kt et))(N:ev l x=some (.map (some b)))(O:Mt enc t agg w F b m)
  (h: ∀g w' a',g=w.heap.size->w'.heap.size=g+1->Rg w' g b m.length []->Ch [] w w'->Fr a' n ds ((d,.pointer (some ⟨g,0,none⟩))::l)->WL r P ops Q rest a' w'):
  WL r P ops Q (⟨some d,.range tt x,T,pos,af,none⟩::rest) a w:=by
 obtain⟨es,E,V,h3⟩:=O;exact Qkt I J L N E λg w' a' W Y h4 h5 h6=>h g w' a' W Y (V▸h4) h5 h6
end
section
variable {r:Option Nat}{P:Program}{ops:Array Oper}{Q:Exit->Act->World->Prop}{a:Act}{w:World}{rest:List Oper}{n:Nat}{ds:List Deferred}{l:List (Nat×Value)}{d:Nat}{T:TypeId}{pos:String}{af:Array Edge}
def Qij {α:Type}{l new:List α}{p:Nat}(hp:p+new.length<=l.length)(q:Nat):(l.take p++new++l.drop (p+new.length))[q]?=if q<p then l[q]? else if q<p+new.length then new[q-p]? else l[q]?:=by
 have I:(l.take p).length=p:=by rw[Qy];omega
 rw[Q0];by_cases h:q<p;rw[Qc h,Wc (by omega),Wo h];rw[Qb h,Q9 (by omega),I];by_cases E:q<p+new.length;rw[Qc E,Wc (by omega)];rw[Qb E,Q9 (by omega),Xq];congr 1;omega
def Qgl {α:Type}(l:List α)(i sz q:Nat):((l.drop i).take sz)[q]?=if q<sz then l[i+q]? else none:=by
 rw[Xp];split<;>simp[Xq]
def run_storeOwn {t:Ty}{e tt:TypeId}{B:Nat}{F:Nat->Prop}{A:Option Addr}{c:Nat}{xs:List t.den}(h:Own t e B w F A c xs){k o m:Nat}(hk:k<xs.length)(hS: ∀w,(sizeOf tt).run P w=.ok m w)(ho:o+m<=t.size){ad:Addr}(hA:A=some ad)
  {v:Value} {new es:List Value} (hv:v.cells=new.toArray) (hm:new.length=m) (h1: ∀u∈new,u.oneCell'=true) (hes:Cells w (ad.add (k*t.size)) es) (hel:es.length=t.size) {y:t.den} (hy:t.rep w F (es.take o++new++es.drop (o+m)) y) (hF: ∀b,F b->b∉obl A):
  ∃w',(Instr.storeAt tt (.pointer (some ((ad.add (k*t.size)).add o))) v).run P w=.ok () w'/\Ch (obl A) w w'/\w'.heap.size=w.heap.size/\Own t e B w' F A c (xs.set k y):=by
 obtain⟨cells,⟨hl,hrow⟩,h1c,h2⟩:=h;rcases hrow with⟨I,hn⟩|⟨g,cap,cur,I,J,hg,V,hcm,W,htake⟩
 injection I with hA' _ _;subst hA';cases hA
 injection I with hA' _ hc'
 subst hA';subst hc';injection hA with hA
 subst hA;subst hm;have hks:k*t.size+t.size<=xs.length*t.size:=by
  have:(k+1)*t.size<=xs.length*t.size:=Wj _ hk;rwa[Xr,Yx]at this
 have hcur:xs.length*t.size<=cur.size:=by rw[W];exact Wj _ V
 have hl:cells.length=xs.length*t.size:=hl;have hcell: ∀q,q<xs.length*t.size->cur.toList[q]?=cells[q]?:=λq hq=>by rw[<-htake,Wo hq]
 have hBlk:Blk w g e cur.toList:=by unfold Blk;simpa using hg
 have hadd:((⟨g,0,none⟩:Addr).add (k*t.size)).add o=⟨g,k*t.size+o,none⟩:=by rw[Addr.add_lit,Addr.add_lit];simp
 have Y:=run_storeB (P:=P) (o:=k*t.size+o) hBlk hS hv rfl (by simp;omega) h1;obtain⟨cs',hcs'⟩: ∃cs',cs'=cur.toList.take (k*t.size+o)++new++cur.toList.drop (k*t.size+o+new.length):=⟨_,rfl⟩;rw[<-hcs']at Y;have hlen':cs'.length=cur.size:=by rw[hcs'];simp;omega
 have L:Ch (obl (some (⟨g,0,none⟩:Addr))) w (w.setRow g cs'.toArray):=Ch.setRow w g _;have hget: ∀q,q<xs.length*t.size->(cs'.take (xs.length*t.size))[q]?=if q<k*t.size+o then cells[q]? else if q<k*t.size+o+new.length then new[q-(k*t.size+o)]? else cells[q]?:=λq hq=>by
  rw[Wo hq,hcs',Qij (by simp;omega),hcell q hq]
 have hesq: ∀q,q<t.size->es[q]?=cells[k*t.size+q]?:=λq hq=>by
  obtain⟨u,hu⟩: ∃u,es[q]?=some u:=⟨_,Qg (by omega)⟩;have:=hes q u hu;rw[Addr.add_lit,Addr.add_lit,hBlk.cell]at this;rw[hu,<-hcell _ (by omega)];simpa using this.symm
 refine⟨_,by rw[hadd];exact Y,L,by simp[World.setRow],cs'.take (xs.length*t.size),⟨by rw[Xd,Qy,hlen',X6 hcur],.inr ⟨g,c,cs'.toArray,by rw[Xd],J,?_,by rw[Xd];exact V,hcm,by rw[Xt,hlen',W],by rw[Xd]⟩⟩,?_,?_⟩;have:=hBlk.setRow (cs':=cs');unfold Blk at this;exact this;intro u hu;obtain⟨q,hq⟩:=W7.1 hu;have hql:q<xs.length*t.size:=by have:=(Qd.1 hq).1;rw[Qy]at this;omega
 rw[hget q hql]at hq;split at hq;exact h1c u (Qj hq);split at hq;exact h1 u (Qj hq);exact h1c u (Qj hq);intro i x N;have hil:i<xs.length:=by have:=(Qd.1 N).1;rwa[Xd]at this
 have his:i*t.size+t.size<=xs.length*t.size:=by
  have:(i+1)*t.size<=xs.length*t.size:=Wj _ hil;rwa[Xr,Yx]at this
 by_cases O:i=k;subst O;rw[Yz hil]at N;injection N with N
 subst N;have e1:((cs'.take (xs.length*t.size)).drop (i*t.size)).take t.size=es.take o++new++es.drop (o+new.length):=by
  refine Xa λq=>?_;rw[Qgl,Qij (by omega)];by_cases hq:q<t.size;rw[Qc hq,hget _ (by omega),hesq q hq];by_cases E:q<o;rw[Qc (by omega),Qc E];rw[Qb (by omega),Qb E];by_cases h4:q<o+new.length;rw[Qc (by omega),Qc h4];congr 1;omega;rw[Qb (by omega),Qb h4];rw[Qb hq,Qb (by omega),Qb (by omega),Wf (by omega)]
 rw[e1];exact rep_to hy L λb J _=>⟨hF b J,J⟩;rw[List.getElem?_set_ne (λh=>O h.symm)]at N;have e1:((cs'.take (xs.length*t.size)).drop (i*t.size)).take t.size=(cells.drop (i*t.size)).take t.size:=by
  refine Xa λq=>?_;rw[Qgl,Qgl];by_cases hq:q<t.size;rw[Qc hq,Qc hq,hget _ (by omega)];have:i*t.size+q<k*t.size+o\/k*t.size+o+new.length<=i*t.size+q:=by
   rcases Nat.lt_or_gt_of_ne O with E|E
   left;have:(i+1)*t.size<=k*t.size:=Wj _ E;rw[Xr,Yx]at this;omega;right;have:(k+1)*t.size<=i*t.size:=Wj _ E;rw[Xr,Yx]at this;omega
  rcases this with E|E
  rw[Qc E];rw[Qb (by omega),Qb (by omega)];rw[Qb hq,Qb hq]
 rw[e1];exact rep_to (h2 i x N) L λb J _=>⟨hF b J,J⟩
def st_setel {t:Ty}{e tt:TypeId}{B:Nat}{F:Nat->Prop}{A:Option Addr}{c:Nat}{xs:List t.den}{px py:Operand}(E:Fr a n ds l)(h:Own t e B w F A c xs){k o m:Nat}(hk:k<xs.length)(N: ∀w,(sizeOf tt).run P w=.ok m w)(O:Nat.ble (o+m) t.size=true){ad:Addr}(V:A=some ad)
  (W:ev l px=some (.pointer (some ((ad.add (k*t.size)).add o)))) {v:Value} (I:ev l py=some v) {new es:List Value} (Y:v.cells=new.toArray) (hm:new.length=m) (h1: ∀u∈new,u.oneCell'=true) (J:Cells w (ad.add (k*t.size)) es) (L:es.length=t.size) {y:t.den} (hy:t.rep w F (es.take o++new++es.drop (o+m)) y) (hF: ∀b,F b->b∉obl A)
  (hn: ∀w' a',Ch (obl A) w w'->w'.heap.size=w.heap.size->Own t e B w' F A c (xs.set k y)->Fr a' n ds l->WL r P ops Q rest a' w'):WL r P ops Q (⟨none,.store tt px py,T,pos,af,none⟩::rest) a w:=by
 obtain⟨w',h2,h3,h4,h5⟩:=run_storeOwn (P:=P) h hk N (Q8 O) V Y hm h1 J L hy hF;refine skipw (w':=w') E ?_ λa' hf'=>hn _ a' h3 h4 h5 hf';simp only[execOp,E.eval W,E.eval I,Sem.run_bind,h2,Result.andThen_ok,Sem.run_pure]
def st_makeSlice {t:Ty}{tt e:TypeId}{x y:Operand}{i:TypeInfo}{z:Value}{bytes u:Nat}{k1 k2:IntKind}{p q:Int}(L:Fr a n ds l)(hd:Nat.ble (d+1) n=true)(ht:P.underlying tt=some (.slice e))(hi:P.info? e=some i)(hz:i.zero=some z)(hsize:i.size=1)(N:i.bytes=bytes)(O:z.cells=#[z])(J:t.size=1)
  (I:ev l x=some (.int k1 p)) (hy:ev l y=some (.int k2 q)) (hp:p=(u:Int)) (hq:q=(u:Int)) (hu:bytes*u<=140737488355328) (Y:u<=maxLen) (z0:t.den) (V:t.rep w no [z] z0) (h1:z.oneCell'=true)
  (h: ∀g w' a',g=w.heap.size->w'.heap.size=g+1->Own t e g w' no (some ⟨g,0,none⟩) u (List.replicate u z0)->Ch [] w w'->Fr a' n ds ((d,.slice (some ⟨g,0,none⟩) u u)::l)->WL r P ops Q rest a' w'):
  WL r P ops Q (⟨some d,.makeSlice tt x y,T,pos,af,none⟩::rest) a w:=by
 subst hp;subst hq;have hrun:=run_make (P:=P) w tt e i z ht hi hz k1 k2 (u:Int) (u:Int) (by omega) (by omega) (by rw[N,<-Int.natCast_mul];omega) (by rw[show maxLen=9223372036854775807 from rfl]at Y;omega);have hcells:madeCells z.cells ((u:Int).toNat*i.size)=(List.replicate u z).toArray:=by
  rw[O,hsize,Qv,Nat.mul_one];unfold madeCells;apply Array.toList_inj.1;refine Xa λj=>?_;simp only[Array.toList_map,Array.toList_range,Qq];by_cases E:j<u;rw[List.getElem?_range E,Yg,Qc E];simp[Nat.mod_one];rw[Wf (by simpa using E),Wf (by simpa using E)];rfl
 rw[hcells,Qv]at hrun;refine valw (w':=w.alloc (.cells (List.replicate u z).toArray e)) (v:=.slice (some ⟨w.heap.size,0,none⟩) u u) L hd ?_ λa' hf'=>h _ _ a' rfl (by simp) ?_ (Ch.alloc w _) hf';simp only[execOp,L.eval I,L.eval hy,Sem.run_bind,hrun,Result.andThen_ok,Sem.run_pure];have:=Own.made (t:=t) (F:=no) (B:=w.heap.size) (xs:=List.replicate u z0) (Blk.new w e (List.replicate u z)) (Qt _) (by simp[J]) (by simpa using Y) (λv hv=>by rw[List.eq_of_mem_replicate hv];exact h1) λj x I=>by
  have E:=(Qd.1 I).1;rw[X9]at E;have W:x=z0:=by
   rw[Yg,Qc E]at I;injection I with I;exact I.symm
  subst W;have:((List.replicate u z).drop (j*t.size)).take t.size=[z]:=by
   rw[J,Nat.mul_one];refine Xa λq=>?_;rw[Qgl];cases q with
   |zero=>simp[E]
   |succ q=>simp
  rw[this];exact rep_ch0 (Ch.alloc w _) t V
 rwa[X9]at this
end
section
variable {P:Program}{a:Act}{w:World}{n:Nat}{ds:List Deferred}{l:List (Nat×Value)}
def RV (P:Program)(tm:Array Value)(w:World):ResultVar->Value->Prop
 | .tmp t,v=>tm.getD t undef=v
 | .cell p ty,v=>∃ad,tm.getD p undef=.pointer (some ad)/\(loadVar ty ad).run P w=.ok v w
def rv_t {t:Nat}{v:Value}(E:Fr a n ds l)(I:lk l t=some v):RV P a.tmps w (.tmp t) v:=E.eval (x:=.tmp t) I
def rv_1 {p g:Nat}{ty bt:TypeId}{u:Value}(E:Fr a n ds l)(hp:lk l p=some (.pointer (some ⟨g,0,none⟩)))(I: ∀w,(isAgg ty).run P w=.ok false w)(J:Blk w g bt [u]):RV P a.tmps w (.cell p ty) u:=by
 have L:w.cell? ⟨g,0,none⟩=some u:=J.cell 0;exact⟨_,E.eval (x:=.tmp p) hp,by simp[loadVar,I,L]⟩
def rv_n {p g m:Nat}{ty bt:TypeId}{cs:List Value}(E:Fr a n ds l)(hp:lk l p=some (.pointer (some ⟨g,0,none⟩)))(I: ∀w,(isAgg ty).run P w=.ok true w)(J: ∀w,(sizeOf ty).run P w=.ok m w)(L:Blk w g bt cs)(N:cs.length=m):RV P a.tmps w (.cell p ty) (.agg cs.toArray):=by
 subst N;refine⟨_,E.eval (x:=.tmp p) hp,?_⟩;have:=run_loadCells_list (P:=P) w ⟨g,0,none⟩ cs λj u O=>by rw[Addr.add_lit,L.cell];simpa using O
 simp[loadVar,I,J,this]
def resv1 {fn:Func}{E:ResultVar}{J:Value}(h:fn.results=#[E])(I:RV P a.tmps w E J):(results fn a.tmps).run P w=.ok J w:=by
 cases E<;>simp only[RV,Wv]at I;simp[results,h,I];obtain⟨ad,L,N⟩:=I;simp[results,h,L,asAddr,N]
def resv2 {fn:Func}{N O:ResultVar}{V W:Value}(h:fn.results=#[N,O])(E:RV P a.tmps w N V)(I:RV P a.tmps w O W):(results fn a.tmps).run P w=.ok (.tuple #[V,W]) w:=by
 cases N<;>cases O<;>simp only[RV,Wv]at E I;simp[results,h,E,I];obtain⟨ad,J,L⟩:=I;simp[results,h,E,J,asAddr,L];obtain⟨ad,J,L⟩:=E;simp[results,h,I,J,asAddr,L];obtain⟨ad,J,L⟩:=E;obtain⟨ae,Y,h6⟩:=I;simp[results,h,J,Y,asAddr,L,h6]
def retv {fn:Func}{R:Ending->World->Prop}{v:Value}(E:Fr a n [] l)(h:(results fn a.tmps).run P w=.ok v w)(I:R (.returned v) w):bodyPost P fn R .ret a w:=bodyPost_ret h E.defs I
def endv {fn:Func}{R:Ending->World->Prop}{v:Value}(E:Fr a n [] l)(h:(results fn a.tmps).run P w=.ok v w)(I:R (.returned v) w):bodyPost P fn R .normal a w:=bodyPost_end h E.defs I
end
end Go.Z
end
section
namespace Go.Proofs.YtlhiofnikdppeaaGreatDoor
def eqin41 {x y:D40}(d:Nat):Z.EqV Tryz.prog (d+2) 41 (.agg #[.int .i64 x.1,.int .i64 x.2.1,.string x.2.2]) (.agg #[.int .i64 y.1,.int .i64 y.2.1,.string y.2.2]) (decide (x=y)):=by
 have h:Z.EqV Tryz.prog (d+2) 41 (.agg #[.int .i64 x.1,.int .i64 x.2.1,.string x.2.2]) (.agg #[.int .i64 y.1,.int .i64 y.2.1,.string y.2.2]) (decide (x.1=y.1)&&(decide (x.2.1=y.2.1)&&(decide (x.2.2=y.2.2)&&true))):=Z.eq_struct Tryz.underlying41 (by kernel_rfl) (Z.eqf_cons rfl (λw=>Z.part_one w Tryz.isAgg3 rfl) (λw=>Z.part_one w Tryz.isAgg3 rfl) (Z.eq_int (d:=d+0) Tryz.underlying3) (Z.eqf_cons rfl (λw=>Z.part_one w Tryz.isAgg2 rfl) (λw=>Z.part_one w Tryz.isAgg2 rfl) (Z.eq_int (d:=d+0) Tryz.underlying2) (Z.eqf_cons rfl (λw=>Z.part_one w Tryz.isAgg9 rfl) (λw=>Z.part_one w Tryz.isAgg9 rfl) (Z.eq_str (d:=d+0) Tryz.underlying9) Z.eqf_nil)));have e:decide (x=y)=(decide (x.1=y.1)&&(decide (x.2.1=y.2.1)&&(decide (x.2.2=y.2.2)&&true))):=by simp only[Z.decide_pair,Ym]
 rw[e];exact h
def eqagg_eql41 {x y:D40}{a:Act}{w:World}{dd:Option Tmp}{T ty:TypeId}{pos:String}{af:Array Edge}{gd:Option (Nat×Bool)}{X Y:Operand}(E:a.eval X=.agg #[.int .i64 x.1,.int .i64 x.2.1,.string x.2.2])(I:a.eval Y=.agg #[.int .i64 y.1,.int .i64 y.2.1,.string y.2.2]):(execOp a.eval ⟨dd,.binOp .eql 41 X Y ty,T,pos,af,gd⟩).run Tryz.prog w=.ok (.value (.bool (decide (x=y)))) w:=Z.r_eqagg (eqin41 9998) (by kernel_rfl) E I
def eqagg_neq41 {x y:D40}{a:Act}{w:World}{dd:Option Tmp}{T ty:TypeId}{pos:String}{af:Array Edge}{gd:Option (Nat×Bool)}{X Y:Operand}(E:a.eval X=.agg #[.int .i64 x.1,.int .i64 x.2.1,.string x.2.2])(I:a.eval Y=.agg #[.int .i64 y.1,.int .i64 y.2.1,.string y.2.2]):(execOp a.eval ⟨dd,.binOp .neq 41 X Y ty,T,pos,af,gd⟩).run Tryz.prog w=.ok (.value (.bool (decide (x≠y)))) w:=Z.r_neagg (eqin41 9998) (by kernel_rfl) E I
def eqin43 {x y:D42}(d:Nat):Z.EqV Tryz.prog (d+3) 43 (.agg #[.int .i64 x.1,.int .i64 x.2.1,.int .i64 x.2.2.1,.int .i64 x.2.2.2.1,.int .i64 x.2.2.2.2.1,.int .i64 x.2.2.2.2.2.1,.string x.2.2.2.2.2.2]) (.agg #[.int .i64 y.1,.int .i64 y.2.1,.int .i64 y.2.2.1,.int .i64 y.2.2.2.1,.int .i64 y.2.2.2.2.1,.int .i64 y.2.2.2.2.2.1,.string y.2.2.2.2.2.2]) (decide (x=y)):=by
 have h:Z.EqV Tryz.prog (d+3) 43 (.agg #[.int .i64 x.1,.int .i64 x.2.1,.int .i64 x.2.2.1,.int .i64 x.2.2.2.1,.int .i64 x.2.2.2.2.1,.int .i64 x.2.2.2.2.2.1,.string x.2.2.2.2.2.2]) (.agg #[.int .i64 y.1,.int .i64 y.2.1,.int .i64 y.2.2.1,.int .i64 y.2.2.2.1,.int .i64 y.2.2.2.2.1,.int .i64 y.2.2.2.2.2.1,.string y.2.2.2.2.2.2]) (decide (x.1=y.1)&&(decide (x.2.1=y.2.1)&&(decide (x.2.2.1=y.2.2.1)&&(decide (x.2.2.2.1=y.2.2.2.1)&&(decide (x.2.2.2.2=y.2.2.2.2)&&true))))):=Z.eq_struct Tryz.underlying43 (by kernel_rfl) (Z.eqf_cons rfl (λw=>Z.part_one w Tryz.isAgg3 rfl) (λw=>Z.part_one w Tryz.isAgg3 rfl) (Z.eq_int (d:=d+1) Tryz.underlying3) (Z.eqf_cons rfl (λw=>Z.part_one w Tryz.isAgg3 rfl) (λw=>Z.part_one w Tryz.isAgg3 rfl) (Z.eq_int (d:=d+1) Tryz.underlying3) (Z.eqf_cons rfl (λw=>Z.part_one w Tryz.isAgg3 rfl) (λw=>Z.part_one w Tryz.isAgg3 rfl) (Z.eq_int (d:=d+1) Tryz.underlying3) (Z.eqf_cons rfl (λw=>Z.part_one w Tryz.isAgg2 rfl) (λw=>Z.part_one w Tryz.isAgg2 rfl) (Z.eq_int (d:=d+1) Tryz.underlying2) (Z.eqf_cons rfl (λw=>Z.part_agg w Tryz.isAgg41 Tryz.sizeOf41 rfl) (λw=>Z.part_agg w Tryz.isAgg41 Tryz.sizeOf41 rfl) (eqin41 (x:=x.2.2.2.2) (y:=y.2.2.2.2) d) Z.eqf_nil)))));have e:decide (x=y)=(decide (x.1=y.1)&&(decide (x.2.1=y.2.1)&&(decide (x.2.2.1=y.2.2.1)&&(decide (x.2.2.2.1=y.2.2.2.1)&&(decide (x.2.2.2.2=y.2.2.2.2)&&true))))):=by simp only[Z.decide_pair,Ym]
 rw[e];exact h
def eqagg_neq43 {x y:D42}{a:Act}{w:World}{dd:Option Tmp}{T ty:TypeId}{pos:String}{af:Array Edge}{gd:Option (Nat×Bool)}{X Y:Operand}(E:a.eval X=.agg #[.int .i64 x.1,.int .i64 x.2.1,.int .i64 x.2.2.1,.int .i64 x.2.2.2.1,.int .i64 x.2.2.2.2.1,.int .i64 x.2.2.2.2.2.1,.string x.2.2.2.2.2.2])(I:a.eval Y=.agg #[.int .i64 y.1,.int .i64 y.2.1,.int .i64 y.2.2.1,.int .i64 y.2.2.2.1,.int .i64 y.2.2.2.2.1,.int .i64 y.2.2.2.2.2.1,.string y.2.2.2.2.2.2]):(execOp a.eval ⟨dd,.binOp .neq 43 X Y ty,T,pos,af,gd⟩).run Tryz.prog w=.ok (.value (.bool (decide (x≠y)))) w:=Z.r_neagg (eqin43 9997) (by kernel_rfl) E I
def eqin50 {x y:D49}(d:Nat):Z.EqV Tryz.prog (d+2) 50 (.agg #[.int .i64 x.1,.int .i64 x.2.1,.string x.2.2.1,.int .i64 x.2.2.2]) (.agg #[.int .i64 y.1,.int .i64 y.2.1,.string y.2.2.1,.int .i64 y.2.2.2]) (decide (x=y)):=by
 have h:Z.EqV Tryz.prog (d+2) 50 (.agg #[.int .i64 x.1,.int .i64 x.2.1,.string x.2.2.1,.int .i64 x.2.2.2]) (.agg #[.int .i64 y.1,.int .i64 y.2.1,.string y.2.2.1,.int .i64 y.2.2.2]) (decide (x.1=y.1)&&(decide (x.2.1=y.2.1)&&(decide (x.2.2.1=y.2.2.1)&&(decide (x.2.2.2=y.2.2.2)&&true)))):=Z.eq_struct Tryz.underlying50 (by kernel_rfl) (Z.eqf_cons rfl (λw=>Z.part_one w Tryz.isAgg3 rfl) (λw=>Z.part_one w Tryz.isAgg3 rfl) (Z.eq_int (d:=d+0) Tryz.underlying3) (Z.eqf_cons rfl (λw=>Z.part_one w Tryz.isAgg2 rfl) (λw=>Z.part_one w Tryz.isAgg2 rfl) (Z.eq_int (d:=d+0) Tryz.underlying2) (Z.eqf_cons rfl (λw=>Z.part_one w Tryz.isAgg9 rfl) (λw=>Z.part_one w Tryz.isAgg9 rfl) (Z.eq_str (d:=d+0) Tryz.underlying9) (Z.eqf_cons rfl (λw=>Z.part_one w Tryz.isAgg2 rfl) (λw=>Z.part_one w Tryz.isAgg2 rfl) (Z.eq_int (d:=d+0) Tryz.underlying2) Z.eqf_nil))));have e:decide (x=y)=(decide (x.1=y.1)&&(decide (x.2.1=y.2.1)&&(decide (x.2.2.1=y.2.2.1)&&(decide (x.2.2.2=y.2.2.2)&&true)))):=by simp only[Z.decide_pair,Ym]
 rw[e];exact h
def eqagg_neq50 {x y:D49}{a:Act}{w:World}{dd:Option Tmp}{T ty:TypeId}{pos:String}{af:Array Edge}{gd:Option (Nat×Bool)}{X Y:Operand}(E:a.eval X=.agg #[.int .i64 x.1,.int .i64 x.2.1,.string x.2.2.1,.int .i64 x.2.2.2])(I:a.eval Y=.agg #[.int .i64 y.1,.int .i64 y.2.1,.string y.2.2.1,.int .i64 y.2.2.2]):(execOp a.eval ⟨dd,.binOp .neq 50 X Y ty,T,pos,af,gd⟩).run Tryz.prog w=.ok (.value (.bool (decide (x≠y)))) w:=Z.r_neagg (eqin50 9998) (by kernel_rfl) E I
def eqin92 {x y:D91}(d:Nat):Z.EqV Tryz.prog (d+2) 92 (.agg #[.int .i64 x.1,.string x.2]) (.agg #[.int .i64 y.1,.string y.2]) (decide (x=y)):=by
 have h:Z.EqV Tryz.prog (d+2) 92 (.agg #[.int .i64 x.1,.string x.2]) (.agg #[.int .i64 y.1,.string y.2]) (decide (x.1=y.1)&&(decide (x.2=y.2)&&true)):=Z.eq_struct Tryz.underlying92 (by kernel_rfl) (Z.eqf_cons rfl (λw=>Z.part_one w Tryz.isAgg2 rfl) (λw=>Z.part_one w Tryz.isAgg2 rfl) (Z.eq_int (d:=d+0) Tryz.underlying2) (Z.eqf_cons rfl (λw=>Z.part_one w Tryz.isAgg9 rfl) (λw=>Z.part_one w Tryz.isAgg9 rfl) (Z.eq_str (d:=d+0) Tryz.underlying9) Z.eqf_nil));have e:decide (x=y)=(decide (x.1=y.1)&&(decide (x.2=y.2)&&true)):=by simp only[Z.decide_pair,Ym]
 rw[e];exact h
def eqin94 {x y:D93}(d:Nat):Z.EqV Tryz.prog (d+3) 94 (.agg #[.int .i64 x.1,.int .i64 x.2.1,.string x.2.2]) (.agg #[.int .i64 y.1,.int .i64 y.2.1,.string y.2.2]) (decide (x=y)):=by
 have h:Z.EqV Tryz.prog (d+3) 94 (.agg #[.int .i64 x.1,.int .i64 x.2.1,.string x.2.2]) (.agg #[.int .i64 y.1,.int .i64 y.2.1,.string y.2.2]) (decide (x.1=y.1)&&(decide (x.2=y.2)&&true)):=Z.eq_struct Tryz.underlying94 (by kernel_rfl) (Z.eqf_cons rfl (λw=>Z.part_one w Tryz.isAgg3 rfl) (λw=>Z.part_one w Tryz.isAgg3 rfl) (Z.eq_int (d:=d+1) Tryz.underlying3) (Z.eqf_cons rfl (λw=>Z.part_agg w Tryz.isAgg92 Tryz.sizeOf92 rfl) (λw=>Z.part_agg w Tryz.isAgg92 Tryz.sizeOf92 rfl) (eqin92 (x:=x.2) (y:=y.2) d) Z.eqf_nil));have e:decide (x=y)=(decide (x.1=y.1)&&(decide (x.2=y.2)&&true)):=by simp only[Z.decide_pair,Ym]
 rw[e];exact h
def eqin162 {x y:D161}(d:Nat):Z.EqV Tryz.prog (d+2) 162 (.agg #[.int .i64 x.1,.int .i64 x.2]) (.agg #[.int .i64 y.1,.int .i64 y.2]) (decide (x=y)):=by
 have h:Z.EqV Tryz.prog (d+2) 162 (.agg #[.int .i64 x.1,.int .i64 x.2]) (.agg #[.int .i64 y.1,.int .i64 y.2]) (decide (x.1=y.1)&&(decide (x.2=y.2)&&true)):=Z.eq_struct Tryz.underlying162 (by kernel_rfl) (Z.eqf_cons rfl (λw=>Z.part_one w Tryz.isAgg3 rfl) (λw=>Z.part_one w Tryz.isAgg3 rfl) (Z.eq_int (d:=d+0) Tryz.underlying3) (Z.eqf_cons rfl (λw=>Z.part_one w Tryz.isAgg3 rfl) (λw=>Z.part_one w Tryz.isAgg3 rfl) (Z.eq_int (d:=d+0) Tryz.underlying3) Z.eqf_nil));have e:decide (x=y)=(decide (x.1=y.1)&&(decide (x.2=y.2)&&true)):=by simp only[Z.decide_pair,Ym]
 rw[e];exact h
def eqagg_eql162 {x y:D161}{a:Act}{w:World}{dd:Option Tmp}{T ty:TypeId}{pos:String}{af:Array Edge}{gd:Option (Nat×Bool)}{X Y:Operand}(E:a.eval X=.agg #[.int .i64 x.1,.int .i64 x.2])(I:a.eval Y=.agg #[.int .i64 y.1,.int .i64 y.2]):(execOp a.eval ⟨dd,.binOp .eql 162 X Y ty,T,pos,af,gd⟩).run Tryz.prog w=.ok (.value (.bool (decide (x=y)))) w:=Z.r_eqagg (eqin162 9998) (by kernel_rfl) E I
def ky3:Z.Ky Tryz.prog 3 (λi:Int=>.int .i64 i):=Z.Ky.mkInt Tryz.underlying3
def ky94:Z.Ky Tryz.prog 94 (λx:D93=>.agg #[.int .i64 x.1,.int .i64 x.2.1,.string x.2.2]):=Z.Ky.mkAgg Tryz.underlying94 (λ_ _=>rfl) (λ_ _ _=>by kernel_rfl) (λ_ _=>eqin94 9997) (λ_=>by simp[Instr.sameBits,Z.bbeq])
def ky162:Z.Ky Tryz.prog 162 (λx:D161=>.agg #[.int .i64 x.1,.int .i64 x.2]):=Z.Ky.mkAgg Tryz.underlying162 (λ_ _=>rfl) (λ_ _ _=>by kernel_rfl) (λ_ _=>eqin162 9998) (λ_=>by simp[Instr.sameBits,Z.bbeq])
end Go.Proofs.YtlhiofnikdppeaaGreatDoor
end
section
namespace Go.A
open Go.RowKit Go.Z
def Row (t:Ty)(w:World)(F G:Nat->Prop)(A:Option Addr)(c:Nat)(xs:List t.den):Prop:=
 xs.length<=c/\c<=maxLen/\∃cells:List Value,cells.length=xs.length*t.size/\
  (xs.length=0\/∃b o,A=some ⟨b,o,none⟩/\G b/\∀j u,cells[j]?=some u->w.cell? ⟨b,o+j,none⟩=some u)/\
  ∀(i:Nat) (x:t.den),xs[i]?=some x->t.rep w F ((cells.drop (i*t.size)).take t.size) x
section
variable {t:Ty}{w w':World}{F F' G G':Nat->Prop}{A:Option Addr}{c:Nat}{xs:List t.den}
def Row.of (h:(Ty.slice t).rep w F [.slice A xs.length c] xs):Row t w F F A c xs:=by
 obtain⟨A',c',cells,E,I,J,L,N,h6⟩:=h;injection E with E;injection E with O W V
 subst O;subst V;exact⟨I,J,cells,L,N,h6⟩
def Row.to {S:List Nat}(h:Row t w F G A c xs)(J:Ch S w w')(O: ∀b,F b->b<w.heap.size->b∉S/\F' b)(V: ∀b,G b->b<w.heap.size->b∉S/\G' b):Row t w' F' G' A c xs:=by
 obtain⟨W,Y,cells,L,I,h6⟩:=h;refine⟨W,Y,cells,L,?_,λi x hi=>rep_to (h6 i x hi) J O⟩;by_cases N:xs.length=0;exact .inl N;rcases I with I|⟨b,o,hA,hb,hcell⟩
 exact absurd I N;have h0:0<cells.length:=by rw[L];exact Nat.mul_pos (by omega) (Qar t)
 have E:=World.block_lt_of_cell? w _ (hcell 0 _ (Qg h0));obtain⟨h7,h8⟩:=V b hb E;exact .inr ⟨b,o,hA,h8,λj u hu=>by rw[J.cell (p:=⟨b,o+j,none⟩) E h7];exact hcell j u hu⟩
def Row.own {e:TypeId}{B:Nat}(h:Own t e B w F A c xs)(Y: ∀k,k∈obl A->G k):Row t w F G A c xs:=by
 obtain⟨cells,O,h1,V⟩:=h;have W:cells.length=xs.length*t.size:=O.1;rcases O.2 with⟨I,hn⟩|⟨g,cap,cur,I,hb,hg,J,L,hcs,htake⟩
 injection I with hA' _ N
 subst hA';subst N;exact⟨by omega,by simp[maxLen],cells,W,.inl hn,V⟩;injection I with hA' _ N
 subst hA';subst N;refine⟨J,L,cells,W,.inr ⟨g,0,rfl,Y g (by simp[obl]),λj u E=>?_⟩,V⟩;rw[Xc,cell_of_row w g j cur e (0,0) hg];rw[<-htake,Xp]at E;split at E;simpa using E;cases E
def Row.at (h:Row t w F G A c xs){k:Nat}{x:t.den}(hk:xs[k]?=some x):
  ∃b o es,A=some ⟨b,o,none⟩/\G b/\b<w.heap.size/\Cells w ⟨b,o+k*t.size,none⟩ es/\t.rep w F es x:=by
 obtain⟨W,Y,cells,N,L,h6⟩:=h;have E:=(Qd.1 hk).1;rcases L with L|⟨b,o,rfl,O,hcell⟩
 omega;have hs:=Qar t;have I:k*t.size<cells.length:=by rw[N];exact Nat.mul_lt_mul_of_pos_right E hs
 refine⟨b,o,_,rfl,O,World.block_lt_of_cell? w ⟨b,o+k*t.size,none⟩ (hcell (k*t.size) _ (Qg I)),λj u J=>?_,h6 k _ hk⟩;rw[Addr.add_lit];have V:j<t.size:=by
  have:=(Qd.1 J).1;simp only[Qy]at this;omega
 rw[Wo V,Xq]at J;rw[Nat.add_assoc];exact hcell _ _ J
def Row.ok (h:Row t w F G A c xs): ∀x,x∈xs->t.ok x:=λx E=>by
 obtain⟨i,hi,rfl⟩:=Yi E;obtain⟨_,_,es,_,_,_,_,I⟩:=h.at (Qg hi);exact rep_ok t I
end
def Lst (w:World)(g b:Nat)(k v:Value):Prop:=
 ∃(since clock bo:Nat) (sb:Array Nat) (arr:List MapEntry) (e:MapEntry),w.heap[g]?=some (.mapIter (some b) since (sb.push bo) clock)/\w.heap[b]?=some (.map arr.toArray clock)/\arr.find? (λx=>x.born==bo)=some e/\e.key=k/\e.val=v
def Lst.ch {w w':World}{g b:Nat}{k v:Value}{S:List Nat}(h:Lst w g b k v)(E:Ch S w w')(L:g∉S)(N:b∉S):Lst w' g b k v:=by
 obtain⟨since,clock,bo,sb,arr,e,I,J,O⟩:=h;exact⟨since,clock,bo,sb,arr,e,(E.block _ (Qp.1 I).1 L).trans I,(E.block _ (Qp.1 J).1 N).trans J,O⟩
def Lst.run {P:Program}{w:World}{g b:Nat}{k v:Value}(h:Lst w g b k v):(Instr.entry (.pointer (some ⟨g,0,none⟩))).run P w=.ok (.tuple #[k,v]) w:=by
 obtain⟨since,clock,bo,sb,arr,e,E,I,J,rfl,rfl⟩:=h;have L:(getObj g).run P w=.ok (.mapIter (some b) since (sb.push bo) clock) w:=by rw[getObj,Sem.run];simp only[E];rfl
 have N:(getObj b).run P w=.ok (.map arr.toArray clock) w:=by rw[getObj,Sem.run];simp only[I];rfl
 simp only[Instr.entry,Sem.run_bind,L,Result.andThen_ok,Array.back?_push,N,bne_self_eq_false,Qx,Wa,List.find?_toArray,J,Sem.run_pure]
def lv:Ty->Nat
 | .slice _=>1
 | .pair a b=>lv a+lv b
 |_=>0
abbrev Lf:=List (Option Addr×Nat)
def cl:(t:Ty)->t.den->Lf->List Value
 | .int k,x,_=>[.int k x]
 | .byte,x,_=>[.int .u8 (x.toNat:Int)]
 | .bool,x,_=>[.bool x]
 | .str,x,_=>[.string x]
 | .slice _,xs,p::_=>[.slice p.1 xs.length p.2]
 | .slice _,_,[]=>[]
 | .pair a b,x,ps=>cl a x.1 (ps.take (lv a))++cl b x.2 (ps.drop (lv a))
def rbl (As:List (Option Addr×Nat)):List Nat:=As.flatMap λa=>obl a.1
def Mr {κ:Type}(enc:κ->Value)(t:Ty)(e:TypeId)(w:World)(F:Nat->Prop)(b:Nat)(As:List (Option Addr×Nat))(m:List (κ×List t.den)):Prop:=
 ∃es,MapC w b es/\es.length=m.length/\As.length=m.length/\(b::rbl As).Nodup/\(∀x,x∈rbl As->x<w.heap.size)/\
  ∀(i:Nat) (p:κ×List t.den) (a:Option Addr×Nat),m[i]?=some p->As[i]?=some a->es[i]?=some (enc p.1,.slice a.1 p.2.length a.2)/\Own t e 0 w F a.1 a.2 p.2
def Qax {As:List (Option Addr×Nat)}{i:Nat}{a:Option Addr×Nat}(h:As[i]?=some a){k:Nat}(hk:k∈obl a.1):k∈rbl As:=Yc.2 ⟨a,Qj h,hk⟩
def Mr.to {κ:Type}{enc:κ->Value}{t:Ty}{e:TypeId}{w w':World}{F F':Nat->Prop}{b:Nat}{As:List (Option Addr×Nat)}{m:List (κ×List t.den)}{S:List Nat}(h:Mr enc t e w F b As m)(E:Ch S w w')(I: ∀x,x∈b::rbl As->x∉S)(L: ∀b,F b->b<w.heap.size->b∉S/\F' b):Mr enc t e w' F' b As m:=by
 obtain⟨es,N,O,V,W,Y,h6⟩:=h;refine⟨es,N.ch E (I b (Qi ..)),O,V,W,λx hx=>Q4 (Y x hx) E.size,λi p a hp J=>?_⟩;obtain⟨h7,h8⟩:=h6 i p a hp J;exact⟨h7,Own.to h8 E (λk hk _ _=>I k (Qf _ (Qax J hk))) L⟩
inductive Res:Type 1 where
 |dead
 |sh (t:Ty) (cs:List Value) (x:t.den)
 |ln (t:Ty) (A:Option Addr) (c:Nat) (xs:List t.den)
 |el (k:Option Nat) (b o:Nat) (cs:List Value)
 |own (t:Ty) (e:TypeId) (A:Option Addr) (c:Nat) (xs:List t.den)
 |blk (g:Nat) (e:TypeId) (cs:List Value)
 |mp (κ:Type) (enc:κ->Value) (t:Ty) (agg:Bool) (b:Nat) (m:List (κ×t.den))
 |mit (k g b n:Nat) (seen:List Nat) (last:Option (Value×Value))
 |si (g:Nat) (s:ByteArray) (p:Nat)
 |ob (g:Nat) (p:Obj->Prop)
 |lmp (κ:Type) (enc:κ->Value) (t:Ty) (agg:Bool) (b:Nat) (m:List (κ×t.den))
 |mr (κ:Type) (enc:κ->Value) (t:Ty) (e:TypeId) (b:Nat) (As:List (Option Addr×Nat)) (m:List (κ×List t.den))
 |gn (bs:List Nat) (p:World->(Nat->Prop)->Prop) (hp: ∀{w w':World} {F F':Nat->Prop} {S:List Nat},p w F->Ch S w w'->(∀b,b∈bs->b∉S)->(∀b,F b->b<w.heap.size->b∉S/\F' b)->p w' F')
def rs:(t:Ty)->t.den->Lf->List Res
 | .slice t,xs,p::_=>[.sh (.slice t) [.slice p.1 xs.length p.2] xs]
 | .pair a b,x,ps=>rs a x.1 (ps.take (lv a))++rs b x.2 (ps.drop (lv a))
 |_,_,_=>[]
def tele:Nat->(Lf->Prop)->Prop
 |0,K=>K []
 |n+1,K=>∀A c,tele n λps=>K ((A,c)::ps)
def Qbb: ∀{n:Nat} {K:Lf->Prop},tele n K->∀ps:Lf,ps.length=n->K ps
 |0,_,h,[],_=>h
 |n+1,_,h,(A,c)::ps,E=>Qbb (h A c) ps (by simpa using E)
def Res.bl:Res->List Nat
 | .own _ _ A _ _=>obl A
 | .blk g _ _=>[g]
 | .mp _ _ _ _ b _=>[b]
 | .mit _ g _ _ _ _=>[g]
 | .si g _ _=>[g]
 | .ob g _=>[g]
 | .mr _ _ _ _ b As _=>b::rbl As
 | .gn bs _ _=>bs
 |_=>[]
def Res.ref:Res->Option Nat
 | .el k _ _ _=>k
 | .mit k _ _ _ _ _=>some k
 |_=>none
def Res.holds (w:World)(F:Nat->Prop)(B:Nat->Nat->Prop):Res->Prop
 | .dead=>True
 | .sh t cs x=>t.rep w F cs x
 | .ln t A c xs=>Row t w F (λb=>∀k,¬B k b) A c xs
 | .el k b o cs=>Cells w ⟨b,o,none⟩ cs/\b<w.heap.size/\match k with
  |none=>∀k,¬B k b
  |some k=>B k b
 | .own t e A c xs=>Own t e 0 w F A c xs
 | .blk g e cs=>Blk w g e cs
 | .mp _ enc t agg b m=>Mt enc t agg w F b m
 | .mit k g b n seen last=>Rg w g b n seen/\B k b/\∀kv,last=some kv->Lst w g b kv.1 kv.2
 | .si g s p=>Si w g s p
 | .ob g p=>∃o,w.heap[g]?=some o/\p o
 | .lmp _ enc t agg b m=>Mt enc t agg w F b m/\∀k,¬B k b
 | .mr _ enc t e b As m=>Mr enc t e w F b As m
 | .gn _ p _=>p w F
def Res.to {r:Res}{w w':World}{F F':Nat->Prop}{B B':Nat->Nat->Prop}{S:List Nat}(h:r.holds w F B)(E:Ch S w w')(N: ∀b,F b->b<w.heap.size->b∉S/\F' b)
  (O: ∀b,(∀k,¬B k b)->b<w.heap.size->b∉S/\∀k,¬B' k b) (V: ∀k b,r.ref=some k->B k b->b∉S/\B' k b) (I: ∀b,b∈r.bl->b∉S):r.holds w' F' B':=by
 cases r with
 |dead=>trivial
 |sh t cs x=>exact rep_to h E N
 |ln t A c xs=>exact Row.to h E N O
 |el k b o cs=>
  obtain⟨J,L,W⟩:=h;cases k with
  |none=>exact⟨J.ch E λ_=>(O b W L).1,Q4 L E.size,(O b W L).2⟩
  |some k=>exact⟨J.ch E λ_=>(V k b rfl W).1,Q4 L E.size,(V k b rfl W).2⟩
 |own t e A c xs=>exact Own.to h E (λk hk _ _=>I k hk) N
 |blk g e cs=>exact Blk.ch h E (I g (by simp[Res.bl]))
 |mp κ enc t agg b m=>exact Mt.to h E (I b (by simp[Res.bl])) N
 |mit k g b n seen last=>exact⟨h.1.ch E (I g (by simp[Res.bl])) (V k b rfl h.2.1).1,(V k b rfl h.2.1).2,λkv Y=>(h.2.2 kv Y).ch E (I g (by simp[Res.bl])) (V k b rfl h.2.1).1⟩
 |si g s p=>exact h.ch E (I g (by simp[Res.bl]))
 |ob g p=>
  obtain⟨o,J,L⟩:=h;exact⟨o,(E.block g (Qp.1 J).1 (I g (by simp[Res.bl]))).trans J,L⟩
 |lmp κ enc t agg b m=>
  obtain⟨J,L⟩:=h;exact⟨Mt.to J E (O b L J.lt).1 N,(O b L J.lt).2⟩
 |mr κ enc t e b As m=>exact Mr.to h E I N
 |gn bs p hp=>exact hp h E I N
def rep_cl {w:World}{F:Nat->Prop}{B:Nat->Nat->Prop}: ∀(t:Ty) {cs:List Value} {x:t.den},t.rep w F cs x->∃ps:Lf,ps.length=lv t/\cs=cl t x ps/\∀r∈rs t x ps,r.holds w F B/\r.bl=[]/\r.ref=none
 | .int _,cs,x,h=>⟨[],rfl,h.1,by simp[rs]⟩
 | .byte,cs,x,h=>⟨[],rfl,h,by simp[rs]⟩
 | .bool,cs,x,h=>⟨[],rfl,h,by simp[rs]⟩
 | .str,cs,x,h=>⟨[],rfl,h.1,by simp[rs]⟩
 | .slice e,cs,x,h=>by
  have J:=h;obtain⟨A,c,cells,I,_⟩:=h;refine⟨[(A,c)],rfl,I,λr E=>?_⟩;simp only[rs,Qn]at E;subst E;exact⟨by rw[I]at J;exact J,rfl,rfl⟩
 | .pair a b,cs,x,h=>by
  obtain⟨ca,cb,I,L,N⟩:=h;obtain⟨pa,a1,a2,a3⟩:=rep_cl (B:=B) a L;obtain⟨pb,b1,b2,b3⟩:=rep_cl (B:=B) b N;refine⟨pa++pb,by rw[Qm,a1,b1];rfl,?_,λr E=>?_⟩;simp only[cl,<-a1,Jm,List.drop_left];rw[I,a2,b2];simp only[rs,<-a1,Jm,List.drop_left,Q2]at E;exact E.elim (a3 r) (b3 r)
def hk:List (Nat×Res)->Nat->Option Res
 | [],_=>none
 |(e,v)::r,d=>bif Nat.beq e d then some v else hk r d
def Qaa (d e:Nat)(v:Res)(H:List (Nat×Res)):hk ((d,v)::H) e=if d=e then some v else hk H e:=by
 unfold hk;by_cases h:d=e;subst h;simp;have:Nat.beq d e=false:=by cases E:Nat.beq d e with
  |false=>rfl
  |true=>exact absurd (Wx E) h
 simp only[this,cond_false,Qb h];cases H<;>rfl
def drp (k:Nat):List (Nat×Res)->List (Nat×Res)
 | []=>[]
 |(e,v)::r=>(e,match v.ref with
  |none=>v
  |some j=>bif Nat.beq j k then .dead else v)::drp k r
def Qcg (k:Nat): ∀(H:List (Nat×Res)) (e:Nat) (v:Res),hk (drp k H) e=some v->v=.dead\/(hk H e=some v/\v.ref≠some k)
 | [],e,v,h=>by cases h
 |(d,u)::r,e,v,h=>by
  unfold drp at h;rw[Qaa]at h;rw[Qaa];split at h;rename_i E;injection h with h
  cases I:u.ref with
  |none=>rw[I]at h;subst h;exact .inr ⟨by rw[Qc E],by rw[I];simp⟩
  |some j=>
   rw[I]at h;simp only[]at h;cases L:Nat.beq j k with
   |true=>rw[L]at h;exact .inl h.symm
   |false=>
    rw[L]at h;subst h;refine .inr ⟨by rw[Qc E];rfl,λJ=>?_⟩;rw[show(bif false then Res.dead else u)=u from rfl,I]at J;injection J with J
    subst J;simp at L
  rename_i E;rw[Qb E];exact Qcg k r e v h
def Bk (H:List (Nat×Res))(k b:Nat):Prop:=∃r,hk H k=some r/\b∈r.bl
structure Cx where
 n:Nat
 ds:List Deferred
 w0:World
 S:List Nat
 F:Nat->Prop
def Fh (C:Cx)(H:List (Nat×Res))(b:Nat):Prop:=(∀k,¬Bk H k b)/\(C.F b\/C.w0.heap.size<=b\/b∈C.S)
structure Hp (C:Cx) (H:List (Nat×Res)) (w:World):Prop where
 ch:Ch C.S C.w0 w
 hold: ∀k r,hk H k=some r->r.holds w (Fh C H) (Bk H)
 bnd: ∀k b,Bk H k b->(C.w0.heap.size<=b\/b∈C.S)/\b<w.heap.size
 dis: ∀k k' b,Bk H k b->Bk H k' b->k=k'
 ref: ∀k r j,hk H k=some r->r.ref=some j->j≠k/\∀r',hk H j=some r'->r'.ref=none
section
variable {C:Cx}{H:List (Nat×Res)}{w w':World}{k:Nat}{r':Res}{S:List Nat}
def Hp.upd (h:Hp C H w)(hc:Ch S w w')(hS: ∀b,b∈S->Bk H k b)(N: ∀b,b∈r'.bl->Bk H k b\/(w.heap.size<=b/\b<w'.heap.size))(hrf: ∀j,r'.ref=some j->j≠k/\∀r,hk H j=some r->r.ref=none)
  (hr: ∀(F:Nat->Prop) (B:Nat->Nat->Prop),(∀b,Fh C H b->b<w.heap.size->F b)->(∀b,(∃r,hk H k=some r/\b∈r.bl)->b∉r'.bl->F b)->(∀b,(∀k,¬Bk H k b)->b<w.heap.size->∀k,¬B k b)->(∀j b,r'.ref=some j->Bk H j b->B j b)->(∀b,b∈r'.bl->B k b)->r'.holds w' F B)
  :Hp C ((k,r')::drp k H) w':=by
 have O: ∀j b,j≠k->Bk ((k,r')::drp k H) j b->Bk H j b:=λj b I ⟨r,L,J⟩=>by
  rw[Qaa,Qb (Ne.symm I)]at L;rcases Qcg k H j r L with rfl|⟨h3,_⟩
  cases J;exact⟨r,h3,J⟩
 have drp_keep: ∀(H:List (Nat×Res)) (j:Nat) (r:Res),hk H j=some r->r.ref≠some k->hk (drp k H) j=some r:=by
  intro H;induction H with
  |nil=>intro j r L;cases L
  |cons p q ih=>
   obtain⟨d,u⟩:=p;intro j r L J;unfold drp;rw[Qaa]at L ⊢;by_cases hd:d=j;rw[Qc hd]at L ⊢;injection L with L
   subst L;cases hu:u.ref with
   |none=>rfl
   |some i=>
    simp only[];have:Nat.beq i k=false:=by cases N:Nat.beq i k with
     |false=>rfl
     |true=>exact absurd (by rw[hu,Wx N]) J
    rw[this];rfl
   rw[Qb hd]at L ⊢;exact ih j r L J
 have hkp: ∀j b,j≠k->(∀r,hk H j=some r->r.ref=none)->Bk H j b->Bk ((k,r')::drp k H) j b:=λj b I hn ⟨r,L,J⟩=>
  ⟨r,by rw[Qaa,Qb (Ne.symm I)];exact drp_keep H j r L (by rw[hn r L];simp),J⟩
 have V: ∀b,Bk ((k,r')::drp k H) k b↔b∈r'.bl:=λb=>⟨λ⟨r,L,J⟩=>by rw[Qaa,Qc rfl]at L;injection L with L;subst L;exact J,λN=>⟨r',by rw[Qaa,Qc rfl],N⟩⟩;have hFh: ∀b,Fh C H b->b<w.heap.size->b∉S/\Fh C ((k,r')::drp k H) b:=λb hf hl=>by
  refine⟨λhS'=>hf.1 k (hS b hS'),⟨λj I=>?_,hf.2⟩⟩;by_cases E:j=k;subst E;rcases N b ((V b).1 I)with J|J
  exact hf.1 j J;omega;exact hf.1 j (O j b E I)
 have hGh: ∀b,(∀k,¬Bk H k b)->b<w.heap.size->b∉S/\∀j,¬Bk ((k,r')::drp k H) j b:=λb hb' hl=>by
  refine⟨λhS'=>hb' k (hS b hS'),λj I=>?_⟩;by_cases E:j=k;subst E;rcases N b ((V b).1 I)with J|J
  exact hb' j J;omega;exact hb' j (O j b E I)
 have hlt: ∀b,Bk H k b->b<w.heap.size:=λb N=>(h.bnd k b N).2;have bnd': ∀j b,Bk ((k,r')::drp k H) j b->(C.w0.heap.size<=b\/b∈C.S)/\b<w'.heap.size:=λj b I=>by
  by_cases E:j=k;subst E;rcases N b ((V b).1 I)with J|J
  exact⟨(h.bnd j b J).1,Q4 (h.bnd j b J).2 hc.size⟩;exact⟨.inl (Wq h.ch.size J.1),J.2⟩;have:=h.bnd j b (O j b E I);exact⟨this.1,Q4 this.2 hc.size⟩
 refine⟨?_,λj r I=>?_,bnd',λj j' b I hj'=>?_,λj r i I W=>?_⟩;have Y:=h.ch;refine⟨hc.os.trans Y.os,hc.tape.trans Y.tape,hc.output.trans Y.output,Wq Y.size hc.size,λb hb' hn=>?_⟩;have hb2:b∉S:=λhbS=>by
  rcases(h.bnd k b (hS b hbS)).1 with L|L
  omega;exact hn L
 rw[hc.block b (Q4 hb' Y.size) hb2];exact Y.block b hb' hn;rw[Qaa]at I;by_cases E:k=j;subst E;rw[Qc rfl]at I;injection I with I
 subst I;refine hr _ _ (λb N hl=>(hFh b N hl).2) (λb N hn=>⟨λj I=>?_,?_⟩) (λb N hl=>(hGh b N hl).2) (λj b E I=>?_) (λb N=>(V b).2 N);by_cases E:j=k;subst E;exact hn ((V b).1 I);exact E (h.dis j k b (O j b E I) N);exact .inr (h.bnd k b N).1;exact hkp j b (hrf j E).1 (hrf j E).2 I;rw[Qb E]at I;rcases Qcg k H j r I with rfl|⟨h3,h4⟩
 trivial;refine Res.to (h.hold j r h3) hc hFh hGh (λi b hi hB=>?_) (λb N hS'=>E (h.dis k j b (hS b hS') ⟨r,h3,N⟩));have hik:i≠k:=λe=>h4 (by rw[hi,e]);exact⟨λhS'=>hik (h.dis i k b hB (hS b hS')),hkp i b hik (h.ref j r i h3 hi).2 hB⟩;by_cases E:j=k<;>by_cases hjk':j'=k;rw[E,hjk'];subst E;have J:=O j' b hjk' hj';rcases N b ((V b).1 I)with L|L
 exact h.dis j j' b L J;have:=(h.bnd j' b J).2;omega;subst hjk';have J:=O j b E I;rcases N b ((V b).1 hj')with L|L
 exact h.dis j j' b J L;have:=(h.bnd j b J).2;omega;exact h.dis j j' b (O j b E I) (O j' b hjk' hj');rw[Qaa]at I;by_cases E:k=j;subst E;rw[Qc rfl]at I;injection I with I
 subst I;refine⟨(hrf i W).1,λr2 J=>?_⟩;rw[Qaa,Qb (Ne.symm (hrf i W).1)]at J;rcases Qcg k H i r2 J with rfl|⟨h3,_⟩
 rfl;exact(hrf i W).2 r2 h3;rw[Qb E]at I;rcases Qcg k H j r I with rfl|⟨h3,h4⟩
 cases W;obtain⟨h5,h6⟩:=h.ref j r i h3 W;have hik:k≠i:=λe=>h4 (by rw[W,e]);refine⟨h5,λr2 J=>?_⟩;rw[Qaa,Qb hik]at J;rcases Qcg k H i r2 J with rfl|⟨h7,_⟩
 rfl;exact h6 r2 h7
end
end Go.A
end
