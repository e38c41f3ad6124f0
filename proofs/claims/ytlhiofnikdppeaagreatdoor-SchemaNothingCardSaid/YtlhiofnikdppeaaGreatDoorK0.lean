/- A small logic over the model's walk, and what stands on it. -/
import Derived.OrdersHeld
import Derived.Laws.AppendOwn
import Derived.Laws.Entries
import Derived.Tactics
import Derived.Below
import Derived.RangeFuncIn
import Derived.TacticsIn
import Derived.LoopIn
import Derived.OrdersIn
import Derived.Maps.AppendAt
import Derived.Deep.Draws
import Derived.IntWalk
import Derived.Laws.Rows
import Derived.Laws.Strings
import Derived.Laws.StructEq
import Derived.Defers
import Derived.Lib.MakeNoZero
import Derived.Laws.Externs
import Derived.Laws.CopyOwn
import Derived.Lib.AppendStr
import Derived.Recover
import Derived.ChangeKeysEq
import Derived.Lib.ConvBytes
import Derived.KernelRfl
import Derived.Laws.Concat
import Derived.Test.YtlhiofnikdppeaaGreatDoorProg
import Derived.RangeFuncSeq
import Derived.RangeFuncBound
import Derived.Laws.MakeOwn
import Derived.Scope
set_option linter.unusedSimpArgs false
set_option synthInstance.maxSize 1000000
set_option synthInstance.maxHeartbeats 400000
set_option linter.unusedVariables false
set_option linter.defProp false
def Qa:=@Option.bind_some
def Qb:=@List.mem_cons_of_mem
def Qc:=@List.getElem?_eq_some_iff
def Qd:=@List.length_cons
def Qe:=@List.getElem?_eq_getElem
def Qf:=@List.mem_cons_self
def Qg:=@List.mem_cons
def Qh:=@List.mem_of_getElem?
def Qi:=@List.mem_singleton
def Qj:=@List.length_append
def Qk:=@Bool.and_eq_true
def Ql:=@Nat.lt_succ_self
def Qm:=@List.length_nil
def Qn:=@Array.getElem?_eq_some_iff
def Qo:=@List.pairwise_cons
def Qp:=@List.getElem?_map
def Qq:=@Nat.le_refl
def Qr:=@List.length_map
def Qs:=@Bool.false_eq_true
def Qt:=@Int.toNat_natCast
def Qu:=@List.mem_append
def Qv:=@List.map_cons
def Qw:=@Option.some.injEq
def Qx:=@List.append_assoc
def Qy:=@Nat.lt_of_lt_of_le
def Qz:=@List.length_take
def Q0:=@Nat.le_of_ble_eq_true
def Q1:=@List.getElem?_append_right
def Q2:=@List.drop_eq_nil_of_le
def Q3:=@List.take_of_length_le
def Q4:=@Bool.false_ne_true
def Q5:=@List.getElem?_append_left
def Q6:=@List.eq_nil_of_length_eq_zero
def Q7:=@List.all_eq_true
def Q8:=@List.nodup_cons
def Q9:=@List.append_nil
def Wa:=@List.getElem?_modify
def Wb:=@Option.map_some
def Wc:=@List.getElem?_cons_succ
def Wd:=@Nat.mul_le_mul_right
def We:=@List.mem_append_left
def Wf:=@List.getElem?_take_of_lt
def Wg:=@List.mem_append_right
def Wh:=@List.mem_map
def Wi:=@Array.getElem?_eq_getElem
def Wj:=@Nat.eq_of_beq_eq_true
def Wk:=@List.getElem?_eq_none
def Wl:=@Nat.le_trans
def Wm:=@List.mem_iff_getElem?
def Wn:=@Bool.true_and
def Wo:=@List.nil_append
def Wp:=@Array.toArray_toList
def Wq:=@List.drop_zero
def Wr:=@List.nodup_append
def Ws:=@Nat.zero_add
def Wt:=@Bool.not_true
def Wu:=@Int.toNat_of_nonneg
def Wv:=@List.getElem?_of_mem
def Ww:=@List.filter_cons
def Wx:=@List.ext_getElem?
def Wy:=@List.getElem?_toArray
def Wz:=@Option.some.inj
def W5:=@List.cons_append
def W6:=@List.all_cons
def W7:=@Array.getD_eq_getD_getElem?
def W8:=@List.map_nil
def W9:=@List.getElem?_cons_zero
def Xa:=@List.getElem?_take
def Xb:=@List.map_append
def Xc:=@List.length_set
def Xd:=@Bool.false_or
def Xe:=@Nat.zero_le
def Xf:=@List.take_append_drop
def Xg:=@Option.map_eq_map
def Xh:=@List.getElem?_drop
def Xi:=@Nat.add_mul
def Xj:=@List.length_filter_le
def Xk:=@List.singleton_append
def Xl:=@Bool.not_false
def Xm:=@List.length_drop
def Xn:=@List.mem_flatMap
def Xo:=@Bool.cond_eq_ite
def Xp:=@Array.getElem?_append_left
def Xq:=@List.nodup_nil
def Xr:=@Nat.min_eq_left
def Xs:=@Array.getElem?_setIfInBounds_ne
def Xt:=@List.map_toArray
def Xu:=@List.any_cons
def Xv:=@Nat.beq_refl
def Xw:=@List.mem_of_mem_take
def Xx:=@Bool.or_eq_true
def Xy:=@List.getElem_of_mem
def Xz:=@Array.getElem?_eq_none
def X1:=@Option.map_eq_some_iff
def X2:=@List.drop_length
def X3:=@Array.getElem?_toList
def X4:=@List.pairwise_iff_getElem
def X5:=@List.foldl_cons
def X6:=@List.getElem?_set
def X7:=@List.take_add_one
def X8:=@Option.bind_none
def X9:=@Nat.le_of_not_lt
def Ya:=@Nat.one_mul
def Yc:=@List.getElem?_set_self
def Yd:=@List.mem_filter
def Ye:=@Prod.mk.injEq
def Yf:=@Bool.and_true
def Yg:=@Classical.choose_spec
def Yh:=@Array.getElem?_modify
def Yi:=@Bool.and_eq_false_iff
def Yj:=@List.set_append_right
def Yk:=@List.size_toArray
def Ym:=@Bool.not_eq_true'
def Yn:=@List.getD_eq_getElem?_getD
def Yo:=@Int.le_refl
def Yp:=@Bool.false_and
def Yq:=@Nat.lt_or_ge
def Yr:=@List.not_mem_nil
def Ys:=@Option.getD_some
def Yt:=@List.any_eq_true
def Yu:=@Bool.not_eq_true
def Yv:=@List.getElem?_eq_none_iff
def Yw:=@List.drop_eq_getElem_cons
def Yx:=@Bool.eq_iff_iff
def Yy:=@Int.tmod_lt_of_pos
def Yz:=@Nat.le_mul_of_pos_right
def Y0:=@Option.bind_eq_some_iff
def Y1:=@List.getElem?_replicate
def Y2:=@List.take_take
def Y3:=@Nat.add_comm
def Y4:=@List.take_left
def Y5:=@List.any_eq_false
def Y6:=@List.drop_drop
def Y7:=@Nat.lt_trichotomy
def Y8:=@List.flatMap_cons
def Y9:=@List.pairwise_map
def Ja:=@List.mem_nil_iff
def Jb:=@List.cons.injEq
section
namespace Go.Z
open Go.RowKit
def lk:List (Nat×Value)→Nat→Option Value
 | [],_=>none
 |(e,v)::r,d=>bif Nat.beq e d then some v else lk r d
def ev (l:List (Nat×Value)):Operand→Option Value
 | .tmp t=>lk l t
 | .const v=>some v
 | .global g=>some (.pointer (some ⟨g,0,none⟩))
 | .func f=>some (.func (.func f) #[] #[])
structure Fr (a:Act) (n:Nat) (ds:List Deferred) (l:List (Nat×Value)):Prop where
 size:a.tmps.size=n
 defs:a.defers=ds
 get: ∀d v,lk l d=some v→a.tmps[d]?=some v
theorem Qah (l:List (Nat×Value))(d:Nat)(v:Value):lk ((d,v)::l) d=some v:=by simp[lk]
theorem Qae (l:List (Nat×Value)){d e:Nat}(v:Value)(h:e≠d):lk ((e,v)::l) d=lk l d:=by
 have:Nat.beq e d=false:=by cases E:Nat.beq e d with
  |false=>rfl
  |true=>exact absurd (Wj E) h
 simp[lk,this]
section
variable {a:Act}{n:Nat}{ds:List Deferred}{l:List (Nat×Value)}
theorem Fr.eval (h:Fr a n ds l){x:Operand}{v:Value}(E:ev l x=some v):a.eval x=v:=by
 cases x with
 |tmp t=>
  have:=h.get t v E
  simp[Act.eval,W7,this]
 |const u=>injection E
 |global g=>injection E
 |func f=>injection E
theorem Fr.put (h:Fr a n ds l){d:Nat}(J:d<n)(v:Value):Fr (a.put (some d) v) n ds ((d,v)::l):=by
 refine⟨by simp[Act.put,h.size],h.defs,fun e u I=>?_⟩
 by_cases E:d=e
 ·subst E
  rw[Qah]at I
  injection I with I
  subst I
  simp[Act.put,h.size,J]
 ·rw[Qae _ _ E]at I
  simp only[Act.put]
  rw[Xs E]
  exact h.get e u I
theorem Fr.put_none (h:Fr a n ds l)(v:Value):Fr (a.put none v) n ds l:=h
def kp (l:List (Nat×Value)):List Nat→List (Nat×Value)
 | []=>[]
 |k::r=>match lk l k with
  |some v=>(k,v)::kp l r
  |none=>kp l r
theorem lk_kp (ks:List Nat)(d:Nat)(v:Value)(h:lk (kp l ks) d=some v):lk l d=some v:=by
 induction ks with
 |nil=>simp[kp,lk]at h
 |cons k r I=>
  unfold kp at h
  cases hk:lk l k with
  |none=>rw[hk]at h;exact I h
  |some u=>
   rw[hk]at h
   by_cases E:k=d
   ·subst E
    rw[Qah]at h
    rw[hk];exact h
   ·exact I (by rw[←h];exact(Qae _ _ E).symm)
theorem Fr.keep (h:Fr a n ds l)(ks:List Nat):Fr a n ds (kp l ks):=⟨h.size,h.defs,fun d v E=>h.get d v (lk_kp ks d v E)⟩
theorem Fr.cons {l':List (Nat×Value)}{d:Nat}{v:Value}(h:Fr a n ds l)(h':Fr a n ds l')(e:lk l d=some v):Fr a n ds ((d,v)::l'):=by
 refine⟨h.size,h.defs,fun d' v' E=>?_⟩
 by_cases hk:d=d'
 ·subst hk
  rw[Qah]at E
  injection E with E
  subst E
  exact h.get _ _ e
 ·rw[Qae _ _ hk]at E
  exact h'.get _ _ E
end
def argl:List Value→Nat→List (Nat×Value)
 | [],_=>[]
 |v::r,k=>(k,v)::argl r (k+1)
theorem lk_argl (vs:List Value): ∀(k d:Nat) (v:Value),lk (argl vs k) d=some v→k≤d∧vs[d-k]?=some v:=by
 induction vs with
 |nil=>intro k d v h;simp[argl,lk]at h
 |cons u r I=>
  intro k d v h
  unfold argl at h
  by_cases E:k=d
  ·subst E
   rw[Qah]at h
   injection h with h
   subst h
   simp
  ·rw[Qae _ _ E]at h
   obtain⟨L,J⟩:=I _ _ _ h
   refine⟨by omega,?_⟩
   have:d-k=(d-(k+1))+1:=by omega
   rw[this,Wc]
   exact J
theorem Fr.entry (vs:List Value)(n:Nat)(J:vs.length≤n):
  Fr {tmps:=vs.toArray++Array.replicate (n-vs.toArray.size) undef,defers:=[]} n [] (argl vs 0):=by
 refine⟨by simp;omega,rfl,fun d v h=>?_⟩
 obtain⟨_,E⟩:=lk_argl vs 0 d v h
 have I:d<vs.length:=by
  rcases Yq d vs.length with h'|h'
  ·exact h'
  ·rw[Wk (by omega)]at E;cases E
 rw[Xp (by simpa using I)]
 simpa using E
abbrev FW (r:Option Nat):Fence:={Fence.wide with round:=r}
abbrev WP (r:Option Nat) (P:Program) (c:Code) (Q:Exit→Act→World→Prop) (a:Act) (w:World):Prop:=c.wpIn (FW r) 0 P Q a w
abbrev WL (r:Option Nat) (P:Program) (ops:Array Oper) (Q:Exit→Act→World→Prop) (l:List Oper) (a:Act) (w:World):Prop:=wpListIn (FW r) 0 P ops Q l a w
theorem Qik {r:Option Nat}{n:Nat}{P:Program}{f:FuncId}{args:Array Value}{w:World}{R:Ending→World→Prop}(h:Calls P f args w R):CallsIn (FW r) n P f args w R:=by
 have E:CallsIn Fence.wide n P f args w R:=callsIn_wide.2 h
 cases r with
 |none=>exact E
 |some l=>exact E
theorem Qhe {r:Option Nat}{P:Program}{ρ:Operand→Value}{o:Oper}{x:Next}{w w':World}(h:(execOp ρ o).run P w=.ok x w')(I: ∀d,x≠ .defer d):(o.semAt r ρ).run P w=.ok x w':=by
 cases r with
 |none=>rw[Oper.semAt_none];exact h
 |some l=>
  rw[Oper.semAt_some]
  ·exact h
  ·intro c J
   unfold execOp at h
   rw[J]at h
   simp only[Sem.run_bind]at h
   cases E:(resolve ρ c o.type).run P w with
   |ok d L=>rw[E]at h;simp only[Result.andThen_ok,Sem.run_pure]at h;injection h with h _;exact I _ h.symm
   |halt y L=>rw[E]at h;simp[Result.andThen]at h
section
variable {r:Option Nat}{P:Program}{ops:Array Oper}{Q:Exit→Act→World→Prop}{a:Act}{w:World}{rest:List Oper}{n:Nat}{ds:List Deferred}{l:List (Nat×Value)}
theorem enter {f:FuncId}{fn:Func}{c:Code}{vs:List Value}{m:Nat}{R:Ending→World→Prop}(E:P.funcs[f]?=some fn)(I:fn.body=some c)(J:fn.ntmps=m)(L:vs.length≤m)
  (h: ∀a,Fr a m [] (argl vs 0)→WP none P c (bodyPost P fn R) a w):Calls P f vs.toArray w R:=by
 refine calls_of_wp E I (wpIn_wide.1 (h _ ?_))
 subst J
 exact Fr.entry vs _ L
theorem stepw {o:Oper}{x:Next}{w':World}(E:o.guard=none)(I:(execOp a.eval o).run P w=.ok x w')(J: ∀d,x≠ .defer d)
  (h: ∀K:Act→World→Prop,(∀a w,WL r P ops Q rest a w→K a w)→o.uponIn (FW r) 0 P a K Q (.ok x w')):WL r P ops Q (o::rest) a w:=
 wpListIn_plain E fun K L=>⟨fun _ _=>trivial,by rw[Qhe I J];exact h K L⟩
theorem valw {d:Nat}{op:Op}{T:TypeId}{pos:String}{af:Array Edge}{v:Value}{w':World}(E:Fr a n ds l)(I:Nat.ble (d+1) n=true)
  (J:(execOp a.eval ⟨some d,op,T,pos,af,none⟩).run P w=.ok (.value v) w')
  (h: ∀a',Fr a' n ds ((d,v)::l)→WL r P ops Q rest a' w'):WL r P ops Q (⟨some d,op,T,pos,af,none⟩::rest) a w:=
 stepw rfl J (fun _ h=>by cases h) fun _ L=>L _ _ (h _ (E.put (Q0 I) v))
theorem val {d:Nat}{op:Op}{T:TypeId}{pos:String}{af:Array Edge}{v:Value}(E:Fr a n ds l)(I:Nat.ble (d+1) n=true)
  (J:(execOp a.eval ⟨some d,op,T,pos,af,none⟩).run P w=.ok (.value v) w)
  (h: ∀a',Fr a' n ds ((d,v)::l)→WL r P ops Q rest a' w):WL r P ops Q (⟨some d,op,T,pos,af,none⟩::rest) a w:=valw E I J h
theorem skipw {op:Op}{T:TypeId}{pos:String}{af:Array Edge}{w':World}(E:Fr a n ds l)
  (I:(execOp a.eval ⟨none,op,T,pos,af,none⟩).run P w=.ok .skip w')
  (h: ∀a',Fr a' n ds l→WL r P ops Q rest a' w'):WL r P ops Q (⟨none,op,T,pos,af,none⟩::rest) a w:=
 stepw rfl I (fun _ h=>by cases h) fun _ J=>J _ _ (h _ E)
theorem call {d:Nat}{op:Op}{T:TypeId}{pos:String}{af:Array Edge}{f:FuncId}{args:Array Value}{R:Ending→World→Prop}(E:Fr a n ds l)(I:Nat.ble (d+1) n=true)
  (J:(execOp a.eval ⟨some d,op,T,pos,af,none⟩).run P w=.ok (.enter f args) w) (L:Calls P f args w R)
  (h: ∀e w',R e w'→(∃v,e=.returned v∧∀a',Fr a' n ds ((d,v)::l)→WL r P ops Q rest a' w')∨(∃ch,e=.panicked ch∧Q (.panic ch) a w')):
  WL r P ops Q (⟨some d,op,T,pos,af,none⟩::rest) a w:=
 stepw rfl J (fun _ h=>by cases h) fun _ N=>⟨(fun h=>by cases h),(Qik L).mono fun e w' O=>by
  rcases h e w' O with⟨v,rfl,h⟩|⟨ch,rfl,h⟩
  ·exact N _ _ (h _ (E.put (Q0 I) v))
  ·exact h⟩
theorem call1 {d:Nat}{op:Op}{T:TypeId}{pos:String}{af:Array Edge}{f:FuncId}{args:Array Value}{R:Ending→World→Prop}(E:Fr a n ds l)(I:Nat.ble (d+1) n=true)
  (J:(execOp a.eval ⟨some d,op,T,pos,af,none⟩).run P w=.ok (.enter f args) w) (L:Calls P f args w R)
  (h: ∀e w',R e w'→∃v,e=.returned v∧∀a',Fr a' n ds ((d,v)::l)→WL r P ops Q rest a' w'):
  WL r P ops Q (⟨some d,op,T,pos,af,none⟩::rest) a w:=call E I J L fun e w' N=>.inl (h e w' N)
theorem defer {op:Op}{T:TypeId}{pos:String}{af:Array Edge}{dd:Deferred}(E:Fr a n ds l)
  (I:(execOp a.eval ⟨none,op,T,pos,af,none⟩).run P w=.ok (.defer dd) w)
  (h: ∀a',Fr a' n (dd::ds) l→WL none P ops Q rest a' w):WL none P ops Q (⟨none,op,T,pos,af,none⟩::rest) a w:=
 wpListIn_plain rfl fun K J=>⟨fun _ _=>trivial,by
  show Oper.uponIn _ _ _ _ _ _ _ ((Oper.semAt none a.eval _).run P w)
  rw[Oper.semAt_none,I]
  exact J _ _ (h _ ⟨E.size,by rw[←E.defs];rfl,E.get⟩)⟩
theorem on {dst:Option Tmp}{op:Op}{T:TypeId}{pos:String}{af:Array Edge}{j dj:Nat}{b:Bool}(E:Fr a n ds l)(I:(ops[j]?).bind (·.dst)=some dj)(J:lk l dj=some (.bool b))
  (h:WL r P ops Q (⟨dst,op,T,pos,af,none⟩::rest) a w):WL r P ops Q (⟨dst,op,T,pos,af,some (j,b)⟩::rest) a w:=by
 have L:yielded ops a.tmps j=some b:=by simp[yielded,I,E.get _ _ J]
 unfold WL wpListIn at h ⊢
 have N:Region.wanted ⟨dst,op,T,pos,af,some (j,b)⟩ (yielded ops a.tmps)=true:=by simp[Region.wanted,L]
 have O:Region.wanted ⟨dst,op,T,pos,af,none⟩ (yielded ops a.tmps)=true:=by simp[Region.wanted]
 rw[if_pos N]
 rw[if_pos O]at h
 exact h
theorem off {d:Nat}{op:Op}{T:TypeId}{pos:String}{af:Array Edge}{j dj:Nat}{b:Bool}{u:Value}(E:Fr a n ds l)(I:Nat.ble (d+1) n=true)(J:(ops[j]?).bind (·.dst)=some dj)(L:lk l dj=some u)
  (N:u=.bool (!b)∨u=undef)
  (h: ∀a',Fr a' n ds ((d,undef)::l)→WL r P ops Q rest a' w):WL r P ops Q (⟨some d,op,T,pos,af,some (j,b)⟩::rest) a w:=by
 have O:Region.wanted ⟨some d,op,T,pos,af,some (j,b)⟩ (yielded ops a.tmps)=false:=by
  rcases N with rfl|rfl<;>simp[Region.wanted,yielded,J,E.get _ _ L,undef]
 unfold WL wpListIn
 rw[O]
 exact⟨fun _ _=>trivial,h _ (E.put (Q0 I) undef)⟩
theorem done (h:Q .normal a w):WL r P ops Q [] a w:=h
theorem reg {id:Nat}{lo:List Oper}(h:WL r P lo.toArray Q lo a w):WP r P (Code.region id lo.toArray false) Q a w:=wpIn_region_lit h
theorem cond {c:Operand}{x y:Code}{b:Bool}(E:Fr a n ds l)(I:ev l c=some (.bool b))(J:b=true→WP r P x Q a w)(L:b=false→WP r P y Q a w):WP r P (Code.cond c x y) Q a w:=
 wpIn_cond_split (E.eval I) J L
theorem condp {c:Operand}{x y:Code}{p:Prop}[Decidable p](E:Fr a n ds l)(I:ev l c=some (.bool (decide p)))(J:p→WP r P x Q a w)(L: ¬p→WP r P y Q a w):WP r P (Code.cond c x y) Q a w:=
 wpIn_cond_split (E.eval I) (fun h=>J (of_decide_eq_true h)) (fun h=>L (of_decide_eq_false h))
theorem condt {c:Operand}{x y:Code}(E:Fr a n ds l)(I:ev l c=some (.bool true))(J:WP r P x Q a w):WP r P (Code.cond c x y) Q a w:=
 wpIn_cond_split (E.eval I) (fun _=>J) (fun h=>by cases h)
theorem condf {c:Operand}{x y:Code}(E:Fr a n ds l)(I:ev l c=some (.bool false))(J:WP r P y Q a w):WP r P (Code.cond c x y) Q a w:=
 wpIn_cond_split (E.eval I) (fun h=>by cases h) (fun _=>J)
theorem skip (h:Q .normal a w):WP r P Code.skip Q a w:=wpIn_skip h
theorem exit {id:Nat}(h:Q (.exit id) a w):WP r P (Code.exit id) Q a w:=wpIn_exit h
theorem ret (h:Q .ret a w):WP r P Code.ret Q a w:=wpIn_ret h
theorem loop {c:Code}(I:Nat→Act→World→Prop)(m:Nat)(O:I m a w)
  (round: ∀m a w,I m a w→WP r P c (Exit.then (fun a' w'=>∃m',m'<m∧I m' a' w') Q) a w):WP r P (Code.loop c) Q a w:=by
 intro b k cs E J L
 have key: ∀m a w,I m a w→∃e a' w',Q e a' w'∧ArrivesIn (Machine.fenced P (FW r)) P (lone (b.atR a (.code c:: .inLoop c::k)) cs w) b k cs e a' w':=by
  intro m
  induction m using Nat.strongRecOn with
  |_ m V=>
   intro a w W
   obtain⟨e,a₁,w₁,hq,harr⟩:=round m a w W b (.inLoop c::k) cs E J L
   cases e with
   |normal=>
    obtain⟨m',N,hI₁⟩:=hq
    obtain⟨e₂,a₂,w₂,hq₂,harr₂⟩:=V m' N a₁ w₁ hI₁
    exact⟨e₂,a₂,w₂,hq₂,.of_steps (StepsIn.trans harr (.one (fenced_calm J L rfl) stepR_inLoop)) harr₂⟩
   |exit id=>exact⟨_,a₁,w₁,hq,.pass (x:=.inLoop c) rfl (fun _ _=>.inl (by simp)) harr⟩
   |goto l=>exact⟨_,a₁,w₁,hq,.pass (x:=.inLoop c) rfl (fun _ _=>.inl (by simp)) harr⟩
   |ret=>exact⟨_,a₁,w₁,hq,.pass (x:=.inLoop c) rfl (fun _ _=>.inl (by simp)) harr⟩
   |panic ch=>exact⟨_,a₁,w₁,hq,.pass (x:=.inLoop c) rfl (fun _ _=>.inl (by simp)) harr⟩
   |outgrown=>exact⟨_,a₁,w₁,hq,.pass (x:=.inLoop c) rfl (fun _ _=>.inl (by simp)) harr⟩
 obtain⟨e,a',w',hq,harr⟩:=key m a w O
 exact⟨e,a',w',hq,.of_steps (.one (fenced_calm J L rfl) stepR_loop) harr⟩
theorem ret0 {fn:Func}{R:Ending→World→Prop}(E:Fr a n [] l)(I:fn.results=#[])(J:R (.returned (.tuple #[])) w):bodyPost P fn R .ret a w:=
 bodyPost_ret (results_none I _ _ _) E.defs J
end
structure Ch (S:List Nat) (w w':World):Prop where
 os:w'.os=w.os
 tape:w'.tape=w.tape
 output:w'.output=w.output
 size:w.heap.size≤w'.heap.size
 block: ∀k,k<w.heap.size→k∉S→w'.heap[k]?=w.heap[k]?
theorem Ch.refl (w:World):Ch [] w w:=⟨rfl,rfl,rfl,Qq _,fun _ _ _=>rfl⟩
theorem Ch.refl' (S:List Nat)(w:World):Ch S w w:=⟨rfl,rfl,rfl,Qq _,fun _ _ _=>rfl⟩
theorem Ch.mono {S S':List Nat}{a b:World}(h:Ch S a b)(hs: ∀k,k∈S→k∈S'∨a.heap.size≤k):Ch S' a b:=
 ⟨h.os,h.tape,h.output,h.size,fun k hk I=>h.block k hk (fun J=>by rcases hs k J with E|E;exact I E;omega)⟩
theorem Ch.then {S T U:List Nat}{a b c:World}(h:Ch S a b)(k:Ch T b c)(L: ∀i,i∈S→i∈U∨a.heap.size≤i:=by simp)(N: ∀i,i∈T→i∈U∨a.heap.size≤i:=by simp):Ch U a c:=
 ⟨k.os.trans h.os,k.tape.trans h.tape,k.output.trans h.output,Wl h.size k.size,fun i hi J=>by
  have O:=h.size
  refine(k.block i (by omega) (fun I=>?_)).trans (h.block i hi (fun I=>?_))
  ·rcases N i I with E|E
   ·exact J E
   ·omega
  ·rcases L i I with E|E
   ·exact J E
   ·omega⟩
theorem Ch.of_grown {w w':World}{row:Option Nat}(h:w.grownBy w' row):Ch row.toList w w':=
 ⟨h.os,h.tape,h.output,h.size,fun k hk E=>h.block k hk (fun e=>E (by rw[←e];simp))⟩
theorem Ch.below {w w':World}(h:Ch [] w w'):Below w.heap.size w w':=⟨h.os,h.tape,h.output,h.size,fun k hk=>h.block k hk (by simp)⟩
theorem Ch.of_below {w w':World}(h:Below w.heap.size w w'):Ch [] w w':=⟨h.os,h.tape,h.output,h.size,fun k hk _=>h.block k hk⟩
theorem Ch.drew (w:World):Ch [] w w.drew:=⟨rfl,rfl,rfl,Qq _,fun _ _ _=>rfl⟩
theorem Ch.alloc (w:World)(o:Obj):Ch [] w (w.alloc o):=⟨rfl,rfl,rfl,by simp,fun k hk _=>Below.heap_alloc w o k hk⟩
theorem Ch.setRow (w:World)(g:Nat)(cs:Array Value):Ch [g] w (w.setRow g cs):=
 ⟨rfl,rfl,rfl,by simp[World.setRow],fun k _ E=>setRow_other w g k cs (by simpa using E)⟩
theorem Ch.cell {S:List Nat}{w w':World}(h:Ch S w w'){p:Addr}(hp:p.block<w.heap.size)(E:p.block∉S):w'.cell? p=w.cell? p:=World.cell?_of_block (h.block _ hp E)
def Blk (w:World)(g:Nat)(t:TypeId)(cs:List Value):Prop:=w.heap[g]?=some (.cells cs.toArray t (0,0))
section
variable {w w':World}{g:Nat}{t:TypeId}{cs:List Value}
theorem Blk.lt (h:Blk w g t cs):g<w.heap.size:=by
 rcases Yq g w.heap.size with E|I
 ·exact E
 ·unfold Blk at h;rw[Xz I]at h;cases h
theorem Blk.cell (h:Blk w g t cs)(i:Nat):w.cell? ⟨g,i,none⟩=cs[i]?:=by rw[cell_of_row w g i cs.toArray t (0,0) h];simp
theorem Blk.new (w:World)(t:TypeId)(cs:List Value):Blk (w.alloc (.cells cs.toArray t)) w.heap.size t cs:=heap_alloc_new w _
theorem Blk.ch {S:List Nat}(h:Blk w g t cs)(E:Ch S w w')(I:g∉S):Blk w' g t cs:=(E.block g h.lt I).trans h
end
section
variable {P:Program}{a:Act}{w:World}{d:Option Tmp}{T:TypeId}{pos:String}{af:Array Edge}{gd:Option (Nat×Bool)}
theorem r_move {x:Operand}{v:Value}(E:a.eval x=v):(execOp a.eval ⟨d,.move x,T,pos,af,gd⟩).run P w=.ok (.value v) w:=by
 simp[execOp,E]
theorem r_assign {x:Operand}{v:Value}(E:a.eval x=v):(execOp a.eval ⟨d,.assign x,T,pos,af,gd⟩).run P w=.ok (.value v) w:=by
 simp[execOp,E]
theorem r_pick_t {c x y:Operand}{u:Value}(E:a.eval c=.bool true)(I:a.eval x=u):
  (execOp a.eval ⟨d,.pick c x y,T,pos,af,gd⟩).run P w=.ok (.value u) w:=by
 simp[execOp,E,I,asBool]
theorem r_pick_f {c x y:Operand}{v:Value}(E:a.eval c=.bool false)(I:a.eval y=v):
  (execOp a.eval ⟨d,.pick c x y,T,pos,af,gd⟩).run P w=.ok (.value v) w:=by
 simp[execOp,E,I,asBool]
theorem r_not {t:TypeId}{x:Operand}{b:Bool}(E:a.eval x=.bool b):(execOp a.eval ⟨d,.unOp .not t x,T,pos,af,gd⟩).run P w=.ok (.value (.bool (!b))) w:=by
 simp[execOp,E,Op.unary]
theorem r_extract {x:Operand}{vs:Array Value}{i:Nat}{v:Value}(E:a.eval x=.tuple vs)(I:vs[i]?=some v):(execOp a.eval ⟨d,.extract x i,T,pos,af,gd⟩).run P w=.ok (.value v) w:=by
 simp[execOp,E,Instr.extract,I]
theorem r_nilCheck {x:Operand}{ad:Addr}(E:a.eval x=.pointer (some ad)):(execOp a.eval ⟨d,.nilCheck x,T,pos,af,gd⟩).run P w=.ok (.value (.pointer (some ad))) w:=by
 simp[execOp,E]
theorem r_makeFunc {fn:Fn}{first captured:Array Operand}{vs us:Array Value}(E:first.map a.eval=vs)(I:captured.map a.eval=us):
  (execOp a.eval ⟨d,.makeFunc fn first captured,T,pos,af,gd⟩).run P w=.ok (.value (.func fn vs us)) w:=by
 simp[execOp,Instr.makeFunc,E,I]
section ints
variable {t ty:TypeId}{x y:Operand}{k:IntKind}{m n:Int}
theorem r_add (E:a.eval x=.int k m)(I:a.eval y=.int k n):(execOp a.eval ⟨d,.binOp .add t x y ty,T,pos,af,gd⟩).run P w=.ok (.value (.int k (k.wrap (m+n)))) w:=by
 simp[execOp,E,I,binOp_add,eqGuard_add,Op.intArith]
theorem r_sub (E:a.eval x=.int k m)(I:a.eval y=.int k n):(execOp a.eval ⟨d,.binOp .sub t x y ty,T,pos,af,gd⟩).run P w=.ok (.value (.int k (k.wrap (m-n)))) w:=by
 simp[execOp,E,I,binOp_sub,eqGuard_sub,Op.intArith]
theorem r_mul (E:a.eval x=.int k m)(I:a.eval y=.int k n):(execOp a.eval ⟨d,.binOp .mul t x y ty,T,pos,af,gd⟩).run P w=.ok (.value (.int k (k.wrap (m*n)))) w:=by
 simp[execOp,E,I,binOp_mul,eqGuard_mul,Op.intArith]
theorem r_quo (E:a.eval x=.int k m)(I:a.eval y=.int k n)(J:n≠0):(execOp a.eval ⟨d,.binOp .quo t x y ty,T,pos,af,gd⟩).run P w=.ok (.value (.int k (k.wrap (m.tdiv n)))) w:=by
 simp[execOp,E,I,binOp_quo,eqGuard_quo,Op.intDiv,J]
theorem r_rem (E:a.eval x=.int k m)(I:a.eval y=.int k n)(J:n≠0):(execOp a.eval ⟨d,.binOp .rem t x y ty,T,pos,af,gd⟩).run P w=.ok (.value (.int k (m.tmod n))) w:=by
 simp[execOp,E,I,binOp_rem,eqGuard_rem,Op.intDiv,J]
theorem r_lss (E:a.eval x=.int k m)(I:a.eval y=.int k n):(execOp a.eval ⟨d,.binOp .lss t x y ty,T,pos,af,gd⟩).run P w=.ok (.value (.bool (decide (m<n)))) w:=by
 simp[execOp,E,I,binOp_lss,eqGuard_lss]
theorem r_leq (E:a.eval x=.int k m)(I:a.eval y=.int k n):(execOp a.eval ⟨d,.binOp .leq t x y ty,T,pos,af,gd⟩).run P w=.ok (.value (.bool (decide (m≤n)))) w:=by
 simp[execOp,E,I,binOp_leq,eqGuard_leq]
theorem r_gtr (E:a.eval x=.int k m)(I:a.eval y=.int k n):(execOp a.eval ⟨d,.binOp .gtr t x y ty,T,pos,af,gd⟩).run P w=.ok (.value (.bool (decide (n<m)))) w:=by
 simp[execOp,E,I,binOp_gtr,eqGuard_gtr]
theorem r_geq (E:a.eval x=.int k m)(I:a.eval y=.int k n):(execOp a.eval ⟨d,.binOp .geq t x y ty,T,pos,af,gd⟩).run P w=.ok (.value (.bool (decide (n≤m)))) w:=by
 simp[execOp,E,I,binOp_geq,eqGuard_geq]
theorem r_eql (E:a.eval x=.int k m)(I:a.eval y=.int k n):(execOp a.eval ⟨d,.binOp .eql t x y ty,T,pos,af,gd⟩).run P w=.ok (.value (.bool (decide (m=n)))) w:=by
 simp[execOp,E,I,binOp_eql,eqGuard_at_int]
 rfl
theorem r_neq (E:a.eval x=.int k m)(I:a.eval y=.int k n):(execOp a.eval ⟨d,.binOp .neq t x y ty,T,pos,af,gd⟩).run P w=.ok (.value (.bool (decide (m≠n)))) w:=by
 have e:(m !=n)=decide (m≠n):=by rw[Yx];simp
 simp only[execOp,E,I,binOp_neq,eqGuard_at_int,Sem.run_bind,Sem.run_pure,Result.andThen_ok,e]
theorem r_shr {k':IntKind}(E:a.eval x=.int .u64 m)(I:a.eval y=.int k' n)(J:0≤n)(L:n≤64):(execOp a.eval ⟨d,.binOp .shr t x y ty,T,pos,af,gd⟩).run P w=.ok (.value (.int .u64 (m / 2^n.toNat))) w:=by
 simp[execOp,E,I,binOp_shr,eqGuard_shr,shift_shr_u64 k' m n J L]
end ints
section bools
variable {t ty:TypeId}{x y:Operand}{b c:Bool}
theorem Qdc {t:TypeId}(E:P.underlying t=some .bool)(m:Nat):(Op.equalIn (m+1) t (.bool b) (.bool c)).run P w=.ok (b==c) w:=by
 simp[Op.equalIn,run_underlying E]
theorem Qbp {t:TypeId}(E:P.underlying t=some .bool):(Op.equal t (.bool b) (.bool c)).run P w=.ok (b==c) w:=Qdc E 9999
theorem r_eqb (E:P.underlying t=some .bool)(I:a.eval x=.bool b)(J:a.eval y=.bool c):(execOp a.eval ⟨d,.binOp .eql t x y ty,T,pos,af,gd⟩).run P w=.ok (.value (.bool (b==c))) w:=by
 simp[execOp,I,J,eqGuard_at_bool,binOp,Qbp E]
theorem r_neb (E:P.underlying t=some .bool)(I:a.eval x=.bool b)(J:a.eval y=.bool c):(execOp a.eval ⟨d,.binOp .neq t x y ty,T,pos,af,gd⟩).run P w=.ok (.value (.bool (!(b==c)))) w:=by
 simp[execOp,I,J,eqGuard_at_bool,binOp,Qbp E]
end bools
section strings
variable {t ty:TypeId}{x y:Operand}{s u:ByteArray}
theorem str_eq (s u:ByteArray):(s.toList==u.toList)=decide (s=u):=by
 rw[Yx]
 simp only[beq_iff_eq,decide_eq_true_eq]
 constructor
 ·intro h
  rw[ByteArray.toList_eq,ByteArray.toList_eq]at h
  exact ByteArray.ext (Array.toList_inj.1 h)
 ·rintro rfl;rfl
theorem r_eqs (E:a.eval x=.string s)(I:a.eval y=.string u):(execOp a.eval ⟨d,.binOp .eql t x y ty,T,pos,af,gd⟩).run P w=.ok (.value (.bool (decide (s=u)))) w:=by
 simp[execOp,E,I,eqGuard_at_string,binOp,Op.stringOp,str_eq]
theorem r_nes (E:a.eval x=.string s)(I:a.eval y=.string u):(execOp a.eval ⟨d,.binOp .neq t x y ty,T,pos,af,gd⟩).run P w=.ok (.value (.bool (!decide (s=u)))) w:=by
 simp[execOp,E,I,eqGuard_at_string,binOp,Op.stringOp,str_eq]
end strings
section conv
variable {src dst:TypeId}{x:Operand}{k k':IntKind}{n:Int}
theorem r_conv {de:TypeDesc}(hs:P.underlying src=some de)(E:P.underlying dst=some (.int k'))(I:a.eval x=.int k n):(execOp a.eval ⟨d,.convert src dst x,T,pos,af,gd⟩).run P w=.ok (.value (.int k' (k'.wrap n))) w:=by
 simp[execOp,I,convert,run_underlying hs,run_underlying E,Conv.intToInt]
end conv
section lens
variable {t e:TypeId}{x y:Operand}{A:Option Addr}{n c:Nat}
theorem r_len (E:P.underlying t=some (.slice e))(I:a.eval x=.slice A n c):
  (execOp a.eval ⟨d,.call {callee:=.builtin .len,args:=#[x],argTypes:=#[t]},T,pos,af,gd⟩).run P w=.ok (.value (.int .i64 (n:Int))) w:=by
 simp[execOp,resolve,invoke,builtin,I,Builtin.len_,run_underlying E,goInt]
theorem r_lens {s:ByteArray}(E:P.underlying t=some .string)(I:a.eval x=.string s):
  (execOp a.eval ⟨d,.call {callee:=.builtin .len,args:=#[x],argTypes:=#[t]},T,pos,af,gd⟩).run P w=.ok (.value (.int .i64 (s.size:Int))) w:=by
 simp[execOp,resolve,invoke,builtin,I,Builtin.len_,run_underlying E,goInt]
theorem r_min {k k':IntKind}{p q:Int}{ts:Array TypeId}(E:a.eval x=.int k p)(I:a.eval y=.int k' q):
  (execOp a.eval ⟨d,.call {callee:=.builtin .min,args:=#[x,y],argTypes:=ts},T,pos,af,gd⟩).run P w=.ok (.value (.int k (min p q))) w:=by
 have e:(if q<p then q else p)=min p q:=by omega
 simp[execOp,resolve,invoke,builtin,E,I,Builtin.min_,Builtin.min2,e]
theorem r_max {k k':IntKind}{p q:Int}{ts:Array TypeId}(E:a.eval x=.int k p)(I:a.eval y=.int k' q):
  (execOp a.eval ⟨d,.call {callee:=.builtin .max,args:=#[x,y],argTypes:=ts},T,pos,af,gd⟩).run P w=.ok (.value (.int k (max p q))) w:=by
 have e:(if p<q then q else p)=max p q:=by omega
 simp[execOp,resolve,invoke,builtin,E,I,Builtin.max_,Builtin.max2,e]
end lens
section mem
variable {t e:TypeId}{x y:Operand}{g o:Nat}{cs:List Value}{v:Value}{n:Nat}
theorem r_load1 {ad:Addr}(E: ∀w,(isAgg t).run P w=.ok false w)(I:a.eval x=.pointer (some ad))(J:w.cell? ad=some v):
  (execOp a.eval ⟨d,.load t x,T,pos,af,gd⟩).run P w=.ok (.value v) w:=by
 simp[execOp,Instr.loadAt,I,Instr.sureAddr,loadVar,E,J]
theorem r_loadN {ad:Addr}(E: ∀w,(isAgg t).run P w=.ok true w)(I: ∀w,(sizeOf t).run P w=.ok n w)(J:a.eval x=.pointer (some ad))(L:cs.length=n)
  (N: ∀j u,cs[j]?=some u→w.cell? (ad.add j)=some u):
  (execOp a.eval ⟨d,.load t x,T,pos,af,gd⟩).run P w=.ok (.value (.agg cs.toArray)) w:=by
 subst L
 have:=run_loadCells_list (P:=P) w ad cs N
 simp[execOp,Instr.loadAt,J,Instr.sureAddr,loadVar,E,I,this]
theorem r_indexAddr {A:Addr}{c:Nat}{i:Int}{k:IntKind}(E:P.underlying t=some (.slice e))(I: ∀w,(sizeOf e).run P w=.ok g w)(J:a.eval x=.slice (some A) n c)(L:a.eval y=.int k i)(N:0≤i)(O:i<n):
  (execOp a.eval ⟨d,.indexAddr t x y,T,pos,af,gd⟩).run P w=.ok (.value (.pointer (some (A.add (i.toNat*g))))) w:=by
 simp[execOp,Instr.indexAt,J,L,asIntOf,run_underlying E,I,N,O]
end mem
end
inductive Ty where
 |int (k:IntKind)
 |byte
 |bool
 |str
 |slice (e:Ty)
 |pair (a b:Ty)
@[reducible] def Ty.den:Ty→Type
 | .int _=>Int
 | .byte=>UInt8
 | .bool=>Bool
 | .str=>ByteArray
 | .slice e=>List e.den
 | .pair a b=>a.den×b.den
def Ty.size:Ty→Nat
 | .pair a b=>a.size+b.size
 |_=>1
def Ty.rep (w:World)(F:Nat→Prop):(t:Ty)→List Value→t.den→Prop
 | .int k,cs,x=>cs=[.int k x]∧k.has x
 | .byte,cs,x=>cs=[.int .u8 (x.toNat:Int)]
 | .bool,cs,x=>cs=[.bool x]
 | .str,cs,x=>cs=[.string x]∧x.size≤maxLen
 | .slice e,cs,xs=>∃(A:Option Addr) (c:Nat) (cells:List Value),cs=[.slice A xs.length c]∧xs.length≤c∧c≤maxLen∧cells.length=xs.length*e.size∧
   (xs.length=0∨∃b o,A=some ⟨b,o,none⟩∧F b∧∀j u,cells[j]?=some u→w.cell? ⟨b,o+j,none⟩=some u)∧
   ∀(i:Nat) (x:e.den),xs[i]?=some x→e.rep w F ((cells.drop (i*e.size)).take e.size) x
 | .pair a b,cs,x=>∃ca cb,cs=ca++cb∧a.rep w F ca x.1∧b.rep w F cb x.2
section
variable {w w':World}{F F':Nat→Prop}
theorem Qje: ∀(t:Ty) {cs:List Value} {x:t.den},t.rep w F cs x→cs.length=t.size
 | .int _,_,_,h=>by rw[h.1];rfl
 | .byte,_,_,h=>by rw[show _=_ from h];rfl
 | .bool,_,_,h=>by rw[show _=_ from h];rfl
 | .str,_,_,h=>by rw[h.1];rfl
 | .slice e,_,_,h=>by obtain⟨A,c,cells,h,_⟩:=h;rw[h];rfl
 | .pair a b,_,_,h=>by
  obtain⟨ca,cb,h,E,I⟩:=h
  rw[h,Qj,Qje a E,Qje b I];rfl
theorem Qfk: ∀(t:Ty) {cs:List Value} {x:t.den},t.rep w F cs x→∀u∈cs,u.oneCell'=true
 | .int _,_,_,h=>by rw[h.1];simp[Value.oneCell']
 | .byte,_,_,h=>by rw[show _=_ from h];simp[Value.oneCell']
 | .bool,_,_,h=>by rw[show _=_ from h];simp[Value.oneCell']
 | .str,_,_,h=>by rw[h.1];simp[Value.oneCell']
 | .slice e,_,_,h=>by obtain⟨A,c,cells,h,_⟩:=h;rw[h];simp[Value.oneCell']
 | .pair a b,_,_,h=>by
  obtain⟨ca,cb,h,I,J⟩:=h
  intro u E
  rw[h,Qu]at E
  rcases E with E|E
  ·exact Qfk a I u E
  ·exact Qfk b J u E
theorem rep_keep (hk: ∀p:Addr,F p.block→p.block<w.heap.size→w'.cell? p=w.cell? p)(E: ∀b,F b→F' b): ∀(t:Ty) {cs:List Value} {x:t.den},t.rep w F cs x→t.rep w' F' cs x
 | .int _,_,_,h=>h
 | .byte,_,_,h=>h
 | .bool,_,_,h=>h
 | .str,_,_,h=>h
 | .slice e,_,_,h=>by
  obtain⟨A,c,cells,L,N,O,V,J,h6⟩:=h
  refine⟨A,c,cells,L,N,O,V,?_,fun i x hi=>rep_keep hk E e (h6 i x hi)⟩
  rcases J with J|⟨b,o,W,I,hc⟩
  ·exact .inl J
  ·refine .inr ⟨b,o,W,E b I,fun j u hu=>?_⟩
   have:=hc j u hu
   rw[hk ⟨b,o+j,none⟩ I (World.block_lt_of_cell? w _ this)]
   exact this
 | .pair a b,_,_,h=>by
  obtain⟨ca,cb,h,ha,I⟩:=h
  exact⟨ca,cb,h,rep_keep hk E a ha,rep_keep hk E b I⟩
def Ty.flat:Ty→Bool
 | .slice _=>false
 | .pair a b=>a.flat&&b.flat
 |_=>true
theorem rep_flat: ∀(t:Ty),t.flat=true→∀{cs:List Value} {x:t.den},t.rep w F cs x→t.rep w F' cs x
 | .int _,_,_,_,h=>h
 | .byte,_,_,_,h=>h
 | .bool,_,_,_,h=>h
 | .str,_,_,_,h=>h
 | .slice e,E,_,_,_=>by cases E
 | .pair a b,E,_,_,h=>by
  simp only[Ty.flat,Qk]at E
  obtain⟨ca,cb,h,I,J⟩:=h
  exact⟨ca,cb,h,rep_flat a E.1 I,rep_flat b E.2 J⟩
theorem rep_ch {S:List Nat}(E:Ch S w w')(I: ∀b,F b→b∉S)(t:Ty){cs:List Value}{x:t.den}(h:t.rep w F cs x):t.rep w' F cs x:=
 rep_keep (fun _ hp J=>E.cell J (I _ hp)) (fun _ h=>h) t h
theorem Qgk (E: ∀b,F b→F' b)(t:Ty){cs:List Value}{x:t.den}(h:t.rep w F cs x):t.rep w F' cs x:=rep_keep (fun _ _ _=>rfl) E t h
theorem rep_slice_len {e:Ty}{A:Option Addr}{n c:Nat}{xs:List e.den}(h:(Ty.slice e).rep w F [.slice A n c] xs):xs.length=n∧n≤c∧c≤maxLen:=by
 obtain⟨A',c',cells,E,I,J,_⟩:=h
 injection E with E
 injection E with O L N
 subst L;subst N
 exact⟨rfl,I,J⟩
theorem Qfo (e:Ty):(Ty.slice e).rep w F [.slice none 0 0] []:=⟨none,0,[],rfl,Qq _,by simp[maxLen],by simp,.inl rfl,fun i x h=>by simp at h⟩
theorem rep_take {e:Ty}{A:Option Addr}{n c:Nat}{xs:List e.den}(h:(Ty.slice e).rep w F [.slice A n c] xs){k:Nat}(hk:k≤xs.length):(Ty.slice e).rep w F [.slice A k c] (xs.take k):=by
 obtain⟨A',c',cells,I,h2,V,W,N,h6⟩:=h
 injection I with I
 injection I with J hn hc
 subst J;subst hc
 have L:(xs.take k).length=k:=by rw[Qz];omega
 refine⟨A,c,cells.take (k*e.size),by rw[L],by omega,V,by rw[Qz,W,L];exact Xr (Wd _ hk),?_,fun i x hi=>?_⟩
 ·rw[L]
  rcases N with N|⟨b,o,J,hb,hcell⟩
  ·exact .inl (by omega)
  ·refine .inr ⟨b,o,J,hb,fun j u O=>hcell j u ?_⟩
   have hj:=(Qc.1 O).1
   rw[Qz]at hj
   rwa[Wf (by omega)]at O
 ·have E:i<k:=by
   have:=(Qc.1 hi).1
   omega
  have hx:xs[i]?=some x:=by rwa[Wf E]at hi
  have:=h6 i x hx
  have hm:(i+1)*e.size≤k*e.size:=Wd _ E
  rw[Xi,Ya]at hm
  rw[List.drop_take,Y2,Xr (by omega)]
  exact this
end
def obl:Option Addr→List Nat
 |none=>[]
 |some a=>[a.block]
def Own (t:Ty)(e:TypeId)(B:Nat)(w:World)(F:Nat→Prop)(A:Option Addr)(c:Nat)(xs:List t.den):Prop:=
 ∃cells:List Value,w.ownsRow B e t.size (.slice A xs.length c) xs.length cells∧(∀u∈cells,u.oneCell'=true)∧
  ∀(i:Nat) (x:t.den),xs[i]?=some x→t.rep w F ((cells.drop (i*t.size)).take t.size) x
section
variable {t:Ty}{e:TypeId}{B:Nat}{w w':World}{F F':Nat→Prop}{A:Option Addr}{c:Nat}{xs:List t.den}
theorem ownBlock_slice (A:Option Addr)(n c:Nat):(Value.slice A n c).ownBlock.toList=obl A:=by cases A<;>rfl
theorem Own.nil (t:Ty)(e:TypeId)(B:Nat)(w:World)(F:Nat→Prop):Own t e B w F none 0 []:=
 ⟨[],World.ownsRow_nil w B e t.size,by simp,fun i x h=>by simp at h⟩
theorem Own.lt (h:Own t e B w F A c xs): ∀k,k∈obl A→B≤k∧k<w.heap.size:=by
 obtain⟨cells,E,_⟩:=h
 intro k hk
 exact E.lt k (by cases A<;>simp_all [obl,Value.ownBlock])
theorem Own.len (h:Own t e B w F A c xs):xs.length≤c∧c≤maxLen:=by
 obtain⟨cells,J,_⟩:=h
 rcases J.2 with⟨E,O⟩|⟨g,cap,cur,E,_,_,L,N,_⟩
 ·injection E with _ _ I;subst I;exact⟨by omega,by simp[maxLen]⟩
 ·injection E with _ _ I;subst I;exact⟨L,N⟩
theorem Own.more (h:Own t e B w F A c xs)(E: ∀b,F b→F' b):Own t e B w F' A c xs:=by
 obtain⟨cells,I,J,L⟩:=h
 exact⟨cells,I,J,fun i x hi=>Qgk E t (L i x hi)⟩
theorem Own.rep (h:Own t e B w F A c xs)(O: ∀b,F b→F' b)(hA: ∀k,k∈obl A→F' k):(Ty.slice t).rep w F' [.slice A xs.length c] xs:=by
 obtain⟨cells,V,h1,W⟩:=h
 have hl:cells.length=xs.length*t.size:=V.1
 rcases V.2 with⟨I,hn⟩|⟨g,cap,cur,I,hb,hg,J,L,hcs,htake⟩
 ·injection I with hA' _ N
  subst hA';subst N
  exact⟨none,0,cells,rfl,by omega,by simp[maxLen],hl,.inl hn,fun i x hi=>Qgk O t (W i x hi)⟩
 ·injection I with hA' _ N
  subst hA';subst N
  refine⟨_,_,cells,rfl,J,L,hl,.inr ⟨g,0,rfl,hA g (by simp[obl]),fun j u E=>?_⟩,fun i x hi=>Qgk O t (W i x hi)⟩
  rw[Ws,cell_of_row w g j cur e (0,0) hg]
  rw[←htake,Xa]at E
  split at E
  ·simpa using E
  ·cases E
theorem Own.made {w:World}{g:Nat}{cs:List Value}(I:Blk w g e cs)(J:B≤g)(E:cs.length=xs.length*t.size)(L:xs.length≤maxLen)(N: ∀u∈cs,u.oneCell'=true)
  (O: ∀(i:Nat) (x:t.den),xs[i]?=some x→t.rep w F ((cs.drop (i*t.size)).take t.size) x):Own t e B w F (some ⟨g,0,none⟩) xs.length xs:=
 ⟨cs,⟨E,.inr ⟨g,xs.length,cs.toArray,rfl,J,I,Qq _,L,by simpa using E,by simp[←E]⟩⟩,N,O⟩
end
theorem Qey {t:Ty}{w:World}{F:Nat→Prop}{xs ys:List t.den}{cs ds:List Value}(I:cs.length=xs.length*t.size)
  (J: ∀(i:Nat) (x:t.den),xs[i]?=some x→t.rep w F ((cs.drop (i*t.size)).take t.size) x) (L: ∀(i:Nat) (x:t.den),ys[i]?=some x→t.rep w F ((ds.drop (i*t.size)).take t.size) x):
  ∀(i:Nat) (x:t.den),(xs++ys)[i]?=some x→t.rep w F (((cs++ds).drop (i*t.size)).take t.size) x:=by
 intro i x hi
 by_cases E:i<xs.length
 ·rw[Q5 E]at hi
  have N:(i+1)*t.size≤xs.length*t.size:=Wd _ E
  rw[Xi,Ya]at N
  rw[List.drop_append_of_le_length (by omega),List.take_append_of_le_length (by rw[Xm];omega)]
  exact J i x hi
 ·rw[Q1 (by omega)]at hi
  have:=L _ _ hi
  have e:(cs++ds).drop (i*t.size)=ds.drop ((i-xs.length)*t.size):=by
   rw[List.drop_append,Q2 (by rw[I];exact Wd _ (by omega)),Wo,I,Nat.sub_mul]
  rw[e]
  exact this
section
variable {P:Program}{t:Ty}{e:TypeId}{B:Nat}{w:World}{F:Nat→Prop}{A:Option Addr}{c:Nat}{xs:List t.den}
end
def evs (l:List (Nat×Value)):List Operand→Option (List Value)
 | []=>some []
 |x::r=>match ev l x,evs l r with
  |some v,some vs=>some (v::vs)
  |_,_=>none
def evp (l:List (Nat×Value)):List (Nat×Operand)→Option (List (Nat×Value))
 | []=>some []
 |(i,x)::r=>match ev l x,evp l r with
  |some v,some vs=>some ((i,v)::vs)
  |_,_=>none
theorem Fr.evals {a:Act}{n:Nat}{ds:List Deferred}{l:List (Nat×Value)}(h:Fr a n ds l): ∀(xs:List Operand) {vs:List Value},evs l xs=some vs→xs.toArray.map a.eval=vs.toArray:=by
 intro xs
 induction xs with
 |nil=>intro vs E;simp only[evs,Qw]at E;subst E;simp
 |cons x r L=>
  intro vs E
  unfold evs at E
  cases I:ev l x with
  |none=>simp[I]at E
  |some v=>
   cases J:evs l r with
   |none=>simp[I,J]at E
   |some us=>
    simp only[I,J,Qw]at E
    subst E
    have:=L J
    simp only[Xt,Qv,h.eval I]at this ⊢
    rw[Array.mk.injEq]at this
    rw[this]
theorem Fr.evalp {a:Act}{n:Nat}{ds:List Deferred}{l:List (Nat×Value)}(h:Fr a n ds l): ∀(xs:List (Nat×Operand)) {vs:List (Nat×Value)},evp l xs=some vs→
  xs.toArray.map (fun(i,x)=>(i,a.eval x))=vs.toArray:=by
 intro xs
 induction xs with
 |nil=>intro vs E;simp only[evp,Qw]at E;subst E;simp
 |cons x r L=>
  obtain⟨i,x⟩:=x
  intro vs E
  unfold evp at E
  cases I:ev l x with
  |none=>simp[I]at E
  |some v=>
   cases J:evp l r with
   |none=>simp[I,J]at E
   |some us=>
    simp only[I,J,Qw]at E
    subst E
    have:=L J
    simp only[Xt,Qv,h.eval I]at this ⊢
    rw[Array.mk.injEq]at this
    rw[this]
section
variable {P:Program}{a:Act}{w:World}{d:Option Tmp}{T:TypeId}{pos:String}{af:Array Edge}{gd:Option (Nat×Bool)}{n:Nat}{ds:List Deferred}{l:List (Nat×Value)}
theorem Qhc {t:TypeId}{x:Operand}{fs:Array Field}{f:Field}{i m:Nat}{ad:Addr}(E:P.underlying t=some (.struct fs))(I:fs[i]?=some f)(J: ∀w,(sizeOf f.type).run P w=.ok (m+1) w)(L:a.eval x=.pointer (some ad)):
  (execOp a.eval ⟨d,.fieldAddr t x i,T,pos,af,gd⟩).run P w=.ok (.value (.pointer (some (ad.add f.offset)))) w:=by
 simp[execOp,Instr.fieldAt,run_underlying E,I,L,Instr.sureAddr,fieldPlace,J]
section
variable {t e:TypeId}{x lo hi mx:Operand}{A:Option Addr}{len c sz:Nat}{k k1 k2 k3:IntKind}{p q r:Int}
theorem Qee {u:Nat}(E:P.underlying t=some (.slice e))(I: ∀w,(sizeOf e).run P w=.ok sz w)(J:a.eval x=.slice A len c)(L:a.eval hi=.int k q)(hq:q=(u:Int))(N:u≤c):
  (execOp a.eval ⟨d,.slice t x none (some hi) none,T,pos,af,gd⟩).run P w=.ok (.value (.slice A u c)) w:=by
 subst hq
 simp[execOp,Instr.sliceAt,run_underlying E,J,L,Instr.slice,Instr.sliceBounds,Instr.sliceBound,asIntOf,N,I]
 cases A<;>simp[Addr.add]
theorem r_eqnil {ty:TypeId}{y:Operand}(E:P.underlying t=some (.slice e))(I:a.eval x=.slice A len c)(J:a.eval y=.slice none 0 0):
  (execOp a.eval ⟨d,.binOp .eql t x y ty,T,pos,af,gd⟩).run P w=.ok (.value (.bool A.isNone)) w:=by
 have h: ∀m,(Op.equalIn (m+1) t (.slice A len c) (.slice none 0 0)).run P w=.ok A.isNone w:=fun m=>by
  cases A<;>simp[Op.equalIn,run_underlying E]
 have L:(Op.equal t (.slice A len c) (.slice none 0 0)).run P w=.ok A.isNone w:=h 9999
 simp[execOp,I,J,eqGuard_at_slice,binOp,L]
end
theorem r_callv {f:FuncId}{c:Operand}{xs:List Operand}{vs first cap:List Value}{ts:Array TypeId}(E: ∀args w,(callFunc f args).run P w=.ok (.enter f args) w)(I:Fr a n ds l)
  (J:ev l c=some (.func (.func f) first.toArray cap.toArray)) (L:evs l xs=some vs):
  (execOp a.eval ⟨d,.call {callee:=.value c,args:=xs.toArray,argTypes:=ts},T,pos,af,gd⟩).run P w=.ok (.enter f (first++vs++cap).toArray) w:=by
 have h:=I.evals xs L
 have N:=I.eval J
 simp only[execOp,resolve,h,N]
 simp[Deferred.ofValue,invoke,E]
end
section
variable {r:Option Nat}{P:Program}{ops:Array Oper}{Q:Exit→Act→World→Prop}{a:Act}{w:World}{rest:List Oper}{n:Nat}{ds:List Deferred}{l:List (Nat×Value)}{d:Nat}{T:TypeId}{pos:String}{af:Array Edge}
theorem st_box {e:TypeId}{x:Operand}{v:Value}{cs:List Value}(E:Fr a n ds l)(I:Nat.ble (d+1) n=true)(J:ev l x=some v)(L:v.cells=cs.toArray)
  (h: ∀g w' a',g=w.heap.size→w'.heap.size=g+1→Blk w' g e cs→Ch [] w w'→Fr a' n ds ((d,.pointer (some ⟨g,0,none⟩))::l)→WL r P ops Q rest a' w'):
  WL r P ops Q (⟨some d,.box e x,T,pos,af,none⟩::rest) a w:=
 valw (w':=w.alloc (.cells cs.toArray e)) (v:=.pointer (some ⟨w.heap.size,0,none⟩)) E I (by simp[execOp,E.eval J,Instr.box,newVar,newRow,L])
  fun a' hf'=>h _ _ a' rfl (by simp) (Blk.new w e cs) (Ch.alloc w _) hf'
theorem st_alloc {e:TypeId}{z:Value}{cs:List Value}(E:Fr a n ds l)(I:Nat.ble (d+1) n=true)(J: ∀w,(zeroValue e).run P w=.ok z w)(L:z.cells=cs.toArray)
  (h: ∀g w' a',g=w.heap.size→w'.heap.size=g+1→Blk w' g e cs→Ch [] w w'→Fr a' n ds ((d,.pointer (some ⟨g,0,none⟩))::l)→WL r P ops Q rest a' w'):
  WL r P ops Q (⟨some d,.alloc e,T,pos,af,none⟩::rest) a w:=
 valw (w':=w.alloc (.cells cs.toArray e)) (v:=.pointer (some ⟨w.heap.size,0,none⟩)) E I (by simp[execOp,Instr.alloc,J,newVar,newRow,L])
  fun a' hf'=>h _ _ a' rfl (by simp) (Blk.new w e cs) (Ch.alloc w _) hf'
theorem run_bslice {t e:TypeId}{len sz:Nat}{z:Value}{vs:List (Nat×Value)}{cs:List Value}(E:P.underlying t=some (.slice e))(I: ∀w,(sizeOf e).run P w=.ok sz w)(J: ∀w,(zeroValue e).run P w=.ok z w)
  (hs:len*sz≤2^24) (L:len*sz≠0) (N:Instr.fill (fun i=>some (i*sz,sz)) ((Array.range (len*sz)).map (z.cells[· %z.cells.size]!)) vs=some cs.toArray):
  (Instr.buildSlice t len vs.toArray).run P w=.ok (.slice (some ⟨w.heap.size,0,none⟩) len len) (w.alloc (.cells cs.toArray e)):=by
 have O: ¬2^24<len*sz:=by omega
 simp only[Instr.buildSlice,Sem.run_bind,run_underlying E,Result.andThen_ok,I,O,if_false,L,J,Sem.run_pure,N,newRow,run_newObj,gt_iff_lt]
 rfl
theorem st_bslice {t e:TypeId}{len sz:Nat}{z:Value}{parts:List (Nat×Operand)}{vs:List (Nat×Value)}{cs:List Value}(I:Fr a n ds l)(J:Nat.ble (d+1) n=true)(L:P.underlying t=some (.slice e))(N: ∀w,(sizeOf e).run P w=.ok sz w)
  (O: ∀w,(zeroValue e).run P w=.ok z w) (hp:evp l parts=some vs) (hs:Nat.ble (len*sz) 16777216=true) (V:Nat.ble 1 (len*sz)=true)
  (W:Instr.fill (fun i=>some (i*sz,sz)) ((Array.range (len*sz)).map (z.cells[· %z.cells.size]!)) vs=some cs.toArray)
  (h: ∀g w' a',g=w.heap.size→w'.heap.size=g+1→Blk w' g e cs→Ch [] w w'→Fr a' n ds ((d,.slice (some ⟨g,0,none⟩) len len)::l)→WL r P ops Q rest a' w'):
  WL r P ops Q (⟨some d,.buildSlice t len parts.toArray,T,pos,af,none⟩::rest) a w:=
 valw (w':=w.alloc (.cells cs.toArray e)) (v:=.slice (some ⟨w.heap.size,0,none⟩) len len) I J (by
  have hb:=run_bslice (P:=P) (w:=w) L N O (Q0 hs) (by have:=Q0 V;omega) W
  have E:=I.evalp parts hp
  simp only[execOp,E,Sem.run_bind,hb,Result.andThen_ok,Sem.run_pure])
  fun a' hf'=>h _ _ a' rfl (by simp) (Blk.new w e cs) (Ch.alloc w _) hf'
theorem st_bslice0 {t e:TypeId}{sz:Nat}(E:Fr a n ds l)(I:Nat.ble (d+1) n=true)(J:P.underlying t=some (.slice e))(L: ∀w,(sizeOf e).run P w=.ok sz w)
  (h: ∀g w' a',g=w.heap.size→w'.heap.size=g+1→Blk w' g e []→Ch [] w w'→Fr a' n ds ((d,.slice (some ⟨g,0,none⟩) 0 0)::l)→WL r P ops Q rest a' w'):
  WL r P ops Q (⟨some d,.buildSlice t 0 #[],T,pos,af,none⟩::rest) a w:=
 valw (w':=w.alloc (.cells ([]:List Value).toArray e)) (v:=.slice (some ⟨w.heap.size,0,none⟩) 0 0) E I (by
  simp only[execOp,Instr.buildSlice,Sem.run_bind,run_underlying J,Result.andThen_ok,L,Nat.zero_mul]
  simp[Instr.fill,newRow,Array.range_zero'])
  fun a' hf'=>h _ _ a' rfl (by simp) (Blk.new w e []) (Ch.alloc w _) hf'
theorem run_storeB {t bt:TypeId}{g o m:Nat}{cs new:List Value}{v:Value}(I:Blk w g bt cs)(J: ∀w,(sizeOf t).run P w=.ok m w)(L:v.cells=new.toArray)(E:new.length=m)(O:o+m≤cs.length)(N: ∀u∈new,u.oneCell'=true):
  (Instr.storeAt t (.pointer (some ⟨g,o,none⟩)) v).run P w=.ok () (w.setRow g (cs.take o++new++cs.drop (o+m)).toArray):=by
 have:=run_storeCells_at P g o bt new 0 cs.toArray w I (by simp;omega) N
 simp only[Nat.add_zero]at this
 simp only[Instr.storeAt,Instr.sureAddr,Sem.run_bind,Sem.run_pure,Result.andThen_ok,storeVar,J,L,Yk,E,ne_eq,not_true,if_false]
 rw[this,E]
theorem Blk.setRow {g:Nat}{bt:TypeId}{cs cs':List Value}(E:Blk w g bt cs):Blk (w.setRow g cs'.toArray) g bt cs':=setRow_heap w g cs.toArray cs'.toArray bt (0,0) E
theorem st_store {t bt:TypeId}{x y:Operand}{g o m:Nat}{cs new cs':List Value}{v:Value}(E:Fr a n ds l)(I:Blk w g bt cs)(L:ev l x=some (.pointer (some ⟨g,o,none⟩)))(N:ev l y=some v)(O: ∀w,(sizeOf t).run P w=.ok m w)
  (V:v.cells=new.toArray) (W:new.length=m) (ho:Nat.ble (o+m) cs.length=true) (h1: ∀u∈new,u.oneCell'=true) (hc:cs.take o++new++cs.drop (o+m)=cs')
  (h: ∀w' a',w'.heap.size=w.heap.size→Blk w' g bt cs'→Ch [g] w w'→Fr a' n ds l→WL r P ops Q rest a' w'):
  WL r P ops Q (⟨none,.store t x y,T,pos,af,none⟩::rest) a w:=
 skipw (w':=w.setRow g cs'.toArray) E (by
  have J:=run_storeB (P:=P) I O V W (Q0 ho) h1
  rw[hc]at J
  simp only[execOp,E.eval L,E.eval N,Sem.run_bind,J,Result.andThen_ok,Sem.run_pure])
  fun a' hf'=>h _ a' (by simp[World.setRow]) I.setRow (Ch.setRow w g _) hf'
end
section
variable {r:Option Nat}{P:Program}{ops:Array Oper}{Q:Exit→Act→World→Prop}{a:Act}{w:World}{rest:List Oper}{n:Nat}{ds:List Deferred}{l:List (Nat×Value)}{d:Nat}{T:TypeId}{pos:String}{af:Array Edge}
end
section
variable {r:Option Nat}{P:Program}{ops:Array Oper}{Q:Exit→Act→World→Prop}{S:World→Prop}{a:Act}{w:World}{n:Nat}{ds:List Deferred}{l:List (Nat×Value)}{fuel:Nat}{listed:Array Bool}
def Hel (r:Option Nat)(P:Program)(ops:Array Oper)(Q:Exit→Act→World→Prop)(S:World→Prop):Nat→Array Bool→Act→World→Prop
 |0,listed,a,w=>Region.ready .any ops listed=[]∧Q .normal a w
 |f+1,listed,a,w=>(Region.ready .any ops listed=[]→Q .normal a w)∧
  ∀i∈Region.ready .any ops listed,wpOpIn (FW r) 0 P ops Q i (fun a' w'=>S w'∧Hel r P ops Q S f (listed.setIfInBounds i true) a' w') a w
theorem Hel.any: ∀(f:Nat) (listed:Array Bool) (a:Act) (w:World),Hel r P ops Q S f listed a w→wpAnyIn (FW r) 0 P .any ops Q f listed a w
 |0,_,_,_,h=>h
 |f+1,_,_,_,h=>⟨h.1,fun i hi=>wpOpIn_mono (fun a' w' h'=>Hel.any f _ a' w' h'.2) (h.2 i hi)⟩
def Qau (ops:Array Oper):Bool:=ops.toList.all fun o=>match o.op with| .defer _=>false|_=>true
theorem Qbe (h:Qau ops=true){j:Nat}{o:Oper}(E:ops[j]?=some o): ∀c,o.op≠ .defer c:=fun c I=>by
 have:=Q7.1 h o (Qh (i:=j) (by rw[X3];exact E))
 simp[I]at this
theorem Qfy {ρ:Operand→Value}{o:Oper}(h: ∀c,o.op≠ .defer c):o.semAt r ρ=execOp ρ o:=by
 cases r with
 |none=>exact Oper.semAt_none ρ o
 |some l=>exact Oper.semAt_some l ρ o h
theorem Hel.put {j:Nat}{oi oj:Oper}{v:Value}(L: ∀c,oj.op≠ .defer c)(hj:ops[j]?=some oj)(N:oi.apart ops oj=true)(O: ∀cs b,oi.op≠ .select cs b)(V: ∀cs b,oj.op≠ .select cs b)
  (W: ∀c a w,Q (.panic c) (a.put oi.dst v) w→Q (.panic c) a w) {K:Act→World→Prop} (E:YieldsIf P ops S oi v a) (h:wpOpIn (FW r) 0 P ops Q j K (a.put oi.dst v) w):
  wpOpIn (FW r) 0 P ops Q j (fun a' w'=>YieldsIf P ops S oi v a'∧K (a'.put oi.dst v) w') a w:=by
 obtain⟨h1,J,h3⟩:=Oper.apart_spec N
 have kp1: ∀(a:Act),YieldsIf P ops S oi v a→∀u,YieldsIf P ops S oi v (a.put oj.dst u):=fun a E u=>E.of_same (execOp_put oi O a oj.dst u h3) (wanted_put oi a oj.dst u h3)
 have kp2: ∀d,YieldsIf P ops S oi v {a with defers:=d::a.defers}:=fun d=>E.of_same rfl rfl
 unfold wpOpIn at*
 rw[hj]at h ⊢
 simp only[]at h ⊢
 rw[wanted_put oj a oi.dst v h1]at h
 by_cases hw:Region.wanted oj (yielded ops a.tmps)=true
 ·rw[if_pos hw]at h ⊢
  refine⟨fun _ _=>trivial,?_⟩
  have h:=h.2
  rw[Qfy L,execOp_put oj V a oi.dst v h1]at h
  rw[Qfy L]
  generalize (execOp a.eval oj).run P w=res at h ⊢
  cases res with
  |ok x w'=>
   cases x with
   |value u=>exact⟨kp1 a E u,by rw[←Act.put_comm a v u J];exact h⟩
   |skip=>exact⟨kp1 a E _,by rw[←Act.put_comm a v undef J];exact h⟩
   |defer d=>exact⟨kp1 _ (kp2 d) _,by rw[←Act.put_comm _ v undef J,←Act.put_defers];exact h⟩
   |enter f args=>
    refine⟨h.1,CallsIn.mono h.2 fun e w'' I=>?_⟩
    cases e with
    |returned u=>exact⟨kp1 a E u,by rw[←Act.put_comm a v u J];exact I⟩
    |panicked c=>exact W _ _ _ I
    |outgrown=>exact I
   |row row args=>exact⟨h.1,RowsIn.mono h.2 fun u w'' I=>⟨kp1 a E u,by rw[←Act.put_comm a v u J];exact I⟩⟩
   |round l f tmps assign body=>
    refine⟨h.1,RoundIn.mono h.2 fun e w'' I=>?_⟩
    cases e with
    |returned u=>exact⟨kp1 a E u,by rw[←Act.put_comm a v u J];exact I⟩
    |panicked c=>exact W _ _ _ I
    |outgrown=>exact I
   |_=>exact h
  |halt x w'=>cases x<;>first|exact W _ _ _ h|exact h
 ·rw[if_neg hw]at h ⊢
  exact⟨fun _ _=>trivial,kp1 a E _,by rw[←Act.put_comm a v undef J];exact h.2⟩
theorem Hel.op {i:Nat}{o:Oper}{v:Value}(E: ∀c,o.op≠ .defer c)(hi:ops[i]?=some o)(J:YieldsIf P ops S o v a){K:Act→World→Prop}(L:S w)(h:K (a.put o.dst v) w):wpOpIn (FW r) 0 P ops Q i K a w:=by
 unfold wpOpIn
 rw[hi]
 simp only[]
 rcases J with⟨I,N⟩|⟨I,rfl⟩
 ·rw[if_pos I]
  exact⟨fun _ _=>trivial,by rw[Qfy E,N w L];exact h⟩
 ·rw[if_neg (by rw[I];decide)]
  exact⟨fun _ _=>trivial,h⟩
theorem Qbu {dst:Option Tmp}{op:Op}{T:TypeId}{pos:String}{af:Array Edge}{y:Nat→Option Bool}:Region.wanted ⟨dst,op,T,pos,af,none⟩ y=true:=by simp[Region.wanted]
theorem Qcj {dst:Option Tmp}{op:Op}{T:TypeId}{pos:String}{af:Array Edge}{j dj:Nat}{b:Bool}(E:Fr a n ds l)(I:(ops[j]?).bind (·.dst)=some dj)(J:lk l dj=some (.bool b)):Region.wanted ⟨dst,op,T,pos,af,some (j,b)⟩ (yielded ops a.tmps)=true:=by
 simp[Region.wanted,yielded,I,E.get _ _ J]
theorem Qcq {dst:Option Tmp}{op:Op}{T:TypeId}{pos:String}{af:Array Edge}{j dj:Nat}{b:Bool}{u:Value}(E:Fr a n ds l)(I:(ops[j]?).bind (·.dst)=some dj)(J:lk l dj=some u)(L:u=.bool (!b)∨u=undef):
  Region.wanted ⟨dst,op,T,pos,af,some (j,b)⟩ (yielded ops a.tmps)=false:=by
 rcases L with rfl|rfl<;>simp[Region.wanted,yielded,I,E.get _ _ J,undef]
end
def Pq (Q:Exit→Act→World→Prop):Prop:=∀c a d v w,Q (.panic c) (Act.put a d v) w→Q (.panic c) a w
theorem put_defers (a:Act)(d:Option Tmp)(v:Value):(a.put d v).defers=a.defers:=by cases d<;>rfl
theorem Pq.body (P:Program)(fn:Func)(R:Ending→World→Prop):Pq (bodyPost P fn R):=fun c a d v w h=>by
 obtain⟨E,I⟩:=h
 rw[put_defers]at E
 exact⟨E,I⟩
section
variable {r:Option Nat}{P:Program}{Q:Exit→Act→World→Prop}{a:Act}{w:World}{n:Nat}{ds:List Deferred}{l:List (Nat×Value)}
theorem r_indexAddrA {d:Option Tmp}{T:TypeId}{pos:String}{af:Array Edge}{gd:Option (Nat×Bool)}{t e:TypeId}{x y:Operand}{g:Nat}{A:Option Addr}{ad:Addr}{len c:Nat}{i:Int}{kd:IntKind}{k:Nat}(E:P.underlying t=some (.slice e))(I: ∀w,(sizeOf e).run P w=.ok g w)(J:a.eval x=.slice A len c)(L:A=some ad)(N:a.eval y=.int kd i)(hi:i=(k:Int))(O:k<len):
  (execOp a.eval ⟨d,.indexAddr t x y,T,pos,af,gd⟩).run P w=.ok (.value (.pointer (some (ad.add (k*g))))) w:=by
 subst L;subst hi
 have:=r_indexAddr (P:=P) (a:=a) (w:=w) (d:=d) (T:=T) (pos:=pos) (af:=af) (gd:=gd) E I J N (by omega) (by omega)
 simpa using this
end
theorem Qao: ∀t:Ty,0<t.size
 | .pair a _=>by have:=Qao a;simp only[Ty.size];omega
 | .int _=>by simp[Ty.size]
 | .byte=>by simp[Ty.size]
 | .bool=>by simp[Ty.size]
 | .str=>by simp[Ty.size]
 | .slice _=>by simp[Ty.size]
def Ty.ok:(t:Ty)→t.den→Prop
 | .int k,x=>k.has x
 | .byte,_=>True
 | .bool,_=>True
 | .str,x=>x.size≤maxLen
 | .slice e,xs=>xs.length≤maxLen∧∀x∈xs,e.ok x
 | .pair a b,x=>a.ok x.1∧b.ok x.2
theorem rep_ok {w:World}{F:Nat→Prop}: ∀(t:Ty) {cs:List Value} {x:t.den},t.rep w F cs x→t.ok x
 | .int _,_,_,h=>h.2
 | .byte,_,_,_=>trivial
 | .bool,_,_,_=>trivial
 | .str,_,_,h=>h.2
 | .slice e,_,xs,h=>by
  obtain⟨A,c,cells,L,N,O,V,W,h6⟩:=h
  refine⟨by omega,fun x E=>?_⟩
  obtain⟨i,hi,rfl⟩:=Xy E
  exact rep_ok e (h6 i _ (Qe hi))
 | .pair a b,_,_,h=>by
  obtain⟨ca,cb,h,I,J⟩:=h
  exact⟨rep_ok a I,rep_ok b J⟩
theorem i64_has {n:Int}(h: -9223372036854775808≤n∧n≤9223372036854775807):IntKind.i64.has n:=by
 simpa[IntKind.has,IntKind.min,IntKind.max,IntKind.bits,IntKind.signed] using h
theorem Qaf {w:World}{F:Nat→Prop}: ∀(t:Ty) {cs:List Value} {x:t.den},t.rep w F cs x→t.rep w (fun b=>F b∧b<w.heap.size) cs x
 | .int _,_,_,h=>h
 | .byte,_,_,h=>h
 | .bool,_,_,h=>h
 | .str,_,_,h=>h
 | .slice e,_,xs,h=>by
  obtain⟨A,c,cells,L,N,O,E,I,h6⟩:=h
  by_cases V:cells.length=0
  ·have h7: ∀i x,xs[i]?=some x→e.size=0:=fun i x hi=>by
    have hl:=(Qc.1 hi).1
    rw[V]at E
    rcases Nat.mul_eq_zero.1 E.symm with h|h
    ·omega
    ·exact h
   refine⟨A,c,cells,L,N,O,E,?_,fun i x hi=>Qaf e (h6 i x hi)⟩
   by_cases hx:xs.length=0
   ·exact .inl hx
   ·have hp:=Qao e
    rw[V]at E
    rcases Nat.mul_eq_zero.1 E.symm with h|h<;>omega
  ·refine⟨A,c,cells,L,N,O,E,?_,fun i x hi=>Qaf e (h6 i x hi)⟩
   rcases I with I|⟨b,o,hA,J,W⟩
   ·exact .inl I
   ·exact .inr ⟨b,o,hA,⟨J,World.block_lt_of_cell? w _ (W 0 _ (Qe (by omega)))⟩,W⟩
 | .pair a b,_,_,h=>by
  obtain⟨ca,cb,h,ha,J⟩:=h
  exact⟨ca,cb,h,Qaf a ha,Qaf b J⟩
def iv (lo hi:Nat):Nat→Prop:=fun b=>lo≤b∧b<hi
@[reducible] def no:Nat→Prop:=fun _=>False
def Cells (w:World)(E:Addr)(es:List Value):Prop:=∀j u,es[j]?=some u→w.cell? (E.add j)=some u
theorem Cells.ch {w w':World}{E:Addr}{es:List Value}{S:List Nat}(h:Cells w E es)(L:Ch S w w')(N:E.block<w.heap.size→E.block∉S):Cells w' E es:=fun j u O=>by
 have J:=h j u O
 have V:(E.add j).block=E.block:=by unfold Addr.add;split<;>rfl
 have I:=World.block_lt_of_cell? w _ J
 rw[L.cell I (by rw[V]at I ⊢;exact N I)]
 exact J
section
variable {P:Program}{a:Act}{w:World}{d:Option Tmp}{T:TypeId}{pos:String}{af:Array Edge}{gd:Option (Nat×Bool)}
theorem add_add (E:Addr)(i j:Nat):(E.add i).add j=E.add (i+j):=by
 unfold Addr.add
 by_cases hi:i=0<;>by_cases I:j=0<;>simp[hi,I,Nat.add_assoc]
end
section
variable {P:Program}{a:Act}{w:World}{d:Option Tmp}{T:TypeId}{pos:String}{af:Array Edge}{gd:Option (Nat×Bool)}
theorem r_convw {src dst:TypeId}{x:Operand}{k k':IntKind}{n m:Int}{de:TypeDesc}(hs:P.underlying src=some de)(E:P.underlying dst=some (.int k'))(I:a.eval x=.int k n)(J:k'.wrap n=m):(execOp a.eval ⟨d,.convert src dst x,T,pos,af,gd⟩).run P w=.ok (.value (.int k' m)) w:=by
 rw[r_conv hs E I,J]
theorem r_quow {t ty:TypeId}{x y:Operand}{k:IntKind}{m n u:Int}(E:a.eval x=.int k m)(I:a.eval y=.int k n)(J:n≠0)(L:k.wrap (m.tdiv n)=u):(execOp a.eval ⟨d,.binOp .quo t x y ty,T,pos,af,gd⟩).run P w=.ok (.value (.int k u)) w:=by rw[r_quo E I J,L]
end
theorem slice_n {A:Option Addr}{n m c:Nat}(h:n=m):Value.slice A n c=Value.slice A m c:=by rw[h]
def nt (M:List Nat):Nat→Prop:=fun b=>b∉M
def ol (M:List Nat)(n:Nat):Nat→Prop:=fun b=>b∉M∧b<n
theorem rep_to {t:Ty}{w w':World}{F F':Nat→Prop}{S:List Nat}{cs:List Value}{x:t.den}(h:t.rep w F cs x)(N:Ch S w w')(I: ∀b,F b→b<w.heap.size→b∉S∧F' b:=by intro b E O;(try simp only[Go.Z.nt,Go.Z.iv,Go.Z.no,Go.Z.ol,Qg,Yr,or_false,not_or,not_false_eq_true]at E);(try simp only[Go.Z.nt,Go.Z.iv,Go.Z.no,Go.Z.ol,Qg,Qu,Yr,or_false,not_or,not_false_eq_true,true_and,and_true])<;>omega):t.rep w' F' cs x:=by
 have E:t.rep w (fun b=>F b∧b<w.heap.size) cs x:=Qaf t h
 exact rep_keep (fun p hp J=>N.cell J (I _ hp.1 J).1) (fun b L=>(I b L.1 L.2).2) t E
theorem Qev {t:Ty}{w:World}{F F':Nat→Prop}{cs:List Value}{x:t.den}(h:t.rep w F cs x)(E: ∀b,F b→b<w.heap.size→F' b):t.rep w F' cs x:=
 rep_to h (Ch.refl w) fun b I J=>⟨by simp,E b I J⟩
theorem Own.to {t:Ty}{e:TypeId}{B:Nat}{w w':World}{F F':Nat→Prop}{A:Option Addr}{c:Nat}{xs:List t.den}{S:List Nat}(h:Own t e B w F A c xs)(J:Ch S w w')(V: ∀k,k∈obl A→B≤k→k<w.heap.size→k∉S)(W: ∀b,F b→b<w.heap.size→b∉S∧F' b):Own t e B w' F' A c xs:=by
 have E:=h.lt
 obtain⟨cells,L,h1,h2⟩:=h
 refine⟨cells,⟨L.1,?_⟩,h1,fun i x hi=>rep_to (h2 i x hi) J W⟩
 rcases L.2 with h3|⟨g,cap,cur,N,hb,O,rest⟩
 ·exact .inl h3
 ·refine .inr ⟨g,cap,cur,N,hb,?_,rest⟩
  injection N with hA' _ _
  have I:g∈obl A:=by rw[hA'];simp[obl]
  rw[J.block g (Qn.1 O).1 (V g I (E g I).1 (E g I).2)]
  exact O
section
variable {r:Option Nat}{P:Program}{ops:Array Oper}{Q:Exit→Act→World→Prop}{a:Act}{w:World}{rest:List Oper}{n:Nat}{ds:List Deferred}{l:List (Nat×Value)}{d:Nat}{T:TypeId}{pos:String}{af:Array Edge}
end
end Go.Z
end
section
namespace Go.Z
open Go.RowKit Go.Lib
section
variable {P:Program}{a:Act}{w:World}{d:Option Tmp}{T:TypeId}{pos:String}{af:Array Edge}{gd:Option (Nat×Bool)}
end
section
variable {r:Option Nat}{P:Program}{ops:Array Oper}{Q:Exit→Act→World→Prop}{a:Act}{w:World}{rest:List Oper}{n:Nat}{ds:List Deferred}{l:List (Nat×Value)}{d:Nat}{T:TypeId}{pos:String}{af:Array Edge}
end
end Go.Z
end
section
namespace Go.Z
open Go.RowKit
section
variable {r:Option Nat}{P:Program}{Q:Exit→Act→World→Prop}{a:Act}{w:World}{n:Nat}{ds:List Deferred}{l:List (Nat×Value)}
def Rec (u:FrameMode)(v:Value)(u':FrameMode):Prop:=
 (u=.returning∧v=.nilIface∧u'=.returning)∨(∃older,u=.panicking ({v,recovered:=false,goexit:=false}::older)∧u'=.panicking ({v,recovered:=true}::older))
section
variable {d:Option Tmp}{T:TypeId}{pos:String}{af:Array Edge}{gd:Option (Nat×Bool)}{t ty e0:TypeId}{x:Operand}{v:Value}
end
end
def EqV (P:Program)(d:Nat)(t:TypeId)(x y:Value)(b:Bool):Prop:=∀w,(Op.equalIn d t x y).run P w=.ok b w
def EqF (P:Program)(d:Nat)(xs ys:Array Value)(fs:List Field)(b:Bool):Prop:=∀w,(Op.eqFields d xs ys fs).run P w=.ok b w
section
variable {P:Program}{d:Nat}{t e:TypeId}
theorem eq_int {k k':IntKind}{a b:Int}(h:P.underlying t=some (.int k')):EqV P (d+1) t (.int k a) (.int k b) (decide (a=b)):=fun w=>by
 rw[run_equalIn_int w d t k k' a b h];rfl
theorem eq_str {a b:ByteArray}(h:P.underlying t=some .string):EqV P (d+1) t (.string a) (.string b) (decide (a=b)):=fun w=>by
 rw[run_equalIn_string w d t a b h,str_eq]
theorem part_one {xs:Array Value}{o:Nat}{v:Value}(w:World)(E: ∀w,(isAgg t).run P w=.ok false w)(h:xs[o]?=some v):(part t xs o).run P w=.ok v w:=by simp[part,E,h]
theorem part_agg {xs zs:Array Value}{o n:Nat}(w:World)(E: ∀w,(isAgg t).run P w=.ok true w)(I: ∀w,(sizeOf t).run P w=.ok n w)(h:xs.extract o (o+n)=zs):(part t xs o).run P w=.ok (.agg zs) w:=by simp[part,E,I,h]
theorem eqf_nil {xs ys:Array Value}:EqF P d xs ys [] true:=fun w=>by simp[Op.eqFields]
theorem eqf_cons {xs ys:Array Value}{f:Field}{fs:List Field}{a b:Value}{r r':Bool}(E:(f.name != "_")=true)(I: ∀w,(part f.type xs f.offset).run P w=.ok a w)(J: ∀w,(part f.type ys f.offset).run P w=.ok b w)
  (L:EqV P d f.type a b r) (h:EqF P d xs ys fs r'):EqF P d xs ys (f::fs) (r&&r'):=fun w=>by
 have hn':f.name≠ "_" :=by simpa using E
 have N:=L w;have O:=h w
 cases r<;>simp[Op.eqFields,hn',I,J,N,O]
theorem eq_struct {xs ys:Array Value}{fs:List Field}{r:Bool}(E:P.underlying t=some (.struct fs.toArray))(hs:P.stoodInHeld t=false)(h:EqF P d xs ys fs r):EqV P (d+1) t (.agg xs) (.agg ys) r:=fun w=>by
 have I:P.fieldsOf t=fs.toArray:=by simp[Program.fieldsOf,E]
 rw[run_equalIn_struct w d t xs ys (by rw[I];exact E) hs,I];exact h w
theorem decide_pair {α β:Type}[DecidableEq α][DecidableEq β](x y:α×β):decide (x=y)=(decide (x.1=y.1)&&decide (x.2=y.2)):=by
 rw[←Bool.decide_and];exact decide_eq_decide.2 Prod.ext_iff
section
variable {a:Act}{w:World}{dd:Option Tmp}{T ty:TypeId}{pos:String}{af:Array Edge}{gd:Option (Nat×Bool)}{x y:Operand}
theorem r_eqagg {xs ys:Array Value}{b:Bool}(h:EqV P 10000 t (.agg xs) (.agg ys) b)(I:P.eqGuardType P.depth t=false)(J:a.eval x=.agg xs)(L:a.eval y=.agg ys):
  (execOp a.eval ⟨dd,.binOp .eql t x y ty,T,pos,af,gd⟩).run P w=.ok (.value (.bool b)) w:=by
 have N:=h w
 have O:=run_eqGuard_agg w .eql t x y xs ys I
 have E:=run_eql_struct (P:=P) w t xs ys
 rw[N]at E
 simp[execOp,J,L,O,E]
theorem r_neagg {xs ys:Array Value}{p:Prop}[Decidable p](h:EqV P 10000 t (.agg xs) (.agg ys) (decide p))(I:P.eqGuardType P.depth t=false)(J:a.eval x=.agg xs)(L:a.eval y=.agg ys):
  (execOp a.eval ⟨dd,.binOp .neq t x y ty,T,pos,af,gd⟩).run P w=.ok (.value (.bool (decide (¬p)))) w:=by
 have N:=h w
 have O:=run_eqGuard_agg w .neq t x y xs ys I
 have E:=run_neq_struct (P:=P) w t xs ys
 rw[N]at E
 simp[execOp,J,L,O,E]
theorem r_nes' {s u:ByteArray}(E:a.eval x=.string s)(I:a.eval y=.string u):(execOp a.eval ⟨dd,.binOp .neq t x y ty,T,pos,af,gd⟩).run P w=.ok (.value (.bool (decide (s≠u)))) w:=by
 rw[r_nes E I];simp
theorem r_neb' {b c:Bool}(E:P.underlying t=some .bool)(I:a.eval x=.bool b)(J:a.eval y=.bool c):(execOp a.eval ⟨dd,.binOp .neq t x y ty,T,pos,af,gd⟩).run P w=.ok (.value (.bool (decide (b≠c)))) w:=by
 rw[r_neb E I J];cases b<;>cases c<;>rfl
end
end
section
variable {P:Program}{a:Act}{w:World}{d:Option Tmp}{T:TypeId}{pos:String}{af:Array Edge}{gd:Option (Nat×Bool)}{t ty:TypeId}{x y:Operand}
theorem Qjh {e:TypeId}{ad:Addr}(E:P.underlying t=some (.pointer e))(I:a.eval x=.pointer (some ad))(J:a.eval y=.pointer none):
  (execOp a.eval ⟨d,.binOp .neq t x y ty,T,pos,af,gd⟩).run P w=.ok (.value (.bool true)) w:=by
 have h: ∀m,(Op.equalIn (m+1) t (.pointer (some ad)) (.pointer none)).run P w=.ok false w:=fun m=>by simp[Op.equalIn,run_underlying E]
 have L:(Op.equal t (.pointer (some ad)) (.pointer none)).run P w=.ok false w:=h 9999
 simp[execOp,I,J,eqGuard_at_pointer,binOp,L]
end
section
variable {r:Option Nat}{P:Program}{ops:Array Oper}{Q:Exit→Act→World→Prop}{a:Act}{w:World}{rest:List Oper}{n:Nat}{ds:List Deferred}{l:List (Nat×Value)}{d:Nat}{T:TypeId}{pos:String}{af:Array Edge}
end
section
variable {r:Option Nat}{P:Program}{ops:Array Oper}{Q:Exit→Act→World→Prop}{a:Act}{w:World}{rest:List Oper}{n:Nat}{ds:List Deferred}{l:List (Nat×Value)}{d:Nat}{T:TypeId}{pos:String}{af:Array Edge}
end
@[reducible] def R64 (x:Int):Prop:= -9223372036854775808≤x∧x≤9223372036854775807
inductive Hint where
 |n
 |b (i o:Nat)
 |e (i o:Nat)
 |pk
 |off
 |on (h:Hint)
 |sy (h:Hint)
structure Kn where
 bs:List (Nat×TypeId×List Value)
 es:List (Addr×List Value)
def Kn.ok (K:Kn)(w:World):Prop:=(∀b,b∈K.bs→Blk w b.1 b.2.1 b.2.2)∧(∀e,e∈K.es→Cells w e.1 e.2)
theorem k0 {w:World}:Kn.ok ⟨[],[]⟩ w:=⟨fun b h=>(by cases h),fun b h=>(by cases h)⟩
theorem ke {w:World}{E:Addr}{cs:List Value}{bs:List (Nat×TypeId×List Value)}{es:List (Addr×List Value)}(h:Cells w E cs)(J:Kn.ok ⟨bs,es⟩ w):Kn.ok ⟨bs,(E,cs)::es⟩ w:=
 ⟨J.1,fun b I=>by rcases Qg.1 I with rfl|I;exact h;exact J.2 b I⟩
def aggB (P:Program)(t:TypeId):Option Bool:=match P.underlying t with
 |some (.struct _)=>some true
 |some (.array _ _)=>some true
 |some _=>some false
 |none=>none
def szB (P:Program)(t:TypeId):Option Nat:=(P.info? t).map (·.size)
section
variable {P:Program}{t:TypeId}
theorem Qdi {b:Bool}(h:aggB P t=some b)(w:World):(isAgg t).run P w=.ok b w:=by
 unfold aggB at h
 cases E:P.underlying t with
 |none=>rw[E]at h;cases h
 |some d=>
  rw[E]at h
  unfold isAgg
  rw[Sem.run_bind,run_underlying E,Result.andThen_ok]
  cases d<;>simp at h<;>subst h<;>rfl
theorem Qal {n:Nat}(h:szB P t=some n)(w:World):(sizeOf t).run P w=.ok n w:=by
 unfold szB at h
 cases hi:P.info? t with
 |none=>rw[hi]at h;cases h
 |some i=>rw[hi]at h;simp at h;subst h;simp[sizeOf,typeInfo,hi]
theorem zero_run {i:TypeInfo}{z:Value}(hi:P.info? t=some i)(E:i.zero=some z)(w:World):(zeroValue t).run P w=.ok z w:=by
 simp[zeroValue,typeInfo,hi,E]
end
abbrev QO:=Option (List Prop×List (Value×Value)×Value)
def qok (v:Value):QO:=some ([],[],v)
def qar (k:IntKind)(x:Int):QO:=match k with
 | .i64=>some ([R64 x],[],.int .i64 x)
 |k=>qok (.int k (k.wrap x))
def qint (op:BinOp)(k:IntKind)(m n:Int):QO:=match op with
 | .add=>qar k (m+n)
 | .sub=>qar k (m-n)
 | .mul=>qar k (m*n)
 | .lss=>qok (.bool (decide (m<n)))
 | .leq=>qok (.bool (decide (m≤n)))
 | .gtr=>qok (.bool (decide (n<m)))
 | .geq=>qok (.bool (decide (n≤m)))
 | .eql=>qok (.bool (decide (m=n)))
 | .neq=>qok (.bool (decide (m≠n)))
 | .quo=>match k with
  | .i64=>some ([n≠0,R64 (m.tdiv n)],[],.int .i64 (m.tdiv n))
  |_=>none
 | .rem=>some ([n≠0],[],.int k (m.tmod n))
 | .shr=>match k with
  | .u64=>some ([0≤n∧n≤64],[],.int .u64 (m / 2^n.toNat))
  |_=>none
 |_=>none
def qbin (P:Program)(op:BinOp)(t:TypeId):Option Value→Option Value→QO
 |some (.int k m),some (.int k' n)=>if k'=k then qint op k m n else none
 |some (.bool b),some (.bool c)=>match P.underlying t with
  |some .bool=>match op with
   | .eql=>qok (.bool (b==c))
   | .neq=>qok (.bool (decide (b≠c)))
   |_=>none
  |_=>none
 |some (.string s),some (.string u)=>match op with
  | .eql=>qok (.bool (decide (s=u)))
  | .neq=>qok (.bool (decide (s≠u)))
  | .lss=>qok (.bool (Op.bytesLess s.toList u.toList))
  | .gtr=>qok (.bool (!(Op.bytesLess s.toList u.toList||s.toList==u.toList)))
  | .add=>some ([s.size+u.size≤9223372036854775807],[],.string (s++u))
  |_=>none
 |some (.slice A _ _),some (.slice none 0 0)=>match P.underlying t with
  |some (.slice _)=>match op with
   | .eql=>qok (.bool A.isNone)
   |_=>none
  |_=>none
 |some (.pointer (some _)),some (.pointer none)=>match P.underlying t with
  |some (.pointer _)=>match op with
   | .neq=>qok (.bool true)
   |_=>none
  |_=>none
 |_,_=>none
def qconv (P:Program)(s d:TypeId):Option Value→QO
 |some (.int _ n)=>match P.underlying s,P.underlying d with
  |some _,some (.int .i64)=>some ([R64 n],[],.int .i64 n)
  |some _,some (.int k)=>qok (.int k (k.wrap n))
  |_,_=>none
 |_=>none
def qfa (P:Program)(t:TypeId)(i:Nat):Option Value→QO
 |some (.pointer (some a))=>match P.underlying t with
  |some (.struct fs)=>match fs[i]? with
   |some f=>match szB P f.type with
    |some (_+1)=>qok (.pointer (some (a.add f.offset)))
    |_=>none
   |none=>none
  |_=>none
 |_=>none
def qfl (P:Program)(t:TypeId)(i:Nat):Option Value→QO
 |some (.agg cs)=>match P.underlying t with
  |some (.struct fs)=>match fs[i]? with
   |some f=>match aggB P f.type with
    |some false=>match cs[f.offset]? with
     |some v=>qok v
     |none=>none
    |some true=>match szB P f.type with
     |some n=>qok (.agg (cs.extract f.offset (f.offset+n)))
     |none=>none
    |none=>none
   |none=>none
  |_=>none
 |_=>none
def qcut (P:Program)(t:TypeId)(cs:List Value)(o:Nat):Option Value:=match aggB P t with
 |some false=>cs[o]?
 |some true=>match szB P t with
  |some n=>if((cs.drop o).take n).length=n then some (.agg ((cs.drop o).take n).toArray)else none
  |none=>none
 |none=>none
def qld (P:Program)(K:Kn)(h:Hint)(t:TypeId):Option Value→QO
 |some (.pointer (some a))=>match h with
  | .b i o=>match K.bs[i]? with
   |some (g,_,cs)=>match qcut P t cs o with
    |some v=>some ([],[(.pointer (some a),.pointer (some ⟨g,o,none⟩))],v)
    |none=>none
   |none=>none
  | .e i o=>match K.es[i]? with
   |some (E,cs)=>match qcut P t cs o with
    |some v=>some ([],[(.pointer (some a),.pointer (some (E.add o)))],v)
    |none=>none
   |none=>none
  |_=>none
 |_=>none
def qbi (P:Program)(b:Builtin):List (Option Value)→List TypeId→QO
 | [some (.slice _ n _)],[t]=>match b,P.underlying t with
  | .len,some (.slice _)=>qok (.int .i64 (n:Int))
  |_,_=>none
 | [some (.string s)],[t]=>match b,P.underlying t with
  | .len,some .string=>qok (.int .i64 (s.size:Int))
  |_,_=>none
 | [some (.int k p),some (.int _ q)],_=>match b with
  | .min=>qok (.int k (min p q))
  | .max=>qok (.int k (max p q))
  |_=>none
 |_,_=>none
def qes (e:Operand→Option Value):List Operand→Option (List Value)
 | []=>some []
 |x::r=>match e x,qes e r with
  |some v,some vs=>some (v::vs)
  |_,_=>none
def qps (e:Operand→Option Value):List (Nat×Operand)→Option (List (Nat×Value))
 | []=>some []
 |(i,x)::r=>match e x,qps e r with
  |some v,some vs=>some ((i,v)::vs)
  |_,_=>none
def qpl (P:Program):List Field→Option (List (Nat×Nat))
 | []=>some []
 |f::r=>match szB P f.type,qpl P r with
  |some n,some l=>some ((f.offset,n)::l)
  |_,_=>none
def qbd (P:Program)(t:TypeId)(vs:Option (List (Nat×Value))):QO:=match vs,P.info? t,P.underlying t with
 |some vs,some i,some (.struct fs)=>match i.zero,qpl P fs.toList with
  |some z,some pl=>match Instr.fill (pl.toArray[·]?) z.cells vs with
   |some cs=>qok (.agg cs)
   |none=>none
  |_,_=>none
 |_,_,_=>none
def qv (P:Program)(K:Kn)(h:Hint)(e:Operand→Option Value):Op→QO
 | .move x=>(e x).map fun v=>([],[],v)
 | .assign x=>(e x).map fun v=>([],[],v)
 | .pick c x y=>match e c with
  |some (.bool true)=>(e x).map fun v=>([],[],v)
  |some (.bool false)=>(e y).map fun v=>([],[],v)
  |_=>none
 | .unOp .not _ x=>match e x with
  |some (.bool b)=>qok (.bool (!b))
  |_=>none
 | .extract x i=>match e x with
  |some (.tuple vs)=>(vs[i]?).map fun v=>([],[],v)
  |_=>none
 | .nilCheck x=>match e x with
  |some (.pointer (some a))=>qok (.pointer (some a))
  |_=>none
 | .makeFunc fn xs ys=>match qes e xs.toList,qes e ys.toList with
  |some vs,some us=>qok (.func fn vs.toArray us.toArray)
  |_,_=>none
 | .binOp op t x y _=>qbin P op t (e x) (e y)
 | .convert s d x=>qconv P s d (e x)
 | .fieldAddr t x i=>qfa P t i (e x)
 | .field t x i=>qfl P t i (e x)
 | .load t x=>qld P K h t (e x)
 | .call {callee:=.builtin b,args:=xs,argTypes:=ts}=>qbi P b (xs.toList.map e) ts.toList
 | .build t ps=>qbd P t (qps e ps.toList)
 |_=>none
section
variable {P:Program}{K:Kn}{a:Act}{w:World}{d:Option Tmp}{T:TypeId}{pos:String}{af:Array Edge}{gd:Option (Nat×Bool)}{e:Operand→Option Value}
theorem qes_eval (J: ∀x v,e x=some v→a.eval x=v): ∀(xs:List Operand) {vs:List Value},qes e xs=some vs→xs.toArray.map a.eval=vs.toArray:=by
 intro xs
 induction xs with
 |nil=>intro vs h;simp only[qes,Qw]at h;subst h;simp
 |cons x r L=>
  intro vs h
  unfold qes at h
  cases E:e x with
  |none=>simp[E]at h
  |some v=>cases I:qes e r with
   |none=>simp[E,I]at h
   |some us=>
    simp only[E,I,Qw]at h
    subst h
    have:=L I
    simp only[Xt,Qv,J x v E]at this ⊢
    rw[Array.mk.injEq]at this
    rw[this]
theorem qps_eval (J: ∀x v,e x=some v→a.eval x=v): ∀(xs:List (Nat×Operand)) {vs:List (Nat×Value)},qps e xs=some vs→xs.toArray.map (fun(i,x)=>(i,a.eval x))=vs.toArray:=by
 intro xs
 induction xs with
 |nil=>intro vs h;simp only[qps,Qw]at h;subst h;simp
 |cons x r L=>
  obtain⟨i,x⟩:=x
  intro vs h
  unfold qps at h
  cases E:e x with
  |none=>simp[E]at h
  |some v=>cases I:qps e r with
   |none=>simp[E,I]at h
   |some us=>
    simp only[E,I,Qw]at h
    subst h
    have:=L I
    simp only[Xt,Qv,J x v E]at this ⊢
    rw[Array.mk.injEq]at this
    rw[this]
theorem qpl_run: ∀(fs:List Field) {pl:List (Nat×Nat)},qpl P fs=some pl→∀w,(fs.mapM fun f=>do pure (f.offset,←sizeOf f.type):Sem (List (Nat×Nat))).run P w=.ok pl w:=by
 intro fs
 induction fs with
 |nil=>intro pl h w;simp only[qpl,Qw]at h;subst h;rfl
 |cons f r I=>
  intro pl h w
  unfold qpl at h
  cases hs:szB P f.type with
  |none=>simp[hs]at h
  |some n=>cases E:qpl P r with
   |none=>simp[hs,E]at h
   |some l=>
    simp only[hs,E,Qw]at h
    subst h
    rw[List.mapM_cons]
    simp only[Sem.run_bind,Qal hs,Result.andThen_ok,Sem.run_pure,I E]
theorem qpl_arr {fs:Array Field}{pl:List (Nat×Nat)}(h:qpl P fs.toList=some pl)(w:World):(fs.mapM fun f=>do pure (f.offset,←sizeOf f.type):Sem (Array (Nat×Nat))).run P w=.ok pl.toArray w:=by
 have E:=qpl_run fs.toList h w
 rw[Array.mapM_eq_mapM_toList,map_eq_pure_bind,Sem.run_bind,E]
 rfl
theorem o_bf {k:IntKind}{x:Int}{c:List Prop}{q:List (Value×Value)}{v:Value}(h:qar k x=some (c,q,v))(I: ∀p,p∈c→p):v=.int k (k.wrap x):=by
 unfold qar at h
 split at h
 ·injection h with h;injection h with E h;injection h with J h;subst h;subst E
  rw[IntWalk.i64_in _ (I _ (Qi.2 rfl))]
 ·unfold qok at h;injection h with h;injection h with E h;injection h with J h;exact h.symm
theorem o_a {u v:Value}{c:List Prop}{q:List (Value×Value)}(h:qok u=some (c,q,v)):v=u:=by
 unfold qok at h;injection h with h;injection h with E h;injection h with I h;exact h.symm
theorem Qhi {t:TypeId}{x:Operand}{cs:List Value}{o:Nat}{v:Value}{A:Addr}(h:qcut P t cs o=some v)(J:a.eval x=.pointer (some A))(hcell: ∀j u,cs[o+j]?=some u→w.cell? (A.add j)=some u):
  (execOp a.eval ⟨d,.load t x,T,pos,af,gd⟩).run P w=.ok (.value v) w:=by
 unfold qcut at h
 split at h
 ·rename_i E
  refine r_load1 (fun w=>Qdi E w) J ?_
  have:=hcell 0 v (by simpa using h)
  rwa[Addr.add_zero']at this
 ·rename_i E
  split at h
  ·rename_i n O
   split at h
   ·rename_i L
    injection h with h;subst h
    refine r_loadN (fun w=>Qdi E w) (fun w=>Qal O w) J L fun j u N=>hcell j u ?_
    have I:j<n:=by have:=(Qc.1 N).1;rw[L]at this;exact this
    rwa[Wf I,Xh]at N
   ·cases h
  ·cases h
 ·cases h
theorem o_bM {op:BinOp}{t ty:TypeId}{k:IntKind}{m n:Int}{x y:Operand}{c:List Prop}{q:List (Value×Value)}{v:Value}(h:qint op k m n=some (c,q,v))(J: ∀p,p∈c→p)(E:a.eval x=.int k m)(I:a.eval y=.int k n):
  (execOp a.eval ⟨d,.binOp op t x y ty,T,pos,af,gd⟩).run P w=.ok (.value v) w:=by
 unfold qint at h
 split at h
 ·rw[o_bf h J];exact r_add E I
 ·rw[o_bf h J];exact r_sub E I
 ·rw[o_bf h J];exact r_mul E I
 ·rw[o_a h];exact r_lss E I
 ·rw[o_a h];exact r_leq E I
 ·rw[o_a h];exact r_gtr E I
 ·rw[o_a h];exact r_geq E I
 ·rw[o_a h];exact r_eql E I
 ·rw[o_a h];exact r_neq E I
 ·split at h
  ·injection h with h;injection h with L h;injection h with N h;subst h;subst L
   exact r_quow E I (J _ (by simp)) (IntWalk.i64_in _ (J _ (by simp)))
  ·cases h
 ·injection h with h;injection h with L h;injection h with N h;subst h;subst L
  exact r_rem E I (J _ (by simp))
 ·split at h
  ·injection h with h;injection h with L h;injection h with N h;subst h;subst L
   have O:=J (0≤n∧n≤64) (by simp);exact r_shr E I O.1 O.2
  ·cases h
 ·cases h
theorem r_lss_str {t ty:TypeId}{x y:Operand}{s u:ByteArray}(E:a.eval x=.string s)(I:a.eval y=.string u):(execOp a.eval ⟨d,.binOp .lss t x y ty,T,pos,af,gd⟩).run P w=.ok (.value (.bool (Op.bytesLess s.toList u.toList))) w:=by
 simp[execOp,E,I,binOp_string_lss,eqGuard_lss]
theorem r_gtr_str {t ty:TypeId}{x y:Operand}{s u:ByteArray}(E:a.eval x=.string s)(I:a.eval y=.string u):(execOp a.eval ⟨d,.binOp .gtr t x y ty,T,pos,af,gd⟩).run P w=.ok (.value (.bool (!(Op.bytesLess s.toList u.toList||s.toList==u.toList)))) w:=by
 simp[execOp,E,I,binOp,Op.stringOp,eqGuard_gtr]
theorem r_cat {t ty:TypeId}{x y:Operand}{s u:ByteArray}(E:a.eval x=.string s)(I:a.eval y=.string u)(h:s.size+u.size≤9223372036854775807):(execOp a.eval ⟨d,.binOp .add t x y ty,T,pos,af,gd⟩).run P w=.ok (.value (.string (s++u))) w:=by
 simp[execOp,E,I,binOp_string_add,run_string_add_sum w s u h,eqGuard_add]
theorem o_bN {op:BinOp}{t ty:TypeId}{x y:Operand}{c:List Prop}{q:List (Value×Value)}{v:Value}(E: ∀x v,e x=some v→a.eval x=v)(h:qbin P op t (e x) (e y)=some (c,q,v))(N: ∀p,p∈c→p):
  (execOp a.eval ⟨d,.binOp op t x y ty,T,pos,af,gd⟩).run P w=.ok (.value v) w:=by
 unfold qbin at h
 split at h
 ·rename_i k m k' n I J
  split at h
  ·rename_i hk;subst hk;exact o_bM h N (E _ _ I) (E _ _ J)
  ·cases h
 ·rename_i b c' I J
  split at h
  ·rename_i L
   split at h
   ·rw[o_a h];exact r_eqb L (E _ _ I) (E _ _ J)
   ·rw[o_a h];exact r_neb' L (E _ _ I) (E _ _ J)
   ·cases h
  ·cases h
 ·rename_i s u I J
  split at h
  ·rw[o_a h];exact r_eqs (E _ _ I) (E _ _ J)
  ·rw[o_a h];exact r_nes' (E _ _ I) (E _ _ J)
  ·rw[o_a h];exact r_lss_str (E _ _ I) (E _ _ J)
  ·rw[o_a h];exact r_gtr_str (E _ _ I) (E _ _ J)
  ·injection h with h;injection h with O h;injection h with V h;subst h;subst O
   exact r_cat (E _ _ I) (E _ _ J) (N _ (by simp))
  ·cases h
 ·rename_i A n c' I J
  split at h
  ·rename_i L
   split at h
   ·rw[o_a h];exact r_eqnil L (E _ _ I) (E _ _ J)
   ·cases h
  ·cases h
 ·rename_i A I J
  split at h
  ·rename_i L
   split at h
   ·rw[o_a h];exact Qjh L (E _ _ I) (E _ _ J)
   ·cases h
  ·cases h
 ·cases h
theorem o_bJ {hn:Hint}{op:Op}{c:List Prop}{q:List (Value×Value)}{v:Value}(J: ∀x v,e x=some v→a.eval x=v)(hK:K.ok w)(h:qv P K hn e op=some (c,q,v))(hc: ∀p,p∈c→p)(hq: ∀p,p∈q→p.1=p.2):
  (execOp a.eval ⟨d,op,T,pos,af,gd⟩).run P w=.ok (.value v) w:=by
 unfold qv at h
 split at h
 ·rename_i x
  cases I:e x with
  |none=>simp[I]at h
  |some u=>simp[I]at h;obtain⟨_,_,rfl⟩:=h;exact r_move (J _ _ I)
 ·rename_i x
  cases I:e x with
  |none=>simp[I]at h
  |some u=>simp[I]at h;obtain⟨_,_,rfl⟩:=h;exact r_assign (J _ _ I)
 ·rename_i c' x y
  split at h
  ·rename_i V
   cases I:e x with
   |none=>simp[I]at h
   |some u=>simp[I]at h;obtain⟨_,_,rfl⟩:=h;exact r_pick_t (J _ _ V) (J _ _ I)
  ·rename_i V
   cases I:e y with
   |none=>simp[I]at h
   |some u=>simp[I]at h;obtain⟨_,_,rfl⟩:=h;exact r_pick_f (J _ _ V) (J _ _ I)
  ·cases h
 ·split at h
  ·rename_i I;rw[o_a h];exact r_not (J _ _ I)
  ·cases h
 ·rename_i x i
  split at h
  ·rename_i vs I
   cases hi:vs[i]? with
   |none=>simp[hi]at h
   |some u=>simp[hi]at h;obtain⟨_,_,rfl⟩:=h;exact r_extract (J _ _ I) hi
  ·cases h
 ·split at h
  ·rename_i I;rw[o_a h];exact r_nilCheck (J _ _ I)
  ·cases h
 ·rename_i fn xs ys
  split at h
  ·rename_i vs us I hy
   rw[o_a h]
   have L:=qes_eval J _ I
   have N:=qes_eval J _ hy
   simp only[Wp]at L N
   exact r_makeFunc L N
  ·cases h
 ·exact o_bN J h hc
 ·rename_i s d' x
  unfold qconv at h
  split at h
  ·rename_i k n I
   split at h
   ·rename_i hs hd
    injection h with h;injection h with L h;injection h with N h;subst h;subst L
    exact r_convw hs hd (J _ _ I) (IntWalk.i64_in _ (hc _ (Qi.2 rfl)))
   ·rename_i hs hd
    rw[o_a h];exact r_conv hs hd (J _ _ I)
   ·cases h
  ·cases h
 ·unfold qfa at h
  split at h
  ·rename_i A I
   split at h
   ·rename_i fs O
    split at h
    ·rename_i f hf
     split at h
     ·rename_i m hs
      rw[o_a h];exact Qhc O hf (fun w=>Qal hs w) (J _ _ I)
     ·cases h
    ·cases h
   ·cases h
  ·cases h
 ·unfold qfl at h
  split at h
  ·rename_i cs I
   split at h
   ·rename_i fs O
    split at h
    ·rename_i f hf
     split at h
     ·rename_i W
      split at h
      ·rename_i u hv
       rw[o_a h]
       have:=J _ _ I
       simp[execOp,Instr.field,run_underlying O,hf,this,asAgg,part,Qdi W,hv]
      ·cases h
     ·rename_i W
      split at h
      ·rename_i n hs
       rw[o_a h]
       have:=J _ _ I
       simp[execOp,Instr.field,run_underlying O,hf,this,asAgg,part,Qdi W,Qal hs]
      ·cases h
     ·cases h
    ·cases h
   ·cases h
  ·cases h
 ·unfold qld at h
  split at h
  ·rename_i A I
   split at h
   ·split at h
    ·rename_i i o _ g bt cs hb
     split at h
     ·rename_i u hcut
      injection h with h;injection h with L h;injection h with N h;subst h;subst N
      have W:Value.pointer (some A)=.pointer (some ⟨g,o,none⟩):=hq _ (Qi.2 rfl)
      have hB:Blk w g bt cs:=hK.1 _ (Qh hb)
      refine Qhi hcut ((J _ _ I).trans W) fun j u hj=>?_
      rw[Addr.add_lit,hB.cell];exact hj
     ·cases h
    ·cases h
   ·split at h
    ·rename_i i o _ E cs hb
     split at h
     ·rename_i u hcut
      injection h with h;injection h with L h;injection h with N h;subst h;subst N
      have W:Value.pointer (some A)=.pointer (some (E.add o)):=hq _ (Qi.2 rfl)
      have hB:Cells w E cs:=hK.2 _ (Qh hb)
      refine Qhi hcut ((J _ _ I).trans W) fun j u hj=>?_
      rw[add_add];exact hB _ _ hj
     ·cases h
    ·cases h
   ·cases h
  ·cases h
 ·rename_i b xs ts
  unfold qbi at h
  split at h
  ·rename_i A n c' t L N
   split at h
   ·rename_i O
    rw[o_a h]
    obtain⟨x,rfl,I⟩: ∃x,xs=#[x]∧e x=some (.slice A n c'):=by
     obtain⟨l⟩:=xs
     rcases l with _|⟨x,_|⟨y,l⟩⟩
     ·simp at L
     ·exact⟨x,rfl,by simpa using L⟩
     ·simp at L
    obtain rfl:ts=#[t]:=by obtain⟨l⟩:=ts;simp at N;rw[N]
    exact r_len O (J _ _ I)
   ·cases h
  ·rename_i s t L N
   split at h
   ·rename_i O
    rw[o_a h]
    obtain⟨x,rfl,I⟩: ∃x,xs=#[x]∧e x=some (.string s):=by
     obtain⟨l⟩:=xs
     rcases l with _|⟨x,_|⟨y,l⟩⟩
     ·simp at L
     ·exact⟨x,rfl,by simpa using L⟩
     ·simp at L
    obtain rfl:ts=#[t]:=by obtain⟨l⟩:=ts;simp at N;rw[N]
    exact r_lens O (J _ _ I)
   ·cases h
  ·rename_i k p k' q' L
   obtain⟨x,y,rfl,I,hy⟩: ∃x y,xs=#[x,y]∧e x=some (.int k p)∧e y=some (.int k' q'):=by
    obtain⟨l⟩:=xs
    rcases l with _|⟨x,_|⟨y,_|⟨z,l⟩⟩⟩
    ·simp at L
    ·simp at L
    ·simp at L;exact⟨x,y,rfl,L.1,L.2⟩
    ·simp at L
   split at h
   ·rw[o_a h];exact r_min (J _ _ I) (J _ _ hy)
   ·rw[o_a h];exact r_max (J _ _ I) (J _ _ hy)
   ·cases h
  ·cases h
 ·rename_i t ps
  unfold qbd at h
  split at h
  ·rename_i vs i fs hvs hi O
   split at h
   ·rename_i z pl hz hpl
    split at h
    ·rename_i cs hcs
     rw[o_a h]
     have L:=qps_eval J _ hvs
     simp only[Wp]at L
     simp only[execOp,Instr.build,L]
     simp only[Sem.run_bind,zero_run hi hz,Result.andThen_ok,run_underlying O]
     rw[qpl_arr hpl w]
     simp only[Result.andThen_ok,hcs,Sem.run_pure]
    ·cases h
   ·cases h
  ·cases h
 ·cases h
end
theorem bo {x y:Bool}(h:(x||y)=true):x=true∨y=true:=by cases x<;>simp_all
theorem bn {x:Bool}(h:(!x)=true):x=false:=by cases x<;>simp_all
structure QS where
 l:List (Nat×Value)
 g:List (Nat×Nat×Bool×Value)
 c:List Prop
 q:List (Value×Value)
 wr:List Nat
def gk:List (Nat×Nat×Bool×Value)→Nat→Option (Nat×Bool×Value)
 | [],_=>none
 |(t,x)::r,d=>bif Nat.beq t d then some x else gk r d
def gfree:List (Nat×Nat×Bool×Value)→Nat→Bool
 | [],_=>true
 |(t,j,_)::r,d=> !(Nat.beq t d)&& !(Nat.beq j d)&&gfree r d
def evg (s:QS)(gd:Option (Nat×Bool)):Operand→Option Value
 | .tmp t=>match gk s.g t with
  |some (dj,b,v)=>match gd with
   |some (dj',b')=>if dj'=dj then if b'=b then some v else none else none
   |none=>none
  |none=>lk s.l t
 |x=>ev s.l x
def qput (s:QS)(d:Nat)(c:List Prop)(q:List (Value×Value))(v:Value):Option QS:=
 if gfree s.g d then some ⟨(d,v)::s.l,s.g,s.c++c,q++s.q,d::s.wr⟩else none
def qside (s:QS)(tc:Nat)(b:Bool):Operand→Option Bool
 | .tmp t=>match gk s.g t with
  |some (dj,b',.bool u)=>if dj=tc then if b'=b then some u else none else none
  |some _=>none
  |none=>if t=tc then some b else match lk s.l t with
   |some (.bool u)=>some u
   |_=>none
 |x=>match ev s.l x with
  |some (.bool u)=>some u
  |_=>none
def qpk (s:QS)(d:Nat):Op→Option QS
 | .pick (.tmp tc) x y=>match gk s.g tc,lk s.l tc with
  |none,some (.bool cb)=>match qside s tc true x,qside s tc false y with
   |some b1,some b2=>qput s d [] [] (.bool (bif cb then b1 else b2))
   |_,_=>none
  |_,_=>none
 |_=>none
def qno (P:Program)(K:Kn)(s:QS)(d:Nat)(h:Hint)(op:Op):Option QS:=match qv P K h (evg s none) op with
 |some (c,q,v)=>qput s d c q v
 |none=>none
def q1 (P:Program)(K:Kn)(n:Nat)(ops:Array Oper)(s:QS)(h:Hint)(o:Oper):Option QS:=match o.dst with
 |none=>none
 |some d=>if Nat.ble (d+1) n then match o.guard with
  |none=>match h with
   | .pk=>qpk s d o.op
   |h=>qno P K s d h o.op
  |some (j,b)=>match(ops[j]?).bind (·.dst)with
   |none=>none
   |some dj=>match gk s.g dj,lk s.l dj with
    |none,some (.bool c)=>match h with
     | .off=>if c= !b then qput s d [] [] undef else none
     | .on .pk=>if c=b then qpk s d o.op else none
     | .on h=>if c=b then qno P K s d h o.op else none
     | .sy h=>if d=dj then none else if gfree s.g d then match lk s.l d with
      |none=>match qv P K h (evg s (some (dj,b))) o.op with
       |some (cs,q,v)=>some ⟨s.l,(d,dj,b,v)::s.g,s.c++cs.map (fun p=>c=b→p),q++s.q,d::s.wr⟩
       |none=>none
      |some _=>none else none
     |_=>none
    |none,some (.tuple vs)=>match h with
     | .off=>if vs.toList.isEmpty then qput s d [] [] undef else none
     |_=>none
    |_,_=>none else none
def qs (P:Program)(K:Kn)(n:Nat)(ops:Array Oper):List Hint→List Oper→QS→Option QS
 | [],_,s=>some s
 |h::hs,o::r,s=>match q1 P K n ops s h o with
  |some s'=>qs P K n ops hs r s'
  |none=>none
 |_::_,[],_=>none
def dqs (P:Program)(K:Kn)(n:Nat)(ops:Array Oper):List (Nat×Hint)→Array Bool→QS→Option (Array Bool×QS)
 | [],li,s=>some (li,s)
 |(i,h)::r,li,s=>match ops[i]? with
  |some o=>if Region.free .any ops li i&&(Region.ready .any ops li).contains i then match q1 P K n ops s h o with
   |some s'=>dqs P K n ops r (li.setIfInBounds i true) s'
   |none=>none else none
  |none=>none
def qfin (l0:List (Nat×Value))(ks:List Nat)(s:QS):Option (List Prop×List (Nat×Value)):=
 if s.wr.all (fun d=>ks.contains d||(lk l0 d).isNone)then some (s.c,kp s.l ks)else none
def conj:List Prop→Prop
 | []=>True
 | [p]=>p
 |p::q::r=>p∧conj (q::r)
def cat:List (Nat×Value)→List (Nat×Value)→List (Nat×Value)
 | [],l=>l
 |p::r,l=>p::cat r l
theorem Qfs: ∀{cs:List Prop},conj cs→∀p,p∈cs→p
 | [],_,p,hp=>by cases hp
 | [q],h,p,hp=>by rw[Qi]at hp;subst hp;exact h
 |q::q'::r,h,p,hp=>by
  rcases Qg.1 hp with rfl|hp
  ·exact h.1
  ·exact Qfs h.2 p hp
theorem Qbs (d e:Nat)(v:Value)(l:List (Nat×Value)):lk ((d,v)::l) e=if d=e then some v else lk l e:=by
 by_cases h:d=e
 ·subst h;rw[Qah,if_pos rfl]
 ·rw[Qae _ _ h,if_neg h]
theorem Qed (d e:Nat)(x:Nat×Bool×Value)(l:List (Nat×Nat×Bool×Value)):gk ((d,x)::l) e=if d=e then some x else gk l e:=by
 unfold gk
 by_cases h:d=e
 ·subst h;simp
 ·have:Nat.beq d e=false:=by cases E:Nat.beq d e with
   |false=>rfl
   |true=>exact absurd (Wj E) h
  simp only[this,cond_false,if_neg h]
  cases l<;>rfl
theorem Qct: ∀{g:List (Nat×Nat×Bool×Value)} {d:Nat},gfree g d=true→gk g d=none∧∀t j b v,gk g t=some (j,b,v)→j≠d
 | [],d,_=>⟨rfl,fun t j b v h=>by cases h⟩
 |(t,j,x)::r,d,h=>by
  simp only[gfree,Qk,Ym]at h
  obtain⟨⟨E,I⟩,J⟩:=h
  have e1:t≠d:=fun e=>by subst e;simp at E
  have e2:j≠d:=fun e=>by subst e;simp at I
  obtain⟨L,N⟩:=Qct J
  refine⟨by rw[Qed,if_neg e1];exact L,fun t' j' b v h=>?_⟩
  rw[Qed]at h
  split at h
  ·injection h with h;injection h with O V;rw[←O];exact e2
  ·exact N _ _ _ _ h
structure QS.ok (s:QS) (a:Act) (n:Nat) (ds:List Deferred):Prop where
 fr:Fr a n ds s.l
 gd: ∀t dj b v,gk s.g t=some (dj,b,v)→lk s.l t=none∧∃c,lk s.l dj=some (.bool c)∧gk s.g dj=none∧a.tmps[t]?=some (if c=b then v else undef)
structure QS.inv (l0:List (Nat×Value)) (s:QS):Prop where
 out: ∀d,d∉s.wr→lk s.l d=lk l0 d
 wrn: ∀d,d∈s.wr→(lk s.l d).isSome=true∨lk l0 d=none∨∃v,lk s.l d=some v
structure QS.le (s s':QS):Prop where
 c: ∀p,p∈s.c→p∈s'.c
 q: ∀p,p∈s.q→p∈s'.q
theorem QS.le.refl (s:QS):QS.le s s:=⟨fun _ h=>h,fun _ h=>h⟩
theorem QS.le.trans {s t u:QS}(h:QS.le s t)(k:QS.le t u):QS.le s u:=⟨fun _ hp=>k.c _ (h.c _ hp),fun _ hp=>k.q _ (h.q _ hp)⟩
section
variable {P:Program}{K:Kn}{n:Nat}{ds:List Deferred}{ops:Array Oper}{a:Act}{s s':QS}
theorem evg_none (hs:s.ok a n ds)(x:Operand)(v:Value)(h:evg s none x=some v):a.eval x=v:=by
 unfold evg at h
 split at h
 ·split at h
  ·cases h
  ·exact hs.fr.eval (x:=.tmp _) h
 ·exact hs.fr.eval h
theorem evg_some {dj:Nat}{b:Bool}(hs:s.ok a n ds)(L:lk s.l dj=some (.bool b))(x:Operand)(v:Value)(h:evg s (some (dj,b)) x=some v):a.eval x=v:=by
 unfold evg at h
 split at h
 ·rename_i t
  split at h
  ·rename_i dj' b' v' I
   by_cases e1:dj=dj'
   ·subst e1
    by_cases e2:b=b'
    ·subst e2
     simp only[if_true]at h
     injection h with h
     subst h
     obtain⟨_,c,E,_,J⟩:=hs.gd _ _ _ _ I
     rw[L]at E
     injection E with E;injection E with E
     rw[if_pos E.symm]at J
     simp[Act.eval,W7,J]
    ·simp[e2]at h
   ·simp[e1]at h
  ·exact hs.fr.eval (x:=.tmp _) h
 ·exact hs.fr.eval h
theorem o_aI {d:Nat}{c:List Prop}{q:List (Value×Value)}{v:Value}(L:d<n)(hs:s.ok a n ds)(h:qput s d c q v=some s'):s'.ok (a.put (some d) v) n ds∧QS.le s s'∧(∀p,p∈c→p∈s'.c)∧(∀p,p∈q→p∈s'.q):=by
 unfold qput at h
 split at h
 ·rename_i N
  injection h with h
  subst h
  obtain⟨O,V⟩:=Qct N
  refine⟨⟨hs.fr.put L v,fun t dj b u E=>?_⟩,⟨fun p hp=>We _ hp,fun p hp=>Wg _ hp⟩,fun p hp=>Wg _ hp,fun p hp=>We _ hp⟩
  obtain⟨W,cc,h2,h3,h4⟩:=hs.gd t dj b u E
  have I:d≠t:=fun e=>by subst e;change gk s.g d=_ at E;rw[O]at E;cases E
  have J:d≠dj:=fun e=>V _ _ _ _ E e.symm
  refine⟨by rw[Qbs,if_neg I];exact W,cc,by rw[Qbs,if_neg J];exact h2,h3,?_⟩
  simp only[Act.put]
  rw[Xs I];exact h4
 ·cases h
theorem Qdd {d:Nat}{c:List Prop}{q:List (Value×Value)}{v:Value}{J:List (Nat×Value)}(hi:s.inv J)(h:qput s d c q v=some s'):s'.inv J:=by
 unfold qput at h
 split at h
 ·injection h with h
  subst h
  refine⟨fun e I=>?_,fun e I=>?_⟩
  ·simp only[Qg,not_or]at I
   rw[Qbs,if_neg (fun h=>I.1 h.symm)];exact hi.out e I.2
  ·simp only[Qg]at I
   by_cases E:d=e
   ·left;subst E;rw[Qbs,if_pos rfl];rfl
   ·rw[Qbs,if_neg E]
    exact hi.wrn e (I.resolve_left fun h=>E h.symm)
 ·cases h
theorem o_bg {tc:Nat}{b u cb:Bool}{x:Operand}(hs:s.ok a n ds)(V:gk s.g tc=none)(N:lk s.l tc=some (.bool cb))(I:cb=b)(h:qside s tc b x=some u):a.eval x=.bool u:=by
 unfold qside at h
 split at h
 ·rename_i t
  split at h
  ·rename_i dj b' u' J
   split at h
   ·rename_i e1
    subst e1
    split at h
    ·rename_i e2
     subst e2
     injection h with h;subst h
     obtain⟨_,c,E,_,O⟩:=hs.gd _ _ _ _ J
     rw[N]at E
     injection E with E;injection E with E
     rw[if_pos (E.symm.trans I)]at O
     simp[Act.eval,W7,O]
    ·cases h
   ·cases h
  ·cases h
  ·split at h
   ·rename_i e1
    subst e1
    injection h with h;subst h;subst I
    exact hs.fr.eval (x:=.tmp _) N
   ·split at h
    ·rename_i L
     injection h with h;subst h
     exact hs.fr.eval (x:=.tmp _) L
    ·cases h
 ·split at h
  ·rename_i L
   injection h with h;subst h
   exact hs.fr.eval L
  ·cases h
def QDo (P:Program)(K:Kn)(ops:Array Oper)(a:Act)(o:Oper)(v:Value):Prop:=
 (Region.wanted o (yielded ops a.tmps)=true∧∀w,K.ok w→(execOp a.eval o).run P w=.ok (.value v) w)∨(Region.wanted o (yielded ops a.tmps)=false∧v=undef)
theorem o_bB {d:Nat}{op:Op}{T:TypeId}{pos:String}{af:Array Edge}{gd:Option (Nat×Bool)}(L:d<n)(hs:s.ok a n ds)(h:qpk s d op=some s'):
  ∃v,s'.ok (a.put (some d) v) n ds∧QS.le s s'∧∀w,(execOp a.eval ⟨some d,op,T,pos,af,gd⟩).run P w=.ok (.value v) w:=by
 unfold qpk at h
 split at h
 ·rename_i tc x y
  split at h
  ·rename_i cb J I
   split at h
   ·rename_i b1 b2 N O
    obtain⟨k1,k2,_,_⟩:=o_aI L hs h
    refine⟨_,k1,k2,fun w=>?_⟩
    have E:a.eval (.tmp tc)=.bool cb:=hs.fr.eval (x:=.tmp tc) I
    cases cb with
    |true=>exact r_pick_t E (o_bg hs J I rfl N)
    |false=>exact r_pick_f E (o_bg hs J I rfl O)
   ·cases h
  ·cases h
 ·cases h
theorem qpk_inv {d:Nat}{op:Op}{E:List (Nat×Value)}(hi:s.inv E)(h:qpk s d op=some s'):s'.inv E:=by
 unfold qpk at h
 split at h
 ·split at h
  ·split at h
   ·exact Qdd hi h
   ·cases h
  ·cases h
 ·cases h
theorem o_bC {d:Nat}{E:Hint}{op:Op}{T:TypeId}{pos:String}{af:Array Edge}{gd:Option (Nat×Bool)}(I:d<n)(hs:s.ok a n ds)(h:qno P K s d E op=some s')(J: ∀p,p∈s'.c→p)(hq: ∀p,p∈s'.q→p.1=p.2):
  ∃v,s'.ok (a.put (some d) v) n ds∧QS.le s s'∧∀w,K.ok w→(execOp a.eval ⟨some d,op,T,pos,af,gd⟩).run P w=.ok (.value v) w:=by
 unfold qno at h
 split at h
 ·rename_i c q v L
  obtain⟨k1,k2,k3,N⟩:=o_aI I hs h
  exact⟨v,k1,k2,fun w O=>o_bJ (evg_none hs) O L (fun p hp=>J p (k3 p hp)) (fun p hp=>hq p (N p hp))⟩
 ·cases h
theorem qno_inv {d:Nat}{I:Hint}{op:Op}{E:List (Nat×Value)}(hi:s.inv E)(h:qno P K s d I op=some s'):s'.inv E:=by
 unfold qno at h
 split at h
 ·exact Qdd hi h
 ·cases h
theorem bool_ne {c b:Bool}(h:c≠b):c= !b:=by cases c<;>cases b<;>first|rfl|exact absurd rfl h
theorem o_bD {d dj:Nat}{b c:Bool}{v u:Value}{cs:List Prop}{q:List (Value×Value)}(hd:d<n)(hs:s.ok a n ds)(N:d≠dj)(O:gfree s.g d=true)(J:lk s.l d=none)(V:gk s.g dj=none)(W:lk s.l dj=some (.bool c))(hu:u=if c=b then v else undef):
  QS.ok ⟨s.l,(d,dj,b,v)::s.g,cs,q,d::s.wr⟩ (a.put (some d) u) n ds:=by
 obtain⟨g1,g2⟩:=Qct O
 refine⟨⟨by simp[Act.put,hs.fr.size],hs.fr.defs,fun e x L=>?_⟩,fun t dj' b' u' E=>?_⟩
 ·have L:lk s.l e=some x:=L
  have hde:d≠e:=fun h=>by subst h;rw[J]at L;cases L
  simp only[Act.put]
  rw[Xs hde];exact hs.fr.get e x L
 ·replace E:gk ((d,dj,b,v)::s.g) t=some (dj',b',u'):=E
  rw[Qed]at E
  by_cases I:d=t
  ·subst I
   rw[if_pos rfl]at E
   injection E with E;injection E with h1 E;injection E with h2 E
   subst h1;subst h2;subst E
   refine⟨J,c,W,?_,?_⟩
   ·show gk ((d,dj,b,v)::s.g) dj=none
    rw[Qed,if_neg N];exact V
   ·simp only[Act.put]
    rw[hu,Array.getElem?_setIfInBounds_self_of_lt (by rw[hs.fr.size];exact hd)]
  ·rw[if_neg I]at E
   obtain⟨h1,cc,h2,h3,h4⟩:=hs.gd t dj' b' u' E
   refine⟨h1,cc,h2,?_,?_⟩
   ·show gk ((d,dj,b,v)::s.g) dj'=none
    rw[Qed,if_neg (fun h=>g2 _ _ _ _ E h.symm)];exact h3
   ·simp only[Act.put]
    rw[Xs I];exact h4
theorem o_bK {h:Hint}{o:Oper}(hs:s.ok a n ds)(E:q1 P K n ops s h o=some s')(hc: ∀p,p∈s'.c→p)(hq: ∀p,p∈s'.q→p.1=p.2):
  ∃d v,o.dst=some d∧s'.ok (a.put (some d) v) n ds∧QS.le s s'∧QDo P K ops a o v:=by
 obtain⟨dst,op,T,pos,af,gd⟩:=o
 unfold q1 at E
 split at E
 ·cases E
 ·rename_i d hdst
  have hdst:dst=some d:=hdst
  subst hdst
  split at E
  ·rename_i O
   have O:d<n:=Q0 O
   split at E
   ·rename_i L
    have L:gd=none:=L
    subst L
    split at E
    ·obtain⟨v,k1,k2,k3⟩:=o_bB (P:=P) (T:=T) (pos:=pos) (af:=af) (gd:=none) O hs E
     exact⟨d,v,rfl,k1,k2,.inl ⟨Qbu,fun w _=>k3 w⟩⟩
    ·obtain⟨v,k1,k2,k3⟩:=o_bC (T:=T) (pos:=pos) (af:=af) (gd:=none) O hs E hc hq
     exact⟨d,v,rfl,k1,k2,.inl ⟨Qbu,k3⟩⟩
   ·rename_i j b L
    have L:gd=some (j,b):=L
    subst L
    split at E
    ·cases E
    ·rename_i dj N
     split at E
     ·rename_i c V I
      split at E
      ·split at E
       ·rename_i J
        obtain⟨k1,k2,_,_⟩:=o_aI O hs E
        exact⟨d,undef,rfl,k1,k2,.inr ⟨Qcq hs.fr N I (.inl (by rw[J])),rfl⟩⟩
       ·cases E
      ·split at E
       ·rename_i J
        subst J
        obtain⟨v,k1,k2,k3⟩:=o_bB (P:=P) (T:=T) (pos:=pos) (af:=af) (gd:=some (j,c)) O hs E
        exact⟨d,v,rfl,k1,k2,.inl ⟨Qcj hs.fr N I,fun w _=>k3 w⟩⟩
       ·cases E
      ·split at E
       ·rename_i J
        subst J
        obtain⟨v,k1,k2,k3⟩:=o_bC (T:=T) (pos:=pos) (af:=af) (gd:=some (j,c)) O hs E hc hq
        exact⟨d,v,rfl,k1,k2,.inl ⟨Qcj hs.fr N I,k3⟩⟩
       ·cases E
      ·split at E
       ·cases E
       ·rename_i W
        split at E
        ·rename_i hgf
         split at E
         ·rename_i hln
          split at E
          ·rename_i cs q v hv
           injection E with E
           subst E
           have hle:QS.le s ⟨s.l,(d,dj,b,v)::s.g,s.c++cs.map (fun p=>c=b→p),q++s.q,d::s.wr⟩:=⟨fun p hp=>We _ hp,fun p hp=>Wg _ hp⟩
           by_cases J:c=b
           ·subst J
            refine⟨d,v,rfl,o_bD O hs W hgf hln V I (by rw[if_pos rfl]),hle,.inl ⟨Qcj hs.fr N I,fun w hK=>?_⟩⟩
            exact o_bJ (evg_some hs I) hK hv (fun p hp=>hc (c=c→p) (Wg _ (Wh.2 ⟨p,hp,rfl⟩)) rfl) (fun p hp=>hq p (We _ hp))
           ·exact⟨d,undef,rfl,o_bD O hs W hgf hln V I (by rw[if_neg J]),hle,.inr ⟨Qcq hs.fr N I (.inl (congrArg Value.bool (bool_ne J))),rfl⟩⟩
          ·cases E
         ·cases E
        ·cases E
      ·cases E
     ·rename_i vs V I
      split at E
      ·split at E
       ·rename_i hvs
        obtain⟨k1,k2,_,_⟩:=o_aI O hs E
        refine⟨d,undef,rfl,k1,k2,.inr ⟨Qcq hs.fr N I (.inr ?_),rfl⟩⟩
        have:vs=#[]:=by
         have h1:vs.toList=[]:=List.isEmpty_iff.1 hvs
         rw[←Wp (xs:=vs),h1]
        rw[this];rfl
       ·cases E
      ·cases E
     ·cases E
  ·cases E
theorem q1_inv {h:Hint}{o:Oper}{L:List (Nat×Value)}(hi:s.inv L)(E:q1 P K n ops s h o=some s'):s'.inv L:=by
 unfold q1 at E
 split at E
 ·cases E
 ·split at E
  ·split at E
   ·split at E
    ·exact qpk_inv hi E
    ·exact qno_inv hi E
   ·split at E
    ·cases E
    ·split at E
     ·split at E
      ·split at E
       ·exact Qdd hi E
       ·cases E
      ·split at E
       ·exact qpk_inv hi E
       ·cases E
      ·split at E
       ·exact qno_inv hi E
       ·cases E
      ·split at E
       ·cases E
       ·split at E
        ·split at E
         ·rename_i J
          split at E
          ·injection E with E
           subst E
           refine⟨fun e I=>hi.out e (fun h=>I (Qb _ h)),fun e I=>?_⟩
           rcases Qg.1 I with rfl|I
           ·by_cases N:e∈s.wr
            ·exact hi.wrn e N
            ·right;left;rw[←hi.out e N];exact J
           ·exact hi.wrn e I
          ·cases E
         ·cases E
        ·cases E
      ·cases E
     ·split at E
      ·split at E
       ·exact Qdd hi E
       ·cases E
      ·cases E
     ·cases E
  ·cases E
theorem q1_le {h:Hint}{o:Oper}(E:q1 P K n ops s h o=some s'):QS.le s s':=by
 have hp: ∀{d:Nat} {c:List Prop} {q:List (Value×Value)} {v:Value},qput s d c q v=some s'→QS.le s s':=fun h=>by
  unfold qput at h
  split at h
  ·injection h with h;subst h;exact⟨fun p hp=>We _ hp,fun p hp=>Wg _ hp⟩
  ·cases h
 have hk: ∀{d:Nat} {op:Op},qpk s d op=some s'→QS.le s s':=fun h=>by
  unfold qpk at h
  split at h
  ·split at h
   ·split at h
    ·exact hp h
    ·cases h
   ·cases h
  ·cases h
 have I: ∀{d:Nat} {g:Hint} {op:Op},qno P K s d g op=some s'→QS.le s s':=fun h=>by
  unfold qno at h
  split at h
  ·exact hp h
  ·cases h
 unfold q1 at E
 split at E
 ·cases E
 ·split at E
  ·split at E
   ·split at E
    ·exact hk E
    ·exact I E
   ·split at E
    ·cases E
    ·split at E
     ·split at E
      ·split at E
       ·exact hp E
       ·cases E
      ·split at E
       ·exact hk E
       ·cases E
      ·split at E
       ·exact I E
       ·cases E
      ·split at E
       ·cases E
       ·split at E
        ·split at E
         ·split at E
          ·injection E with E;subst E;exact⟨fun p hp=>We _ hp,fun p hp=>Wg _ hp⟩
          ·cases E
         ·cases E
        ·cases E
      ·cases E
     ·split at E
      ·split at E
       ·exact hp E
       ·cases E
      ·cases E
     ·cases E
  ·cases E
theorem qs_le: ∀{hs:List Hint} {lst:List Oper} {s:QS},qs P K n ops hs lst s=some s'→QS.le s s'
 | [],_,s,h=>by simp only[qs,Qw]at h;subst h;exact QS.le.refl _
 |h::hs,[],s,E=>by simp[qs]at E
 |h::hs,o::r,s,E=>by
  unfold qs at E
  split at E
  ·rename_i J I;exact(q1_le I).trans (qs_le E)
  ·cases E
theorem dqs_le {li':Array Bool}: ∀{is:List (Nat×Hint)} {li:Array Bool} {s:QS},dqs P K n ops is li s=some (li',s')→QS.le s s'
 | [],_,s,h=>by simp only[dqs,Qw,Ye]at h;rw[h.2];exact QS.le.refl _
 |(i,h)::r,li,s,E=>by
  unfold dqs at E
  split at E
  ·split at E
   ·split at E
    ·rename_i J I;exact(q1_le I).trans (dqs_le E)
    ·cases E
   ·cases E
  ·cases E
end
theorem lk_cat (nl l:List (Nat×Value))(d:Nat):lk (cat nl l) d=(lk nl d).or (lk l d):=by
 induction nl with
 |nil=>rfl
 |cons p r E=>
  obtain⟨e,v⟩:=p
  show lk ((e,v)::cat r l) d=_
  rw[Qbs,Qbs,E]
  split<;>rfl
theorem Qeq {l:List (Nat×Value)}{ks:List Nat}{d:Nat}{v:Value}(E:d∈ks)(J:lk l d=some v):lk (kp l ks) d=some v:=by
 induction ks with
 |nil=>cases E
 |cons k r L=>
  unfold kp
  by_cases hk:k=d
  ·subst hk;rw[J];exact Qah _ _ _
  ·have I:=L ((Qg.1 E).resolve_left fun h=>hk h.symm)
   split
   ·rw[Qae _ _ hk];exact I
   ·exact I
theorem Qiz {O nl:List (Nat×Value)}{ks:List Nat}{cs:List Prop}{s:QS}{a:Act}{n:Nat}{ds:List Deferred}(I:s.ok a n ds)(hi:s.inv O)(h:qfin O ks s=some (cs,nl)):Fr a n ds (cat nl O)∧s.c=cs:=by
 unfold qfin at h
 split at h
 ·rename_i hall
  injection h with h;injection h with W h2
  refine⟨⟨I.fr.size,I.fr.defs,fun d v E=>?_⟩,W⟩
  rw[lk_cat,←h2]at E
  cases hk:lk (kp s.l ks) d with
  |some u=>rw[hk]at E;injection E with E;subst E;exact I.fr.get d _ (lk_kp ks d _ hk)
  |none=>
   rw[hk]at E
   have E:lk O d=some v:=E
   by_cases V:d∈s.wr
   ·have J:=Q7.1 hall d V
    simp only[Xx,List.contains_iff_mem,Option.isNone_iff_eq_none,E]at J
    have N:d∈ks:=by rcases J with J|J;exact J;cases J
    rcases hi.wrn d V with L|L|⟨u,L⟩
    ·obtain⟨u,hu⟩:=Option.isSome_iff_exists.1 L
     rw[Qeq N hu]at hk;cases hk
    ·rw[E]at L;cases L
    ·rw[Qeq N L]at hk;cases hk
   ·exact I.fr.get d v (by rw[hi.out d V];exact E)
 ·cases h
section
variable {r:Option Nat}{P:Program}{K:Kn}{ops:Array Oper}{Q:Exit→Act→World→Prop}{a:Act}{w:World}{n:Nat}{ds:List Deferred}
theorem qs_walk: ∀{hs:List Hint} {lst:List Oper} {s s':QS} {a:Act},qs P K n ops hs lst s=some s'→(∀p,p∈s'.c→p)→(∀p,p∈s'.q→p.1=p.2)→K.ok w→s.ok a n ds→(∀a',s'.ok a' n ds→WL r P ops Q (lst.drop hs.length) a' w)→WL r P ops Q lst a w
 | [],_,s,s',a,hq,_,_,_,hs,h=>by simp only[qs,Qw]at hq;subst hq;exact h a hs
 |g::hs,[],s,s',a,hq,_,_,_,_,_=>by simp[qs]at hq
 |g::hs,o::lst,s,s',a,hq,L,N,O,I,h=>by
  unfold qs at hq
  split at hq
  ·rename_i s1 W
   have E:=qs_le hq
   obtain⟨d,v,V,k1,k2,k3⟩:=o_bK I W (fun p hp=>L p (E.c p hp)) (fun p hp=>N p (E.q p hp))
   have hrest:WL r P ops Q lst (a.put (some d) v) w:=qs_walk hq L N O k1 h
   unfold WL wpListIn
   rcases k3 with⟨J,hv⟩|⟨J,rfl⟩
   ·rw[if_pos J]
    refine⟨fun _ _=>trivial,?_⟩
    rw[Qhe (hv w O) (fun _ h=>by cases h)]
    show wpListIn _ _ _ _ _ _ (a.put o.dst v) w
    rw[V];exact hrest
   ·rw[if_neg (by rw[J];decide)]
    refine⟨fun _ _=>trivial,?_⟩
    rw[V];exact hrest
  ·cases hq
theorem qs_inv {E:List (Nat×Value)}: ∀{hs:List Hint} {lst:List Oper} {s s':QS},s.inv E→qs P K n ops hs lst s=some s'→s'.inv E
 | [],_,s,s',hi,hq=>by simp only[qs,Qw]at hq;subst hq;exact hi
 |g::hs,[],s,s',_,hq=>by simp[qs]at hq
 |g::hs,o::lst,s,s',hi,hq=>by
  unfold qs at hq
  split at hq
  ·rename_i J I;exact qs_inv (q1_inv hi I) hq
  ·cases hq
theorem Qip {E:List (Nat×Value)}{li':Array Bool}: ∀{is:List (Nat×Hint)} {li:Array Bool} {s s':QS},s.inv E→dqs P K n ops is li s=some (li',s')→s'.inv E
 | [],_,s,s',hi,hq=>by simp only[dqs,Qw,Ye]at hq;rw[←hq.2];exact hi
 |(i,h)::is,li,s,s',hi,hq=>by
  unfold dqs at hq
  split at hq
  ·split at hq
   ·split at hq
    ·rename_i J I;exact Qip (q1_inv hi I) hq
    ·cases hq
   ·cases hq
  ·cases hq
variable {l:List (Nat×Value)}
def q0 (l:List (Nat×Value)):QS:=⟨l,[],[],[],[]⟩
theorem o_bt (E:Fr a n ds l):(q0 l).ok a n ds:=⟨E,fun t dj b v h=>by cases h⟩
theorem q0_inv (l:List (Nat×Value)):(q0 l).inv l:=⟨fun _ _=>rfl,fun d h=>by cases h⟩
theorem Qck: ∀{q:List (Value×Value)},q.map Prod.fst=q.map Prod.snd→∀p,p∈q→p.1=p.2
 | [],_,p,hp=>by cases hp
 |x::q,h,p,hp=>by
  simp only[Qv,Jb]at h
  rcases Qg.1 hp with rfl|hp
  ·exact h.1
  ·exact Qck h.2 p hp
theorem qr {lst:List Oper}(hs:List Hint)(ks:List Nat)(cs:List Prop)(nl:List (Nat×Value))(N:K.ok w)(O:Fr a n ds l)
  (h: ∀a',Fr a' n ds (cat nl l)→WL r P ops Q (lst.drop hs.length) a' w)
  (V:conj cs:=by first|exact trivial|(simp only[Go.Z.conj,Go.Z.R64];omega)|omega)
  (hq:((qs P K n ops hs lst (q0 l)).bind (qfin l ks))=some (cs,nl):=by kernel_rfl)
  (I:(qs P K n ops hs lst (q0 l)).map (fun s=>s.q.map Prod.fst)=(qs P K n ops hs lst (q0 l)).map (fun s=>s.q.map Prod.snd):=by kernel_rfl):WL r P ops Q lst a w:=by
 cases E:qs P K n ops hs lst (q0 l)with
 |none=>rw[E]at hq;cases hq
 |some s'=>
  rw[E]at hq I
  have hq:qfin l ks s'=some (cs,nl):=hq
  have I:s'.q.map Prod.fst=s'.q.map Prod.snd:=by injection I
  have J:s'.c=cs:=by unfold qfin at hq;split at hq;(injection hq with hq;injection hq);cases hq
  exact qs_walk E (by rw[J];exact Qfs V) (Qck I) N (o_bt O) fun a' L=>h a' (Qiz L (qs_inv (q0_inv l) E) hq).1
variable {S:World→Prop}
end
end Go.Z
end
section
namespace Go.Proofs.YtlhiofnikdppeaaGreatDoor
abbrev D13:Type:=ByteArray×Int
@[reducible] def T40:Z.Ty:=(Z.Ty.pair (Z.Ty.int .i64) (Z.Ty.pair (Z.Ty.int .i64) Z.Ty.str))
abbrev D40:Type:=Int×Int×ByteArray
@[reducible] def T54:Z.Ty:=(Z.Ty.pair (Z.Ty.int .i64) (Z.Ty.pair (Z.Ty.int .i64) (Z.Ty.pair (Z.Ty.slice (Z.Ty.int .i64)) (Z.Ty.pair T40 (Z.Ty.pair Z.Ty.str (Z.Ty.pair (Z.Ty.int .i64) (Z.Ty.int .i64)))))))
abbrev D54:Type:=Int×Int×(List Int)×D40×ByteArray×Int×Int
@[reducible] def T23:Z.Ty:=(Z.Ty.slice T54)
abbrev D23:Type:=(List D54)
@[reducible] def T42:Z.Ty:=(Z.Ty.pair (Z.Ty.int .i64) (Z.Ty.pair (Z.Ty.int .i64) (Z.Ty.pair (Z.Ty.int .i64) (Z.Ty.pair (Z.Ty.int .i64) T40))))
abbrev D42:Type:=Int×Int×Int×Int×D40
abbrev D27:Type:=(List Int)×(List D54)×(List D42)
@[reducible] def T49:Z.Ty:=(Z.Ty.pair (Z.Ty.int .i64) (Z.Ty.pair (Z.Ty.int .i64) (Z.Ty.pair Z.Ty.str (Z.Ty.int .i64))))
abbrev D49:Type:=Int×Int×ByteArray×Int
abbrev D91:Type:=Int×ByteArray
abbrev D93:Type:=Int×D91
@[reducible] def T161:Z.Ty:=(Z.Ty.pair (Z.Ty.int .i64) (Z.Ty.int .i64))
abbrev D161:Type:=Int×Int
@[reducible] def T163:Z.Ty:=(Z.Ty.pair T161 (Z.Ty.int .i64))
abbrev D163:Type:=D161×Int
@[reducible] def T198:Z.Ty:=(Z.Ty.pair (Z.Ty.int .i64) (Z.Ty.pair (Z.Ty.int .i64) (Z.Ty.pair (Z.Ty.int .i64) (Z.Ty.int .i64))))
abbrev D198:Type:=Int×Int×Int×Int
@[reducible] def T199:Z.Ty:=(Z.Ty.pair (Z.Ty.int .i64) (Z.Ty.pair (Z.Ty.int .i64) (Z.Ty.pair (Z.Ty.int .i64) (Z.Ty.pair (Z.Ty.int .i64) T198))))
abbrev D199:Type:=Int×Int×Int×Int×D198
@[reducible] def T202:Z.Ty:=(Z.Ty.pair T161 (Z.Ty.pair T161 T199))
abbrev D202:Type:=D161×D161×D199
abbrev D169:Type:=Int×Int
abbrev CF (n:Nat):Prop:=∀(args:Array Value) (w:World),(callFunc n args).run Tryz.prog w=.ok (.enter n args) w
theorem cf5:CF 5:=fun _ _=>by kernel_rfl
theorem cf6:CF 6:=fun _ _=>by kernel_rfl
theorem cf7:CF 7:=fun _ _=>by kernel_rfl
theorem cf8:CF 8:=fun _ _=>by kernel_rfl
theorem cf14:CF 14:=fun _ _=>by kernel_rfl
theorem cf15:CF 15:=fun _ _=>by kernel_rfl
theorem cf16:CF 16:=fun _ _=>by kernel_rfl
theorem cf17:CF 17:=fun _ _=>by kernel_rfl
theorem cf18:CF 18:=fun _ _=>by kernel_rfl
theorem cf19:CF 19:=fun _ _=>by kernel_rfl
theorem cf20:CF 20:=fun _ _=>by kernel_rfl
theorem cf21:CF 21:=fun _ _=>by kernel_rfl
theorem cf22:CF 22:=fun _ _=>by kernel_rfl
theorem cf23:CF 23:=fun _ _=>by kernel_rfl
theorem cf24:CF 24:=fun _ _=>by kernel_rfl
theorem cf25:CF 25:=fun _ _=>by kernel_rfl
theorem cf35:CF 35:=fun _ _=>by kernel_rfl
theorem cf36:CF 36:=fun _ _=>by kernel_rfl
theorem cf37:CF 37:=fun _ _=>by kernel_rfl
theorem cf38:CF 38:=fun _ _=>by kernel_rfl
theorem cf39:CF 39:=fun _ _=>by kernel_rfl
theorem cf40:CF 40:=fun _ _=>by kernel_rfl
theorem cf41:CF 41:=fun _ _=>by kernel_rfl
theorem cf42:CF 42:=fun _ _=>by kernel_rfl
theorem cf43:CF 43:=fun _ _=>by kernel_rfl
theorem cf44:CF 44:=fun _ _=>by kernel_rfl
theorem cf45:CF 45:=fun _ _=>by kernel_rfl
theorem cf46:CF 46:=fun _ _=>by kernel_rfl
theorem cf47:CF 47:=fun _ _=>by kernel_rfl
theorem cf48:CF 48:=fun _ _=>by kernel_rfl
theorem cf49:CF 49:=fun _ _=>by kernel_rfl
theorem cf50:CF 50:=fun _ _=>by kernel_rfl
theorem cf51:CF 51:=fun _ _=>by kernel_rfl
theorem cf52:CF 52:=fun _ _=>by kernel_rfl
theorem cf53:CF 53:=fun _ _=>by kernel_rfl
theorem cf54:CF 54:=fun _ _=>by kernel_rfl
theorem cf68:CF 68:=fun _ _=>by kernel_rfl
theorem cf69:CF 69:=fun _ _=>by kernel_rfl
theorem cf70:CF 70:=fun _ _=>by kernel_rfl
theorem cf71:CF 71:=fun _ _=>by kernel_rfl
theorem cf72:CF 72:=fun _ _=>by kernel_rfl
theorem cf73:CF 73:=fun _ _=>by kernel_rfl
theorem cf74:CF 74:=fun _ _=>by kernel_rfl
theorem cf75:CF 75:=fun _ _=>by kernel_rfl
theorem cf76:CF 76:=fun _ _=>by kernel_rfl
theorem cf77:CF 77:=fun _ _=>by kernel_rfl
theorem cf78:CF 78:=fun _ _=>by kernel_rfl
theorem cf79:CF 79:=fun _ _=>by kernel_rfl
theorem cf80:CF 80:=fun _ _=>by kernel_rfl
theorem cf83:CF 83:=fun _ _=>by kernel_rfl
theorem cf84:CF 84:=fun _ _=>by kernel_rfl
theorem cf85:CF 85:=fun _ _=>by kernel_rfl
theorem cf96:CF 96:=fun _ _=>by kernel_rfl
theorem cf97:CF 97:=fun _ _=>by kernel_rfl
theorem cf98:CF 98:=fun _ _=>by kernel_rfl
theorem cf99:CF 99:=fun _ _=>by kernel_rfl
theorem cf100:CF 100:=fun _ _=>by kernel_rfl
theorem cf101:CF 101:=fun _ _=>by kernel_rfl
theorem cf102:CF 102:=fun _ _=>by kernel_rfl
theorem cf103:CF 103:=fun _ _=>by kernel_rfl
theorem cf104:CF 104:=fun _ _=>by kernel_rfl
theorem cf105:CF 105:=fun _ _=>by kernel_rfl
theorem cf106:CF 106:=fun _ _=>by kernel_rfl
theorem cf107:CF 107:=fun _ _=>by kernel_rfl
theorem cf108:CF 108:=fun _ _=>by kernel_rfl
theorem cf109:CF 109:=fun _ _=>by kernel_rfl
theorem cf110:CF 110:=fun _ _=>by kernel_rfl
theorem cf137:CF 137:=fun _ _=>by kernel_rfl
theorem cf138:CF 138:=fun _ _=>by kernel_rfl
theorem cf139:CF 139:=fun _ _=>by kernel_rfl
theorem cf140:CF 140:=fun _ _=>by kernel_rfl
theorem cf141:CF 141:=fun _ _=>by kernel_rfl
theorem cf143:CF 143:=fun _ _=>by kernel_rfl
theorem cf144:CF 144:=fun _ _=>by kernel_rfl
theorem cf145:CF 145:=fun _ _=>by kernel_rfl
theorem cf146:CF 146:=fun _ _=>by kernel_rfl
theorem cf147:CF 147:=fun _ _=>by kernel_rfl
theorem cf148:CF 148:=fun _ _=>by kernel_rfl
theorem cf149:CF 149:=fun _ _=>by kernel_rfl
theorem cf150:CF 150:=fun _ _=>by kernel_rfl
theorem cf151:CF 151:=fun _ _=>by kernel_rfl
theorem cf152:CF 152:=fun _ _=>by kernel_rfl
theorem cf153:CF 153:=fun _ _=>by kernel_rfl
theorem cf167:CF 167:=fun _ _=>by kernel_rfl
theorem cf168:CF 168:=fun _ _=>by kernel_rfl
theorem cf171:CF 171:=fun _ _=>by kernel_rfl
theorem cf172:CF 172:=fun _ _=>by kernel_rfl
theorem cf173:CF 173:=fun _ _=>by kernel_rfl
theorem cf174:CF 174:=fun _ _=>by kernel_rfl
theorem cf175:CF 175:=fun _ _=>by kernel_rfl
theorem cf176:CF 176:=fun _ _=>by kernel_rfl
theorem cf177:CF 177:=fun _ _=>by kernel_rfl
theorem cf187:CF 187:=fun _ _=>by kernel_rfl
theorem cf188:CF 188:=fun _ _=>by kernel_rfl
theorem cf189:CF 189:=fun _ _=>by kernel_rfl
theorem cf193:CF 193:=fun _ _=>by kernel_rfl
theorem cf194:CF 194:=fun _ _=>by kernel_rfl
theorem cf195:CF 195:=fun _ _=>by kernel_rfl
theorem cf196:CF 196:=fun _ _=>by kernel_rfl
theorem cf197:CF 197:=fun _ _=>by kernel_rfl
theorem cf198:CF 198:=fun _ _=>by kernel_rfl
theorem mixed:Tryz.prog.follows .mixedOrders=true:=by kernel_rfl
theorem inf3:Tryz.prog.info? 3=some Tryz.t3∧Tryz.t3.zero=some (.int .i64 0)∧Tryz.t3.size=1∧Tryz.t3.bytes=8∧Array.size (Value.cells (.int .i64 0))=1:=⟨by kernel_rfl,rfl,rfl,rfl,rfl⟩
theorem inf21:Tryz.prog.info? 21=some Tryz.t21∧Tryz.t21.zero=some (.int .i32 0)∧Tryz.t21.size=1∧Tryz.t21.bytes=4∧Array.size (Value.cells (.int .i32 0))=1:=⟨by kernel_rfl,rfl,rfl,rfl,rfl⟩
theorem inf43:Tryz.prog.info? 43=some Tryz.t43∧Tryz.t43.zero=some (.agg #[.int .i64 0,.int .i64 0,.int .i64 0,.int .i64 0,.int .i64 0,.int .i64 0,.string (ByteArray.mk #[])])∧Tryz.t43.size=7∧Tryz.t43.bytes=64∧Array.size (Value.cells (.agg #[.int .i64 0,.int .i64 0,.int .i64 0,.int .i64 0,.int .i64 0,.int .i64 0,.string (ByteArray.mk #[])]))=7:=⟨by kernel_rfl,rfl,rfl,rfl,rfl⟩
theorem inf50:Tryz.prog.info? 50=some Tryz.t50∧Tryz.t50.zero=some (.agg #[.int .i64 0,.int .i64 0,.string (ByteArray.mk #[]),.int .i64 0])∧Tryz.t50.size=4∧Tryz.t50.bytes=40∧Array.size (Value.cells (.agg #[.int .i64 0,.int .i64 0,.string (ByteArray.mk #[]),.int .i64 0]))=4:=⟨by kernel_rfl,rfl,rfl,rfl,rfl⟩
theorem Qit:Tryz.prog.info? 55=some Tryz.t55∧Tryz.t55.zero=some (.agg #[.int .i64 0,.int .i64 0,.slice none 0 0,.int .i64 0,.int .i64 0,.string (ByteArray.mk #[]),.string (ByteArray.mk #[]),.int .i64 0,.int .i64 0])∧Tryz.t55.size=9∧Tryz.t55.bytes=104∧Array.size (Value.cells (.agg #[.int .i64 0,.int .i64 0,.slice none 0 0,.int .i64 0,.int .i64 0,.string (ByteArray.mk #[]),.string (ByteArray.mk #[]),.int .i64 0,.int .i64 0]))=9:=⟨by kernel_rfl,rfl,rfl,rfl,rfl⟩
theorem inf162:Tryz.prog.info? 162=some Tryz.t162∧Tryz.t162.zero=some (.agg #[.int .i64 0,.int .i64 0])∧Tryz.t162.size=2∧Tryz.t162.bytes=16∧Array.size (Value.cells (.agg #[.int .i64 0,.int .i64 0]))=2:=⟨by kernel_rfl,rfl,rfl,rfl,rfl⟩
theorem inf164:Tryz.prog.info? 164=some Tryz.t164∧Tryz.t164.zero=some (.agg #[.int .i64 0,.int .i64 0,.int .i64 0])∧Tryz.t164.size=3∧Tryz.t164.bytes=24∧Array.size (Value.cells (.agg #[.int .i64 0,.int .i64 0,.int .i64 0]))=3:=⟨by kernel_rfl,rfl,rfl,rfl,rfl⟩
theorem inf203:Tryz.prog.info? 203=some Tryz.t203∧Tryz.t203.zero=some (.agg #[.int .i64 0,.int .i64 0,.int .i64 0,.int .i64 0,.int .i64 0,.int .i64 0,.int .i64 0,.int .i64 0,.int .i64 0,.int .i64 0,.int .i64 0,.int .i64 0])∧Tryz.t203.size=12∧Tryz.t203.bytes=96∧Array.size (Value.cells (.agg #[.int .i64 0,.int .i64 0,.int .i64 0,.int .i64 0,.int .i64 0,.int .i64 0,.int .i64 0,.int .i64 0,.int .i64 0,.int .i64 0,.int .i64 0,.int .i64 0]))=12:=⟨by kernel_rfl,rfl,rfl,rfl,rfl⟩
end Go.Proofs.YtlhiofnikdppeaaGreatDoor
end
section
namespace Go.Z
open Go.RowKit
def Qhh:List Nat→List Value→List (Nat×Value)→List (Nat×Value)
 |p::ps,v::vs,l=>Qhh ps vs ((p,v)::l)
 |_,_,l=>l
abbrev mkD (D:Nat):Deferred:={target:=.collected D,args:=#[]}
def Dfr (w:World)(D:Nat):Prop:=w.heap[D]?=some (.deferred (some []))
theorem Dfr.lt {w:World}{D:Nat}(h:Dfr w D):D<w.heap.size:=(Qn.1 h).1
theorem Dfr.ch {w w':World}{D:Nat}{S:List Nat}(h:Dfr w D)(E:Ch S w w')(I:D∉S):Dfr w' D:=(E.block D h.lt I).trans h
theorem Ch.putObj (w:World)(r:Nat)(o:Obj):Ch [r] w (w.putObj r o):=
 ⟨rfl,rfl,rfl,by simp,fun k _ E=>World.putObj_heap_other (by simpa using E)⟩
def RP (D:Nat)(I:Nat→World→Prop)(X:Exit→World→Prop)(k:Nat)(W:World)(e:Exit)(W':World):Prop:=
 (∃S,Ch S W W'∧D∉S∧D+1∉S)∧match e with
  | .normal=>I (k+1) W'
  | .ret=>X .ret W'
  | .exit id=>X (.exit id) W'
  |_=>False
def RQ (D:Nat)(I:Nat→World→Prop)(X:Exit→World→Prop)(k:Nat)(W:World):Exit→Act→World→Prop:=fun e _ W'=>RP D I X k W e W'
section
variable {P:Program}{Q:Exit→Act→World→Prop}{a:Act}{w:World}{n:Nat}{ds:List Deferred}{l:List (Nat×Value)}
theorem Qjb: ∀(ps:List Nat) (args:List Value) {l:List (Nat×Value)} {t:Array Value},(∀p,p∈ps→p<n)→Fr ⟨t,[]⟩ n [] l→Fr ⟨(ps.zip args).foldl (fun t (p,v)=>t.setIfInBounds p v) t,[]⟩ n [] (Qhh ps args l)
 | [],_,_,_,_,h=>h
 |_::_,[],_,_,_,h=>h
 |p::ps,v::args,_,_,hp,h=>Qjb ps args (fun q hq=>hp q (Qb _ hq)) (h.put (d:=p) (hp p (Qf ..)) v)
section
variable {r:Option Nat}
end
section
variable {d:Option Tmp}{T:TypeId}{pos:String}{af:Array Edge}{gd:Option (Nat×Bool)}{t ty:TypeId}{x:Operand}{fn:Fn}{f c:Array Value}{p q:Array TypeId}{va:Bool}
end
theorem enterM {f:FuncId}{fn:Func}{c:Code}{vs:List Value}{m:Nat}{R:Ending→World→Prop}(E:P.funcs[f]?=some fn)(I:fn.body=some c)(J:fn.ntmps=m)(L:vs.length≤m)
  (h: ∀a,Fr a m [] (argl vs 0)→WP none P c (bodyPostM (FW none) 0 P fn R) a w):Calls P f vs.toArray w R:=by
 refine callsIn_wide.1 (callsIn_of_wp_marks (F:=FW none) (n:=0) E I trivial (h _ ?_))
 subst J
 exact Fr.entry vs _ L
def marks:List Nat→List Deferred
 | []=>[]
 |D::r=>mkD D::marks r
theorem leavesM {fn:Func}{R:Ending→World→Prop}: ∀{Ds:List Nat} {w:World} {tmps:Array Value},(∀D,D∈Ds→Dfr w D)→Ds.Nodup→(∀w',Ch Ds w w'→w'.heap.size=w.heap.size→∃v,(results fn tmps).run P w'=.ok v w'∧R (.returned v) w')→
  LeavesInM (FW none) 0 P fn tmps R (marks Ds) .returning w
 | [],w,tmps,_,_,h=>by
  obtain⟨v,J,L⟩:=h w (Ch.refl w) rfl
  exact⟨v,J,L⟩
 |D::Ds,w,tmps,E,I,h=>by
  refine⟨by simp,.inl ⟨D,_,rfl,run_takeDeferred (E D (Qf ..)),leavesM (fun D' hD'=>?_) (Q8.1 I).2 fun w' N O=>h w' ?_ (by rw[O];simp)⟩⟩
  ·exact(E D' (Qb _ hD')).ch (Ch.putObj _ _ _) (by simp only[Qi];rintro rfl;exact(Q8.1 I).1 hD')
  ·exact(Ch.putObj w D _).then N (fun i hi=>.inl (by simp at hi;simp[hi])) (fun i hi=>.inl (Qb _ hi))
theorem retM {fn:Func}{R:Ending→World→Prop}{Ds:List Nat}(E:Fr a n (marks Ds) l)(I: ∀D,D∈Ds→Dfr w D)(J:Ds.Nodup)
  (h: ∀w',Ch Ds w w'→w'.heap.size=w.heap.size→∃v,(results fn a.tmps).run P w'=.ok v w'∧R (.returned v) w'):bodyPostM (FW none) 0 P fn R .ret a w:=by
 show LeavesInM _ _ _ _ _ _ a.defers _ _
 rw[E.defs];exact leavesM I J h
theorem res0 {fn:Func}(h:fn.results=#[])(w:World):(results fn a.tmps).run P w=.ok (.tuple #[]) w:=results_none h _ _ _
end
section
variable {r:Option Nat}{P:Program}{ops:Array Oper}{Q:Exit→Act→World→Prop}{a:Act}{w:World}{rest:List Oper}{n:Nat}{ds:List Deferred}{l:List (Nat×Value)}
theorem callY {d:Nat}{T:TypeId}{pos:String}{af:Array Edge}{c:Operand}{xs:List Operand}{ts:Array TypeId}{lid:Nat}{vs:List Value}{R:Ending→World→Prop}(E:Fr a n ds l)(I:Nat.ble (d+1) n=true)
  (J:ev l c=some (.func (.yield lid) #[] #[])) (L:evs l xs=some vs) (N:YieldAt (FW none) 0 P lid vs.toArray w R) (h: ∀e w',R e w'→∃v,e=.returned v∧∀a',Fr a' n ds ((d,v)::l)→WL none P ops Q rest a' w'):
  WL none P ops Q (⟨some d,.call {callee:=.value c,args:=xs.toArray,argTypes:=ts},T,pos,af,none⟩::rest) a w:=by
 obtain⟨fn,tmps,assign,body,O,V⟩:=N
 have W:=E.evals xs L
 have h2:=E.eval J
 refine stepw (x:=.round lid fn tmps assign body) (w':=w) rfl ?_ (fun _ h=>by cases h) fun K hK=>⟨(fun h=>by cases h),V.mono fun e w' he=>?_⟩
 ·simp only[execOp,resolve,W,h2]
  simp[Deferred.ofValue,invoke,O]
 ·obtain⟨v,rfl,hv⟩:=h e w' he
  exact hK _ _ (hv _ (E.put (Q0 I) v))
end
structure Ky (P:Program) (kt:TypeId) {κ:Type} [DecidableEq κ] (enc:κ→Value):Prop where
 check: ∀b k w,(Instr.checkKey b 10000 kt (enc k)).run P w=.ok () w
 eq: ∀a b w,(Op.equal kt (enc a) (enc b)).run P w=.ok (decide (a=b)) w
 now: ∃d,P.underlying kt=some d∧((∀a b,Instr.sameNow d (enc a) (enc b)=some (decide (a=b)))∨(∀a b,Instr.sameNow d (enc a) (enc b)=none))
 bits: ∀a,Instr.sameBits 10000 (enc a) (enc a)=true
section
variable {κ:Type}[DecidableEq κ]{α:Type}
def loc (k:κ):List κ→Option Nat
 | []=>none
 |a::r=>if k=a then some 0 else(loc k r).map (· +1)
def mget (z:α):List (κ×α)→κ→α
 | [],_=>z
 |(a,x)::r,k=>if k=a then x else mget z r k
def mhas:List (κ×α)→κ→Bool
 | [],_=>false
 |(a,_)::r,k=>if k=a then true else mhas r k
def mins:List (κ×α)→κ→α→List (κ×α)
 | [],k,x=>[(k,x)]
 |(a,y)::r,k,x=>if k=a then(a,x)::r else(a,y)::mins r k x
theorem mget_ins (z:α)(m:List (κ×α))(k j:κ)(x:α):mget z (mins m k x) j=if j=k then x else mget z m j:=by
 induction m with
 |nil=>simp[mins,mget]
 |cons p r I=>
  obtain⟨a,y⟩:=p
  unfold mins
  by_cases h:k=a
  ·subst h
   rw[if_pos rfl]
   simp only[mget]
   by_cases E:j=k
   ·rw[if_pos E,if_pos E]
   ·rw[if_neg E,if_neg E,if_neg E]
  ·rw[if_neg h]
   simp only[mget,I]
   by_cases E:j=a
   ·subst E;rw[if_pos rfl,if_neg (fun e=>h e.symm),if_pos rfl]
   ·rw[if_neg E,if_neg E]
theorem mhas_ins (m:List (κ×α))(k j:κ)(x:α):mhas (mins m k x) j=(decide (j=k)||mhas m j):=by
 induction m with
 |nil=>by_cases h:j=k<;>simp[mins,mhas,h]
 |cons p r I=>
  obtain⟨a,y⟩:=p
  unfold mins
  by_cases h:k=a
  ·subst h
   rw[if_pos rfl]
   simp only[mhas]
   by_cases E:j=k<;>simp[E]
  ·rw[if_neg h]
   simp only[mhas,I]
   by_cases E:j=a<;>simp[E]
theorem mget_none {z:α}{m:List (κ×α)}{k:κ}(h:mhas m k=false):mget z m k=z:=by
 induction m with
 |nil=>rfl
 |cons p r E=>
  obtain⟨a,y⟩:=p
  simp only[mhas]at h
  by_cases hk:k=a
  ·simp[hk]at h
  ·rw[if_neg hk]at h;simp only[mget];rw[if_neg hk];exact E h
theorem mget_mem {z:α}{m:List (κ×α)}{k:κ}(h:mhas m k=true):(k,mget z m k)∈m:=by
 induction m with
 |nil=>simp[mhas]at h
 |cons p r E=>
  obtain⟨a,y⟩:=p
  simp only[mhas]at h
  by_cases hk:k=a
  ·subst hk;simp[mget]
  ·rw[if_neg hk]at h;simp only[mget];rw[if_neg hk];exact Qb _ (E h)
theorem mget_get {z:α}{m:List (κ×α)}{i:Nat}{p:κ×α}(I:(m.map Prod.fst).Nodup)(h:m[i]?=some p):mget z m p.1=p.2∧mhas m p.1=true:=by
 induction m generalizing i with
 |nil=>simp at h
 |cons q r J=>
  obtain⟨a,y⟩:=q
  rw[Qv,Q8]at I
  cases i with
  |zero=>simp at h;subst h;simp[mget,mhas]
  |succ i=>
   rw[Wc]at h
   have E:p.1≠a:=fun e=>I.1 (by rw[←e];exact Wh.2 ⟨p,Qh h,rfl⟩)
   simp only[mget,mhas]
   rw[if_neg E,if_neg E]
   exact J I.2 h
theorem mins_keys (m:List (κ×α))(k:κ)(x:α):(mins m k x).map Prod.fst=if mhas m k then m.map Prod.fst else m.map Prod.fst++[k]:=by
 induction m with
 |nil=>simp[mins,mhas]
 |cons p r E=>
  obtain⟨a,y⟩:=p
  unfold mins
  by_cases h:k=a
  ·subst h;simp[mhas]
  ·rw[if_neg h]
   simp only[Qv,E,mhas,if_neg h]
   split<;>simp
theorem mhas_iff (m:List (κ×α))(k:κ):mhas m k=true↔k∈m.map Prod.fst:=by
 induction m with
 |nil=>simp[mhas]
 |cons p r E=>
  obtain⟨a,y⟩:=p
  simp only[mhas,Qv,Qg]
  by_cases h:k=a
  ·simp[h]
  ·rw[if_neg h,E];simp[h]
theorem mins_nodup {m:List (κ×α)}(h:(m.map Prod.fst).Nodup)(k:κ)(x:α):((mins m k x).map Prod.fst).Nodup:=by
 rw[mins_keys]
 by_cases hk:mhas m k=true
 ·rw[if_pos hk];exact h
 ·rw[if_neg hk,Wr]
  exact⟨h,by simp,fun a I b E=>by simp at E;subst E;intro e;subst e;exact hk ((mhas_iff _ _).2 I)⟩
theorem Qgc (m:List (κ×α))(k:κ):loc k (m.map Prod.fst)=none↔mhas m k=false:=by
 induction m with
 |nil=>simp[loc,mhas]
 |cons p r E=>
  obtain⟨a,y⟩:=p
  simp only[Qv,loc,mhas]
  by_cases h:k=a
  ·simp[h]
  ·rw[if_neg h,if_neg h,Option.map_eq_none_iff,E]
theorem Qbv {m:List (κ×α)}{k:κ}{i:Nat}(h:loc k (m.map Prod.fst)=some i)(z:α):m[i]?=some (k,mget z m k):=by
 induction m generalizing i with
 |nil=>simp[loc]at h
 |cons p r E=>
  obtain⟨a,y⟩:=p
  simp only[Qv,loc]at h
  by_cases hk:k=a
  ·subst hk;simp at h;subst h;simp[mget]
  ·rw[if_neg hk,X1]at h
   obtain⟨j,I,rfl⟩:=h
   simp only[Wc,mget]
   rw[if_neg hk];exact E I
theorem Qak {m:List (κ×α)}{k:κ}(x:α):mins m k x=match loc k (m.map Prod.fst)with
  |some i=>m.modify i fun p=>(p.1,x)
  |none=>m++[(k,x)]:=by
 induction m with
 |nil=>simp[mins,loc]
 |cons p r E=>
  obtain⟨a,y⟩:=p
  simp only[Qv,loc,mins]
  by_cases hk:k=a
  ·subst hk;simp
  ·rw[if_neg hk,if_neg hk,E]
   cases loc k (r.map Prod.fst)<;>simp
end
section
variable {P:Program}{kt:TypeId}{κ:Type}[DecidableEq κ]{enc:κ→Value}
theorem Qcy {d:TypeDesc}(h: ∀a b,Instr.sameNow d (enc a) (enc b)=some (decide (a=b)))(k:κ): ∀(es:List MapEntry) (ks:List κ) (n:Nat),es.map (·.key)=ks.map enc→
  Instr.findNow d (enc k) es n=some ((loc k ks).bind fun i=>(es[i]?).map fun e=>(n+i,e.val))
 | [],[],n,_=>rfl
 | [],_::_,_,h=>by cases h
 |_::_,[],_,h=>by cases h
 |e::es,a::ks,n,hk=>by
  simp only[Qv,Jb]at hk
  unfold Instr.findNow
  rw[hk.1,h]
  by_cases E:k=a
  ·simp[loc,E]
  ·simp only[E,decide_false,loc,if_false]
   rw[Qcy h k es ks (n+1) hk.2]
   cases loc k ks with
   |none=>rfl
   |some i=>simp[Nat.add_assoc,Y3 1 i]
theorem Qbq (h: ∀a b w,(Op.equal kt (enc a) (enc b)).run P w=.ok (decide (a=b)) w)(k:κ)(w:World): ∀(es:List MapEntry) (ks:List κ) (n:Nat),es.map (·.key)=ks.map enc→
  (Instr.findAsking kt (enc k) es n).run P w=.ok ((loc k ks).bind fun i=>(es[i]?).map fun e=>(n+i,e.val)) w
 | [],[],n,_=>rfl
 | [],_::_,_,h=>by cases h
 |_::_,[],_,h=>by cases h
 |e::es,a::ks,n,hk=>by
  simp only[Qv,Jb]at hk
  unfold Instr.findAsking
  rw[Sem.run_bind,hk.1,h,Result.andThen_ok]
  by_cases E:k=a
  ·simp[loc,E]
  ·simp only[E,decide_false,loc,if_false,Qs]
   rw[Qbq h k w es ks (n+1) hk.2]
   cases loc k ks with
   |none=>rfl
   |some i=>simp[Nat.add_assoc,Y3 1 i]
theorem Qam (K:Ky P kt enc)(k:κ)(w:World)(es:List MapEntry)(ks:List κ)(h:es.map (·.key)=ks.map enc):
  (Instr.findKey kt (enc k) es).run P w=.ok ((loc k ks).bind fun i=>(es[i]?).map fun e=>(i,e.val)) w:=by
 obtain⟨d,I,E⟩:=K.now
 unfold Instr.findKey
 rw[Sem.run_bind,run_underlying I,Result.andThen_ok]
 rcases E with E|E
 ·rw[Qcy E k es ks 0 h]
  simp only[Sem.run_pure,Ws]
 ·cases es with
  |nil=>
   cases ks with
   |nil=>rfl
   |cons a ks=>cases h
  |cons e es=>
   have:Instr.findNow d (enc k) (e::es) 0=none:=by
    cases ks with
    |nil=>cases h
    |cons a ks=>
     simp only[Qv,Jb]at h
     unfold Instr.findNow;rw[h.1,E]
   rw[this]
   have:=Qbq K.eq k w (e::es) ks 0 h
   simpa using this
end
def MapC (w:World)(b:Nat)(es:List (Value×Value)):Prop:=
 ∃(arr:List MapEntry) (clock:Nat),w.heap[b]?=some (.map arr.toArray clock)∧arr.map (fun e=>(e.key,e.val))=es∧(∀e,e∈arr→e.born<clock)∧(arr.map (·.born)).Nodup
theorem MapC.lt {w:World}{b:Nat}{es:List (Value×Value)}(h:MapC w b es):b<w.heap.size:=by obtain⟨_,_,h,_⟩:=h;exact(Qn.1 h).1
theorem MapC.ch {w w':World}{b:Nat}{es:List (Value×Value)}{S:List Nat}(h:MapC w b es)(E:Ch S w w')(I:b∉S):MapC w' b es:=by
 have J:=h.lt
 obtain⟨arr,c,L,N⟩:=h
 exact⟨arr,c,(E.block b J I).trans L,N⟩
def vof (agg:Bool)(cs:List Value):Value:=bif agg then .agg cs.toArray else cs.headD undef
def Mt {κ:Type}(enc:κ→Value)(t:Ty)(agg:Bool)(w:World)(F:Nat→Prop)(b:Nat)(m:List (κ×t.den)):Prop:=
 ∃es,MapC w b es∧es.length=m.length∧∀(i:Nat) (p:κ×t.den),m[i]?=some p→∃cs,es[i]?=some (enc p.1,vof agg cs)∧t.rep w F cs p.2
section
variable {κ:Type}{enc:κ→Value}{t:Ty}{agg:Bool}{w w':World}{F F':Nat→Prop}{b:Nat}{m:List (κ×t.den)}
theorem Mt.lt (h:Mt enc t agg w F b m):b<w.heap.size:=by obtain⟨_,h,_⟩:=h;exact h.lt
theorem Mt.to {S:List Nat}(h:Mt enc t agg w F b m)(E:Ch S w w')(I:b∉S)(J: ∀b,F b→b<w.heap.size→b∉S∧F' b):Mt enc t agg w' F' b m:=by
 obtain⟨es,L,N,O⟩:=h
 refine⟨es,L.ch E I,N,fun i p hp=>?_⟩
 obtain⟨cs,V,W⟩:=O i p hp
 exact⟨cs,V,rep_to W E J⟩
end
section
variable {r:Option Nat}{P:Program}{ops:Array Oper}{Q:Exit→Act→World→Prop}{a:Act}{w:World}{rest:List Oper}{n:Nat}{ds:List Deferred}{l:List (Nat×Value)}{d:Nat}{T:TypeId}{pos:String}{af:Array Edge}
variable {κ:Type}{enc:κ→Value}{tt:TypeId}{t:Ty}{agg:Bool}{F:Nat→Prop}{m:List (κ×t.den)}
theorem st_makeMap {x:Option Operand}(E:x=none)(I:Fr a n ds l)(J:Nat.ble (d+1) n=true)(enc:κ→Value)(t:Ty)(agg:Bool)(F:Nat→Prop)
  (h: ∀g w' a',g=w.heap.size→w'.heap.size=g+1→Mt enc t agg w' F g []→Ch [] w w'→Fr a' n ds ((d,.map (some g))::l)→WL r P ops Q rest a' w'):
  WL r P ops Q (⟨some d,.makeMap tt x,T,pos,af,none⟩::rest) a w:=by
 subst E
 refine valw (w':=w.alloc (.map #[] 0)) (v:=.map (some w.heap.size)) I J (by simp[execOp,Instr.makeMap]) fun a' hf'=>h _ _ a' rfl (by simp) ⟨[],⟨[],0,heap_alloc_new w _,rfl,by simp,by simp⟩,rfl,fun i p hp=>by simp at hp⟩ (Ch.alloc w _) hf'
theorem Qij {arr:List MapEntry}{es:List (Value×Value)}(I:arr.map (fun e=>(e.key,e.val))=es)(N:es.length=m.length)(J: ∀(i:Nat) (p:κ×t.den),m[i]?=some p→∃cs,es[i]?=some (enc p.1,vof agg cs)∧t.rep w F cs p.2):arr.map (·.key)=(m.map Prod.fst).map enc:=by
 have e1:arr.map (·.key)=es.map Prod.fst:=by rw[←I,List.map_map];rfl
 rw[e1]
 refine Wx fun i=>?_
 simp only[Qp]
 cases E:m[i]? with
 |none=>
  have:=Yv.1 E
  rw[Wk (by omega)];rfl
 |some p=>
  obtain⟨cs,L,_⟩:=J i p E
  rw[L];rfl
end
section
variable {r:Option Nat}{P:Program}{ops:Array Oper}{Q:Exit→Act→World→Prop}{a:Act}{w:World}{rest:List Oper}{n:Nat}{ds:List Deferred}{l:List (Nat×Value)}{d:Nat}{T:TypeId}{pos:String}{af:Array Edge}
variable {κ:Type}[DecidableEq κ]{enc:κ→Value}{kt et tt:TypeId}{t:Ty}{agg:Bool}{F:Nat→Prop}{b:Nat}{m:List (κ×t.den)}
theorem run_lookup {x:Value}{zs:List Value}(K:Ky P kt enc)(V:P.underlying tt=some (.map kt et))(hz: ∀w,(zeroValue et).run P w=.ok (vof agg zs) w){z:t.den}(L:t.rep w F zs z)(hm:Mt enc t agg w F b m)(hx:x=.map (some b))(k:κ)(ok:Bool):
  ∃cs,(Instr.lookup tt x (enc k) ok).run P w=.ok (if ok then .tuple #[vof agg cs,.bool (mhas m k)]else vof agg cs) w∧t.rep w F cs (mget z m k):=by
 subst hx
 obtain⟨es,⟨arr,clock,hb,W,_⟩,hl,h3⟩:=hm
 have hk:=Qij W hl h3
 have hfind:=Qam K k w arr (m.map Prod.fst) hk
 have hget:(getObj b).run P w=.ok (.map arr.toArray clock) w:=by simp[getObj,Sem.run,hb]
 cases hloc:loc k (m.map Prod.fst)with
 |none=>
  rw[hloc]at hfind
  have I:=(Qgc m k).1 hloc
  refine⟨zs,?_,by rw[mget_none I];exact L⟩
  simp only[Instr.lookup,Sem.run_bind,run_underlying V,Result.andThen_ok,hget,Sem.run_pure,K.check,hfind,X8,hz,I]
 |some i=>
  rw[hloc]at hfind
  have N:=Qbv hloc z
  obtain⟨cs,E,h5⟩:=h3 i _ N
  have I:mhas m k=true:=by
   cases hc:mhas m k with
   |true=>rfl
   |false=>rw[(Qgc m k).2 hc]at hloc;cases hloc
  have harr: ∃e,arr[i]?=some e∧e.val=vof agg cs:=by
   rw[←W,Qp]at E
   cases J:arr[i]? with
   |none=>rw[J]at E;cases E
   |some e=>rw[J]at E;injection E with E;injection E with _ E;exact⟨e,rfl,E⟩
  obtain⟨e,J,O⟩:=harr
  refine⟨cs,?_,h5⟩
  simp only[Instr.lookup,Sem.run_bind,run_underlying V,Result.andThen_ok,hget,Sem.run_pure,K.check,hfind,Qa,J,Wb,O,I]
theorem st_lookup {x y:Operand}(E:Fr a n ds l)(J:Nat.ble (d+1) n=true)(K:Ky P kt enc)(L:P.underlying tt=some (.map kt et)){zs:List Value}(N: ∀w,(zeroValue et).run P w=.ok (vof agg zs) w)(z:t.den)(I:t.rep w F zs z)(O:Mt enc t agg w F b m)
  (V:ev l x=some (.map (some b))) (k:κ) (W:ev l y=some (enc k))
  (h: ∀cs a',t.rep w F cs (mget z m k)→Fr a' n ds ((d,vof agg cs)::l)→WL r P ops Q rest a' w):WL r P ops Q (⟨some d,.lookup tt x y false,T,pos,af,none⟩::rest) a w:=by
 obtain⟨cs,h1,h2⟩:=run_lookup (zs:=zs) K L N I O rfl k false
 refine valw (w':=w) (v:=vof agg cs) E J ?_ fun a' hf'=>h cs a' h2 hf'
 simp only[execOp,E.eval V,E.eval W,Sem.run_bind,h1,Result.andThen_ok,Sem.run_pure,Qs,if_false]
theorem st_lookup2 {x y:Operand}(E:Fr a n ds l)(J:Nat.ble (d+1) n=true)(K:Ky P kt enc)(L:P.underlying tt=some (.map kt et)){zs:List Value}(N: ∀w,(zeroValue et).run P w=.ok (vof agg zs) w)(z:t.den)(I:t.rep w F zs z)(O:Mt enc t agg w F b m)
  (V:ev l x=some (.map (some b))) (k:κ) (W:ev l y=some (enc k))
  (h: ∀cs a',t.rep w F cs (mget z m k)→Fr a' n ds ((d,.tuple #[vof agg cs,.bool (mhas m k)])::l)→WL r P ops Q rest a' w):WL r P ops Q (⟨some d,.lookup tt x y true,T,pos,af,none⟩::rest) a w:=by
 obtain⟨cs,h1,h2⟩:=run_lookup (zs:=zs) K L N I O rfl k true
 refine valw (w':=w) (v:=.tuple #[vof agg cs,.bool (mhas m k)]) E J ?_ fun a' hf'=>h cs a' h2 hf'
 simp only[execOp,E.eval V,E.eval W,Sem.run_bind,h1,Result.andThen_ok,Sem.run_pure,if_true]
theorem MapC.set {arr:List MapEntry}{clock:Nat}{b:Nat}{w:World}(E:w.heap[b]?=some (.map arr.toArray clock))(o:Obj):(setObj b o).run P w=.ok () (w.putObj b o):=by
 have I:=(Qn.1 E).1
 simp[setObj,Sem.run,World.putObj,E]
theorem Qgl (K:Ky P kt enc)(ht:P.underlying tt=some (.map kt et))(hm:Mt enc t agg w F b m)(k:κ){v:Value}{cs:List Value}(hv:v=vof agg cs){y:t.den}(hr:t.rep w F cs y)(hF: ∀b',F b'→b'≠b):
  ∃w',(Instr.mapUpdate tt (.map (some b)) (enc k) v).run P w=.ok () w'∧Ch [b] w w'∧w'.heap.size=w.heap.size∧Mt enc t agg w' F b (mins m k y):=by
 subst hv
 have N:=hm.lt
 obtain⟨es,⟨arr,clock,hb,h1,h4,h5⟩,O,h3⟩:=hm
 have hk:=Qij h1 O h3
 have hfind:=Qam K k w arr (m.map Prod.fst) hk
 have hget:(getObj b).run P w=.ok (.map arr.toArray clock) w:=by simp[getObj,Sem.run,hb]
 have hlen:arr.length=m.length:=by rw[←O,←h1,Qr]
 have step: ∀o,∀cs' x,t.rep w F cs' x→t.rep (w.putObj b o) F cs' x:=fun o cs' x h=>rep_to h (Ch.putObj w b o) fun b' hb' _=>⟨by simp only[Qi];exact hF b' hb',hb'⟩
 cases hloc:loc k (m.map Prod.fst)with
 |none=>
  rw[hloc]at hfind
  refine⟨w.putObj b (.map (arr.toArray.push {key:=enc k,val:=vof agg cs,born:=clock}) (clock+1)),?_,Ch.putObj w b _,by simp,?_⟩
  ·simp only[Instr.mapUpdate,Sem.run_bind,run_underlying ht,Result.andThen_ok,hget,K.check,hfind,X8,MapC.set hb]
  ·rw[Qak,hloc]
   refine⟨es++[(enc k,vof agg cs)],⟨arr++[{key:=enc k,val:=vof agg cs,born:=clock}],clock+1,?_,by simp[h1],?_,?_⟩,by simp[O],fun i p hp=>?_⟩
   ·have:=World.putObj_heap_same (o:=.map (arr.toArray.push {key:=enc k,val:=vof agg cs,born:=clock}) (clock+1)) N
    simpa using this
   ·intro e I
    rcases Qu.1 I with I|I
    ·have:=h4 e I;omega
    ·simp at I;subst I;simp
   ·rw[Xb,Wr]
    refine⟨h5,by simp,fun x hx y hy=>?_⟩
    simp at hy;subst hy
    obtain⟨e,I,rfl⟩:=Wh.1 hx
    have:=h4 e I;omega
   ·by_cases hi:i<m.length
    ·rw[Q5 hi]at hp
     obtain⟨cs',h6,h7⟩:=h3 i p hp
     exact⟨cs',by rw[Q5 (by omega)];exact h6,step _ _ _ h7⟩
    ·rw[Q1 (by omega)]at hp
     have V:i-m.length=0:=by
      have:=(Qc.1 hp).1;simp at this;omega
     rw[V]at hp;simp at hp;subst hp
     exact⟨cs,by rw[Q1 (by omega),O,V];rfl,step _ _ _ hr⟩
 |some i=>
  rw[hloc]at hfind
  have J:=Qbv hloc y
  have hil:=(Qc.1 J).1
  obtain⟨e,I⟩: ∃e,arr[i]?=some e:=⟨_,Qe (by omega)⟩
  have hek:e.key=enc k:=by
   have h6:(arr.map (·.key))[i]?=some e.key:=by rw[Qp,I];rfl
   rw[hk,Qp,Qp,J]at h6
   simpa using h6.symm
  have hstay:(Instr.keyThatStays (enc k) (enc k)).run P w=.ok (enc k) w:=by simp[Instr.keyThatStays,K.bits]
  refine⟨w.putObj b (.map (arr.toArray.modify i fun e=>{e with key:=enc k,val:=vof agg cs}) clock),?_,Ch.putObj w b _,by simp,?_⟩
  ·simp only[Instr.mapUpdate,Sem.run_bind,run_underlying ht,Result.andThen_ok,hget,K.check,hfind,Qa,I,Wb,Wy,Ys,hek,hstay,MapC.set hb]
  ·rw[Qak,hloc]
   have hmod:(arr.toArray.modify i fun e=>{e with key:=enc k,val:=vof agg cs})=(arr.modify i fun e=>{e with key:=enc k,val:=vof agg cs}).toArray:=by simp
   refine⟨es.modify i fun _=>(enc k,vof agg cs),⟨arr.modify i fun e=>{e with key:=enc k,val:=vof agg cs},clock,?_,?_,?_,?_⟩,by simp[O],fun j p hp=>?_⟩
   ·have:=World.putObj_heap_same (o:=.map (arr.toArray.modify i fun e=>{e with key:=enc k,val:=vof agg cs}) clock) N
    rw[←hmod];exact this
   ·rw[←h1]
    refine Wx fun j=>?_
    simp only[Qp,Wa]
    by_cases E:i=j
    ·subst E;simp[I]
    ·simp[E]
   ·intro e' he'
    obtain⟨j,L⟩:=Wm.1 he'
    rw[Wa]at L
    cases ha:arr[j]? with
    |none=>rw[ha]at L;simp at L
    |some e0=>
     rw[ha]at L
     have hb0:=h4 e0 (Qh ha)
     simp only[Xg,Wb,Qw]at L
     subst L
     split<;>exact hb0
   ·have:(arr.modify i fun e=>{e with key:=enc k,val:=vof agg cs}).map (·.born)=arr.map (·.born):=by
     refine Wx fun j=>?_
     simp only[Qp,Wa]
     cases arr[j]? with
     |none=>rfl
     |some e0=>simp only[Xg,Wb,Qw];split<;>rfl
    rw[this];exact h5
   ·rw[Wa]at hp
    by_cases E:i=j
    ·subst E
     rw[J]at hp
     simp at hp;subst hp
     refine⟨cs,?_,step _ _ _ hr⟩
     rw[Wa]
     have:es[i]?=some es[i]:=Qe (by omega)
     simp[this]
    ·have hp':m[j]?=some p:=by
      cases W:m[j]? with
      |none=>rw[W]at hp;simp at hp
      |some q=>rw[W]at hp;simpa[E] using hp
     obtain⟨cs',h6,h7⟩:=h3 j p hp'
     refine⟨cs',?_,step _ _ _ h7⟩
     rw[Wa,h6];simp[E]
theorem st_mapUpdate {x y v:Operand}(E:Fr a n ds l)(K:Ky P kt enc)(I:P.underlying tt=some (.map kt et))(J:Mt enc t agg w F b m)(L:ev l x=some (.map (some b)))(k:κ)(N:ev l y=some (enc k)){cs:List Value}(O:ev l v=some (vof agg cs)){u:t.den}(V:t.rep w F cs u)(W: ∀b',F b'→b'≠b)
  (h: ∀w' a',Ch [b] w w'→w'.heap.size=w.heap.size→Mt enc t agg w' F b (mins m k u)→Fr a' n ds l→WL r P ops Q rest a' w'):WL r P ops Q (⟨none,.mapUpdate tt x y v,T,pos,af,none⟩::rest) a w:=by
 obtain⟨w',h1,h2,h3,h4⟩:=Qgl K I J k rfl V W
 refine skipw (w':=w') E ?_ fun a' hf'=>h _ a' h2 h3 h4 hf'
 simp only[execOp,E.eval L,E.eval N,E.eval O,Sem.run_bind,h1,Result.andThen_ok,Sem.run_pure]
end
theorem bbeq (x:ByteArray):(x==x)=true:=by cases x;exact beq_self_eq_true (α:=Array UInt8) _
section
variable {P:Program}{kt:TypeId}
theorem Ky.mkInt {k:IntKind}(h:P.underlying kt=some (.int k)):Ky P kt (fun i:Int=>.int k i):=
 ⟨fun b _ w=>by show(Instr.checkKey b (9999+1) kt _).run P w=_;unfold Instr.checkKey;simp only[Sem.run_bind,run_underlying h,Result.andThen_ok,Sem.run_pure],fun _ _ w=>eq_int (d:=9999) h w,⟨_,h,.inl fun a b=>by simp[Instr.sameNow];exact Bool.beq_eq_decide_eq a b⟩,fun a=>by simp[Instr.sameBits]⟩
theorem Ky.mkAgg {κ:Type}[DecidableEq κ]{enc:κ→Value}{d:TypeDesc}(h:P.underlying kt=some d)(E: ∀a b,Instr.sameNow d (enc a) (enc b)=none)(I: ∀b k w,(Instr.checkKey b 10000 kt (enc k)).run P w=.ok () w)(J: ∀a b,EqV P 10000 kt (enc a) (enc b) (decide (a=b)))(L: ∀a,Instr.sameBits 10000 (enc a) (enc a)=true):Ky P kt enc:=
 ⟨I,fun a b w=>J a b w,⟨d,h,.inr E⟩,L⟩
end
def Rg (w:World)(r b n:Nat)(seen:List Nat):Prop:=
 r≠b∧∃(arr:List MapEntry) (clock since:Nat) (sb:List Nat),w.heap[b]?=some (.map arr.toArray clock)∧arr.length=n∧w.heap[r]?=some (.mapIter (some b) since sb.toArray since)∧since=clock∧
  (∀e,e∈arr→e.born<since)∧(arr.map (·.born)).Nodup∧∀i e,arr[i]?=some e→(e.born∈sb↔i∈seen)
theorem Rg.ch {w w':World}{r b n:Nat}{seen:List Nat}{S:List Nat}(h:Rg w r b n seen)(E:Ch S w w')(L:r∉S)(N:b∉S):Rg w' r b n seen:=by
 obtain⟨O,arr,clock,since,sb,I,V,J,W⟩:=h
 exact⟨O,arr,clock,since,sb,(E.block _ (Qn.1 I).1 N).trans I,V,(E.block _ (Qn.1 J).1 L).trans J,W⟩
section
variable {r:Option Nat}{P:Program}{ops:Array Oper}{Q:Exit→Act→World→Prop}{a:Act}{w:World}{rest:List Oper}{n:Nat}{ds:List Deferred}{l:List (Nat×Value)}{d:Nat}{T:TypeId}{pos:String}{af:Array Edge}
theorem Qjj {x:Operand}{tt kt et:TypeId}{b:Nat}{es:List (Value×Value)}(I:Fr a n ds l)(N:Nat.ble (d+1) n=true)(O:P.underlying tt=some (.map kt et))(V:ev l x=some (.map (some b)))(J:MapC w b es)
  (h: ∀g w' a',g=w.heap.size→w'.heap.size=g+1→Rg w' g b es.length []→Ch [] w w'→Fr a' n ds ((d,.pointer (some ⟨g,0,none⟩))::l)→WL r P ops Q rest a' w'):
  WL r P ops Q (⟨some d,.range tt x,T,pos,af,none⟩::rest) a w:=by
 have E:=J.lt
 obtain⟨arr,clock,L,W,h4,h5⟩:=J
 have hget:(getObj b).run P w=.ok (.map arr.toArray clock) w:=by simp[getObj,Sem.run,L]
 refine valw (w':=w.alloc (.mapIter (some b) clock #[] clock)) (v:=.pointer (some ⟨w.heap.size,0,none⟩)) I N ?_ fun a' hf'=>h _ _ a' rfl (by simp) ⟨by omega,arr,clock,clock,[],?_,by rw[←W,Qr],heap_alloc_new w _,rfl,h4,h5,by simp⟩ (Ch.alloc w _) hf'
 ·simp[execOp,Instr.range,run_underlying O,I.eval V,hget]
 ·exact(heap_alloc_old w _ E).trans L
def Si (w:World)(g:Nat)(s:ByteArray)(p:Nat):Prop:=w.heap[g]?=some (.stringIter s p)
theorem Si.lt {w:World}{g p:Nat}{s:ByteArray}(h:Si w g s p):g<w.heap.size:=(Qn.1 h).1
theorem Si.ch {w w':World}{g p:Nat}{s:ByteArray}{S:List Nat}(h:Si w g s p)(E:Ch S w w')(I:g∉S):Si w' g s p:=(E.block g h.lt I).trans h
theorem st_rangeStr {x:Operand}{tt:TypeId}{s:ByteArray}(E:Fr a n ds l)(I:Nat.ble (d+1) n=true)(J:P.underlying tt=some .string)(L:ev l x=some (.string s))
  (h: ∀g w' a',g=w.heap.size→w'.heap.size=g+1→Si w' g s 0→Ch [] w w'→Fr a' n ds ((d,.pointer (some ⟨g,0,none⟩))::l)→WL r P ops Q rest a' w'):
  WL r P ops Q (⟨some d,.range tt x,T,pos,af,none⟩::rest) a w:=
 valw (w':=w.alloc (.stringIter s 0)) (v:=.pointer (some ⟨w.heap.size,0,none⟩)) E I (by simp[execOp,Instr.range,run_underlying J,E.eval L]) fun a' hf'=>h _ _ a' rfl (by simp) (heap_alloc_new w _) (Ch.alloc w _) hf'
theorem st_nextStr {x:Operand}{g p:Nat}{s:ByteArray}(E:Fr a n ds l)(I:Nat.ble (d+1) n=true)(J:ev l x=some (.pointer (some ⟨g,0,none⟩)))(hs:Si w g s p)
  (L: ¬p<s.size→∀a',Fr a' n ds ((d,.tuple #[.bool false])::l)→WL r P ops Q rest a' w)
  (N:p<s.size→∀w' a',Ch [g] w w'→w'.heap.size=w.heap.size→Si w' g s (p+(Utf8.decode s p).2)→Fr a' n ds ((d,.tuple #[.bool true,.int .i64 (p:Int),.int .i32 ((Utf8.decode s p).1:Int)])::l)→WL r P ops Q rest a' w'):
  WL r P ops Q (⟨some d,.next x true,T,pos,af,none⟩::rest) a w:=by
 have hget:(getObj g).run P w=.ok (.stringIter s p) w:=by simp[getObj,Sem.run,show w.heap[g]?=_ from hs]
 by_cases hp:p<s.size
 ·have hset:(setObj g (.stringIter s (p+(Utf8.decode s p).2))).run P w=.ok () (w.putObj g (.stringIter s (p+(Utf8.decode s p).2))):=by simp[setObj,Sem.run,World.putObj,show w.heap[g]?=_ from hs]
  refine valw (w':=w.putObj g (.stringIter s (p+(Utf8.decode s p).2))) E I ?_ fun a' hf'=>N hp _ a' (Ch.putObj w g _) (by simp) (World.putObj_heap_same hs.lt) hf'
  simp only[execOp,E.eval J,Instr.next,Sem.run_bind,hget,Result.andThen_ok,hp,if_true,hset,Sem.run_pure,goInt]
 ·refine val E I ?_ fun a' hf'=>L hp a' hf'
  simp only[execOp,E.eval J,Instr.next,Sem.run_bind,hget,Result.andThen_ok,hp,if_false,Sem.run_pure]
def bat (s:ByteArray)(i:Nat):UInt8:=s.data.getD i 0
end
section
variable {r:Option Nat}{P:Program}{ops:Array Oper}{Q:Exit→Act→World→Prop}{a:Act}{w:World}{rest:List Oper}{n:Nat}{ds:List Deferred}{l:List (Nat×Value)}{d:Nat}{T:TypeId}{pos:String}{af:Array Edge}
variable {κ:Type}[DecidableEq κ]{enc:κ→Value}{kt et tt:TypeId}{t:Ty}{agg:Bool}{F:Nat→Prop}{b:Nat}{m:List (κ×t.den)}
theorem r_lookup {d:Option Tmp}{gd:Option (Nat×Bool)}{x y:Operand}{ok:Bool}{X Y v:Value}(h:(Instr.lookup tt X Y ok).run P w=.ok v w)(E:a.eval x=X)(I:a.eval y=Y):(execOp a.eval ⟨d,.lookup tt x y ok,T,pos,af,gd⟩).run P w=.ok (.value v) w:=by
 subst E;subst I
 simp only[execOp,Sem.run_bind,h,Result.andThen_ok,Sem.run_pure]
omit [DecidableEq κ]in
theorem st_rangeMt {x:Operand}(I:Fr a n ds l)(J:Nat.ble (d+1) n=true)(L:P.underlying tt=some (.map kt et))(N:ev l x=some (.map (some b)))(O:Mt enc t agg w F b m)
  (h: ∀g w' a',g=w.heap.size→w'.heap.size=g+1→Rg w' g b m.length []→Ch [] w w'→Fr a' n ds ((d,.pointer (some ⟨g,0,none⟩))::l)→WL r P ops Q rest a' w'):
  WL r P ops Q (⟨some d,.range tt x,T,pos,af,none⟩::rest) a w:=by
 obtain⟨es,E,V,h3⟩:=O
 exact Qjj I J L N E fun g w' a' W h2 h4 h5 h6=>h g w' a' W h2 (V▸h4) h5 h6
end
section
variable {r:Option Nat}{P:Program}{ops:Array Oper}{Q:Exit→Act→World→Prop}{a:Act}{w:World}{rest:List Oper}{n:Nat}{ds:List Deferred}{l:List (Nat×Value)}{d:Nat}{T:TypeId}{pos:String}{af:Array Edge}
theorem Qhj {α:Type}{l new:List α}{p:Nat}(hp:p+new.length≤l.length)(q:Nat):(l.take p++new++l.drop (p+new.length))[q]?=if q<p then l[q]? else if q<p+new.length then new[q-p]? else l[q]?:=by
 have I:(l.take p).length=p:=by rw[Qz];omega
 rw[Qx]
 by_cases h:q<p
 ·rw[if_pos h,Q5 (by omega),Wf h]
 ·rw[if_neg h,Q1 (by omega),I]
  by_cases E:q<p+new.length
  ·rw[if_pos E,Q5 (by omega)]
  ·rw[if_neg E,Q1 (by omega),Xh];congr 1;omega
theorem Qja {α:Type}(l:List α)(i sz q:Nat):((l.drop i).take sz)[q]?=if q<sz then l[i+q]? else none:=by
 rw[Xa];split<;>simp[Xh]
theorem run_storeOwn {t:Ty}{e tt:TypeId}{B:Nat}{F:Nat→Prop}{A:Option Addr}{c:Nat}{xs:List t.den}(h:Own t e B w F A c xs){k o m:Nat}(hk:k<xs.length)(hS: ∀w,(sizeOf tt).run P w=.ok m w)(ho:o+m≤t.size){ad:Addr}(hA:A=some ad)
  {v:Value} {new es:List Value} (hv:v.cells=new.toArray) (hm:new.length=m) (h1: ∀u∈new,u.oneCell'=true) (hes:Cells w (ad.add (k*t.size)) es) (hel:es.length=t.size) {y:t.den} (hy:t.rep w F (es.take o++new++es.drop (o+m)) y) (hF: ∀b,F b→b∉obl A):
  ∃w',(Instr.storeAt tt (.pointer (some ((ad.add (k*t.size)).add o))) v).run P w=.ok () w'∧Ch (obl A) w w'∧w'.heap.size=w.heap.size∧Own t e B w' F A c (xs.set k y):=by
 obtain⟨cells,⟨hl,hrow⟩,h1c,h2⟩:=h
 rcases hrow with⟨I,hn⟩|⟨g,cap,cur,I,J,hg,V,hcm,W,htake⟩
 ·injection I with hA' _ _;subst hA';cases hA
 injection I with hA' _ hc'
 subst hA';subst hc'
 injection hA with hA
 subst hA
 subst hm
 have hks:k*t.size+t.size≤xs.length*t.size:=by
  have:(k+1)*t.size≤xs.length*t.size:=Wd _ hk
  rwa[Xi,Ya]at this
 have hcur:xs.length*t.size≤cur.size:=by rw[W];exact Wd _ V
 have hl:cells.length=xs.length*t.size:=hl
 have hcell: ∀q,q<xs.length*t.size→cur.toList[q]?=cells[q]?:=fun q hq=>by rw[←htake,Wf hq]
 have hBlk:Blk w g e cur.toList:=by unfold Blk;simpa using hg
 have hadd:((⟨g,0,none⟩:Addr).add (k*t.size)).add o=⟨g,k*t.size+o,none⟩:=by rw[Addr.add_lit,Addr.add_lit];simp
 have hst:=run_storeB (P:=P) (o:=k*t.size+o) hBlk hS hv rfl (by simp;omega) h1
 obtain⟨cs',hcs'⟩: ∃cs',cs'=cur.toList.take (k*t.size+o)++new++cur.toList.drop (k*t.size+o+new.length):=⟨_,rfl⟩
 rw[←hcs']at hst
 have hlen':cs'.length=cur.size:=by rw[hcs'];simp;omega
 have L:Ch (obl (some (⟨g,0,none⟩:Addr))) w (w.setRow g cs'.toArray):=Ch.setRow w g _
 have hget: ∀q,q<xs.length*t.size→(cs'.take (xs.length*t.size))[q]?=if q<k*t.size+o then cells[q]? else if q<k*t.size+o+new.length then new[q-(k*t.size+o)]? else cells[q]?:=fun q hq=>by
  rw[Wf hq,hcs',Qhj (by simp;omega),hcell q hq]
 have hesq: ∀q,q<t.size→es[q]?=cells[k*t.size+q]?:=fun q hq=>by
  obtain⟨u,hu⟩: ∃u,es[q]?=some u:=⟨_,Qe (by omega)⟩
  have:=hes q u hu
  rw[Addr.add_lit,Addr.add_lit,hBlk.cell]at this
  rw[hu,←hcell _ (by omega)];simpa using this.symm
 refine⟨_,by rw[hadd];exact hst,L,by simp[World.setRow],cs'.take (xs.length*t.size),⟨by rw[Xc,Qz,hlen',Xr hcur],.inr ⟨g,c,cs'.toArray,by rw[Xc],J,?_,by rw[Xc];exact V,hcm,by rw[Yk,hlen',W],by rw[Xc]⟩⟩,?_,?_⟩
 ·have:=hBlk.setRow (cs':=cs')
  unfold Blk at this;exact this
 ·intro u hu
  obtain⟨q,hq⟩:=Wm.1 hu
  have hql:q<xs.length*t.size:=by have:=(Qc.1 hq).1;rw[Qz]at this;omega
  rw[hget q hql]at hq
  split at hq
  ·exact h1c u (Qh hq)
  ·split at hq
   ·exact h1 u (Qh hq)
   ·exact h1c u (Qh hq)
 ·intro i x N
  have hil:i<xs.length:=by have:=(Qc.1 N).1;rwa[Xc]at this
  have his:i*t.size+t.size≤xs.length*t.size:=by
   have:(i+1)*t.size≤xs.length*t.size:=Wd _ hil
   rwa[Xi,Ya]at this
  by_cases O:i=k
  ·subst O
   rw[Yc hil]at N
   injection N with N
   subst N
   have e1:((cs'.take (xs.length*t.size)).drop (i*t.size)).take t.size=es.take o++new++es.drop (o+new.length):=by
    refine Wx fun q=>?_
    rw[Qja,Qhj (by omega)]
    by_cases hq:q<t.size
    ·rw[if_pos hq,hget _ (by omega),hesq q hq]
     by_cases E:q<o
     ·rw[if_pos (by omega),if_pos E]
     ·rw[if_neg (by omega),if_neg E]
      by_cases h4:q<o+new.length
      ·rw[if_pos (by omega),if_pos h4];congr 1;omega
      ·rw[if_neg (by omega),if_neg h4]
    ·rw[if_neg hq,if_neg (by omega),if_neg (by omega),Wk (by omega)]
   rw[e1]
   exact rep_to hy L fun b J _=>⟨hF b J,J⟩
  ·rw[List.getElem?_set_ne (fun h=>O h.symm)]at N
   have e1:((cs'.take (xs.length*t.size)).drop (i*t.size)).take t.size=(cells.drop (i*t.size)).take t.size:=by
    refine Wx fun q=>?_
    rw[Qja,Qja]
    by_cases hq:q<t.size
    ·rw[if_pos hq,if_pos hq,hget _ (by omega)]
     have:i*t.size+q<k*t.size+o∨k*t.size+o+new.length≤i*t.size+q:=by
      rcases Nat.lt_or_gt_of_ne O with E|E
      ·left
       have:(i+1)*t.size≤k*t.size:=Wd _ E
       rw[Xi,Ya]at this;omega
      ·right
       have:(k+1)*t.size≤i*t.size:=Wd _ E
       rw[Xi,Ya]at this;omega
     rcases this with E|E
     ·rw[if_pos E]
     ·rw[if_neg (by omega),if_neg (by omega)]
    ·rw[if_neg hq,if_neg hq]
   rw[e1]
   exact rep_to (h2 i x N) L fun b J _=>⟨hF b J,J⟩
theorem st_setel {t:Ty}{e tt:TypeId}{B:Nat}{F:Nat→Prop}{A:Option Addr}{c:Nat}{xs:List t.den}{px py:Operand}(E:Fr a n ds l)(h:Own t e B w F A c xs){k o m:Nat}(hk:k<xs.length)(N: ∀w,(sizeOf tt).run P w=.ok m w)(O:Nat.ble (o+m) t.size=true){ad:Addr}(V:A=some ad)
  (W:ev l px=some (.pointer (some ((ad.add (k*t.size)).add o)))) {v:Value} (I:ev l py=some v) {new es:List Value} (hv:v.cells=new.toArray) (hm:new.length=m) (h1: ∀u∈new,u.oneCell'=true) (J:Cells w (ad.add (k*t.size)) es) (L:es.length=t.size) {y:t.den} (hy:t.rep w F (es.take o++new++es.drop (o+m)) y) (hF: ∀b,F b→b∉obl A)
  (hn: ∀w' a',Ch (obl A) w w'→w'.heap.size=w.heap.size→Own t e B w' F A c (xs.set k y)→Fr a' n ds l→WL r P ops Q rest a' w'):WL r P ops Q (⟨none,.store tt px py,T,pos,af,none⟩::rest) a w:=by
 obtain⟨w',h2,h3,h4,h5⟩:=run_storeOwn (P:=P) h hk N (Q0 O) V hv hm h1 J L hy hF
 refine skipw (w':=w') E ?_ fun a' hf'=>hn _ a' h3 h4 h5 hf'
 simp only[execOp,E.eval W,E.eval I,Sem.run_bind,h2,Result.andThen_ok,Sem.run_pure]
end
section
variable {P:Program}{a:Act}{w:World}{n:Nat}{ds:List Deferred}{l:List (Nat×Value)}
def RV (P:Program)(tm:Array Value)(w:World):ResultVar→Value→Prop
 | .tmp t,v=>tm.getD t undef=v
 | .cell p ty,v=>∃ad,tm.getD p undef=.pointer (some ad)∧(loadVar ty ad).run P w=.ok v w
theorem rv_t {t:Nat}{v:Value}(E:Fr a n ds l)(I:lk l t=some v):RV P a.tmps w (.tmp t) v:=E.eval (x:=.tmp t) I
theorem rv_1 {p g:Nat}{ty bt:TypeId}{u:Value}(E:Fr a n ds l)(hp:lk l p=some (.pointer (some ⟨g,0,none⟩)))(I: ∀w,(isAgg ty).run P w=.ok false w)(J:Blk w g bt [u]):RV P a.tmps w (.cell p ty) u:=by
 have L:w.cell? ⟨g,0,none⟩=some u:=J.cell 0
 exact⟨_,E.eval (x:=.tmp p) hp,by simp[loadVar,I,L]⟩
theorem rv_n {p g m:Nat}{ty bt:TypeId}{cs:List Value}(E:Fr a n ds l)(hp:lk l p=some (.pointer (some ⟨g,0,none⟩)))(I: ∀w,(isAgg ty).run P w=.ok true w)(J: ∀w,(sizeOf ty).run P w=.ok m w)(L:Blk w g bt cs)(N:cs.length=m):RV P a.tmps w (.cell p ty) (.agg cs.toArray):=by
 subst N
 refine⟨_,E.eval (x:=.tmp p) hp,?_⟩
 have:=run_loadCells_list (P:=P) w ⟨g,0,none⟩ cs fun j u O=>by rw[Addr.add_lit,L.cell];simpa using O
 simp[loadVar,I,J,this]
theorem resv1 {fn:Func}{E:ResultVar}{J:Value}(h:fn.results=#[E])(I:RV P a.tmps w E J):(results fn a.tmps).run P w=.ok J w:=by
 cases E<;>simp only[RV,W7]at I
 ·simp[results,h,I]
 ·obtain⟨ad,L,N⟩:=I;simp[results,h,L,asAddr,N]
theorem resv2 {fn:Func}{N O:ResultVar}{V W:Value}(h:fn.results=#[N,O])(E:RV P a.tmps w N V)(I:RV P a.tmps w O W):(results fn a.tmps).run P w=.ok (.tuple #[V,W]) w:=by
 cases N<;>cases O<;>simp only[RV,W7]at E I
 ·simp[results,h,E,I]
 ·obtain⟨ad,J,L⟩:=I;simp[results,h,E,J,asAddr,L]
 ·obtain⟨ad,J,L⟩:=E;simp[results,h,I,J,asAddr,L]
 ·obtain⟨ad,J,L⟩:=E;obtain⟨ae,h5,h6⟩:=I;simp[results,h,J,h5,asAddr,L,h6]
theorem retv {fn:Func}{R:Ending→World→Prop}{v:Value}(E:Fr a n [] l)(h:(results fn a.tmps).run P w=.ok v w)(I:R (.returned v) w):bodyPost P fn R .ret a w:=bodyPost_ret h E.defs I
theorem endv {fn:Func}{R:Ending→World→Prop}{v:Value}(E:Fr a n [] l)(h:(results fn a.tmps).run P w=.ok v w)(I:R (.returned v) w):bodyPost P fn R .normal a w:=bodyPost_end h E.defs I
end
end Go.Z
end
section
namespace Go.Proofs.YtlhiofnikdppeaaGreatDoor
theorem eqin41 {x y:D40}(d:Nat):Z.EqV Tryz.prog (d+2) 41 (.agg #[.int .i64 x.1,.int .i64 x.2.1,.string x.2.2]) (.agg #[.int .i64 y.1,.int .i64 y.2.1,.string y.2.2]) (decide (x=y)):=by
 have h:Z.EqV Tryz.prog (d+2) 41 (.agg #[.int .i64 x.1,.int .i64 x.2.1,.string x.2.2]) (.agg #[.int .i64 y.1,.int .i64 y.2.1,.string y.2.2]) (decide (x.1=y.1)&&(decide (x.2.1=y.2.1)&&(decide (x.2.2=y.2.2)&&true))):=Z.eq_struct Tryz.underlying41 (by kernel_rfl) (Z.eqf_cons rfl (fun w=>Z.part_one w Tryz.isAgg3 rfl) (fun w=>Z.part_one w Tryz.isAgg3 rfl) (Z.eq_int (d:=d+0) Tryz.underlying3) (Z.eqf_cons rfl (fun w=>Z.part_one w Tryz.isAgg2 rfl) (fun w=>Z.part_one w Tryz.isAgg2 rfl) (Z.eq_int (d:=d+0) Tryz.underlying2) (Z.eqf_cons rfl (fun w=>Z.part_one w Tryz.isAgg9 rfl) (fun w=>Z.part_one w Tryz.isAgg9 rfl) (Z.eq_str (d:=d+0) Tryz.underlying9) Z.eqf_nil)))
 have e:decide (x=y)=(decide (x.1=y.1)&&(decide (x.2.1=y.2.1)&&(decide (x.2.2=y.2.2)&&true))):=by simp only[Z.decide_pair,Yf]
 rw[e];exact h
theorem eqagg_eql41 {x y:D40}{a:Act}{w:World}{dd:Option Tmp}{T ty:TypeId}{pos:String}{af:Array Edge}{gd:Option (Nat×Bool)}{X Y:Operand}(E:a.eval X=.agg #[.int .i64 x.1,.int .i64 x.2.1,.string x.2.2])(I:a.eval Y=.agg #[.int .i64 y.1,.int .i64 y.2.1,.string y.2.2]):(execOp a.eval ⟨dd,.binOp .eql 41 X Y ty,T,pos,af,gd⟩).run Tryz.prog w=.ok (.value (.bool (decide (x=y)))) w:=Z.r_eqagg (eqin41 9998) (by kernel_rfl) E I
theorem eqagg_neq41 {x y:D40}{a:Act}{w:World}{dd:Option Tmp}{T ty:TypeId}{pos:String}{af:Array Edge}{gd:Option (Nat×Bool)}{X Y:Operand}(E:a.eval X=.agg #[.int .i64 x.1,.int .i64 x.2.1,.string x.2.2])(I:a.eval Y=.agg #[.int .i64 y.1,.int .i64 y.2.1,.string y.2.2]):(execOp a.eval ⟨dd,.binOp .neq 41 X Y ty,T,pos,af,gd⟩).run Tryz.prog w=.ok (.value (.bool (decide (x≠y)))) w:=Z.r_neagg (eqin41 9998) (by kernel_rfl) E I
theorem eqin50 {x y:D49}(d:Nat):Z.EqV Tryz.prog (d+2) 50 (.agg #[.int .i64 x.1,.int .i64 x.2.1,.string x.2.2.1,.int .i64 x.2.2.2]) (.agg #[.int .i64 y.1,.int .i64 y.2.1,.string y.2.2.1,.int .i64 y.2.2.2]) (decide (x=y)):=by
 have h:Z.EqV Tryz.prog (d+2) 50 (.agg #[.int .i64 x.1,.int .i64 x.2.1,.string x.2.2.1,.int .i64 x.2.2.2]) (.agg #[.int .i64 y.1,.int .i64 y.2.1,.string y.2.2.1,.int .i64 y.2.2.2]) (decide (x.1=y.1)&&(decide (x.2.1=y.2.1)&&(decide (x.2.2.1=y.2.2.1)&&(decide (x.2.2.2=y.2.2.2)&&true)))):=Z.eq_struct Tryz.underlying50 (by kernel_rfl) (Z.eqf_cons rfl (fun w=>Z.part_one w Tryz.isAgg3 rfl) (fun w=>Z.part_one w Tryz.isAgg3 rfl) (Z.eq_int (d:=d+0) Tryz.underlying3) (Z.eqf_cons rfl (fun w=>Z.part_one w Tryz.isAgg2 rfl) (fun w=>Z.part_one w Tryz.isAgg2 rfl) (Z.eq_int (d:=d+0) Tryz.underlying2) (Z.eqf_cons rfl (fun w=>Z.part_one w Tryz.isAgg9 rfl) (fun w=>Z.part_one w Tryz.isAgg9 rfl) (Z.eq_str (d:=d+0) Tryz.underlying9) (Z.eqf_cons rfl (fun w=>Z.part_one w Tryz.isAgg2 rfl) (fun w=>Z.part_one w Tryz.isAgg2 rfl) (Z.eq_int (d:=d+0) Tryz.underlying2) Z.eqf_nil))))
 have e:decide (x=y)=(decide (x.1=y.1)&&(decide (x.2.1=y.2.1)&&(decide (x.2.2.1=y.2.2.1)&&(decide (x.2.2.2=y.2.2.2)&&true)))):=by simp only[Z.decide_pair,Yf]
 rw[e];exact h
theorem eqagg_eql50 {x y:D49}{a:Act}{w:World}{dd:Option Tmp}{T ty:TypeId}{pos:String}{af:Array Edge}{gd:Option (Nat×Bool)}{X Y:Operand}(E:a.eval X=.agg #[.int .i64 x.1,.int .i64 x.2.1,.string x.2.2.1,.int .i64 x.2.2.2])(I:a.eval Y=.agg #[.int .i64 y.1,.int .i64 y.2.1,.string y.2.2.1,.int .i64 y.2.2.2]):(execOp a.eval ⟨dd,.binOp .eql 50 X Y ty,T,pos,af,gd⟩).run Tryz.prog w=.ok (.value (.bool (decide (x=y)))) w:=Z.r_eqagg (eqin50 9998) (by kernel_rfl) E I
theorem eqagg_neq50 {x y:D49}{a:Act}{w:World}{dd:Option Tmp}{T ty:TypeId}{pos:String}{af:Array Edge}{gd:Option (Nat×Bool)}{X Y:Operand}(E:a.eval X=.agg #[.int .i64 x.1,.int .i64 x.2.1,.string x.2.2.1,.int .i64 x.2.2.2])(I:a.eval Y=.agg #[.int .i64 y.1,.int .i64 y.2.1,.string y.2.2.1,.int .i64 y.2.2.2]):(execOp a.eval ⟨dd,.binOp .neq 50 X Y ty,T,pos,af,gd⟩).run Tryz.prog w=.ok (.value (.bool (decide (x≠y)))) w:=Z.r_neagg (eqin50 9998) (by kernel_rfl) E I
theorem eqin92 {x y:D91}(d:Nat):Z.EqV Tryz.prog (d+2) 92 (.agg #[.int .i64 x.1,.string x.2]) (.agg #[.int .i64 y.1,.string y.2]) (decide (x=y)):=by
 have h:Z.EqV Tryz.prog (d+2) 92 (.agg #[.int .i64 x.1,.string x.2]) (.agg #[.int .i64 y.1,.string y.2]) (decide (x.1=y.1)&&(decide (x.2=y.2)&&true)):=Z.eq_struct Tryz.underlying92 (by kernel_rfl) (Z.eqf_cons rfl (fun w=>Z.part_one w Tryz.isAgg2 rfl) (fun w=>Z.part_one w Tryz.isAgg2 rfl) (Z.eq_int (d:=d+0) Tryz.underlying2) (Z.eqf_cons rfl (fun w=>Z.part_one w Tryz.isAgg9 rfl) (fun w=>Z.part_one w Tryz.isAgg9 rfl) (Z.eq_str (d:=d+0) Tryz.underlying9) Z.eqf_nil))
 have e:decide (x=y)=(decide (x.1=y.1)&&(decide (x.2=y.2)&&true)):=by simp only[Z.decide_pair,Yf]
 rw[e];exact h
theorem eqin94 {x y:D93}(d:Nat):Z.EqV Tryz.prog (d+3) 94 (.agg #[.int .i64 x.1,.int .i64 x.2.1,.string x.2.2]) (.agg #[.int .i64 y.1,.int .i64 y.2.1,.string y.2.2]) (decide (x=y)):=by
 have h:Z.EqV Tryz.prog (d+3) 94 (.agg #[.int .i64 x.1,.int .i64 x.2.1,.string x.2.2]) (.agg #[.int .i64 y.1,.int .i64 y.2.1,.string y.2.2]) (decide (x.1=y.1)&&(decide (x.2=y.2)&&true)):=Z.eq_struct Tryz.underlying94 (by kernel_rfl) (Z.eqf_cons rfl (fun w=>Z.part_one w Tryz.isAgg3 rfl) (fun w=>Z.part_one w Tryz.isAgg3 rfl) (Z.eq_int (d:=d+1) Tryz.underlying3) (Z.eqf_cons rfl (fun w=>Z.part_agg w Tryz.isAgg92 Tryz.sizeOf92 rfl) (fun w=>Z.part_agg w Tryz.isAgg92 Tryz.sizeOf92 rfl) (eqin92 (x:=x.2) (y:=y.2) d) Z.eqf_nil))
 have e:decide (x=y)=(decide (x.1=y.1)&&(decide (x.2=y.2)&&true)):=by simp only[Z.decide_pair,Yf]
 rw[e];exact h
theorem eqin162 {x y:D161}(d:Nat):Z.EqV Tryz.prog (d+2) 162 (.agg #[.int .i64 x.1,.int .i64 x.2]) (.agg #[.int .i64 y.1,.int .i64 y.2]) (decide (x=y)):=by
 have h:Z.EqV Tryz.prog (d+2) 162 (.agg #[.int .i64 x.1,.int .i64 x.2]) (.agg #[.int .i64 y.1,.int .i64 y.2]) (decide (x.1=y.1)&&(decide (x.2=y.2)&&true)):=Z.eq_struct Tryz.underlying162 (by kernel_rfl) (Z.eqf_cons rfl (fun w=>Z.part_one w Tryz.isAgg3 rfl) (fun w=>Z.part_one w Tryz.isAgg3 rfl) (Z.eq_int (d:=d+0) Tryz.underlying3) (Z.eqf_cons rfl (fun w=>Z.part_one w Tryz.isAgg3 rfl) (fun w=>Z.part_one w Tryz.isAgg3 rfl) (Z.eq_int (d:=d+0) Tryz.underlying3) Z.eqf_nil))
 have e:decide (x=y)=(decide (x.1=y.1)&&(decide (x.2=y.2)&&true)):=by simp only[Z.decide_pair,Yf]
 rw[e];exact h
theorem eqagg_eql162 {x y:D161}{a:Act}{w:World}{dd:Option Tmp}{T ty:TypeId}{pos:String}{af:Array Edge}{gd:Option (Nat×Bool)}{X Y:Operand}(E:a.eval X=.agg #[.int .i64 x.1,.int .i64 x.2])(I:a.eval Y=.agg #[.int .i64 y.1,.int .i64 y.2]):(execOp a.eval ⟨dd,.binOp .eql 162 X Y ty,T,pos,af,gd⟩).run Tryz.prog w=.ok (.value (.bool (decide (x=y)))) w:=Z.r_eqagg (eqin162 9998) (by kernel_rfl) E I
theorem ky3:Z.Ky Tryz.prog 3 (fun i:Int=>.int .i64 i):=Z.Ky.mkInt Tryz.underlying3
theorem ky94:Z.Ky Tryz.prog 94 (fun x:D93=>.agg #[.int .i64 x.1,.int .i64 x.2.1,.string x.2.2]):=Z.Ky.mkAgg Tryz.underlying94 (fun _ _=>rfl) (fun _ _ _=>by kernel_rfl) (fun _ _=>eqin94 9997) (fun _=>by simp[Instr.sameBits,Z.bbeq])
theorem ky162:Z.Ky Tryz.prog 162 (fun x:D161=>.agg #[.int .i64 x.1,.int .i64 x.2]):=Z.Ky.mkAgg Tryz.underlying162 (fun _ _=>rfl) (fun _ _ _=>by kernel_rfl) (fun _ _=>eqin162 9998) (fun _=>by simp[Instr.sameBits,Z.bbeq])
end Go.Proofs.YtlhiofnikdppeaaGreatDoor
end
section
namespace Go.A
open Go.RowKit Go.Z
def Row (t:Ty)(w:World)(F G:Nat→Prop)(A:Option Addr)(c:Nat)(xs:List t.den):Prop:=
 xs.length≤c∧c≤maxLen∧∃cells:List Value,cells.length=xs.length*t.size∧
  (xs.length=0∨∃b o,A=some ⟨b,o,none⟩∧G b∧∀j u,cells[j]?=some u→w.cell? ⟨b,o+j,none⟩=some u)∧
  ∀(i:Nat) (x:t.den),xs[i]?=some x→t.rep w F ((cells.drop (i*t.size)).take t.size) x
section
variable {t:Ty}{w w':World}{F F' G G':Nat→Prop}{A:Option Addr}{c:Nat}{xs:List t.den}
theorem Row.of (h:(Ty.slice t).rep w F [.slice A xs.length c] xs):Row t w F F A c xs:=by
 obtain⟨A',c',cells,E,I,J,L,N,h6⟩:=h
 injection E with E;injection E with O W V
 subst O;subst V
 exact⟨I,J,cells,L,N,h6⟩
theorem Row.to {S:List Nat}(h:Row t w F G A c xs)(J:Ch S w w')(O: ∀b,F b→b<w.heap.size→b∉S∧F' b)(V: ∀b,G b→b<w.heap.size→b∉S∧G' b):Row t w' F' G' A c xs:=by
 obtain⟨W,h3,cells,L,I,h6⟩:=h
 refine⟨W,h3,cells,L,?_,fun i x hi=>rep_to (h6 i x hi) J O⟩
 by_cases N:xs.length=0
 ·exact .inl N
 ·rcases I with I|⟨b,o,hA,hb,hcell⟩
  ·exact absurd I N
  ·have h0:0<cells.length:=by rw[L];exact Nat.mul_pos (by omega) (Qao t)
   have E:=World.block_lt_of_cell? w _ (hcell 0 _ (Qe h0))
   obtain⟨h7,h8⟩:=V b hb E
   exact .inr ⟨b,o,hA,h8,fun j u hu=>by rw[J.cell (p:=⟨b,o+j,none⟩) E h7];exact hcell j u hu⟩
theorem Row.own {e:TypeId}{B:Nat}(h:Own t e B w F A c xs)(hA: ∀k,k∈obl A→G k):Row t w F G A c xs:=by
 obtain⟨cells,O,h1,V⟩:=h
 have W:cells.length=xs.length*t.size:=O.1
 rcases O.2 with⟨I,hn⟩|⟨g,cap,cur,I,hb,hg,J,L,hcs,htake⟩
 ·injection I with hA' _ N
  subst hA';subst N
  exact⟨by omega,by simp[maxLen],cells,W,.inl hn,V⟩
 ·injection I with hA' _ N
  subst hA';subst N
  refine⟨J,L,cells,W,.inr ⟨g,0,rfl,hA g (by simp[obl]),fun j u E=>?_⟩,V⟩
  rw[Ws,cell_of_row w g j cur e (0,0) hg]
  rw[←htake,Xa]at E
  split at E
  ·simpa using E
  ·cases E
theorem Row.at (h:Row t w F G A c xs){k:Nat}{x:t.den}(hk:xs[k]?=some x):
  ∃b o es,A=some ⟨b,o,none⟩∧G b∧b<w.heap.size∧Cells w ⟨b,o+k*t.size,none⟩ es∧t.rep w F es x:=by
 obtain⟨W,h3,cells,N,L,h6⟩:=h
 have E:=(Qc.1 hk).1
 rcases L with L|⟨b,o,rfl,O,hcell⟩
 ·omega
 ·have hs:=Qao t
  have I:k*t.size<cells.length:=by rw[N];exact Nat.mul_lt_mul_of_pos_right E hs
  refine⟨b,o,_,rfl,O,World.block_lt_of_cell? w ⟨b,o+k*t.size,none⟩ (hcell (k*t.size) _ (Qe I)),fun j u J=>?_,h6 k _ hk⟩
  rw[Addr.add_lit]
  have V:j<t.size:=by
   have:=(Qc.1 J).1
   simp only[Qz]at this
   omega
  rw[Wf V,Xh]at J
  rw[Nat.add_assoc]
  exact hcell _ _ J
theorem Row.ok (h:Row t w F G A c xs): ∀x,x∈xs→t.ok x:=fun x E=>by
 obtain⟨i,hi,rfl⟩:=Xy E
 obtain⟨_,_,es,_,_,_,_,I⟩:=h.at (Qe hi)
 exact rep_ok t I
end
def Lst (w:World)(g b:Nat)(k v:Value):Prop:=
 ∃(since clock bo:Nat) (sb:Array Nat) (arr:List MapEntry) (e:MapEntry),w.heap[g]?=some (.mapIter (some b) since (sb.push bo) clock)∧w.heap[b]?=some (.map arr.toArray clock)∧arr.find? (fun x=>x.born==bo)=some e∧e.key=k∧e.val=v
theorem Lst.ch {w w':World}{g b:Nat}{k v:Value}{S:List Nat}(h:Lst w g b k v)(E:Ch S w w')(L:g∉S)(N:b∉S):Lst w' g b k v:=by
 obtain⟨since,clock,bo,sb,arr,e,I,J,O⟩:=h
 exact⟨since,clock,bo,sb,arr,e,(E.block _ (Qn.1 I).1 L).trans I,(E.block _ (Qn.1 J).1 N).trans J,O⟩
theorem Lst.run {P:Program}{w:World}{g b:Nat}{k v:Value}(h:Lst w g b k v):(Instr.entry (.pointer (some ⟨g,0,none⟩))).run P w=.ok (.tuple #[k,v]) w:=by
 obtain⟨since,clock,bo,sb,arr,e,E,I,J,rfl,rfl⟩:=h
 have L:(getObj g).run P w=.ok (.mapIter (some b) since (sb.push bo) clock) w:=by rw[getObj,Sem.run];simp only[E];rfl
 have N:(getObj b).run P w=.ok (.map arr.toArray clock) w:=by rw[getObj,Sem.run];simp only[I];rfl
 simp only[Instr.entry,Sem.run_bind,L,Result.andThen_ok,Array.back?_push,N,bne_self_eq_false,Qs,if_false,List.find?_toArray,J,Sem.run_pure]
def lv:Ty→Nat
 | .slice _=>1
 | .pair a b=>lv a+lv b
 |_=>0
abbrev Lf:=List (Option Addr×Nat)
def cl:(t:Ty)→t.den→Lf→List Value
 | .int k,x,_=>[.int k x]
 | .byte,x,_=>[.int .u8 (x.toNat:Int)]
 | .bool,x,_=>[.bool x]
 | .str,x,_=>[.string x]
 | .slice _,xs,p::_=>[.slice p.1 xs.length p.2]
 | .slice _,_,[]=>[]
 | .pair a b,x,ps=>cl a x.1 (ps.take (lv a))++cl b x.2 (ps.drop (lv a))
def rbl (As:List (Option Addr×Nat)):List Nat:=As.flatMap fun a=>obl a.1
def Mr {κ:Type}(enc:κ→Value)(t:Ty)(e:TypeId)(w:World)(F:Nat→Prop)(b:Nat)(As:List (Option Addr×Nat))(m:List (κ×List t.den)):Prop:=
 ∃es,MapC w b es∧es.length=m.length∧As.length=m.length∧(b::rbl As).Nodup∧(∀x,x∈rbl As→x<w.heap.size)∧
  ∀(i:Nat) (p:κ×List t.den) (a:Option Addr×Nat),m[i]?=some p→As[i]?=some a→es[i]?=some (enc p.1,.slice a.1 p.2.length a.2)∧Own t e 0 w F a.1 a.2 p.2
theorem Qaq {As:List (Option Addr×Nat)}{i:Nat}{a:Option Addr×Nat}(h:As[i]?=some a){k:Nat}(hk:k∈obl a.1):k∈rbl As:=Xn.2 ⟨a,Qh h,hk⟩
theorem Mr.to {κ:Type}{enc:κ→Value}{t:Ty}{e:TypeId}{w w':World}{F F':Nat→Prop}{b:Nat}{As:List (Option Addr×Nat)}{m:List (κ×List t.den)}{S:List Nat}(h:Mr enc t e w F b As m)(E:Ch S w w')(I: ∀x,x∈b::rbl As→x∉S)(L: ∀b,F b→b<w.heap.size→b∉S∧F' b):Mr enc t e w' F' b As m:=by
 obtain⟨es,N,O,V,W,h5,h6⟩:=h
 refine⟨es,N.ch E (I b (Qf ..)),O,V,W,fun x hx=>Qy (h5 x hx) E.size,fun i p a hp J=>?_⟩
 obtain⟨h7,h8⟩:=h6 i p a hp J
 exact⟨h7,Own.to h8 E (fun k hk _ _=>I k (Qb _ (Qaq J hk))) L⟩
inductive Res:Type 1 where
 |dead
 |sh (t:Ty) (cs:List Value) (x:t.den)
 |ln (t:Ty) (A:Option Addr) (c:Nat) (xs:List t.den)
 |el (k:Option Nat) (b o:Nat) (cs:List Value)
 |own (t:Ty) (e:TypeId) (A:Option Addr) (c:Nat) (xs:List t.den)
 |blk (g:Nat) (e:TypeId) (cs:List Value)
 |mp (κ:Type) (enc:κ→Value) (t:Ty) (agg:Bool) (b:Nat) (m:List (κ×t.den))
 |mit (k g b n:Nat) (seen:List Nat) (last:Option (Value×Value))
 |si (g:Nat) (s:ByteArray) (p:Nat)
 |ob (g:Nat) (p:Obj→Prop)
 |lmp (κ:Type) (enc:κ→Value) (t:Ty) (agg:Bool) (b:Nat) (m:List (κ×t.den))
 |mr (κ:Type) (enc:κ→Value) (t:Ty) (e:TypeId) (b:Nat) (As:List (Option Addr×Nat)) (m:List (κ×List t.den))
 |gn (bs:List Nat) (p:World→(Nat→Prop)→Prop) (hp: ∀{w w':World} {F F':Nat→Prop} {S:List Nat},p w F→Ch S w w'→(∀b,b∈bs→b∉S)→(∀b,F b→b<w.heap.size→b∉S∧F' b)→p w' F')
def rs:(t:Ty)→t.den→Lf→List Res
 | .slice t,xs,p::_=>[.sh (.slice t) [.slice p.1 xs.length p.2] xs]
 | .pair a b,x,ps=>rs a x.1 (ps.take (lv a))++rs b x.2 (ps.drop (lv a))
 |_,_,_=>[]
def tele:Nat→(Lf→Prop)→Prop
 |0,K=>K []
 |n+1,K=>∀A c,tele n fun ps=>K ((A,c)::ps)
theorem Qav: ∀{n:Nat} {K:Lf→Prop},tele n K→∀ps:Lf,ps.length=n→K ps
 |0,_,h,[],_=>h
 |n+1,_,h,(A,c)::ps,E=>Qav (h A c) ps (by simpa using E)
def Res.bl:Res→List Nat
 | .own _ _ A _ _=>obl A
 | .blk g _ _=>[g]
 | .mp _ _ _ _ b _=>[b]
 | .mit _ g _ _ _ _=>[g]
 | .si g _ _=>[g]
 | .ob g _=>[g]
 | .mr _ _ _ _ b As _=>b::rbl As
 | .gn bs _ _=>bs
 |_=>[]
def Res.ref:Res→Option Nat
 | .el k _ _ _=>k
 | .mit k _ _ _ _ _=>some k
 |_=>none
def Res.holds (w:World)(F:Nat→Prop)(B:Nat→Nat→Prop):Res→Prop
 | .dead=>True
 | .sh t cs x=>t.rep w F cs x
 | .ln t A c xs=>Row t w F (fun b=>∀k,¬B k b) A c xs
 | .el k b o cs=>Cells w ⟨b,o,none⟩ cs∧b<w.heap.size∧match k with
  |none=>∀k,¬B k b
  |some k=>B k b
 | .own t e A c xs=>Own t e 0 w F A c xs
 | .blk g e cs=>Blk w g e cs
 | .mp _ enc t agg b m=>Mt enc t agg w F b m
 | .mit k g b n seen last=>Rg w g b n seen∧B k b∧∀kv,last=some kv→Lst w g b kv.1 kv.2
 | .si g s p=>Si w g s p
 | .ob g p=>∃o,w.heap[g]?=some o∧p o
 | .lmp _ enc t agg b m=>Mt enc t agg w F b m∧∀k,¬B k b
 | .mr _ enc t e b As m=>Mr enc t e w F b As m
 | .gn _ p _=>p w F
theorem Res.to {r:Res}{w w':World}{F F':Nat→Prop}{B B':Nat→Nat→Prop}{S:List Nat}(h:r.holds w F B)(E:Ch S w w')(N: ∀b,F b→b<w.heap.size→b∉S∧F' b)
  (O: ∀b,(∀k,¬B k b)→b<w.heap.size→b∉S∧∀k,¬B' k b) (V: ∀k b,r.ref=some k→B k b→b∉S∧B' k b) (I: ∀b,b∈r.bl→b∉S):r.holds w' F' B':=by
 cases r with
 |dead=>trivial
 |sh t cs x=>exact rep_to h E N
 |ln t A c xs=>exact Row.to h E N O
 |el k b o cs=>
  obtain⟨J,L,W⟩:=h
  cases k with
  |none=>exact⟨J.ch E fun _=>(O b W L).1,Qy L E.size,(O b W L).2⟩
  |some k=>exact⟨J.ch E fun _=>(V k b rfl W).1,Qy L E.size,(V k b rfl W).2⟩
 |own t e A c xs=>exact Own.to h E (fun k hk _ _=>I k hk) N
 |blk g e cs=>exact Blk.ch h E (I g (by simp[Res.bl]))
 |mp κ enc t agg b m=>exact Mt.to h E (I b (by simp[Res.bl])) N
 |mit k g b n seen last=>exact⟨h.1.ch E (I g (by simp[Res.bl])) (V k b rfl h.2.1).1,(V k b rfl h.2.1).2,fun kv hkv=>(h.2.2 kv hkv).ch E (I g (by simp[Res.bl])) (V k b rfl h.2.1).1⟩
 |si g s p=>exact h.ch E (I g (by simp[Res.bl]))
 |ob g p=>
  obtain⟨o,J,L⟩:=h
  exact⟨o,(E.block g (Qn.1 J).1 (I g (by simp[Res.bl]))).trans J,L⟩
 |lmp κ enc t agg b m=>
  obtain⟨J,L⟩:=h
  exact⟨Mt.to J E (O b L J.lt).1 N,(O b L J.lt).2⟩
 |mr κ enc t e b As m=>exact Mr.to h E I N
 |gn bs p hp=>exact hp h E I N
theorem rep_cl {w:World}{F:Nat→Prop}{B:Nat→Nat→Prop}: ∀(t:Ty) {cs:List Value} {x:t.den},t.rep w F cs x→∃ps:Lf,ps.length=lv t∧cs=cl t x ps∧∀r∈rs t x ps,r.holds w F B∧r.bl=[]∧r.ref=none
 | .int _,cs,x,h=>⟨[],rfl,h.1,by simp[rs]⟩
 | .byte,cs,x,h=>⟨[],rfl,h,by simp[rs]⟩
 | .bool,cs,x,h=>⟨[],rfl,h,by simp[rs]⟩
 | .str,cs,x,h=>⟨[],rfl,h.1,by simp[rs]⟩
 | .slice e,cs,x,h=>by
  have J:=h
  obtain⟨A,c,cells,I,_⟩:=h
  refine⟨[(A,c)],rfl,I,fun r E=>?_⟩
  simp only[rs,Qi]at E
  subst E
  exact⟨by rw[I]at J;exact J,rfl,rfl⟩
 | .pair a b,cs,x,h=>by
  obtain⟨ca,cb,I,L,N⟩:=h
  obtain⟨pa,a1,a2,a3⟩:=rep_cl (B:=B) a L
  obtain⟨pb,b1,b2,b3⟩:=rep_cl (B:=B) b N
  refine⟨pa++pb,by rw[Qj,a1,b1];rfl,?_,fun r E=>?_⟩
  ·simp only[cl,←a1,Y4,List.drop_left];rw[I,a2,b2]
  ·simp only[rs,←a1,Y4,List.drop_left,Qu]at E
   exact E.elim (a3 r) (b3 r)
def hk:List (Nat×Res)→Nat→Option Res
 | [],_=>none
 |(e,v)::r,d=>bif Nat.beq e d then some v else hk r d
theorem Qaa (d e:Nat)(v:Res)(H:List (Nat×Res)):hk ((d,v)::H) e=if d=e then some v else hk H e:=by
 unfold hk
 by_cases h:d=e
 ·subst h;simp
 ·have:Nat.beq d e=false:=by cases E:Nat.beq d e with
   |false=>rfl
   |true=>exact absurd (Wj E) h
  simp only[this,cond_false,if_neg h]
  cases H<;>rfl
def drp (k:Nat):List (Nat×Res)→List (Nat×Res)
 | []=>[]
 |(e,v)::r=>(e,match v.ref with
  |none=>v
  |some j=>bif Nat.beq j k then .dead else v)::drp k r
theorem Qcb (k:Nat): ∀(H:List (Nat×Res)) (e:Nat) (v:Res),hk (drp k H) e=some v→v=.dead∨(hk H e=some v∧v.ref≠some k)
 | [],e,v,h=>by cases h
 |(d,u)::r,e,v,h=>by
  unfold drp at h
  rw[Qaa]at h
  rw[Qaa]
  split at h
  ·rename_i E
   injection h with h
   cases I:u.ref with
   |none=>rw[I]at h;subst h;exact .inr ⟨by rw[if_pos E],by rw[I];simp⟩
   |some j=>
    rw[I]at h
    simp only[]at h
    cases L:Nat.beq j k with
    |true=>rw[L]at h;exact .inl h.symm
    |false=>
     rw[L]at h
     subst h
     refine .inr ⟨by rw[if_pos E];rfl,fun J=>?_⟩
     rw[show(bif false then Res.dead else u)=u from rfl,I]at J
     injection J with J
     subst J
     simp at L
  ·rename_i E
   rw[if_neg E]
   exact Qcb k r e v h
def Bk (H:List (Nat×Res))(k b:Nat):Prop:=∃r,hk H k=some r∧b∈r.bl
structure Cx where
 n:Nat
 ds:List Deferred
 w0:World
 S:List Nat
 F:Nat→Prop
def Fh (C:Cx)(H:List (Nat×Res))(b:Nat):Prop:=(∀k,¬Bk H k b)∧(C.F b∨C.w0.heap.size≤b∨b∈C.S)
structure Hp (C:Cx) (H:List (Nat×Res)) (w:World):Prop where
 ch:Ch C.S C.w0 w
 hold: ∀k r,hk H k=some r→r.holds w (Fh C H) (Bk H)
 bnd: ∀k b,Bk H k b→(C.w0.heap.size≤b∨b∈C.S)∧b<w.heap.size
 dis: ∀k k' b,Bk H k b→Bk H k' b→k=k'
 ref: ∀k r j,hk H k=some r→r.ref=some j→j≠k∧∀r',hk H j=some r'→r'.ref=none
section
variable {C:Cx}{H:List (Nat×Res)}{w w':World}{k:Nat}{r':Res}{S:List Nat}
theorem Hp.upd (h:Hp C H w)(hc:Ch S w w')(hS: ∀b,b∈S→Bk H k b)(N: ∀b,b∈r'.bl→Bk H k b∨(w.heap.size≤b∧b<w'.heap.size))(hrf: ∀j,r'.ref=some j→j≠k∧∀r,hk H j=some r→r.ref=none)
  (hr: ∀(F:Nat→Prop) (B:Nat→Nat→Prop),(∀b,Fh C H b→b<w.heap.size→F b)→(∀b,(∃r,hk H k=some r∧b∈r.bl)→b∉r'.bl→F b)→(∀b,(∀k,¬Bk H k b)→b<w.heap.size→∀k,¬B k b)→(∀j b,r'.ref=some j→Bk H j b→B j b)→(∀b,b∈r'.bl→B k b)→r'.holds w' F B)
  :Hp C ((k,r')::drp k H) w':=by
 have O: ∀j b,j≠k→Bk ((k,r')::drp k H) j b→Bk H j b:=fun j b I ⟨r,L,J⟩=>by
  rw[Qaa,if_neg (Ne.symm I)]at L
  rcases Qcb k H j r L with rfl|⟨h3,_⟩
  ·cases J
  ·exact⟨r,h3,J⟩
 have drp_keep: ∀(H:List (Nat×Res)) (j:Nat) (r:Res),hk H j=some r→r.ref≠some k→hk (drp k H) j=some r:=by
  intro H
  induction H with
  |nil=>intro j r L;cases L
  |cons p q ih=>
   obtain⟨d,u⟩:=p
   intro j r L J
   unfold drp
   rw[Qaa]at L ⊢
   by_cases hd:d=j
   ·rw[if_pos hd]at L ⊢
    injection L with L
    subst L
    cases hu:u.ref with
    |none=>rfl
    |some i=>
     simp only[]
     have:Nat.beq i k=false:=by cases N:Nat.beq i k with
      |false=>rfl
      |true=>exact absurd (by rw[hu,Wj N]) J
     rw[this];rfl
   ·rw[if_neg hd]at L ⊢
    exact ih j r L J
 have hkp: ∀j b,j≠k→(∀r,hk H j=some r→r.ref=none)→Bk H j b→Bk ((k,r')::drp k H) j b:=fun j b I hn ⟨r,L,J⟩=>
  ⟨r,by rw[Qaa,if_neg (Ne.symm I)];exact drp_keep H j r L (by rw[hn r L];simp),J⟩
 have V: ∀b,Bk ((k,r')::drp k H) k b↔b∈r'.bl:=fun b=>⟨fun⟨r,L,J⟩=>by rw[Qaa,if_pos rfl]at L;injection L with L;subst L;exact J,fun N=>⟨r',by rw[Qaa,if_pos rfl],N⟩⟩
 have hFh: ∀b,Fh C H b→b<w.heap.size→b∉S∧Fh C ((k,r')::drp k H) b:=fun b hf hl=>by
  refine⟨fun hS'=>hf.1 k (hS b hS'),⟨fun j I=>?_,hf.2⟩⟩
  by_cases E:j=k
  ·subst E
   rcases N b ((V b).1 I)with J|J
   ·exact hf.1 j J
   ·omega
  ·exact hf.1 j (O j b E I)
 have hGh: ∀b,(∀k,¬Bk H k b)→b<w.heap.size→b∉S∧∀j,¬Bk ((k,r')::drp k H) j b:=fun b hb' hl=>by
  refine⟨fun hS'=>hb' k (hS b hS'),fun j I=>?_⟩
  by_cases E:j=k
  ·subst E
   rcases N b ((V b).1 I)with J|J
   ·exact hb' j J
   ·omega
  ·exact hb' j (O j b E I)
 have hlt: ∀b,Bk H k b→b<w.heap.size:=fun b N=>(h.bnd k b N).2
 have bnd': ∀j b,Bk ((k,r')::drp k H) j b→(C.w0.heap.size≤b∨b∈C.S)∧b<w'.heap.size:=fun j b I=>by
  by_cases E:j=k
  ·subst E
   rcases N b ((V b).1 I)with J|J
   ·exact⟨(h.bnd j b J).1,Qy (h.bnd j b J).2 hc.size⟩
   ·exact⟨.inl (Wl h.ch.size J.1),J.2⟩
  ·have:=h.bnd j b (O j b E I)
   exact⟨this.1,Qy this.2 hc.size⟩
 refine⟨?_,fun j r I=>?_,bnd',fun j j' b I hj'=>?_,fun j r i I W=>?_⟩
 ·have hch:=h.ch
  refine⟨hc.os.trans hch.os,hc.tape.trans hch.tape,hc.output.trans hch.output,Wl hch.size hc.size,fun b hb' hn=>?_⟩
  have hb2:b∉S:=fun hbS=>by
   rcases(h.bnd k b (hS b hbS)).1 with L|L
   ·omega
   ·exact hn L
  rw[hc.block b (Qy hb' hch.size) hb2]
  exact hch.block b hb' hn
 ·rw[Qaa]at I
  by_cases E:k=j
  ·subst E
   rw[if_pos rfl]at I
   injection I with I
   subst I
   refine hr _ _ (fun b N hl=>(hFh b N hl).2) (fun b N hn=>⟨fun j I=>?_,?_⟩) (fun b N hl=>(hGh b N hl).2) (fun j b E I=>?_) (fun b N=>(V b).2 N)
   ·by_cases E:j=k
    ·subst E;exact hn ((V b).1 I)
    ·exact E (h.dis j k b (O j b E I) N)
   ·exact .inr (h.bnd k b N).1
   ·exact hkp j b (hrf j E).1 (hrf j E).2 I
  ·rw[if_neg E]at I
   rcases Qcb k H j r I with rfl|⟨h3,h4⟩
   ·trivial
   ·refine Res.to (h.hold j r h3) hc hFh hGh (fun i b hi hB=>?_) (fun b N hS'=>E (h.dis k j b (hS b hS') ⟨r,h3,N⟩))
    have hik:i≠k:=fun e=>h4 (by rw[hi,e])
    exact⟨fun hS'=>hik (h.dis i k b hB (hS b hS')),hkp i b hik (h.ref j r i h3 hi).2 hB⟩
 ·by_cases E:j=k<;>by_cases hjk':j'=k
  ·rw[E,hjk']
  ·subst E
   have J:=O j' b hjk' hj'
   rcases N b ((V b).1 I)with L|L
   ·exact h.dis j j' b L J
   ·have:=(h.bnd j' b J).2;omega
  ·subst hjk'
   have J:=O j b E I
   rcases N b ((V b).1 hj')with L|L
   ·exact h.dis j j' b J L
   ·have:=(h.bnd j b J).2;omega
  ·exact h.dis j j' b (O j b E I) (O j' b hjk' hj')
 ·rw[Qaa]at I
  by_cases E:k=j
  ·subst E
   rw[if_pos rfl]at I
   injection I with I
   subst I
   refine⟨(hrf i W).1,fun r2 J=>?_⟩
   rw[Qaa,if_neg (Ne.symm (hrf i W).1)]at J
   rcases Qcb k H i r2 J with rfl|⟨h3,_⟩
   ·rfl
   ·exact(hrf i W).2 r2 h3
  ·rw[if_neg E]at I
   rcases Qcb k H j r I with rfl|⟨h3,h4⟩
   ·cases W
   ·obtain⟨h5,h6⟩:=h.ref j r i h3 W
    have hik:k≠i:=fun e=>h4 (by rw[W,e])
    refine⟨h5,fun r2 J=>?_⟩
    rw[Qaa,if_neg hik]at J
    rcases Qcb k H i r2 J with rfl|⟨h7,_⟩
    ·rfl
    ·exact h6 r2 h7
end
theorem Bk.cons_ne {H:List (Nat×Res)}{k j b:Nat}{r:Res}(h:j≠k):Bk ((k,r)::H) j b↔Bk H j b:=by
 unfold Bk;rw[Qaa,if_neg (Ne.symm h)]
theorem Bk.cons_eq {H:List (Nat×Res)}{k b:Nat}{r:Res}:Bk ((k,r)::H) k b↔b∈r.bl:=by
 unfold Bk;rw[Qaa,if_pos rfl]
 exact⟨fun⟨J,E,I⟩=>by injection E with E;subst E;exact I,fun h=>⟨r,rfl,h⟩⟩
theorem Hp.ext {C:Cx}{H H':List (Nat×Res)}{w:World}(h:Hp C H w)(e: ∀j,hk H' j=hk H j∨(hk H' j=some .dead∧hk H j=none)):Hp C H' w:=by
 have e0: ∀{j r},hk H' j=some r→r=.dead∨hk H j=some r:=fun {j r} J=>by
  rcases e j with I|⟨I,_⟩
  ·exact .inr (I▸J)
  ·rw[I]at J;injection J with J;exact .inl J.symm
 have e1:Bk H'=Bk H:=by
  funext k b
  refine propext ⟨fun⟨r,I,L⟩=>?_,fun⟨r,I,L⟩=>?_⟩
  ·rcases e0 I with rfl|E
   ·cases L
   ·exact⟨r,E,L⟩
  ·rcases e k with E|⟨_,E⟩
   ·exact⟨r,E.trans I,L⟩
   ·rw[E]at I;cases I
 have e2:Fh C H'=Fh C H:=by funext b;unfold Fh;rw[e1]
 refine⟨h.ch,fun k r hk=>?_,?_,?_,fun k r j hk N=>?_⟩
 ·rcases e0 hk with rfl|E
  ·trivial
  ·rw[e1,e2];exact h.hold k r E
 ·rw[e1];exact h.bnd
 ·rw[e1];exact h.dis
 ·rcases e0 hk with rfl|E
  ·cases N
  ·refine⟨(h.ref k r j E N).1,fun r' O=>?_⟩
   rcases e0 O with rfl|V
   ·rfl
   ·exact(h.ref k r j E N).2 r' V
def ded:List Nat→List (Nat×Res)→List (Nat×Res)
 | [],H=>H
 |j::js,H=>(j,.dead)::ded js H
theorem Qgu {H:List (Nat×Res)}{j:Nat}: ∀{js:List Nat},hk (ded js H) j=bif js.any (Nat.beq j)then some .dead else hk H j
 | []=>rfl
 |i::js=>by
  show hk ((i,.dead)::ded js H) j=_
  rw[Qaa,Qgu,Xu]
  by_cases h:i=j
  ·subst h;simp
  ·have:Nat.beq j i=false:=by cases E:Nat.beq j i with
    |false=>rfl
    |true=>exact absurd (Wj E).symm h
   rw[if_neg h,this];rfl
def rin (ks:List Nat):Option Nat→Bool
 |none=>false
 |some i=>ks.any (Nat.beq i)
def hng (ks js:List Nat)(H:List (Nat×Res)):Bool:=
 js.all (fun j=>match hk H j with|some v=>rin ks v.ref|none=>true)&&H.all fun p=>bif rin ks p.2.ref then js.any (Nat.beq p.1)||(match hk H p.1 with|some v=> !(rin ks v.ref)|none=>true)else true
theorem hk_memb: ∀{H:List (Nat×Res)} {j:Nat} {v:Res},hk H j=some v→(j,v)∈H
 |(d,u)::H,j,v,h=>by
  rw[Qaa]at h
  split at h
  ·rename_i e;subst e;injection h with h;subst h;exact Qf ..
  ·exact Qb _ (hk_memb h)
theorem hng_at {ks js:List Nat}{H:List (Nat×Res)}(h:hng ks js H=true)(j:Nat):(bif js.any (Nat.beq j)then some Res.dead else hk H j)=((hk H j).map fun v=>bif rin ks v.ref then .dead else v)∨((bif js.any (Nat.beq j)then some Res.dead else hk H j)=some .dead∧((hk H j).map fun v=>bif rin ks v.ref then .dead else v)=none):=by
 simp only[hng,Qk,Q7]at h
 cases J:js.any (Nat.beq j)with
 |true=>
  obtain⟨i,hi,N⟩:=Yt.1 J
  have:=Wj N;subst this
  have E:=h.1 j hi
  cases I:hk H j with
  |none=>exact .inr ⟨rfl,rfl⟩
  |some v=>rw[I]at E;replace E:rin ks v.ref=true:=E;exact .inl (by simp[E])
 |false=>
  cases I:hk H j with
  |none=>exact .inl rfl
  |some v=>
   refine .inl ?_
   have E:=h.2 _ (hk_memb I)
   simp only[J,I,Xd]at E
   cases L:rin ks v.ref with
   |false=>simp[L]
   |true=>rw[L]at E;cases E
theorem Qbi (k:Nat): ∀(H:List (Nat×Res)) (j:Nat),hk (drp k H) j=(hk H j).map fun v=>bif rin [k] v.ref then .dead else v
 | [],_=>rfl
 |(d,u)::H,j=>by
  unfold drp
  rw[Qaa,Qaa]
  by_cases E:d=j
  ·rw[if_pos E,if_pos E]
   cases I:u.ref with
   |none=>simp[I,rin]
   |some i=>cases J:Nat.beq i k<;>simp[I,rin]<;>simp at J<;>simp[J]
  ·rw[if_neg E,if_neg E];exact Qbi k H j
theorem Hp.dd {C:Cx}{H:List (Nat×Res)}{w:World}{k:Nat}{r:Res}{js:List Nat}(h:Hp C ((k,r)::drp k H) w)(E:hng [k] js H=true):Hp C ((k,r)::ded js H) w:=
 h.ext fun j=>by
  rw[Qaa,Qaa]
  by_cases h:k=j
  ·rw[if_pos h,if_pos h];exact .inl rfl
  ·rw[if_neg h,if_neg h,Qgu,Qbi];exact hng_at E j
theorem Hp.dd2 {C:Cx}{H:List (Nat×Res)}{w:World}{k k2:Nat}{r I:Res}{js:List Nat}(h:Hp C ((k2,I)::(k,r)::drp k H) w)(J:hng [k] js H=true):Hp C ((k2,I)::(k,r)::ded js H) w:=
 h.ext fun j=>by
  rw[Qaa,Qaa,Qaa,Qaa]
  by_cases E:k2=j
  ·rw[if_pos E,if_pos E];exact .inl rfl
  ·by_cases h:k=j
   ·rw[if_neg E,if_neg E,if_pos h,if_pos h];exact .inl rfl
   ·rw[if_neg E,if_neg E,if_neg h,if_neg h,Qgu,Qbi];exact hng_at J j
section
variable {C:Cx}{H:List (Nat×Res)}{w w':World}{k:Nat}{r':Res}
theorem Hp.noref (h:Hp C H w)(J:hk H k=none){j:Nat}{r:Res}(N:hk H j=some r):r.ref≠some k:=fun E=>by
 have L:=h.hold j r N
 cases r with
 |el i b o cs=>
  simp only[Res.ref]at E
  subst E
  obtain⟨_,_,O,I,_⟩:=L
  rw[J]at I;cases I
 |mit i g b n seen la=>
  simp only[Res.ref,Qw]at E
  subst E
  obtain⟨_,⟨O,I,_⟩,_⟩:=L
  rw[J]at I;cases I
 |_=>cases E
theorem Hp.new (h:Hp C H w)(h0:hk H k=none)(hc:Ch [] w w')(hb: ∀b,b∈r'.bl→w.heap.size≤b∧b<w'.heap.size)(hrf: ∀j,r'.ref=some j→∀r,hk H j=some r→r.ref=none)
  (hr: ∀(F:Nat→Prop) (B:Nat→Nat→Prop),(∀b,Fh C H b→b<w.heap.size→F b)→(∀b,(∀k,¬Bk H k b)→b<w.heap.size→∀k,¬B k b)→(∀j b,Bk H j b→B j b)→r'.holds w' F B):Hp C ((k,r')::H) w':=by
 have hkn: ∀j b,Bk H j b→j≠k:=fun j b ⟨r,I,_⟩ e=>by subst e;rw[h0]at I;cases I
 have hup: ∀j b,Bk H j b→Bk ((k,r')::H) j b:=fun j b E=>(Bk.cons_ne (hkn j b E)).2 E
 have hcase: ∀j b,Bk ((k,r')::H) j b→(j=k∧w.heap.size≤b∧b<w'.heap.size)∨(j≠k∧Bk H j b):=fun j b E=>by
  by_cases hjk:j=k
  ·subst hjk;exact .inl ⟨rfl,hb b (Bk.cons_eq.1 E)⟩
  ·exact .inr ⟨hjk,(Bk.cons_ne hjk).1 E⟩
 have V: ∀b,(∀k,¬Bk H k b)→b<w.heap.size→∀j,¬Bk ((k,r')::H) j b:=fun b hb' hl j E=>by
  rcases hcase j b E with⟨_,I,_⟩|⟨_,I⟩
  ·omega
  ·exact hb' j I
 refine⟨?_,fun j r E=>?_,fun j b E=>?_,fun j j' b E hj'=>?_,fun j r i E J=>?_⟩
 ·have N:=h.ch
  exact⟨hc.os.trans N.os,hc.tape.trans N.tape,hc.output.trans N.output,Wl N.size hc.size,fun b hb' hn=>by rw[hc.block b (Qy hb' N.size) (by simp)];exact N.block b hb' hn⟩
 ·rw[Qaa]at E
  split at E
  ·injection E with E;subst E
   exact hr _ _ (fun b hF hl=>⟨V b hF.1 hl,hF.2⟩) V hup
  ·exact Res.to (h.hold j r E) hc (fun b hF hl=>⟨by simp,V b hF.1 hl,hF.2⟩) (fun b hB hl=>⟨by simp,V b hB hl⟩) (fun i b _ hB=>⟨by simp,hup i b hB⟩) (by simp)
 ·rcases hcase j b E with⟨_,I,L⟩|⟨_,I⟩
  ·exact⟨.inl (Wl h.ch.size I),L⟩
  ·exact⟨(h.bnd j b I).1,Qy (h.bnd j b I).2 hc.size⟩
 ·rcases hcase j b E with⟨I,L,_⟩|⟨_,I⟩<;>rcases hcase j' b hj' with⟨h3,h4,_⟩|⟨_,h3⟩
  ·rw[I,h3]
  ·have:=(h.bnd j' b h3).2;omega
  ·have:=(h.bnd j b I).2;omega
  ·exact h.dis j j' b I h3
 ·rw[Qaa]at E
  have hvis: ∀i O,hk ((k,r')::H) i=some O→i≠k→hk H i=some O:=fun i O L hne=>by rwa[Qaa,if_neg (Ne.symm hne)]at L
  split at E
  ·injection E with E;subst E
   have W:i≠k:=fun e=>by
    subst e
    have I:=hr (fun b=>Fh C H b∧b<w.heap.size) (Bk H) (fun b I L=>⟨I,L⟩) (fun b hB _=>hB) (fun j b E=>E)
    cases r' with
    |el i' b o cs=>
     simp only[Res.ref]at J
     subst J
     obtain⟨_,_,O,L,_⟩:=I
     rw[h0]at L;cases L
    |mit i' g b n seen la=>
     simp only[Res.ref,Qw]at J
     subst J
     obtain⟨_,⟨O,L,_⟩,_⟩:=I
     rw[h0]at L;cases L
    |_=>cases J
   rename_i hkj
   exact⟨fun e=>W (e.trans hkj.symm),fun O L=>hrf i J O (hvis i O L W)⟩
  ·obtain⟨h5,h6⟩:=h.ref j r i E J
   have W:i≠k:=fun e=>h.noref h0 E (by rw[J,e])
   exact⟨h5,fun O L=>h6 O (hvis i O L W)⟩
theorem Hp.add (h:Hp C H w)(L:hk H k=none)(N:r'.bl=[])(E: ∀j,r'.ref=some j→∀r,hk H j=some r→r.ref=none)
  (O:r'.holds w (fun b=>Fh C H b∧b<w.heap.size) (Bk H)):Hp C ((k,r')::H) w:=
 h.new L (Ch.refl w) (by rw[N];simp) E fun F B V W h3=>Res.to O (S:=[]) (Ch.refl w) (fun b J _=>⟨by simp,V b J.1 J.2⟩) (fun b I hl=>⟨by simp,W b I hl⟩) (fun i b _ I=>⟨by simp,h3 i b I⟩) (by simp)
end
def kx:Nat→List Res→List (Nat×Res)
 |_,[]=>[]
 |k,r::rs=>(k,r)::kx (k+1) rs
def hcat:List (Nat×Res)→List (Nat×Res)→List (Nat×Res)
 | [],H=>H
 |p::r,H=>p::hcat r H
def nok (H:List (Nat×Res)):Nat→Nat→Bool
 |_,0=>true
 |k,n+1=>(match hk H k with|none=>true|some _=>false)&&nok H (k+1) n
theorem Qbm {H:List (Nat×Res)}: ∀{n k j:Nat},nok H k n=true→k≤j→j<k+n→hk H j=none
 |0,k,j,_,E,I=>by omega
 |n+1,k,j,h,E,I=>by
  simp only[nok,Qk]at h
  rcases Yq k j with J|L
  ·exact Qbm h.2 (by omega) (by omega)
  ·have:k=j:=by omega
   subst this
   cases N:hk H k with
   |none=>rfl
   |some r=>rw[N]at h;exact absurd h.1 (by simp)
theorem hk_kx: ∀(rs:List Res) (k j:Nat) (H:List (Nat×Res)),j<k→hk (hcat (kx k rs) H) j=hk H j
 | [],_,_,_,_=>rfl
 |r::rs,k,j,H,h=>by
  show hk ((k,r)::hcat (kx (k+1) rs) H) j=_
  rw[Qaa,if_neg (by omega)]
  exact hk_kx rs (k+1) j H (by omega)
theorem Hp.adds {C:Cx}{w:World}: ∀{rs:List Res} {k:Nat} {H:List (Nat×Res)},Hp C H w→nok H k rs.length=true→(∀r,r∈rs→r.bl=[]∧r.ref=none∧r.holds w (fun b=>Fh C H b∧b<w.heap.size) (Bk H))→Hp C (hcat (kx k rs) H) w
 | [],_,_,h,_,_=>h
 |r::rs,k,H,h,I,J=>by
  have h1:Hp C (hcat (kx (k+1) rs) H) w:=Hp.adds h (by simp only[Qd,nok,Qk]at I;exact I.2) fun L E=>J L (Qb _ E)
  obtain⟨E,h3,h4⟩:=J r (Qf ..)
  have hb: ∀(rs:List Res) (k:Nat),(∀r,r∈rs→r.bl=[])→nok H k rs.length=true→∀j b,Bk (hcat (kx k rs) H) j b↔Bk H j b:=by
   intro rs
   induction rs with
   |nil=>intro k _ _ j b;exact Iff.rfl
   |cons r rs ih=>
    intro k J I j b
    show Bk ((k,r)::hcat (kx (k+1) rs) H) j b↔_
    have W:nok H (k+1) rs.length=true:=by simp only[Qd,nok,Qk]at I;exact I.2
    have hh:hk H k=none:=Qbm I (Qq k) (by simp)
    by_cases O:j=k
    ·subst O
     rw[Bk.cons_eq,J r (Qf ..)]
     exact⟨fun h=>by simp at h,fun⟨L,E,_⟩=>by rw[hh]at E;cases E⟩
    ·rw[Bk.cons_ne O];exact ih (k+1) (fun L E=>J L (Qb _ E)) W j b
  have hb':=hb rs (k+1) (fun L E=>(J L (Qb _ E)).1) (by simp only[Qd,nok,Qk]at I;exact I.2)
  have V: ∀b,Fh C H b→Fh C (hcat (kx (k+1) rs) H) b:=fun b V=>⟨fun j N=>V.1 j ((hb' j b).1 N),V.2⟩
  refine h1.add ?_ E (fun j N=>by rw[h3]at N;cases N) ?_
  ·rw[hk_kx rs (k+1) k H (by omega)];exact Qbm I (Qq k) (by simp)
  ·exact Res.to h4 (S:=[]) (Ch.refl w) (fun b h _=>⟨by simp,V b h.1,h.2⟩) (fun b h _=>⟨by simp,fun j N=>h j ((hb' j b).1 N)⟩) (fun i b _ h=>⟨by simp,(hb' i b).2 h⟩) (by simp)
def rok (ks:List Nat):Option Nat→Bool
 |none=>true
 |some j=>ks.any (Nat.beq j)
def kpH (H:List (Nat×Res))(all:List Nat):List Nat→List (Nat×Res)
 | []=>[]
 |k::ks=>match hk H k with
  |some r=>bif rok all r.ref then(k,r)::kpH H all ks else kpH H all ks
  |none=>kpH H all ks
theorem Qbw {H:List (Nat×Res)}{all:List Nat}: ∀{ks:List Nat} {k:Nat} {r:Res},hk (kpH H all ks) k=some r→hk H k=some r∧rok all r.ref=true∧k∈ks
 | [],k,r,h=>by cases h
 |j::ks,k,r,h=>by
  unfold kpH at h
  cases L:hk H j with
  |none=>rw[L]at h;obtain⟨E,I,J⟩:=Qbw h;exact⟨E,I,Qb _ J⟩
  |some u=>
   rw[L]at h
   simp only[]at h
   cases N:rok all u.ref with
   |false=>rw[N]at h;obtain⟨E,I,J⟩:=Qbw (show hk (kpH H all ks) k=some r from h);exact⟨E,I,Qb _ J⟩
   |true=>
    rw[N]at h
    replace h:hk ((j,u)::kpH H all ks) k=some r:=h
    rw[Qaa]at h
    split at h
    ·rename_i O;subst O;have h:=Wz h;subst h;exact⟨L,N,Qf ..⟩
    ·obtain⟨E,I,J⟩:=Qbw h;exact⟨E,I,Qb _ J⟩
theorem Qcc {H:List (Nat×Res)}{all:List Nat}: ∀{ks:List Nat} {k:Nat} {r:Res},hk H k=some r→rok all r.ref=true→k∈ks→hk (kpH H all ks) k=some r
 | [],_,_,_,_,h=>by cases h
 |j::ks,k,r,h,I,J=>by
  unfold kpH
  by_cases E:j=k
  ·subst E
   rw[h]
   simp only[I]
   show hk ((j,r)::_) j=_
   rw[Qaa,if_pos rfl]
  ·have hm':k∈ks:=(Qg.1 J).resolve_left (Ne.symm E)
   cases L:hk H j with
   |none=>exact Qcc h I hm'
   |some u=>
    simp only[]
    cases rok all u.ref with
    |false=>exact Qcc h I hm'
    |true=>
     show hk ((j,u)::_) k=_
     rw[Qaa,if_neg E]
     exact Qcc h I hm'
theorem Hp.keep {C:Cx}{H:List (Nat×Res)}{w:World}(h:Hp C H w)(ks:List Nat):Hp C (kpH H ks ks) w:=by
 have J: ∀j b,Bk (kpH H ks ks) j b→Bk H j b:=fun j b ⟨r,I,E⟩=>⟨r,(Qbw I).1,E⟩
 refine⟨h.ch,fun k r L=>?_,fun k b V=>h.bnd k b (J k b V),fun k k' b I E=>h.dis k k' b (J _ _ I) (J _ _ E),fun k r j L hr=>?_⟩
 ·obtain⟨I,E,h3⟩:=Qbw L
  refine Res.to (h.hold k r I) (S:=[]) (Ch.refl w) (fun b hF _=>⟨by simp,fun j W=>hF.1 j (J j b W),hF.2⟩) (fun b hB _=>⟨by simp,fun j W=>hB j (J j b W)⟩) (fun i b hi hB=>⟨by simp,?_⟩) (by simp)
  obtain⟨N,O,h5⟩:=hB
  have h6:=(h.ref k r i I hi).2 N O
  refine⟨N,Qcc O (by rw[h6];rfl) ?_,h5⟩
  rw[hi]at E
  simp only[rok,Yt]at E
  obtain⟨x,hx,J⟩:=E
  rw[Wj J];exact hx
 ·obtain⟨I,_,_⟩:=Qbw L
  obtain⟨E,h3⟩:=h.ref k r j I hr
  exact⟨E,fun N O=>h3 N (Qbw O).1⟩
theorem Hp.cov {C:Cx}{H H':List (Nat×Res)}{w:World}(h:Hp C H w)(ks:List Nat)(e:kpH H ks ks=H'):Hp C H' w:=e▸h.keep ks
def ren (H:List (Nat×Res)):List (Nat×Nat)→List (Nat×Res)
 | []=>[]
 |(i,k)::ks=>match hk H k with
  |some r=>match r.ref with
   |none=>(i,r)::ren H ks
   |some _=>ren H ks
  |none=>ren H ks
theorem hk_ren {H:List (Nat×Res)}: ∀{ps:List (Nat×Nat)} {i:Nat} {r:Res},hk (ren H ps) i=some r→∃k,(i,k)∈ps∧hk H k=some r∧r.ref=none
 | [],i,r,h=>by cases h
 |(j,k)::ps,i,r,h=>by
  unfold ren at h
  have step:hk (ren H ps) i=some r→∃k',(i,k')∈(j,k)::ps∧hk H k'=some r∧r.ref=none:=fun h=>by
   obtain⟨k',L,N⟩:=hk_ren h;exact⟨k',Qb _ L,N⟩
  cases E:hk H k with
  |none=>rw[E]at h;exact step h
  |some u=>
   rw[E]at h
   simp only[]at h
   cases I:u.ref with
   |some _=>rw[I]at h;exact step h
   |none=>
    rw[I]at h
    replace h:hk ((j,u)::ren H ps) i=some r:=h
    rw[Qaa]at h
    split at h
    ·rename_i J;subst J;injection h with h;subst h;exact⟨k,Qf ..,E,I⟩
    ·exact step h
def nod:List Nat→Bool
 | []=>true
 |k::ks=> !(ks.any (Nat.beq k))&&nod ks
theorem Qjf {α:Type}{f g:α→Nat}: ∀{l:List α},nod (l.map f)=true→∀x y,x∈l→y∈l→f x=f y→g x=g y
 | [],_,x,_,O,_,_=>by cases O
 |a::l,h,x,y,O,V,e=>by
  simp only[Qv,nod,Qk,Ym,List.any_map]at h
  have E: ∀z∈l,f a≠f z:=fun z W e=>by
   have:=h.1
   rw[Y5]at this
   exact this z W (by simp[Function.comp,e])
  rcases Qg.1 O with I|J<;>rcases Qg.1 V with L|N
  ·rw[I,L]
  ·subst I;exact absurd e (E y N)
  ·subst L;exact absurd e.symm (E x J)
  ·exact Qjf h.2 x y J N e
theorem Hp.ren {C:Cx}{H:List (Nat×Res)}{w:World}(h:Hp C H w)(ps:List (Nat×Nat))(h1:nod (ps.map (·.1))=true)(h2:nod (ps.map (·.2))=true):Hp C (ren H ps) w:=by
 have O: ∀i b,Bk (A.ren H ps) i b→∃k,(i,k)∈ps∧Bk H k b:=fun i b ⟨r,L,E⟩=>by
  obtain⟨k,I,h6,_⟩:=hk_ren L;exact⟨k,I,r,h6,E⟩
 have N: ∀b,(∀k,¬Bk H k b)→∀k,¬Bk (A.ren H ps) k b:=fun b V j hj=>by obtain⟨k,_,E⟩:=O j b hj;exact V k E
 refine⟨h.ch,fun k r J=>?_,fun k b W=>by obtain⟨j,_,L⟩:=O k b W;exact h.bnd j b L,fun k k' b L E=>?_,fun k r j J hr=>?_⟩
 ·obtain⟨j,L,E,I⟩:=hk_ren J
  exact Res.to (h.hold j r E) (S:=[]) (Ch.refl w) (fun b hF _=>⟨by simp,N b hF.1,hF.2⟩) (fun b V _=>⟨by simp,N b V⟩) (fun i b hi V=>by rw[I]at hi;cases hi) (by simp)
 ·obtain⟨j,I,h6⟩:=O k b L
  obtain⟨j',h7,h8⟩:=O k' b E
  exact Qjf (f:=fun p:Nat×Nat=>p.2) (g:=fun p:Nat×Nat=>p.1) h2 (k,j) (k',j') I h7 (h.dis j j' b h6 h8)
 ·obtain⟨_,_,_,I⟩:=hk_ren J;rw[I]at hr;cases hr
inductive Kx where
 |c (y:Code)
 |b (id:Nat)
 |m (M:Act→World→Prop)
 |s
def kont (r:Option Nat)(P:Program)(Y:Exit→Act→World→Prop):List Kx→Exit→Act→World→Prop
 | [],e,a,w=>Y e a w
 | .c y::K,.normal,a,w=>WP r P y (kont r P Y K) a w
 | .m M::_,.normal,a,w=>M a w
 | .b _::K,.normal,a,w=>kont r P Y K .normal a w
 | .s::_,.goto _,_,_=>False
 | .b id::K,.exit i,a,w=>if i=id then kont r P Y K .normal a w else kont r P Y K (.exit i) a w
 |_::K,e,a,w=>kont r P Y K e a w
section
variable {r:Option Nat}{P:Program}{Y:Exit→Act→World→Prop}{K:List Kx}{C:Cx}{l:List (Nat×Value)}{H:List (Nat×Res)}
abbrev AX (r:Option Nat) (P:Program) (Y:Exit→Act→World→Prop) (K:List Kx) (c:Code) (C:Cx) (l:List (Nat×Value)) (H:List (Nat×Res)):Prop:=∀a w,Fr a C.n C.ds l→Hp C H w→WP r P c (kont r P Y K) a w
abbrev AE (r:Option Nat) (P:Program) (Y:Exit→Act→World→Prop) (K:List Kx) (e:Exit) (C:Cx) (l:List (Nat×Value)) (H:List (Nat×Res)):Prop:=∀a w,Fr a C.n C.ds l→Hp C H w→kont r P Y K e a w
abbrev AL (r:Option Nat) (P:Program) (ops:Array Oper) (Q:Exit→Act→World→Prop) (rest:List Oper) (C:Cx) (l:List (Nat×Value)) (H:List (Nat×Res)):Prop:=∀a w,Fr a C.n C.ds l→Hp C H w→WL r P ops Q rest a w
theorem AX.seq {x y:Code}(h:AX r P Y (.c y::K) x C l H):AX r P Y K (.seq x y) C l H:=fun a w E I=>by
 refine wpIn_seq (wpIn_mono (h a w E I) fun e a w hq=>?_)
 cases e<;>exact hq
theorem AX.reg {id:Nat}{lo:List Oper}(h:AL r P lo.toArray (kont r P Y K) lo C l H):AX r P Y K (.region id lo.toArray false) C l H:=fun a w E I=>Z.reg (h a w E I)
theorem AL.done {ops:Array Oper}(h:AE r P Y K .normal C l H):AL r P ops (kont r P Y K) [] C l H:=fun a w E I=>Z.done (h a w E I)
theorem AE.c {y:Code}(h:AX r P Y K y C l H):AE r P Y (.c y::K) .normal C l H:=h
theorem AE.b {id:Nat}(h:AE r P Y K .normal C l H):AE r P Y (.b id::K) .normal C l H:=h
theorem AX.skip (h:AE r P Y K .normal C l H):AX r P Y K .skip C l H:=fun a w E I=>wpIn_skip (h a w E I)
theorem AX.block {id:Nat}{c:Code}(h:AX r P Y (.b id::K) c C l H):AX r P Y K (.block id c) C l H:=fun a w E I=>by
 refine wpIn_block (wpIn_mono (h a w E I) fun e a w hq=>?_)
 cases e<;>first|exact hq|skip
def popx (id:Nat):List Kx→Option (List Kx)
 | []=>none
 | .b i::K=>bif Nat.beq i id then some K else popx id K
 |_::K=>popx id K
theorem popx_spec {id:Nat}{a:Act}{w:World}: ∀{K K':List Kx},popx id K=some K'→kont r P Y K' .normal a w→kont r P Y K (.exit id) a w
 | [],_,h,_=>by cases h
 | .b i::K,K',h,hq=>by
  unfold popx at h
  show(if id=i then kont r P Y K .normal a w else kont r P Y K (.exit id) a w)
  cases E:Nat.beq i id with
  |true=>
   rw[E]at h
   have h:some K=some K':=h
   injection h with h;subst h
   rw[if_pos (Wj E).symm];exact hq
  |false=>
   rw[E]at h
   rw[if_neg (fun e=>by subst e;simp at E)]
   exact popx_spec h hq
 | .c y::K,K',h,hq=>popx_spec (K:=K) h hq
 | .m M::K,K',h,hq=>popx_spec (K:=K) h hq
 | .s::K,K',h,hq=>popx_spec (K:=K) h hq
theorem AX.exit {id:Nat}{K':List Kx}(e:popx id K=some K')(h:AE r P Y K' .normal C l H):AX r P Y K (.exit id) C l H:=fun a w E I=>wpIn_exit (popx_spec e (h a w E I))
theorem kont_ret {a:Act}{w:World}: ∀{K:List Kx},Y .ret a w→kont r P Y K .ret a w
 | [],h=>h
 | .b _::K,h=>kont_ret (K:=K) h
 | .c _::K,h=>kont_ret (K:=K) h
 | .m _::K,h=>kont_ret (K:=K) h
 | .s::K,h=>kont_ret (K:=K) h
theorem AX.ret0 (h: ∀a w,Fr a C.n C.ds l→Hp C H w→Y .ret a w):AX r P Y K .ret C l H:=fun a w E I=>wpIn_ret (kont_ret (h a w E I))
theorem AE.s (h:AE r P Y K .normal C l H):AE r P Y (.s::K) .normal C l H:=h
theorem AX.scope {c:Code}(h:AX none P Y (.s::K) c C l H):AX none P Y K (.scope c) C l H:=fun a w E I=>by
 refine wpIn_wide.2 (wp_scope_straight ?_)
 have:=wpIn_wide.1 (h a w E I)
 refine Code.wp_mono (fun e a w hq=>?_) this
 cases e<;>exact hq
theorem AX.label {i:Nat}(h:AE r P Y K .normal C l H):AX r P Y K (.label i) C l H:=fun a w E I=>wpIn_label (h a w E I)
theorem AX.cnd {ρ:Type}{A B R:Option ρ}{c:Operand}{x y:Code}{p:Prop}[Decidable p](J:ev l c=some (.bool (decide p)))(E:(if p then A else B)=R)(N:p→A=R→AX r P Y K x C l H)(O: ¬p→B=R→AX r P Y K y C l H):AX r P Y K (.cond c x y) C l H:=fun a w I L=>by
 by_cases hp:p
 ·rw[if_pos hp]at E;exact Z.condp I J (fun _=>N hp E a w I L) (fun h=>absurd hp h)
 ·rw[if_neg hp]at E;exact Z.condp I J (fun h=>absurd h hp) (fun _=>O hp E a w I L)
theorem AX.cnb {ρ:Type}{A B R:Option ρ}{c:Operand}{x y:Code}{b:Bool}(J:ev l c=some (.bool b))(E:(if b=true then A else B)=R)(N:b=true→A=R→AX r P Y K x C l H)(O:b=false→B=R→AX r P Y K y C l H):AX r P Y K (.cond c x y) C l H:=fun a w I L=>by
 cases b with
 |true=>rw[if_pos rfl]at E;exact Z.condt I J (N rfl E a w I L)
 |false=>rw[if_neg (by simp)]at E;exact Z.condf I J (O rfl E a w I L)
theorem AX.cnt {c:Operand}{x y:Code}(I:ev l c=some (.bool true))(J:AX r P Y K x C l H):AX r P Y K (.cond c x y) C l H:=fun a w E L=>Z.condt E I (J a w E L)
theorem AX.cnf {c:Operand}{x y:Code}(I:ev l c=some (.bool false))(J:AX r P Y K y C l H):AX r P Y K (.cond c x y) C l H:=fun a w E L=>Z.condf E I (J a w E L)
theorem Fr.cov {a:Act}{n:Nat}{ds:List Deferred}{l':List (Nat×Value)}(h:Fr a n ds l)(e:kp l (l'.map (·.1))=l'):Fr a n ds l':=e▸h.keep _
abbrev St (C:Cx) (l:List (Nat×Value)) (H:List (Nat×Res)) (ks hs:List Nat) (J:List (Nat×Value)→List (Nat×Res)→Prop):Act→World→Prop:=fun a w=>∃nl nh,J nl nh∧Fr a C.n C.ds (cat nl (kp l ks))∧Hp C (hcat nh (kpH H hs hs)) w
theorem AX.join (ks hs:List Nat)(J:List (Nat×Value)→List (Nat×Res)→Prop){x y:Code}(h:AX r P Y (.m (St C l H ks hs J)::K) x C l H)(E: ∀nl nh,J nl nh→AX r P Y K y C (cat nl (kp l ks)) (hcat nh (kpH H hs hs))):AX r P Y K (.seq x y) C l H:=fun a w I L=>by
 refine wpIn_seq (wpIn_mono (h a w I L) fun e a w hq=>?_)
 cases e with
 |normal=>obtain⟨nl,nh,N,hf',hh'⟩:=hq;exact E nl nh N a w hf' hh'
 |_=>exact hq
theorem AE.j {l':List (Nat×Value)}{H':List (Nat×Res)}{ks hs:List Nat}{J:List (Nat×Value)→List (Nat×Res)→Prop}(gs:List Nat)(nl:List (Nat×Value))(nh:List (Nat×Res))(E:J nl nh)(I:kp l ((cat nl (kp l' ks)).map (·.1))=cat nl (kp l' ks):=by kernel_rfl)(L:kpH H gs gs=hcat nh (kpH H' hs hs):=by kernel_rfl):
  AE r P Y (.m (St C l' H' ks hs J)::K) .normal C l H:=fun a w N O=>⟨nl,nh,E,Fr.cov N I,O.cov gs L⟩
theorem AX.loop (ks hs gs:List Nat)(J:Nat→List (Nat×Value)→List (Nat×Res)→Prop)(m:Nat)(nl:List (Nat×Value))(nh:List (Nat×Res)){x:Code}(E:J m nl nh)
  (h: ∀f nl nh,J f nl nh→AX r P Y (.m (St C l H ks hs fun nl nh=>∃f',f'<f∧J f' nl nh)::K) x C (cat nl (kp l ks)) (hcat nh (kpH H hs hs)))
  (O:kp l ((cat nl (kp l ks)).map (·.1))=cat nl (kp l ks):=by kernel_rfl) (V:kpH H gs gs=hcat nh (kpH H hs hs):=by kernel_rfl):AX r P Y K (.loop x) C l H:=fun a w I L=>by
 refine Z.loop (fun f a w=>St C l H ks hs (J f) a w) m ⟨nl,nh,E,Fr.cov I O,L.cov gs V⟩ fun f a w ⟨nl,nh,E,I,L⟩=>?_
 refine wpIn_mono (h f nl nh E a w I L) fun e a w hq=>?_
 cases e with
 |normal=>obtain⟨nl,nh,⟨f',N,hJ'⟩,hf',hh'⟩:=hq;exact⟨f',N,nl,nh,hJ',hf',hh'⟩
 |_=>exact hq
end
end Go.A
end
