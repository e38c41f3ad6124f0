/- A small logic over the model's walk, and what stands on it. -/
import Derived.OrdersHeld
import Derived.Laws.AppendOwn
import Derived.Laws.Entries
import Derived.Tactics
import Derived.Below
import Derived.RangeFuncIn
import Derived.TacticsIn
import Derived.LoopIn
import Derived.OrdersIn
import Derived.Maps.AppendAt
import Derived.Deep.Draws
import Derived.IntWalk
import Derived.Laws.Rows
import Derived.Laws.Strings
import Derived.Laws.StructEq
import Derived.Defers
import Derived.Lib.MakeNoZero
import Derived.Laws.Externs
import Derived.Laws.CopyOwn
import Derived.Lib.AppendStr
import Derived.Recover
import Derived.ChangeKeysEq
import Derived.Lib.ConvBytes
import Derived.KernelRfl
import Derived.Laws.Concat
import Derived.Test.YtlbnpmfggfbdoaaGreatDoorProg
import Derived.RangeFuncSeq
import Derived.RangeFuncBound
import Derived.Laws.MakeOwn
import Derived.Scope
set_option linter.unusedSimpArgs false
set_option synthInstance.maxSize 1000000
set_option synthInstance.maxHeartbeats 400000
set_option linter.unusedVariables false
set_option linter.defProp false
def Qa:=@Option.bind_some
def Qb:=@List.forall_mem_cons
def Qc:=@List.getElem?_eq_some_iff
def Qd:=@List.getElem?_eq_getElem
def Qe:=@List.mem_cons_of_mem
def Qf:=@List.mem_of_getElem?
def Qg:=@List.mem_cons_self
def Qh:=@Nat.lt_succ_self
def Qi:=@List.length_cons
def Qj:=@List.mem_singleton
def Qk:=@List.mem_cons
def Ql:=@List.length_append
def Qm:=@Bool.and_eq_true
def Qn:=@List.mem_append
def Qo:=@Array.getElem?_eq_some_iff
def Qp:=@Option.some.inj
def Qq:=@List.getElem?_take_of_lt
def Qr:=@Option.some.injEq
def Qs:=@Int.toNat_natCast
def Qt:=@List.getElem?_map
def Qu:=@List.length_take
def Qv:=@List.mem_map
def Qw:=@List.length_map
def Qx:=@List.length_nil
def Qy:=@Bool.false_eq_true
def Qz:=@List.all_eq_true
def Q0:=@Nat.le_of_ble_eq_true
def Q1:=@Nat.le_refl
def Q2:=@List.drop_eq_nil_of_le
def Q3:=@List.map_cons
def Q4:=@Nat.lt_of_lt_of_le
def Q5:=@List.getElem?_eq_none
def Q6:=@List.mem_append_left
def Q7:=@List.getElem?_append_left
def Q8:=@List.mem_append_right
def Q9:=@Nat.mul_le_mul_right
def Wa:=@List.drop_zero
def Wb:=@Classical.byContradiction
def Wc:=@List.getElem?_drop
def Wd:=@List.append_assoc
def We:=@List.getElem?_append_right
def Wf:=@Nat.zero_add
def Wg:=@Array.getElem?_eq_getElem
def Wh:=@Nat.le_trans
def Wi:=@List.pairwise_cons
def Wj:=@Option.map_some
def Wk:=@List.append_nil
def Wl:=@Array.getD_eq_getD_getElem?
def Wm:=@List.nodup_cons
def Wn:=@Bool.false_ne_true
def Wo:=@List.eq_nil_of_length_eq_zero
def Wp:=@List.mem_iff_getElem?
def Wq:=@List.getElem?_cons_succ
def Wr:=@Nat.eq_of_beq_eq_true
def Ws:=@List.getElem?_toArray
def Wt:=@Option.map_eq_some_iff
def Wu:=@List.ext_getElem?
def Wv:=@Int.not_lt
def Ww:=@Int.toNat_of_nonneg
def Wx:=@List.getElem?_modify
def Wz:=@List.nodup_append
def W5:=@List.length_set
def W6:=@Bool.false_or
def W7:=@List.take_of_length_le
def W8:=@List.length_singleton
def W9:=@Array.toArray_toList
def Xa:=@List.nil_append
def Xb:=@List.length_replicate
def Xc:=@List.getElem?_replicate
def Xd:=@List.getElem?_cons_zero
def Xe:=@List.getElem?_take
def Xf:=@Bool.true_and
def Xg:=@List.take_append_drop
def Xh:=@List.getElem_of_mem
def Xi:=@List.mem_flatMap
def Xj:=@List.mem_range
def Xk:=@List.filter_cons
def Xl:=@List.getElem?_of_mem
def Xm:=@Int.le_refl
def Xn:=@List.length_drop
def Xo:=@List.any_cons
def Xp:=@Bool.not_true
def Xq:=@Nat.zero_le
def Xr:=@Array.getElem?_toList
def Xs:=@Bool.not_eq_true'
def Xt:=@List.map_nil
def Xu:=@Array.getElem?_append_left
def Xv:=@Nat.add_mul
def Xw:=@List.all_cons
def Xx:=@List.cons_append
def Xy:=@List.drop_eq_getElem_cons
def Xz:=@List.pairwise_iff_getElem
def X0:=@List.take_append_of_le_length
def X1:=@List.any_eq_false
def X2:=@List.length_range
def X3:=@List.singleton_append
def X4:=@List.length_filter_le
def X5:=@List.drop_drop
def X6:=@List.nodup_nil
def X7:=@Nat.min_eq_left
def X8:=@Nat.one_mul
def X9:=@List.map_toArray
def Ya:=@List.any_eq_true
def Yc:=@List.mem_of_mem_take
def Yd:=@List.pairwise_singleton
def Ye:=@List.mem_singleton_self
def Yf:=@List.size_toArray
def Yg:=@List.map_append
def Yh:=@Array.getElem?_setIfInBounds_ne
def Yi:=@Nat.testBit_or
def Yj:=@Nat.one_shiftLeft
def Yk:=@List.take_add_one
def Ym:=@Bool.eq_false_iff
def Yn:=@List.mem_filter
def Yo:=@List.getElem?_range
def Yp:=@Array.length_toList
def Yq:=@Array.getElem?_eq_none
def Yr:=@Nat.add_comm
def Ys:=@List.getElem?_set_self
def Yt:=@List.attach_map_subtype_val
def Yu:=@Bool.true_or
def Yv:=@Bool.false_and
def Yw:=@Bool.not_false
def Yx:=@List.mem_filterMap
def Yy:=@Bool.or_eq_true
def Yz:=@Nat.add_zero
def Y0:=@Option.map_eq_map
def Y1:=@Nat.div_lt_of_lt_mul
def Y2:=@List.pairwise_append
def Y3:=@List.length_erase_of_mem
def Y4:=@Nat.lt_or_ge
def Y5:=@List.length_pos_of_mem
def Y6:=@Bool.eq_iff_iff
def Y7:=@Nat.add_assoc
def Y8:=@Bool.and_true
def Y9:=@Array.getElem?_modify
def Ja:=@List.getElem?_set
def Jb:=@List.pairwise_map
def Jc:=@List.getD_eq_getElem?_getD
def Jd:=@Option.getD_some
def Je:=@Nat.le_of_not_lt
def Jf:=@Nat.testBit_two_pow
def Jg:=@Prod.mk.injEq
def Jh:=@Bool.or_false
def Ji:=@Nat.testBit_two_pow_self
def Jj:=@Array.extract_size
def Jk:=@Nat.mul_one
def Jl:=@Option.bind_eq_some_iff
def Jm:=@Nat.mul_comm
def Jn:=@Nat.beq_refl
def Jo:=@Nat.mod_lt
def Jp:=@Nat.div_add_mod'
def Jq:=@List.drop_length
def Jr:=@List.cons.injEq
def Js:=@List.any_nil
def Jt:=@Int.add_comm
def Ju:=@Prod.ext
section
namespace Go.Z
open Go.RowKit
def lk:List (Nat×Value)→Nat→Option Value
 | [],_=>none
 |(e,v)::r,d=>bif Nat.beq e d then some v else lk r d
def ev (l:List (Nat×Value)):Operand→Option Value
 | .tmp t=>lk l t
 | .const v=>some v
 | .global g=>some (.pointer (some ⟨g,0,none⟩))
 | .func f=>some (.func (.func f) #[] #[])
structure Fr (a:Act) (n:Nat) (ds:List Deferred) (l:List (Nat×Value)):Prop where
 size:a.tmps.size=n
 defs:a.defers=ds
 get: ∀d v,lk l d=some v→a.tmps[d]?=some v
theorem Qah (l:List (Nat×Value))(d:Nat)(v:Value):lk ((d,v)::l) d=some v:=by simp[lk]
theorem Qae (l:List (Nat×Value)){d e:Nat}(v:Value)(h:e≠d):lk ((e,v)::l) d=lk l d:=by
 have:Nat.beq e d=false:=by cases I:Nat.beq e d with
  |false=>rfl
  |true=>exact absurd (Wr I) h
 simp[lk,this]
section
variable {a:Act}{n:Nat}{ds:List Deferred}{l:List (Nat×Value)}
theorem Fr.eval (h:Fr a n ds l){x:Operand}{v:Value}(I:ev l x=some v):a.eval x=v:=by
 cases x with
 |tmp t=>
  have:=h.get t v I
  simp[Act.eval,Wl,this]
 |const u=>injection I
 |global g=>injection I
 |func f=>injection I
theorem Fr.put (h:Fr a n ds l){d:Nat}(N:d<n)(v:Value):Fr (a.put (some d) v) n ds ((d,v)::l):=by
 refine⟨by simp[Act.put,h.size],h.defs,fun e u J=>?_⟩
 by_cases I:d=e
 ·subst I
  rw[Qah]at J
  injection J with J
  subst J
  simp[Act.put,h.size,N]
 ·rw[Qae _ _ I]at J
  simp only[Act.put]
  rw[Yh I]
  exact h.get e u J
theorem Fr.put_none (h:Fr a n ds l)(v:Value):Fr (a.put none v) n ds l:=h
def kp (l:List (Nat×Value)):List Nat→List (Nat×Value)
 | []=>[]
 |k::r=>match lk l k with
  |some v=>(k,v)::kp l r
  |none=>kp l r
theorem lk_kp (ks:List Nat)(d:Nat)(v:Value)(h:lk (kp l ks) d=some v):lk l d=some v:=by
 induction ks with
 |nil=>simp[kp,lk]at h
 |cons k r J=>
  unfold kp at h
  cases hk:lk l k with
  |none=>rw[hk]at h;exact J h
  |some u=>
   rw[hk]at h
   by_cases I:k=d
   ·subst I
    rw[Qah]at h
    rw[hk];exact h
   ·exact J (by rw[←h];exact(Qae _ _ I).symm)
theorem Fr.keep (h:Fr a n ds l)(ks:List Nat):Fr a n ds (kp l ks):=⟨h.size,h.defs,fun d v I=>h.get d v (lk_kp ks d v I)⟩
theorem Fr.cons {l':List (Nat×Value)}{d:Nat}{v:Value}(h:Fr a n ds l)(h':Fr a n ds l')(e:lk l d=some v):Fr a n ds ((d,v)::l'):=by
 refine⟨h.size,h.defs,fun d' v' I=>?_⟩
 by_cases hk:d=d'
 ·subst hk
  rw[Qah]at I
  injection I with I
  subst I
  exact h.get _ _ e
 ·rw[Qae _ _ hk]at I
  exact h'.get _ _ I
end
def argl:List Value→Nat→List (Nat×Value)
 | [],_=>[]
 |v::r,k=>(k,v)::argl r (k+1)
theorem lk_argl (vs:List Value): ∀(k d:Nat) (v:Value),lk (argl vs k) d=some v→k≤d∧vs[d-k]?=some v:=by
 induction vs with
 |nil=>intro k d v h;simp[argl,lk]at h
 |cons u r J=>
  intro k d v h
  unfold argl at h
  by_cases I:k=d
  ·subst I
   rw[Qah]at h
   injection h with h
   subst h
   simp
  ·rw[Qae _ _ I]at h
   obtain⟨O,N⟩:=J _ _ _ h
   refine⟨by omega,?_⟩
   have:d-k=(d-(k+1))+1:=by omega
   rw[this,Wq]
   exact N
theorem Fr.entry (vs:List Value)(n:Nat)(N:vs.length≤n):
  Fr {tmps:=vs.toArray++Array.replicate (n-vs.toArray.size) undef,defers:=[]} n [] (argl vs 0):=by
 refine⟨by simp;omega,rfl,fun d v h=>?_⟩
 obtain⟨_,I⟩:=lk_argl vs 0 d v h
 have J:d<vs.length:=by
  rcases Y4 d vs.length with h'|h'
  ·exact h'
  ·rw[Q5 (by omega)]at I;cases I
 rw[Xu (by simpa using J)]
 simpa using I
abbrev FW (r:Option Nat):Fence:={Fence.wide with round:=r}
abbrev WP (r:Option Nat) (P:Program) (c:Code) (Q:Exit→Act→World→Prop) (a:Act) (w:World):Prop:=c.wpIn (FW r) 0 P Q a w
abbrev WL (r:Option Nat) (P:Program) (ops:Array Oper) (Q:Exit→Act→World→Prop) (l:List Oper) (a:Act) (w:World):Prop:=wpListIn (FW r) 0 P ops Q l a w
theorem callsFW {r:Option Nat}{n:Nat}{P:Program}{f:FuncId}{args:Array Value}{w:World}{R:Ending→World→Prop}(h:Calls P f args w R):CallsIn (FW r) n P f args w R:=by
 have I:CallsIn Fence.wide n P f args w R:=callsIn_wide.2 h
 cases r with
 |none=>exact I
 |some l=>exact I
theorem Qgx {r:Option Nat}{P:Program}{ρ:Operand→Value}{o:Oper}{x:Next}{w w':World}(h:(execOp ρ o).run P w=.ok x w')(J: ∀d,x≠ .defer d):(o.semAt r ρ).run P w=.ok x w':=by
 cases r with
 |none=>rw[Oper.semAt_none];exact h
 |some l=>
  rw[Oper.semAt_some]
  ·exact h
  ·intro c N
   unfold execOp at h
   rw[N]at h
   simp only[Sem.run_bind]at h
   cases I:(resolve ρ c o.type).run P w with
   |ok d O=>rw[I]at h;simp only[Result.andThen_ok,Sem.run_pure]at h;injection h with h _;exact J _ h.symm
   |halt y O=>rw[I]at h;simp[Result.andThen]at h
section
variable {r:Option Nat}{P:Program}{ops:Array Oper}{Q:Exit→Act→World→Prop}{a:Act}{w:World}{rest:List Oper}{n:Nat}{ds:List Deferred}{l:List (Nat×Value)}
theorem enter {f:FuncId}{fn:Func}{c:Code}{vs:List Value}{m:Nat}{R:Ending→World→Prop}(I:P.funcs[f]?=some fn)(J:fn.body=some c)(N:fn.ntmps=m)(O:vs.length≤m)
  (h: ∀a,Fr a m [] (argl vs 0)→WP none P c (bodyPost P fn R) a w):Calls P f vs.toArray w R:=by
 refine calls_of_wp I J (wpIn_wide.1 (h _ ?_))
 subst N
 exact Fr.entry vs _ O
theorem stepw {o:Oper}{x:Next}{w':World}(I:o.guard=none)(J:(execOp a.eval o).run P w=.ok x w')(N: ∀d,x≠ .defer d)
  (h: ∀K:Act→World→Prop,(∀a w,WL r P ops Q rest a w→K a w)→o.uponIn (FW r) 0 P a K Q (.ok x w')):WL r P ops Q (o::rest) a w:=
 wpListIn_plain I fun K O=>⟨fun _ _=>trivial,by rw[Qgx J N];exact h K O⟩
theorem valw {d:Nat}{op:Op}{T:TypeId}{pos:String}{af:Array Edge}{v:Value}{w':World}(I:Fr a n ds l)(J:Nat.ble (d+1) n=true)
  (N:(execOp a.eval ⟨some d,op,T,pos,af,none⟩).run P w=.ok (.value v) w')
  (h: ∀a',Fr a' n ds ((d,v)::l)→WL r P ops Q rest a' w'):WL r P ops Q (⟨some d,op,T,pos,af,none⟩::rest) a w:=
 stepw rfl N (fun _ h=>by cases h) fun _ O=>O _ _ (h _ (I.put (Q0 J) v))
theorem val {d:Nat}{op:Op}{T:TypeId}{pos:String}{af:Array Edge}{v:Value}(I:Fr a n ds l)(J:Nat.ble (d+1) n=true)
  (N:(execOp a.eval ⟨some d,op,T,pos,af,none⟩).run P w=.ok (.value v) w)
  (h: ∀a',Fr a' n ds ((d,v)::l)→WL r P ops Q rest a' w):WL r P ops Q (⟨some d,op,T,pos,af,none⟩::rest) a w:=valw I J N h
theorem skipw {op:Op}{T:TypeId}{pos:String}{af:Array Edge}{w':World}(I:Fr a n ds l)
  (J:(execOp a.eval ⟨none,op,T,pos,af,none⟩).run P w=.ok .skip w')
  (h: ∀a',Fr a' n ds l→WL r P ops Q rest a' w'):WL r P ops Q (⟨none,op,T,pos,af,none⟩::rest) a w:=
 stepw rfl J (fun _ h=>by cases h) fun _ N=>N _ _ (h _ I)
theorem call {d:Nat}{op:Op}{T:TypeId}{pos:String}{af:Array Edge}{f:FuncId}{args:Array Value}{R:Ending→World→Prop}(I:Fr a n ds l)(J:Nat.ble (d+1) n=true)
  (N:(execOp a.eval ⟨some d,op,T,pos,af,none⟩).run P w=.ok (.enter f args) w) (O:Calls P f args w R)
  (h: ∀e w',R e w'→(∃v,e=.returned v∧∀a',Fr a' n ds ((d,v)::l)→WL r P ops Q rest a' w')∨(∃ch,e=.panicked ch∧Q (.panic ch) a w')):
  WL r P ops Q (⟨some d,op,T,pos,af,none⟩::rest) a w:=
 stepw rfl N (fun _ h=>by cases h) fun _ W=>⟨(fun h=>by cases h),(callsFW O).mono fun e w' he=>by
  rcases h e w' he with⟨v,rfl,h⟩|⟨ch,rfl,h⟩
  ·exact W _ _ (h _ (I.put (Q0 J) v))
  ·exact h⟩
theorem call1 {d:Nat}{op:Op}{T:TypeId}{pos:String}{af:Array Edge}{f:FuncId}{args:Array Value}{R:Ending→World→Prop}(I:Fr a n ds l)(J:Nat.ble (d+1) n=true)
  (N:(execOp a.eval ⟨some d,op,T,pos,af,none⟩).run P w=.ok (.enter f args) w) (O:Calls P f args w R)
  (h: ∀e w',R e w'→∃v,e=.returned v∧∀a',Fr a' n ds ((d,v)::l)→WL r P ops Q rest a' w'):
  WL r P ops Q (⟨some d,op,T,pos,af,none⟩::rest) a w:=call I J N O fun e w' W=>.inl (h e w' W)
theorem defer {op:Op}{T:TypeId}{pos:String}{af:Array Edge}{dd:Deferred}(I:Fr a n ds l)
  (J:(execOp a.eval ⟨none,op,T,pos,af,none⟩).run P w=.ok (.defer dd) w)
  (h: ∀a',Fr a' n (dd::ds) l→WL none P ops Q rest a' w):WL none P ops Q (⟨none,op,T,pos,af,none⟩::rest) a w:=
 wpListIn_plain rfl fun K N=>⟨fun _ _=>trivial,by
  show Oper.uponIn _ _ _ _ _ _ _ ((Oper.semAt none a.eval _).run P w)
  rw[Oper.semAt_none,J]
  exact N _ _ (h _ ⟨I.size,by rw[←I.defs];rfl,I.get⟩)⟩
theorem on {dst:Option Tmp}{op:Op}{T:TypeId}{pos:String}{af:Array Edge}{j dj:Nat}{b:Bool}(I:Fr a n ds l)(J:(ops[j]?).bind (·.dst)=some dj)(N:lk l dj=some (.bool b))
  (h:WL r P ops Q (⟨dst,op,T,pos,af,none⟩::rest) a w):WL r P ops Q (⟨dst,op,T,pos,af,some (j,b)⟩::rest) a w:=by
 have O:yielded ops a.tmps j=some b:=by simp[yielded,J,I.get _ _ N]
 unfold WL wpListIn at h ⊢
 have W:Region.wanted ⟨dst,op,T,pos,af,some (j,b)⟩ (yielded ops a.tmps)=true:=by simp[Region.wanted,O]
 have h2:Region.wanted ⟨dst,op,T,pos,af,none⟩ (yielded ops a.tmps)=true:=by simp[Region.wanted]
 rw[if_pos W]
 rw[if_pos h2]at h
 exact h
theorem off {d:Nat}{op:Op}{T:TypeId}{pos:String}{af:Array Edge}{j dj:Nat}{b:Bool}{u:Value}(I:Fr a n ds l)(J:Nat.ble (d+1) n=true)(N:(ops[j]?).bind (·.dst)=some dj)(O:lk l dj=some u)
  (W:u=.bool (!b)∨u=undef)
  (h: ∀a',Fr a' n ds ((d,undef)::l)→WL r P ops Q rest a' w):WL r P ops Q (⟨some d,op,T,pos,af,some (j,b)⟩::rest) a w:=by
 have h1:Region.wanted ⟨some d,op,T,pos,af,some (j,b)⟩ (yielded ops a.tmps)=false:=by
  rcases W with rfl|rfl<;>simp[Region.wanted,yielded,N,I.get _ _ O,undef]
 unfold WL wpListIn
 rw[h1]
 exact⟨fun _ _=>trivial,h _ (I.put (Q0 J) undef)⟩
theorem done (h:Q .normal a w):WL r P ops Q [] a w:=h
theorem reg {id:Nat}{lo:List Oper}(h:WL r P lo.toArray Q lo a w):WP r P (Code.region id lo.toArray false) Q a w:=wpIn_region_lit h
theorem cond {c:Operand}{x y:Code}{b:Bool}(I:Fr a n ds l)(J:ev l c=some (.bool b))(N:b=true→WP r P x Q a w)(O:b=false→WP r P y Q a w):WP r P (Code.cond c x y) Q a w:=
 wpIn_cond_split (I.eval J) N O
theorem condp {c:Operand}{x y:Code}{p:Prop}[Decidable p](I:Fr a n ds l)(J:ev l c=some (.bool (decide p)))(N:p→WP r P x Q a w)(O: ¬p→WP r P y Q a w):WP r P (Code.cond c x y) Q a w:=
 wpIn_cond_split (I.eval J) (fun h=>N (of_decide_eq_true h)) (fun h=>O (of_decide_eq_false h))
theorem condt {c:Operand}{x y:Code}(I:Fr a n ds l)(J:ev l c=some (.bool true))(N:WP r P x Q a w):WP r P (Code.cond c x y) Q a w:=
 wpIn_cond_split (I.eval J) (fun _=>N) (fun h=>by cases h)
theorem condf {c:Operand}{x y:Code}(I:Fr a n ds l)(J:ev l c=some (.bool false))(N:WP r P y Q a w):WP r P (Code.cond c x y) Q a w:=
 wpIn_cond_split (I.eval J) (fun h=>by cases h) (fun _=>N)
theorem skip (h:Q .normal a w):WP r P Code.skip Q a w:=wpIn_skip h
theorem exit {id:Nat}(h:Q (.exit id) a w):WP r P (Code.exit id) Q a w:=wpIn_exit h
theorem ret (h:Q .ret a w):WP r P Code.ret Q a w:=wpIn_ret h
theorem loop {c:Code}(I:Nat→Act→World→Prop)(m:Nat)(h0:I m a w)
  (round: ∀m a w,I m a w→WP r P c (Exit.then (fun a' w'=>∃m',m'<m∧I m' a' w') Q) a w):WP r P (Code.loop c) Q a w:=by
 intro b k cs J N O
 have key: ∀m a w,I m a w→∃e a' w',Q e a' w'∧ArrivesIn (Machine.fenced P (FW r)) P (lone (b.atR a (.code c:: .inLoop c::k)) cs w) b k cs e a' w':=by
  intro m
  induction m using Nat.strongRecOn with
  |_ m ih=>
   intro a w hI
   obtain⟨e,a₁,w₁,hq,harr⟩:=round m a w hI b (.inLoop c::k) cs J N O
   cases e with
   |normal=>
    obtain⟨m',W,hI₁⟩:=hq
    obtain⟨e₂,a₂,w₂,hq₂,harr₂⟩:=ih m' W a₁ w₁ hI₁
    exact⟨e₂,a₂,w₂,hq₂,.of_steps (StepsIn.trans harr (.one (fenced_calm N O rfl) stepR_inLoop)) harr₂⟩
   |exit id=>exact⟨_,a₁,w₁,hq,.pass (x:=.inLoop c) rfl (fun _ _=>.inl (by simp)) harr⟩
   |goto l=>exact⟨_,a₁,w₁,hq,.pass (x:=.inLoop c) rfl (fun _ _=>.inl (by simp)) harr⟩
   |ret=>exact⟨_,a₁,w₁,hq,.pass (x:=.inLoop c) rfl (fun _ _=>.inl (by simp)) harr⟩
   |panic ch=>exact⟨_,a₁,w₁,hq,.pass (x:=.inLoop c) rfl (fun _ _=>.inl (by simp)) harr⟩
   |outgrown=>exact⟨_,a₁,w₁,hq,.pass (x:=.inLoop c) rfl (fun _ _=>.inl (by simp)) harr⟩
 obtain⟨e,a',w',hq,harr⟩:=key m a w h0
 exact⟨e,a',w',hq,.of_steps (.one (fenced_calm N O rfl) stepR_loop) harr⟩
theorem ret0 {fn:Func}{R:Ending→World→Prop}(I:Fr a n [] l)(J:fn.results=#[])(N:R (.returned (.tuple #[])) w):bodyPost P fn R .ret a w:=
 bodyPost_ret (results_none J _ _ _) I.defs N
end
structure Ch (S:List Nat) (w w':World):Prop where
 os:w'.os=w.os
 tape:w'.tape=w.tape
 output:w'.output=w.output
 size:w.heap.size≤w'.heap.size
 block: ∀k,k<w.heap.size→k∉S→w'.heap[k]?=w.heap[k]?
theorem Ch.refl (w:World):Ch [] w w:=⟨rfl,rfl,rfl,Q1 _,fun _ _ _=>rfl⟩
theorem Ch.refl' (S:List Nat)(w:World):Ch S w w:=⟨rfl,rfl,rfl,Q1 _,fun _ _ _=>rfl⟩
theorem Ch.mono {S S':List Nat}{a b:World}(h:Ch S a b)(J: ∀k,k∈S→k∈S'∨a.heap.size≤k):Ch S' a b:=
 ⟨h.os,h.tape,h.output,h.size,fun k hk N=>h.block k hk (fun O=>by rcases J k O with I|I;exact N I;omega)⟩
theorem Ch.then {S T U:List Nat}{a b c:World}(h:Ch S a b)(k:Ch T b c)(O: ∀i,i∈S→i∈U∨a.heap.size≤i:=by simp)(W: ∀i,i∈T→i∈U∨a.heap.size≤i:=by simp):Ch U a c:=
 ⟨k.os.trans h.os,k.tape.trans h.tape,k.output.trans h.output,Wh h.size k.size,fun i hi N=>by
  have h1:=h.size
  refine(k.block i (by omega) (fun J=>?_)).trans (h.block i hi (fun J=>?_))
  ·rcases W i J with I|I
   ·exact N I
   ·omega
  ·rcases O i J with I|I
   ·exact N I
   ·omega⟩
theorem Ch.of_grown {w w':World}{row:Option Nat}(h:w.grownBy w' row):Ch row.toList w w':=
 ⟨h.os,h.tape,h.output,h.size,fun k hk I=>h.block k hk (fun e=>I (by rw[←e];simp))⟩
theorem Ch.below {w w':World}(h:Ch [] w w'):Below w.heap.size w w':=⟨h.os,h.tape,h.output,h.size,fun k hk=>h.block k hk (by simp)⟩
theorem Ch.of_below {w w':World}(h:Below w.heap.size w w'):Ch [] w w':=⟨h.os,h.tape,h.output,h.size,fun k hk _=>h.block k hk⟩
theorem Ch.drew (w:World):Ch [] w w.drew:=⟨rfl,rfl,rfl,Q1 _,fun _ _ _=>rfl⟩
theorem Ch.alloc (w:World)(o:Obj):Ch [] w (w.alloc o):=⟨rfl,rfl,rfl,by simp,fun k hk _=>Below.heap_alloc w o k hk⟩
theorem Ch.setRow (w:World)(g:Nat)(cs:Array Value):Ch [g] w (w.setRow g cs):=
 ⟨rfl,rfl,rfl,by simp[World.setRow],fun k _ I=>setRow_other w g k cs (by simpa using I)⟩
theorem Ch.cell {S:List Nat}{w w':World}(h:Ch S w w'){p:Addr}(hp:p.block<w.heap.size)(I:p.block∉S):w'.cell? p=w.cell? p:=World.cell?_of_block (h.block _ hp I)
def Blk (w:World)(g:Nat)(t:TypeId)(cs:List Value):Prop:=w.heap[g]?=some (.cells cs.toArray t (0,0))
section
variable {w w':World}{g:Nat}{t:TypeId}{cs:List Value}
theorem Blk.lt (h:Blk w g t cs):g<w.heap.size:=by
 rcases Y4 g w.heap.size with I|J
 ·exact I
 ·unfold Blk at h;rw[Yq J]at h;cases h
theorem Blk.cell (h:Blk w g t cs)(i:Nat):w.cell? ⟨g,i,none⟩=cs[i]?:=by rw[cell_of_row w g i cs.toArray t (0,0) h];simp
theorem Blk.new (w:World)(t:TypeId)(cs:List Value):Blk (w.alloc (.cells cs.toArray t)) w.heap.size t cs:=heap_alloc_new w _
theorem Blk.ch {S:List Nat}(h:Blk w g t cs)(I:Ch S w w')(J:g∉S):Blk w' g t cs:=(I.block g h.lt J).trans h
end
section
variable {P:Program}{a:Act}{w:World}{d:Option Tmp}{T:TypeId}{pos:String}{af:Array Edge}{gd:Option (Nat×Bool)}
theorem r_move {x:Operand}{v:Value}(I:a.eval x=v):(execOp a.eval ⟨d,.move x,T,pos,af,gd⟩).run P w=.ok (.value v) w:=by
 simp[execOp,I]
theorem r_assign {x:Operand}{v:Value}(I:a.eval x=v):(execOp a.eval ⟨d,.assign x,T,pos,af,gd⟩).run P w=.ok (.value v) w:=by
 simp[execOp,I]
theorem r_pick_t {c x y:Operand}{u:Value}(I:a.eval c=.bool true)(J:a.eval x=u):
  (execOp a.eval ⟨d,.pick c x y,T,pos,af,gd⟩).run P w=.ok (.value u) w:=by
 simp[execOp,I,J,asBool]
theorem r_pick_f {c x y:Operand}{v:Value}(I:a.eval c=.bool false)(J:a.eval y=v):
  (execOp a.eval ⟨d,.pick c x y,T,pos,af,gd⟩).run P w=.ok (.value v) w:=by
 simp[execOp,I,J,asBool]
theorem r_not {t:TypeId}{x:Operand}{b:Bool}(I:a.eval x=.bool b):(execOp a.eval ⟨d,.unOp .not t x,T,pos,af,gd⟩).run P w=.ok (.value (.bool (!b))) w:=by
 simp[execOp,I,Op.unary]
theorem r_extract {x:Operand}{vs:Array Value}{i:Nat}{v:Value}(I:a.eval x=.tuple vs)(J:vs[i]?=some v):(execOp a.eval ⟨d,.extract x i,T,pos,af,gd⟩).run P w=.ok (.value v) w:=by
 simp[execOp,I,Instr.extract,J]
theorem r_nilCheck {x:Operand}{ad:Addr}(I:a.eval x=.pointer (some ad)):(execOp a.eval ⟨d,.nilCheck x,T,pos,af,gd⟩).run P w=.ok (.value (.pointer (some ad))) w:=by
 simp[execOp,I]
theorem r_makeFunc {fn:Fn}{first captured:Array Operand}{vs us:Array Value}(I:first.map a.eval=vs)(J:captured.map a.eval=us):
  (execOp a.eval ⟨d,.makeFunc fn first captured,T,pos,af,gd⟩).run P w=.ok (.value (.func fn vs us)) w:=by
 simp[execOp,Instr.makeFunc,I,J]
section ints
variable {t ty:TypeId}{x y:Operand}{k:IntKind}{m n:Int}
theorem r_add (I:a.eval x=.int k m)(J:a.eval y=.int k n):(execOp a.eval ⟨d,.binOp .add t x y ty,T,pos,af,gd⟩).run P w=.ok (.value (.int k (k.wrap (m+n)))) w:=by
 simp[execOp,I,J,binOp_add,eqGuard_add,Op.intArith]
theorem r_sub (I:a.eval x=.int k m)(J:a.eval y=.int k n):(execOp a.eval ⟨d,.binOp .sub t x y ty,T,pos,af,gd⟩).run P w=.ok (.value (.int k (k.wrap (m-n)))) w:=by
 simp[execOp,I,J,binOp_sub,eqGuard_sub,Op.intArith]
theorem r_mul (I:a.eval x=.int k m)(J:a.eval y=.int k n):(execOp a.eval ⟨d,.binOp .mul t x y ty,T,pos,af,gd⟩).run P w=.ok (.value (.int k (k.wrap (m*n)))) w:=by
 simp[execOp,I,J,binOp_mul,eqGuard_mul,Op.intArith]
theorem r_quo (I:a.eval x=.int k m)(J:a.eval y=.int k n)(N:n≠0):(execOp a.eval ⟨d,.binOp .quo t x y ty,T,pos,af,gd⟩).run P w=.ok (.value (.int k (k.wrap (m.tdiv n)))) w:=by
 simp[execOp,I,J,binOp_quo,eqGuard_quo,Op.intDiv,N]
theorem r_rem (I:a.eval x=.int k m)(J:a.eval y=.int k n)(N:n≠0):(execOp a.eval ⟨d,.binOp .rem t x y ty,T,pos,af,gd⟩).run P w=.ok (.value (.int k (m.tmod n))) w:=by
 simp[execOp,I,J,binOp_rem,eqGuard_rem,Op.intDiv,N]
theorem r_lss (I:a.eval x=.int k m)(J:a.eval y=.int k n):(execOp a.eval ⟨d,.binOp .lss t x y ty,T,pos,af,gd⟩).run P w=.ok (.value (.bool (decide (m<n)))) w:=by
 simp[execOp,I,J,binOp_lss,eqGuard_lss]
theorem r_leq (I:a.eval x=.int k m)(J:a.eval y=.int k n):(execOp a.eval ⟨d,.binOp .leq t x y ty,T,pos,af,gd⟩).run P w=.ok (.value (.bool (decide (m≤n)))) w:=by
 simp[execOp,I,J,binOp_leq,eqGuard_leq]
theorem r_gtr (I:a.eval x=.int k m)(J:a.eval y=.int k n):(execOp a.eval ⟨d,.binOp .gtr t x y ty,T,pos,af,gd⟩).run P w=.ok (.value (.bool (decide (n<m)))) w:=by
 simp[execOp,I,J,binOp_gtr,eqGuard_gtr]
theorem r_geq (I:a.eval x=.int k m)(J:a.eval y=.int k n):(execOp a.eval ⟨d,.binOp .geq t x y ty,T,pos,af,gd⟩).run P w=.ok (.value (.bool (decide (n≤m)))) w:=by
 simp[execOp,I,J,binOp_geq,eqGuard_geq]
theorem r_eql (I:a.eval x=.int k m)(J:a.eval y=.int k n):(execOp a.eval ⟨d,.binOp .eql t x y ty,T,pos,af,gd⟩).run P w=.ok (.value (.bool (decide (m=n)))) w:=by
 simp[execOp,I,J,binOp_eql,eqGuard_at_int]
 rfl
theorem r_neq (I:a.eval x=.int k m)(J:a.eval y=.int k n):(execOp a.eval ⟨d,.binOp .neq t x y ty,T,pos,af,gd⟩).run P w=.ok (.value (.bool (decide (m≠n)))) w:=by
 have e:(m !=n)=decide (m≠n):=by rw[Y6];simp
 simp only[execOp,I,J,binOp_neq,eqGuard_at_int,Sem.run_bind,Sem.run_pure,Result.andThen_ok,e]
theorem r_shr {k':IntKind}(I:a.eval x=.int .u64 m)(J:a.eval y=.int k' n)(N:0≤n)(O:n≤64):(execOp a.eval ⟨d,.binOp .shr t x y ty,T,pos,af,gd⟩).run P w=.ok (.value (.int .u64 (m / 2^n.toNat))) w:=by
 simp[execOp,I,J,binOp_shr,eqGuard_shr,shift_shr_u64 k' m n N O]
end ints
section bools
variable {t ty:TypeId}{x y:Operand}{b c:Bool}
theorem Qcx {t:TypeId}(I:P.underlying t=some .bool)(m:Nat):(Op.equalIn (m+1) t (.bool b) (.bool c)).run P w=.ok (b==c) w:=by
 simp[Op.equalIn,run_underlying I]
theorem Qbo {t:TypeId}(I:P.underlying t=some .bool):(Op.equal t (.bool b) (.bool c)).run P w=.ok (b==c) w:=Qcx I 9999
theorem r_eqb (I:P.underlying t=some .bool)(J:a.eval x=.bool b)(N:a.eval y=.bool c):(execOp a.eval ⟨d,.binOp .eql t x y ty,T,pos,af,gd⟩).run P w=.ok (.value (.bool (b==c))) w:=by
 simp[execOp,J,N,eqGuard_at_bool,binOp,Qbo I]
theorem r_neb (I:P.underlying t=some .bool)(J:a.eval x=.bool b)(N:a.eval y=.bool c):(execOp a.eval ⟨d,.binOp .neq t x y ty,T,pos,af,gd⟩).run P w=.ok (.value (.bool (!(b==c)))) w:=by
 simp[execOp,J,N,eqGuard_at_bool,binOp,Qbo I]
end bools
section strings
variable {t ty:TypeId}{x y:Operand}{s u:ByteArray}
theorem str_eq (s u:ByteArray):(s.toList==u.toList)=decide (s=u):=by
 rw[Y6]
 simp only[beq_iff_eq,decide_eq_true_eq]
 constructor
 ·intro h
  rw[ByteArray.toList_eq,ByteArray.toList_eq]at h
  exact ByteArray.ext (Array.toList_inj.1 h)
 ·rintro rfl;rfl
theorem r_eqs (I:a.eval x=.string s)(J:a.eval y=.string u):(execOp a.eval ⟨d,.binOp .eql t x y ty,T,pos,af,gd⟩).run P w=.ok (.value (.bool (decide (s=u)))) w:=by
 simp[execOp,I,J,eqGuard_at_string,binOp,Op.stringOp,str_eq]
theorem r_nes (I:a.eval x=.string s)(J:a.eval y=.string u):(execOp a.eval ⟨d,.binOp .neq t x y ty,T,pos,af,gd⟩).run P w=.ok (.value (.bool (!decide (s=u)))) w:=by
 simp[execOp,I,J,eqGuard_at_string,binOp,Op.stringOp,str_eq]
end strings
section conv
variable {src dst:TypeId}{x:Operand}{k k':IntKind}{n:Int}
theorem r_conv {de:TypeDesc}(I:P.underlying src=some de)(J:P.underlying dst=some (.int k'))(N:a.eval x=.int k n):(execOp a.eval ⟨d,.convert src dst x,T,pos,af,gd⟩).run P w=.ok (.value (.int k' (k'.wrap n))) w:=by
 simp[execOp,N,convert,run_underlying I,run_underlying J,Conv.intToInt]
end conv
section lens
variable {t e:TypeId}{x y:Operand}{A:Option Addr}{n c:Nat}
theorem r_len (I:P.underlying t=some (.slice e))(J:a.eval x=.slice A n c):
  (execOp a.eval ⟨d,.call {callee:=.builtin .len,args:=#[x],argTypes:=#[t]},T,pos,af,gd⟩).run P w=.ok (.value (.int .i64 (n:Int))) w:=by
 simp[execOp,resolve,invoke,builtin,J,Builtin.len_,run_underlying I,goInt]
theorem r_lens {s:ByteArray}(I:P.underlying t=some .string)(J:a.eval x=.string s):
  (execOp a.eval ⟨d,.call {callee:=.builtin .len,args:=#[x],argTypes:=#[t]},T,pos,af,gd⟩).run P w=.ok (.value (.int .i64 (s.size:Int))) w:=by
 simp[execOp,resolve,invoke,builtin,J,Builtin.len_,run_underlying I,goInt]
theorem r_min {k k':IntKind}{p q:Int}{ts:Array TypeId}(I:a.eval x=.int k p)(J:a.eval y=.int k' q):
  (execOp a.eval ⟨d,.call {callee:=.builtin .min,args:=#[x,y],argTypes:=ts},T,pos,af,gd⟩).run P w=.ok (.value (.int k (min p q))) w:=by
 have e:(if q<p then q else p)=min p q:=by omega
 simp[execOp,resolve,invoke,builtin,I,J,Builtin.min_,Builtin.min2,e]
theorem r_max {k k':IntKind}{p q:Int}{ts:Array TypeId}(I:a.eval x=.int k p)(J:a.eval y=.int k' q):
  (execOp a.eval ⟨d,.call {callee:=.builtin .max,args:=#[x,y],argTypes:=ts},T,pos,af,gd⟩).run P w=.ok (.value (.int k (max p q))) w:=by
 have e:(if p<q then q else p)=max p q:=by omega
 simp[execOp,resolve,invoke,builtin,I,J,Builtin.max_,Builtin.max2,e]
end lens
section mem
variable {t e:TypeId}{x y:Operand}{g o:Nat}{cs:List Value}{v:Value}{n:Nat}
theorem r_load1 {ad:Addr}(I: ∀w,(isAgg t).run P w=.ok false w)(J:a.eval x=.pointer (some ad))(N:w.cell? ad=some v):
  (execOp a.eval ⟨d,.load t x,T,pos,af,gd⟩).run P w=.ok (.value v) w:=by
 simp[execOp,Instr.loadAt,J,Instr.sureAddr,loadVar,I,N]
theorem r_loadN {ad:Addr}(I: ∀w,(isAgg t).run P w=.ok true w)(J: ∀w,(sizeOf t).run P w=.ok n w)(N:a.eval x=.pointer (some ad))(O:cs.length=n)
  (W: ∀j u,cs[j]?=some u→w.cell? (ad.add j)=some u):
  (execOp a.eval ⟨d,.load t x,T,pos,af,gd⟩).run P w=.ok (.value (.agg cs.toArray)) w:=by
 subst O
 have:=run_loadCells_list (P:=P) w ad cs W
 simp[execOp,Instr.loadAt,N,Instr.sureAddr,loadVar,I,J,this]
theorem r_indexAddr {A:Addr}{c:Nat}{i:Int}{k:IntKind}(I:P.underlying t=some (.slice e))(J: ∀w,(sizeOf e).run P w=.ok g w)(N:a.eval x=.slice (some A) n c)(O:a.eval y=.int k i)(W:0≤i)(h1:i<n):
  (execOp a.eval ⟨d,.indexAddr t x y,T,pos,af,gd⟩).run P w=.ok (.value (.pointer (some (A.add (i.toNat*g))))) w:=by
 simp[execOp,Instr.indexAt,N,O,asIntOf,run_underlying I,J,W,h1]
end mem
end
inductive Ty where
 |int (k:IntKind)
 |byte
 |bool
 |str
 |slice (e:Ty)
 |pair (a b:Ty)
@[reducible] def Ty.den:Ty→Type
 | .int _=>Int
 | .byte=>UInt8
 | .bool=>Bool
 | .str=>ByteArray
 | .slice e=>List e.den
 | .pair a b=>a.den×b.den
def Ty.size:Ty→Nat
 | .pair a b=>a.size+b.size
 |_=>1
def Ty.rep (w:World)(F:Nat→Prop):(t:Ty)→List Value→t.den→Prop
 | .int k,cs,x=>cs=[.int k x]∧k.has x
 | .byte,cs,x=>cs=[.int .u8 (x.toNat:Int)]
 | .bool,cs,x=>cs=[.bool x]
 | .str,cs,x=>cs=[.string x]∧x.size≤maxLen
 | .slice e,cs,xs=>∃(A:Option Addr) (c:Nat) (cells:List Value),cs=[.slice A xs.length c]∧xs.length≤c∧c≤maxLen∧cells.length=xs.length*e.size∧
   (xs.length=0∨∃b o,A=some ⟨b,o,none⟩∧F b∧∀j u,cells[j]?=some u→w.cell? ⟨b,o+j,none⟩=some u)∧
   ∀(i:Nat) (x:e.den),xs[i]?=some x→e.rep w F ((cells.drop (i*e.size)).take e.size) x
 | .pair a b,cs,x=>∃ca cb,cs=ca++cb∧a.rep w F ca x.1∧b.rep w F cb x.2
section
variable {w w':World}{F F':Nat→Prop}
theorem Qgb: ∀(t:Ty) {cs:List Value} {x:t.den},t.rep w F cs x→cs.length=t.size
 | .int _,_,_,h=>by rw[h.1];rfl
 | .byte,_,_,h=>by rw[show _=_ from h];rfl
 | .bool,_,_,h=>by rw[show _=_ from h];rfl
 | .str,_,_,h=>by rw[h.1];rfl
 | .slice e,_,_,h=>by obtain⟨A,c,cells,h,_⟩:=h;rw[h];rfl
 | .pair a b,_,_,h=>by
  obtain⟨ca,cb,h,I,J⟩:=h
  rw[h,Ql,Qgb a I,Qgb b J];rfl
theorem Qgf: ∀(t:Ty) {cs:List Value} {x:t.den},t.rep w F cs x→∀u∈cs,u.oneCell'=true
 | .int _,_,_,h=>by rw[h.1];simp[Value.oneCell']
 | .byte,_,_,h=>by rw[show _=_ from h];simp[Value.oneCell']
 | .bool,_,_,h=>by rw[show _=_ from h];simp[Value.oneCell']
 | .str,_,_,h=>by rw[h.1];simp[Value.oneCell']
 | .slice e,_,_,h=>by obtain⟨A,c,cells,h,_⟩:=h;rw[h];simp[Value.oneCell']
 | .pair a b,_,_,h=>by
  obtain⟨ca,cb,h,J,N⟩:=h
  intro u I
  rw[h,Qn]at I
  rcases I with I|I
  ·exact Qgf a J u I
  ·exact Qgf b N u I
theorem rep_keep (hk: ∀p:Addr,F p.block→p.block<w.heap.size→w'.cell? p=w.cell? p)(I: ∀b,F b→F' b): ∀(t:Ty) {cs:List Value} {x:t.den},t.rep w F cs x→t.rep w' F' cs x
 | .int _,_,_,h=>h
 | .byte,_,_,h=>h
 | .bool,_,_,h=>h
 | .str,_,_,h=>h
 | .slice e,_,_,h=>by
  obtain⟨A,c,cells,O,W,h3,h4,N,h6⟩:=h
  refine⟨A,c,cells,O,W,h3,h4,?_,fun i x hi=>rep_keep hk I e (h6 i x hi)⟩
  rcases N with N|⟨b,o,hA,J,hc⟩
  ·exact .inl N
  ·refine .inr ⟨b,o,hA,I b J,fun j u hu=>?_⟩
   have:=hc j u hu
   rw[hk ⟨b,o+j,none⟩ J (World.block_lt_of_cell? w _ this)]
   exact this
 | .pair a b,_,_,h=>by
  obtain⟨ca,cb,h,ha,J⟩:=h
  exact⟨ca,cb,h,rep_keep hk I a ha,rep_keep hk I b J⟩
def Ty.flat:Ty→Bool
 | .slice _=>false
 | .pair a b=>a.flat&&b.flat
 |_=>true
theorem rep_flat: ∀(t:Ty),t.flat=true→∀{cs:List Value} {x:t.den},t.rep w F cs x→t.rep w F' cs x
 | .int _,_,_,_,h=>h
 | .byte,_,_,_,h=>h
 | .bool,_,_,_,h=>h
 | .str,_,_,_,h=>h
 | .slice e,I,_,_,_=>by cases I
 | .pair a b,I,_,_,h=>by
  simp only[Ty.flat,Qm]at I
  obtain⟨ca,cb,h,J,N⟩:=h
  exact⟨ca,cb,h,rep_flat a I.1 J,rep_flat b I.2 N⟩
theorem rep_ch {S:List Nat}(I:Ch S w w')(J: ∀b,F b→b∉S)(t:Ty){cs:List Value}{x:t.den}(h:t.rep w F cs x):t.rep w' F cs x:=
 rep_keep (fun _ hp N=>I.cell N (J _ hp)) (fun _ h=>h) t h
theorem rep_ch0 (I:Ch [] w w')(t:Ty){cs:List Value}{x:t.den}(h:t.rep w F cs x):t.rep w' F cs x:=rep_ch I (fun _ _=>by simp) t h
theorem Qgn (I: ∀b,F b→F' b)(t:Ty){cs:List Value}{x:t.den}(h:t.rep w F cs x):t.rep w F' cs x:=rep_keep (fun _ _ _=>rfl) I t h
theorem Qgg {e:Ty}{A:Option Addr}{n c:Nat}{xs:List e.den}(h:(Ty.slice e).rep w F [.slice A n c] xs):xs.length=n∧n≤c∧c≤maxLen:=by
 obtain⟨A',c',cells,I,J,N,_⟩:=h
 injection I with I
 injection I with hA O W
 subst O;subst W
 exact⟨rfl,J,N⟩
theorem Qdg (e:Ty):(Ty.slice e).rep w F [.slice none 0 0] []:=⟨none,0,[],rfl,Q1 _,by simp[maxLen],by simp,.inl rfl,fun i x h=>by simp at h⟩
theorem rep_take {e:Ty}{A:Option Addr}{n c:Nat}{xs:List e.den}(h:(Ty.slice e).rep w F [.slice A n c] xs){k:Nat}(hk:k≤xs.length):(Ty.slice e).rep w F [.slice A k c] (xs.take k):=by
 obtain⟨A',c',cells,J,h2,h3,h4,W,h6⟩:=h
 injection J with J
 injection J with N hn hc
 subst N;subst hc
 have O:(xs.take k).length=k:=by rw[Qu];omega
 refine⟨A,c,cells.take (k*e.size),by rw[O],by omega,h3,by rw[Qu,h4,O];exact X7 (Q9 _ hk),?_,fun i x hi=>?_⟩
 ·rw[O]
  rcases W with W|⟨b,o,N,hb,hcell⟩
  ·exact .inl (by omega)
  ·refine .inr ⟨b,o,N,hb,fun j u hu=>hcell j u ?_⟩
   have hj:=(Qc.1 hu).1
   rw[Qu]at hj
   rwa[Qq (by omega)]at hu
 ·have I:i<k:=by
   have:=(Qc.1 hi).1
   omega
  have hx:xs[i]?=some x:=by rwa[Qq I]at hi
  have:=h6 i x hx
  have hm:(i+1)*e.size≤k*e.size:=Q9 _ I
  rw[Xv,X8]at hm
  rw[List.drop_take,List.take_take,X7 (by omega)]
  exact this
end
def obl:Option Addr→List Nat
 |none=>[]
 |some a=>[a.block]
def Own (t:Ty)(e:TypeId)(B:Nat)(w:World)(F:Nat→Prop)(A:Option Addr)(c:Nat)(xs:List t.den):Prop:=
 ∃cells:List Value,w.ownsRow B e t.size (.slice A xs.length c) xs.length cells∧(∀u∈cells,u.oneCell'=true)∧
  ∀(i:Nat) (x:t.den),xs[i]?=some x→t.rep w F ((cells.drop (i*t.size)).take t.size) x
section
variable {t:Ty}{e:TypeId}{B:Nat}{w w':World}{F F':Nat→Prop}{A:Option Addr}{c:Nat}{xs:List t.den}
theorem ownBlock_slice (A:Option Addr)(n c:Nat):(Value.slice A n c).ownBlock.toList=obl A:=by cases A<;>rfl
theorem Own.nil (t:Ty)(e:TypeId)(B:Nat)(w:World)(F:Nat→Prop):Own t e B w F none 0 []:=
 ⟨[],World.ownsRow_nil w B e t.size,by simp,fun i x h=>by simp at h⟩
theorem Own.lt (h:Own t e B w F A c xs): ∀k,k∈obl A→B≤k∧k<w.heap.size:=by
 obtain⟨cells,I,_⟩:=h
 intro k hk
 exact I.lt k (by cases A<;>simp_all [obl,Value.ownBlock])
theorem Own.len (h:Own t e B w F A c xs):xs.length≤c∧c≤maxLen:=by
 obtain⟨cells,N,_⟩:=h
 rcases N.2 with⟨I,hn⟩|⟨g,cap,cur,I,_,_,O,W,_⟩
 ·injection I with _ _ J;subst J;exact⟨by omega,by simp[maxLen]⟩
 ·injection I with _ _ J;subst J;exact⟨O,W⟩
theorem Own.more (h:Own t e B w F A c xs)(I: ∀b,F b→F' b):Own t e B w F' A c xs:=by
 obtain⟨cells,J,N,O⟩:=h
 exact⟨cells,J,N,fun i x hi=>Qgn I t (O i x hi)⟩
theorem Own.base {B':Nat}(h:Own t e B w F A c xs)(hB:B'≤B):Own t e B' w F A c xs:=by
 obtain⟨cells,I,J,N⟩:=h
 refine⟨cells,⟨I.1,?_⟩,J,N⟩
 rcases I.2 with O|⟨g,cap,cur,W,hb,rest⟩
 ·exact .inl O
 ·exact .inr ⟨g,cap,cur,W,by omega,rest⟩
theorem Own.rep (h:Own t e B w F A c xs)(hF: ∀b,F b→F' b)(hA: ∀k,k∈obl A→F' k):(Ty.slice t).rep w F' [.slice A xs.length c] xs:=by
 obtain⟨cells,hr,h1,h2⟩:=h
 have hl:cells.length=xs.length*t.size:=hr.1
 rcases hr.2 with⟨J,hn⟩|⟨g,cap,cur,J,hb,hg,N,O,hcs,htake⟩
 ·injection J with hA' _ W
  subst hA';subst W
  exact⟨none,0,cells,rfl,by omega,by simp[maxLen],hl,.inl hn,fun i x hi=>Qgn hF t (h2 i x hi)⟩
 ·injection J with hA' _ W
  subst hA';subst W
  refine⟨_,_,cells,rfl,N,O,hl,.inr ⟨g,0,rfl,hA g (by simp[obl]),fun j u I=>?_⟩,fun i x hi=>Qgn hF t (h2 i x hi)⟩
  rw[Wf,cell_of_row w g j cur e (0,0) hg]
  rw[←htake,Xe]at I
  split at I
  ·simpa using I
  ·cases I
theorem Own.made {w:World}{g:Nat}{cs:List Value}(J:Blk w g e cs)(N:B≤g)(I:cs.length=xs.length*t.size)(O:xs.length≤maxLen)(W: ∀u∈cs,u.oneCell'=true)
  (h2: ∀(i:Nat) (x:t.den),xs[i]?=some x→t.rep w F ((cs.drop (i*t.size)).take t.size) x):Own t e B w F (some ⟨g,0,none⟩) xs.length xs:=
 ⟨cs,⟨I,.inr ⟨g,xs.length,cs.toArray,rfl,N,J,Q1 _,O,by simpa using I,by simp[←I]⟩⟩,W,h2⟩
end
theorem Qek {t:Ty}{w:World}{F:Nat→Prop}{xs ys:List t.den}{cs ds:List Value}(J:cs.length=xs.length*t.size)
  (N: ∀(i:Nat) (x:t.den),xs[i]?=some x→t.rep w F ((cs.drop (i*t.size)).take t.size) x) (O: ∀(i:Nat) (x:t.den),ys[i]?=some x→t.rep w F ((ds.drop (i*t.size)).take t.size) x):
  ∀(i:Nat) (x:t.den),(xs++ys)[i]?=some x→t.rep w F (((cs++ds).drop (i*t.size)).take t.size) x:=by
 intro i x hi
 by_cases I:i<xs.length
 ·rw[Q7 I]at hi
  have W:(i+1)*t.size≤xs.length*t.size:=Q9 _ I
  rw[Xv,X8]at W
  rw[List.drop_append_of_le_length (by omega),X0 (by rw[Xn];omega)]
  exact N i x hi
 ·rw[We (by omega)]at hi
  have:=O _ _ hi
  have e:(cs++ds).drop (i*t.size)=ds.drop ((i-xs.length)*t.size):=by
   rw[List.drop_append,Q2 (by rw[J];exact Q9 _ (by omega)),Xa,J,Nat.sub_mul]
  rw[e]
  exact this
section
variable {P:Program}{t:Ty}{e:TypeId}{B:Nat}{w:World}{F:Nat→Prop}{A:Option Addr}{c:Nat}{xs:List t.den}
end
def evs (l:List (Nat×Value)):List Operand→Option (List Value)
 | []=>some []
 |x::r=>match ev l x,evs l r with
  |some v,some vs=>some (v::vs)
  |_,_=>none
def evp (l:List (Nat×Value)):List (Nat×Operand)→Option (List (Nat×Value))
 | []=>some []
 |(i,x)::r=>match ev l x,evp l r with
  |some v,some vs=>some ((i,v)::vs)
  |_,_=>none
theorem Fr.evals {a:Act}{n:Nat}{ds:List Deferred}{l:List (Nat×Value)}(h:Fr a n ds l): ∀(xs:List Operand) {vs:List Value},evs l xs=some vs→xs.toArray.map a.eval=vs.toArray:=by
 intro xs
 induction xs with
 |nil=>intro vs I;simp only[evs,Qr]at I;subst I;simp
 |cons x r O=>
  intro vs I
  unfold evs at I
  cases J:ev l x with
  |none=>simp[J]at I
  |some v=>
   cases N:evs l r with
   |none=>simp[J,N]at I
   |some us=>
    simp only[J,N,Qr]at I
    subst I
    have:=O N
    simp only[X9,Q3,h.eval J]at this ⊢
    rw[Array.mk.injEq]at this
    rw[this]
theorem Fr.evalp {a:Act}{n:Nat}{ds:List Deferred}{l:List (Nat×Value)}(h:Fr a n ds l): ∀(xs:List (Nat×Operand)) {vs:List (Nat×Value)},evp l xs=some vs→
  xs.toArray.map (fun(i,x)=>(i,a.eval x))=vs.toArray:=by
 intro xs
 induction xs with
 |nil=>intro vs I;simp only[evp,Qr]at I;subst I;simp
 |cons x r O=>
  obtain⟨i,x⟩:=x
  intro vs I
  unfold evp at I
  cases J:ev l x with
  |none=>simp[J]at I
  |some v=>
   cases N:evp l r with
   |none=>simp[J,N]at I
   |some us=>
    simp only[J,N,Qr]at I
    subst I
    have:=O N
    simp only[X9,Q3,h.eval J]at this ⊢
    rw[Array.mk.injEq]at this
    rw[this]
section
variable {P:Program}{a:Act}{w:World}{d:Option Tmp}{T:TypeId}{pos:String}{af:Array Edge}{gd:Option (Nat×Bool)}{n:Nat}{ds:List Deferred}{l:List (Nat×Value)}
theorem Qhh {t:TypeId}{x:Operand}{fs:Array Field}{f:Field}{i m:Nat}{ad:Addr}(I:P.underlying t=some (.struct fs))(J:fs[i]?=some f)(N: ∀w,(sizeOf f.type).run P w=.ok (m+1) w)(O:a.eval x=.pointer (some ad)):
  (execOp a.eval ⟨d,.fieldAddr t x i,T,pos,af,gd⟩).run P w=.ok (.value (.pointer (some (ad.add f.offset)))) w:=by
 simp[execOp,Instr.fieldAt,run_underlying I,J,O,Instr.sureAddr,fieldPlace,N]
section
variable {t e:TypeId}{x lo hi mx:Operand}{A:Option Addr}{len c sz:Nat}{k k1 k2 k3:IntKind}{p q r:Int}
theorem Qgv {u:Nat}(I:P.underlying t=some (.slice e))(J: ∀w,(sizeOf e).run P w=.ok sz w)(N:a.eval x=.slice A len c)(O:a.eval hi=.int k q)(hq:q=(u:Int))(W:u≤c):
  (execOp a.eval ⟨d,.slice t x none (some hi) none,T,pos,af,gd⟩).run P w=.ok (.value (.slice A u c)) w:=by
 subst hq
 simp[execOp,Instr.sliceAt,run_underlying I,N,O,Instr.slice,Instr.sliceBounds,Instr.sliceBound,asIntOf,W,J]
 cases A<;>simp[Addr.add]
def cutA (A:Option Addr)(m p sz:Nat):Option Addr:=if m=p then A else A.map (·.add (p*sz))
theorem Qhs {u:Nat}(I:P.underlying t=some (.slice e))(J: ∀w,(sizeOf e).run P w=.ok sz w)(N:a.eval x=.slice A len c)(O:a.eval lo=.int k p)(hp:p=(u:Int))(W:u≤len):
  (execOp a.eval ⟨d,.slice t x (some lo) none none,T,pos,af,gd⟩).run P w=.ok (.value (.slice (cutA A c u sz) (len-u) (c-u))) w:=by
 subst hp
 simp[execOp,Instr.sliceAt,run_underlying I,N,O,Instr.slice,Instr.sliceBounds,Instr.sliceBound,asIntOf,W,J,cutA]
theorem r_eqnil {ty:TypeId}{y:Operand}(I:P.underlying t=some (.slice e))(J:a.eval x=.slice A len c)(N:a.eval y=.slice none 0 0):
  (execOp a.eval ⟨d,.binOp .eql t x y ty,T,pos,af,gd⟩).run P w=.ok (.value (.bool A.isNone)) w:=by
 have h: ∀m,(Op.equalIn (m+1) t (.slice A len c) (.slice none 0 0)).run P w=.ok A.isNone w:=fun m=>by
  cases A<;>simp[Op.equalIn,run_underlying I]
 have O:(Op.equal t (.slice A len c) (.slice none 0 0)).run P w=.ok A.isNone w:=h 9999
 simp[execOp,J,N,eqGuard_at_slice,binOp,O]
end
theorem r_callv {f:FuncId}{c:Operand}{xs:List Operand}{vs first cap:List Value}{ts:Array TypeId}(I: ∀args w,(callFunc f args).run P w=.ok (.enter f args) w)(J:Fr a n ds l)
  (N:ev l c=some (.func (.func f) first.toArray cap.toArray)) (O:evs l xs=some vs):
  (execOp a.eval ⟨d,.call {callee:=.value c,args:=xs.toArray,argTypes:=ts},T,pos,af,gd⟩).run P w=.ok (.enter f (first++vs++cap).toArray) w:=by
 have h:=J.evals xs O
 have W:=J.eval N
 simp only[execOp,resolve,h,W]
 simp[Deferred.ofValue,invoke,I]
end
section
variable {r:Option Nat}{P:Program}{ops:Array Oper}{Q:Exit→Act→World→Prop}{a:Act}{w:World}{rest:List Oper}{n:Nat}{ds:List Deferred}{l:List (Nat×Value)}{d:Nat}{T:TypeId}{pos:String}{af:Array Edge}
theorem st_box {e:TypeId}{x:Operand}{v:Value}{cs:List Value}(I:Fr a n ds l)(J:Nat.ble (d+1) n=true)(N:ev l x=some v)(O:v.cells=cs.toArray)
  (h: ∀g w' a',g=w.heap.size→w'.heap.size=g+1→Blk w' g e cs→Ch [] w w'→Fr a' n ds ((d,.pointer (some ⟨g,0,none⟩))::l)→WL r P ops Q rest a' w'):
  WL r P ops Q (⟨some d,.box e x,T,pos,af,none⟩::rest) a w:=
 valw (w':=w.alloc (.cells cs.toArray e)) (v:=.pointer (some ⟨w.heap.size,0,none⟩)) I J (by simp[execOp,I.eval N,Instr.box,newVar,newRow,O])
  fun a' hf'=>h _ _ a' rfl (by simp) (Blk.new w e cs) (Ch.alloc w _) hf'
theorem st_alloc {e:TypeId}{z:Value}{cs:List Value}(I:Fr a n ds l)(J:Nat.ble (d+1) n=true)(N: ∀w,(zeroValue e).run P w=.ok z w)(O:z.cells=cs.toArray)
  (h: ∀g w' a',g=w.heap.size→w'.heap.size=g+1→Blk w' g e cs→Ch [] w w'→Fr a' n ds ((d,.pointer (some ⟨g,0,none⟩))::l)→WL r P ops Q rest a' w'):
  WL r P ops Q (⟨some d,.alloc e,T,pos,af,none⟩::rest) a w:=
 valw (w':=w.alloc (.cells cs.toArray e)) (v:=.pointer (some ⟨w.heap.size,0,none⟩)) I J (by simp[execOp,Instr.alloc,N,newVar,newRow,O])
  fun a' hf'=>h _ _ a' rfl (by simp) (Blk.new w e cs) (Ch.alloc w _) hf'
theorem run_bslice {t e:TypeId}{len sz:Nat}{z:Value}{vs:List (Nat×Value)}{cs:List Value}(I:P.underlying t=some (.slice e))(J: ∀w,(sizeOf e).run P w=.ok sz w)(N: ∀w,(zeroValue e).run P w=.ok z w)
  (hs:len*sz≤2^24) (O:len*sz≠0) (W:Instr.fill (fun i=>some (i*sz,sz)) ((Array.range (len*sz)).map (z.cells[· %z.cells.size]!)) vs=some cs.toArray):
  (Instr.buildSlice t len vs.toArray).run P w=.ok (.slice (some ⟨w.heap.size,0,none⟩) len len) (w.alloc (.cells cs.toArray e)):=by
 have h1: ¬2^24<len*sz:=by omega
 simp only[Instr.buildSlice,Sem.run_bind,run_underlying I,Result.andThen_ok,J,h1,if_false,O,N,Sem.run_pure,W,newRow,run_newObj,gt_iff_lt]
 rfl
theorem st_bslice {t e:TypeId}{len sz:Nat}{z:Value}{parts:List (Nat×Operand)}{vs:List (Nat×Value)}{cs:List Value}(J:Fr a n ds l)(N:Nat.ble (d+1) n=true)(O:P.underlying t=some (.slice e))(W: ∀w,(sizeOf e).run P w=.ok sz w)
  (hz: ∀w,(zeroValue e).run P w=.ok z w) (hp:evp l parts=some vs) (hs:Nat.ble (len*sz) 16777216=true) (h0:Nat.ble 1 (len*sz)=true)
  (hc:Instr.fill (fun i=>some (i*sz,sz)) ((Array.range (len*sz)).map (z.cells[· %z.cells.size]!)) vs=some cs.toArray)
  (h: ∀g w' a',g=w.heap.size→w'.heap.size=g+1→Blk w' g e cs→Ch [] w w'→Fr a' n ds ((d,.slice (some ⟨g,0,none⟩) len len)::l)→WL r P ops Q rest a' w'):
  WL r P ops Q (⟨some d,.buildSlice t len parts.toArray,T,pos,af,none⟩::rest) a w:=
 valw (w':=w.alloc (.cells cs.toArray e)) (v:=.slice (some ⟨w.heap.size,0,none⟩) len len) J N (by
  have hb:=run_bslice (P:=P) (w:=w) O W hz (Q0 hs) (by have:=Q0 h0;omega) hc
  have I:=J.evalp parts hp
  simp only[execOp,I,Sem.run_bind,hb,Result.andThen_ok,Sem.run_pure])
  fun a' hf'=>h _ _ a' rfl (by simp) (Blk.new w e cs) (Ch.alloc w _) hf'
theorem st_bslice0 {t e:TypeId}{sz:Nat}(I:Fr a n ds l)(J:Nat.ble (d+1) n=true)(N:P.underlying t=some (.slice e))(O: ∀w,(sizeOf e).run P w=.ok sz w)
  (h: ∀g w' a',g=w.heap.size→w'.heap.size=g+1→Blk w' g e []→Ch [] w w'→Fr a' n ds ((d,.slice (some ⟨g,0,none⟩) 0 0)::l)→WL r P ops Q rest a' w'):
  WL r P ops Q (⟨some d,.buildSlice t 0 #[],T,pos,af,none⟩::rest) a w:=
 valw (w':=w.alloc (.cells ([]:List Value).toArray e)) (v:=.slice (some ⟨w.heap.size,0,none⟩) 0 0) I J (by
  simp only[execOp,Instr.buildSlice,Sem.run_bind,run_underlying N,Result.andThen_ok,O,Nat.zero_mul]
  simp[Instr.fill,newRow,Array.range_zero'])
  fun a' hf'=>h _ _ a' rfl (by simp) (Blk.new w e []) (Ch.alloc w _) hf'
theorem run_storeB {t bt:TypeId}{g o m:Nat}{cs new:List Value}{v:Value}(J:Blk w g bt cs)(N: ∀w,(sizeOf t).run P w=.ok m w)(O:v.cells=new.toArray)(I:new.length=m)(ho:o+m≤cs.length)(W: ∀u∈new,u.oneCell'=true):
  (Instr.storeAt t (.pointer (some ⟨g,o,none⟩)) v).run P w=.ok () (w.setRow g (cs.take o++new++cs.drop (o+m)).toArray):=by
 have:=run_storeCells_at P g o bt new 0 cs.toArray w J (by simp;omega) W
 simp only[Yz]at this
 simp only[Instr.storeAt,Instr.sureAddr,Sem.run_bind,Sem.run_pure,Result.andThen_ok,storeVar,N,O,Yf,I,ne_eq,not_true,if_false]
 rw[this,I]
theorem Blk.setRow {g:Nat}{bt:TypeId}{cs cs':List Value}(I:Blk w g bt cs):Blk (w.setRow g cs'.toArray) g bt cs':=setRow_heap w g cs.toArray cs'.toArray bt (0,0) I
theorem st_store {t bt:TypeId}{x y:Operand}{g o m:Nat}{cs new cs':List Value}{v:Value}(I:Fr a n ds l)(J:Blk w g bt cs)(O:ev l x=some (.pointer (some ⟨g,o,none⟩)))(W:ev l y=some v)(hS: ∀w,(sizeOf t).run P w=.ok m w)
  (hv:v.cells=new.toArray) (hm:new.length=m) (ho:Nat.ble (o+m) cs.length=true) (h1: ∀u∈new,u.oneCell'=true) (hc:cs.take o++new++cs.drop (o+m)=cs')
  (h: ∀w' a',w'.heap.size=w.heap.size→Blk w' g bt cs'→Ch [g] w w'→Fr a' n ds l→WL r P ops Q rest a' w'):
  WL r P ops Q (⟨none,.store t x y,T,pos,af,none⟩::rest) a w:=
 skipw (w':=w.setRow g cs'.toArray) I (by
  have N:=run_storeB (P:=P) J hS hv hm (Q0 ho) h1
  rw[hc]at N
  simp only[execOp,I.eval O,I.eval W,Sem.run_bind,N,Result.andThen_ok,Sem.run_pure])
  fun a' hf'=>h _ a' (by simp[World.setRow]) J.setRow (Ch.setRow w g _) hf'
end
section
variable {r:Option Nat}{P:Program}{ops:Array Oper}{Q:Exit→Act→World→Prop}{a:Act}{w:World}{rest:List Oper}{n:Nat}{ds:List Deferred}{l:List (Nat×Value)}{d:Nat}{T:TypeId}{pos:String}{af:Array Edge}
end
section
variable {r:Option Nat}{P:Program}{ops:Array Oper}{Q:Exit→Act→World→Prop}{S:World→Prop}{a:Act}{w:World}{n:Nat}{ds:List Deferred}{l:List (Nat×Value)}{fuel:Nat}{listed:Array Bool}
def Hel (r:Option Nat)(P:Program)(ops:Array Oper)(Q:Exit→Act→World→Prop)(S:World→Prop):Nat→Array Bool→Act→World→Prop
 |0,listed,a,w=>Region.ready .any ops listed=[]∧Q .normal a w
 |f+1,listed,a,w=>(Region.ready .any ops listed=[]→Q .normal a w)∧
  ∀i∈Region.ready .any ops listed,wpOpIn (FW r) 0 P ops Q i (fun a' w'=>S w'∧Hel r P ops Q S f (listed.setIfInBounds i true) a' w') a w
def Qbb (ops:Array Oper):Bool:=ops.toList.all fun o=>match o.op with| .defer _=>false|_=>true
theorem Qbe (h:Qbb ops=true){j:Nat}{o:Oper}(I:ops[j]?=some o): ∀c,o.op≠ .defer c:=fun c J=>by
 have:=Qz.1 h o (Qf (i:=j) (by rw[Xr];exact I))
 simp[J]at this
theorem Qga {ρ:Operand→Value}{o:Oper}(h: ∀c,o.op≠ .defer c):o.semAt r ρ=execOp ρ o:=by
 cases r with
 |none=>exact Oper.semAt_none ρ o
 |some l=>exact Oper.semAt_some l ρ o h
theorem Hel.put {j:Nat}{oi oj:Oper}{v:Value}(O: ∀c,oj.op≠ .defer c)(hj:ops[j]?=some oj)(W:oi.apart ops oj=true)(hsi: ∀cs b,oi.op≠ .select cs b)(hsj: ∀cs b,oj.op≠ .select cs b)
  (hQ: ∀c a w,Q (.panic c) (a.put oi.dst v) w→Q (.panic c) a w) {K:Act→World→Prop} (I:YieldsIf P ops S oi v a) (h:wpOpIn (FW r) 0 P ops Q j K (a.put oi.dst v) w):
  wpOpIn (FW r) 0 P ops Q j (fun a' w'=>YieldsIf P ops S oi v a'∧K (a'.put oi.dst v) w') a w:=by
 obtain⟨h1,N,h3⟩:=Oper.apart_spec W
 have kp1: ∀(a:Act),YieldsIf P ops S oi v a→∀u,YieldsIf P ops S oi v (a.put oj.dst u):=fun a I u=>I.of_same (execOp_put oi hsi a oj.dst u h3) (wanted_put oi a oj.dst u h3)
 have kp2: ∀d,YieldsIf P ops S oi v {a with defers:=d::a.defers}:=fun d=>I.of_same rfl rfl
 unfold wpOpIn at*
 rw[hj]at h ⊢
 simp only[]at h ⊢
 rw[wanted_put oj a oi.dst v h1]at h
 by_cases hw:Region.wanted oj (yielded ops a.tmps)=true
 ·rw[if_pos hw]at h ⊢
  refine⟨fun _ _=>trivial,?_⟩
  have h:=h.2
  rw[Qga O,execOp_put oj hsj a oi.dst v h1]at h
  rw[Qga O]
  generalize (execOp a.eval oj).run P w=res at h ⊢
  cases res with
  |ok x w'=>
   cases x with
   |value u=>exact⟨kp1 a I u,by rw[←Act.put_comm a v u N];exact h⟩
   |skip=>exact⟨kp1 a I _,by rw[←Act.put_comm a v undef N];exact h⟩
   |defer d=>exact⟨kp1 _ (kp2 d) _,by rw[←Act.put_comm _ v undef N,←Act.put_defers];exact h⟩
   |enter f args=>
    refine⟨h.1,CallsIn.mono h.2 fun e w'' J=>?_⟩
    cases e with
    |returned u=>exact⟨kp1 a I u,by rw[←Act.put_comm a v u N];exact J⟩
    |panicked c=>exact hQ _ _ _ J
    |outgrown=>exact J
   |row row args=>exact⟨h.1,RowsIn.mono h.2 fun u w'' J=>⟨kp1 a I u,by rw[←Act.put_comm a v u N];exact J⟩⟩
   |round l f tmps assign body=>
    refine⟨h.1,RoundIn.mono h.2 fun e w'' J=>?_⟩
    cases e with
    |returned u=>exact⟨kp1 a I u,by rw[←Act.put_comm a v u N];exact J⟩
    |panicked c=>exact hQ _ _ _ J
    |outgrown=>exact J
   |_=>exact h
  |halt x w'=>cases x<;>first|exact hQ _ _ _ h|exact h
 ·rw[if_neg hw]at h ⊢
  exact⟨fun _ _=>trivial,kp1 a I _,by rw[←Act.put_comm a v undef N];exact h.2⟩
theorem Hel.op {i:Nat}{o:Oper}{v:Value}(I: ∀c,o.op≠ .defer c)(hi:ops[i]?=some o)(N:YieldsIf P ops S o v a){K:Act→World→Prop}(O:S w)(h:K (a.put o.dst v) w):wpOpIn (FW r) 0 P ops Q i K a w:=by
 unfold wpOpIn
 rw[hi]
 simp only[]
 rcases N with⟨J,W⟩|⟨J,rfl⟩
 ·rw[if_pos J]
  exact⟨fun _ _=>trivial,by rw[Qga I,W w O];exact h⟩
 ·rw[if_neg (by rw[J];decide)]
  exact⟨fun _ _=>trivial,h⟩
theorem Qbu {dst:Option Tmp}{op:Op}{T:TypeId}{pos:String}{af:Array Edge}{y:Nat→Option Bool}:Region.wanted ⟨dst,op,T,pos,af,none⟩ y=true:=by simp[Region.wanted]
theorem Qbx {dst:Option Tmp}{op:Op}{T:TypeId}{pos:String}{af:Array Edge}{j dj:Nat}{b:Bool}(I:Fr a n ds l)(J:(ops[j]?).bind (·.dst)=some dj)(N:lk l dj=some (.bool b)):Region.wanted ⟨dst,op,T,pos,af,some (j,b)⟩ (yielded ops a.tmps)=true:=by
 simp[Region.wanted,yielded,J,I.get _ _ N]
theorem Qcj {dst:Option Tmp}{op:Op}{T:TypeId}{pos:String}{af:Array Edge}{j dj:Nat}{b:Bool}{u:Value}(I:Fr a n ds l)(J:(ops[j]?).bind (·.dst)=some dj)(N:lk l dj=some u)(O:u=.bool (!b)∨u=undef):
  Region.wanted ⟨dst,op,T,pos,af,some (j,b)⟩ (yielded ops a.tmps)=false:=by
 rcases O with rfl|rfl<;>simp[Region.wanted,yielded,J,I.get _ _ N,undef]
end
def Pq (Q:Exit→Act→World→Prop):Prop:=∀c a d v w,Q (.panic c) (Act.put a d v) w→Q (.panic c) a w
theorem put_defers (a:Act)(d:Option Tmp)(v:Value):(a.put d v).defers=a.defers:=by cases d<;>rfl
theorem Pq.body (P:Program)(fn:Func)(R:Ending→World→Prop):Pq (bodyPost P fn R):=fun c a d v w h=>by
 obtain⟨I,J⟩:=h
 rw[put_defers]at I
 exact⟨I,J⟩
section
variable {r:Option Nat}{P:Program}{Q:Exit→Act→World→Prop}{a:Act}{w:World}{n:Nat}{ds:List Deferred}{l:List (Nat×Value)}
theorem r_indexAddrA {d:Option Tmp}{T:TypeId}{pos:String}{af:Array Edge}{gd:Option (Nat×Bool)}{t e:TypeId}{x y:Operand}{g:Nat}{A:Option Addr}{ad:Addr}{len c:Nat}{i:Int}{kd:IntKind}{k:Nat}(I:P.underlying t=some (.slice e))(J: ∀w,(sizeOf e).run P w=.ok g w)(N:a.eval x=.slice A len c)(O:A=some ad)(W:a.eval y=.int kd i)(hi:i=(k:Int))(h1:k<len):
  (execOp a.eval ⟨d,.indexAddr t x y,T,pos,af,gd⟩).run P w=.ok (.value (.pointer (some (ad.add (k*g))))) w:=by
 subst O;subst hi
 have:=r_indexAddr (P:=P) (a:=a) (w:=w) (d:=d) (T:=T) (pos:=pos) (af:=af) (gd:=gd) I J N W (by omega) (by omega)
 simpa using this
end
theorem Qal: ∀t:Ty,0<t.size
 | .pair a _=>by have:=Qal a;simp only[Ty.size];omega
 | .int _=>by simp[Ty.size]
 | .byte=>by simp[Ty.size]
 | .bool=>by simp[Ty.size]
 | .str=>by simp[Ty.size]
 | .slice _=>by simp[Ty.size]
def Ty.ok:(t:Ty)→t.den→Prop
 | .int k,x=>k.has x
 | .byte,_=>True
 | .bool,_=>True
 | .str,x=>x.size≤maxLen
 | .slice e,xs=>xs.length≤maxLen∧∀x∈xs,e.ok x
 | .pair a b,x=>a.ok x.1∧b.ok x.2
theorem rep_ok {w:World}{F:Nat→Prop}: ∀(t:Ty) {cs:List Value} {x:t.den},t.rep w F cs x→t.ok x
 | .int _,_,_,h=>h.2
 | .byte,_,_,_=>trivial
 | .bool,_,_,_=>trivial
 | .str,_,_,h=>h.2
 | .slice e,_,xs,h=>by
  obtain⟨A,c,cells,O,W,h3,h4,h5,h6⟩:=h
  refine⟨by omega,fun x I=>?_⟩
  obtain⟨i,hi,rfl⟩:=Xh I
  exact rep_ok e (h6 i _ (Qd hi))
 | .pair a b,_,_,h=>by
  obtain⟨ca,cb,h,J,N⟩:=h
  exact⟨rep_ok a J,rep_ok b N⟩
theorem i64_has {n:Int}(h: -9223372036854775808≤n∧n≤9223372036854775807):IntKind.i64.has n:=by
 simpa[IntKind.has,IntKind.min,IntKind.max,IntKind.bits,IntKind.signed] using h
theorem Qaf {w:World}{F:Nat→Prop}: ∀(t:Ty) {cs:List Value} {x:t.den},t.rep w F cs x→t.rep w (fun b=>F b∧b<w.heap.size) cs x
 | .int _,_,_,h=>h
 | .byte,_,_,h=>h
 | .bool,_,_,h=>h
 | .str,_,_,h=>h
 | .slice e,_,xs,h=>by
  obtain⟨A,c,cells,O,W,h3,I,J,h6⟩:=h
  by_cases hz:cells.length=0
  ·have h7: ∀i x,xs[i]?=some x→e.size=0:=fun i x hi=>by
    have hl:=(Qc.1 hi).1
    rw[hz]at I
    rcases Nat.mul_eq_zero.1 I.symm with h|h
    ·omega
    ·exact h
   refine⟨A,c,cells,O,W,h3,I,?_,fun i x hi=>Qaf e (h6 i x hi)⟩
   by_cases hx:xs.length=0
   ·exact .inl hx
   ·have hp:=Qal e
    rw[hz]at I
    rcases Nat.mul_eq_zero.1 I.symm with h|h<;>omega
  ·refine⟨A,c,cells,O,W,h3,I,?_,fun i x hi=>Qaf e (h6 i x hi)⟩
   rcases J with J|⟨b,o,hA,N,hc⟩
   ·exact .inl J
   ·exact .inr ⟨b,o,hA,⟨N,World.block_lt_of_cell? w _ (hc 0 _ (Qd (by omega)))⟩,hc⟩
 | .pair a b,_,_,h=>by
  obtain⟨ca,cb,h,ha,N⟩:=h
  exact⟨ca,cb,h,Qaf a ha,Qaf b N⟩
def iv (lo hi:Nat):Nat→Prop:=fun b=>lo≤b∧b<hi
@[reducible] def no:Nat→Prop:=fun _=>False
def Cells (w:World)(E:Addr)(es:List Value):Prop:=∀j u,es[j]?=some u→w.cell? (E.add j)=some u
theorem Cells.ch {w w':World}{E:Addr}{es:List Value}{S:List Nat}(h:Cells w E es)(N:Ch S w w')(O:E.block<w.heap.size→E.block∉S):Cells w' E es:=fun j u W=>by
 have J:=h j u W
 have hb:(E.add j).block=E.block:=by unfold Addr.add;split<;>rfl
 have I:=World.block_lt_of_cell? w _ J
 rw[N.cell I (by rw[hb]at I ⊢;exact O I)]
 exact J
section
variable {P:Program}{a:Act}{w:World}{d:Option Tmp}{T:TypeId}{pos:String}{af:Array Edge}{gd:Option (Nat×Bool)}
theorem add_add (E:Addr)(i j:Nat):(E.add i).add j=E.add (i+j):=by
 unfold Addr.add
 by_cases hi:i=0<;>by_cases I:j=0<;>simp[hi,I,Y7]
end
theorem u64_in (n:Int)(h:0≤n∧n≤18446744073709551615):IntKind.u64.wrap n=n:=by simp[IntKind.wrap,IntKind.bits,IntKind.signed];omega
section
variable {P:Program}{a:Act}{w:World}{d:Option Tmp}{T:TypeId}{pos:String}{af:Array Edge}{gd:Option (Nat×Bool)}
theorem r_convw {src dst:TypeId}{x:Operand}{k k':IntKind}{n m:Int}{de:TypeDesc}(I:P.underlying src=some de)(J:P.underlying dst=some (.int k'))(N:a.eval x=.int k n)(O:k'.wrap n=m):(execOp a.eval ⟨d,.convert src dst x,T,pos,af,gd⟩).run P w=.ok (.value (.int k' m)) w:=by
 rw[r_conv I J N,O]
theorem r_quow {t ty:TypeId}{x y:Operand}{k:IntKind}{m n u:Int}(I:a.eval x=.int k m)(J:a.eval y=.int k n)(N:n≠0)(O:k.wrap (m.tdiv n)=u):(execOp a.eval ⟨d,.binOp .quo t x y ty,T,pos,af,gd⟩).run P w=.ok (.value (.int k u)) w:=by rw[r_quo I J N,O]
end
theorem slice_n {A:Option Addr}{n m c:Nat}(h:n=m):Value.slice A n c=Value.slice A m c:=by rw[h]
def nt (M:List Nat):Nat→Prop:=fun b=>b∉M
def ol (M:List Nat)(n:Nat):Nat→Prop:=fun b=>b∉M∧b<n
theorem rep_to {t:Ty}{w w':World}{F F':Nat→Prop}{S:List Nat}{cs:List Value}{x:t.den}(h:t.rep w F cs x)(W:Ch S w w')(J: ∀b,F b→b<w.heap.size→b∉S∧F' b:=by intro b I h2;(try simp only[Go.Z.nt,Go.Z.iv,Go.Z.no,Go.Z.ol,Qk,List.not_mem_nil,or_false,not_or,not_false_eq_true]at I);(try simp only[Go.Z.nt,Go.Z.iv,Go.Z.no,Go.Z.ol,Qk,Qn,List.not_mem_nil,or_false,not_or,not_false_eq_true,true_and,and_true])<;>omega):t.rep w' F' cs x:=by
 have I:t.rep w (fun b=>F b∧b<w.heap.size) cs x:=Qaf t h
 exact rep_keep (fun p hp N=>W.cell N (J _ hp.1 N).1) (fun b O=>(J b O.1 O.2).2) t I
theorem Qcr {t:Ty}{w:World}{F F':Nat→Prop}{cs:List Value}{x:t.den}(h:t.rep w F cs x)(I: ∀b,F b→b<w.heap.size→F' b):t.rep w F' cs x:=
 rep_to h (Ch.refl w) fun b J N=>⟨by simp,I b J N⟩
theorem Own.to {t:Ty}{e:TypeId}{B:Nat}{w w':World}{F F':Nat→Prop}{A:Option Addr}{c:Nat}{xs:List t.den}{S:List Nat}(h:Own t e B w F A c xs)(N:Ch S w w')(hA: ∀k,k∈obl A→B≤k→k<w.heap.size→k∉S)(hF: ∀b,F b→b<w.heap.size→b∉S∧F' b):Own t e B w' F' A c xs:=by
 have I:=h.lt
 obtain⟨cells,O,h1,h2⟩:=h
 refine⟨cells,⟨O.1,?_⟩,h1,fun i x hi=>rep_to (h2 i x hi) N hF⟩
 rcases O.2 with h3|⟨g,cap,cur,W,hb,hg,rest⟩
 ·exact .inl h3
 ·refine .inr ⟨g,cap,cur,W,hb,?_,rest⟩
  injection W with hA' _ _
  have J:g∈obl A:=by rw[hA'];simp[obl]
  rw[N.block g (Qo.1 hg).1 (hA g J (I g J).1 (I g J).2)]
  exact hg
section
variable {r:Option Nat}{P:Program}{ops:Array Oper}{Q:Exit→Act→World→Prop}{a:Act}{w:World}{rest:List Oper}{n:Nat}{ds:List Deferred}{l:List (Nat×Value)}{d:Nat}{T:TypeId}{pos:String}{af:Array Edge}
end
end Go.Z
end
section
namespace Go.Z
open Go.RowKit Go.Lib
section
variable {P:Program}{a:Act}{w:World}{d:Option Tmp}{T:TypeId}{pos:String}{af:Array Edge}{gd:Option (Nat×Bool)}
end
section
variable {r:Option Nat}{P:Program}{ops:Array Oper}{Q:Exit→Act→World→Prop}{a:Act}{w:World}{rest:List Oper}{n:Nat}{ds:List Deferred}{l:List (Nat×Value)}{d:Nat}{T:TypeId}{pos:String}{af:Array Edge}
end
end Go.Z
end
section
namespace Go.Z
open Go.RowKit
section
variable {r:Option Nat}{P:Program}{Q:Exit→Act→World→Prop}{a:Act}{w:World}{n:Nat}{ds:List Deferred}{l:List (Nat×Value)}
section
variable {d:Option Tmp}{T:TypeId}{pos:String}{af:Array Edge}{gd:Option (Nat×Bool)}{t ty e0:TypeId}{x:Operand}{v:Value}
end
end
def EqV (P:Program)(d:Nat)(t:TypeId)(x y:Value)(b:Bool):Prop:=∀w,(Op.equalIn d t x y).run P w=.ok b w
def EqF (P:Program)(d:Nat)(xs ys:Array Value)(fs:List Field)(b:Bool):Prop:=∀w,(Op.eqFields d xs ys fs).run P w=.ok b w
def EqI (P:Program)(d:Nat)(e:TypeId)(c:Nat)(xs ys:Array Value)(is:List Nat)(b:Bool):Prop:=∀w,(Op.eqItems d e c xs ys is).run P w=.ok b w
section
variable {P:Program}{d:Nat}{t e:TypeId}
theorem eq_int {k k':IntKind}{a b:Int}(h:P.underlying t=some (.int k')):EqV P (d+1) t (.int k a) (.int k b) (decide (a=b)):=fun w=>by
 rw[run_equalIn_int w d t k k' a b h];rfl
theorem eq_str {a b:ByteArray}(h:P.underlying t=some .string):EqV P (d+1) t (.string a) (.string b) (decide (a=b)):=fun w=>by
 rw[run_equalIn_string w d t a b h,str_eq]
theorem part_one {xs:Array Value}{o:Nat}{v:Value}(w:World)(I: ∀w,(isAgg t).run P w=.ok false w)(h:xs[o]?=some v):(part t xs o).run P w=.ok v w:=by simp[part,I,h]
theorem part_agg {xs zs:Array Value}{o n:Nat}(w:World)(I: ∀w,(isAgg t).run P w=.ok true w)(J: ∀w,(sizeOf t).run P w=.ok n w)(h:xs.extract o (o+n)=zs):(part t xs o).run P w=.ok (.agg zs) w:=by simp[part,I,J,h]
theorem eqf_nil {xs ys:Array Value}:EqF P d xs ys [] true:=fun w=>by simp[Op.eqFields]
theorem eqf_cons {xs ys:Array Value}{f:Field}{fs:List Field}{a b:Value}{r r':Bool}(I:(f.name != "_")=true)(J: ∀w,(part f.type xs f.offset).run P w=.ok a w)(N: ∀w,(part f.type ys f.offset).run P w=.ok b w)
  (O:EqV P d f.type a b r) (h:EqF P d xs ys fs r'):EqF P d xs ys (f::fs) (r&&r'):=fun w=>by
 have hn':f.name≠ "_" :=by simpa using I
 have W:=O w;have h2:=h w
 cases r<;>simp[Op.eqFields,hn',J,N,W,h2]
theorem eqi_nil {xs ys:Array Value}{c:Nat}:EqI P d e c xs ys [] true:=fun w=>by simp[Op.eqItems]
theorem eqi_cons {xs ys:Array Value}{c i:Nat}{is:List Nat}{a b:Value}{r r':Bool}(I: ∀w,(part e xs (i*c)).run P w=.ok a w)(J: ∀w,(part e ys (i*c)).run P w=.ok b w)
  (N:EqV P d e a b r) (h:EqI P d e c xs ys is r'):EqI P d e c xs ys (i::is) (r&&r'):=fun w=>by
 have O:=N w;have W:=h w
 cases r<;>simp[Op.eqItems,I,J,O,W]
theorem eq_struct {xs ys:Array Value}{fs:List Field}{r:Bool}(I:P.underlying t=some (.struct fs.toArray))(N:P.stoodInHeld t=false)(h:EqF P d xs ys fs r):EqV P (d+1) t (.agg xs) (.agg ys) r:=fun w=>by
 have J:P.fieldsOf t=fs.toArray:=by simp[Program.fieldsOf,I]
 rw[run_equalIn_struct w d t xs ys (by rw[J];exact I) N,J];exact h w
theorem eq_array {xs ys:Array Value}{n c:Nat}{i:TypeInfo}{is:List Nat}{r:Bool}(J:P.underlying t=some (.array n e))(hi:P.info? e=some i)(N:P.cellsOf e=c)(I:List.range n=is)(h:EqI P d e c xs ys is r):EqV P (d+1) t (.agg xs) (.agg ys) r:=fun w=>by
 rw[run_equalIn_array w d xs ys J hi,N,I];exact h w
theorem decide_pair {α β:Type}[DecidableEq α][DecidableEq β](x y:α×β):decide (x=y)=(decide (x.1=y.1)&&decide (x.2=y.2)):=by
 rw[←Bool.decide_and];exact decide_eq_decide.2 Prod.ext_iff
section
variable {a:Act}{w:World}{dd:Option Tmp}{T ty:TypeId}{pos:String}{af:Array Edge}{gd:Option (Nat×Bool)}{x y:Operand}
theorem r_eqagg {xs ys:Array Value}{b:Bool}(h:EqV P 10000 t (.agg xs) (.agg ys) b)(J:P.eqGuardType P.depth t=false)(N:a.eval x=.agg xs)(O:a.eval y=.agg ys):
  (execOp a.eval ⟨dd,.binOp .eql t x y ty,T,pos,af,gd⟩).run P w=.ok (.value (.bool b)) w:=by
 have W:=h w
 have h1:=run_eqGuard_agg w .eql t x y xs ys J
 have I:=run_eql_struct (P:=P) w t xs ys
 rw[W]at I
 simp[execOp,N,O,h1,I]
theorem r_neagg {xs ys:Array Value}{p:Prop}[Decidable p](h:EqV P 10000 t (.agg xs) (.agg ys) (decide p))(J:P.eqGuardType P.depth t=false)(N:a.eval x=.agg xs)(O:a.eval y=.agg ys):
  (execOp a.eval ⟨dd,.binOp .neq t x y ty,T,pos,af,gd⟩).run P w=.ok (.value (.bool (decide (¬p)))) w:=by
 have W:=h w
 have h1:=run_eqGuard_agg w .neq t x y xs ys J
 have I:=run_neq_struct (P:=P) w t xs ys
 rw[W]at I
 simp[execOp,N,O,h1,I]
theorem r_nes' {s u:ByteArray}(I:a.eval x=.string s)(J:a.eval y=.string u):(execOp a.eval ⟨dd,.binOp .neq t x y ty,T,pos,af,gd⟩).run P w=.ok (.value (.bool (decide (s≠u)))) w:=by
 rw[r_nes I J];simp
theorem r_neb' {b c:Bool}(I:P.underlying t=some .bool)(J:a.eval x=.bool b)(N:a.eval y=.bool c):(execOp a.eval ⟨dd,.binOp .neq t x y ty,T,pos,af,gd⟩).run P w=.ok (.value (.bool (decide (b≠c)))) w:=by
 rw[r_neb I J N];cases b<;>cases c<;>rfl
end
end
section
variable {P:Program}{a:Act}{w:World}{d:Option Tmp}{T:TypeId}{pos:String}{af:Array Edge}{gd:Option (Nat×Bool)}{t ty:TypeId}{x y:Operand}
theorem Qiy {e:TypeId}{ad:Addr}(I:P.underlying t=some (.pointer e))(J:a.eval x=.pointer (some ad))(N:a.eval y=.pointer none):
  (execOp a.eval ⟨d,.binOp .neq t x y ty,T,pos,af,gd⟩).run P w=.ok (.value (.bool true)) w:=by
 have h: ∀m,(Op.equalIn (m+1) t (.pointer (some ad)) (.pointer none)).run P w=.ok false w:=fun m=>by simp[Op.equalIn,run_underlying I]
 have O:(Op.equal t (.pointer (some ad)) (.pointer none)).run P w=.ok false w:=h 9999
 simp[execOp,J,N,eqGuard_at_pointer,binOp,O]
end
section
variable {r:Option Nat}{P:Program}{ops:Array Oper}{Q:Exit→Act→World→Prop}{a:Act}{w:World}{rest:List Oper}{n:Nat}{ds:List Deferred}{l:List (Nat×Value)}{d:Nat}{T:TypeId}{pos:String}{af:Array Edge}
end
section
variable {r:Option Nat}{P:Program}{ops:Array Oper}{Q:Exit→Act→World→Prop}{a:Act}{w:World}{rest:List Oper}{n:Nat}{ds:List Deferred}{l:List (Nat×Value)}{d:Nat}{T:TypeId}{pos:String}{af:Array Edge}
end
@[reducible] def R64 (x:Int):Prop:= -9223372036854775808≤x∧x≤9223372036854775807
inductive Hint where
 |n
 |b (i o:Nat)
 |e (i o:Nat)
 |pk
 |off
 |on (h:Hint)
 |sy (h:Hint)
structure Kn where
 bs:List (Nat×TypeId×List Value)
 es:List (Addr×List Value)
def Kn.ok (K:Kn)(w:World):Prop:=(∀b,b∈K.bs→Blk w b.1 b.2.1 b.2.2)∧(∀e,e∈K.es→Cells w e.1 e.2)
theorem k0 {w:World}:Kn.ok ⟨[],[]⟩ w:=⟨fun b h=>(by cases h),fun b h=>(by cases h)⟩
theorem ke {w:World}{E:Addr}{cs:List Value}{bs:List (Nat×TypeId×List Value)}{es:List (Addr×List Value)}(h:Cells w E cs)(J:Kn.ok ⟨bs,es⟩ w):Kn.ok ⟨bs,(E,cs)::es⟩ w:=
 ⟨J.1,fun b I=>by rcases Qk.1 I with rfl|I;exact h;exact J.2 b I⟩
def aggB (P:Program)(t:TypeId):Option Bool:=match P.underlying t with
 |some (.struct _)=>some true
 |some (.array _ _)=>some true
 |some _=>some false
 |none=>none
def szB (P:Program)(t:TypeId):Option Nat:=(P.info? t).map (·.size)
section
variable {P:Program}{t:TypeId}
theorem Qbz {b:Bool}(h:aggB P t=some b)(w:World):(isAgg t).run P w=.ok b w:=by
 unfold aggB at h
 cases I:P.underlying t with
 |none=>rw[I]at h;cases h
 |some d=>
  rw[I]at h
  unfold isAgg
  rw[Sem.run_bind,run_underlying I,Result.andThen_ok]
  cases d<;>simp at h<;>subst h<;>rfl
theorem Qag {n:Nat}(h:szB P t=some n)(w:World):(sizeOf t).run P w=.ok n w:=by
 unfold szB at h
 cases hi:P.info? t with
 |none=>rw[hi]at h;cases h
 |some i=>rw[hi]at h;simp at h;subst h;simp[sizeOf,typeInfo,hi]
theorem zero_run {i:TypeInfo}{z:Value}(hi:P.info? t=some i)(I:i.zero=some z)(w:World):(zeroValue t).run P w=.ok z w:=by
 simp[zeroValue,typeInfo,hi,I]
end
abbrev QO:=Option (List Prop×List (Value×Value)×Value)
def qok (v:Value):QO:=some ([],[],v)
def qar (k:IntKind)(x:Int):QO:=match k with
 | .i64=>some ([R64 x],[],.int .i64 x)
 |k=>qok (.int k (k.wrap x))
def qint (op:BinOp)(k:IntKind)(m n:Int):QO:=match op with
 | .add=>qar k (m+n)
 | .sub=>qar k (m-n)
 | .mul=>qar k (m*n)
 | .lss=>qok (.bool (decide (m<n)))
 | .leq=>qok (.bool (decide (m≤n)))
 | .gtr=>qok (.bool (decide (n<m)))
 | .geq=>qok (.bool (decide (n≤m)))
 | .eql=>qok (.bool (decide (m=n)))
 | .neq=>qok (.bool (decide (m≠n)))
 | .quo=>match k with
  | .i64=>some ([n≠0,R64 (m.tdiv n)],[],.int .i64 (m.tdiv n))
  |_=>none
 | .rem=>some ([n≠0],[],.int k (m.tmod n))
 | .shr=>match k with
  | .u64=>some ([0≤n∧n≤64],[],.int .u64 (m / 2^n.toNat))
  |_=>none
 |_=>none
def qbin (P:Program)(op:BinOp)(t:TypeId):Option Value→Option Value→QO
 |some (.int k m),some (.int k' n)=>if k'=k then qint op k m n else none
 |some (.bool b),some (.bool c)=>match P.underlying t with
  |some .bool=>match op with
   | .eql=>qok (.bool (b==c))
   | .neq=>qok (.bool (decide (b≠c)))
   |_=>none
  |_=>none
 |some (.string s),some (.string u)=>match op with
  | .eql=>qok (.bool (decide (s=u)))
  | .neq=>qok (.bool (decide (s≠u)))
  | .lss=>qok (.bool (Op.bytesLess s.toList u.toList))
  | .gtr=>qok (.bool (!(Op.bytesLess s.toList u.toList||s.toList==u.toList)))
  | .add=>some ([s.size+u.size≤9223372036854775807],[],.string (s++u))
  |_=>none
 |some (.slice A _ _),some (.slice none 0 0)=>match P.underlying t with
  |some (.slice _)=>match op with
   | .eql=>qok (.bool A.isNone)
   |_=>none
  |_=>none
 |some (.pointer (some _)),some (.pointer none)=>match P.underlying t with
  |some (.pointer _)=>match op with
   | .neq=>qok (.bool true)
   |_=>none
  |_=>none
 |_,_=>none
def qconv (P:Program)(s d:TypeId):Option Value→QO
 |some (.int _ n)=>match P.underlying s,P.underlying d with
  |some _,some (.int .i64)=>some ([R64 n],[],.int .i64 n)
  |some _,some (.int k)=>qok (.int k (k.wrap n))
  |_,_=>none
 |_=>none
def qfa (P:Program)(t:TypeId)(i:Nat):Option Value→QO
 |some (.pointer (some a))=>match P.underlying t with
  |some (.struct fs)=>match fs[i]? with
   |some f=>match szB P f.type with
    |some (_+1)=>qok (.pointer (some (a.add f.offset)))
    |_=>none
   |none=>none
  |_=>none
 |_=>none
def qfl (P:Program)(t:TypeId)(i:Nat):Option Value→QO
 |some (.agg cs)=>match P.underlying t with
  |some (.struct fs)=>match fs[i]? with
   |some f=>match aggB P f.type with
    |some false=>match cs[f.offset]? with
     |some v=>qok v
     |none=>none
    |some true=>match szB P f.type with
     |some n=>qok (.agg (cs.extract f.offset (f.offset+n)))
     |none=>none
    |none=>none
   |none=>none
  |_=>none
 |_=>none
def qcut (P:Program)(t:TypeId)(cs:List Value)(o:Nat):Option Value:=match aggB P t with
 |some false=>cs[o]?
 |some true=>match szB P t with
  |some n=>if((cs.drop o).take n).length=n then some (.agg ((cs.drop o).take n).toArray)else none
  |none=>none
 |none=>none
def qld (P:Program)(K:Kn)(h:Hint)(t:TypeId):Option Value→QO
 |some (.pointer (some a))=>match h with
  | .b i o=>match K.bs[i]? with
   |some (g,_,cs)=>match qcut P t cs o with
    |some v=>some ([],[(.pointer (some a),.pointer (some ⟨g,o,none⟩))],v)
    |none=>none
   |none=>none
  | .e i o=>match K.es[i]? with
   |some (E,cs)=>match qcut P t cs o with
    |some v=>some ([],[(.pointer (some a),.pointer (some (E.add o)))],v)
    |none=>none
   |none=>none
  |_=>none
 |_=>none
def qbi (P:Program)(b:Builtin):List (Option Value)→List TypeId→QO
 | [some (.slice _ n _)],[t]=>match b,P.underlying t with
  | .len,some (.slice _)=>qok (.int .i64 (n:Int))
  |_,_=>none
 | [some (.string s)],[t]=>match b,P.underlying t with
  | .len,some .string=>qok (.int .i64 (s.size:Int))
  |_,_=>none
 | [some (.int k p),some (.int _ q)],_=>match b with
  | .min=>qok (.int k (min p q))
  | .max=>qok (.int k (max p q))
  |_=>none
 |_,_=>none
def qes (e:Operand→Option Value):List Operand→Option (List Value)
 | []=>some []
 |x::r=>match e x,qes e r with
  |some v,some vs=>some (v::vs)
  |_,_=>none
def qps (e:Operand→Option Value):List (Nat×Operand)→Option (List (Nat×Value))
 | []=>some []
 |(i,x)::r=>match e x,qps e r with
  |some v,some vs=>some ((i,v)::vs)
  |_,_=>none
def qpl (P:Program):List Field→Option (List (Nat×Nat))
 | []=>some []
 |f::r=>match szB P f.type,qpl P r with
  |some n,some l=>some ((f.offset,n)::l)
  |_,_=>none
def qbd (P:Program)(t:TypeId)(vs:Option (List (Nat×Value))):QO:=match vs,P.info? t,P.underlying t with
 |some vs,some i,some (.struct fs)=>match i.zero,qpl P fs.toList with
  |some z,some pl=>match Instr.fill (pl.toArray[·]?) z.cells vs with
   |some cs=>qok (.agg cs)
   |none=>none
  |_,_=>none
 |_,_,_=>none
def qv (P:Program)(K:Kn)(h:Hint)(e:Operand→Option Value):Op→QO
 | .move x=>(e x).map fun v=>([],[],v)
 | .assign x=>(e x).map fun v=>([],[],v)
 | .pick c x y=>match e c with
  |some (.bool true)=>(e x).map fun v=>([],[],v)
  |some (.bool false)=>(e y).map fun v=>([],[],v)
  |_=>none
 | .unOp .not _ x=>match e x with
  |some (.bool b)=>qok (.bool (!b))
  |_=>none
 | .extract x i=>match e x with
  |some (.tuple vs)=>(vs[i]?).map fun v=>([],[],v)
  |_=>none
 | .nilCheck x=>match e x with
  |some (.pointer (some a))=>qok (.pointer (some a))
  |_=>none
 | .makeFunc fn xs ys=>match qes e xs.toList,qes e ys.toList with
  |some vs,some us=>qok (.func fn vs.toArray us.toArray)
  |_,_=>none
 | .binOp op t x y _=>qbin P op t (e x) (e y)
 | .convert s d x=>qconv P s d (e x)
 | .fieldAddr t x i=>qfa P t i (e x)
 | .field t x i=>qfl P t i (e x)
 | .load t x=>qld P K h t (e x)
 | .call {callee:=.builtin b,args:=xs,argTypes:=ts}=>qbi P b (xs.toList.map e) ts.toList
 | .build t ps=>qbd P t (qps e ps.toList)
 |_=>none
section
variable {P:Program}{K:Kn}{a:Act}{w:World}{d:Option Tmp}{T:TypeId}{pos:String}{af:Array Edge}{gd:Option (Nat×Bool)}{e:Operand→Option Value}
theorem qes_eval (N: ∀x v,e x=some v→a.eval x=v): ∀(xs:List Operand) {vs:List Value},qes e xs=some vs→xs.toArray.map a.eval=vs.toArray:=by
 intro xs
 induction xs with
 |nil=>intro vs h;simp only[qes,Qr]at h;subst h;simp
 |cons x r O=>
  intro vs h
  unfold qes at h
  cases I:e x with
  |none=>simp[I]at h
  |some v=>cases J:qes e r with
   |none=>simp[I,J]at h
   |some us=>
    simp only[I,J,Qr]at h
    subst h
    have:=O J
    simp only[X9,Q3,N x v I]at this ⊢
    rw[Array.mk.injEq]at this
    rw[this]
theorem qps_eval (N: ∀x v,e x=some v→a.eval x=v): ∀(xs:List (Nat×Operand)) {vs:List (Nat×Value)},qps e xs=some vs→xs.toArray.map (fun(i,x)=>(i,a.eval x))=vs.toArray:=by
 intro xs
 induction xs with
 |nil=>intro vs h;simp only[qps,Qr]at h;subst h;simp
 |cons x r O=>
  obtain⟨i,x⟩:=x
  intro vs h
  unfold qps at h
  cases I:e x with
  |none=>simp[I]at h
  |some v=>cases J:qps e r with
   |none=>simp[I,J]at h
   |some us=>
    simp only[I,J,Qr]at h
    subst h
    have:=O J
    simp only[X9,Q3,N x v I]at this ⊢
    rw[Array.mk.injEq]at this
    rw[this]
theorem qpl_run: ∀(fs:List Field) {pl:List (Nat×Nat)},qpl P fs=some pl→∀w,(fs.mapM fun f=>do pure (f.offset,←sizeOf f.type):Sem (List (Nat×Nat))).run P w=.ok pl w:=by
 intro fs
 induction fs with
 |nil=>intro pl h w;simp only[qpl,Qr]at h;subst h;rfl
 |cons f r N=>
  intro pl h w
  unfold qpl at h
  cases I:szB P f.type with
  |none=>simp[I]at h
  |some n=>cases J:qpl P r with
   |none=>simp[I,J]at h
   |some l=>
    simp only[I,J,Qr]at h
    subst h
    rw[List.mapM_cons]
    simp only[Sem.run_bind,Qag I,Result.andThen_ok,Sem.run_pure,N J]
theorem qpl_arr {fs:Array Field}{pl:List (Nat×Nat)}(h:qpl P fs.toList=some pl)(w:World):(fs.mapM fun f=>do pure (f.offset,←sizeOf f.type):Sem (Array (Nat×Nat))).run P w=.ok pl.toArray w:=by
 have I:=qpl_run fs.toList h w
 rw[Array.mapM_eq_mapM_toList,map_eq_pure_bind,Sem.run_bind,I]
 rfl
theorem o_bf {k:IntKind}{x:Int}{c:List Prop}{q:List (Value×Value)}{v:Value}(h:qar k x=some (c,q,v))(J: ∀p,p∈c→p):v=.int k (k.wrap x):=by
 unfold qar at h
 split at h
 ·injection h with h;injection h with I h;injection h with N h;subst h;subst I
  rw[IntWalk.i64_in _ (J _ (Qj.2 rfl))]
 ·unfold qok at h;injection h with h;injection h with I h;injection h with N h;exact h.symm
theorem o_b {u v:Value}{c:List Prop}{q:List (Value×Value)}(h:qok u=some (c,q,v)):v=u:=by
 unfold qok at h;injection h with h;injection h with I h;injection h with J h;exact h.symm
theorem Qhd {t:TypeId}{x:Operand}{cs:List Value}{o:Nat}{v:Value}{A:Addr}(h:qcut P t cs o=some v)(N:a.eval x=.pointer (some A))(hcell: ∀j u,cs[o+j]?=some u→w.cell? (A.add j)=some u):
  (execOp a.eval ⟨d,.load t x,T,pos,af,gd⟩).run P w=.ok (.value v) w:=by
 unfold qcut at h
 split at h
 ·rename_i I
  refine r_load1 (fun w=>Qbz I w) N ?_
  have:=hcell 0 v (by simpa using h)
  rwa[Addr.add_zero']at this
 ·rename_i I
  split at h
  ·rename_i n hS
   split at h
   ·rename_i O
    injection h with h;subst h
    refine r_loadN (fun w=>Qbz I w) (fun w=>Qag hS w) N O fun j u W=>hcell j u ?_
    have J:j<n:=by have:=(Qc.1 W).1;rw[O]at this;exact this
    rwa[Qq J,Wc]at W
   ·cases h
  ·cases h
 ·cases h
theorem o_b4 {op:BinOp}{t ty:TypeId}{k:IntKind}{m n:Int}{x y:Operand}{c:List Prop}{q:List (Value×Value)}{v:Value}(h:qint op k m n=some (c,q,v))(N: ∀p,p∈c→p)(I:a.eval x=.int k m)(J:a.eval y=.int k n):
  (execOp a.eval ⟨d,.binOp op t x y ty,T,pos,af,gd⟩).run P w=.ok (.value v) w:=by
 unfold qint at h
 split at h
 ·rw[o_bf h N];exact r_add I J
 ·rw[o_bf h N];exact r_sub I J
 ·rw[o_bf h N];exact r_mul I J
 ·rw[o_b h];exact r_lss I J
 ·rw[o_b h];exact r_leq I J
 ·rw[o_b h];exact r_gtr I J
 ·rw[o_b h];exact r_geq I J
 ·rw[o_b h];exact r_eql I J
 ·rw[o_b h];exact r_neq I J
 ·split at h
  ·injection h with h;injection h with O h;injection h with W h;subst h;subst O
   exact r_quow I J (N _ (by simp)) (IntWalk.i64_in _ (N _ (by simp)))
  ·cases h
 ·injection h with h;injection h with O h;injection h with W h;subst h;subst O
  exact r_rem I J (N _ (by simp))
 ·split at h
  ·injection h with h;injection h with O h;injection h with W h;subst h;subst O
   have hz:=N (0≤n∧n≤64) (by simp);exact r_shr I J hz.1 hz.2
  ·cases h
 ·cases h
theorem r_lss_str {t ty:TypeId}{x y:Operand}{s u:ByteArray}(I:a.eval x=.string s)(J:a.eval y=.string u):(execOp a.eval ⟨d,.binOp .lss t x y ty,T,pos,af,gd⟩).run P w=.ok (.value (.bool (Op.bytesLess s.toList u.toList))) w:=by
 simp[execOp,I,J,binOp_string_lss,eqGuard_lss]
theorem r_gtr_str {t ty:TypeId}{x y:Operand}{s u:ByteArray}(I:a.eval x=.string s)(J:a.eval y=.string u):(execOp a.eval ⟨d,.binOp .gtr t x y ty,T,pos,af,gd⟩).run P w=.ok (.value (.bool (!(Op.bytesLess s.toList u.toList||s.toList==u.toList)))) w:=by
 simp[execOp,I,J,binOp,Op.stringOp,eqGuard_gtr]
theorem r_cat {t ty:TypeId}{x y:Operand}{s u:ByteArray}(I:a.eval x=.string s)(J:a.eval y=.string u)(h:s.size+u.size≤9223372036854775807):(execOp a.eval ⟨d,.binOp .add t x y ty,T,pos,af,gd⟩).run P w=.ok (.value (.string (s++u))) w:=by
 simp[execOp,I,J,binOp_string_add,run_string_add_sum w s u h,eqGuard_add]
theorem o_b5 {op:BinOp}{t ty:TypeId}{x y:Operand}{c:List Prop}{q:List (Value×Value)}{v:Value}(I: ∀x v,e x=some v→a.eval x=v)(h:qbin P op t (e x) (e y)=some (c,q,v))(W: ∀p,p∈c→p):
  (execOp a.eval ⟨d,.binOp op t x y ty,T,pos,af,gd⟩).run P w=.ok (.value v) w:=by
 unfold qbin at h
 split at h
 ·rename_i k m k' n J N
  split at h
  ·rename_i hk;subst hk;exact o_b4 h W (I _ _ J) (I _ _ N)
  ·cases h
 ·rename_i b c' J N
  split at h
  ·rename_i O
   split at h
   ·rw[o_b h];exact r_eqb O (I _ _ J) (I _ _ N)
   ·rw[o_b h];exact r_neb' O (I _ _ J) (I _ _ N)
   ·cases h
  ·cases h
 ·rename_i s u J N
  split at h
  ·rw[o_b h];exact r_eqs (I _ _ J) (I _ _ N)
  ·rw[o_b h];exact r_nes' (I _ _ J) (I _ _ N)
  ·rw[o_b h];exact r_lss_str (I _ _ J) (I _ _ N)
  ·rw[o_b h];exact r_gtr_str (I _ _ J) (I _ _ N)
  ·injection h with h;injection h with h1 h;injection h with h2 h;subst h;subst h1
   exact r_cat (I _ _ J) (I _ _ N) (W _ (by simp))
  ·cases h
 ·rename_i A n c' J N
  split at h
  ·rename_i O
   split at h
   ·rw[o_b h];exact r_eqnil O (I _ _ J) (I _ _ N)
   ·cases h
  ·cases h
 ·rename_i A J N
  split at h
  ·rename_i O
   split at h
   ·rw[o_b h];exact Qiy O (I _ _ J) (I _ _ N)
   ·cases h
  ·cases h
 ·cases h
theorem o_bY {hn:Hint}{op:Op}{c:List Prop}{q:List (Value×Value)}{v:Value}(J: ∀x v,e x=some v→a.eval x=v)(hK:K.ok w)(h:qv P K hn e op=some (c,q,v))(hc: ∀p,p∈c→p)(hq: ∀p,p∈q→p.1=p.2):
  (execOp a.eval ⟨d,op,T,pos,af,gd⟩).run P w=.ok (.value v) w:=by
 unfold qv at h
 split at h
 ·rename_i x
  cases I:e x with
  |none=>simp[I]at h
  |some u=>simp[I]at h;obtain⟨_,_,rfl⟩:=h;exact r_move (J _ _ I)
 ·rename_i x
  cases I:e x with
  |none=>simp[I]at h
  |some u=>simp[I]at h;obtain⟨_,_,rfl⟩:=h;exact r_assign (J _ _ I)
 ·rename_i c' x y
  split at h
  ·rename_i hcd
   cases I:e x with
   |none=>simp[I]at h
   |some u=>simp[I]at h;obtain⟨_,_,rfl⟩:=h;exact r_pick_t (J _ _ hcd) (J _ _ I)
  ·rename_i hcd
   cases I:e y with
   |none=>simp[I]at h
   |some u=>simp[I]at h;obtain⟨_,_,rfl⟩:=h;exact r_pick_f (J _ _ hcd) (J _ _ I)
  ·cases h
 ·split at h
  ·rename_i I;rw[o_b h];exact r_not (J _ _ I)
  ·cases h
 ·rename_i x i
  split at h
  ·rename_i vs I
   cases hi:vs[i]? with
   |none=>simp[hi]at h
   |some u=>simp[hi]at h;obtain⟨_,_,rfl⟩:=h;exact r_extract (J _ _ I) hi
  ·cases h
 ·split at h
  ·rename_i I;rw[o_b h];exact r_nilCheck (J _ _ I)
  ·cases h
 ·rename_i fn xs ys
  split at h
  ·rename_i vs us I hy
   rw[o_b h]
   have N:=qes_eval J _ I
   have O:=qes_eval J _ hy
   simp only[W9]at N O
   exact r_makeFunc N O
  ·cases h
 ·exact o_b5 J h hc
 ·rename_i s d' x
  unfold qconv at h
  split at h
  ·rename_i k n I
   split at h
   ·rename_i hs hd
    injection h with h;injection h with N h;injection h with O h;subst h;subst N
    exact r_convw hs hd (J _ _ I) (IntWalk.i64_in _ (hc _ (Qj.2 rfl)))
   ·rename_i hs hd
    rw[o_b h];exact r_conv hs hd (J _ _ I)
   ·cases h
  ·cases h
 ·unfold qfa at h
  split at h
  ·rename_i A I
   split at h
   ·rename_i fs W
    split at h
    ·rename_i f hf
     split at h
     ·rename_i m hs
      rw[o_b h];exact Qhh W hf (fun w=>Qag hs w) (J _ _ I)
     ·cases h
    ·cases h
   ·cases h
  ·cases h
 ·unfold qfl at h
  split at h
  ·rename_i cs I
   split at h
   ·rename_i fs W
    split at h
    ·rename_i f hf
     split at h
     ·rename_i hA
      split at h
      ·rename_i u hv
       rw[o_b h]
       have:=J _ _ I
       simp[execOp,Instr.field,run_underlying W,hf,this,asAgg,part,Qbz hA,hv]
      ·cases h
     ·rename_i hA
      split at h
      ·rename_i n hs
       rw[o_b h]
       have:=J _ _ I
       simp[execOp,Instr.field,run_underlying W,hf,this,asAgg,part,Qbz hA,Qag hs]
      ·cases h
     ·cases h
    ·cases h
   ·cases h
  ·cases h
 ·unfold qld at h
  split at h
  ·rename_i A I
   split at h
   ·split at h
    ·rename_i i o _ g bt cs hb
     split at h
     ·rename_i u hcut
      injection h with h;injection h with N h;injection h with O h;subst h;subst O
      have hA:Value.pointer (some A)=.pointer (some ⟨g,o,none⟩):=hq _ (Qj.2 rfl)
      have hB:Blk w g bt cs:=hK.1 _ (Qf hb)
      refine Qhd hcut ((J _ _ I).trans hA) fun j u hj=>?_
      rw[Addr.add_lit,hB.cell];exact hj
     ·cases h
    ·cases h
   ·split at h
    ·rename_i i o _ E cs hb
     split at h
     ·rename_i u hcut
      injection h with h;injection h with N h;injection h with O h;subst h;subst O
      have hA:Value.pointer (some A)=.pointer (some (E.add o)):=hq _ (Qj.2 rfl)
      have hB:Cells w E cs:=hK.2 _ (Qf hb)
      refine Qhd hcut ((J _ _ I).trans hA) fun j u hj=>?_
      rw[add_add];exact hB _ _ hj
     ·cases h
    ·cases h
   ·cases h
  ·cases h
 ·rename_i b xs ts
  unfold qbi at h
  split at h
  ·rename_i A n c' t N O
   split at h
   ·rename_i W
    rw[o_b h]
    obtain⟨x,rfl,I⟩: ∃x,xs=#[x]∧e x=some (.slice A n c'):=by
     obtain⟨l⟩:=xs
     rcases l with _|⟨x,_|⟨y,l⟩⟩
     ·simp at N
     ·exact⟨x,rfl,by simpa using N⟩
     ·simp at N
    obtain rfl:ts=#[t]:=by obtain⟨l⟩:=ts;simp at O;rw[O]
    exact r_len W (J _ _ I)
   ·cases h
  ·rename_i s t N O
   split at h
   ·rename_i W
    rw[o_b h]
    obtain⟨x,rfl,I⟩: ∃x,xs=#[x]∧e x=some (.string s):=by
     obtain⟨l⟩:=xs
     rcases l with _|⟨x,_|⟨y,l⟩⟩
     ·simp at N
     ·exact⟨x,rfl,by simpa using N⟩
     ·simp at N
    obtain rfl:ts=#[t]:=by obtain⟨l⟩:=ts;simp at O;rw[O]
    exact r_lens W (J _ _ I)
   ·cases h
  ·rename_i k p k' q' N
   obtain⟨x,y,rfl,I,hy⟩: ∃x y,xs=#[x,y]∧e x=some (.int k p)∧e y=some (.int k' q'):=by
    obtain⟨l⟩:=xs
    rcases l with _|⟨x,_|⟨y,_|⟨z,l⟩⟩⟩
    ·simp at N
    ·simp at N
    ·simp at N;exact⟨x,y,rfl,N.1,N.2⟩
    ·simp at N
   split at h
   ·rw[o_b h];exact r_min (J _ _ I) (J _ _ hy)
   ·rw[o_b h];exact r_max (J _ _ I) (J _ _ hy)
   ·cases h
  ·cases h
 ·rename_i t ps
  unfold qbd at h
  split at h
  ·rename_i vs i fs hvs hi W
   split at h
   ·rename_i z pl hz hpl
    split at h
    ·rename_i cs hcs
     rw[o_b h]
     have N:=qps_eval J _ hvs
     simp only[W9]at N
     simp only[execOp,Instr.build,N]
     simp only[Sem.run_bind,zero_run hi hz,Result.andThen_ok,run_underlying W]
     rw[qpl_arr hpl w]
     simp only[Result.andThen_ok,hcs,Sem.run_pure]
    ·cases h
   ·cases h
  ·cases h
 ·cases h
end
theorem bf {x y:Bool}(h:(x&&y)=false):x=false∨y=false:=by cases x<;>simp_all
theorem bo {x y:Bool}(h:(x||y)=true):x=true∨y=true:=by cases x<;>simp_all
theorem bn {x:Bool}(h:(!x)=true):x=false:=by cases x<;>simp_all
structure QS where
 l:List (Nat×Value)
 g:List (Nat×Nat×Bool×Value)
 c:List Prop
 q:List (Value×Value)
 wr:List Nat
def gk:List (Nat×Nat×Bool×Value)→Nat→Option (Nat×Bool×Value)
 | [],_=>none
 |(t,x)::r,d=>bif Nat.beq t d then some x else gk r d
def gfree:List (Nat×Nat×Bool×Value)→Nat→Bool
 | [],_=>true
 |(t,j,_)::r,d=> !(Nat.beq t d)&& !(Nat.beq j d)&&gfree r d
def evg (s:QS)(gd:Option (Nat×Bool)):Operand→Option Value
 | .tmp t=>match gk s.g t with
  |some (dj,b,v)=>match gd with
   |some (dj',b')=>if dj'=dj then if b'=b then some v else none else none
   |none=>none
  |none=>lk s.l t
 |x=>ev s.l x
def qput (s:QS)(d:Nat)(c:List Prop)(q:List (Value×Value))(v:Value):Option QS:=
 if gfree s.g d then some ⟨(d,v)::s.l,s.g,s.c++c,q++s.q,d::s.wr⟩else none
def qside (s:QS)(tc:Nat)(b:Bool):Operand→Option Bool
 | .tmp t=>match gk s.g t with
  |some (dj,b',.bool u)=>if dj=tc then if b'=b then some u else none else none
  |some _=>none
  |none=>if t=tc then some b else match lk s.l t with
   |some (.bool u)=>some u
   |_=>none
 |x=>match ev s.l x with
  |some (.bool u)=>some u
  |_=>none
def qpk (s:QS)(d:Nat):Op→Option QS
 | .pick (.tmp tc) x y=>match gk s.g tc,lk s.l tc with
  |none,some (.bool cb)=>match qside s tc true x,qside s tc false y with
   |some b1,some b2=>qput s d [] [] (.bool (bif cb then b1 else b2))
   |_,_=>none
  |_,_=>none
 |_=>none
def qno (P:Program)(K:Kn)(s:QS)(d:Nat)(h:Hint)(op:Op):Option QS:=match qv P K h (evg s none) op with
 |some (c,q,v)=>qput s d c q v
 |none=>none
def q1 (P:Program)(K:Kn)(n:Nat)(ops:Array Oper)(s:QS)(h:Hint)(o:Oper):Option QS:=match o.dst with
 |none=>none
 |some d=>if Nat.ble (d+1) n then match o.guard with
  |none=>match h with
   | .pk=>qpk s d o.op
   |h=>qno P K s d h o.op
  |some (j,b)=>match(ops[j]?).bind (·.dst)with
   |none=>none
   |some dj=>match gk s.g dj,lk s.l dj with
    |none,some (.bool c)=>match h with
     | .off=>if c= !b then qput s d [] [] undef else none
     | .on .pk=>if c=b then qpk s d o.op else none
     | .on h=>if c=b then qno P K s d h o.op else none
     | .sy h=>if d=dj then none else if gfree s.g d then match lk s.l d with
      |none=>match qv P K h (evg s (some (dj,b))) o.op with
       |some (cs,q,v)=>some ⟨s.l,(d,dj,b,v)::s.g,s.c++cs.map (fun p=>c=b→p),q++s.q,d::s.wr⟩
       |none=>none
      |some _=>none else none
     |_=>none
    |none,some (.tuple vs)=>match h with
     | .off=>if vs.toList.isEmpty then qput s d [] [] undef else none
     |_=>none
    |_,_=>none else none
def qs (P:Program)(K:Kn)(n:Nat)(ops:Array Oper):List Hint→List Oper→QS→Option QS
 | [],_,s=>some s
 |h::hs,o::r,s=>match q1 P K n ops s h o with
  |some s'=>qs P K n ops hs r s'
  |none=>none
 |_::_,[],_=>none
def dqs (P:Program)(K:Kn)(n:Nat)(ops:Array Oper):List (Nat×Hint)→Array Bool→QS→Option (Array Bool×QS)
 | [],li,s=>some (li,s)
 |(i,h)::r,li,s=>match ops[i]? with
  |some o=>if Region.free .any ops li i&&(Region.ready .any ops li).contains i then match q1 P K n ops s h o with
   |some s'=>dqs P K n ops r (li.setIfInBounds i true) s'
   |none=>none else none
  |none=>none
def qfin (l0:List (Nat×Value))(ks:List Nat)(s:QS):Option (List Prop×List (Nat×Value)):=
 if s.wr.all (fun d=>ks.contains d||(lk l0 d).isNone)then some (s.c,kp s.l ks)else none
def conj:List Prop→Prop
 | []=>True
 | [p]=>p
 |p::q::r=>p∧conj (q::r)
def cat:List (Nat×Value)→List (Nat×Value)→List (Nat×Value)
 | [],l=>l
 |p::r,l=>p::cat r l
theorem Qfw: ∀{cs:List Prop},conj cs→∀p,p∈cs→p
 | [],_,p,hp=>by cases hp
 | [q],h,p,hp=>by rw[Qj]at hp;subst hp;exact h
 |q::q'::r,h,p,hp=>by
  rcases Qk.1 hp with rfl|hp
  ·exact h.1
  ·exact Qfw h.2 p hp
theorem Qbq (d e:Nat)(v:Value)(l:List (Nat×Value)):lk ((d,v)::l) e=if d=e then some v else lk l e:=by
 by_cases h:d=e
 ·subst h;rw[Qah,if_pos rfl]
 ·rw[Qae _ _ h,if_neg h]
theorem Qdx (d e:Nat)(x:Nat×Bool×Value)(l:List (Nat×Nat×Bool×Value)):gk ((d,x)::l) e=if d=e then some x else gk l e:=by
 unfold gk
 by_cases h:d=e
 ·subst h;simp
 ·have:Nat.beq d e=false:=by cases I:Nat.beq d e with
   |false=>rfl
   |true=>exact absurd (Wr I) h
  simp only[this,cond_false,if_neg h]
  cases l<;>rfl
theorem Qcl: ∀{g:List (Nat×Nat×Bool×Value)} {d:Nat},gfree g d=true→gk g d=none∧∀t j b v,gk g t=some (j,b,v)→j≠d
 | [],d,_=>⟨rfl,fun t j b v h=>by cases h⟩
 |(t,j,x)::r,d,h=>by
  simp only[gfree,Qm,Xs]at h
  obtain⟨⟨I,J⟩,N⟩:=h
  have e1:t≠d:=fun e=>by subst e;simp at I
  have e2:j≠d:=fun e=>by subst e;simp at J
  obtain⟨O,W⟩:=Qcl N
  refine⟨by rw[Qdx,if_neg e1];exact O,fun t' j' b v h=>?_⟩
  rw[Qdx]at h
  split at h
  ·injection h with h;injection h with h4 h5;rw[←h4];exact e2
  ·exact W _ _ _ _ h
structure QS.ok (s:QS) (a:Act) (n:Nat) (ds:List Deferred):Prop where
 fr:Fr a n ds s.l
 gd: ∀t dj b v,gk s.g t=some (dj,b,v)→lk s.l t=none∧∃c,lk s.l dj=some (.bool c)∧gk s.g dj=none∧a.tmps[t]?=some (if c=b then v else undef)
structure QS.inv (l0:List (Nat×Value)) (s:QS):Prop where
 out: ∀d,d∉s.wr→lk s.l d=lk l0 d
 wrn: ∀d,d∈s.wr→(lk s.l d).isSome=true∨lk l0 d=none∨∃v,lk s.l d=some v
structure QS.le (s s':QS):Prop where
 c: ∀p,p∈s.c→p∈s'.c
 q: ∀p,p∈s.q→p∈s'.q
theorem QS.le.refl (s:QS):QS.le s s:=⟨fun _ h=>h,fun _ h=>h⟩
theorem QS.le.trans {s t u:QS}(h:QS.le s t)(k:QS.le t u):QS.le s u:=⟨fun _ hp=>k.c _ (h.c _ hp),fun _ hp=>k.q _ (h.q _ hp)⟩
section
variable {P:Program}{K:Kn}{n:Nat}{ds:List Deferred}{ops:Array Oper}{a:Act}{s s':QS}
theorem evg_none (I:s.ok a n ds)(x:Operand)(v:Value)(h:evg s none x=some v):a.eval x=v:=by
 unfold evg at h
 split at h
 ·split at h
  ·cases h
  ·exact I.fr.eval (x:=.tmp _) h
 ·exact I.fr.eval h
theorem evg_some {dj:Nat}{b:Bool}(J:s.ok a n ds)(W:lk s.l dj=some (.bool b))(x:Operand)(v:Value)(h:evg s (some (dj,b)) x=some v):a.eval x=v:=by
 unfold evg at h
 split at h
 ·rename_i t
  split at h
  ·rename_i dj' b' v' N
   by_cases e1:dj=dj'
   ·subst e1
    by_cases e2:b=b'
    ·subst e2
     simp only[if_true]at h
     injection h with h
     subst h
     obtain⟨_,c,I,_,O⟩:=J.gd _ _ _ _ N
     rw[W]at I
     injection I with I;injection I with I
     rw[if_pos I.symm]at O
     simp[Act.eval,Wl,O]
    ·simp[e2]at h
   ·simp[e1]at h
  ·exact J.fr.eval (x:=.tmp _) h
 ·exact J.fr.eval h
theorem o_aO {d:Nat}{c:List Prop}{q:List (Value×Value)}{v:Value}(W:d<n)(O:s.ok a n ds)(h:qput s d c q v=some s'):s'.ok (a.put (some d) v) n ds∧QS.le s s'∧(∀p,p∈c→p∈s'.c)∧(∀p,p∈q→p∈s'.q):=by
 unfold qput at h
 split at h
 ·rename_i hg
  injection h with h
  subst h
  obtain⟨g1,g2⟩:=Qcl hg
  refine⟨⟨O.fr.put W v,fun t dj b u I=>?_⟩,⟨fun p hp=>Q6 _ hp,fun p hp=>Q8 _ hp⟩,fun p hp=>Q8 _ hp,fun p hp=>Q6 _ hp⟩
  obtain⟨h1,cc,h2,h3,h4⟩:=O.gd t dj b u I
  have J:d≠t:=fun e=>by subst e;change gk s.g d=_ at I;rw[g1]at I;cases I
  have N:d≠dj:=fun e=>g2 _ _ _ _ I e.symm
  refine⟨by rw[Qbq,if_neg J];exact h1,cc,by rw[Qbq,if_neg N];exact h2,h3,?_⟩
  simp only[Act.put]
  rw[Yh J];exact h4
 ·cases h
theorem Qdb {d:Nat}{c:List Prop}{q:List (Value×Value)}{v:Value}{N:List (Nat×Value)}(hi:s.inv N)(h:qput s d c q v=some s'):s'.inv N:=by
 unfold qput at h
 split at h
 ·injection h with h
  subst h
  refine⟨fun e J=>?_,fun e J=>?_⟩
  ·simp only[Qk,not_or]at J
   rw[Qbq,if_neg (fun h=>J.1 h.symm)];exact hi.out e J.2
  ·simp only[Qk]at J
   by_cases I:d=e
   ·left;subst I;rw[Qbq,if_pos rfl];rfl
   ·rw[Qbq,if_neg I]
    exact hi.wrn e (J.resolve_left fun h=>I h.symm)
 ·cases h
theorem o_bg {tc:Nat}{b u cb:Bool}{x:Operand}(N:s.ok a n ds)(hg:gk s.g tc=none)(hc:lk s.l tc=some (.bool cb))(J:cb=b)(h:qside s tc b x=some u):a.eval x=.bool u:=by
 unfold qside at h
 split at h
 ·rename_i t
  split at h
  ·rename_i dj b' u' O
   split at h
   ·rename_i e1
    subst e1
    split at h
    ·rename_i e2
     subst e2
     injection h with h;subst h
     obtain⟨_,c,I,_,h2⟩:=N.gd _ _ _ _ O
     rw[hc]at I
     injection I with I;injection I with I
     rw[if_pos (I.symm.trans J)]at h2
     simp[Act.eval,Wl,h2]
    ·cases h
   ·cases h
  ·cases h
  ·split at h
   ·rename_i e1
    subst e1
    injection h with h;subst h;subst J
    exact N.fr.eval (x:=.tmp _) hc
   ·split at h
    ·rename_i W
     injection h with h;subst h
     exact N.fr.eval (x:=.tmp _) W
    ·cases h
 ·split at h
  ·rename_i W
   injection h with h;subst h
   exact N.fr.eval W
  ·cases h
def QDo (P:Program)(K:Kn)(ops:Array Oper)(a:Act)(o:Oper)(v:Value):Prop:=
 (Region.wanted o (yielded ops a.tmps)=true∧∀w,K.ok w→(execOp a.eval o).run P w=.ok (.value v) w)∨(Region.wanted o (yielded ops a.tmps)=false∧v=undef)
theorem o_bU {d:Nat}{op:Op}{T:TypeId}{pos:String}{af:Array Edge}{gd:Option (Nat×Bool)}(W:d<n)(J:s.ok a n ds)(h:qpk s d op=some s'):
  ∃v,s'.ok (a.put (some d) v) n ds∧QS.le s s'∧∀w,(execOp a.eval ⟨some d,op,T,pos,af,gd⟩).run P w=.ok (.value v) w:=by
 unfold qpk at h
 split at h
 ·rename_i tc x y
  split at h
  ·rename_i cb O N
   split at h
   ·rename_i b1 b2 h1 h2
    obtain⟨k1,k2,_,_⟩:=o_aO W J h
    refine⟨_,k1,k2,fun w=>?_⟩
    have I:a.eval (.tmp tc)=.bool cb:=J.fr.eval (x:=.tmp tc) N
    cases cb with
    |true=>exact r_pick_t I (o_bg J O N rfl h1)
    |false=>exact r_pick_f I (o_bg J O N rfl h2)
   ·cases h
  ·cases h
 ·cases h
theorem qpk_inv {d:Nat}{op:Op}{I:List (Nat×Value)}(hi:s.inv I)(h:qpk s d op=some s'):s'.inv I:=by
 unfold qpk at h
 split at h
 ·split at h
  ·split at h
   ·exact Qdb hi h
   ·cases h
  ·cases h
 ·cases h
theorem o_bV {d:Nat}{J:Hint}{op:Op}{T:TypeId}{pos:String}{af:Array Edge}{gd:Option (Nat×Bool)}(N:d<n)(I:s.ok a n ds)(h:qno P K s d J op=some s')(O: ∀p,p∈s'.c→p)(hq: ∀p,p∈s'.q→p.1=p.2):
  ∃v,s'.ok (a.put (some d) v) n ds∧QS.le s s'∧∀w,K.ok w→(execOp a.eval ⟨some d,op,T,pos,af,gd⟩).run P w=.ok (.value v) w:=by
 unfold qno at h
 split at h
 ·rename_i c q v W
  obtain⟨k1,k2,k3,k4⟩:=o_aO N I h
  exact⟨v,k1,k2,fun w hK=>o_bY (evg_none I) hK W (fun p hp=>O p (k3 p hp)) (fun p hp=>hq p (k4 p hp))⟩
 ·cases h
theorem qno_inv {d:Nat}{J:Hint}{op:Op}{I:List (Nat×Value)}(hi:s.inv I)(h:qno P K s d J op=some s'):s'.inv I:=by
 unfold qno at h
 split at h
 ·exact Qdb hi h
 ·cases h
theorem bool_ne {c b:Bool}(h:c≠b):c= !b:=by cases c<;>cases b<;>first|rfl|exact absurd rfl h
theorem o_bW {d dj:Nat}{b c:Bool}{v u:Value}{cs:List Prop}{q:List (Value×Value)}(hd:d<n)(N:s.ok a n ds)(hne:d≠dj)(hgf:gfree s.g d=true)(O:lk s.l d=none)(hgk:gk s.g dj=none)(hlk:lk s.l dj=some (.bool c))(hu:u=if c=b then v else undef):
  QS.ok ⟨s.l,(d,dj,b,v)::s.g,cs,q,d::s.wr⟩ (a.put (some d) u) n ds:=by
 obtain⟨g1,g2⟩:=Qcl hgf
 refine⟨⟨by simp[Act.put,N.fr.size],N.fr.defs,fun e x W=>?_⟩,fun t dj' b' u' I=>?_⟩
 ·have W:lk s.l e=some x:=W
  have hde:d≠e:=fun h=>by subst h;rw[O]at W;cases W
  simp only[Act.put]
  rw[Yh hde];exact N.fr.get e x W
 ·replace I:gk ((d,dj,b,v)::s.g) t=some (dj',b',u'):=I
  rw[Qdx]at I
  by_cases J:d=t
  ·subst J
   rw[if_pos rfl]at I
   injection I with I;injection I with h1 I;injection I with h2 I
   subst h1;subst h2;subst I
   refine⟨O,c,hlk,?_,?_⟩
   ·show gk ((d,dj,b,v)::s.g) dj=none
    rw[Qdx,if_neg hne];exact hgk
   ·simp only[Act.put]
    rw[hu,Array.getElem?_setIfInBounds_self_of_lt (by rw[N.fr.size];exact hd)]
  ·rw[if_neg J]at I
   obtain⟨h1,cc,h2,h3,h4⟩:=N.gd t dj' b' u' I
   refine⟨h1,cc,h2,?_,?_⟩
   ·show gk ((d,dj,b,v)::s.g) dj'=none
    rw[Qdx,if_neg (fun h=>g2 _ _ _ _ I h.symm)];exact h3
   ·simp only[Act.put]
    rw[Yh J];exact h4
theorem o_bZ {h:Hint}{o:Oper}(O:s.ok a n ds)(I:q1 P K n ops s h o=some s')(hc: ∀p,p∈s'.c→p)(hq: ∀p,p∈s'.q→p.1=p.2):
  ∃d v,o.dst=some d∧s'.ok (a.put (some d) v) n ds∧QS.le s s'∧QDo P K ops a o v:=by
 obtain⟨dst,op,T,pos,af,gd⟩:=o
 unfold q1 at I
 split at I
 ·cases I
 ·rename_i d hdst
  have hdst:dst=some d:=hdst
  subst hdst
  split at I
  ·rename_i hd
   have hd:d<n:=Q0 hd
   split at I
   ·rename_i W
    have W:gd=none:=W
    subst W
    split at I
    ·obtain⟨v,k1,k2,k3⟩:=o_bU (P:=P) (T:=T) (pos:=pos) (af:=af) (gd:=none) hd O I
     exact⟨d,v,rfl,k1,k2,.inl ⟨Qbu,fun w _=>k3 w⟩⟩
    ·obtain⟨v,k1,k2,k3⟩:=o_bV (T:=T) (pos:=pos) (af:=af) (gd:=none) hd O I hc hq
     exact⟨d,v,rfl,k1,k2,.inl ⟨Qbu,k3⟩⟩
   ·rename_i j b W
    have W:gd=some (j,b):=W
    subst W
    split at I
    ·cases I
    ·rename_i dj hdj
     split at I
     ·rename_i c hgk J
      split at I
      ·split at I
       ·rename_i N
        obtain⟨k1,k2,_,_⟩:=o_aO hd O I
        exact⟨d,undef,rfl,k1,k2,.inr ⟨Qcj O.fr hdj J (.inl (by rw[N])),rfl⟩⟩
       ·cases I
      ·split at I
       ·rename_i N
        subst N
        obtain⟨v,k1,k2,k3⟩:=o_bU (P:=P) (T:=T) (pos:=pos) (af:=af) (gd:=some (j,c)) hd O I
        exact⟨d,v,rfl,k1,k2,.inl ⟨Qbx O.fr hdj J,fun w _=>k3 w⟩⟩
       ·cases I
      ·split at I
       ·rename_i N
        subst N
        obtain⟨v,k1,k2,k3⟩:=o_bV (T:=T) (pos:=pos) (af:=af) (gd:=some (j,c)) hd O I hc hq
        exact⟨d,v,rfl,k1,k2,.inl ⟨Qbx O.fr hdj J,k3⟩⟩
       ·cases I
      ·split at I
       ·cases I
       ·rename_i hne
        split at I
        ·rename_i hgf
         split at I
         ·rename_i hln
          split at I
          ·rename_i cs q v hv
           injection I with I
           subst I
           have hle:QS.le s ⟨s.l,(d,dj,b,v)::s.g,s.c++cs.map (fun p=>c=b→p),q++s.q,d::s.wr⟩:=⟨fun p hp=>Q6 _ hp,fun p hp=>Q8 _ hp⟩
           by_cases N:c=b
           ·subst N
            refine⟨d,v,rfl,o_bW hd O hne hgf hln hgk J (by rw[if_pos rfl]),hle,.inl ⟨Qbx O.fr hdj J,fun w hK=>?_⟩⟩
            exact o_bY (evg_some O J) hK hv (fun p hp=>hc (c=c→p) (Q8 _ (Qv.2 ⟨p,hp,rfl⟩)) rfl) (fun p hp=>hq p (Q6 _ hp))
           ·exact⟨d,undef,rfl,o_bW hd O hne hgf hln hgk J (by rw[if_neg N]),hle,.inr ⟨Qcj O.fr hdj J (.inl (congrArg Value.bool (bool_ne N))),rfl⟩⟩
          ·cases I
         ·cases I
        ·cases I
      ·cases I
     ·rename_i vs hgk J
      split at I
      ·split at I
       ·rename_i hvs
        obtain⟨k1,k2,_,_⟩:=o_aO hd O I
        refine⟨d,undef,rfl,k1,k2,.inr ⟨Qcj O.fr hdj J (.inr ?_),rfl⟩⟩
        have:vs=#[]:=by
         have h1:vs.toList=[]:=List.isEmpty_iff.1 hvs
         rw[←W9 (xs:=vs),h1]
        rw[this];rfl
       ·cases I
      ·cases I
     ·cases I
  ·cases I
theorem q1_inv {h:Hint}{o:Oper}{O:List (Nat×Value)}(hi:s.inv O)(I:q1 P K n ops s h o=some s'):s'.inv O:=by
 unfold q1 at I
 split at I
 ·cases I
 ·split at I
  ·split at I
   ·split at I
    ·exact qpk_inv hi I
    ·exact qno_inv hi I
   ·split at I
    ·cases I
    ·split at I
     ·split at I
      ·split at I
       ·exact Qdb hi I
       ·cases I
      ·split at I
       ·exact qpk_inv hi I
       ·cases I
      ·split at I
       ·exact qno_inv hi I
       ·cases I
      ·split at I
       ·cases I
       ·split at I
        ·split at I
         ·rename_i N
          split at I
          ·injection I with I
           subst I
           refine⟨fun e J=>hi.out e (fun h=>J (Qe _ h)),fun e J=>?_⟩
           rcases Qk.1 J with rfl|J
           ·by_cases W:e∈s.wr
            ·exact hi.wrn e W
            ·right;left;rw[←hi.out e W];exact N
           ·exact hi.wrn e J
          ·cases I
         ·cases I
        ·cases I
      ·cases I
     ·split at I
      ·split at I
       ·exact Qdb hi I
       ·cases I
      ·cases I
     ·cases I
  ·cases I
theorem q1_le {h:Hint}{o:Oper}(I:q1 P K n ops s h o=some s'):QS.le s s':=by
 have hp: ∀{d:Nat} {c:List Prop} {q:List (Value×Value)} {v:Value},qput s d c q v=some s'→QS.le s s':=fun h=>by
  unfold qput at h
  split at h
  ·injection h with h;subst h;exact⟨fun p hp=>Q6 _ hp,fun p hp=>Q8 _ hp⟩
  ·cases h
 have hk: ∀{d:Nat} {op:Op},qpk s d op=some s'→QS.le s s':=fun h=>by
  unfold qpk at h
  split at h
  ·split at h
   ·split at h
    ·exact hp h
    ·cases h
   ·cases h
  ·cases h
 have J: ∀{d:Nat} {g:Hint} {op:Op},qno P K s d g op=some s'→QS.le s s':=fun h=>by
  unfold qno at h
  split at h
  ·exact hp h
  ·cases h
 unfold q1 at I
 split at I
 ·cases I
 ·split at I
  ·split at I
   ·split at I
    ·exact hk I
    ·exact J I
   ·split at I
    ·cases I
    ·split at I
     ·split at I
      ·split at I
       ·exact hp I
       ·cases I
      ·split at I
       ·exact hk I
       ·cases I
      ·split at I
       ·exact J I
       ·cases I
      ·split at I
       ·cases I
       ·split at I
        ·split at I
         ·split at I
          ·injection I with I;subst I;exact⟨fun p hp=>Q6 _ hp,fun p hp=>Q8 _ hp⟩
          ·cases I
         ·cases I
        ·cases I
      ·cases I
     ·split at I
      ·split at I
       ·exact hp I
       ·cases I
      ·cases I
     ·cases I
  ·cases I
theorem qs_le: ∀{J:List Hint} {lst:List Oper} {s:QS},qs P K n ops J lst s=some s'→QS.le s s'
 | [],_,s,h=>by simp only[qs,Qr]at h;subst h;exact QS.le.refl _
 |h::J,[],s,I=>by simp[qs]at I
 |h::J,o::r,s,I=>by
  unfold qs at I
  split at I
  ·rename_i O N;exact(q1_le N).trans (qs_le I)
  ·cases I
theorem dqs_le {li':Array Bool}: ∀{is:List (Nat×Hint)} {li:Array Bool} {s:QS},dqs P K n ops is li s=some (li',s')→QS.le s s'
 | [],_,s,h=>by simp only[dqs,Qr,Jg]at h;rw[h.2];exact QS.le.refl _
 |(i,h)::r,li,s,I=>by
  unfold dqs at I
  split at I
  ·split at I
   ·split at I
    ·rename_i N J;exact(q1_le J).trans (dqs_le I)
    ·cases I
   ·cases I
  ·cases I
end
theorem lk_cat (nl l:List (Nat×Value))(d:Nat):lk (cat nl l) d=(lk nl d).or (lk l d):=by
 induction nl with
 |nil=>rfl
 |cons p r I=>
  obtain⟨e,v⟩:=p
  show lk ((e,v)::cat r l) d=_
  rw[Qbq,Qbq,I]
  split<;>rfl
theorem Qff {l:List (Nat×Value)}{ks:List Nat}{d:Nat}{v:Value}(I:d∈ks)(N:lk l d=some v):lk (kp l ks) d=some v:=by
 induction ks with
 |nil=>cases I
 |cons k r O=>
  unfold kp
  by_cases hk:k=d
  ·subst hk;rw[N];exact Qah _ _ _
  ·have J:=O ((Qk.1 I).resolve_left fun h=>hk h.symm)
   split
   ·rw[Qae _ _ hk];exact J
   ·exact J
theorem qfin_fr {l0 nl:List (Nat×Value)}{ks:List Nat}{cs:List Prop}{s:QS}{a:Act}{n:Nat}{ds:List Deferred}(J:s.ok a n ds)(hi:s.inv l0)(h:qfin l0 ks s=some (cs,nl)):Fr a n ds (cat nl l0)∧s.c=cs:=by
 unfold qfin at h
 split at h
 ·rename_i hall
  injection h with h;injection h with h1 h2
  refine⟨⟨J.fr.size,J.fr.defs,fun d v I=>?_⟩,h1⟩
  rw[lk_cat,←h2]at I
  cases hk:lk (kp s.l ks) d with
  |some u=>rw[hk]at I;injection I with I;subst I;exact J.fr.get d _ (lk_kp ks d _ hk)
  |none=>
   rw[hk]at I
   have I:lk l0 d=some v:=I
   by_cases hw:d∈s.wr
   ·have N:=Qz.1 hall d hw
    simp only[Yy,List.contains_iff_mem,Option.isNone_iff_eq_none,I]at N
    have W:d∈ks:=by rcases N with N|N;exact N;cases N
    rcases hi.wrn d hw with O|O|⟨u,O⟩
    ·obtain⟨u,hu⟩:=Option.isSome_iff_exists.1 O
     rw[Qff W hu]at hk;cases hk
    ·rw[I]at O;cases O
    ·rw[Qff W O]at hk;cases hk
   ·exact J.fr.get d v (by rw[hi.out d hw];exact I)
 ·cases h
section
variable {r:Option Nat}{P:Program}{K:Kn}{ops:Array Oper}{Q:Exit→Act→World→Prop}{a:Act}{w:World}{n:Nat}{ds:List Deferred}
theorem qs_walk: ∀{I:List Hint} {lst:List Oper} {s s':QS} {a:Act},qs P K n ops I lst s=some s'→(∀p,p∈s'.c→p)→(∀p,p∈s'.q→p.1=p.2)→K.ok w→s.ok a n ds→(∀a',s'.ok a' n ds→WL r P ops Q (lst.drop I.length) a' w)→WL r P ops Q lst a w
 | [],_,s,s',a,hq,_,_,_,I,h=>by simp only[qs,Qr]at hq;subst hq;exact h a I
 |g::I,[],s,s',a,hq,_,_,_,_,_=>by simp[qs]at hq
 |g::I,o::lst,s,s',a,hq,W,he,hK,N,h=>by
  unfold qs at hq
  split at hq
  ·rename_i s1 h1
   have J:=qs_le hq
   obtain⟨d,v,hd,k1,k2,k3⟩:=o_bZ N h1 (fun p hp=>W p (J.c p hp)) (fun p hp=>he p (J.q p hp))
   have hrest:WL r P ops Q lst (a.put (some d) v) w:=qs_walk hq W he hK k1 h
   unfold WL wpListIn
   rcases k3 with⟨O,hv⟩|⟨O,rfl⟩
   ·rw[if_pos O]
    refine⟨fun _ _=>trivial,?_⟩
    rw[Qgx (hv w hK) (fun _ h=>by cases h)]
    show wpListIn _ _ _ _ _ _ (a.put o.dst v) w
    rw[hd];exact hrest
   ·rw[if_neg (by rw[O];decide)]
    refine⟨fun _ _=>trivial,?_⟩
    rw[hd];exact hrest
  ·cases hq
theorem qs_inv {J:List (Nat×Value)}: ∀{I:List Hint} {lst:List Oper} {s s':QS},s.inv J→qs P K n ops I lst s=some s'→s'.inv J
 | [],_,s,s',hi,hq=>by simp only[qs,Qr]at hq;subst hq;exact hi
 |g::I,[],s,s',_,hq=>by simp[qs]at hq
 |g::I,o::lst,s,s',hi,hq=>by
  unfold qs at hq
  split at hq
  ·rename_i O N;exact qs_inv (q1_inv hi N) hq
  ·cases hq
theorem dqs_inv {I:List (Nat×Value)}{li':Array Bool}: ∀{is:List (Nat×Hint)} {li:Array Bool} {s s':QS},s.inv I→dqs P K n ops is li s=some (li',s')→s'.inv I
 | [],_,s,s',hi,hq=>by simp only[dqs,Qr,Jg]at hq;rw[←hq.2];exact hi
 |(i,h)::is,li,s,s',hi,hq=>by
  unfold dqs at hq
  split at hq
  ·split at hq
   ·split at hq
    ·rename_i N J;exact dqs_inv (q1_inv hi J) hq
    ·cases hq
   ·cases hq
  ·cases hq
variable {l:List (Nat×Value)}
def q0 (l:List (Nat×Value)):QS:=⟨l,[],[],[],[]⟩
theorem o_b0 (I:Fr a n ds l):(q0 l).ok a n ds:=⟨I,fun t dj b v h=>by cases h⟩
theorem q0_inv (l:List (Nat×Value)):(q0 l).inv l:=⟨fun _ _=>rfl,fun d h=>by cases h⟩
theorem Qef: ∀{q:List (Value×Value)},q.map Prod.fst=q.map Prod.snd→∀p,p∈q→p.1=p.2
 | [],_,p,hp=>by cases hp
 |x::q,h,p,hp=>by
  simp only[Q3,Jr]at h
  rcases Qk.1 hp with rfl|hp
  ·exact h.1
  ·exact Qef h.2 p hp
theorem qr {lst:List Oper}(J:List Hint)(ks:List Nat)(cs:List Prop)(nl:List (Nat×Value))(hK:K.ok w)(hf:Fr a n ds l)
  (h: ∀a',Fr a' n ds (cat nl l)→WL r P ops Q (lst.drop J.length) a' w)
  (hc:conj cs:=by first|exact trivial|(simp only[Go.Z.conj,Go.Z.R64];omega)|omega)
  (hq:((qs P K n ops J lst (q0 l)).bind (qfin l ks))=some (cs,nl):=by kernel_rfl)
  (N:(qs P K n ops J lst (q0 l)).map (fun s=>s.q.map Prod.fst)=(qs P K n ops J lst (q0 l)).map (fun s=>s.q.map Prod.snd):=by kernel_rfl):WL r P ops Q lst a w:=by
 cases I:qs P K n ops J lst (q0 l)with
 |none=>rw[I]at hq;cases hq
 |some s'=>
  rw[I]at hq N
  have hq:qfin l ks s'=some (cs,nl):=hq
  have N:s'.q.map Prod.fst=s'.q.map Prod.snd:=by injection N
  have O:s'.c=cs:=by unfold qfin at hq;split at hq;(injection hq with hq;injection hq);cases hq
  exact qs_walk I (by rw[O];exact Qfw hc) (Qef N) hK (o_b0 hf) fun a' W=>h a' (qfin_fr W (qs_inv (q0_inv l) I) hq).1
variable {S:World→Prop}
end
end Go.Z
end
section
namespace Go.Proofs.YtlbnpmfggfbdoaaGreatDoor
@[reducible] def T81:Z.Ty:=(Z.Ty.pair (Z.Ty.int .i64) (Z.Ty.pair (Z.Ty.int .i64) Z.Ty.str))
abbrev D81:Type:=Int×Int×ByteArray
@[reducible] def T83:Z.Ty:=(Z.Ty.pair (Z.Ty.int .i64) (Z.Ty.pair (Z.Ty.int .i64) (Z.Ty.pair (Z.Ty.slice (Z.Ty.int .i64)) (Z.Ty.pair T81 (Z.Ty.pair Z.Ty.str (Z.Ty.pair (Z.Ty.int .i64) (Z.Ty.int .i64)))))))
abbrev D83:Type:=Int×Int×(List Int)×D81×ByteArray×Int×Int
@[reducible] def T23:Z.Ty:=(Z.Ty.slice T83)
abbrev D23:Type:=(List D83)
@[reducible] def T39:Z.Ty:=(Z.Ty.pair (Z.Ty.int .i64) (Z.Ty.int .i64))
abbrev D39:Type:=Int×Int
@[reducible] def T43:Z.Ty:=(Z.Ty.pair (Z.Ty.int .i64) (Z.Ty.pair (Z.Ty.int .i64) (Z.Ty.pair (Z.Ty.int .i64) (Z.Ty.int .i64))))
abbrev D43:Type:=Int×Int×Int×Int
@[reducible] def T44:Z.Ty:=(Z.Ty.pair (Z.Ty.int .i64) (Z.Ty.pair (Z.Ty.int .i64) (Z.Ty.pair (Z.Ty.int .i64) (Z.Ty.pair (Z.Ty.int .i64) T43))))
abbrev D44:Type:=Int×Int×Int×Int×D43
@[reducible] def T57:Z.Ty:=(Z.Ty.pair T39 (Z.Ty.pair T39 (Z.Ty.slice T44)))
abbrev D57:Type:=D39×D39×(List D44)
@[reducible] def T41:Z.Ty:=(Z.Ty.pair T39 (Z.Ty.int .i64))
abbrev D41:Type:=D39×Int
@[reducible] def T53:Z.Ty:=(Z.Ty.pair T39 (Z.Ty.pair T39 T44))
abbrev D53:Type:=D39×D39×D44
abbrev D62:Type:=Int×Int×D43
abbrev D88:Type:=D39×D39
@[reducible] def T209:Z.Ty:=(Z.Ty.pair Z.Ty.bool (Z.Ty.int .i64))
abbrev D209:Type:=Bool×Int
@[reducible] def T234:Z.Ty:=(Z.Ty.pair (Z.Ty.int .i64) (Z.Ty.int .i32))
abbrev D234:Type:=Int×Int
abbrev CF (n:Nat):Prop:=∀(args:Array Value) (w:World),(callFunc n args).run Tryz.prog w=.ok (.enter n args) w
theorem cf8:CF 8:=fun _ _=>by kernel_rfl
theorem cf9:CF 9:=fun _ _=>by kernel_rfl
theorem cf10:CF 10:=fun _ _=>by kernel_rfl
theorem cf13:CF 13:=fun _ _=>by kernel_rfl
theorem cf14:CF 14:=fun _ _=>by kernel_rfl
theorem cf15:CF 15:=fun _ _=>by kernel_rfl
theorem cf16:CF 16:=fun _ _=>by kernel_rfl
theorem cf17:CF 17:=fun _ _=>by kernel_rfl
theorem cf19:CF 19:=fun _ _=>by kernel_rfl
theorem cf20:CF 20:=fun _ _=>by kernel_rfl
theorem cf21:CF 21:=fun _ _=>by kernel_rfl
theorem cf22:CF 22:=fun _ _=>by kernel_rfl
theorem cf37:CF 37:=fun _ _=>by kernel_rfl
theorem cf38:CF 38:=fun _ _=>by kernel_rfl
theorem cf39:CF 39:=fun _ _=>by kernel_rfl
theorem cf40:CF 40:=fun _ _=>by kernel_rfl
theorem cf41:CF 41:=fun _ _=>by kernel_rfl
theorem cf42:CF 42:=fun _ _=>by kernel_rfl
theorem cf43:CF 43:=fun _ _=>by kernel_rfl
theorem cf44:CF 44:=fun _ _=>by kernel_rfl
theorem cf45:CF 45:=fun _ _=>by kernel_rfl
theorem cf48:CF 48:=fun _ _=>by kernel_rfl
theorem cf49:CF 49:=fun _ _=>by kernel_rfl
theorem cf50:CF 50:=fun _ _=>by kernel_rfl
theorem cf51:CF 51:=fun _ _=>by kernel_rfl
theorem cf52:CF 52:=fun _ _=>by kernel_rfl
theorem cf53:CF 53:=fun _ _=>by kernel_rfl
theorem cf54:CF 54:=fun _ _=>by kernel_rfl
theorem cf55:CF 55:=fun _ _=>by kernel_rfl
theorem cf56:CF 56:=fun _ _=>by kernel_rfl
theorem cf57:CF 57:=fun _ _=>by kernel_rfl
theorem cf68:CF 68:=fun _ _=>by kernel_rfl
theorem cf69:CF 69:=fun _ _=>by kernel_rfl
theorem cf70:CF 70:=fun _ _=>by kernel_rfl
theorem cf71:CF 71:=fun _ _=>by kernel_rfl
theorem cf72:CF 72:=fun _ _=>by kernel_rfl
theorem cf73:CF 73:=fun _ _=>by kernel_rfl
theorem cf74:CF 74:=fun _ _=>by kernel_rfl
theorem cf75:CF 75:=fun _ _=>by kernel_rfl
theorem cf76:CF 76:=fun _ _=>by kernel_rfl
theorem cf77:CF 77:=fun _ _=>by kernel_rfl
theorem cf80:CF 80:=fun _ _=>by kernel_rfl
theorem cf83:CF 83:=fun _ _=>by kernel_rfl
theorem cf84:CF 84:=fun _ _=>by kernel_rfl
theorem cf85:CF 85:=fun _ _=>by kernel_rfl
theorem cf86:CF 86:=fun _ _=>by kernel_rfl
theorem cf87:CF 87:=fun _ _=>by kernel_rfl
theorem cf88:CF 88:=fun _ _=>by kernel_rfl
theorem cf89:CF 89:=fun _ _=>by kernel_rfl
theorem cf90:CF 90:=fun _ _=>by kernel_rfl
theorem cf91:CF 91:=fun _ _=>by kernel_rfl
theorem cf95:CF 95:=fun _ _=>by kernel_rfl
theorem cf96:CF 96:=fun _ _=>by kernel_rfl
theorem cf97:CF 97:=fun _ _=>by kernel_rfl
theorem cf98:CF 98:=fun _ _=>by kernel_rfl
theorem cf99:CF 99:=fun _ _=>by kernel_rfl
theorem cf100:CF 100:=fun _ _=>by kernel_rfl
theorem cf101:CF 101:=fun _ _=>by kernel_rfl
theorem cf102:CF 102:=fun _ _=>by kernel_rfl
theorem cf103:CF 103:=fun _ _=>by kernel_rfl
theorem cf104:CF 104:=fun _ _=>by kernel_rfl
theorem cf105:CF 105:=fun _ _=>by kernel_rfl
theorem cf106:CF 106:=fun _ _=>by kernel_rfl
theorem cf107:CF 107:=fun _ _=>by kernel_rfl
theorem cf108:CF 108:=fun _ _=>by kernel_rfl
theorem cf109:CF 109:=fun _ _=>by kernel_rfl
theorem cf110:CF 110:=fun _ _=>by kernel_rfl
theorem cf111:CF 111:=fun _ _=>by kernel_rfl
theorem cf122:CF 122:=fun _ _=>by kernel_rfl
theorem cf123:CF 123:=fun _ _=>by kernel_rfl
theorem cf124:CF 124:=fun _ _=>by kernel_rfl
theorem cf125:CF 125:=fun _ _=>by kernel_rfl
theorem cf126:CF 126:=fun _ _=>by kernel_rfl
theorem cf127:CF 127:=fun _ _=>by kernel_rfl
theorem cf128:CF 128:=fun _ _=>by kernel_rfl
theorem cf129:CF 129:=fun _ _=>by kernel_rfl
theorem cf130:CF 130:=fun _ _=>by kernel_rfl
theorem cf131:CF 131:=fun _ _=>by kernel_rfl
theorem cf132:CF 132:=fun _ _=>by kernel_rfl
theorem cf133:CF 133:=fun _ _=>by kernel_rfl
theorem cf134:CF 134:=fun _ _=>by kernel_rfl
theorem cf135:CF 135:=fun _ _=>by kernel_rfl
theorem cf136:CF 136:=fun _ _=>by kernel_rfl
theorem cf137:CF 137:=fun _ _=>by kernel_rfl
theorem cf138:CF 138:=fun _ _=>by kernel_rfl
theorem cf139:CF 139:=fun _ _=>by kernel_rfl
theorem cf140:CF 140:=fun _ _=>by kernel_rfl
theorem cf141:CF 141:=fun _ _=>by kernel_rfl
theorem cf142:CF 142:=fun _ _=>by kernel_rfl
theorem cf143:CF 143:=fun _ _=>by kernel_rfl
theorem cf144:CF 144:=fun _ _=>by kernel_rfl
theorem cf145:CF 145:=fun _ _=>by kernel_rfl
theorem cf146:CF 146:=fun _ _=>by kernel_rfl
theorem cf147:CF 147:=fun _ _=>by kernel_rfl
theorem cf148:CF 148:=fun _ _=>by kernel_rfl
theorem cf150:CF 150:=fun _ _=>by kernel_rfl
theorem cf151:CF 151:=fun _ _=>by kernel_rfl
theorem cf157:CF 157:=fun _ _=>by kernel_rfl
theorem cf158:CF 158:=fun _ _=>by kernel_rfl
theorem cf159:CF 159:=fun _ _=>by kernel_rfl
theorem cf160:CF 160:=fun _ _=>by kernel_rfl
theorem cf161:CF 161:=fun _ _=>by kernel_rfl
theorem cf162:CF 162:=fun _ _=>by kernel_rfl
theorem cf163:CF 163:=fun _ _=>by kernel_rfl
theorem cf164:CF 164:=fun _ _=>by kernel_rfl
theorem cf165:CF 165:=fun _ _=>by kernel_rfl
theorem cf166:CF 166:=fun _ _=>by kernel_rfl
theorem cf167:CF 167:=fun _ _=>by kernel_rfl
theorem cf169:CF 169:=fun _ _=>by kernel_rfl
theorem cf178:CF 178:=fun _ _=>by kernel_rfl
theorem cf180:CF 180:=fun _ _=>by kernel_rfl
theorem cf181:CF 181:=fun _ _=>by kernel_rfl
theorem cf182:CF 182:=fun _ _=>by kernel_rfl
theorem cf183:CF 183:=fun _ _=>by kernel_rfl
theorem cf186:CF 186:=fun _ _=>by kernel_rfl
theorem cf190:CF 190:=fun _ _=>by kernel_rfl
theorem cf192:CF 192:=fun _ _=>by kernel_rfl
theorem mixed:Tryz.prog.follows .mixedOrders=true:=by kernel_rfl
theorem inf2:Tryz.prog.info? 2=some Tryz.t2∧Tryz.t2.zero=some (.int .i64 0)∧Tryz.t2.size=1∧Tryz.t2.bytes=8∧Array.size (Value.cells (.int .i64 0))=1:=⟨by kernel_rfl,rfl,rfl,rfl,rfl⟩
theorem inf2.sz:(Tryz.prog.info? 2).map (·.size)=some 1:=by rw[inf2.1];rfl
theorem inf3:Tryz.prog.info? 3=some Tryz.t3∧Tryz.t3.zero=some (.int .i64 0)∧Tryz.t3.size=1∧Tryz.t3.bytes=8∧Array.size (Value.cells (.int .i64 0))=1:=⟨by kernel_rfl,rfl,rfl,rfl,rfl⟩
theorem inf4:Tryz.prog.info? 4=some Tryz.t4∧Tryz.t4.zero=some (.bool false)∧Tryz.t4.size=1∧Tryz.t4.bytes=1∧Array.size (Value.cells (.bool false))=1:=⟨by kernel_rfl,rfl,rfl,rfl,rfl⟩
theorem inf40:Tryz.prog.info? 40=some Tryz.t40∧Tryz.t40.zero=some (.agg #[.int .i64 0,.int .i64 0])∧Tryz.t40.size=2∧Tryz.t40.bytes=16∧Array.size (Value.cells (.agg #[.int .i64 0,.int .i64 0]))=2:=⟨by kernel_rfl,rfl,rfl,rfl,rfl⟩
theorem inf42:Tryz.prog.info? 42=some Tryz.t42∧Tryz.t42.zero=some (.agg #[.int .i64 0,.int .i64 0,.int .i64 0])∧Tryz.t42.size=3∧Tryz.t42.bytes=24∧Array.size (Value.cells (.agg #[.int .i64 0,.int .i64 0,.int .i64 0]))=3:=⟨by kernel_rfl,rfl,rfl,rfl,rfl⟩
theorem Qir:Tryz.prog.info? 45=some Tryz.t45∧Tryz.t45.zero=some (.agg #[.int .i64 0,.int .i64 0,.int .i64 0,.int .i64 0,.int .i64 0,.int .i64 0,.int .i64 0,.int .i64 0])∧Tryz.t45.size=8∧Tryz.t45.bytes=64∧Array.size (Value.cells (.agg #[.int .i64 0,.int .i64 0,.int .i64 0,.int .i64 0,.int .i64 0,.int .i64 0,.int .i64 0,.int .i64 0]))=8:=⟨by kernel_rfl,rfl,rfl,rfl,rfl⟩
theorem inf54:Tryz.prog.info? 54=some Tryz.t54∧Tryz.t54.zero=some (.agg #[.int .i64 0,.int .i64 0,.int .i64 0,.int .i64 0,.int .i64 0,.int .i64 0,.int .i64 0,.int .i64 0,.int .i64 0,.int .i64 0,.int .i64 0,.int .i64 0])∧Tryz.t54.size=12∧Tryz.t54.bytes=96∧Array.size (Value.cells (.agg #[.int .i64 0,.int .i64 0,.int .i64 0,.int .i64 0,.int .i64 0,.int .i64 0,.int .i64 0,.int .i64 0,.int .i64 0,.int .i64 0,.int .i64 0,.int .i64 0]))=12:=⟨by kernel_rfl,rfl,rfl,rfl,rfl⟩
theorem inf58:Tryz.prog.info? 58=some Tryz.t58∧Tryz.t58.zero=some (.agg #[.int .i64 0,.int .i64 0,.int .i64 0,.int .i64 0,.slice none 0 0])∧Tryz.t58.size=5∧Tryz.t58.bytes=56∧Array.size (Value.cells (.agg #[.int .i64 0,.int .i64 0,.int .i64 0,.int .i64 0,.slice none 0 0]))=5:=⟨by kernel_rfl,rfl,rfl,rfl,rfl⟩
theorem inf235:Tryz.prog.info? 235=some Tryz.t235∧Tryz.t235.zero=some (.agg #[.int .i64 0,.int .i32 0])∧Tryz.t235.size=2∧Tryz.t235.bytes=16∧Array.size (Value.cells (.agg #[.int .i64 0,.int .i32 0]))=2:=⟨by kernel_rfl,rfl,rfl,rfl,rfl⟩
end Go.Proofs.YtlbnpmfggfbdoaaGreatDoor
end
section
namespace Go.Z
open Go.RowKit
def bindl:List Nat→List Value→List (Nat×Value)→List (Nat×Value)
 |p::ps,v::vs,l=>bindl ps vs ((p,v)::l)
 |_,_,l=>l
abbrev mkD (D:Nat):Deferred:={target:=.collected D,args:=#[]}
def Dfr (w:World)(D:Nat):Prop:=w.heap[D]?=some (.deferred (some []))
theorem Dfr.lt {w:World}{D:Nat}(h:Dfr w D):D<w.heap.size:=(Qo.1 h).1
theorem Dfr.ch {w w':World}{D:Nat}{S:List Nat}(h:Dfr w D)(I:Ch S w w')(J:D∉S):Dfr w' D:=(I.block D h.lt J).trans h
theorem Ch.putObj (w:World)(r:Nat)(o:Obj):Ch [r] w (w.putObj r o):=
 ⟨rfl,rfl,rfl,by simp,fun k _ I=>World.putObj_heap_other (by simpa using I)⟩
def RP (D:Nat)(I:Nat→World→Prop)(X:Exit→World→Prop)(k:Nat)(W:World)(e:Exit)(W':World):Prop:=
 (∃S,Ch S W W'∧D∉S∧D+1∉S)∧match e with
  | .normal=>I (k+1) W'
  | .ret=>X .ret W'
  | .exit id=>X (.exit id) W'
  |_=>False
def RQ (D:Nat)(I:Nat→World→Prop)(X:Exit→World→Prop)(k:Nat)(W:World):Exit→Act→World→Prop:=fun e _ W'=>RP D I X k W e W'
theorem RQ.pq {D:Nat}{I:Nat→World→Prop}{X:Exit→World→Prop}{k:Nat}{W:World}:Pq (RQ D I X k W):=fun _ _ _ _ _ h=>h
section
variable {P:Program}{Q:Exit→Act→World→Prop}{a:Act}{w:World}{n:Nat}{ds:List Deferred}{l:List (Nat×Value)}
theorem bind_fr: ∀(ps:List Nat) (args:List Value) {l:List (Nat×Value)} {t:Array Value},(∀p,p∈ps→p<n)→Fr ⟨t,[]⟩ n [] l→Fr ⟨(ps.zip args).foldl (fun t (p,v)=>t.setIfInBounds p v) t,[]⟩ n [] (bindl ps args l)
 | [],_,_,_,_,h=>h
 |_::_,[],_,_,_,h=>h
 |p::ps,v::args,_,_,hp,h=>bind_fr ps args (fun q hq=>hp q (Qe _ hq)) (h.put (d:=p) (hp p (Qg ..)) v)
section
variable {r:Option Nat}
end
section
variable {d:Option Tmp}{T:TypeId}{pos:String}{af:Array Edge}{gd:Option (Nat×Bool)}{t ty:TypeId}{x:Operand}{fn:Fn}{f c:Array Value}{p q:Array TypeId}{va:Bool}
end
theorem enterM {f:FuncId}{fn:Func}{c:Code}{vs:List Value}{m:Nat}{R:Ending→World→Prop}(I:P.funcs[f]?=some fn)(J:fn.body=some c)(N:fn.ntmps=m)(O:vs.length≤m)
  (h: ∀a,Fr a m [] (argl vs 0)→WP none P c (bodyPostM (FW none) 0 P fn R) a w):Calls P f vs.toArray w R:=by
 refine callsIn_wide.1 (callsIn_of_wp_marks (F:=FW none) (n:=0) I J trivial (h _ ?_))
 subst N
 exact Fr.entry vs _ O
def marks:List Nat→List Deferred
 | []=>[]
 |D::r=>mkD D::marks r
theorem leavesM {fn:Func}{R:Ending→World→Prop}: ∀{Ds:List Nat} {w:World} {tmps:Array Value},(∀D,D∈Ds→Dfr w D)→Ds.Nodup→(∀w',Ch Ds w w'→w'.heap.size=w.heap.size→∃v,(results fn tmps).run P w'=.ok v w'∧R (.returned v) w')→
  LeavesInM (FW none) 0 P fn tmps R (marks Ds) .returning w
 | [],w,tmps,_,_,h=>by
  obtain⟨v,N,O⟩:=h w (Ch.refl w) rfl
  exact⟨v,N,O⟩
 |D::Ds,w,tmps,I,J,h=>by
  refine⟨by simp,.inl ⟨D,_,rfl,run_takeDeferred (I D (Qg ..)),leavesM (fun D' hD'=>?_) (Wm.1 J).2 fun w' W hz=>h w' ?_ (by rw[hz];simp)⟩⟩
  ·exact(I D' (Qe _ hD')).ch (Ch.putObj _ _ _) (by simp only[Qj];rintro rfl;exact(Wm.1 J).1 hD')
  ·exact(Ch.putObj w D _).then W (fun i hi=>.inl (by simp at hi;simp[hi])) (fun i hi=>.inl (Qe _ hi))
theorem retM {fn:Func}{R:Ending→World→Prop}{Ds:List Nat}(I:Fr a n (marks Ds) l)(J: ∀D,D∈Ds→Dfr w D)(N:Ds.Nodup)
  (h: ∀w',Ch Ds w w'→w'.heap.size=w.heap.size→∃v,(results fn a.tmps).run P w'=.ok v w'∧R (.returned v) w'):bodyPostM (FW none) 0 P fn R .ret a w:=by
 show LeavesInM _ _ _ _ _ _ a.defers _ _
 rw[I.defs];exact leavesM J N h
theorem res0 {fn:Func}(h:fn.results=#[])(w:World):(results fn a.tmps).run P w=.ok (.tuple #[]) w:=results_none h _ _ _
end
section
variable {r:Option Nat}{P:Program}{ops:Array Oper}{Q:Exit→Act→World→Prop}{a:Act}{w:World}{rest:List Oper}{n:Nat}{ds:List Deferred}{l:List (Nat×Value)}
theorem callY {d:Nat}{T:TypeId}{pos:String}{af:Array Edge}{c:Operand}{xs:List Operand}{ts:Array TypeId}{lid:Nat}{vs:List Value}{R:Ending→World→Prop}(I:Fr a n ds l)(J:Nat.ble (d+1) n=true)
  (N:ev l c=some (.func (.yield lid) #[] #[])) (O:evs l xs=some vs) (W:YieldAt (FW none) 0 P lid vs.toArray w R) (h: ∀e w',R e w'→∃v,e=.returned v∧∀a',Fr a' n ds ((d,v)::l)→WL none P ops Q rest a' w'):
  WL none P ops Q (⟨some d,.call {callee:=.value c,args:=xs.toArray,argTypes:=ts},T,pos,af,none⟩::rest) a w:=by
 obtain⟨fn,tmps,assign,body,hy,hR⟩:=W
 have h1:=I.evals xs O
 have h2:=I.eval N
 refine stepw (x:=.round lid fn tmps assign body) (w':=w) rfl ?_ (fun _ h=>by cases h) fun K hK=>⟨(fun h=>by cases h),hR.mono fun e w' he=>?_⟩
 ·simp only[execOp,resolve,h1,h2]
  simp[Deferred.ofValue,invoke,hy]
 ·obtain⟨v,rfl,hv⟩:=h e w' he
  exact hK _ _ (hv _ (I.put (Q0 J) v))
end
structure Ky (P:Program) (kt:TypeId) {κ:Type} [DecidableEq κ] (enc:κ→Value):Prop where
 check: ∀b k w,(Instr.checkKey b 10000 kt (enc k)).run P w=.ok () w
 eq: ∀a b w,(Op.equal kt (enc a) (enc b)).run P w=.ok (decide (a=b)) w
 now: ∃d,P.underlying kt=some d∧((∀a b,Instr.sameNow d (enc a) (enc b)=some (decide (a=b)))∨(∀a b,Instr.sameNow d (enc a) (enc b)=none))
 bits: ∀a,Instr.sameBits 10000 (enc a) (enc a)=true
section
variable {κ:Type}[DecidableEq κ]{α:Type}
def loc (k:κ):List κ→Option Nat
 | []=>none
 |a::r=>if k=a then some 0 else(loc k r).map (· +1)
def mget (z:α):List (κ×α)→κ→α
 | [],_=>z
 |(a,x)::r,k=>if k=a then x else mget z r k
def mhas:List (κ×α)→κ→Bool
 | [],_=>false
 |(a,_)::r,k=>if k=a then true else mhas r k
def mins:List (κ×α)→κ→α→List (κ×α)
 | [],k,x=>[(k,x)]
 |(a,y)::r,k,x=>if k=a then(a,x)::r else(a,y)::mins r k x
theorem mget_ins (z:α)(m:List (κ×α))(k j:κ)(x:α):mget z (mins m k x) j=if j=k then x else mget z m j:=by
 induction m with
 |nil=>simp[mins,mget]
 |cons p r J=>
  obtain⟨a,y⟩:=p
  unfold mins
  by_cases h:k=a
  ·subst h
   rw[if_pos rfl]
   simp only[mget]
   by_cases I:j=k
   ·rw[if_pos I,if_pos I]
   ·rw[if_neg I,if_neg I,if_neg I]
  ·rw[if_neg h]
   simp only[mget,J]
   by_cases I:j=a
   ·subst I;rw[if_pos rfl,if_neg (fun e=>h e.symm),if_pos rfl]
   ·rw[if_neg I,if_neg I]
theorem mhas_ins (m:List (κ×α))(k j:κ)(x:α):mhas (mins m k x) j=(decide (j=k)||mhas m j):=by
 induction m with
 |nil=>by_cases h:j=k<;>simp[mins,mhas,h]
 |cons p r J=>
  obtain⟨a,y⟩:=p
  unfold mins
  by_cases h:k=a
  ·subst h
   rw[if_pos rfl]
   simp only[mhas]
   by_cases I:j=k<;>simp[I]
  ·rw[if_neg h]
   simp only[mhas,J]
   by_cases I:j=a<;>simp[I]
theorem mget_none {z:α}{m:List (κ×α)}{k:κ}(h:mhas m k=false):mget z m k=z:=by
 induction m with
 |nil=>rfl
 |cons p r I=>
  obtain⟨a,y⟩:=p
  simp only[mhas]at h
  by_cases hk:k=a
  ·simp[hk]at h
  ·rw[if_neg hk]at h;simp only[mget];rw[if_neg hk];exact I h
theorem mget_mem {z:α}{m:List (κ×α)}{k:κ}(h:mhas m k=true):(k,mget z m k)∈m:=by
 induction m with
 |nil=>simp[mhas]at h
 |cons p r I=>
  obtain⟨a,y⟩:=p
  simp only[mhas]at h
  by_cases hk:k=a
  ·subst hk;simp[mget]
  ·rw[if_neg hk]at h;simp only[mget];rw[if_neg hk];exact Qe _ (I h)
theorem mget_get {z:α}{m:List (κ×α)}{i:Nat}{p:κ×α}(J:(m.map Prod.fst).Nodup)(h:m[i]?=some p):mget z m p.1=p.2∧mhas m p.1=true:=by
 induction m generalizing i with
 |nil=>simp at h
 |cons q r N=>
  obtain⟨a,y⟩:=q
  rw[Q3,Wm]at J
  cases i with
  |zero=>simp at h;subst h;simp[mget,mhas]
  |succ i=>
   rw[Wq]at h
   have I:p.1≠a:=fun e=>J.1 (by rw[←e];exact Qv.2 ⟨p,Qf h,rfl⟩)
   simp only[mget,mhas]
   rw[if_neg I,if_neg I]
   exact N J.2 h
theorem mins_keys (m:List (κ×α))(k:κ)(x:α):(mins m k x).map Prod.fst=if mhas m k then m.map Prod.fst else m.map Prod.fst++[k]:=by
 induction m with
 |nil=>simp[mins,mhas]
 |cons p r I=>
  obtain⟨a,y⟩:=p
  unfold mins
  by_cases h:k=a
  ·subst h;simp[mhas]
  ·rw[if_neg h]
   simp only[Q3,I,mhas,if_neg h]
   split<;>simp
theorem mhas_iff (m:List (κ×α))(k:κ):mhas m k=true↔k∈m.map Prod.fst:=by
 induction m with
 |nil=>simp[mhas]
 |cons p r I=>
  obtain⟨a,y⟩:=p
  simp only[mhas,Q3,Qk]
  by_cases h:k=a
  ·simp[h]
  ·rw[if_neg h,I];simp[h]
theorem mins_nodup {m:List (κ×α)}(h:(m.map Prod.fst).Nodup)(k:κ)(x:α):((mins m k x).map Prod.fst).Nodup:=by
 rw[mins_keys]
 by_cases hk:mhas m k=true
 ·rw[if_pos hk];exact h
 ·rw[if_neg hk,Wz]
  exact⟨h,by simp,fun a J b I=>by simp at I;subst I;intro e;subst e;exact hk ((mhas_iff _ _).2 J)⟩
theorem Qik (m:List (κ×α))(k:κ):loc k (m.map Prod.fst)=none↔mhas m k=false:=by
 induction m with
 |nil=>simp[loc,mhas]
 |cons p r I=>
  obtain⟨a,y⟩:=p
  simp only[Q3,loc,mhas]
  by_cases h:k=a
  ·simp[h]
  ·rw[if_neg h,if_neg h,Option.map_eq_none_iff,I]
theorem Qfm {m:List (κ×α)}{k:κ}{i:Nat}(h:loc k (m.map Prod.fst)=some i)(z:α):m[i]?=some (k,mget z m k):=by
 induction m generalizing i with
 |nil=>simp[loc]at h
 |cons p r I=>
  obtain⟨a,y⟩:=p
  simp only[Q3,loc]at h
  by_cases hk:k=a
  ·subst hk;simp at h;subst h;simp[mget]
  ·rw[if_neg hk,Wt]at h
   obtain⟨j,J,rfl⟩:=h
   simp only[Wq,mget]
   rw[if_neg hk];exact I J
theorem Qbf {m:List (κ×α)}{k:κ}(x:α):mins m k x=match loc k (m.map Prod.fst)with
  |some i=>m.modify i fun p=>(p.1,x)
  |none=>m++[(k,x)]:=by
 induction m with
 |nil=>simp[mins,loc]
 |cons p r I=>
  obtain⟨a,y⟩:=p
  simp only[Q3,loc,mins]
  by_cases hk:k=a
  ·subst hk;simp
  ·rw[if_neg hk,if_neg hk,I]
   cases loc k (r.map Prod.fst)<;>simp
end
section
variable {P:Program}{kt:TypeId}{κ:Type}[DecidableEq κ]{enc:κ→Value}
theorem Qcv {d:TypeDesc}(h: ∀a b,Instr.sameNow d (enc a) (enc b)=some (decide (a=b)))(k:κ): ∀(es:List MapEntry) (ks:List κ) (n:Nat),es.map (·.key)=ks.map enc→
  Instr.findNow d (enc k) es n=some ((loc k ks).bind fun i=>(es[i]?).map fun e=>(n+i,e.val))
 | [],[],n,_=>rfl
 | [],_::_,_,h=>by cases h
 |_::_,[],_,h=>by cases h
 |e::es,a::ks,n,hk=>by
  simp only[Q3,Jr]at hk
  unfold Instr.findNow
  rw[hk.1,h]
  by_cases I:k=a
  ·simp[loc,I]
  ·simp only[I,decide_false,loc,if_false]
   rw[Qcv h k es ks (n+1) hk.2]
   cases loc k ks with
   |none=>rfl
   |some i=>simp[Y7,Yr 1 i]
theorem Qbn (h: ∀a b w,(Op.equal kt (enc a) (enc b)).run P w=.ok (decide (a=b)) w)(k:κ)(w:World): ∀(es:List MapEntry) (ks:List κ) (n:Nat),es.map (·.key)=ks.map enc→
  (Instr.findAsking kt (enc k) es n).run P w=.ok ((loc k ks).bind fun i=>(es[i]?).map fun e=>(n+i,e.val)) w
 | [],[],n,_=>rfl
 | [],_::_,_,h=>by cases h
 |_::_,[],_,h=>by cases h
 |e::es,a::ks,n,hk=>by
  simp only[Q3,Jr]at hk
  unfold Instr.findAsking
  rw[Sem.run_bind,hk.1,h,Result.andThen_ok]
  by_cases I:k=a
  ·simp[loc,I]
  ·simp only[I,decide_false,loc,if_false,Qy]
   rw[Qbn h k w es ks (n+1) hk.2]
   cases loc k ks with
   |none=>rfl
   |some i=>simp[Y7,Yr 1 i]
theorem Qbt (K:Ky P kt enc)(k:κ)(w:World)(es:List MapEntry)(ks:List κ)(h:es.map (·.key)=ks.map enc):
  (Instr.findKey kt (enc k) es).run P w=.ok ((loc k ks).bind fun i=>(es[i]?).map fun e=>(i,e.val)) w:=by
 obtain⟨d,J,I⟩:=K.now
 unfold Instr.findKey
 rw[Sem.run_bind,run_underlying J,Result.andThen_ok]
 rcases I with I|I
 ·rw[Qcv I k es ks 0 h]
  simp only[Sem.run_pure,Wf]
 ·cases es with
  |nil=>
   cases ks with
   |nil=>rfl
   |cons a ks=>cases h
  |cons e es=>
   have:Instr.findNow d (enc k) (e::es) 0=none:=by
    cases ks with
    |nil=>cases h
    |cons a ks=>
     simp only[Q3,Jr]at h
     unfold Instr.findNow;rw[h.1,I]
   rw[this]
   have:=Qbn K.eq k w (e::es) ks 0 h
   simpa using this
end
def MapC (w:World)(b:Nat)(es:List (Value×Value)):Prop:=
 ∃(arr:List MapEntry) (clock:Nat),w.heap[b]?=some (.map arr.toArray clock)∧arr.map (fun e=>(e.key,e.val))=es∧(∀e,e∈arr→e.born<clock)∧(arr.map (·.born)).Nodup
theorem MapC.lt {w:World}{b:Nat}{es:List (Value×Value)}(h:MapC w b es):b<w.heap.size:=by obtain⟨_,_,h,_⟩:=h;exact(Qo.1 h).1
theorem MapC.ch {w w':World}{b:Nat}{es:List (Value×Value)}{S:List Nat}(h:MapC w b es)(I:Ch S w w')(J:b∉S):MapC w' b es:=by
 have N:=h.lt
 obtain⟨arr,c,O,W⟩:=h
 exact⟨arr,c,(I.block b N J).trans O,W⟩
def vof (agg:Bool)(cs:List Value):Value:=bif agg then .agg cs.toArray else cs.headD undef
def Mt {κ:Type}(enc:κ→Value)(t:Ty)(agg:Bool)(w:World)(F:Nat→Prop)(b:Nat)(m:List (κ×t.den)):Prop:=
 ∃es,MapC w b es∧es.length=m.length∧∀(i:Nat) (p:κ×t.den),m[i]?=some p→∃cs,es[i]?=some (enc p.1,vof agg cs)∧t.rep w F cs p.2
section
variable {κ:Type}{enc:κ→Value}{t:Ty}{agg:Bool}{w w':World}{F F':Nat→Prop}{b:Nat}{m:List (κ×t.den)}
theorem Mt.lt (h:Mt enc t agg w F b m):b<w.heap.size:=by obtain⟨_,h,_⟩:=h;exact h.lt
theorem Mt.to {S:List Nat}(h:Mt enc t agg w F b m)(I:Ch S w w')(J:b∉S)(N: ∀b,F b→b<w.heap.size→b∉S∧F' b):Mt enc t agg w' F' b m:=by
 obtain⟨es,O,W,h3⟩:=h
 refine⟨es,O.ch I J,W,fun i p hp=>?_⟩
 obtain⟨cs,h4,h5⟩:=h3 i p hp
 exact⟨cs,h4,rep_to h5 I N⟩
end
section
variable {r:Option Nat}{P:Program}{ops:Array Oper}{Q:Exit→Act→World→Prop}{a:Act}{w:World}{rest:List Oper}{n:Nat}{ds:List Deferred}{l:List (Nat×Value)}{d:Nat}{T:TypeId}{pos:String}{af:Array Edge}
variable {κ:Type}{enc:κ→Value}{tt:TypeId}{t:Ty}{agg:Bool}{F:Nat→Prop}{m:List (κ×t.den)}
theorem st_makeMap {x:Option Operand}(I:x=none)(J:Fr a n ds l)(N:Nat.ble (d+1) n=true)(enc:κ→Value)(t:Ty)(agg:Bool)(F:Nat→Prop)
  (h: ∀g w' a',g=w.heap.size→w'.heap.size=g+1→Mt enc t agg w' F g []→Ch [] w w'→Fr a' n ds ((d,.map (some g))::l)→WL r P ops Q rest a' w'):
  WL r P ops Q (⟨some d,.makeMap tt x,T,pos,af,none⟩::rest) a w:=by
 subst I
 refine valw (w':=w.alloc (.map #[] 0)) (v:=.map (some w.heap.size)) J N (by simp[execOp,Instr.makeMap]) fun a' hf'=>h _ _ a' rfl (by simp) ⟨[],⟨[],0,heap_alloc_new w _,rfl,by simp,by simp⟩,rfl,fun i p hp=>by simp at hp⟩ (Ch.alloc w _) hf'
theorem keys_of {arr:List MapEntry}{es:List (Value×Value)}(J:arr.map (fun e=>(e.key,e.val))=es)(W:es.length=m.length)(N: ∀(i:Nat) (p:κ×t.den),m[i]?=some p→∃cs,es[i]?=some (enc p.1,vof agg cs)∧t.rep w F cs p.2):arr.map (·.key)=(m.map Prod.fst).map enc:=by
 have e1:arr.map (·.key)=es.map Prod.fst:=by rw[←J,List.map_map];rfl
 rw[e1]
 refine Wu fun i=>?_
 simp only[Qt]
 cases I:m[i]? with
 |none=>
  have:=List.getElem?_eq_none_iff.1 I
  rw[Q5 (by omega)];rfl
 |some p=>
  obtain⟨cs,O,_⟩:=N i p I
  rw[O];rfl
end
section
variable {r:Option Nat}{P:Program}{ops:Array Oper}{Q:Exit→Act→World→Prop}{a:Act}{w:World}{rest:List Oper}{n:Nat}{ds:List Deferred}{l:List (Nat×Value)}{d:Nat}{T:TypeId}{pos:String}{af:Array Edge}
variable {κ:Type}[DecidableEq κ]{enc:κ→Value}{kt et tt:TypeId}{t:Ty}{agg:Bool}{F:Nat→Prop}{b:Nat}{m:List (κ×t.den)}
theorem run_lookup {x:Value}{zs:List Value}(K:Ky P kt enc)(ht:P.underlying tt=some (.map kt et))(hz: ∀w,(zeroValue et).run P w=.ok (vof agg zs) w){z:t.den}(O:t.rep w F zs z)(hm:Mt enc t agg w F b m)(hx:x=.map (some b))(k:κ)(ok:Bool):
  ∃cs,(Instr.lookup tt x (enc k) ok).run P w=.ok (if ok then .tuple #[vof agg cs,.bool (mhas m k)]else vof agg cs) w∧t.rep w F cs (mget z m k):=by
 subst hx
 obtain⟨es,⟨arr,clock,hb,h1,_⟩,hl,h3⟩:=hm
 have hk:=keys_of h1 hl h3
 have hfind:=Qbt K k w arr (m.map Prod.fst) hk
 have hget:(getObj b).run P w=.ok (.map arr.toArray clock) w:=by simp[getObj,Sem.run,hb]
 cases hloc:loc k (m.map Prod.fst)with
 |none=>
  rw[hloc]at hfind
  have J:=(Qik m k).1 hloc
  refine⟨zs,?_,by rw[mget_none J];exact O⟩
  simp only[Instr.lookup,Sem.run_bind,run_underlying ht,Result.andThen_ok,hget,Sem.run_pure,K.check,hfind,Option.bind_none,hz,J]
 |some i=>
  rw[hloc]at hfind
  have W:=Qfm hloc z
  obtain⟨cs,I,h5⟩:=h3 i _ W
  have J:mhas m k=true:=by
   cases hc:mhas m k with
   |true=>rfl
   |false=>rw[(Qik m k).2 hc]at hloc;cases hloc
  have harr: ∃e,arr[i]?=some e∧e.val=vof agg cs:=by
   rw[←h1,Qt]at I
   cases N:arr[i]? with
   |none=>rw[N]at I;cases I
   |some e=>rw[N]at I;injection I with I;injection I with _ I;exact⟨e,rfl,I⟩
  obtain⟨e,N,hev⟩:=harr
  refine⟨cs,?_,h5⟩
  simp only[Instr.lookup,Sem.run_bind,run_underlying ht,Result.andThen_ok,hget,Sem.run_pure,K.check,hfind,Qa,N,Wj,hev,J]
theorem st_lookup {x y:Operand}(I:Fr a n ds l)(N:Nat.ble (d+1) n=true)(K:Ky P kt enc)(O:P.underlying tt=some (.map kt et)){zs:List Value}(W: ∀w,(zeroValue et).run P w=.ok (vof agg zs) w)(z:t.den)(J:t.rep w F zs z)(hm:Mt enc t agg w F b m)
  (hx:ev l x=some (.map (some b))) (k:κ) (hy:ev l y=some (enc k))
  (h: ∀cs a',t.rep w F cs (mget z m k)→Fr a' n ds ((d,vof agg cs)::l)→WL r P ops Q rest a' w):WL r P ops Q (⟨some d,.lookup tt x y false,T,pos,af,none⟩::rest) a w:=by
 obtain⟨cs,h1,h2⟩:=run_lookup (zs:=zs) K O W J hm rfl k false
 refine valw (w':=w) (v:=vof agg cs) I N ?_ fun a' hf'=>h cs a' h2 hf'
 simp only[execOp,I.eval hx,I.eval hy,Sem.run_bind,h1,Result.andThen_ok,Sem.run_pure,Qy,if_false]
theorem st_lookup2 {x y:Operand}(I:Fr a n ds l)(N:Nat.ble (d+1) n=true)(K:Ky P kt enc)(O:P.underlying tt=some (.map kt et)){zs:List Value}(W: ∀w,(zeroValue et).run P w=.ok (vof agg zs) w)(z:t.den)(J:t.rep w F zs z)(hm:Mt enc t agg w F b m)
  (hx:ev l x=some (.map (some b))) (k:κ) (hy:ev l y=some (enc k))
  (h: ∀cs a',t.rep w F cs (mget z m k)→Fr a' n ds ((d,.tuple #[vof agg cs,.bool (mhas m k)])::l)→WL r P ops Q rest a' w):WL r P ops Q (⟨some d,.lookup tt x y true,T,pos,af,none⟩::rest) a w:=by
 obtain⟨cs,h1,h2⟩:=run_lookup (zs:=zs) K O W J hm rfl k true
 refine valw (w':=w) (v:=.tuple #[vof agg cs,.bool (mhas m k)]) I N ?_ fun a' hf'=>h cs a' h2 hf'
 simp only[execOp,I.eval hx,I.eval hy,Sem.run_bind,h1,Result.andThen_ok,Sem.run_pure,if_true]
theorem MapC.set {arr:List MapEntry}{clock:Nat}{b:Nat}{w:World}(I:w.heap[b]?=some (.map arr.toArray clock))(o:Obj):(setObj b o).run P w=.ok () (w.putObj b o):=by
 have J:=(Qo.1 I).1
 simp[setObj,Sem.run,World.putObj,I]
theorem Qfz (K:Ky P kt enc)(ht:P.underlying tt=some (.map kt et))(hm:Mt enc t agg w F b m)(k:κ){v:Value}{cs:List Value}(hv:v=vof agg cs){y:t.den}(hr:t.rep w F cs y)(hF: ∀b',F b'→b'≠b):
  ∃w',(Instr.mapUpdate tt (.map (some b)) (enc k) v).run P w=.ok () w'∧Ch [b] w w'∧w'.heap.size=w.heap.size∧Mt enc t agg w' F b (mins m k y):=by
 subst hv
 have W:=hm.lt
 obtain⟨es,⟨arr,clock,hb,h1,h4,h5⟩,hl,h3⟩:=hm
 have hk:=keys_of h1 hl h3
 have hfind:=Qbt K k w arr (m.map Prod.fst) hk
 have hget:(getObj b).run P w=.ok (.map arr.toArray clock) w:=by simp[getObj,Sem.run,hb]
 have hlen:arr.length=m.length:=by rw[←hl,←h1,Qw]
 have step: ∀o,∀cs' x,t.rep w F cs' x→t.rep (w.putObj b o) F cs' x:=fun o cs' x h=>rep_to h (Ch.putObj w b o) fun b' hb' _=>⟨by simp only[Qj];exact hF b' hb',hb'⟩
 cases hloc:loc k (m.map Prod.fst)with
 |none=>
  rw[hloc]at hfind
  refine⟨w.putObj b (.map (arr.toArray.push {key:=enc k,val:=vof agg cs,born:=clock}) (clock+1)),?_,Ch.putObj w b _,by simp,?_⟩
  ·simp only[Instr.mapUpdate,Sem.run_bind,run_underlying ht,Result.andThen_ok,hget,K.check,hfind,Option.bind_none,MapC.set hb]
  ·rw[Qbf,hloc]
   refine⟨es++[(enc k,vof agg cs)],⟨arr++[{key:=enc k,val:=vof agg cs,born:=clock}],clock+1,?_,by simp[h1],?_,?_⟩,by simp[hl],fun i p hp=>?_⟩
   ·have:=World.putObj_heap_same (o:=.map (arr.toArray.push {key:=enc k,val:=vof agg cs,born:=clock}) (clock+1)) W
    simpa using this
   ·intro e J
    rcases Qn.1 J with J|J
    ·have:=h4 e J;omega
    ·simp at J;subst J;simp
   ·rw[Yg,Wz]
    refine⟨h5,by simp,fun x hx y hy=>?_⟩
    simp at hy;subst hy
    obtain⟨e,J,rfl⟩:=Qv.1 hx
    have:=h4 e J;omega
   ·by_cases hi:i<m.length
    ·rw[Q7 hi]at hp
     obtain⟨cs',h6,h7⟩:=h3 i p hp
     exact⟨cs',by rw[Q7 (by omega)];exact h6,step _ _ _ h7⟩
    ·rw[We (by omega)]at hp
     have hi0:i-m.length=0:=by
      have:=(Qc.1 hp).1;simp at this;omega
     rw[hi0]at hp;simp at hp;subst hp
     exact⟨cs,by rw[We (by omega),hl,hi0];rfl,step _ _ _ hr⟩
 |some i=>
  rw[hloc]at hfind
  have N:=Qfm hloc y
  have hil:=(Qc.1 N).1
  obtain⟨e,J⟩: ∃e,arr[i]?=some e:=⟨_,Qd (by omega)⟩
  have hek:e.key=enc k:=by
   have h6:(arr.map (·.key))[i]?=some e.key:=by rw[Qt,J];rfl
   rw[hk,Qt,Qt,N]at h6
   simpa using h6.symm
  have hstay:(Instr.keyThatStays (enc k) (enc k)).run P w=.ok (enc k) w:=by simp[Instr.keyThatStays,K.bits]
  refine⟨w.putObj b (.map (arr.toArray.modify i fun e=>{e with key:=enc k,val:=vof agg cs}) clock),?_,Ch.putObj w b _,by simp,?_⟩
  ·simp only[Instr.mapUpdate,Sem.run_bind,run_underlying ht,Result.andThen_ok,hget,K.check,hfind,Qa,J,Wj,Ws,Jd,hek,hstay,MapC.set hb]
  ·rw[Qbf,hloc]
   have hmod:(arr.toArray.modify i fun e=>{e with key:=enc k,val:=vof agg cs})=(arr.modify i fun e=>{e with key:=enc k,val:=vof agg cs}).toArray:=by simp
   refine⟨es.modify i fun _=>(enc k,vof agg cs),⟨arr.modify i fun e=>{e with key:=enc k,val:=vof agg cs},clock,?_,?_,?_,?_⟩,by simp[hl],fun j p hp=>?_⟩
   ·have:=World.putObj_heap_same (o:=.map (arr.toArray.modify i fun e=>{e with key:=enc k,val:=vof agg cs}) clock) W
    rw[←hmod];exact this
   ·rw[←h1]
    refine Wu fun j=>?_
    simp only[Qt,Wx]
    by_cases I:i=j
    ·subst I;simp[J]
    ·simp[I]
   ·intro e' he'
    obtain⟨j,O⟩:=Wp.1 he'
    rw[Wx]at O
    cases ha:arr[j]? with
    |none=>rw[ha]at O;simp at O
    |some e0=>
     rw[ha]at O
     have hb0:=h4 e0 (Qf ha)
     simp only[Y0,Wj,Qr]at O
     subst O
     split<;>exact hb0
   ·have:(arr.modify i fun e=>{e with key:=enc k,val:=vof agg cs}).map (·.born)=arr.map (·.born):=by
     refine Wu fun j=>?_
     simp only[Qt,Wx]
     cases arr[j]? with
     |none=>rfl
     |some e0=>simp only[Y0,Wj,Qr];split<;>rfl
    rw[this];exact h5
   ·rw[Wx]at hp
    by_cases I:i=j
    ·subst I
     rw[N]at hp
     simp at hp;subst hp
     refine⟨cs,?_,step _ _ _ hr⟩
     rw[Wx]
     have:es[i]?=some es[i]:=Qd (by omega)
     simp[this]
    ·have hp':m[j]?=some p:=by
      cases hmj:m[j]? with
      |none=>rw[hmj]at hp;simp at hp
      |some q=>rw[hmj]at hp;simpa[I] using hp
     obtain⟨cs',h6,h7⟩:=h3 j p hp'
     refine⟨cs',?_,step _ _ _ h7⟩
     rw[Wx,h6];simp[I]
theorem st_mapUpdate {x y v:Operand}(I:Fr a n ds l)(K:Ky P kt enc)(J:P.underlying tt=some (.map kt et))(N:Mt enc t agg w F b m)(O:ev l x=some (.map (some b)))(k:κ)(W:ev l y=some (enc k)){cs:List Value}(hv:ev l v=some (vof agg cs)){u:t.den}(hr:t.rep w F cs u)(hF: ∀b',F b'→b'≠b)
  (h: ∀w' a',Ch [b] w w'→w'.heap.size=w.heap.size→Mt enc t agg w' F b (mins m k u)→Fr a' n ds l→WL r P ops Q rest a' w'):WL r P ops Q (⟨none,.mapUpdate tt x y v,T,pos,af,none⟩::rest) a w:=by
 obtain⟨w',h1,h2,h3,h4⟩:=Qfz K J N k rfl hr hF
 refine skipw (w':=w') I ?_ fun a' hf'=>h _ a' h2 h3 h4 hf'
 simp only[execOp,I.eval O,I.eval W,I.eval hv,Sem.run_bind,h1,Result.andThen_ok,Sem.run_pure]
end
theorem bbeq (x:ByteArray):(x==x)=true:=by cases x;exact beq_self_eq_true (α:=Array UInt8) _
section
variable {P:Program}{kt:TypeId}
theorem Ky.mkInt {k:IntKind}(h:P.underlying kt=some (.int k)):Ky P kt (fun i:Int=>.int k i):=
 ⟨fun b _ w=>by show(Instr.checkKey b (9999+1) kt _).run P w=_;unfold Instr.checkKey;simp only[Sem.run_bind,run_underlying h,Result.andThen_ok,Sem.run_pure],fun _ _ w=>eq_int (d:=9999) h w,⟨_,h,.inl fun a b=>by simp[Instr.sameNow];exact Bool.beq_eq_decide_eq a b⟩,fun a=>by simp[Instr.sameBits]⟩
theorem Ky.mkAgg {κ:Type}[DecidableEq κ]{enc:κ→Value}{d:TypeDesc}(h:P.underlying kt=some d)(I: ∀a b,Instr.sameNow d (enc a) (enc b)=none)(J: ∀b k w,(Instr.checkKey b 10000 kt (enc k)).run P w=.ok () w)(N: ∀a b,EqV P 10000 kt (enc a) (enc b) (decide (a=b)))(O: ∀a,Instr.sameBits 10000 (enc a) (enc a)=true):Ky P kt enc:=
 ⟨J,fun a b w=>N a b w,⟨d,h,.inr I⟩,O⟩
end
def Rg (w:World)(r b n:Nat)(seen:List Nat):Prop:=
 r≠b∧∃(arr:List MapEntry) (clock since:Nat) (sb:List Nat),w.heap[b]?=some (.map arr.toArray clock)∧arr.length=n∧w.heap[r]?=some (.mapIter (some b) since sb.toArray since)∧since=clock∧
  (∀e,e∈arr→e.born<since)∧(arr.map (·.born)).Nodup∧∀i e,arr[i]?=some e→(e.born∈sb↔i∈seen)
theorem Rg.ch {w w':World}{r b n:Nat}{seen:List Nat}{S:List Nat}(h:Rg w r b n seen)(I:Ch S w w')(O:r∉S)(W:b∉S):Rg w' r b n seen:=by
 obtain⟨h0,arr,clock,since,sb,J,h2,N,h4⟩:=h
 exact⟨h0,arr,clock,since,sb,(I.block _ (Qo.1 J).1 W).trans J,h2,(I.block _ (Qo.1 N).1 O).trans N,h4⟩
section
variable {r:Option Nat}{P:Program}{ops:Array Oper}{Q:Exit→Act→World→Prop}{a:Act}{w:World}{rest:List Oper}{n:Nat}{ds:List Deferred}{l:List (Nat×Value)}{d:Nat}{T:TypeId}{pos:String}{af:Array Edge}
theorem Qii {x:Operand}{tt kt et:TypeId}{b:Nat}{es:List (Value×Value)}(J:Fr a n ds l)(W:Nat.ble (d+1) n=true)(ht:P.underlying tt=some (.map kt et))(hx:ev l x=some (.map (some b)))(N:MapC w b es)
  (h: ∀g w' a',g=w.heap.size→w'.heap.size=g+1→Rg w' g b es.length []→Ch [] w w'→Fr a' n ds ((d,.pointer (some ⟨g,0,none⟩))::l)→WL r P ops Q rest a' w'):
  WL r P ops Q (⟨some d,.range tt x,T,pos,af,none⟩::rest) a w:=by
 have I:=N.lt
 obtain⟨arr,clock,O,h1,h4,h5⟩:=N
 have hget:(getObj b).run P w=.ok (.map arr.toArray clock) w:=by simp[getObj,Sem.run,O]
 refine valw (w':=w.alloc (.mapIter (some b) clock #[] clock)) (v:=.pointer (some ⟨w.heap.size,0,none⟩)) J W ?_ fun a' hf'=>h _ _ a' rfl (by simp) ⟨by omega,arr,clock,clock,[],?_,by rw[←h1,Qw],heap_alloc_new w _,rfl,h4,h5,by simp⟩ (Ch.alloc w _) hf'
 ·simp[execOp,Instr.range,run_underlying ht,J.eval hx,hget]
 ·exact(heap_alloc_old w _ I).trans O
def Si (w:World)(g:Nat)(s:ByteArray)(p:Nat):Prop:=w.heap[g]?=some (.stringIter s p)
theorem Si.lt {w:World}{g p:Nat}{s:ByteArray}(h:Si w g s p):g<w.heap.size:=(Qo.1 h).1
theorem Si.ch {w w':World}{g p:Nat}{s:ByteArray}{S:List Nat}(h:Si w g s p)(I:Ch S w w')(J:g∉S):Si w' g s p:=(I.block g h.lt J).trans h
theorem st_rangeStr {x:Operand}{tt:TypeId}{s:ByteArray}(I:Fr a n ds l)(J:Nat.ble (d+1) n=true)(N:P.underlying tt=some .string)(O:ev l x=some (.string s))
  (h: ∀g w' a',g=w.heap.size→w'.heap.size=g+1→Si w' g s 0→Ch [] w w'→Fr a' n ds ((d,.pointer (some ⟨g,0,none⟩))::l)→WL r P ops Q rest a' w'):
  WL r P ops Q (⟨some d,.range tt x,T,pos,af,none⟩::rest) a w:=
 valw (w':=w.alloc (.stringIter s 0)) (v:=.pointer (some ⟨w.heap.size,0,none⟩)) I J (by simp[execOp,Instr.range,run_underlying N,I.eval O]) fun a' hf'=>h _ _ a' rfl (by simp) (heap_alloc_new w _) (Ch.alloc w _) hf'
theorem st_nextStr {x:Operand}{g p:Nat}{s:ByteArray}(I:Fr a n ds l)(N:Nat.ble (d+1) n=true)(O:ev l x=some (.pointer (some ⟨g,0,none⟩)))(J:Si w g s p)
  (W: ¬p<s.size→∀a',Fr a' n ds ((d,.tuple #[.bool false])::l)→WL r P ops Q rest a' w)
  (h2:p<s.size→∀w' a',Ch [g] w w'→w'.heap.size=w.heap.size→Si w' g s (p+(Utf8.decode s p).2)→Fr a' n ds ((d,.tuple #[.bool true,.int .i64 (p:Int),.int .i32 ((Utf8.decode s p).1:Int)])::l)→WL r P ops Q rest a' w'):
  WL r P ops Q (⟨some d,.next x true,T,pos,af,none⟩::rest) a w:=by
 have hget:(getObj g).run P w=.ok (.stringIter s p) w:=by simp[getObj,Sem.run,show w.heap[g]?=_ from J]
 by_cases hp:p<s.size
 ·have hset:(setObj g (.stringIter s (p+(Utf8.decode s p).2))).run P w=.ok () (w.putObj g (.stringIter s (p+(Utf8.decode s p).2))):=by simp[setObj,Sem.run,World.putObj,show w.heap[g]?=_ from J]
  refine valw (w':=w.putObj g (.stringIter s (p+(Utf8.decode s p).2))) I N ?_ fun a' hf'=>h2 hp _ a' (Ch.putObj w g _) (by simp) (World.putObj_heap_same J.lt) hf'
  simp only[execOp,I.eval O,Instr.next,Sem.run_bind,hget,Result.andThen_ok,hp,if_true,hset,Sem.run_pure,goInt]
 ·refine val I N ?_ fun a' hf'=>W hp a' hf'
  simp only[execOp,I.eval O,Instr.next,Sem.run_bind,hget,Result.andThen_ok,hp,if_false,Sem.run_pure]
def bat (s:ByteArray)(i:Nat):UInt8:=s.data.getD i 0
theorem r_indexStr {d:Option Tmp}{gd:Option (Nat×Bool)}{x y:Operand}{tt:TypeId}{s:ByteArray}{k:IntKind}{i:Int}{u:Nat}(J:P.underlying tt=some .string)(N:a.eval x=.string s)(O:a.eval y=.int k i)(W:i=(u:Int))(I:u<s.size):
  (execOp a.eval ⟨d,.index tt x y,T,pos,af,gd⟩).run P w=.ok (.value (.int .u8 ((bat s u).toNat:Int))) w:=by
 subst W
 have h1:s[u]?=some (bat s u):=by
  have h2:s[u]?=some (s[u]'I):=ByteArray.getElem?_lt' s u I
  rw[h2]
  congr 1
  have hl':u<s.data.size:=I
  unfold bat
  rw[Wl,Wg hl']
  rfl
 simp[execOp,Instr.index,N,O,asIntOf,run_underlying J,h1]
end
section
variable {r:Option Nat}{P:Program}{ops:Array Oper}{Q:Exit→Act→World→Prop}{a:Act}{w:World}{rest:List Oper}{n:Nat}{ds:List Deferred}{l:List (Nat×Value)}{d:Nat}{T:TypeId}{pos:String}{af:Array Edge}
variable {κ:Type}[DecidableEq κ]{enc:κ→Value}{kt et tt:TypeId}{t:Ty}{agg:Bool}{F:Nat→Prop}{b:Nat}{m:List (κ×t.den)}
theorem r_lookup {d:Option Tmp}{gd:Option (Nat×Bool)}{x y:Operand}{ok:Bool}{X Y v:Value}(h:(Instr.lookup tt X Y ok).run P w=.ok v w)(I:a.eval x=X)(J:a.eval y=Y):(execOp a.eval ⟨d,.lookup tt x y ok,T,pos,af,gd⟩).run P w=.ok (.value v) w:=by
 subst I;subst J
 simp only[execOp,Sem.run_bind,h,Result.andThen_ok,Sem.run_pure]
omit [DecidableEq κ]in
theorem st_rangeMt {x:Operand}(J:Fr a n ds l)(N:Nat.ble (d+1) n=true)(O:P.underlying tt=some (.map kt et))(W:ev l x=some (.map (some b)))(hm:Mt enc t agg w F b m)
  (h: ∀g w' a',g=w.heap.size→w'.heap.size=g+1→Rg w' g b m.length []→Ch [] w w'→Fr a' n ds ((d,.pointer (some ⟨g,0,none⟩))::l)→WL r P ops Q rest a' w'):
  WL r P ops Q (⟨some d,.range tt x,T,pos,af,none⟩::rest) a w:=by
 obtain⟨es,I,hl,h3⟩:=hm
 exact Qii J N O W I fun g w' a' h1 h2 h4 h5 h6=>h g w' a' h1 h2 (hl▸h4) h5 h6
end
section
variable {r:Option Nat}{P:Program}{ops:Array Oper}{Q:Exit→Act→World→Prop}{a:Act}{w:World}{rest:List Oper}{n:Nat}{ds:List Deferred}{l:List (Nat×Value)}{d:Nat}{T:TypeId}{pos:String}{af:Array Edge}
theorem Qdk {α:Type}{l new:List α}{p:Nat}(hp:p+new.length≤l.length)(q:Nat):(l.take p++new++l.drop (p+new.length))[q]?=if q<p then l[q]? else if q<p+new.length then new[q-p]? else l[q]?:=by
 have J:(l.take p).length=p:=by rw[Qu];omega
 rw[Wd]
 by_cases h:q<p
 ·rw[if_pos h,Q7 (by omega),Qq h]
 ·rw[if_neg h,We (by omega),J]
  by_cases I:q<p+new.length
  ·rw[if_pos I,Q7 (by omega)]
  ·rw[if_neg I,We (by omega),Wc];congr 1;omega
theorem Qbs {α:Type}(l:List α)(i sz q:Nat):((l.drop i).take sz)[q]?=if q<sz then l[i+q]? else none:=by
 rw[Xe];split<;>simp[Wc]
theorem run_storeOwn {t:Ty}{e tt:TypeId}{B:Nat}{F:Nat→Prop}{A:Option Addr}{c:Nat}{xs:List t.den}(h:Own t e B w F A c xs){k o m:Nat}(hk:k<xs.length)(hS: ∀w,(sizeOf tt).run P w=.ok m w)(ho:o+m≤t.size){ad:Addr}(hA:A=some ad)
  {v:Value} {new es:List Value} (hv:v.cells=new.toArray) (hm:new.length=m) (h1: ∀u∈new,u.oneCell'=true) (hes:Cells w (ad.add (k*t.size)) es) (hel:es.length=t.size) {y:t.den} (hy:t.rep w F (es.take o++new++es.drop (o+m)) y) (hF: ∀b,F b→b∉obl A):
  ∃w',(Instr.storeAt tt (.pointer (some ((ad.add (k*t.size)).add o))) v).run P w=.ok () w'∧Ch (obl A) w w'∧w'.heap.size=w.heap.size∧Own t e B w' F A c (xs.set k y):=by
 obtain⟨cells,⟨hl,hrow⟩,h1c,h2⟩:=h
 rcases hrow with⟨J,hn⟩|⟨g,cap,cur,J,N,hg,hnc,hcm,hcs,htake⟩
 ·injection J with hA' _ _;subst hA';cases hA
 injection J with hA' _ hc'
 subst hA';subst hc'
 injection hA with hA
 subst hA
 subst hm
 have hks:k*t.size+t.size≤xs.length*t.size:=by
  have:(k+1)*t.size≤xs.length*t.size:=Q9 _ hk
  rwa[Xv,X8]at this
 have hcur:xs.length*t.size≤cur.size:=by rw[hcs];exact Q9 _ hnc
 have hl:cells.length=xs.length*t.size:=hl
 have hcell: ∀q,q<xs.length*t.size→cur.toList[q]?=cells[q]?:=fun q hq=>by rw[←htake,Qq hq]
 have hBlk:Blk w g e cur.toList:=by unfold Blk;simpa using hg
 have hadd:((⟨g,0,none⟩:Addr).add (k*t.size)).add o=⟨g,k*t.size+o,none⟩:=by rw[Addr.add_lit,Addr.add_lit];simp
 have hst:=run_storeB (P:=P) (o:=k*t.size+o) hBlk hS hv rfl (by simp;omega) h1
 obtain⟨cs',hcs'⟩: ∃cs',cs'=cur.toList.take (k*t.size+o)++new++cur.toList.drop (k*t.size+o+new.length):=⟨_,rfl⟩
 rw[←hcs']at hst
 have hlen':cs'.length=cur.size:=by rw[hcs'];simp;omega
 have O:Ch (obl (some (⟨g,0,none⟩:Addr))) w (w.setRow g cs'.toArray):=Ch.setRow w g _
 have hget: ∀q,q<xs.length*t.size→(cs'.take (xs.length*t.size))[q]?=if q<k*t.size+o then cells[q]? else if q<k*t.size+o+new.length then new[q-(k*t.size+o)]? else cells[q]?:=fun q hq=>by
  rw[Qq hq,hcs',Qdk (by simp;omega),hcell q hq]
 have hesq: ∀q,q<t.size→es[q]?=cells[k*t.size+q]?:=fun q hq=>by
  obtain⟨u,hu⟩: ∃u,es[q]?=some u:=⟨_,Qd (by omega)⟩
  have:=hes q u hu
  rw[Addr.add_lit,Addr.add_lit,hBlk.cell]at this
  rw[hu,←hcell _ (by omega)];simpa using this.symm
 refine⟨_,by rw[hadd];exact hst,O,by simp[World.setRow],cs'.take (xs.length*t.size),⟨by rw[W5,Qu,hlen',X7 hcur],.inr ⟨g,c,cs'.toArray,by rw[W5],N,?_,by rw[W5];exact hnc,hcm,by rw[Yf,hlen',hcs],by rw[W5]⟩⟩,?_,?_⟩
 ·have:=hBlk.setRow (cs':=cs')
  unfold Blk at this;exact this
 ·intro u hu
  obtain⟨q,hq⟩:=Wp.1 hu
  have hql:q<xs.length*t.size:=by have:=(Qc.1 hq).1;rw[Qu]at this;omega
  rw[hget q hql]at hq
  split at hq
  ·exact h1c u (Qf hq)
  ·split at hq
   ·exact h1 u (Qf hq)
   ·exact h1c u (Qf hq)
 ·intro i x W
  have hil:i<xs.length:=by have:=(Qc.1 W).1;rwa[W5]at this
  have his:i*t.size+t.size≤xs.length*t.size:=by
   have:(i+1)*t.size≤xs.length*t.size:=Q9 _ hil
   rwa[Xv,X8]at this
  by_cases hik:i=k
  ·subst hik
   rw[Ys hil]at W
   injection W with W
   subst W
   have e1:((cs'.take (xs.length*t.size)).drop (i*t.size)).take t.size=es.take o++new++es.drop (o+new.length):=by
    refine Wu fun q=>?_
    rw[Qbs,Qdk (by omega)]
    by_cases hq:q<t.size
    ·rw[if_pos hq,hget _ (by omega),hesq q hq]
     by_cases I:q<o
     ·rw[if_pos (by omega),if_pos I]
     ·rw[if_neg (by omega),if_neg I]
      by_cases h4:q<o+new.length
      ·rw[if_pos (by omega),if_pos h4];congr 1;omega
      ·rw[if_neg (by omega),if_neg h4]
    ·rw[if_neg hq,if_neg (by omega),if_neg (by omega),Q5 (by omega)]
   rw[e1]
   exact rep_to hy O fun b N _=>⟨hF b N,N⟩
  ·rw[List.getElem?_set_ne (fun h=>hik h.symm)]at W
   have e1:((cs'.take (xs.length*t.size)).drop (i*t.size)).take t.size=(cells.drop (i*t.size)).take t.size:=by
    refine Wu fun q=>?_
    rw[Qbs,Qbs]
    by_cases hq:q<t.size
    ·rw[if_pos hq,if_pos hq,hget _ (by omega)]
     have:i*t.size+q<k*t.size+o∨k*t.size+o+new.length≤i*t.size+q:=by
      rcases Nat.lt_or_gt_of_ne hik with I|I
      ·left
       have:(i+1)*t.size≤k*t.size:=Q9 _ I
       rw[Xv,X8]at this;omega
      ·right
       have:(k+1)*t.size≤i*t.size:=Q9 _ I
       rw[Xv,X8]at this;omega
     rcases this with I|I
     ·rw[if_pos I]
     ·rw[if_neg (by omega),if_neg (by omega)]
    ·rw[if_neg hq,if_neg hq]
   rw[e1]
   exact rep_to (h2 i x W) O fun b N _=>⟨hF b N,N⟩
theorem st_setel {t:Ty}{e tt:TypeId}{B:Nat}{F:Nat→Prop}{A:Option Addr}{c:Nat}{xs:List t.den}{px py:Operand}(I:Fr a n ds l)(h:Own t e B w F A c xs){k o m:Nat}(hk:k<xs.length)(W: ∀w,(sizeOf tt).run P w=.ok m w)(ho:Nat.ble (o+m) t.size=true){ad:Addr}(hA:A=some ad)
  (hx:ev l px=some (.pointer (some ((ad.add (k*t.size)).add o)))) {v:Value} (J:ev l py=some v) {new es:List Value} (hv:v.cells=new.toArray) (hm:new.length=m) (h1: ∀u∈new,u.oneCell'=true) (N:Cells w (ad.add (k*t.size)) es) (O:es.length=t.size) {y:t.den} (hy:t.rep w F (es.take o++new++es.drop (o+m)) y) (hF: ∀b,F b→b∉obl A)
  (hn: ∀w' a',Ch (obl A) w w'→w'.heap.size=w.heap.size→Own t e B w' F A c (xs.set k y)→Fr a' n ds l→WL r P ops Q rest a' w'):WL r P ops Q (⟨none,.store tt px py,T,pos,af,none⟩::rest) a w:=by
 obtain⟨w',h2,h3,h4,h5⟩:=run_storeOwn (P:=P) h hk W (Q0 ho) hA hv hm h1 N O hy hF
 refine skipw (w':=w') I ?_ fun a' hf'=>hn _ a' h3 h4 h5 hf'
 simp only[execOp,I.eval hx,I.eval J,Sem.run_bind,h2,Result.andThen_ok,Sem.run_pure]
theorem st_makeSlice {t:Ty}{tt e:TypeId}{x y:Operand}{i:TypeInfo}{z:Value}{bytes u:Nat}{k1 k2:IntKind}{p q:Int}(O:Fr a n ds l)(hd:Nat.ble (d+1) n=true)(ht:P.underlying tt=some (.slice e))(hi:P.info? e=some i)(hz:i.zero=some z)(hsize:i.size=1)(W:i.bytes=bytes)(hzs:z.cells=#[z])(N:t.size=1)
  (J:ev l x=some (.int k1 p)) (hy:ev l y=some (.int k2 q)) (hp:p=(u:Int)) (hq:q=(u:Int)) (hu:bytes*u≤140737488355328) (hm:u≤maxLen) (z0:t.den) (hz0:t.rep w no [z] z0) (h1:z.oneCell'=true)
  (h: ∀g w' a',g=w.heap.size→w'.heap.size=g+1→Own t e g w' no (some ⟨g,0,none⟩) u (List.replicate u z0)→Ch [] w w'→Fr a' n ds ((d,.slice (some ⟨g,0,none⟩) u u)::l)→WL r P ops Q rest a' w'):
  WL r P ops Q (⟨some d,.makeSlice tt x y,T,pos,af,none⟩::rest) a w:=by
 subst hp;subst hq
 have hrun:=run_make (P:=P) w tt e i z ht hi hz k1 k2 (u:Int) (u:Int) (by omega) (by omega) (by rw[W,←Int.natCast_mul];omega) (by rw[show maxLen=9223372036854775807 from rfl]at hm;omega)
 have hcells:madeCells z.cells ((u:Int).toNat*i.size)=(List.replicate u z).toArray:=by
  rw[hzs,hsize,Qs,Jk]
  unfold madeCells
  apply Array.toList_inj.1
  refine Wu fun j=>?_
  simp only[Array.toList_map,Array.toList_range,Qt]
  by_cases I:j<u
  ·rw[Yo I,Xc,if_pos I];simp[Nat.mod_one]
  ·rw[Q5 (by simpa using I),Q5 (by simpa using I)];rfl
 rw[hcells,Qs]at hrun
 refine valw (w':=w.alloc (.cells (List.replicate u z).toArray e)) (v:=.slice (some ⟨w.heap.size,0,none⟩) u u) O hd ?_ fun a' hf'=>h _ _ a' rfl (by simp) ?_ (Ch.alloc w _) hf'
 ·simp only[execOp,O.eval J,O.eval hy,Sem.run_bind,hrun,Result.andThen_ok,Sem.run_pure]
 ·have:=Own.made (t:=t) (F:=no) (B:=w.heap.size) (xs:=List.replicate u z0) (Blk.new w e (List.replicate u z)) (Q1 _) (by simp[N]) (by simpa using hm) (fun v hv=>by rw[List.eq_of_mem_replicate hv];exact h1) fun j x J=>by
   have I:=(Qc.1 J).1
   rw[Xb]at I
   have hx0:x=z0:=by
    rw[Xc,if_pos I]at J;injection J with J;exact J.symm
   subst hx0
   have:((List.replicate u z).drop (j*t.size)).take t.size=[z]:=by
    rw[N,Jk]
    refine Wu fun q=>?_
    rw[Qbs]
    cases q with
    |zero=>simp[I]
    |succ q=>simp
   rw[this]
   exact rep_ch0 (Ch.alloc w _) t hz0
  rwa[Xb]at this
end
section
variable {P:Program}{a:Act}{w:World}{n:Nat}{ds:List Deferred}{l:List (Nat×Value)}
def RV (P:Program)(tm:Array Value)(w:World):ResultVar→Value→Prop
 | .tmp t,v=>tm.getD t undef=v
 | .cell p ty,v=>∃ad,tm.getD p undef=.pointer (some ad)∧(loadVar ty ad).run P w=.ok v w
theorem rv_t {t:Nat}{v:Value}(I:Fr a n ds l)(J:lk l t=some v):RV P a.tmps w (.tmp t) v:=I.eval (x:=.tmp t) J
theorem rv_1 {p g:Nat}{ty bt:TypeId}{u:Value}(I:Fr a n ds l)(hp:lk l p=some (.pointer (some ⟨g,0,none⟩)))(J: ∀w,(isAgg ty).run P w=.ok false w)(N:Blk w g bt [u]):RV P a.tmps w (.cell p ty) u:=by
 have O:w.cell? ⟨g,0,none⟩=some u:=N.cell 0
 exact⟨_,I.eval (x:=.tmp p) hp,by simp[loadVar,J,O]⟩
theorem rv_n {p g m:Nat}{ty bt:TypeId}{cs:List Value}(I:Fr a n ds l)(hp:lk l p=some (.pointer (some ⟨g,0,none⟩)))(J: ∀w,(isAgg ty).run P w=.ok true w)(N: ∀w,(sizeOf ty).run P w=.ok m w)(O:Blk w g bt cs)(W:cs.length=m):RV P a.tmps w (.cell p ty) (.agg cs.toArray):=by
 subst W
 refine⟨_,I.eval (x:=.tmp p) hp,?_⟩
 have:=run_loadCells_list (P:=P) w ⟨g,0,none⟩ cs fun j u hj=>by rw[Addr.add_lit,O.cell];simpa using hj
 simp[loadVar,J,N,this]
theorem resv1 {fn:Func}{I:ResultVar}{N:Value}(h:fn.results=#[I])(J:RV P a.tmps w I N):(results fn a.tmps).run P w=.ok N w:=by
 cases I<;>simp only[RV,Wl]at J
 ·simp[results,h,J]
 ·obtain⟨ad,O,W⟩:=J;simp[results,h,O,asAddr,W]
theorem resv2 {fn:Func}{W r2:ResultVar}{v1 v2:Value}(h:fn.results=#[W,r2])(I:RV P a.tmps w W v1)(J:RV P a.tmps w r2 v2):(results fn a.tmps).run P w=.ok (.tuple #[v1,v2]) w:=by
 cases W<;>cases r2<;>simp only[RV,Wl]at I J
 ·simp[results,h,I,J]
 ·obtain⟨ad,N,O⟩:=J;simp[results,h,I,N,asAddr,O]
 ·obtain⟨ad,N,O⟩:=I;simp[results,h,J,N,asAddr,O]
 ·obtain⟨ad,N,O⟩:=I;obtain⟨ae,h5,h6⟩:=J;simp[results,h,N,h5,asAddr,O,h6]
theorem retv {fn:Func}{R:Ending→World→Prop}{v:Value}(I:Fr a n [] l)(h:(results fn a.tmps).run P w=.ok v w)(J:R (.returned v) w):bodyPost P fn R .ret a w:=bodyPost_ret h I.defs J
theorem endv {fn:Func}{R:Ending→World→Prop}{v:Value}(I:Fr a n [] l)(h:(results fn a.tmps).run P w=.ok v w)(J:R (.returned v) w):bodyPost P fn R .normal a w:=bodyPost_end h I.defs J
end
end Go.Z
end
section
namespace Go.Proofs.YtlbnpmfggfbdoaaGreatDoor
theorem eqin40 {x y:D39}(d:Nat):Z.EqV Tryz.prog (d+2) 40 (.agg #[.int .i64 x.1,.int .i64 x.2]) (.agg #[.int .i64 y.1,.int .i64 y.2]) (decide (x=y)):=by
 have h:Z.EqV Tryz.prog (d+2) 40 (.agg #[.int .i64 x.1,.int .i64 x.2]) (.agg #[.int .i64 y.1,.int .i64 y.2]) (decide (x.1=y.1)&&(decide (x.2=y.2)&&true)):=Z.eq_struct Tryz.underlying40 (by kernel_rfl) (Z.eqf_cons rfl (fun w=>Z.part_one w Tryz.isAgg3 rfl) (fun w=>Z.part_one w Tryz.isAgg3 rfl) (Z.eq_int (d:=d+0) Tryz.underlying3) (Z.eqf_cons rfl (fun w=>Z.part_one w Tryz.isAgg3 rfl) (fun w=>Z.part_one w Tryz.isAgg3 rfl) (Z.eq_int (d:=d+0) Tryz.underlying3) Z.eqf_nil))
 have e:decide (x=y)=(decide (x.1=y.1)&&(decide (x.2=y.2)&&true)):=by simp only[Z.decide_pair,Y8]
 rw[e];exact h
theorem eqagg_eql40 {x y:D39}{a:Act}{w:World}{dd:Option Tmp}{T ty:TypeId}{pos:String}{af:Array Edge}{gd:Option (Nat×Bool)}{X Y:Operand}(I:a.eval X=.agg #[.int .i64 x.1,.int .i64 x.2])(J:a.eval Y=.agg #[.int .i64 y.1,.int .i64 y.2]):(execOp a.eval ⟨dd,.binOp .eql 40 X Y ty,T,pos,af,gd⟩).run Tryz.prog w=.ok (.value (.bool (decide (x=y)))) w:=Z.r_eqagg (eqin40 9998) (by kernel_rfl) I J
theorem eqagg_neq40 {x y:D39}{a:Act}{w:World}{dd:Option Tmp}{T ty:TypeId}{pos:String}{af:Array Edge}{gd:Option (Nat×Bool)}{X Y:Operand}(I:a.eval X=.agg #[.int .i64 x.1,.int .i64 x.2])(J:a.eval Y=.agg #[.int .i64 y.1,.int .i64 y.2]):(execOp a.eval ⟨dd,.binOp .neq 40 X Y ty,T,pos,af,gd⟩).run Tryz.prog w=.ok (.value (.bool (decide (x≠y)))) w:=Z.r_neagg (eqin40 9998) (by kernel_rfl) I J
theorem eqin43 {x y:D43}(d:Nat):Z.EqV Tryz.prog (d+2) 43 (.agg #[.int .i64 x.1,.int .i64 x.2.1,.int .i64 x.2.2.1,.int .i64 x.2.2.2]) (.agg #[.int .i64 y.1,.int .i64 y.2.1,.int .i64 y.2.2.1,.int .i64 y.2.2.2]) (decide (x=y)):=by
 have h:Z.EqV Tryz.prog (d+2) 43 (.agg #[.int .i64 x.1,.int .i64 x.2.1,.int .i64 x.2.2.1,.int .i64 x.2.2.2]) (.agg #[.int .i64 y.1,.int .i64 y.2.1,.int .i64 y.2.2.1,.int .i64 y.2.2.2]) (decide (x.1=y.1)&&(decide (x.2.1=y.2.1)&&(decide (x.2.2.1=y.2.2.1)&&(decide (x.2.2.2=y.2.2.2)&&true)))):=Z.eq_array (is:=[0,1,2,3]) (c:=1) Tryz.underlying43 inf2.1 (by kernel_rfl) rfl (Z.eqi_cons (fun w=>Z.part_one w Tryz.isAgg2 rfl) (fun w=>Z.part_one w Tryz.isAgg2 rfl) (Z.eq_int (d:=d+0) Tryz.underlying2) (Z.eqi_cons (fun w=>Z.part_one w Tryz.isAgg2 rfl) (fun w=>Z.part_one w Tryz.isAgg2 rfl) (Z.eq_int (d:=d+0) Tryz.underlying2) (Z.eqi_cons (fun w=>Z.part_one w Tryz.isAgg2 rfl) (fun w=>Z.part_one w Tryz.isAgg2 rfl) (Z.eq_int (d:=d+0) Tryz.underlying2) (Z.eqi_cons (fun w=>Z.part_one w Tryz.isAgg2 rfl) (fun w=>Z.part_one w Tryz.isAgg2 rfl) (Z.eq_int (d:=d+0) Tryz.underlying2) Z.eqi_nil))))
 have e:decide (x=y)=(decide (x.1=y.1)&&(decide (x.2.1=y.2.1)&&(decide (x.2.2.1=y.2.2.1)&&(decide (x.2.2.2=y.2.2.2)&&true)))):=by simp only[Z.decide_pair,Y8]
 rw[e];exact h
theorem eqin45 {x y:D44}(d:Nat):Z.EqV Tryz.prog (d+3) 45 (.agg #[.int .i64 x.1,.int .i64 x.2.1,.int .i64 x.2.2.1,.int .i64 x.2.2.2.1,.int .i64 x.2.2.2.2.1,.int .i64 x.2.2.2.2.2.1,.int .i64 x.2.2.2.2.2.2.1,.int .i64 x.2.2.2.2.2.2.2]) (.agg #[.int .i64 y.1,.int .i64 y.2.1,.int .i64 y.2.2.1,.int .i64 y.2.2.2.1,.int .i64 y.2.2.2.2.1,.int .i64 y.2.2.2.2.2.1,.int .i64 y.2.2.2.2.2.2.1,.int .i64 y.2.2.2.2.2.2.2]) (decide (x=y)):=by
 have h:Z.EqV Tryz.prog (d+3) 45 (.agg #[.int .i64 x.1,.int .i64 x.2.1,.int .i64 x.2.2.1,.int .i64 x.2.2.2.1,.int .i64 x.2.2.2.2.1,.int .i64 x.2.2.2.2.2.1,.int .i64 x.2.2.2.2.2.2.1,.int .i64 x.2.2.2.2.2.2.2]) (.agg #[.int .i64 y.1,.int .i64 y.2.1,.int .i64 y.2.2.1,.int .i64 y.2.2.2.1,.int .i64 y.2.2.2.2.1,.int .i64 y.2.2.2.2.2.1,.int .i64 y.2.2.2.2.2.2.1,.int .i64 y.2.2.2.2.2.2.2]) (decide (x.1=y.1)&&(decide (x.2.1=y.2.1)&&(decide (x.2.2.1=y.2.2.1)&&(decide (x.2.2.2.1=y.2.2.2.1)&&(decide (x.2.2.2.2=y.2.2.2.2)&&true))))):=Z.eq_struct Tryz.underlying45 (by kernel_rfl) (Z.eqf_cons rfl (fun w=>Z.part_one w Tryz.isAgg3 rfl) (fun w=>Z.part_one w Tryz.isAgg3 rfl) (Z.eq_int (d:=d+1) Tryz.underlying3) (Z.eqf_cons rfl (fun w=>Z.part_one w Tryz.isAgg3 rfl) (fun w=>Z.part_one w Tryz.isAgg3 rfl) (Z.eq_int (d:=d+1) Tryz.underlying3) (Z.eqf_cons rfl (fun w=>Z.part_one w Tryz.isAgg2 rfl) (fun w=>Z.part_one w Tryz.isAgg2 rfl) (Z.eq_int (d:=d+1) Tryz.underlying2) (Z.eqf_cons rfl (fun w=>Z.part_one w Tryz.isAgg3 rfl) (fun w=>Z.part_one w Tryz.isAgg3 rfl) (Z.eq_int (d:=d+1) Tryz.underlying3) (Z.eqf_cons rfl (fun w=>Z.part_agg w Tryz.isAgg43 Tryz.sizeOf43 rfl) (fun w=>Z.part_agg w Tryz.isAgg43 Tryz.sizeOf43 rfl) (eqin43 (x:=x.2.2.2.2) (y:=y.2.2.2.2) d) Z.eqf_nil)))))
 have e:decide (x=y)=(decide (x.1=y.1)&&(decide (x.2.1=y.2.1)&&(decide (x.2.2.1=y.2.2.1)&&(decide (x.2.2.2.1=y.2.2.2.1)&&(decide (x.2.2.2.2=y.2.2.2.2)&&true))))):=by simp only[Z.decide_pair,Y8]
 rw[e];exact h
theorem eqagg_eql45 {x y:D44}{a:Act}{w:World}{dd:Option Tmp}{T ty:TypeId}{pos:String}{af:Array Edge}{gd:Option (Nat×Bool)}{X Y:Operand}(I:a.eval X=.agg #[.int .i64 x.1,.int .i64 x.2.1,.int .i64 x.2.2.1,.int .i64 x.2.2.2.1,.int .i64 x.2.2.2.2.1,.int .i64 x.2.2.2.2.2.1,.int .i64 x.2.2.2.2.2.2.1,.int .i64 x.2.2.2.2.2.2.2])(J:a.eval Y=.agg #[.int .i64 y.1,.int .i64 y.2.1,.int .i64 y.2.2.1,.int .i64 y.2.2.2.1,.int .i64 y.2.2.2.2.1,.int .i64 y.2.2.2.2.2.1,.int .i64 y.2.2.2.2.2.2.1,.int .i64 y.2.2.2.2.2.2.2]):(execOp a.eval ⟨dd,.binOp .eql 45 X Y ty,T,pos,af,gd⟩).run Tryz.prog w=.ok (.value (.bool (decide (x=y)))) w:=Z.r_eqagg (eqin45 9997) (by kernel_rfl) I J
theorem eqagg_neq45 {x y:D44}{a:Act}{w:World}{dd:Option Tmp}{T ty:TypeId}{pos:String}{af:Array Edge}{gd:Option (Nat×Bool)}{X Y:Operand}(I:a.eval X=.agg #[.int .i64 x.1,.int .i64 x.2.1,.int .i64 x.2.2.1,.int .i64 x.2.2.2.1,.int .i64 x.2.2.2.2.1,.int .i64 x.2.2.2.2.2.1,.int .i64 x.2.2.2.2.2.2.1,.int .i64 x.2.2.2.2.2.2.2])(J:a.eval Y=.agg #[.int .i64 y.1,.int .i64 y.2.1,.int .i64 y.2.2.1,.int .i64 y.2.2.2.1,.int .i64 y.2.2.2.2.1,.int .i64 y.2.2.2.2.2.1,.int .i64 y.2.2.2.2.2.2.1,.int .i64 y.2.2.2.2.2.2.2]):(execOp a.eval ⟨dd,.binOp .neq 45 X Y ty,T,pos,af,gd⟩).run Tryz.prog w=.ok (.value (.bool (decide (x≠y)))) w:=Z.r_neagg (eqin45 9997) (by kernel_rfl) I J
theorem eqin82 {x y:D81}(d:Nat):Z.EqV Tryz.prog (d+2) 82 (.agg #[.int .i64 x.1,.int .i64 x.2.1,.string x.2.2]) (.agg #[.int .i64 y.1,.int .i64 y.2.1,.string y.2.2]) (decide (x=y)):=by
 have h:Z.EqV Tryz.prog (d+2) 82 (.agg #[.int .i64 x.1,.int .i64 x.2.1,.string x.2.2]) (.agg #[.int .i64 y.1,.int .i64 y.2.1,.string y.2.2]) (decide (x.1=y.1)&&(decide (x.2.1=y.2.1)&&(decide (x.2.2=y.2.2)&&true))):=Z.eq_struct Tryz.underlying82 (by kernel_rfl) (Z.eqf_cons rfl (fun w=>Z.part_one w Tryz.isAgg3 rfl) (fun w=>Z.part_one w Tryz.isAgg3 rfl) (Z.eq_int (d:=d+0) Tryz.underlying3) (Z.eqf_cons rfl (fun w=>Z.part_one w Tryz.isAgg2 rfl) (fun w=>Z.part_one w Tryz.isAgg2 rfl) (Z.eq_int (d:=d+0) Tryz.underlying2) (Z.eqf_cons rfl (fun w=>Z.part_one w Tryz.isAgg9 rfl) (fun w=>Z.part_one w Tryz.isAgg9 rfl) (Z.eq_str (d:=d+0) Tryz.underlying9) Z.eqf_nil)))
 have e:decide (x=y)=(decide (x.1=y.1)&&(decide (x.2.1=y.2.1)&&(decide (x.2.2=y.2.2)&&true))):=by simp only[Z.decide_pair,Y8]
 rw[e];exact h
theorem eqagg_eql82 {x y:D81}{a:Act}{w:World}{dd:Option Tmp}{T ty:TypeId}{pos:String}{af:Array Edge}{gd:Option (Nat×Bool)}{X Y:Operand}(I:a.eval X=.agg #[.int .i64 x.1,.int .i64 x.2.1,.string x.2.2])(J:a.eval Y=.agg #[.int .i64 y.1,.int .i64 y.2.1,.string y.2.2]):(execOp a.eval ⟨dd,.binOp .eql 82 X Y ty,T,pos,af,gd⟩).run Tryz.prog w=.ok (.value (.bool (decide (x=y)))) w:=Z.r_eqagg (eqin82 9998) (by kernel_rfl) I J
theorem eqagg_neq82 {x y:D81}{a:Act}{w:World}{dd:Option Tmp}{T ty:TypeId}{pos:String}{af:Array Edge}{gd:Option (Nat×Bool)}{X Y:Operand}(I:a.eval X=.agg #[.int .i64 x.1,.int .i64 x.2.1,.string x.2.2])(J:a.eval Y=.agg #[.int .i64 y.1,.int .i64 y.2.1,.string y.2.2]):(execOp a.eval ⟨dd,.binOp .neq 82 X Y ty,T,pos,af,gd⟩).run Tryz.prog w=.ok (.value (.bool (decide (x≠y)))) w:=Z.r_neagg (eqin82 9998) (by kernel_rfl) I J
theorem eqin89 {x y:D88}(d:Nat):Z.EqV Tryz.prog (d+3) 89 (.agg #[.int .i64 x.1.1,.int .i64 x.1.2,.int .i64 x.2.1,.int .i64 x.2.2]) (.agg #[.int .i64 y.1.1,.int .i64 y.1.2,.int .i64 y.2.1,.int .i64 y.2.2]) (decide (x=y)):=by
 have h:Z.EqV Tryz.prog (d+3) 89 (.agg #[.int .i64 x.1.1,.int .i64 x.1.2,.int .i64 x.2.1,.int .i64 x.2.2]) (.agg #[.int .i64 y.1.1,.int .i64 y.1.2,.int .i64 y.2.1,.int .i64 y.2.2]) (decide (x.1=y.1)&&(decide (x.2=y.2)&&true)):=Z.eq_struct Tryz.underlying89 (by kernel_rfl) (Z.eqf_cons rfl (fun w=>Z.part_agg w Tryz.isAgg40 Tryz.sizeOf40 rfl) (fun w=>Z.part_agg w Tryz.isAgg40 Tryz.sizeOf40 rfl) (eqin40 (x:=x.1) (y:=y.1) d) (Z.eqf_cons rfl (fun w=>Z.part_agg w Tryz.isAgg40 Tryz.sizeOf40 rfl) (fun w=>Z.part_agg w Tryz.isAgg40 Tryz.sizeOf40 rfl) (eqin40 (x:=x.2) (y:=y.2) d) Z.eqf_nil))
 have e:decide (x=y)=(decide (x.1=y.1)&&(decide (x.2=y.2)&&true)):=by simp only[Z.decide_pair,Y8]
 rw[e];exact h
theorem eqagg_eql89 {x y:D88}{a:Act}{w:World}{dd:Option Tmp}{T ty:TypeId}{pos:String}{af:Array Edge}{gd:Option (Nat×Bool)}{X Y:Operand}(I:a.eval X=.agg #[.int .i64 x.1.1,.int .i64 x.1.2,.int .i64 x.2.1,.int .i64 x.2.2])(J:a.eval Y=.agg #[.int .i64 y.1.1,.int .i64 y.1.2,.int .i64 y.2.1,.int .i64 y.2.2]):(execOp a.eval ⟨dd,.binOp .eql 89 X Y ty,T,pos,af,gd⟩).run Tryz.prog w=.ok (.value (.bool (decide (x=y)))) w:=Z.r_eqagg (eqin89 9997) (by kernel_rfl) I J
theorem ky3:Z.Ky Tryz.prog 3 (fun i:Int=>.int .i64 i):=Z.Ky.mkInt Tryz.underlying3
theorem ky40:Z.Ky Tryz.prog 40 (fun x:D39=>.agg #[.int .i64 x.1,.int .i64 x.2]):=Z.Ky.mkAgg Tryz.underlying40 (fun _ _=>rfl) (fun _ _ _=>by kernel_rfl) (fun _ _=>eqin40 9998) (fun _=>by simp[Instr.sameBits,Z.bbeq])
theorem ky89:Z.Ky Tryz.prog 89 (fun x:D88=>.agg #[.int .i64 x.1.1,.int .i64 x.1.2,.int .i64 x.2.1,.int .i64 x.2.2]):=Z.Ky.mkAgg Tryz.underlying89 (fun _ _=>rfl) (fun _ _ _=>by kernel_rfl) (fun _ _=>eqin89 9997) (fun _=>by simp[Instr.sameBits,Z.bbeq])
end Go.Proofs.YtlbnpmfggfbdoaaGreatDoor
end
section
namespace Go.A
open Go.RowKit Go.Z
def Row (t:Ty)(w:World)(F G:Nat→Prop)(A:Option Addr)(c:Nat)(xs:List t.den):Prop:=
 xs.length≤c∧c≤maxLen∧∃cells:List Value,cells.length=xs.length*t.size∧
  (xs.length=0∨∃b o,A=some ⟨b,o,none⟩∧G b∧∀j u,cells[j]?=some u→w.cell? ⟨b,o+j,none⟩=some u)∧
  ∀(i:Nat) (x:t.den),xs[i]?=some x→t.rep w F ((cells.drop (i*t.size)).take t.size) x
section
variable {t:Ty}{w w':World}{F F' G G':Nat→Prop}{A:Option Addr}{c:Nat}{xs:List t.den}
theorem Row.of (h:(Ty.slice t).rep w F [.slice A xs.length c] xs):Row t w F F A c xs:=by
 obtain⟨A',c',cells,I,J,N,O,W,h6⟩:=h
 injection I with I;injection I with hA hn hc
 subst hA;subst hc
 exact⟨J,N,cells,O,W,h6⟩
theorem Row.to {S:List Nat}(h:Row t w F G A c xs)(N:Ch S w w')(hF: ∀b,F b→b<w.heap.size→b∉S∧F' b)(hG: ∀b,G b→b<w.heap.size→b∉S∧G' b):Row t w' F' G' A c xs:=by
 obtain⟨h2,h3,cells,O,J,h6⟩:=h
 refine⟨h2,h3,cells,O,?_,fun i x hi=>rep_to (h6 i x hi) N hF⟩
 by_cases W:xs.length=0
 ·exact .inl W
 ·rcases J with J|⟨b,o,hA,hb,hcell⟩
  ·exact absurd J W
  ·have h0:0<cells.length:=by rw[O];exact Nat.mul_pos (by omega) (Qal t)
   have I:=World.block_lt_of_cell? w _ (hcell 0 _ (Qd h0))
   obtain⟨h7,h8⟩:=hG b hb I
   exact .inr ⟨b,o,hA,h8,fun j u hu=>by rw[N.cell (p:=⟨b,o+j,none⟩) I h7];exact hcell j u hu⟩
theorem Row.own {e:TypeId}{B:Nat}(h:Own t e B w F A c xs)(hA: ∀k,k∈obl A→G k):Row t w F G A c xs:=by
 obtain⟨cells,hr,h1,h2⟩:=h
 have hl:cells.length=xs.length*t.size:=hr.1
 rcases hr.2 with⟨J,hn⟩|⟨g,cap,cur,J,hb,hg,N,O,hcs,htake⟩
 ·injection J with hA' _ W
  subst hA';subst W
  exact⟨by omega,by simp[maxLen],cells,hl,.inl hn,h2⟩
 ·injection J with hA' _ W
  subst hA';subst W
  refine⟨N,O,cells,hl,.inr ⟨g,0,rfl,hA g (by simp[obl]),fun j u I=>?_⟩,h2⟩
  rw[Wf,cell_of_row w g j cur e (0,0) hg]
  rw[←htake,Xe]at I
  split at I
  ·simpa using I
  ·cases I
theorem Row.at (h:Row t w F G A c xs){k:Nat}{x:t.den}(hk:xs[k]?=some x):
  ∃b o es,A=some ⟨b,o,none⟩∧G b∧b<w.heap.size∧Cells w ⟨b,o+k*t.size,none⟩ es∧t.rep w F es x:=by
 obtain⟨h2,h3,cells,W,O,h6⟩:=h
 have I:=(Qc.1 hk).1
 rcases O with O|⟨b,o,rfl,hb,hcell⟩
 ·omega
 ·have hs:=Qal t
  have J:k*t.size<cells.length:=by rw[W];exact Nat.mul_lt_mul_of_pos_right I hs
  refine⟨b,o,_,rfl,hb,World.block_lt_of_cell? w ⟨b,o+k*t.size,none⟩ (hcell (k*t.size) _ (Qd J)),fun j u N=>?_,h6 k _ hk⟩
  rw[Addr.add_lit]
  have hj:j<t.size:=by
   have:=(Qc.1 N).1
   simp only[Qu]at this
   omega
  rw[Qq hj,Wc]at N
  rw[Y7]
  exact hcell _ _ N
theorem Row.ok (h:Row t w F G A c xs): ∀x,x∈xs→t.ok x:=fun x I=>by
 obtain⟨i,hi,rfl⟩:=Xh I
 obtain⟨_,_,es,_,_,_,_,J⟩:=h.at (Qd hi)
 exact rep_ok t J
end
def Lst (w:World)(g b:Nat)(k v:Value):Prop:=
 ∃(since clock bo:Nat) (sb:Array Nat) (arr:List MapEntry) (e:MapEntry),w.heap[g]?=some (.mapIter (some b) since (sb.push bo) clock)∧w.heap[b]?=some (.map arr.toArray clock)∧arr.find? (fun x=>x.born==bo)=some e∧e.key=k∧e.val=v
theorem Lst.ch {w w':World}{g b:Nat}{k v:Value}{S:List Nat}(h:Lst w g b k v)(I:Ch S w w')(O:g∉S)(W:b∉S):Lst w' g b k v:=by
 obtain⟨since,clock,bo,sb,arr,e,J,N,h3⟩:=h
 exact⟨since,clock,bo,sb,arr,e,(I.block _ (Qo.1 J).1 O).trans J,(I.block _ (Qo.1 N).1 W).trans N,h3⟩
theorem Lst.run {P:Program}{w:World}{g b:Nat}{k v:Value}(h:Lst w g b k v):(Instr.entry (.pointer (some ⟨g,0,none⟩))).run P w=.ok (.tuple #[k,v]) w:=by
 obtain⟨since,clock,bo,sb,arr,e,I,J,N,rfl,rfl⟩:=h
 have O:(getObj g).run P w=.ok (.mapIter (some b) since (sb.push bo) clock) w:=by rw[getObj,Sem.run];simp only[I];rfl
 have W:(getObj b).run P w=.ok (.map arr.toArray clock) w:=by rw[getObj,Sem.run];simp only[J];rfl
 simp only[Instr.entry,Sem.run_bind,O,Result.andThen_ok,Array.back?_push,W,bne_self_eq_false,Qy,if_false,List.find?_toArray,N,Sem.run_pure]
def lv:Ty→Nat
 | .slice _=>1
 | .pair a b=>lv a+lv b
 |_=>0
abbrev Lf:=List (Option Addr×Nat)
def cl:(t:Ty)→t.den→Lf→List Value
 | .int k,x,_=>[.int k x]
 | .byte,x,_=>[.int .u8 (x.toNat:Int)]
 | .bool,x,_=>[.bool x]
 | .str,x,_=>[.string x]
 | .slice _,xs,p::_=>[.slice p.1 xs.length p.2]
 | .slice _,_,[]=>[]
 | .pair a b,x,ps=>cl a x.1 (ps.take (lv a))++cl b x.2 (ps.drop (lv a))
def rbl (As:List (Option Addr×Nat)):List Nat:=As.flatMap fun a=>obl a.1
def Mr {κ:Type}(enc:κ→Value)(t:Ty)(e:TypeId)(w:World)(F:Nat→Prop)(b:Nat)(As:List (Option Addr×Nat))(m:List (κ×List t.den)):Prop:=
 ∃es,MapC w b es∧es.length=m.length∧As.length=m.length∧(b::rbl As).Nodup∧(∀x,x∈rbl As→x<w.heap.size)∧
  ∀(i:Nat) (p:κ×List t.den) (a:Option Addr×Nat),m[i]?=some p→As[i]?=some a→es[i]?=some (enc p.1,.slice a.1 p.2.length a.2)∧Own t e 0 w F a.1 a.2 p.2
theorem Qba {As:List (Option Addr×Nat)}{i:Nat}{a:Option Addr×Nat}(h:As[i]?=some a){k:Nat}(hk:k∈obl a.1):k∈rbl As:=Xi.2 ⟨a,Qf h,hk⟩
theorem Mr.to {κ:Type}{enc:κ→Value}{t:Ty}{e:TypeId}{w w':World}{F F':Nat→Prop}{b:Nat}{As:List (Option Addr×Nat)}{m:List (κ×List t.den)}{S:List Nat}(h:Mr enc t e w F b As m)(I:Ch S w w')(J: ∀x,x∈b::rbl As→x∉S)(O: ∀b,F b→b<w.heap.size→b∉S∧F' b):Mr enc t e w' F' b As m:=by
 obtain⟨es,W,h2,h3,h4,h5,h6⟩:=h
 refine⟨es,W.ch I (J b (Qg ..)),h2,h3,h4,fun x hx=>Q4 (h5 x hx) I.size,fun i p a hp N=>?_⟩
 obtain⟨h7,h8⟩:=h6 i p a hp N
 exact⟨h7,Own.to h8 I (fun k hk _ _=>J k (Qe _ (Qba N hk))) O⟩
inductive Res:Type 1 where
 |dead
 |sh (t:Ty) (cs:List Value) (x:t.den)
 |ln (t:Ty) (A:Option Addr) (c:Nat) (xs:List t.den)
 |el (k:Option Nat) (b o:Nat) (cs:List Value)
 |own (t:Ty) (e:TypeId) (A:Option Addr) (c:Nat) (xs:List t.den)
 |blk (g:Nat) (e:TypeId) (cs:List Value)
 |mp (κ:Type) (enc:κ→Value) (t:Ty) (agg:Bool) (b:Nat) (m:List (κ×t.den))
 |mit (k g b n:Nat) (seen:List Nat) (last:Option (Value×Value))
 |si (g:Nat) (s:ByteArray) (p:Nat)
 |ob (g:Nat) (p:Obj→Prop)
 |lmp (κ:Type) (enc:κ→Value) (t:Ty) (agg:Bool) (b:Nat) (m:List (κ×t.den))
 |mr (κ:Type) (enc:κ→Value) (t:Ty) (e:TypeId) (b:Nat) (As:List (Option Addr×Nat)) (m:List (κ×List t.den))
 |gn (bs:List Nat) (p:World→(Nat→Prop)→Prop) (hp: ∀{w w':World} {F F':Nat→Prop} {S:List Nat},p w F→Ch S w w'→(∀b,b∈bs→b∉S)→(∀b,F b→b<w.heap.size→b∉S∧F' b)→p w' F')
def rs:(t:Ty)→t.den→Lf→List Res
 | .slice t,xs,p::_=>[.sh (.slice t) [.slice p.1 xs.length p.2] xs]
 | .pair a b,x,ps=>rs a x.1 (ps.take (lv a))++rs b x.2 (ps.drop (lv a))
 |_,_,_=>[]
def tele:Nat→(Lf→Prop)→Prop
 |0,K=>K []
 |n+1,K=>∀A c,tele n fun ps=>K ((A,c)::ps)
theorem Qam: ∀{n:Nat} {K:Lf→Prop},tele n K→∀ps:Lf,ps.length=n→K ps
 |0,_,h,[],_=>h
 |n+1,_,h,(A,c)::ps,I=>Qam (h A c) ps (by simpa using I)
def Res.bl:Res→List Nat
 | .own _ _ A _ _=>obl A
 | .blk g _ _=>[g]
 | .mp _ _ _ _ b _=>[b]
 | .mit _ g _ _ _ _=>[g]
 | .si g _ _=>[g]
 | .ob g _=>[g]
 | .mr _ _ _ _ b As _=>b::rbl As
 | .gn bs _ _=>bs
 |_=>[]
def Res.ref:Res→Option Nat
 | .el k _ _ _=>k
 | .mit k _ _ _ _ _=>some k
 |_=>none
def Res.holds (w:World)(F:Nat→Prop)(B:Nat→Nat→Prop):Res→Prop
 | .dead=>True
 | .sh t cs x=>t.rep w F cs x
 | .ln t A c xs=>Row t w F (fun b=>∀k,¬B k b) A c xs
 | .el k b o cs=>Cells w ⟨b,o,none⟩ cs∧b<w.heap.size∧match k with
  |none=>∀k,¬B k b
  |some k=>B k b
 | .own t e A c xs=>Own t e 0 w F A c xs
 | .blk g e cs=>Blk w g e cs
 | .mp _ enc t agg b m=>Mt enc t agg w F b m
 | .mit k g b n seen last=>Rg w g b n seen∧B k b∧∀kv,last=some kv→Lst w g b kv.1 kv.2
 | .si g s p=>Si w g s p
 | .ob g p=>∃o,w.heap[g]?=some o∧p o
 | .lmp _ enc t agg b m=>Mt enc t agg w F b m∧∀k,¬B k b
 | .mr _ enc t e b As m=>Mr enc t e w F b As m
 | .gn _ p _=>p w F
theorem Res.to {r:Res}{w w':World}{F F':Nat→Prop}{B B':Nat→Nat→Prop}{S:List Nat}(h:r.holds w F B)(I:Ch S w w')(W: ∀b,F b→b<w.heap.size→b∉S∧F' b)
  (hG: ∀b,(∀k,¬B k b)→b<w.heap.size→b∉S∧∀k,¬B' k b) (hB: ∀k b,r.ref=some k→B k b→b∉S∧B' k b) (J: ∀b,b∈r.bl→b∉S):r.holds w' F' B':=by
 cases r with
 |dead=>trivial
 |sh t cs x=>exact rep_to h I W
 |ln t A c xs=>exact Row.to h I W hG
 |el k b o cs=>
  obtain⟨N,O,h3⟩:=h
  cases k with
  |none=>exact⟨N.ch I fun _=>(hG b h3 O).1,Q4 O I.size,(hG b h3 O).2⟩
  |some k=>exact⟨N.ch I fun _=>(hB k b rfl h3).1,Q4 O I.size,(hB k b rfl h3).2⟩
 |own t e A c xs=>exact Own.to h I (fun k hk _ _=>J k hk) W
 |blk g e cs=>exact Blk.ch h I (J g (by simp[Res.bl]))
 |mp κ enc t agg b m=>exact Mt.to h I (J b (by simp[Res.bl])) W
 |mit k g b n seen last=>exact⟨h.1.ch I (J g (by simp[Res.bl])) (hB k b rfl h.2.1).1,(hB k b rfl h.2.1).2,fun kv hkv=>(h.2.2 kv hkv).ch I (J g (by simp[Res.bl])) (hB k b rfl h.2.1).1⟩
 |si g s p=>exact h.ch I (J g (by simp[Res.bl]))
 |ob g p=>
  obtain⟨o,N,O⟩:=h
  exact⟨o,(I.block g (Qo.1 N).1 (J g (by simp[Res.bl]))).trans N,O⟩
 |lmp κ enc t agg b m=>
  obtain⟨N,O⟩:=h
  exact⟨Mt.to N I (hG b O N.lt).1 W,(hG b O N.lt).2⟩
 |mr κ enc t e b As m=>exact Mr.to h I J W
 |gn bs p hp=>exact hp h I J W
theorem rep_cl {w:World}{F:Nat→Prop}{B:Nat→Nat→Prop}: ∀(t:Ty) {cs:List Value} {x:t.den},t.rep w F cs x→∃ps:Lf,ps.length=lv t∧cs=cl t x ps∧∀r∈rs t x ps,r.holds w F B∧r.bl=[]∧r.ref=none
 | .int _,cs,x,h=>⟨[],rfl,h.1,by simp[rs]⟩
 | .byte,cs,x,h=>⟨[],rfl,h,by simp[rs]⟩
 | .bool,cs,x,h=>⟨[],rfl,h,by simp[rs]⟩
 | .str,cs,x,h=>⟨[],rfl,h.1,by simp[rs]⟩
 | .slice e,cs,x,h=>by
  have N:=h
  obtain⟨A,c,cells,J,_⟩:=h
  refine⟨[(A,c)],rfl,J,fun r I=>?_⟩
  simp only[rs,Qj]at I
  subst I
  exact⟨by rw[J]at N;exact N,rfl,rfl⟩
 | .pair a b,cs,x,h=>by
  obtain⟨ca,cb,J,O,W⟩:=h
  obtain⟨pa,a1,a2,a3⟩:=rep_cl (B:=B) a O
  obtain⟨pb,b1,b2,b3⟩:=rep_cl (B:=B) b W
  refine⟨pa++pb,by rw[Ql,a1,b1];rfl,?_,fun r I=>?_⟩
  ·simp only[cl,←a1,List.take_left,List.drop_left];rw[J,a2,b2]
  ·simp only[rs,←a1,List.take_left,List.drop_left,Qn]at I
   exact I.elim (a3 r) (b3 r)
def hk:List (Nat×Res)→Nat→Option Res
 | [],_=>none
 |(e,v)::r,d=>bif Nat.beq e d then some v else hk r d
theorem Qaa (d e:Nat)(v:Res)(H:List (Nat×Res)):hk ((d,v)::H) e=if d=e then some v else hk H e:=by
 unfold hk
 by_cases h:d=e
 ·subst h;simp
 ·have:Nat.beq d e=false:=by cases I:Nat.beq d e with
   |false=>rfl
   |true=>exact absurd (Wr I) h
  simp only[this,cond_false,if_neg h]
  cases H<;>rfl
def drp (k:Nat):List (Nat×Res)→List (Nat×Res)
 | []=>[]
 |(e,v)::r=>(e,match v.ref with
  |none=>v
  |some j=>bif Nat.beq j k then .dead else v)::drp k r
theorem Qbw (k:Nat): ∀(H:List (Nat×Res)) (e:Nat) (v:Res),hk (drp k H) e=some v→v=.dead∨(hk H e=some v∧v.ref≠some k)
 | [],e,v,h=>by cases h
 |(d,u)::r,e,v,h=>by
  unfold drp at h
  rw[Qaa]at h
  rw[Qaa]
  split at h
  ·rename_i I
   injection h with h
   cases J:u.ref with
   |none=>rw[J]at h;subst h;exact .inr ⟨by rw[if_pos I],by rw[J];simp⟩
   |some j=>
    rw[J]at h
    simp only[]at h
    cases O:Nat.beq j k with
    |true=>rw[O]at h;exact .inl h.symm
    |false=>
     rw[O]at h
     subst h
     refine .inr ⟨by rw[if_pos I];rfl,fun N=>?_⟩
     rw[show(bif false then Res.dead else u)=u from rfl,J]at N
     injection N with N
     subst N
     simp at O
  ·rename_i I
   rw[if_neg I]
   exact Qbw k r e v h
def Bk (H:List (Nat×Res))(k b:Nat):Prop:=∃r,hk H k=some r∧b∈r.bl
structure Cx where
 n:Nat
 ds:List Deferred
 w0:World
 S:List Nat
 F:Nat→Prop
def Fh (C:Cx)(H:List (Nat×Res))(b:Nat):Prop:=(∀k,¬Bk H k b)∧(C.F b∨C.w0.heap.size≤b∨b∈C.S)
structure Hp (C:Cx) (H:List (Nat×Res)) (w:World):Prop where
 ch:Ch C.S C.w0 w
 hold: ∀k r,hk H k=some r→r.holds w (Fh C H) (Bk H)
 bnd: ∀k b,Bk H k b→(C.w0.heap.size≤b∨b∈C.S)∧b<w.heap.size
 dis: ∀k k' b,Bk H k b→Bk H k' b→k=k'
 ref: ∀k r j,hk H k=some r→r.ref=some j→j≠k∧∀r',hk H j=some r'→r'.ref=none
section
variable {C:Cx}{H:List (Nat×Res)}{w w':World}{k:Nat}{r':Res}{S:List Nat}
theorem Hp.upd (h:Hp C H w)(hc:Ch S w w')(hS: ∀b,b∈S→Bk H k b)(W: ∀b,b∈r'.bl→Bk H k b∨(w.heap.size≤b∧b<w'.heap.size))(hrf: ∀j,r'.ref=some j→j≠k∧∀r,hk H j=some r→r.ref=none)
  (hr: ∀(F:Nat→Prop) (B:Nat→Nat→Prop),(∀b,Fh C H b→b<w.heap.size→F b)→(∀b,(∃r,hk H k=some r∧b∈r.bl)→b∉r'.bl→F b)→(∀b,(∀k,¬Bk H k b)→b<w.heap.size→∀k,¬B k b)→(∀j b,r'.ref=some j→Bk H j b→B j b)→(∀b,b∈r'.bl→B k b)→r'.holds w' F B)
  :Hp C ((k,r')::drp k H) w':=by
 have hbk: ∀j b,j≠k→Bk ((k,r')::drp k H) j b→Bk H j b:=fun j b J ⟨r,O,N⟩=>by
  rw[Qaa,if_neg (Ne.symm J)]at O
  rcases Qbw k H j r O with rfl|⟨h3,_⟩
  ·cases N
  ·exact⟨r,h3,N⟩
 have drp_keep: ∀(H:List (Nat×Res)) (j:Nat) (r:Res),hk H j=some r→r.ref≠some k→hk (drp k H) j=some r:=by
  intro H
  induction H with
  |nil=>intro j r O;cases O
  |cons p q ih=>
   obtain⟨d,u⟩:=p
   intro j r O N
   unfold drp
   rw[Qaa]at O ⊢
   by_cases hd:d=j
   ·rw[if_pos hd]at O ⊢
    injection O with O
    subst O
    cases hu:u.ref with
    |none=>rfl
    |some i=>
     simp only[]
     have:Nat.beq i k=false:=by cases W:Nat.beq i k with
      |false=>rfl
      |true=>exact absurd (by rw[hu,Wr W]) N
     rw[this];rfl
   ·rw[if_neg hd]at O ⊢
    exact ih j r O N
 have hkp: ∀j b,j≠k→(∀r,hk H j=some r→r.ref=none)→Bk H j b→Bk ((k,r')::drp k H) j b:=fun j b J hn ⟨r,O,N⟩=>
  ⟨r,by rw[Qaa,if_neg (Ne.symm J)];exact drp_keep H j r O (by rw[hn r O];simp),N⟩
 have hk0: ∀b,Bk ((k,r')::drp k H) k b↔b∈r'.bl:=fun b=>⟨fun⟨r,O,N⟩=>by rw[Qaa,if_pos rfl]at O;injection O with O;subst O;exact N,fun W=>⟨r',by rw[Qaa,if_pos rfl],W⟩⟩
 have hFh: ∀b,Fh C H b→b<w.heap.size→b∉S∧Fh C ((k,r')::drp k H) b:=fun b hf hl=>by
  refine⟨fun hS'=>hf.1 k (hS b hS'),⟨fun j J=>?_,hf.2⟩⟩
  by_cases I:j=k
  ·subst I
   rcases W b ((hk0 b).1 J)with N|N
   ·exact hf.1 j N
   ·omega
  ·exact hf.1 j (hbk j b I J)
 have hGh: ∀b,(∀k,¬Bk H k b)→b<w.heap.size→b∉S∧∀j,¬Bk ((k,r')::drp k H) j b:=fun b hb' hl=>by
  refine⟨fun hS'=>hb' k (hS b hS'),fun j J=>?_⟩
  by_cases I:j=k
  ·subst I
   rcases W b ((hk0 b).1 J)with N|N
   ·exact hb' j N
   ·omega
  ·exact hb' j (hbk j b I J)
 have hlt: ∀b,Bk H k b→b<w.heap.size:=fun b W=>(h.bnd k b W).2
 have bnd': ∀j b,Bk ((k,r')::drp k H) j b→(C.w0.heap.size≤b∨b∈C.S)∧b<w'.heap.size:=fun j b J=>by
  by_cases I:j=k
  ·subst I
   rcases W b ((hk0 b).1 J)with N|N
   ·exact⟨(h.bnd j b N).1,Q4 (h.bnd j b N).2 hc.size⟩
   ·exact⟨.inl (Wh h.ch.size N.1),N.2⟩
  ·have:=h.bnd j b (hbk j b I J)
   exact⟨this.1,Q4 this.2 hc.size⟩
 refine⟨?_,fun j r J=>?_,bnd',fun j j' b J hj'=>?_,fun j r i J hri=>?_⟩
 ·have hch:=h.ch
  refine⟨hc.os.trans hch.os,hc.tape.trans hch.tape,hc.output.trans hch.output,Wh hch.size hc.size,fun b hb' hn=>?_⟩
  have hb2:b∉S:=fun hbS=>by
   rcases(h.bnd k b (hS b hbS)).1 with O|O
   ·omega
   ·exact hn O
  rw[hc.block b (Q4 hb' hch.size) hb2]
  exact hch.block b hb' hn
 ·rw[Qaa]at J
  by_cases I:k=j
  ·subst I
   rw[if_pos rfl]at J
   injection J with J
   subst J
   refine hr _ _ (fun b W hl=>(hFh b W hl).2) (fun b W hn=>⟨fun j J=>?_,?_⟩) (fun b W hl=>(hGh b W hl).2) (fun j b I J=>?_) (fun b W=>(hk0 b).2 W)
   ·by_cases I:j=k
    ·subst I;exact hn ((hk0 b).1 J)
    ·exact I (h.dis j k b (hbk j b I J) W)
   ·exact .inr (h.bnd k b W).1
   ·exact hkp j b (hrf j I).1 (hrf j I).2 J
  ·rw[if_neg I]at J
   rcases Qbw k H j r J with rfl|⟨h3,h4⟩
   ·trivial
   ·refine Res.to (h.hold j r h3) hc hFh hGh (fun i b hi hB=>?_) (fun b W hS'=>I (h.dis k j b (hS b hS') ⟨r,h3,W⟩))
    have hik:i≠k:=fun e=>h4 (by rw[hi,e])
    exact⟨fun hS'=>hik (h.dis i k b hB (hS b hS')),hkp i b hik (h.ref j r i h3 hi).2 hB⟩
 ·by_cases I:j=k<;>by_cases hjk':j'=k
  ·rw[I,hjk']
  ·subst I
   have N:=hbk j' b hjk' hj'
   rcases W b ((hk0 b).1 J)with O|O
   ·exact h.dis j j' b O N
   ·have:=(h.bnd j' b N).2;omega
  ·subst hjk'
   have N:=hbk j b I J
   rcases W b ((hk0 b).1 hj')with O|O
   ·exact h.dis j j' b N O
   ·have:=(h.bnd j b N).2;omega
  ·exact h.dis j j' b (hbk j b I J) (hbk j' b hjk' hj')
 ·rw[Qaa]at J
  by_cases I:k=j
  ·subst I
   rw[if_pos rfl]at J
   injection J with J
   subst J
   refine⟨(hrf i hri).1,fun r2 N=>?_⟩
   rw[Qaa,if_neg (Ne.symm (hrf i hri).1)]at N
   rcases Qbw k H i r2 N with rfl|⟨h3,_⟩
   ·rfl
   ·exact(hrf i hri).2 r2 h3
  ·rw[if_neg I]at J
   rcases Qbw k H j r J with rfl|⟨h3,h4⟩
   ·cases hri
   ·obtain⟨h5,h6⟩:=h.ref j r i h3 hri
    have hik:k≠i:=fun e=>h4 (by rw[hri,e])
    refine⟨h5,fun r2 N=>?_⟩
    rw[Qaa,if_neg hik]at N
    rcases Qbw k H i r2 N with rfl|⟨h7,_⟩
    ·rfl
    ·exact h6 r2 h7
end
theorem Bk.cons_ne {H:List (Nat×Res)}{k j b:Nat}{r:Res}(h:j≠k):Bk ((k,r)::H) j b↔Bk H j b:=by
 unfold Bk;rw[Qaa,if_neg (Ne.symm h)]
theorem Bk.cons_eq {H:List (Nat×Res)}{k b:Nat}{r:Res}:Bk ((k,r)::H) k b↔b∈r.bl:=by
 unfold Bk;rw[Qaa,if_pos rfl]
 exact⟨fun⟨N,I,J⟩=>by injection I with I;subst I;exact J,fun h=>⟨r,rfl,h⟩⟩
theorem Hp.ext {C:Cx}{H H':List (Nat×Res)}{w:World}(h:Hp C H w)(e: ∀j,hk H' j=hk H j∨(hk H' j=some .dead∧hk H j=none)):Hp C H' w:=by
 have e0: ∀{j r},hk H' j=some r→r=.dead∨hk H j=some r:=fun {j r} N=>by
  rcases e j with J|⟨J,_⟩
  ·exact .inr (J▸N)
  ·rw[J]at N;injection N with N;exact .inl N.symm
 have e1:Bk H'=Bk H:=by
  funext k b
  refine propext ⟨fun⟨r,J,O⟩=>?_,fun⟨r,J,O⟩=>?_⟩
  ·rcases e0 J with rfl|I
   ·cases O
   ·exact⟨r,I,O⟩
  ·rcases e k with I|⟨_,I⟩
   ·exact⟨r,I.trans J,O⟩
   ·rw[I]at J;cases J
 have e2:Fh C H'=Fh C H:=by funext b;unfold Fh;rw[e1]
 refine⟨h.ch,fun k r hk=>?_,?_,?_,fun k r j hk W=>?_⟩
 ·rcases e0 hk with rfl|I
  ·trivial
  ·rw[e1,e2];exact h.hold k r I
 ·rw[e1];exact h.bnd
 ·rw[e1];exact h.dis
 ·rcases e0 hk with rfl|I
  ·cases W
  ·refine⟨(h.ref k r j I W).1,fun r' h4=>?_⟩
   rcases e0 h4 with rfl|h5
   ·rfl
   ·exact(h.ref k r j I W).2 r' h5
def ded:List Nat→List (Nat×Res)→List (Nat×Res)
 | [],H=>H
 |j::js,H=>(j,.dead)::ded js H
theorem Qgt {H:List (Nat×Res)}{j:Nat}: ∀{js:List Nat},hk (ded js H) j=bif js.any (Nat.beq j)then some .dead else hk H j
 | []=>rfl
 |i::js=>by
  show hk ((i,.dead)::ded js H) j=_
  rw[Qaa,Qgt,Xo]
  by_cases h:i=j
  ·subst h;simp
  ·have:Nat.beq j i=false:=by cases I:Nat.beq j i with
    |false=>rfl
    |true=>exact absurd (Wr I).symm h
   rw[if_neg h,this];rfl
def rin (ks:List Nat):Option Nat→Bool
 |none=>false
 |some i=>ks.any (Nat.beq i)
def hng (ks js:List Nat)(H:List (Nat×Res)):Bool:=
 js.all (fun j=>match hk H j with|some v=>rin ks v.ref|none=>true)&&H.all fun p=>bif rin ks p.2.ref then js.any (Nat.beq p.1)||(match hk H p.1 with|some v=> !(rin ks v.ref)|none=>true)else true
theorem hk_memb: ∀{H:List (Nat×Res)} {j:Nat} {v:Res},hk H j=some v→(j,v)∈H
 |(d,u)::H,j,v,h=>by
  rw[Qaa]at h
  split at h
  ·rename_i e;subst e;injection h with h;subst h;exact Qg ..
  ·exact Qe _ (hk_memb h)
theorem hng_at {ks js:List Nat}{H:List (Nat×Res)}(h:hng ks js H=true)(j:Nat):(bif js.any (Nat.beq j)then some Res.dead else hk H j)=((hk H j).map fun v=>bif rin ks v.ref then .dead else v)∨((bif js.any (Nat.beq j)then some Res.dead else hk H j)=some .dead∧((hk H j).map fun v=>bif rin ks v.ref then .dead else v)=none):=by
 simp only[hng,Qm,Qz]at h
 cases N:js.any (Nat.beq j)with
 |true=>
  obtain⟨i,hi,W⟩:=Ya.1 N
  have:=Wr W;subst this
  have I:=h.1 j hi
  cases J:hk H j with
  |none=>exact .inr ⟨rfl,rfl⟩
  |some v=>rw[J]at I;replace I:rin ks v.ref=true:=I;exact .inl (by simp[I])
 |false=>
  cases J:hk H j with
  |none=>exact .inl rfl
  |some v=>
   refine .inl ?_
   have I:=h.2 _ (hk_memb J)
   simp only[N,J,W6]at I
   cases O:rin ks v.ref with
   |false=>simp[O]
   |true=>rw[O]at I;cases I
theorem Qbv (k:Nat): ∀(H:List (Nat×Res)) (j:Nat),hk (drp k H) j=(hk H j).map fun v=>bif rin [k] v.ref then .dead else v
 | [],_=>rfl
 |(d,u)::H,j=>by
  unfold drp
  rw[Qaa,Qaa]
  by_cases I:d=j
  ·rw[if_pos I,if_pos I]
   cases J:u.ref with
   |none=>simp[J,rin]
   |some i=>cases N:Nat.beq i k<;>simp[J,rin]<;>simp at N<;>simp[N]
  ·rw[if_neg I,if_neg I];exact Qbv k H j
theorem Hp.dd {C:Cx}{H:List (Nat×Res)}{w:World}{k:Nat}{r:Res}{js:List Nat}(h:Hp C ((k,r)::drp k H) w)(I:hng [k] js H=true):Hp C ((k,r)::ded js H) w:=
 h.ext fun j=>by
  rw[Qaa,Qaa]
  by_cases h:k=j
  ·rw[if_pos h,if_pos h];exact .inl rfl
  ·rw[if_neg h,if_neg h,Qgt,Qbv];exact hng_at I j
theorem Hp.dd2 {C:Cx}{H:List (Nat×Res)}{w:World}{k k2:Nat}{r J:Res}{js:List Nat}(h:Hp C ((k2,J)::(k,r)::drp k H) w)(N:hng [k] js H=true):Hp C ((k2,J)::(k,r)::ded js H) w:=
 h.ext fun j=>by
  rw[Qaa,Qaa,Qaa,Qaa]
  by_cases I:k2=j
  ·rw[if_pos I,if_pos I];exact .inl rfl
  ·by_cases h:k=j
   ·rw[if_neg I,if_neg I,if_pos h,if_pos h];exact .inl rfl
   ·rw[if_neg I,if_neg I,if_neg h,if_neg h,Qgt,Qbv];exact hng_at N j
section
variable {C:Cx}{H:List (Nat×Res)}{w w':World}{k:Nat}{r':Res}
theorem Hp.noref (h:Hp C H w)(N:hk H k=none){j:Nat}{r:Res}(W:hk H j=some r):r.ref≠some k:=fun I=>by
 have O:=h.hold j r W
 cases r with
 |el i b o cs=>
  simp only[Res.ref]at I
  subst I
  obtain⟨_,_,r2,J,_⟩:=O
  rw[N]at J;cases J
 |mit i g b n seen la=>
  simp only[Res.ref,Qr]at I
  subst I
  obtain⟨_,⟨r2,J,_⟩,_⟩:=O
  rw[N]at J;cases J
 |_=>cases I
theorem Hp.new (h:Hp C H w)(h0:hk H k=none)(hc:Ch [] w w')(hb: ∀b,b∈r'.bl→w.heap.size≤b∧b<w'.heap.size)(hrf: ∀j,r'.ref=some j→∀r,hk H j=some r→r.ref=none)
  (hr: ∀(F:Nat→Prop) (B:Nat→Nat→Prop),(∀b,Fh C H b→b<w.heap.size→F b)→(∀b,(∀k,¬Bk H k b)→b<w.heap.size→∀k,¬B k b)→(∀j b,Bk H j b→B j b)→r'.holds w' F B):Hp C ((k,r')::H) w':=by
 have hkn: ∀j b,Bk H j b→j≠k:=fun j b ⟨r,J,_⟩ e=>by subst e;rw[h0]at J;cases J
 have hup: ∀j b,Bk H j b→Bk ((k,r')::H) j b:=fun j b I=>(Bk.cons_ne (hkn j b I)).2 I
 have hcase: ∀j b,Bk ((k,r')::H) j b→(j=k∧w.heap.size≤b∧b<w'.heap.size)∨(j≠k∧Bk H j b):=fun j b I=>by
  by_cases hjk:j=k
  ·subst hjk;exact .inl ⟨rfl,hb b (Bk.cons_eq.1 I)⟩
  ·exact .inr ⟨hjk,(Bk.cons_ne hjk).1 I⟩
 have hnb: ∀b,(∀k,¬Bk H k b)→b<w.heap.size→∀j,¬Bk ((k,r')::H) j b:=fun b hb' hl j I=>by
  rcases hcase j b I with⟨_,J,_⟩|⟨_,J⟩
  ·omega
  ·exact hb' j J
 refine⟨?_,fun j r I=>?_,fun j b I=>?_,fun j j' b I hj'=>?_,fun j r i I N=>?_⟩
 ·have W:=h.ch
  exact⟨hc.os.trans W.os,hc.tape.trans W.tape,hc.output.trans W.output,Wh W.size hc.size,fun b hb' hn=>by rw[hc.block b (Q4 hb' W.size) (by simp)];exact W.block b hb' hn⟩
 ·rw[Qaa]at I
  split at I
  ·injection I with I;subst I
   exact hr _ _ (fun b hF hl=>⟨hnb b hF.1 hl,hF.2⟩) hnb hup
  ·exact Res.to (h.hold j r I) hc (fun b hF hl=>⟨by simp,hnb b hF.1 hl,hF.2⟩) (fun b hB hl=>⟨by simp,hnb b hB hl⟩) (fun i b _ hB=>⟨by simp,hup i b hB⟩) (by simp)
 ·rcases hcase j b I with⟨_,J,O⟩|⟨_,J⟩
  ·exact⟨.inl (Wh h.ch.size J),O⟩
  ·exact⟨(h.bnd j b J).1,Q4 (h.bnd j b J).2 hc.size⟩
 ·rcases hcase j b I with⟨J,O,_⟩|⟨_,J⟩<;>rcases hcase j' b hj' with⟨h3,h4,_⟩|⟨_,h3⟩
  ·rw[J,h3]
  ·have:=(h.bnd j' b h3).2;omega
  ·have:=(h.bnd j b J).2;omega
  ·exact h.dis j j' b J h3
 ·rw[Qaa]at I
  have hvis: ∀i r2,hk ((k,r')::H) i=some r2→i≠k→hk H i=some r2:=fun i r2 O hne=>by rwa[Qaa,if_neg (Ne.symm hne)]at O
  split at I
  ·injection I with I;subst I
   have hik:i≠k:=fun e=>by
    subst e
    have J:=hr (fun b=>Fh C H b∧b<w.heap.size) (Bk H) (fun b J O=>⟨J,O⟩) (fun b hB _=>hB) (fun j b I=>I)
    cases r' with
    |el i' b o cs=>
     simp only[Res.ref]at N
     subst N
     obtain⟨_,_,r2,O,_⟩:=J
     rw[h0]at O;cases O
    |mit i' g b n seen la=>
     simp only[Res.ref,Qr]at N
     subst N
     obtain⟨_,⟨r2,O,_⟩,_⟩:=J
     rw[h0]at O;cases O
    |_=>cases N
   rename_i hkj
   exact⟨fun e=>hik (e.trans hkj.symm),fun r2 O=>hrf i N r2 (hvis i r2 O hik)⟩
  ·obtain⟨h5,h6⟩:=h.ref j r i I N
   have hik:i≠k:=fun e=>h.noref h0 I (by rw[N,e])
   exact⟨h5,fun r2 O=>h6 r2 (hvis i r2 O hik)⟩
theorem Hp.add (h:Hp C H w)(O:hk H k=none)(W:r'.bl=[])(I: ∀j,r'.ref=some j→∀r,hk H j=some r→r.ref=none)
  (hr:r'.holds w (fun b=>Fh C H b∧b<w.heap.size) (Bk H)):Hp C ((k,r')::H) w:=
 h.new O (Ch.refl w) (by rw[W];simp) I fun F B h1 h2 h3=>Res.to hr (S:=[]) (Ch.refl w) (fun b N _=>⟨by simp,h1 b N.1 N.2⟩) (fun b J hl=>⟨by simp,h2 b J hl⟩) (fun i b _ J=>⟨by simp,h3 i b J⟩) (by simp)
end
def kx:Nat→List Res→List (Nat×Res)
 |_,[]=>[]
 |k,r::rs=>(k,r)::kx (k+1) rs
def hcat:List (Nat×Res)→List (Nat×Res)→List (Nat×Res)
 | [],H=>H
 |p::r,H=>p::hcat r H
def nok (H:List (Nat×Res)):Nat→Nat→Bool
 |_,0=>true
 |k,n+1=>(match hk H k with|none=>true|some _=>false)&&nok H (k+1) n
theorem Qat {H:List (Nat×Res)}: ∀{n k j:Nat},nok H k n=true→k≤j→j<k+n→hk H j=none
 |0,k,j,_,I,J=>by omega
 |n+1,k,j,h,I,J=>by
  simp only[nok,Qm]at h
  rcases Y4 k j with N|O
  ·exact Qat h.2 (by omega) (by omega)
  ·have:k=j:=by omega
   subst this
   cases W:hk H k with
   |none=>rfl
   |some r=>rw[W]at h;exact absurd h.1 (by simp)
theorem hk_kx: ∀(rs:List Res) (k j:Nat) (H:List (Nat×Res)),j<k→hk (hcat (kx k rs) H) j=hk H j
 | [],_,_,_,_=>rfl
 |r::rs,k,j,H,h=>by
  show hk ((k,r)::hcat (kx (k+1) rs) H) j=_
  rw[Qaa,if_neg (by omega)]
  exact hk_kx rs (k+1) j H (by omega)
theorem Hp.adds {C:Cx}{w:World}: ∀{rs:List Res} {k:Nat} {H:List (Nat×Res)},Hp C H w→nok H k rs.length=true→(∀r,r∈rs→r.bl=[]∧r.ref=none∧r.holds w (fun b=>Fh C H b∧b<w.heap.size) (Bk H))→Hp C (hcat (kx k rs) H) w
 | [],_,_,h,_,_=>h
 |r::rs,k,H,h,J,N=>by
  have h1:Hp C (hcat (kx (k+1) rs) H) w:=Hp.adds h (by simp only[Qi,nok,Qm]at J;exact J.2) fun O I=>N O (Qe _ I)
  obtain⟨I,h3,h4⟩:=N r (Qg ..)
  have hb: ∀(rs:List Res) (k:Nat),(∀r,r∈rs→r.bl=[])→nok H k rs.length=true→∀j b,Bk (hcat (kx k rs) H) j b↔Bk H j b:=by
   intro rs
   induction rs with
   |nil=>intro k _ _ j b;exact Iff.rfl
   |cons r rs ih=>
    intro k N J j b
    show Bk ((k,r)::hcat (kx (k+1) rs) H) j b↔_
    have hn2:nok H (k+1) rs.length=true:=by simp only[Qi,nok,Qm]at J;exact J.2
    have hh:hk H k=none:=Qat J (Q1 k) (by simp)
    by_cases hjk:j=k
    ·subst hjk
     rw[Bk.cons_eq,N r (Qg ..)]
     exact⟨fun h=>by simp at h,fun⟨O,I,_⟩=>by rw[hh]at I;cases I⟩
    ·rw[Bk.cons_ne hjk];exact ih (k+1) (fun O I=>N O (Qe _ I)) hn2 j b
  have hb':=hb rs (k+1) (fun O I=>(N O (Qe _ I)).1) (by simp only[Qi,nok,Qm]at J;exact J.2)
  have hF: ∀b,Fh C H b→Fh C (hcat (kx (k+1) rs) H) b:=fun b hF=>⟨fun j W=>hF.1 j ((hb' j b).1 W),hF.2⟩
  refine h1.add ?_ I (fun j W=>by rw[h3]at W;cases W) ?_
  ·rw[hk_kx rs (k+1) k H (by omega)];exact Qat J (Q1 k) (by simp)
  ·exact Res.to h4 (S:=[]) (Ch.refl w) (fun b h _=>⟨by simp,hF b h.1,h.2⟩) (fun b h _=>⟨by simp,fun j W=>h j ((hb' j b).1 W)⟩) (fun i b _ h=>⟨by simp,(hb' i b).2 h⟩) (by simp)
def rok (ks:List Nat):Option Nat→Bool
 |none=>true
 |some j=>ks.any (Nat.beq j)
def kpH (H:List (Nat×Res))(all:List Nat):List Nat→List (Nat×Res)
 | []=>[]
 |k::ks=>match hk H k with
  |some r=>bif rok all r.ref then(k,r)::kpH H all ks else kpH H all ks
  |none=>kpH H all ks
theorem Qcs {H:List (Nat×Res)}{all:List Nat}: ∀{ks:List Nat} {k:Nat} {r:Res},hk (kpH H all ks) k=some r→hk H k=some r∧rok all r.ref=true∧k∈ks
 | [],k,r,h=>by cases h
 |j::ks,k,r,h=>by
  unfold kpH at h
  cases O:hk H j with
  |none=>rw[O]at h;obtain⟨I,J,N⟩:=Qcs h;exact⟨I,J,Qe _ N⟩
  |some u=>
   rw[O]at h
   simp only[]at h
   cases W:rok all u.ref with
   |false=>rw[W]at h;obtain⟨I,J,N⟩:=Qcs (show hk (kpH H all ks) k=some r from h);exact⟨I,J,Qe _ N⟩
   |true=>
    rw[W]at h
    replace h:hk ((j,u)::kpH H all ks) k=some r:=h
    rw[Qaa]at h
    split at h
    ·rename_i hjk;subst hjk;have h:=Qp h;subst h;exact⟨O,W,Qg ..⟩
    ·obtain⟨I,J,N⟩:=Qcs h;exact⟨I,J,Qe _ N⟩
theorem Qby {H:List (Nat×Res)}{all:List Nat}: ∀{ks:List Nat} {k:Nat} {r:Res},hk H k=some r→rok all r.ref=true→k∈ks→hk (kpH H all ks) k=some r
 | [],_,_,_,_,h=>by cases h
 |j::ks,k,r,h,J,N=>by
  unfold kpH
  by_cases I:j=k
  ·subst I
   rw[h]
   simp only[J]
   show hk ((j,r)::_) j=_
   rw[Qaa,if_pos rfl]
  ·have hm':k∈ks:=(Qk.1 N).resolve_left (Ne.symm I)
   cases O:hk H j with
   |none=>exact Qby h J hm'
   |some u=>
    simp only[]
    cases rok all u.ref with
    |false=>exact Qby h J hm'
    |true=>
     show hk ((j,u)::_) k=_
     rw[Qaa,if_neg I]
     exact Qby h J hm'
theorem Hp.keep {C:Cx}{H:List (Nat×Res)}{w:World}(h:Hp C H w)(ks:List Nat):Hp C (kpH H ks ks) w:=by
 have N: ∀j b,Bk (kpH H ks ks) j b→Bk H j b:=fun j b ⟨r,J,I⟩=>⟨r,(Qcs J).1,I⟩
 refine⟨h.ch,fun k r O=>?_,fun k b hb1=>h.bnd k b (N k b hb1),fun k k' b J I=>h.dis k k' b (N _ _ J) (N _ _ I),fun k r j O hr=>?_⟩
 ·obtain⟨J,I,h3⟩:=Qcs O
  refine Res.to (h.hold k r J) (S:=[]) (Ch.refl w) (fun b hF _=>⟨by simp,fun j hj=>hF.1 j (N j b hj),hF.2⟩) (fun b hB _=>⟨by simp,fun j hj=>hB j (N j b hj)⟩) (fun i b hi hB=>⟨by simp,?_⟩) (by simp)
  obtain⟨W,h4,h5⟩:=hB
  have h6:=(h.ref k r i J hi).2 W h4
  refine⟨W,Qby h4 (by rw[h6];rfl) ?_,h5⟩
  rw[hi]at I
  simp only[rok,Ya]at I
  obtain⟨x,hx,N⟩:=I
  rw[Wr N];exact hx
 ·obtain⟨J,_,_⟩:=Qcs O
  obtain⟨I,h3⟩:=h.ref k r j J hr
  exact⟨I,fun W h4=>h3 W (Qcs h4).1⟩
theorem Hp.cov {C:Cx}{H H':List (Nat×Res)}{w:World}(h:Hp C H w)(ks:List Nat)(e:kpH H ks ks=H'):Hp C H' w:=e▸h.keep ks
def ren (H:List (Nat×Res)):List (Nat×Nat)→List (Nat×Res)
 | []=>[]
 |(i,k)::ks=>match hk H k with
  |some r=>match r.ref with
   |none=>(i,r)::ren H ks
   |some _=>ren H ks
  |none=>ren H ks
theorem hk_ren {H:List (Nat×Res)}: ∀{ps:List (Nat×Nat)} {i:Nat} {r:Res},hk (ren H ps) i=some r→∃k,(i,k)∈ps∧hk H k=some r∧r.ref=none
 | [],i,r,h=>by cases h
 |(j,k)::ps,i,r,h=>by
  unfold ren at h
  have step:hk (ren H ps) i=some r→∃k',(i,k')∈(j,k)::ps∧hk H k'=some r∧r.ref=none:=fun h=>by
   obtain⟨k',O,W⟩:=hk_ren h;exact⟨k',Qe _ O,W⟩
  cases I:hk H k with
  |none=>rw[I]at h;exact step h
  |some u=>
   rw[I]at h
   simp only[]at h
   cases J:u.ref with
   |some _=>rw[J]at h;exact step h
   |none=>
    rw[J]at h
    replace h:hk ((j,u)::ren H ps) i=some r:=h
    rw[Qaa]at h
    split at h
    ·rename_i N;subst N;injection h with h;subst h;exact⟨k,Qg ..,I,J⟩
    ·exact step h
def nod:List Nat→Bool
 | []=>true
 |k::ks=> !(ks.any (Nat.beq k))&&nod ks
theorem Qjc {α:Type}{f g:α→Nat}: ∀{l:List α},nod (l.map f)=true→∀x y,x∈l→y∈l→f x=f y→g x=g y
 | [],_,x,_,hx,_,_=>by cases hx
 |a::l,h,x,y,hx,hy,e=>by
  simp only[Q3,nod,Qm,Xs,List.any_map]at h
  have I: ∀z∈l,f a≠f z:=fun z hz e=>by
   have:=h.1
   rw[X1]at this
   exact this z hz (by simp[Function.comp,e])
  rcases Qk.1 hx with J|N<;>rcases Qk.1 hy with O|W
  ·rw[J,O]
  ·subst J;exact absurd e (I y W)
  ·subst O;exact absurd e.symm (I x N)
  ·exact Qjc h.2 x y N W e
theorem Hp.ren {C:Cx}{H:List (Nat×Res)}{w:World}(h:Hp C H w)(ps:List (Nat×Nat))(h1:nod (ps.map (·.1))=true)(h2:nod (ps.map (·.2))=true):Hp C (ren H ps) w:=by
 have hb: ∀i b,Bk (A.ren H ps) i b→∃k,(i,k)∈ps∧Bk H k b:=fun i b ⟨r,O,I⟩=>by
  obtain⟨k,J,h6,_⟩:=hk_ren O;exact⟨k,J,r,h6,I⟩
 have W: ∀b,(∀k,¬Bk H k b)→∀k,¬Bk (A.ren H ps) k b:=fun b hB j hj=>by obtain⟨k,_,I⟩:=hb j b hj;exact hB k I
 refine⟨h.ch,fun k r N=>?_,fun k b hb1=>by obtain⟨j,_,O⟩:=hb k b hb1;exact h.bnd j b O,fun k k' b O I=>?_,fun k r j N hr=>?_⟩
 ·obtain⟨j,O,I,J⟩:=hk_ren N
  exact Res.to (h.hold j r I) (S:=[]) (Ch.refl w) (fun b hF _=>⟨by simp,W b hF.1,hF.2⟩) (fun b hB _=>⟨by simp,W b hB⟩) (fun i b hi hB=>by rw[J]at hi;cases hi) (by simp)
 ·obtain⟨j,J,h6⟩:=hb k b O
  obtain⟨j',h7,h8⟩:=hb k' b I
  exact Qjc (f:=fun p:Nat×Nat=>p.2) (g:=fun p:Nat×Nat=>p.1) h2 (k,j) (k',j') J h7 (h.dis j j' b h6 h8)
 ·obtain⟨_,_,_,J⟩:=hk_ren N;rw[J]at hr;cases hr
inductive Kx where
 |c (y:Code)
 |b (id:Nat)
 |m (M:Act→World→Prop)
 |s
def kont (r:Option Nat)(P:Program)(Y:Exit→Act→World→Prop):List Kx→Exit→Act→World→Prop
 | [],e,a,w=>Y e a w
 | .c y::K,.normal,a,w=>WP r P y (kont r P Y K) a w
 | .m M::_,.normal,a,w=>M a w
 | .b _::K,.normal,a,w=>kont r P Y K .normal a w
 | .s::_,.goto _,_,_=>False
 | .b id::K,.exit i,a,w=>if i=id then kont r P Y K .normal a w else kont r P Y K (.exit i) a w
 |_::K,e,a,w=>kont r P Y K e a w
section
variable {r:Option Nat}{P:Program}{Y:Exit→Act→World→Prop}{K:List Kx}{C:Cx}{l:List (Nat×Value)}{H:List (Nat×Res)}
abbrev AX (r:Option Nat) (P:Program) (Y:Exit→Act→World→Prop) (K:List Kx) (c:Code) (C:Cx) (l:List (Nat×Value)) (H:List (Nat×Res)):Prop:=∀a w,Fr a C.n C.ds l→Hp C H w→WP r P c (kont r P Y K) a w
abbrev AE (r:Option Nat) (P:Program) (Y:Exit→Act→World→Prop) (K:List Kx) (e:Exit) (C:Cx) (l:List (Nat×Value)) (H:List (Nat×Res)):Prop:=∀a w,Fr a C.n C.ds l→Hp C H w→kont r P Y K e a w
abbrev AL (r:Option Nat) (P:Program) (ops:Array Oper) (Q:Exit→Act→World→Prop) (rest:List Oper) (C:Cx) (l:List (Nat×Value)) (H:List (Nat×Res)):Prop:=∀a w,Fr a C.n C.ds l→Hp C H w→WL r P ops Q rest a w
theorem AX.seq {x y:Code}(h:AX r P Y (.c y::K) x C l H):AX r P Y K (.seq x y) C l H:=fun a w I J=>by
 refine wpIn_seq (wpIn_mono (h a w I J) fun e a w hq=>?_)
 cases e<;>exact hq
theorem AX.reg {id:Nat}{lo:List Oper}(h:AL r P lo.toArray (kont r P Y K) lo C l H):AX r P Y K (.region id lo.toArray false) C l H:=fun a w I J=>Z.reg (h a w I J)
theorem AL.done {ops:Array Oper}(h:AE r P Y K .normal C l H):AL r P ops (kont r P Y K) [] C l H:=fun a w I J=>Z.done (h a w I J)
theorem AE.c {y:Code}(h:AX r P Y K y C l H):AE r P Y (.c y::K) .normal C l H:=h
theorem AE.b {id:Nat}(h:AE r P Y K .normal C l H):AE r P Y (.b id::K) .normal C l H:=h
theorem AX.skip (h:AE r P Y K .normal C l H):AX r P Y K .skip C l H:=fun a w I J=>wpIn_skip (h a w I J)
theorem AX.block {id:Nat}{c:Code}(h:AX r P Y (.b id::K) c C l H):AX r P Y K (.block id c) C l H:=fun a w I J=>by
 refine wpIn_block (wpIn_mono (h a w I J) fun e a w hq=>?_)
 cases e<;>first|exact hq|skip
def popx (id:Nat):List Kx→Option (List Kx)
 | []=>none
 | .b i::K=>bif Nat.beq i id then some K else popx id K
 |_::K=>popx id K
theorem popx_spec {id:Nat}{a:Act}{w:World}: ∀{K K':List Kx},popx id K=some K'→kont r P Y K' .normal a w→kont r P Y K (.exit id) a w
 | [],_,h,_=>by cases h
 | .b i::K,K',h,hq=>by
  unfold popx at h
  show(if id=i then kont r P Y K .normal a w else kont r P Y K (.exit id) a w)
  cases I:Nat.beq i id with
  |true=>
   rw[I]at h
   have h:some K=some K':=h
   injection h with h;subst h
   rw[if_pos (Wr I).symm];exact hq
  |false=>
   rw[I]at h
   rw[if_neg (fun e=>by subst e;simp at I)]
   exact popx_spec h hq
 | .c y::K,K',h,hq=>popx_spec (K:=K) h hq
 | .m M::K,K',h,hq=>popx_spec (K:=K) h hq
 | .s::K,K',h,hq=>popx_spec (K:=K) h hq
theorem AX.exit {id:Nat}{K':List Kx}(e:popx id K=some K')(h:AE r P Y K' .normal C l H):AX r P Y K (.exit id) C l H:=fun a w I J=>wpIn_exit (popx_spec e (h a w I J))
theorem kont_ret {a:Act}{w:World}: ∀{K:List Kx},Y .ret a w→kont r P Y K .ret a w
 | [],h=>h
 | .b _::K,h=>kont_ret (K:=K) h
 | .c _::K,h=>kont_ret (K:=K) h
 | .m _::K,h=>kont_ret (K:=K) h
 | .s::K,h=>kont_ret (K:=K) h
theorem AX.ret0 (h: ∀a w,Fr a C.n C.ds l→Hp C H w→Y .ret a w):AX r P Y K .ret C l H:=fun a w I J=>wpIn_ret (kont_ret (h a w I J))
theorem AE.s (h:AE r P Y K .normal C l H):AE r P Y (.s::K) .normal C l H:=h
theorem AX.scope {c:Code}(h:AX none P Y (.s::K) c C l H):AX none P Y K (.scope c) C l H:=fun a w I J=>by
 refine wpIn_wide.2 (wp_scope_straight ?_)
 have:=wpIn_wide.1 (h a w I J)
 refine Code.wp_mono (fun e a w hq=>?_) this
 cases e<;>exact hq
theorem AX.label {i:Nat}(h:AE r P Y K .normal C l H):AX r P Y K (.label i) C l H:=fun a w I J=>wpIn_label (h a w I J)
theorem AX.cnd {ρ:Type}{A B R:Option ρ}{c:Operand}{x y:Code}{p:Prop}[Decidable p](N:ev l c=some (.bool (decide p)))(I:(if p then A else B)=R)(W:p→A=R→AX r P Y K x C l H)(he: ¬p→B=R→AX r P Y K y C l H):AX r P Y K (.cond c x y) C l H:=fun a w J O=>by
 by_cases hp:p
 ·rw[if_pos hp]at I;exact Z.condp J N (fun _=>W hp I a w J O) (fun h=>absurd hp h)
 ·rw[if_neg hp]at I;exact Z.condp J N (fun h=>absurd h hp) (fun _=>he hp I a w J O)
theorem AX.cnb {ρ:Type}{A B R:Option ρ}{c:Operand}{x y:Code}{b:Bool}(N:ev l c=some (.bool b))(I:(if b=true then A else B)=R)(W:b=true→A=R→AX r P Y K x C l H)(he:b=false→B=R→AX r P Y K y C l H):AX r P Y K (.cond c x y) C l H:=fun a w J O=>by
 cases b with
 |true=>rw[if_pos rfl]at I;exact Z.condt J N (W rfl I a w J O)
 |false=>rw[if_neg (by simp)]at I;exact Z.condf J N (he rfl I a w J O)
theorem AX.cnt {c:Operand}{x y:Code}(J:ev l c=some (.bool true))(N:AX r P Y K x C l H):AX r P Y K (.cond c x y) C l H:=fun a w I O=>Z.condt I J (N a w I O)
theorem AX.cnf {c:Operand}{x y:Code}(J:ev l c=some (.bool false))(N:AX r P Y K y C l H):AX r P Y K (.cond c x y) C l H:=fun a w I O=>Z.condf I J (N a w I O)
theorem Fr.cov {a:Act}{n:Nat}{ds:List Deferred}{l':List (Nat×Value)}(h:Fr a n ds l)(e:kp l (l'.map (·.1))=l'):Fr a n ds l':=e▸h.keep _
abbrev St (C:Cx) (l:List (Nat×Value)) (H:List (Nat×Res)) (ks hs:List Nat) (J:List (Nat×Value)→List (Nat×Res)→Prop):Act→World→Prop:=fun a w=>∃nl nh,J nl nh∧Fr a C.n C.ds (cat nl (kp l ks))∧Hp C (hcat nh (kpH H hs hs)) w
theorem AX.join (ks I:List Nat)(J:List (Nat×Value)→List (Nat×Res)→Prop){x y:Code}(h:AX r P Y (.m (St C l H ks I J)::K) x C l H)(N: ∀nl nh,J nl nh→AX r P Y K y C (cat nl (kp l ks)) (hcat nh (kpH H I I))):AX r P Y K (.seq x y) C l H:=fun a w O W=>by
 refine wpIn_seq (wpIn_mono (h a w O W) fun e a w hq=>?_)
 cases e with
 |normal=>obtain⟨nl,nh,hJ,hf',hh'⟩:=hq;exact N nl nh hJ a w hf' hh'
 |_=>exact hq
theorem AE.j {l':List (Nat×Value)}{H':List (Nat×Res)}{ks I:List Nat}{J:List (Nat×Value)→List (Nat×Res)→Prop}(gs:List Nat)(nl:List (Nat×Value))(nh:List (Nat×Res))(N:J nl nh)(O:kp l ((cat nl (kp l' ks)).map (·.1))=cat nl (kp l' ks):=by kernel_rfl)(W:kpH H gs gs=hcat nh (kpH H' I I):=by kernel_rfl):
  AE r P Y (.m (St C l' H' ks I J)::K) .normal C l H:=fun a w hf hh=>⟨nl,nh,N,Fr.cov hf O,hh.cov gs W⟩
theorem AX.loop (ks I gs:List Nat)(J:Nat→List (Nat×Value)→List (Nat×Res)→Prop)(m:Nat)(nl:List (Nat×Value))(nh:List (Nat×Res)){x:Code}(N:J m nl nh)
  (h: ∀f nl nh,J f nl nh→AX r P Y (.m (St C l H ks I fun nl nh=>∃f',f'<f∧J f' nl nh)::K) x C (cat nl (kp l ks)) (hcat nh (kpH H I I)))
  (h1:kp l ((cat nl (kp l ks)).map (·.1))=cat nl (kp l ks):=by kernel_rfl) (h2:kpH H gs gs=hcat nh (kpH H I I):=by kernel_rfl):AX r P Y K (.loop x) C l H:=fun a w O W=>by
 refine Z.loop (fun f a w=>St C l H ks I (J f) a w) m ⟨nl,nh,N,Fr.cov O h1,W.cov gs h2⟩ fun f a w ⟨nl,nh,N,O,W⟩=>?_
 refine wpIn_mono (h f nl nh N a w O W) fun e a w hq=>?_
 cases e with
 |normal=>obtain⟨nl,nh,⟨f',hlt,hJ'⟩,hf',hh'⟩:=hq;exact⟨f',hlt,nl,nh,hJ',hf',hh'⟩
 |_=>exact hq
end
end Go.A
end
