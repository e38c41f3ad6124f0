import Derived.OrdersHeld
import Derived.Laws.AppendOwn
import Derived.Laws.Entries
import Derived.Tactics
import Derived.Below
import Derived.RangeFuncIn
import Derived.TacticsIn
import Derived.LoopIn
import Derived.OrdersIn
import Derived.Maps.AppendAt
import Derived.Deep.Draws
import Derived.IntWalk
import Derived.Laws.Rows
import Derived.Laws.Strings
import Derived.Laws.StructEq
import Derived.Defers
import Derived.Lib.MakeNoZero
import Derived.Laws.Externs
import Derived.Laws.CopyOwn
import Derived.Lib.AppendStr
import Derived.Recover
import Derived.ChangeKeysEq
import Derived.Lib.ConvBytes
import Derived.KernelRfl
import Derived.Laws.Concat
import Derived.Test.YtlbdgahbamalcaaGreatDoorProg
import Derived.RangeFuncSeq
import Derived.RangeFuncBound
import Derived.Laws.MakeOwn
import Derived.Scope
set_option linter.unusedSimpArgs false
set_option synthInstance.maxSize 1000000
set_option synthInstance.maxHeartbeats 400000
set_option linter.unusedVariables false
set_option linter.defProp false
def Qa:=@Option.bind_some
def Qb:=@List.getElem?_eq_some_iff
def Qc:=@Option.some.injEq
def Qd:=@if_neg
def Qe:=@Bool.and_eq_true
def Qf:=@List.mem_cons_of_mem
def Qg:=@List.mem_cons_self
def Qh:=@List.getElem?_eq_getElem
def Qi:=@Nat.le_of_ble_eq_true
def Qj:=@if_pos
def Qk:=@List.mem_cons
def Ql:=@Nat.eq_of_beq_eq_true
def Qm:=@List.mem_singleton
def Qn:=@Nat.lt_succ_self
def Qo:=@Nat.le_refl
def Qp:=@Array.getElem?_eq_some_iff
def Qq:=@Nat.lt_of_lt_of_le
def Qr:=@Prod.mk.injEq
def Qs:=@List.getElem?_map
def Qt:=@List.mem_of_getElem?
def Qu:=@List.length_cons
def Qv:=@congrArg
def Qw:=@List.length_take
def Qx:=@List.all_eq_true
def Qy:=@List.mem_append_right
def Qz:=@List.map_cons
def Q0:=@List.mem_append
def Q1:=@Array.getD_eq_getD_getElem?
def Q2:=@List.getElem?_append_left
def Q3:=@Array.getElem?_eq_getElem
def Q4:=@Array.toArray_toList
def Q5:=@Nat.mul_le_mul_right
def Q6:=@List.getElem?_take_of_lt
def Q7:=@Option.map_some
def Q8:=@List.getElem?_drop
def Q9:=@List.getElem?_eq_none
def Wa:=@List.getElem?_modify
def Wb:=@List.length_map
def Wc:=@decide_eq_true
def Wd:=@Nat.le_trans
def We:=@List.getElem?_append_right
def Wf:=@of_decide_eq_true
def Wg:=@List.length_append
def Wh:=@Array.getElem?_toList
def Wi:=@List.pairwise_cons
def Wj:=@List.eq_nil_of_length_eq_zero
def Wl:=@List.getElem?_cons_zero
def Wm:=@Nat.zero_add
def Wn:=@List.mem_append_left
def Wo:=@Bool.false_eq_true
def Wp:=@List.ext_getElem?
def Wq:=@List.getElem?_take
def Wr:=@List.mem_iff_getElem?
def Ws:=@Option.some.inj
def Wt:=@Array.getElem?_append_left
def Wu:=@if_false
def Wv:=@List.nodup_cons
def Ww:=@List.length_nil
def Wx:=@List.mem_map
def Wy:=@List.length_drop
def Wz:=@List.nodup_append
def W5:=@List.map_append
def W6:=@Nat.add_mul
def W7:=@Array.getElem?_setIfInBounds_ne
def W8:=@List.append_nil
def W9:=@List.getElem?_toArray
def Xa:=@List.getElem?_cons_succ
def Xb:=@Nat.add_assoc
def Xc:=@decide_eq_false
def Xd:=@List.drop_eq_nil_of_le
def Xe:=@List.getElem_of_mem
def Xf:=@Option.map_eq_map
def Xg:=@Option.isSome_iff_exists
def Xh:=@Array.length_toList
def Xi:=@List.map_toArray
def Xj:=@List.take_of_length_le
def Xk:=@Int.toNat_of_nonneg
def Xl:=@Nat.zero_le
def Xm:=@Int.toNat_natCast
def Xn:=@Nat.le_succ_of_le
def Xo:=@List.drop_drop
def Xp:=@Nat.le_of_lt
def Xq:=@List.cons_append
def Xr:=@List.pairwise_singleton
def Xs:=@List.size_toArray
def Xt:=@Bool.not_eq_true'
def Xu:=@Nat.mod_two_eq_zero_or_one
def Xv:=@List.take_add_one
def Xw:=@decide_eq_true_eq
def Xx:=@List.mem_map_of_mem
def Xy:=@Nat.min_eq_left
def Xz:=@Bool.or_eq_true
def X0:=@List.length_set
def X2:=@List.drop_eq_getElem_cons
def X3:=@Array.getElem?_modify
def X4:=@Int.mul_le_mul_of_nonneg_right
def X5:=@decide_eq_true_iff
def X6:=@if_true
def X7:=@Nat.one_mul
def X8:=@List.cons.injEq
def X9:=@Array.getElem?_eq_none
def Ya:=@List.attach_map_subtype_val
def Yc:=@Array.toList_inj
def Yd:=@List.getD_eq_getElem?_getD
def Ye:=@Nat.add_comm
def Yf:=@Nat.div_lt_of_lt_mul
def Yg:=@Bool.or_eq_false_iff
def Yh:=@Array.toList_push
def Yi:=@Array.size_setIfInBounds
def Yj:=@Option.bind_none
def Yk:=@Nat.le_mul_of_pos_right
def Ym:=@Nat.mul_one
def Yn:=@Nat.lt_or_ge
def Yo:=@Nat.add_zero
def Yp:=@List.nil_append
def Yq:=@Bool.and_true
def Yr:=@Nat.ble_eq_true_of_le
def Ys:=@List.append_assoc
def Yt:=@List.any_eq_false
def Yu:=@Array.mk.injEq
def Yv:=@List.drop_zero
def Yw:=@List.mem_range
def Yx:=@List.getElem?_of_mem
def Yy:=@List.forall_mem_cons
def Yz:=@List.perm_ext_iff_of_nodup
def Y0:=@Nat.zero_mul
def Y1:=@List.map_map
def Y2:=@Option.getD_some
def Y3:=@Nat.beq_refl
def Y4:=@List.getElem?_eq_none_iff
def Y5:=@Array.filter_eq_empty_iff
def Y6:=@Classical.byContradiction
def Y7:=@List.pairwise_iff_getElem
def Y8:=@List.map_congr_left
def Y9:=@Bool.true_and
def Ja:=@Nat.mod_lt
def Jb:=@List.append_of_mem
def Jc:=@Array.extract_size
def Jd:=@Option.bind_eq_some_iff
def Je:=@Option.map_eq_some_iff
def Jf:=@List.getElem?_set_self
def Jg:=@Nat.mul_comm
def Jh:=@List.map_nil
def Ji:=@List.nodup_nil
def Jj:=@Int.mul_nonneg
def Jk:=@List.take_append_drop
def Jl:=@List.length_replicate
def Jm:=@List.getElem_map
def Jn:=@List.isEmpty_iff
def Jo:=@List.getElem_inj
def Jp:=@Nat.div_add_mod'
def Jq:=@List.any_cons
def Jr:=@Bool.false_or
def Js:=@List.all_cons
def Jt:=@Nat.succ_mul
section
namespace Go.Z
open Go.RowKit
def lk:List (Nat×Value)->Nat->Option Value
 | [],_=>none
 |(e,v)::r,d=>bif Nat.beq e d then some v else lk r d
def ev (l:List (Nat×Value)):Operand->Option Value
 | .tmp t=>lk l t
 | .const v=>some v
 | .global g=>some (.pointer (some ⟨g,0,none⟩))
 | .func f=>some (.func (.func f) #[] #[])
structure Fr (a:Act) (n:Nat) (ds:List Deferred) (l:List (Nat×Value)):Prop where
 size:a.tmps.size=n
 defs:a.defers=ds
 get: ∀d v,lk l d=some v->a.tmps[d]?=some v
theorem Qaf (l:List (Nat×Value))(d:Nat)(v:Value):lk ((d,v)::l) d=some v:=by simp[lk]
theorem Qae (l:List (Nat×Value)){d e:Nat}(v:Value)(h:e≠d):lk ((e,v)::l) d=lk l d:=by
 have:Nat.beq e d=false:=by cases hb:Nat.beq e d with
  |false=>rfl
  |true=>exact absurd (Ql hb) h
 simp[lk,this]
section
variable {a:Act}{n:Nat}{ds:List Deferred}{l:List (Nat×Value)}
theorem Fr.eval (h:Fr a n ds l){x:Operand}{v:Value}(hx:ev l x=some v):a.eval x=v:=by
 cases x with
 |tmp t=>
  have:=h.get t v hx
  simp[Act.eval,Q1,this]
 |const u=>injection hx
 |global g=>injection hx
 |func f=>injection hx
theorem Fr.put (h:Fr a n ds l){d:Nat}(hd:d<n)(v:Value):Fr (a.put (some d) v) n ds ((d,v)::l):=by
 refine⟨by simp[Act.put,h.size],h.defs,fun e u he=>?_⟩
 by_cases hed:d=e
 ·subst hed
  rw[Qaf]at he
  injection he with he
  subst he
  simp[Act.put,h.size,hd]
 ·rw[Qae _ _ hed]at he
  simp only[Act.put]
  rw[W7 hed]
  exact h.get e u he
theorem Fr.put_none (h:Fr a n ds l)(v:Value):Fr (a.put none v) n ds l:=h
def kp (l:List (Nat×Value)):List Nat->List (Nat×Value)
 | []=>[]
 |k::r=>match lk l k with
  |some v=>(k,v)::kp l r
  |none=>kp l r
theorem lk_kp (ks:List Nat)(d:Nat)(v:Value)(h:lk (kp l ks) d=some v):lk l d=some v:=by
 induction ks with
 |nil=>simp[kp,lk]at h
 |cons k r ih=>
  unfold kp at h
  cases hk:lk l k with
  |none=>rw[hk]at h;exact ih h
  |some u=>
   rw[hk]at h
   by_cases hkd:k=d
   ·subst hkd
    rw[Qaf]at h
    rw[hk];exact h
   ·exact ih (by rw[<-h];exact(Qae _ _ hkd).symm)
theorem Fr.keep (h:Fr a n ds l)(ks:List Nat):Fr a n ds (kp l ks):=⟨h.size,h.defs,fun d v hd=>h.get d v (lk_kp ks d v hd)⟩
theorem Fr.cons {l':List (Nat×Value)}{d:Nat}{v:Value}(h:Fr a n ds l)(h':Fr a n ds l')(e:lk l d=some v):Fr a n ds ((d,v)::l'):=by
 refine⟨h.size,h.defs,fun d' v' hd=>?_⟩
 by_cases hk:d=d'
 ·subst hk
  rw[Qaf]at hd
  injection hd with hd
  subst hd
  exact h.get _ _ e
 ·rw[Qae _ _ hk]at hd
  exact h'.get _ _ hd
end
def argl:List Value->Nat->List (Nat×Value)
 | [],_=>[]
 |v::r,k=>(k,v)::argl r (k+1)
theorem lk_argl (vs:List Value): ∀(k d:Nat) (v:Value),lk (argl vs k) d=some v->k<=d/\vs[d-k]?=some v:=by
 induction vs with
 |nil=>intro k d v h;simp[argl,lk]at h
 |cons u r ih=>
  intro k d v h
  unfold argl at h
  by_cases hkd:k=d
  ·subst hkd
   rw[Qaf]at h
   injection h with h
   subst h
   simp
  ·rw[Qae _ _ hkd]at h
   obtain⟨h1,h2⟩:=ih _ _ _ h
   refine⟨by omega,?_⟩
   have:d-k=(d-(k+1))+1:=by omega
   rw[this,Xa]
   exact h2
theorem Fr.entry (vs:List Value)(n:Nat)(hn:vs.length<=n):
  Fr {tmps:=vs.toArray++Array.replicate (n-vs.toArray.size) undef,defers:=[]} n [] (argl vs 0):=by
 refine⟨by simp;omega,rfl,fun d v h=>?_⟩
 obtain⟨_,h2⟩:=lk_argl vs 0 d v h
 have hd:d<vs.length:=by
  rcases Yn d vs.length with h'|h'
  ·exact h'
  ·rw[Q9 (by omega)]at h2;cases h2
 rw[Wt (by simpa using hd)]
 simpa using h2
abbrev FW (r:Option Nat):Fence:={Fence.wide with round:=r}
abbrev WP (r:Option Nat) (P:Program) (c:Code) (Q:Exit->Act->World->Prop) (a:Act) (w:World):Prop:=c.wpIn (FW r) 0 P Q a w
abbrev WL (r:Option Nat) (P:Program) (ops:Array Oper) (Q:Exit->Act->World->Prop) (l:List Oper) (a:Act) (w:World):Prop:=wpListIn (FW r) 0 P ops Q l a w
theorem callsFW {r:Option Nat}{n:Nat}{P:Program}{f:FuncId}{args:Array Value}{w:World}{R:Ending->World->Prop}(h:Calls P f args w R):CallsIn (FW r) n P f args w R:=by
 have h1:CallsIn Fence.wide n P f args w R:=callsIn_wide.2 h
 cases r with
 |none=>exact h1
 |some l=>exact h1
theorem Qdw {r:Option Nat}{P:Program}{ρ:Operand->Value}{o:Oper}{x:Next}{w w':World}(h:(execOp ρ o).run P w=.ok x w')(hx: ∀d,x≠ .defer d):(o.semAt r ρ).run P w=.ok x w':=by
 cases r with
 |none=>rw[Oper.semAt_none];exact h
 |some l=>
  rw[Oper.semAt_some]
  ·exact h
  ·intro c hc
   unfold execOp at h
   rw[hc]at h
   simp only[Sem.run_bind]at h
   cases hr:(resolve ρ c o.type).run P w with
   |ok d w1=>rw[hr]at h;simp only[Result.andThen_ok,Sem.run_pure]at h;injection h with h _;exact hx _ h.symm
   |halt y w1=>rw[hr]at h;simp[Result.andThen]at h
section
variable {r:Option Nat}{P:Program}{ops:Array Oper}{Q:Exit->Act->World->Prop}{a:Act}{w:World}{rest:List Oper}{n:Nat}{ds:List Deferred}{l:List (Nat×Value)}
theorem enter {f:FuncId}{fn:Func}{c:Code}{vs:List Value}{m:Nat}{R:Ending->World->Prop}(hf:P.funcs[f]?=some fn)(hb:fn.body=some c)(hn:fn.ntmps=m)(hm:vs.length<=m)
  (h: ∀a,Fr a m [] (argl vs 0)->WP none P c (bodyPost P fn R) a w):Calls P f vs.toArray w R:=by
 refine calls_of_wp hf hb (wpIn_wide.1 (h _ ?_))
 subst hn
 exact Fr.entry vs _ hm
theorem stepw {o:Oper}{x:Next}{w':World}(hg:o.guard=none)(hr:(execOp a.eval o).run P w=.ok x w')(hx: ∀d,x≠ .defer d)
  (h: ∀K:Act->World->Prop,(∀a w,WL r P ops Q rest a w->K a w)->o.uponIn (FW r) 0 P a K Q (.ok x w')):WL r P ops Q (o::rest) a w:=
 wpListIn_plain hg fun K hK=>⟨fun _ _=>trivial,by rw[Qdw hr hx];exact h K hK⟩
theorem valw {d:Nat}{op:Op}{T:TypeId}{pos:String}{af:Array Edge}{v:Value}{w':World}(hf:Fr a n ds l)(hd:Nat.ble (d+1) n=true)
  (hr:(execOp a.eval ⟨some d,op,T,pos,af,none⟩).run P w=.ok (.value v) w')
  (h: ∀a',Fr a' n ds ((d,v)::l)->WL r P ops Q rest a' w'):WL r P ops Q (⟨some d,op,T,pos,af,none⟩::rest) a w:=
 stepw rfl hr (fun _ h=>by cases h) fun _ hK=>hK _ _ (h _ (hf.put (Qi hd) v))
theorem val {d:Nat}{op:Op}{T:TypeId}{pos:String}{af:Array Edge}{v:Value}(hf:Fr a n ds l)(hd:Nat.ble (d+1) n=true)
  (hr:(execOp a.eval ⟨some d,op,T,pos,af,none⟩).run P w=.ok (.value v) w)
  (h: ∀a',Fr a' n ds ((d,v)::l)->WL r P ops Q rest a' w):WL r P ops Q (⟨some d,op,T,pos,af,none⟩::rest) a w:=valw hf hd hr h
theorem skipw {op:Op}{T:TypeId}{pos:String}{af:Array Edge}{w':World}(hf:Fr a n ds l)
  (hr:(execOp a.eval ⟨none,op,T,pos,af,none⟩).run P w=.ok .skip w')
  (h: ∀a',Fr a' n ds l->WL r P ops Q rest a' w'):WL r P ops Q (⟨none,op,T,pos,af,none⟩::rest) a w:=
 stepw rfl hr (fun _ h=>by cases h) fun _ hK=>hK _ _ (h _ hf)
theorem call {d:Nat}{op:Op}{T:TypeId}{pos:String}{af:Array Edge}{f:FuncId}{args:Array Value}{R:Ending->World->Prop}(hf:Fr a n ds l)(hd:Nat.ble (d+1) n=true)
  (hr:(execOp a.eval ⟨some d,op,T,pos,af,none⟩).run P w=.ok (.enter f args) w) (hc:Calls P f args w R)
  (h: ∀e w',R e w'->(∃v,e=.returned v/\∀a',Fr a' n ds ((d,v)::l)->WL r P ops Q rest a' w')\/(∃ch,e=.panicked ch/\Q (.panic ch) a w')):
  WL r P ops Q (⟨some d,op,T,pos,af,none⟩::rest) a w:=
 stepw rfl hr (fun _ h=>by cases h) fun _ hK=>⟨(fun h=>by cases h),(callsFW hc).mono fun e w' he=>by
  rcases h e w' he with⟨v,rfl,h⟩|⟨ch,rfl,h⟩
  ·exact hK _ _ (h _ (hf.put (Qi hd) v))
  ·exact h⟩
theorem call1 {d:Nat}{op:Op}{T:TypeId}{pos:String}{af:Array Edge}{f:FuncId}{args:Array Value}{R:Ending->World->Prop}(hf:Fr a n ds l)(hd:Nat.ble (d+1) n=true)
  (hr:(execOp a.eval ⟨some d,op,T,pos,af,none⟩).run P w=.ok (.enter f args) w) (hc:Calls P f args w R)
  (h: ∀e w',R e w'->∃v,e=.returned v/\∀a',Fr a' n ds ((d,v)::l)->WL r P ops Q rest a' w'):
  WL r P ops Q (⟨some d,op,T,pos,af,none⟩::rest) a w:=call hf hd hr hc fun e w' he=>.inl (h e w' he)
theorem defer {op:Op}{T:TypeId}{pos:String}{af:Array Edge}{dd:Deferred}(hf:Fr a n ds l)
  (hr:(execOp a.eval ⟨none,op,T,pos,af,none⟩).run P w=.ok (.defer dd) w)
  (h: ∀a',Fr a' n (dd::ds) l->WL none P ops Q rest a' w):WL none P ops Q (⟨none,op,T,pos,af,none⟩::rest) a w:=
 wpListIn_plain rfl fun K hK=>⟨fun _ _=>trivial,by
  show Oper.uponIn _ _ _ _ _ _ _ ((Oper.semAt none a.eval _).run P w)
  rw[Oper.semAt_none,hr]
  exact hK _ _ (h _ ⟨hf.size,by rw[<-hf.defs];rfl,hf.get⟩)⟩
theorem on {dst:Option Tmp}{op:Op}{T:TypeId}{pos:String}{af:Array Edge}{j dj:Nat}{b:Bool}(hf:Fr a n ds l)(hj:(ops[j]?).bind (·.dst)=some dj)(hb:lk l dj=some (.bool b))
  (h:WL r P ops Q (⟨dst,op,T,pos,af,none⟩::rest) a w):WL r P ops Q (⟨dst,op,T,pos,af,some (j,b)⟩::rest) a w:=by
 have hy:yielded ops a.tmps j=some b:=by simp[yielded,hj,hf.get _ _ hb]
 unfold WL wpListIn at h ⊢
 have h1:Region.wanted ⟨dst,op,T,pos,af,some (j,b)⟩ (yielded ops a.tmps)=true:=by simp[Region.wanted,hy]
 have h2:Region.wanted ⟨dst,op,T,pos,af,none⟩ (yielded ops a.tmps)=true:=by simp[Region.wanted]
 rw[Qj h1]
 rw[Qj h2]at h
 exact h
theorem off {d:Nat}{op:Op}{T:TypeId}{pos:String}{af:Array Edge}{j dj:Nat}{b:Bool}{u:Value}(hf:Fr a n ds l)(hd:Nat.ble (d+1) n=true)(hj:(ops[j]?).bind (·.dst)=some dj)(hb:lk l dj=some u)
  (hu:u=.bool (!b)\/u=undef)
  (h: ∀a',Fr a' n ds ((d,undef)::l)->WL r P ops Q rest a' w):WL r P ops Q (⟨some d,op,T,pos,af,some (j,b)⟩::rest) a w:=by
 have h1:Region.wanted ⟨some d,op,T,pos,af,some (j,b)⟩ (yielded ops a.tmps)=false:=by
  rcases hu with rfl|rfl<;>simp[Region.wanted,yielded,hj,hf.get _ _ hb,undef]
 unfold WL wpListIn
 rw[h1]
 exact⟨fun _ _=>trivial,h _ (hf.put (Qi hd) undef)⟩
theorem done (h:Q .normal a w):WL r P ops Q [] a w:=h
theorem reg {id:Nat}{lo:List Oper}(h:WL r P lo.toArray Q lo a w):WP r P (Code.region id lo.toArray false) Q a w:=wpIn_region_lit h
theorem cond {c:Operand}{x y:Code}{b:Bool}(hf:Fr a n ds l)(hc:ev l c=some (.bool b))(ht:b=true->WP r P x Q a w)(hn:b=false->WP r P y Q a w):WP r P (Code.cond c x y) Q a w:=
 wpIn_cond_split (hf.eval hc) ht hn
theorem condp {c:Operand}{x y:Code}{p:Prop}[Decidable p](hf:Fr a n ds l)(hc:ev l c=some (.bool (decide p)))(ht:p->WP r P x Q a w)(hn: ¬p->WP r P y Q a w):WP r P (Code.cond c x y) Q a w:=
 wpIn_cond_split (hf.eval hc) (fun h=>ht (Wf h)) (fun h=>hn (of_decide_eq_false h))
theorem condt {c:Operand}{x y:Code}(hf:Fr a n ds l)(hc:ev l c=some (.bool true))(ht:WP r P x Q a w):WP r P (Code.cond c x y) Q a w:=
 wpIn_cond_split (hf.eval hc) (fun _=>ht) (fun h=>by cases h)
theorem condf {c:Operand}{x y:Code}(hf:Fr a n ds l)(hc:ev l c=some (.bool false))(hn:WP r P y Q a w):WP r P (Code.cond c x y) Q a w:=
 wpIn_cond_split (hf.eval hc) (fun h=>by cases h) (fun _=>hn)
theorem skip (h:Q .normal a w):WP r P Code.skip Q a w:=wpIn_skip h
theorem exit {id:Nat}(h:Q (.exit id) a w):WP r P (Code.exit id) Q a w:=wpIn_exit h
theorem ret (h:Q .ret a w):WP r P Code.ret Q a w:=wpIn_ret h
theorem loop {c:Code}(I:Nat->Act->World->Prop)(m:Nat)(h0:I m a w)
  (round: ∀m a w,I m a w->WP r P c (Exit.then (fun a' w'=>∃m',m'<m/\I m' a' w') Q) a w):WP r P (Code.loop c) Q a w:=by
 intro b k cs hro hb hr
 have key: ∀m a w,I m a w->∃e a' w',Q e a' w'/\ArrivesIn (Machine.fenced P (FW r)) P (lone (b.atR a (.code c:: .inLoop c::k)) cs w) b k cs e a' w':=by
  intro m
  induction m using Nat.strongRecOn with
  |_ m ih=>
   intro a w hI
   obtain⟨e,a₁,w₁,hq,harr⟩:=round m a w hI b (.inLoop c::k) cs hro hb hr
   cases e with
   |normal=>
    obtain⟨m',hlt,hI₁⟩:=hq
    obtain⟨e₂,a₂,w₂,hq₂,harr₂⟩:=ih m' hlt a₁ w₁ hI₁
    exact⟨e₂,a₂,w₂,hq₂,.of_steps (StepsIn.trans harr (.one (fenced_calm hb hr rfl) stepR_inLoop)) harr₂⟩
   |exit id=>exact⟨_,a₁,w₁,hq,.pass (x:=.inLoop c) rfl (fun _ _=>.inl (by simp)) harr⟩
   |goto l=>exact⟨_,a₁,w₁,hq,.pass (x:=.inLoop c) rfl (fun _ _=>.inl (by simp)) harr⟩
   |ret=>exact⟨_,a₁,w₁,hq,.pass (x:=.inLoop c) rfl (fun _ _=>.inl (by simp)) harr⟩
   |panic ch=>exact⟨_,a₁,w₁,hq,.pass (x:=.inLoop c) rfl (fun _ _=>.inl (by simp)) harr⟩
   |outgrown=>exact⟨_,a₁,w₁,hq,.pass (x:=.inLoop c) rfl (fun _ _=>.inl (by simp)) harr⟩
 obtain⟨e,a',w',hq,harr⟩:=key m a w h0
 exact⟨e,a',w',hq,.of_steps (.one (fenced_calm hb hr rfl) stepR_loop) harr⟩
theorem ret0 {fn:Func}{R:Ending->World->Prop}(hf:Fr a n [] l)(hr:fn.results=#[])(hR:R (.returned (.tuple #[])) w):bodyPost P fn R .ret a w:=
 bodyPost_ret (results_none hr _ _ _) hf.defs hR
end
structure Ch (S:List Nat) (w w':World):Prop where
 os:w'.os=w.os
 tape:w'.tape=w.tape
 output:w'.output=w.output
 size:w.heap.size<=w'.heap.size
 block: ∀k,k<w.heap.size->k∉S->w'.heap[k]?=w.heap[k]?
theorem Ch.refl (w:World):Ch [] w w:=⟨rfl,rfl,rfl,Qo _,fun _ _ _=>rfl⟩
theorem Ch.refl' (S:List Nat)(w:World):Ch S w w:=⟨rfl,rfl,rfl,Qo _,fun _ _ _=>rfl⟩
theorem Ch.mono {S S':List Nat}{a b:World}(h:Ch S a b)(hs: ∀k,k∈S->k∈S'\/a.heap.size<=k):Ch S' a b:=
 ⟨h.os,h.tape,h.output,h.size,fun k hk hn=>h.block k hk (fun hm=>by rcases hs k hm with h1|h1;exact hn h1;omega)⟩
theorem Ch.then {S T U:List Nat}{a b c:World}(h:Ch S a b)(k:Ch T b c)(hS: ∀i,i∈S->i∈U\/a.heap.size<=i:=by simp)(hT: ∀i,i∈T->i∈U\/a.heap.size<=i:=by simp):Ch U a c:=
 ⟨k.os.trans h.os,k.tape.trans h.tape,k.output.trans h.output,Wd h.size k.size,fun i hi hn=>by
  have h1:=h.size
  refine(k.block i (by omega) (fun hm=>?_)).trans (h.block i hi (fun hm=>?_))
  ·rcases hT i hm with h2|h2
   ·exact hn h2
   ·omega
  ·rcases hS i hm with h2|h2
   ·exact hn h2
   ·omega⟩
theorem Ch.of_grown {w w':World}{row:Option Nat}(h:w.grownBy w' row):Ch row.toList w w':=
 ⟨h.os,h.tape,h.output,h.size,fun k hk hn=>h.block k hk (fun e=>hn (by rw[<-e];simp))⟩
theorem Ch.below {w w':World}(h:Ch [] w w'):Below w.heap.size w w':=⟨h.os,h.tape,h.output,h.size,fun k hk=>h.block k hk (by simp)⟩
theorem Ch.of_below {w w':World}(h:Below w.heap.size w w'):Ch [] w w':=⟨h.os,h.tape,h.output,h.size,fun k hk _=>h.block k hk⟩
theorem Ch.drew (w:World):Ch [] w w.drew:=⟨rfl,rfl,rfl,Qo _,fun _ _ _=>rfl⟩
theorem Ch.alloc (w:World)(o:Obj):Ch [] w (w.alloc o):=⟨rfl,rfl,rfl,by simp,fun k hk _=>Below.heap_alloc w o k hk⟩
theorem Ch.setRow (w:World)(g:Nat)(cs:Array Value):Ch [g] w (w.setRow g cs):=
 ⟨rfl,rfl,rfl,by simp[World.setRow],fun k _ hn=>setRow_other w g k cs (by simpa using hn)⟩
theorem Ch.cell {S:List Nat}{w w':World}(h:Ch S w w'){p:Addr}(hp:p.block<w.heap.size)(hn:p.block∉S):w'.cell? p=w.cell? p:=World.cell?_of_block (h.block _ hp hn)
def Blk (w:World)(g:Nat)(t:TypeId)(cs:List Value):Prop:=w.heap[g]?=some (.cells cs.toArray t (0,0))
section
variable {w w':World}{g:Nat}{t:TypeId}{cs:List Value}
theorem Blk.lt (h:Blk w g t cs):g<w.heap.size:=by
 rcases Yn g w.heap.size with hlt|hge
 ·exact hlt
 ·unfold Blk at h;rw[X9 hge]at h;cases h
theorem Blk.cell (h:Blk w g t cs)(i:Nat):w.cell? ⟨g,i,none⟩=cs[i]?:=by rw[cell_of_row w g i cs.toArray t (0,0) h];simp
theorem Blk.new (w:World)(t:TypeId)(cs:List Value):Blk (w.alloc (.cells cs.toArray t)) w.heap.size t cs:=heap_alloc_new w _
theorem Blk.ch {S:List Nat}(h:Blk w g t cs)(hc:Ch S w w')(hn:g∉S):Blk w' g t cs:=(hc.block g h.lt hn).trans h
end
section
variable {P:Program}{a:Act}{w:World}{d:Option Tmp}{T:TypeId}{pos:String}{af:Array Edge}{gd:Option (Nat×Bool)}
theorem r_move {x:Operand}{v:Value}(hx:a.eval x=v):(execOp a.eval ⟨d,.move x,T,pos,af,gd⟩).run P w=.ok (.value v) w:=by
 simp[execOp,hx]
theorem r_assign {x:Operand}{v:Value}(hx:a.eval x=v):(execOp a.eval ⟨d,.assign x,T,pos,af,gd⟩).run P w=.ok (.value v) w:=by
 simp[execOp,hx]
theorem Qge {c x y:Operand}{u:Value}(hc:a.eval c=.bool true)(hx:a.eval x=u):
  (execOp a.eval ⟨d,.pick c x y,T,pos,af,gd⟩).run P w=.ok (.value u) w:=by
 simp[execOp,hc,hx,asBool]
theorem Qfw {c x y:Operand}{v:Value}(hc:a.eval c=.bool false)(hy:a.eval y=v):
  (execOp a.eval ⟨d,.pick c x y,T,pos,af,gd⟩).run P w=.ok (.value v) w:=by
 simp[execOp,hc,hy,asBool]
theorem r_not {t:TypeId}{x:Operand}{b:Bool}(hx:a.eval x=.bool b):(execOp a.eval ⟨d,.unOp .not t x,T,pos,af,gd⟩).run P w=.ok (.value (.bool (!b))) w:=by
 simp[execOp,hx,Op.unary]
theorem r_extract {x:Operand}{vs:Array Value}{i:Nat}{v:Value}(hx:a.eval x=.tuple vs)(hv:vs[i]?=some v):(execOp a.eval ⟨d,.extract x i,T,pos,af,gd⟩).run P w=.ok (.value v) w:=by
 simp[execOp,hx,Instr.extract,hv]
theorem Qdc {x:Operand}{ad:Addr}(hx:a.eval x=.pointer (some ad)):(execOp a.eval ⟨d,.nilCheck x,T,pos,af,gd⟩).run P w=.ok (.value (.pointer (some ad))) w:=by
 simp[execOp,hx]
theorem Qfi {fn:Fn}{first captured:Array Operand}{vs us:Array Value}(h1:first.map a.eval=vs)(h2:captured.map a.eval=us):
  (execOp a.eval ⟨d,.makeFunc fn first captured,T,pos,af,gd⟩).run P w=.ok (.value (.func fn vs us)) w:=by
 simp[execOp,Instr.makeFunc,h1,h2]
section ints
variable {t ty:TypeId}{x y:Operand}{k:IntKind}{m n:Int}
theorem r_add (hx:a.eval x=.int k m)(hy:a.eval y=.int k n):(execOp a.eval ⟨d,.binOp .add t x y ty,T,pos,af,gd⟩).run P w=.ok (.value (.int k (k.wrap (m+n)))) w:=by
 simp[execOp,hx,hy,binOp_add,eqGuard_add,Op.intArith]
theorem r_sub (hx:a.eval x=.int k m)(hy:a.eval y=.int k n):(execOp a.eval ⟨d,.binOp .sub t x y ty,T,pos,af,gd⟩).run P w=.ok (.value (.int k (k.wrap (m-n)))) w:=by
 simp[execOp,hx,hy,binOp_sub,eqGuard_sub,Op.intArith]
theorem r_mul (hx:a.eval x=.int k m)(hy:a.eval y=.int k n):(execOp a.eval ⟨d,.binOp .mul t x y ty,T,pos,af,gd⟩).run P w=.ok (.value (.int k (k.wrap (m*n)))) w:=by
 simp[execOp,hx,hy,binOp_mul,eqGuard_mul,Op.intArith]
theorem r_quo (hx:a.eval x=.int k m)(hy:a.eval y=.int k n)(h0:n≠0):(execOp a.eval ⟨d,.binOp .quo t x y ty,T,pos,af,gd⟩).run P w=.ok (.value (.int k (k.wrap (m.tdiv n)))) w:=by
 simp[execOp,hx,hy,binOp_quo,eqGuard_quo,Op.intDiv,h0]
theorem r_rem (hx:a.eval x=.int k m)(hy:a.eval y=.int k n)(h0:n≠0):(execOp a.eval ⟨d,.binOp .rem t x y ty,T,pos,af,gd⟩).run P w=.ok (.value (.int k (m.tmod n))) w:=by
 simp[execOp,hx,hy,binOp_rem,eqGuard_rem,Op.intDiv,h0]
theorem r_lss (hx:a.eval x=.int k m)(hy:a.eval y=.int k n):(execOp a.eval ⟨d,.binOp .lss t x y ty,T,pos,af,gd⟩).run P w=.ok (.value (.bool (decide (m<n)))) w:=by
 simp[execOp,hx,hy,binOp_lss,eqGuard_lss]
theorem r_leq (hx:a.eval x=.int k m)(hy:a.eval y=.int k n):(execOp a.eval ⟨d,.binOp .leq t x y ty,T,pos,af,gd⟩).run P w=.ok (.value (.bool (decide (m<=n)))) w:=by
 simp[execOp,hx,hy,binOp_leq,eqGuard_leq]
theorem r_gtr (hx:a.eval x=.int k m)(hy:a.eval y=.int k n):(execOp a.eval ⟨d,.binOp .gtr t x y ty,T,pos,af,gd⟩).run P w=.ok (.value (.bool (decide (n<m)))) w:=by
 simp[execOp,hx,hy,binOp_gtr,eqGuard_gtr]
theorem r_geq (hx:a.eval x=.int k m)(hy:a.eval y=.int k n):(execOp a.eval ⟨d,.binOp .geq t x y ty,T,pos,af,gd⟩).run P w=.ok (.value (.bool (decide (n<=m)))) w:=by
 simp[execOp,hx,hy,binOp_geq,eqGuard_geq]
theorem r_eql (hx:a.eval x=.int k m)(hy:a.eval y=.int k n):(execOp a.eval ⟨d,.binOp .eql t x y ty,T,pos,af,gd⟩).run P w=.ok (.value (.bool (decide (m=n)))) w:=by
 simp[execOp,hx,hy,binOp_eql,eqGuard_at_int]
 rfl
theorem r_neq (hx:a.eval x=.int k m)(hy:a.eval y=.int k n):(execOp a.eval ⟨d,.binOp .neq t x y ty,T,pos,af,gd⟩).run P w=.ok (.value (.bool (decide (m≠n)))) w:=by
 have e:(m !=n)=decide (m≠n):=by rw[Bool.eq_iff_iff];simp
 simp only[execOp,hx,hy,binOp_neq,eqGuard_at_int,Sem.run_bind,Sem.run_pure,Result.andThen_ok,e]
theorem r_shr {k':IntKind}(hx:a.eval x=.int .u64 m)(hy:a.eval y=.int k' n)(h0:0<=n)(h1:n<=64):(execOp a.eval ⟨d,.binOp .shr t x y ty,T,pos,af,gd⟩).run P w=.ok (.value (.int .u64 (m / 2^n.toNat))) w:=by
 simp[execOp,hx,hy,binOp_shr,eqGuard_shr,shift_shr_u64 k' m n h0 h1]
end ints
section bools
variable {t ty:TypeId}{x y:Operand}{b c:Bool}
theorem Qbo {t:TypeId}(ht:P.underlying t=some .bool)(m:Nat):(Op.equalIn (m+1) t (.bool b) (.bool c)).run P w=.ok (b==c) w:=by
 simp[Op.equalIn,run_underlying ht]
theorem Qca {t:TypeId}(ht:P.underlying t=some .bool):(Op.equal t (.bool b) (.bool c)).run P w=.ok (b==c) w:=Qbo ht 9999
theorem r_eqb (ht:P.underlying t=some .bool)(hx:a.eval x=.bool b)(hy:a.eval y=.bool c):(execOp a.eval ⟨d,.binOp .eql t x y ty,T,pos,af,gd⟩).run P w=.ok (.value (.bool (b==c))) w:=by
 simp[execOp,hx,hy,eqGuard_at_bool,binOp,Qca ht]
theorem r_neb (ht:P.underlying t=some .bool)(hx:a.eval x=.bool b)(hy:a.eval y=.bool c):(execOp a.eval ⟨d,.binOp .neq t x y ty,T,pos,af,gd⟩).run P w=.ok (.value (.bool (!(b==c)))) w:=by
 simp[execOp,hx,hy,eqGuard_at_bool,binOp,Qca ht]
end bools
section strings
variable {t ty:TypeId}{x y:Operand}{s u:ByteArray}
theorem str_eq (s u:ByteArray):(s.toList==u.toList)=decide (s=u):=by
 rw[Bool.eq_iff_iff]
 simp only[beq_iff_eq,Xw]
 constructor
 ·intro h
  rw[ByteArray.toList_eq,ByteArray.toList_eq]at h
  exact ByteArray.ext (Yc.1 h)
 ·rintro rfl;rfl
theorem r_eqs (hx:a.eval x=.string s)(hy:a.eval y=.string u):(execOp a.eval ⟨d,.binOp .eql t x y ty,T,pos,af,gd⟩).run P w=.ok (.value (.bool (decide (s=u)))) w:=by
 simp[execOp,hx,hy,eqGuard_at_string,binOp,Op.stringOp,str_eq]
theorem r_nes (hx:a.eval x=.string s)(hy:a.eval y=.string u):(execOp a.eval ⟨d,.binOp .neq t x y ty,T,pos,af,gd⟩).run P w=.ok (.value (.bool (!decide (s=u)))) w:=by
 simp[execOp,hx,hy,eqGuard_at_string,binOp,Op.stringOp,str_eq]
end strings
section conv
variable {src dst:TypeId}{x:Operand}{k k':IntKind}{n:Int}
theorem r_conv {de:TypeDesc}(hs:P.underlying src=some de)(hd:P.underlying dst=some (.int k'))(hx:a.eval x=.int k n):(execOp a.eval ⟨d,.convert src dst x,T,pos,af,gd⟩).run P w=.ok (.value (.int k' (k'.wrap n))) w:=by
 simp[execOp,hx,convert,run_underlying hs,run_underlying hd,Conv.intToInt]
end conv
section lens
variable {t e:TypeId}{x y:Operand}{A:Option Addr}{n c:Nat}
theorem r_len (ht:P.underlying t=some (.slice e))(hx:a.eval x=.slice A n c):
  (execOp a.eval ⟨d,.call {callee:=.builtin .len,args:=#[x],argTypes:=#[t]},T,pos,af,gd⟩).run P w=.ok (.value (.int .i64 (n:Int))) w:=by
 simp[execOp,resolve,invoke,builtin,hx,Builtin.len_,run_underlying ht,goInt]
theorem r_lens {s:ByteArray}(ht:P.underlying t=some .string)(hx:a.eval x=.string s):
  (execOp a.eval ⟨d,.call {callee:=.builtin .len,args:=#[x],argTypes:=#[t]},T,pos,af,gd⟩).run P w=.ok (.value (.int .i64 (s.size:Int))) w:=by
 simp[execOp,resolve,invoke,builtin,hx,Builtin.len_,run_underlying ht,goInt]
theorem r_min {k k':IntKind}{p q:Int}{ts:Array TypeId}(hx:a.eval x=.int k p)(hy:a.eval y=.int k' q):
  (execOp a.eval ⟨d,.call {callee:=.builtin .min,args:=#[x,y],argTypes:=ts},T,pos,af,gd⟩).run P w=.ok (.value (.int k (min p q))) w:=by
 have e:(if q<p then q else p)=min p q:=by omega
 simp[execOp,resolve,invoke,builtin,hx,hy,Builtin.min_,Builtin.min2,e]
theorem r_max {k k':IntKind}{p q:Int}{ts:Array TypeId}(hx:a.eval x=.int k p)(hy:a.eval y=.int k' q):
  (execOp a.eval ⟨d,.call {callee:=.builtin .max,args:=#[x,y],argTypes:=ts},T,pos,af,gd⟩).run P w=.ok (.value (.int k (max p q))) w:=by
 have e:(if p<q then q else p)=max p q:=by omega
 simp[execOp,resolve,invoke,builtin,hx,hy,Builtin.max_,Builtin.max2,e]
end lens
section mem
variable {t e:TypeId}{x y:Operand}{g o:Nat}{cs:List Value}{v:Value}{n:Nat}
theorem r_load1 {ad:Addr}(hA: ∀w,(isAgg t).run P w=.ok false w)(hx:a.eval x=.pointer (some ad))(hv:w.cell? ad=some v):
  (execOp a.eval ⟨d,.load t x,T,pos,af,gd⟩).run P w=.ok (.value v) w:=by
 simp[execOp,Instr.loadAt,hx,Instr.sureAddr,loadVar,hA,hv]
theorem r_loadN {ad:Addr}(hA: ∀w,(isAgg t).run P w=.ok true w)(hS: ∀w,(sizeOf t).run P w=.ok n w)(hx:a.eval x=.pointer (some ad))(hn:cs.length=n)
  (hv: ∀j u,cs[j]?=some u->w.cell? (ad.add j)=some u):
  (execOp a.eval ⟨d,.load t x,T,pos,af,gd⟩).run P w=.ok (.value (.agg cs.toArray)) w:=by
 subst hn
 have:=run_loadCells_list (P:=P) w ad cs hv
 simp[execOp,Instr.loadAt,hx,Instr.sureAddr,loadVar,hA,hS,this]
theorem r_indexAddr {A:Addr}{c:Nat}{i:Int}{k:IntKind}(ht:P.underlying t=some (.slice e))(hS: ∀w,(sizeOf e).run P w=.ok g w)(hx:a.eval x=.slice (some A) n c)(hy:a.eval y=.int k i)(h0:0<=i)(h1:i<n):
  (execOp a.eval ⟨d,.indexAddr t x y,T,pos,af,gd⟩).run P w=.ok (.value (.pointer (some (A.add (i.toNat*g))))) w:=by
 simp[execOp,Instr.indexAt,hx,hy,asIntOf,run_underlying ht,hS,h0,h1]
end mem
end
inductive Ty where
 |int (k:IntKind)
 |byte
 |bool
 |str
 |slice (e:Ty)
 |pair (a b:Ty)
@[reducible] def Ty.den:Ty->Type
 | .int _=>Int
 | .byte=>UInt8
 | .bool=>Bool
 | .str=>ByteArray
 | .slice e=>List e.den
 | .pair a b=>a.den×b.den
def Ty.size:Ty->Nat
 | .pair a b=>a.size+b.size
 |_=>1
def Ty.rep (w:World)(F:Nat->Prop):(t:Ty)->List Value->t.den->Prop
 | .int k,cs,x=>cs=[.int k x]/\k.has x
 | .byte,cs,x=>cs=[.int .u8 (x.toNat:Int)]
 | .bool,cs,x=>cs=[.bool x]
 | .str,cs,x=>cs=[.string x]/\x.size<=maxLen
 | .slice e,cs,xs=>∃(A:Option Addr) (c:Nat) (cells:List Value),cs=[.slice A xs.length c]/\xs.length<=c/\c<=maxLen/\cells.length=xs.length*e.size/\
   (xs.length=0\/∃b o,A=some ⟨b,o,none⟩/\F b/\∀j u,cells[j]?=some u->w.cell? ⟨b,o+j,none⟩=some u)/\
   ∀(i:Nat) (x:e.den),xs[i]?=some x->e.rep w F ((cells.drop (i*e.size)).take e.size) x
 | .pair a b,cs,x=>∃ca cb,cs=ca++cb/\a.rep w F ca x.1/\b.rep w F cb x.2
section
variable {w w':World}{F F':Nat->Prop}
theorem Qgf: ∀(t:Ty) {cs:List Value} {x:t.den},t.rep w F cs x->cs.length=t.size
 | .int _,_,_,h=>by rw[h.1];rfl
 | .byte,_,_,h=>by rw[show _=_ from h];rfl
 | .bool,_,_,h=>by rw[show _=_ from h];rfl
 | .str,_,_,h=>by rw[h.1];rfl
 | .slice e,_,_,h=>by obtain⟨A,c,cells,h,_⟩:=h;rw[h];rfl
 | .pair a b,_,_,h=>by
  obtain⟨ca,cb,h,ha,hb⟩:=h
  rw[h,Wg,Qgf a ha,Qgf b hb];rfl
theorem Qgk: ∀(t:Ty) {cs:List Value} {x:t.den},t.rep w F cs x->∀u∈cs,u.oneCell'=true
 | .int _,_,_,h=>by rw[h.1];simp[Value.oneCell']
 | .byte,_,_,h=>by rw[show _=_ from h];simp[Value.oneCell']
 | .bool,_,_,h=>by rw[show _=_ from h];simp[Value.oneCell']
 | .str,_,_,h=>by rw[h.1];simp[Value.oneCell']
 | .slice e,_,_,h=>by obtain⟨A,c,cells,h,_⟩:=h;rw[h];simp[Value.oneCell']
 | .pair a b,_,_,h=>by
  obtain⟨ca,cb,h,ha,hb⟩:=h
  intro u hu
  rw[h,Q0]at hu
  rcases hu with hu|hu
  ·exact Qgk a ha u hu
  ·exact Qgk b hb u hu
theorem rep_keep (hk: ∀p:Addr,F p.block->p.block<w.heap.size->w'.cell? p=w.cell? p)(hF: ∀b,F b->F' b): ∀(t:Ty) {cs:List Value} {x:t.den},t.rep w F cs x->t.rep w' F' cs x
 | .int _,_,_,h=>h
 | .byte,_,_,h=>h
 | .bool,_,_,h=>h
 | .str,_,_,h=>h
 | .slice e,_,_,h=>by
  obtain⟨A,c,cells,h1,h2,h3,h4,h5,h6⟩:=h
  refine⟨A,c,cells,h1,h2,h3,h4,?_,fun i x hi=>rep_keep hk hF e (h6 i x hi)⟩
  rcases h5 with h5|⟨b,o,hA,hb,hc⟩
  ·exact .inl h5
  ·refine .inr ⟨b,o,hA,hF b hb,fun j u hu=>?_⟩
   have:=hc j u hu
   rw[hk ⟨b,o+j,none⟩ hb (World.block_lt_of_cell? w _ this)]
   exact this
 | .pair a b,_,_,h=>by
  obtain⟨ca,cb,h,ha,hb⟩:=h
  exact⟨ca,cb,h,rep_keep hk hF a ha,rep_keep hk hF b hb⟩
def Ty.flat:Ty->Bool
 | .slice _=>false
 | .pair a b=>a.flat&&b.flat
 |_=>true
theorem rep_flat: ∀(t:Ty),t.flat=true->∀{cs:List Value} {x:t.den},t.rep w F cs x->t.rep w F' cs x
 | .int _,_,_,_,h=>h
 | .byte,_,_,_,h=>h
 | .bool,_,_,_,h=>h
 | .str,_,_,_,h=>h
 | .slice e,hf,_,_,_=>by cases hf
 | .pair a b,hf,_,_,h=>by
  simp only[Ty.flat,Qe]at hf
  obtain⟨ca,cb,h,ha,hb⟩:=h
  exact⟨ca,cb,h,rep_flat a hf.1 ha,rep_flat b hf.2 hb⟩
theorem rep_ch {S:List Nat}(hc:Ch S w w')(hS: ∀b,F b->b∉S)(t:Ty){cs:List Value}{x:t.den}(h:t.rep w F cs x):t.rep w' F cs x:=
 rep_keep (fun _ hp hl=>hc.cell hl (hS _ hp)) (fun _ h=>h) t h
theorem Qds (hF: ∀b,F b->F' b)(t:Ty){cs:List Value}{x:t.den}(h:t.rep w F cs x):t.rep w F' cs x:=rep_keep (fun _ _ _=>rfl) hF t h
theorem rep_slice_len {e:Ty}{A:Option Addr}{n c:Nat}{xs:List e.den}(h:(Ty.slice e).rep w F [.slice A n c] xs):xs.length=n/\n<=c/\c<=maxLen:=by
 obtain⟨A',c',cells,h1,h2,h3,_⟩:=h
 injection h1 with h1
 injection h1 with hA hn hc
 subst hn;subst hc
 exact⟨rfl,h2,h3⟩
theorem Qev (e:Ty):(Ty.slice e).rep w F [.slice none 0 0] []:=⟨none,0,[],rfl,Qo _,by simp[maxLen],by simp,.inl rfl,fun i x h=>by simp at h⟩
theorem rep_take {e:Ty}{A:Option Addr}{n c:Nat}{xs:List e.den}(h:(Ty.slice e).rep w F [.slice A n c] xs){k:Nat}(hk:k<=xs.length):(Ty.slice e).rep w F [.slice A k c] (xs.take k):=by
 obtain⟨A',c',cells,h1,h2,h3,h4,h5,h6⟩:=h
 injection h1 with h1
 injection h1 with hA hn hc
 subst hA;subst hc
 have hl:(xs.take k).length=k:=by rw[Qw];omega
 refine⟨A,c,cells.take (k*e.size),by rw[hl],by omega,h3,by rw[Qw,h4,hl];exact Xy (Q5 _ hk),?_,fun i x hi=>?_⟩
 ·rw[hl]
  rcases h5 with h5|⟨b,o,hA,hb,hcell⟩
  ·exact .inl (by omega)
  ·refine .inr ⟨b,o,hA,hb,fun j u hu=>hcell j u ?_⟩
   have hj:=(Qb.1 hu).1
   rw[Qw]at hj
   rwa[Q6 (by omega)]at hu
 ·have hik:i<k:=by
   have:=(Qb.1 hi).1
   omega
  have hx:xs[i]?=some x:=by rwa[Q6 hik]at hi
  have:=h6 i x hx
  have hm:(i+1)*e.size<=k*e.size:=Q5 _ hik
  rw[W6,X7]at hm
  rw[List.drop_take,List.take_take,Xy (by omega)]
  exact this
theorem rep_drop {e:Ty}{A:Option Addr}{n c:Nat}{xs:List e.den}(h:(Ty.slice e).rep w F [.slice A n c] xs){k c':Nat}{A':Option Addr}(hk:k<=xs.length)(hc':n-k<=c')(hm:c'<=maxLen)
  (hA':k<xs.length->∀ad,A=some ad->A'=some (ad.add (k*e.size))):(Ty.slice e).rep w F [.slice A' (n-k) c'] (xs.drop k):=by
 obtain⟨A1,c1,cells,h1,h2,h3,h4,h5,h6⟩:=h
 injection h1 with h1
 injection h1 with hA hn hc
 subst hA;subst hn
 have hl:(xs.drop k).length=xs.length-k:=Wy
 refine⟨A',c',cells.drop (k*e.size),by rw[hl],by omega,hm,by rw[Wy,h4,hl,Nat.sub_mul],?_,fun i x hi=>?_⟩
 ·rw[hl]
  by_cases hz:xs.length-k=0
  ·exact .inl hz
  ·rcases h5 with h5|⟨b,o,rfl,hb,hcell⟩
   ·omega
   ·refine .inr ⟨b,o+k*e.size,by rw[hA' (by omega) _ rfl,Addr.add_lit],hb,fun j u hu=>?_⟩
    rw[Q8]at hu
    rw[Xb]
    exact hcell _ _ hu
 ·rw[Q8]at hi
  have:=h6 _ _ hi
  rw[Xo,show k*e.size+i*e.size=(k+i)*e.size from(W6 _ _ _).symm]
  exact this
end
def obl:Option Addr->List Nat
 |none=>[]
 |some a=>[a.block]
def Own (t:Ty)(e:TypeId)(B:Nat)(w:World)(F:Nat->Prop)(A:Option Addr)(c:Nat)(xs:List t.den):Prop:=
 ∃cells:List Value,w.ownsRow B e t.size (.slice A xs.length c) xs.length cells/\(∀u∈cells,u.oneCell'=true)/\
  ∀(i:Nat) (x:t.den),xs[i]?=some x->t.rep w F ((cells.drop (i*t.size)).take t.size) x
section
variable {t:Ty}{e:TypeId}{B:Nat}{w w':World}{F F':Nat->Prop}{A:Option Addr}{c:Nat}{xs:List t.den}
theorem ownBlock_slice (A:Option Addr)(n c:Nat):(Value.slice A n c).ownBlock.toList=obl A:=by cases A<;>rfl
theorem Own.nil (t:Ty)(e:TypeId)(B:Nat)(w:World)(F:Nat->Prop):Own t e B w F none 0 []:=
 ⟨[],World.ownsRow_nil w B e t.size,by simp,fun i x h=>by simp at h⟩
theorem Own.lt (h:Own t e B w F A c xs): ∀k,k∈obl A->B<=k/\k<w.heap.size:=by
 obtain⟨cells,hr,_⟩:=h
 intro k hk
 exact hr.lt k (by cases A<;>simp_all [obl,Value.ownBlock])
theorem Own.len (h:Own t e B w F A c xs):xs.length<=c/\c<=maxLen:=by
 obtain⟨cells,hr,_⟩:=h
 rcases hr.2 with⟨hv,hn⟩|⟨g,cap,cur,hv,_,_,h1,h2,_⟩
 ·injection hv with _ _ hc;subst hc;exact⟨by omega,by simp[maxLen]⟩
 ·injection hv with _ _ hc;subst hc;exact⟨h1,h2⟩
theorem Own.more (h:Own t e B w F A c xs)(hF: ∀b,F b->F' b):Own t e B w F' A c xs:=by
 obtain⟨cells,hr,h1,h2⟩:=h
 exact⟨cells,hr,h1,fun i x hi=>Qds hF t (h2 i x hi)⟩
theorem Own.rep (h:Own t e B w F A c xs)(hF: ∀b,F b->F' b)(hA: ∀k,k∈obl A->F' k):(Ty.slice t).rep w F' [.slice A xs.length c] xs:=by
 obtain⟨cells,hr,h1,h2⟩:=h
 have hl:cells.length=xs.length*t.size:=hr.1
 rcases hr.2 with⟨hv,hn⟩|⟨g,cap,cur,hv,hb,hg,hnc,hcm,hcs,htake⟩
 ·injection hv with hA' _ hc
  subst hA';subst hc
  exact⟨none,0,cells,rfl,by omega,by simp[maxLen],hl,.inl hn,fun i x hi=>Qds hF t (h2 i x hi)⟩
 ·injection hv with hA' _ hc
  subst hA';subst hc
  refine⟨_,_,cells,rfl,hnc,hcm,hl,.inr ⟨g,0,rfl,hA g (by simp[obl]),fun j u hu=>?_⟩,fun i x hi=>Qds hF t (h2 i x hi)⟩
  rw[Wm,cell_of_row w g j cur e (0,0) hg]
  rw[<-htake,Wq]at hu
  split at hu
  ·simpa using hu
  ·cases hu
theorem Own.made {w:World}{g:Nat}{cs:List Value}(hb:Blk w g e cs)(hB:B<=g)(hc:cs.length=xs.length*t.size)(hm:xs.length<=maxLen)(h1: ∀u∈cs,u.oneCell'=true)
  (h2: ∀(i:Nat) (x:t.den),xs[i]?=some x->t.rep w F ((cs.drop (i*t.size)).take t.size) x):Own t e B w F (some ⟨g,0,none⟩) xs.length xs:=
 ⟨cs,⟨hc,.inr ⟨g,xs.length,cs.toArray,rfl,hB,hb,Qo _,hm,by simpa using hc,by simp[<-hc]⟩⟩,h1,h2⟩
end
theorem Qfj {t:Ty}{w:World}{F:Nat->Prop}{xs ys:List t.den}{cs ds:List Value}(hc:cs.length=xs.length*t.size)
  (h1: ∀(i:Nat) (x:t.den),xs[i]?=some x->t.rep w F ((cs.drop (i*t.size)).take t.size) x) (h2: ∀(i:Nat) (x:t.den),ys[i]?=some x->t.rep w F ((ds.drop (i*t.size)).take t.size) x):
  ∀(i:Nat) (x:t.den),(xs++ys)[i]?=some x->t.rep w F (((cs++ds).drop (i*t.size)).take t.size) x:=by
 intro i x hi
 by_cases hlt:i<xs.length
 ·rw[Q2 hlt]at hi
  have hm:(i+1)*t.size<=xs.length*t.size:=Q5 _ hlt
  rw[W6,X7]at hm
  rw[List.drop_append_of_le_length (by omega),List.take_append_of_le_length (by rw[Wy];omega)]
  exact h1 i x hi
 ·rw[We (by omega)]at hi
  have:=h2 _ _ hi
  have e:(cs++ds).drop (i*t.size)=ds.drop ((i-xs.length)*t.size):=by
   rw[List.drop_append,Xd (by rw[hc];exact Q5 _ (by omega)),Yp,hc,Nat.sub_mul]
  rw[e]
  exact this
section
variable {P:Program}{t:Ty}{e:TypeId}{B:Nat}{w:World}{F:Nat->Prop}{A:Option Addr}{c:Nat}{xs:List t.den}
end
def evs (l:List (Nat×Value)):List Operand->Option (List Value)
 | []=>some []
 |x::r=>match ev l x,evs l r with
  |some v,some vs=>some (v::vs)
  |_,_=>none
def evp (l:List (Nat×Value)):List (Nat×Operand)->Option (List (Nat×Value))
 | []=>some []
 |(i,x)::r=>match ev l x,evp l r with
  |some v,some vs=>some ((i,v)::vs)
  |_,_=>none
theorem Fr.evals {a:Act}{n:Nat}{ds:List Deferred}{l:List (Nat×Value)}(h:Fr a n ds l): ∀(xs:List Operand) {vs:List Value},evs l xs=some vs->xs.toArray.map a.eval=vs.toArray:=by
 intro xs
 induction xs with
 |nil=>intro vs hv;simp only[evs,Qc]at hv;subst hv;simp
 |cons x r ih=>
  intro vs hv
  unfold evs at hv
  cases hx:ev l x with
  |none=>simp[hx]at hv
  |some v=>
   cases hr:evs l r with
   |none=>simp[hx,hr]at hv
   |some us=>
    simp only[hx,hr,Qc]at hv
    subst hv
    have:=ih hr
    simp only[Xi,Qz,h.eval hx]at this ⊢
    rw[Yu]at this
    rw[this]
theorem Fr.evalp {a:Act}{n:Nat}{ds:List Deferred}{l:List (Nat×Value)}(h:Fr a n ds l): ∀(xs:List (Nat×Operand)) {vs:List (Nat×Value)},evp l xs=some vs->
  xs.toArray.map (fun(i,x)=>(i,a.eval x))=vs.toArray:=by
 intro xs
 induction xs with
 |nil=>intro vs hv;simp only[evp,Qc]at hv;subst hv;simp
 |cons x r ih=>
  obtain⟨i,x⟩:=x
  intro vs hv
  unfold evp at hv
  cases hx:ev l x with
  |none=>simp[hx]at hv
  |some v=>
   cases hr:evp l r with
   |none=>simp[hx,hr]at hv
   |some us=>
    simp only[hx,hr,Qc]at hv
    subst hv
    have:=ih hr
    simp only[Xi,Qz,h.eval hx]at this ⊢
    rw[Yu]at this
    rw[this]
section
variable {P:Program}{a:Act}{w:World}{d:Option Tmp}{T:TypeId}{pos:String}{af:Array Edge}{gd:Option (Nat×Bool)}{n:Nat}{ds:List Deferred}{l:List (Nat×Value)}
theorem Qdk {t:TypeId}{x:Operand}{fs:Array Field}{f:Field}{i m:Nat}{ad:Addr}(ht:P.underlying t=some (.struct fs))(hf:fs[i]?=some f)(hS: ∀w,(sizeOf f.type).run P w=.ok (m+1) w)(hx:a.eval x=.pointer (some ad)):
  (execOp a.eval ⟨d,.fieldAddr t x i,T,pos,af,gd⟩).run P w=.ok (.value (.pointer (some (ad.add f.offset)))) w:=by
 simp[execOp,Instr.fieldAt,run_underlying ht,hf,hx,Instr.sureAddr,fieldPlace,hS]
section
variable {t e:TypeId}{x lo hi mx:Operand}{A:Option Addr}{len c sz:Nat}{k k1 k2 k3:IntKind}{p q r:Int}
theorem Qho {u:Nat}(ht:P.underlying t=some (.slice e))(hS: ∀w,(sizeOf e).run P w=.ok sz w)(hx:a.eval x=.slice A len c)(hh:a.eval hi=.int k q)(hq:q=(u:Int))(h1:u<=c):
  (execOp a.eval ⟨d,.slice t x none (some hi) none,T,pos,af,gd⟩).run P w=.ok (.value (.slice A u c)) w:=by
 subst hq
 simp[execOp,Instr.sliceAt,run_underlying ht,hx,hh,Instr.slice,Instr.sliceBounds,Instr.sliceBound,asIntOf,h1,hS]
 cases A<;>simp[Addr.add]
def cutA (A:Option Addr)(m p sz:Nat):Option Addr:=if m=p then A else A.map (·.add (p*sz))
theorem Qhd {u:Nat}(ht:P.underlying t=some (.slice e))(hS: ∀w,(sizeOf e).run P w=.ok sz w)(hx:a.eval x=.slice A len c)(hl:a.eval lo=.int k p)(hp:p=(u:Int))(h1:u<=len):
  (execOp a.eval ⟨d,.slice t x (some lo) none none,T,pos,af,gd⟩).run P w=.ok (.value (.slice (cutA A c u sz) (len-u) (c-u))) w:=by
 subst hp
 simp[execOp,Instr.sliceAt,run_underlying ht,hx,hl,Instr.slice,Instr.sliceBounds,Instr.sliceBound,asIntOf,h1,hS,cutA]
theorem r_slice_lh {u v:Nat}(ht:P.underlying t=some (.slice e))(hS: ∀w,(sizeOf e).run P w=.ok sz w)(hx:a.eval x=.slice A len c)(hl:a.eval lo=.int k p)(hh:a.eval hi=.int k1 q)(hp:p=(u:Int))(hq:q=(v:Int))(h1:u<=v)(h2:v<=c):
  (execOp a.eval ⟨d,.slice t x (some lo) (some hi) none,T,pos,af,gd⟩).run P w=.ok (.value (.slice (cutA A c u sz) (v-u) (c-u))) w:=by
 subst hp;subst hq
 simp[execOp,Instr.sliceAt,run_underlying ht,hx,hl,hh,Instr.slice,Instr.sliceBounds,Instr.sliceBound,asIntOf,h1,h2,hS,cutA]
theorem r_eqnil {ty:TypeId}{y:Operand}(ht:P.underlying t=some (.slice e))(hx:a.eval x=.slice A len c)(hy:a.eval y=.slice none 0 0):
  (execOp a.eval ⟨d,.binOp .eql t x y ty,T,pos,af,gd⟩).run P w=.ok (.value (.bool A.isNone)) w:=by
 have h: ∀m,(Op.equalIn (m+1) t (.slice A len c) (.slice none 0 0)).run P w=.ok A.isNone w:=fun m=>by
  cases A<;>simp[Op.equalIn,run_underlying ht]
 have h2:(Op.equal t (.slice A len c) (.slice none 0 0)).run P w=.ok A.isNone w:=h 9999
 simp[execOp,hx,hy,eqGuard_at_slice,binOp,h2]
end
theorem r_callv {f:FuncId}{c:Operand}{xs:List Operand}{vs first cap:List Value}{ts:Array TypeId}(hcf: ∀args w,(callFunc f args).run P w=.ok (.enter f args) w)(hf:Fr a n ds l)
  (hc:ev l c=some (.func (.func f) first.toArray cap.toArray)) (hx:evs l xs=some vs):
  (execOp a.eval ⟨d,.call {callee:=.value c,args:=xs.toArray,argTypes:=ts},T,pos,af,gd⟩).run P w=.ok (.enter f (first++vs++cap).toArray) w:=by
 have h:=hf.evals xs hx
 have h2:=hf.eval hc
 simp only[execOp,resolve,h,h2]
 simp[Deferred.ofValue,invoke,hcf]
theorem r_defer {f:FuncId}{xs:List Operand}{vs:List Value}{ts:Array TypeId}(hf:Fr a n ds l)(hx:evs l xs=some vs):
  (execOp a.eval ⟨d,.defer {callee:=.value (.func f),args:=xs.toArray,argTypes:=ts},T,pos,af,gd⟩).run P w=.ok (.defer {target:=.fn (.func f) #[],args:=vs.toArray}) w:=by
 have h:=hf.evals xs hx
 simp only[execOp,resolve,h]
 simp[Act.eval,Deferred.ofValue]
end
section
variable {r:Option Nat}{P:Program}{ops:Array Oper}{Q:Exit->Act->World->Prop}{a:Act}{w:World}{rest:List Oper}{n:Nat}{ds:List Deferred}{l:List (Nat×Value)}{d:Nat}{T:TypeId}{pos:String}{af:Array Edge}
theorem st_box {e:TypeId}{x:Operand}{v:Value}{cs:List Value}(hf:Fr a n ds l)(hd:Nat.ble (d+1) n=true)(hx:ev l x=some v)(hc:v.cells=cs.toArray)
  (h: ∀g w' a',g=w.heap.size->w'.heap.size=g+1->Blk w' g e cs->Ch [] w w'->Fr a' n ds ((d,.pointer (some ⟨g,0,none⟩))::l)->WL r P ops Q rest a' w'):
  WL r P ops Q (⟨some d,.box e x,T,pos,af,none⟩::rest) a w:=
 valw (w':=w.alloc (.cells cs.toArray e)) (v:=.pointer (some ⟨w.heap.size,0,none⟩)) hf hd (by simp[execOp,hf.eval hx,Instr.box,newVar,newRow,hc])
  fun a' hf'=>h _ _ a' rfl (by simp) (Blk.new w e cs) (Ch.alloc w _) hf'
theorem st_alloc {e:TypeId}{z:Value}{cs:List Value}(hf:Fr a n ds l)(hd:Nat.ble (d+1) n=true)(hz: ∀w,(zeroValue e).run P w=.ok z w)(hc:z.cells=cs.toArray)
  (h: ∀g w' a',g=w.heap.size->w'.heap.size=g+1->Blk w' g e cs->Ch [] w w'->Fr a' n ds ((d,.pointer (some ⟨g,0,none⟩))::l)->WL r P ops Q rest a' w'):
  WL r P ops Q (⟨some d,.alloc e,T,pos,af,none⟩::rest) a w:=
 valw (w':=w.alloc (.cells cs.toArray e)) (v:=.pointer (some ⟨w.heap.size,0,none⟩)) hf hd (by simp[execOp,Instr.alloc,hz,newVar,newRow,hc])
  fun a' hf'=>h _ _ a' rfl (by simp) (Blk.new w e cs) (Ch.alloc w _) hf'
theorem run_bslice {t e:TypeId}{len sz:Nat}{z:Value}{vs:List (Nat×Value)}{cs:List Value}(ht:P.underlying t=some (.slice e))(hS: ∀w,(sizeOf e).run P w=.ok sz w)(hz: ∀w,(zeroValue e).run P w=.ok z w)
  (hs:len*sz<=2^24) (h0:len*sz≠0) (hc:Instr.fill (fun i=>some (i*sz,sz)) ((Array.range (len*sz)).map (z.cells[· %z.cells.size]!)) vs=some cs.toArray):
  (Instr.buildSlice t len vs.toArray).run P w=.ok (.slice (some ⟨w.heap.size,0,none⟩) len len) (w.alloc (.cells cs.toArray e)):=by
 have h1: ¬2^24<len*sz:=by omega
 simp only[Instr.buildSlice,Sem.run_bind,run_underlying ht,Result.andThen_ok,hS,h1,Wu,h0,hz,Sem.run_pure,hc,newRow,run_newObj,gt_iff_lt]
 rfl
theorem st_bslice {t e:TypeId}{len sz:Nat}{z:Value}{parts:List (Nat×Operand)}{vs:List (Nat×Value)}{cs:List Value}(hf:Fr a n ds l)(hd:Nat.ble (d+1) n=true)(ht:P.underlying t=some (.slice e))(hS: ∀w,(sizeOf e).run P w=.ok sz w)
  (hz: ∀w,(zeroValue e).run P w=.ok z w) (hp:evp l parts=some vs) (hs:Nat.ble (len*sz) 16777216=true) (h0:Nat.ble 1 (len*sz)=true)
  (hc:Instr.fill (fun i=>some (i*sz,sz)) ((Array.range (len*sz)).map (z.cells[· %z.cells.size]!)) vs=some cs.toArray)
  (h: ∀g w' a',g=w.heap.size->w'.heap.size=g+1->Blk w' g e cs->Ch [] w w'->Fr a' n ds ((d,.slice (some ⟨g,0,none⟩) len len)::l)->WL r P ops Q rest a' w'):
  WL r P ops Q (⟨some d,.buildSlice t len parts.toArray,T,pos,af,none⟩::rest) a w:=
 valw (w':=w.alloc (.cells cs.toArray e)) (v:=.slice (some ⟨w.heap.size,0,none⟩) len len) hf hd (by
  have hb:=run_bslice (P:=P) (w:=w) ht hS hz (Qi hs) (by have:=Qi h0;omega) hc
  have hev:=hf.evalp parts hp
  simp only[execOp,hev,Sem.run_bind,hb,Result.andThen_ok,Sem.run_pure])
  fun a' hf'=>h _ _ a' rfl (by simp) (Blk.new w e cs) (Ch.alloc w _) hf'
theorem st_bslice0 {t e:TypeId}{sz:Nat}(hf:Fr a n ds l)(hd:Nat.ble (d+1) n=true)(ht:P.underlying t=some (.slice e))(hS: ∀w,(sizeOf e).run P w=.ok sz w)
  (h: ∀g w' a',g=w.heap.size->w'.heap.size=g+1->Blk w' g e []->Ch [] w w'->Fr a' n ds ((d,.slice (some ⟨g,0,none⟩) 0 0)::l)->WL r P ops Q rest a' w'):
  WL r P ops Q (⟨some d,.buildSlice t 0 #[],T,pos,af,none⟩::rest) a w:=
 valw (w':=w.alloc (.cells ([]:List Value).toArray e)) (v:=.slice (some ⟨w.heap.size,0,none⟩) 0 0) hf hd (by
  simp only[execOp,Instr.buildSlice,Sem.run_bind,run_underlying ht,Result.andThen_ok,hS,Y0]
  simp[Instr.fill,newRow,Array.range_zero'])
  fun a' hf'=>h _ _ a' rfl (by simp) (Blk.new w e []) (Ch.alloc w _) hf'
theorem run_storeB {t bt:TypeId}{g o m:Nat}{cs new:List Value}{v:Value}(hb:Blk w g bt cs)(hS: ∀w,(sizeOf t).run P w=.ok m w)(hv:v.cells=new.toArray)(hm:new.length=m)(ho:o+m<=cs.length)(h1: ∀u∈new,u.oneCell'=true):
  (Instr.storeAt t (.pointer (some ⟨g,o,none⟩)) v).run P w=.ok () (w.setRow g (cs.take o++new++cs.drop (o+m)).toArray):=by
 have:=run_storeCells_at P g o bt new 0 cs.toArray w hb (by simp;omega) h1
 simp only[Yo]at this
 simp only[Instr.storeAt,Instr.sureAddr,Sem.run_bind,Sem.run_pure,Result.andThen_ok,storeVar,hS,hv,Xs,hm,ne_eq,not_true,Wu]
 rw[this,hm]
theorem Blk.setRow {g:Nat}{bt:TypeId}{cs cs':List Value}(hb:Blk w g bt cs):Blk (w.setRow g cs'.toArray) g bt cs':=setRow_heap w g cs.toArray cs'.toArray bt (0,0) hb
theorem st_store {t bt:TypeId}{x y:Operand}{g o m:Nat}{cs new cs':List Value}{v:Value}(hf:Fr a n ds l)(hb:Blk w g bt cs)(hx:ev l x=some (.pointer (some ⟨g,o,none⟩)))(hy:ev l y=some v)(hS: ∀w,(sizeOf t).run P w=.ok m w)
  (hv:v.cells=new.toArray) (hm:new.length=m) (ho:Nat.ble (o+m) cs.length=true) (h1: ∀u∈new,u.oneCell'=true) (hc:cs.take o++new++cs.drop (o+m)=cs')
  (h: ∀w' a',w'.heap.size=w.heap.size->Blk w' g bt cs'->Ch [g] w w'->Fr a' n ds l->WL r P ops Q rest a' w'):
  WL r P ops Q (⟨none,.store t x y,T,pos,af,none⟩::rest) a w:=
 skipw (w':=w.setRow g cs'.toArray) hf (by
  have hr:=run_storeB (P:=P) hb hS hv hm (Qi ho) h1
  rw[hc]at hr
  simp only[execOp,hf.eval hx,hf.eval hy,Sem.run_bind,hr,Result.andThen_ok,Sem.run_pure])
  fun a' hf'=>h _ a' (by simp[World.setRow]) hb.setRow (Ch.setRow w g _) hf'
end
section
variable {r:Option Nat}{P:Program}{ops:Array Oper}{Q:Exit->Act->World->Prop}{a:Act}{w:World}{rest:List Oper}{n:Nat}{ds:List Deferred}{l:List (Nat×Value)}{d:Nat}{T:TypeId}{pos:String}{af:Array Edge}
end
section
variable {r:Option Nat}{P:Program}{ops:Array Oper}{Q:Exit->Act->World->Prop}{S:World->Prop}{a:Act}{w:World}{n:Nat}{ds:List Deferred}{l:List (Nat×Value)}{fuel:Nat}{listed:Array Bool}
def Hel (r:Option Nat)(P:Program)(ops:Array Oper)(Q:Exit->Act->World->Prop)(S:World->Prop):Nat->Array Bool->Act->World->Prop
 |0,listed,a,w=>Region.ready .any ops listed=[]/\Q .normal a w
 |f+1,listed,a,w=>(Region.ready .any ops listed=[]->Q .normal a w)/\
  ∀i∈Region.ready .any ops listed,wpOpIn (FW r) 0 P ops Q i (fun a' w'=>S w'/\Hel r P ops Q S f (listed.setIfInBounds i true) a' w') a w
theorem Hel.any: ∀(f:Nat) (listed:Array Bool) (a:Act) (w:World),Hel r P ops Q S f listed a w->wpAnyIn (FW r) 0 P .any ops Q f listed a w
 |0,_,_,_,h=>h
 |f+1,_,_,_,h=>⟨h.1,fun i hi=>wpOpIn_mono (fun a' w' h'=>Hel.any f _ a' w' h'.2) (h.2 i hi)⟩
def Qbx (ops:Array Oper):Bool:=ops.toList.all fun o=>match o.op with| .defer _=>false|_=>true
theorem Qbt (h:Qbx ops=true){j:Nat}{o:Oper}(hj:ops[j]?=some o): ∀c,o.op≠ .defer c:=fun c hc=>by
 have:=Qx.1 h o (Qt (i:=j) (by rw[Wh];exact hj))
 simp[hc]at this
theorem Qgb {ρ:Operand->Value}{o:Oper}(h: ∀c,o.op≠ .defer c):o.semAt r ρ=execOp ρ o:=by
 cases r with
 |none=>exact Oper.semAt_none ρ o
 |some l=>exact Oper.semAt_some l ρ o h
theorem Hel.put {j:Nat}{oi oj:Oper}{v:Value}(hnd: ∀c,oj.op≠ .defer c)(hj:ops[j]?=some oj)(hap:oi.apart ops oj=true)(hsi: ∀cs b,oi.op≠ .select cs b)(hsj: ∀cs b,oj.op≠ .select cs b)
  (hQ: ∀c a w,Q (.panic c) (a.put oi.dst v) w->Q (.panic c) a w) {K:Act->World->Prop} (hy:YieldsIf P ops S oi v a) (h:wpOpIn (FW r) 0 P ops Q j K (a.put oi.dst v) w):
  wpOpIn (FW r) 0 P ops Q j (fun a' w'=>YieldsIf P ops S oi v a'/\K (a'.put oi.dst v) w') a w:=by
 obtain⟨h1,h2,h3⟩:=Oper.apart_spec hap
 have kp1: ∀(a:Act),YieldsIf P ops S oi v a->∀u,YieldsIf P ops S oi v (a.put oj.dst u):=fun a hy u=>hy.of_same (execOp_put oi hsi a oj.dst u h3) (wanted_put oi a oj.dst u h3)
 have kp2: ∀d,YieldsIf P ops S oi v {a with defers:=d::a.defers}:=fun d=>hy.of_same rfl rfl
 unfold wpOpIn at*
 rw[hj]at h ⊢
 simp only[]at h ⊢
 rw[wanted_put oj a oi.dst v h1]at h
 by_cases hw:Region.wanted oj (yielded ops a.tmps)=true
 ·rw[Qj hw]at h ⊢
  refine⟨fun _ _=>trivial,?_⟩
  have h:=h.2
  rw[Qgb hnd,execOp_put oj hsj a oi.dst v h1]at h
  rw[Qgb hnd]
  generalize (execOp a.eval oj).run P w=res at h ⊢
  cases res with
  |ok x w'=>
   cases x with
   |value u=>exact⟨kp1 a hy u,by rw[<-Act.put_comm a v u h2];exact h⟩
   |skip=>exact⟨kp1 a hy _,by rw[<-Act.put_comm a v undef h2];exact h⟩
   |defer d=>exact⟨kp1 _ (kp2 d) _,by rw[<-Act.put_comm _ v undef h2,<-Act.put_defers];exact h⟩
   |enter f args=>
    refine⟨h.1,CallsIn.mono h.2 fun e w'' he=>?_⟩
    cases e with
    |returned u=>exact⟨kp1 a hy u,by rw[<-Act.put_comm a v u h2];exact he⟩
    |panicked c=>exact hQ _ _ _ he
    |outgrown=>exact he
   |row row args=>exact⟨h.1,RowsIn.mono h.2 fun u w'' he=>⟨kp1 a hy u,by rw[<-Act.put_comm a v u h2];exact he⟩⟩
   |round l f tmps assign body=>
    refine⟨h.1,RoundIn.mono h.2 fun e w'' he=>?_⟩
    cases e with
    |returned u=>exact⟨kp1 a hy u,by rw[<-Act.put_comm a v u h2];exact he⟩
    |panicked c=>exact hQ _ _ _ he
    |outgrown=>exact he
   |_=>exact h
  |halt x w'=>cases x<;>first|exact hQ _ _ _ h|exact h
 ·rw[Qd hw]at h ⊢
  exact⟨fun _ _=>trivial,kp1 a hy _,by rw[<-Act.put_comm a v undef h2];exact h.2⟩
theorem Hel.op {i:Nat}{o:Oper}{v:Value}(hnd: ∀c,o.op≠ .defer c)(hi:ops[i]?=some o)(hy:YieldsIf P ops S o v a){K:Act->World->Prop}(hS:S w)(h:K (a.put o.dst v) w):wpOpIn (FW r) 0 P ops Q i K a w:=by
 unfold wpOpIn
 rw[hi]
 simp only[]
 rcases hy with⟨hw,hv⟩|⟨hw,rfl⟩
 ·rw[Qj hw]
  exact⟨fun _ _=>trivial,by rw[Qgb hnd,hv w hS];exact h⟩
 ·rw[Qd (by rw[hw];decide)]
  exact⟨fun _ _=>trivial,h⟩
theorem Qci {dst:Option Tmp}{op:Op}{T:TypeId}{pos:String}{af:Array Edge}{y:Nat->Option Bool}:Region.wanted ⟨dst,op,T,pos,af,none⟩ y=true:=by simp[Region.wanted]
theorem Qck {dst:Option Tmp}{op:Op}{T:TypeId}{pos:String}{af:Array Edge}{j dj:Nat}{b:Bool}(hf:Fr a n ds l)(hj:(ops[j]?).bind (·.dst)=some dj)(hb:lk l dj=some (.bool b)):Region.wanted ⟨dst,op,T,pos,af,some (j,b)⟩ (yielded ops a.tmps)=true:=by
 simp[Region.wanted,yielded,hj,hf.get _ _ hb]
theorem Qcx {dst:Option Tmp}{op:Op}{T:TypeId}{pos:String}{af:Array Edge}{j dj:Nat}{b:Bool}{u:Value}(hf:Fr a n ds l)(hj:(ops[j]?).bind (·.dst)=some dj)(hb:lk l dj=some u)(hu:u=.bool (!b)\/u=undef):
  Region.wanted ⟨dst,op,T,pos,af,some (j,b)⟩ (yielded ops a.tmps)=false:=by
 rcases hu with rfl|rfl<;>simp[Region.wanted,yielded,hj,hf.get _ _ hb,undef]
end
def Pq (Q:Exit->Act->World->Prop):Prop:=∀c a d v w,Q (.panic c) (Act.put a d v) w->Q (.panic c) a w
theorem put_defers (a:Act)(d:Option Tmp)(v:Value):(a.put d v).defers=a.defers:=by cases d<;>rfl
theorem Pq.body (P:Program)(fn:Func)(R:Ending->World->Prop):Pq (bodyPost P fn R):=fun c a d v w h=>by
 obtain⟨h1,h2⟩:=h
 rw[put_defers]at h1
 exact⟨h1,h2⟩
section
variable {r:Option Nat}{P:Program}{Q:Exit->Act->World->Prop}{a:Act}{w:World}{n:Nat}{ds:List Deferred}{l:List (Nat×Value)}
theorem r_indexAddrA {d:Option Tmp}{T:TypeId}{pos:String}{af:Array Edge}{gd:Option (Nat×Bool)}{t e:TypeId}{x y:Operand}{g:Nat}{A:Option Addr}{ad:Addr}{len c:Nat}{i:Int}{kd:IntKind}{k:Nat}(ht:P.underlying t=some (.slice e))(hS: ∀w,(sizeOf e).run P w=.ok g w)(hx:a.eval x=.slice A len c)(hA:A=some ad)(hy:a.eval y=.int kd i)(hi:i=(k:Int))(h1:k<len):
  (execOp a.eval ⟨d,.indexAddr t x y,T,pos,af,gd⟩).run P w=.ok (.value (.pointer (some (ad.add (k*g))))) w:=by
 subst hA;subst hi
 have:=r_indexAddr (P:=P) (a:=a) (w:=w) (d:=d) (T:=T) (pos:=pos) (af:=af) (gd:=gd) ht hS hx hy (by omega) (by omega)
 simpa using this
end
theorem Qan: ∀t:Ty,0<t.size
 | .pair a _=>by have:=Qan a;simp only[Ty.size];omega
 | .int _=>by simp[Ty.size]
 | .byte=>by simp[Ty.size]
 | .bool=>by simp[Ty.size]
 | .str=>by simp[Ty.size]
 | .slice _=>by simp[Ty.size]
def Ty.ok:(t:Ty)->t.den->Prop
 | .int k,x=>k.has x
 | .byte,_=>True
 | .bool,_=>True
 | .str,x=>x.size<=maxLen
 | .slice e,xs=>xs.length<=maxLen/\∀x∈xs,e.ok x
 | .pair a b,x=>a.ok x.1/\b.ok x.2
theorem rep_ok {w:World}{F:Nat->Prop}: ∀(t:Ty) {cs:List Value} {x:t.den},t.rep w F cs x->t.ok x
 | .int _,_,_,h=>h.2
 | .byte,_,_,_=>trivial
 | .bool,_,_,_=>trivial
 | .str,_,_,h=>h.2
 | .slice e,_,xs,h=>by
  obtain⟨A,c,cells,h1,h2,h3,h4,h5,h6⟩:=h
  refine⟨by omega,fun x hx=>?_⟩
  obtain⟨i,hi,rfl⟩:=Xe hx
  exact rep_ok e (h6 i _ (Qh hi))
 | .pair a b,_,_,h=>by
  obtain⟨ca,cb,h,ha,hb⟩:=h
  exact⟨rep_ok a ha,rep_ok b hb⟩
theorem i64_has {n:Int}(h: -9223372036854775808<=n/\n<=9223372036854775807):IntKind.i64.has n:=by
 simpa[IntKind.has,IntKind.min,IntKind.max,IntKind.bits,IntKind.signed] using h
theorem Qac {w:World}{F:Nat->Prop}: ∀(t:Ty) {cs:List Value} {x:t.den},t.rep w F cs x->t.rep w (fun b=>F b/\b<w.heap.size) cs x
 | .int _,_,_,h=>h
 | .byte,_,_,h=>h
 | .bool,_,_,h=>h
 | .str,_,_,h=>h
 | .slice e,_,xs,h=>by
  obtain⟨A,c,cells,h1,h2,h3,h4,h5,h6⟩:=h
  by_cases hz:cells.length=0
  ·have h7: ∀i x,xs[i]?=some x->e.size=0:=fun i x hi=>by
    have hl:=(Qb.1 hi).1
    rw[hz]at h4
    rcases Nat.mul_eq_zero.1 h4.symm with h|h
    ·omega
    ·exact h
   refine⟨A,c,cells,h1,h2,h3,h4,?_,fun i x hi=>Qac e (h6 i x hi)⟩
   by_cases hx:xs.length=0
   ·exact .inl hx
   ·have hp:=Qan e
    rw[hz]at h4
    rcases Nat.mul_eq_zero.1 h4.symm with h|h<;>omega
  ·refine⟨A,c,cells,h1,h2,h3,h4,?_,fun i x hi=>Qac e (h6 i x hi)⟩
   rcases h5 with h5|⟨b,o,hA,hb,hc⟩
   ·exact .inl h5
   ·exact .inr ⟨b,o,hA,⟨hb,World.block_lt_of_cell? w _ (hc 0 _ (Qh (by omega)))⟩,hc⟩
 | .pair a b,_,_,h=>by
  obtain⟨ca,cb,h,ha,hb⟩:=h
  exact⟨ca,cb,h,Qac a ha,Qac b hb⟩
def iv (lo hi:Nat):Nat->Prop:=fun b=>lo<=b/\b<hi
@[reducible] def no:Nat->Prop:=fun _=>False
def Cells (w:World)(E:Addr)(es:List Value):Prop:=∀j u,es[j]?=some u->w.cell? (E.add j)=some u
theorem Cells.ch {w w':World}{E:Addr}{es:List Value}{S:List Nat}(h:Cells w E es)(hc:Ch S w w')(hE:E.block<w.heap.size->E.block∉S):Cells w' E es:=fun j u hu=>by
 have h1:=h j u hu
 have hb:(E.add j).block=E.block:=by unfold Addr.add;split<;>rfl
 have hl:=World.block_lt_of_cell? w _ h1
 rw[hc.cell hl (by rw[hb]at hl ⊢;exact hE hl)]
 exact h1
section
variable {P:Program}{a:Act}{w:World}{d:Option Tmp}{T:TypeId}{pos:String}{af:Array Edge}{gd:Option (Nat×Bool)}
theorem add_add (E:Addr)(i j:Nat):(E.add i).add j=E.add (i+j):=by
 unfold Addr.add
 by_cases hi:i=0<;>by_cases hj:j=0<;>simp[hi,hj,Xb]
end
theorem u8_of {m:Int}(h:0<=m/\m<=255):m=((UInt8.ofNat m.toNat).toNat:Int):=by
 have:(UInt8.ofNat m.toNat).toNat=m.toNat%256:=by simp
 omega
section
variable {P:Program}{a:Act}{w:World}{d:Option Tmp}{T:TypeId}{pos:String}{af:Array Edge}{gd:Option (Nat×Bool)}
theorem r_convw {src dst:TypeId}{x:Operand}{k k':IntKind}{n m:Int}{de:TypeDesc}(hs:P.underlying src=some de)(hd:P.underlying dst=some (.int k'))(hx:a.eval x=.int k n)(hw:k'.wrap n=m):(execOp a.eval ⟨d,.convert src dst x,T,pos,af,gd⟩).run P w=.ok (.value (.int k' m)) w:=by
 rw[r_conv hs hd hx,hw]
theorem r_quow {t ty:TypeId}{x y:Operand}{k:IntKind}{m n u:Int}(hx:a.eval x=.int k m)(hy:a.eval y=.int k n)(h0:n≠0)(hw:k.wrap (m.tdiv n)=u):(execOp a.eval ⟨d,.binOp .quo t x y ty,T,pos,af,gd⟩).run P w=.ok (.value (.int k u)) w:=by rw[r_quo hx hy h0,hw]
end
theorem slice_n {A:Option Addr}{n m c:Nat}(h:n=m):Value.slice A n c=Value.slice A m c:=by rw[h]
def nt (M:List Nat):Nat->Prop:=fun b=>b∉M
def ol (M:List Nat)(n:Nat):Nat->Prop:=fun b=>b∉M/\b<n
theorem rep_to {t:Ty}{w w':World}{F F':Nat->Prop}{S:List Nat}{cs:List Value}{x:t.den}(h:t.rep w F cs x)(hc:Ch S w w')(hF: ∀b,F b->b<w.heap.size->b∉S/\F' b:=by intro b h1 h2;(try simp only[Go.Z.nt,Go.Z.iv,Go.Z.no,Go.Z.ol,Qk,List.not_mem_nil,or_false,not_or,not_false_eq_true]at h1);(try simp only[Go.Z.nt,Go.Z.iv,Go.Z.no,Go.Z.ol,Qk,Q0,List.not_mem_nil,or_false,not_or,not_false_eq_true,true_and,and_true])<;>omega):t.rep w' F' cs x:=by
 have h1:t.rep w (fun b=>F b/\b<w.heap.size) cs x:=Qac t h
 exact rep_keep (fun p hp hl=>hc.cell hl (hF _ hp.1 hl).1) (fun b hb=>(hF b hb.1 hb.2).2) t h1
theorem Qhe {t:Ty}{w:World}{F F':Nat->Prop}{cs:List Value}{x:t.den}(h:t.rep w F cs x)(hF: ∀b,F b->b<w.heap.size->F' b):t.rep w F' cs x:=
 rep_to h (Ch.refl w) fun b h1 h2=>⟨by simp,hF b h1 h2⟩
theorem Own.to {t:Ty}{e:TypeId}{B:Nat}{w w':World}{F F':Nat->Prop}{A:Option Addr}{c:Nat}{xs:List t.den}{S:List Nat}(h:Own t e B w F A c xs)(hc:Ch S w w')(hA: ∀k,k∈obl A->B<=k->k<w.heap.size->k∉S)(hF: ∀b,F b->b<w.heap.size->b∉S/\F' b):Own t e B w' F' A c xs:=by
 have hlt:=h.lt
 obtain⟨cells,hr,h1,h2⟩:=h
 refine⟨cells,⟨hr.1,?_⟩,h1,fun i x hi=>rep_to (h2 i x hi) hc hF⟩
 rcases hr.2 with h3|⟨g,cap,cur,hv,hb,hg,rest⟩
 ·exact .inl h3
 ·refine .inr ⟨g,cap,cur,hv,hb,?_,rest⟩
  injection hv with hA' _ _
  have hm:g∈obl A:=by rw[hA'];simp[obl]
  rw[hc.block g (Qp.1 hg).1 (hA g hm (hlt g hm).1 (hlt g hm).2)]
  exact hg
def bv (b:UInt8):Value:=.int .u8 (b.toNat:Int)
def FB (w:World)(g:Nat)(e:TypeId)(u:Nat)(done:List UInt8):Prop:=
 ∃rest:List Value,Blk w g e (done.map bv++rest)/\u<=done.length+rest.length/\done.length+rest.length<=maxLen
theorem FB.rep {w:World}{g:Nat}{e:TypeId}{u:Nat}{done:List UInt8}{F:Nat->Prop}{c:Nat}(h:FB w g e u done)(hl:done.length=u)(hF:F g)(hc:u<=c)(hm:c<=maxLen):(Ty.slice .byte).rep w F [.slice (some ⟨g,0,none⟩) done.length c] done:=by
 obtain⟨r,hb,h1,h2⟩:=h
 refine⟨_,_,done.map bv,rfl,by omega,hm,by simp[Ty.size],.inr ⟨g,0,rfl,hF,fun j v hj=>?_⟩,fun i x hi=>?_⟩
 ·rw[hb.cell,Wm,Q2 (by have:=(Qb.1 hj).1;exact this)]
  exact hj
 ·show _=_
  have hlt:=(Qb.1 hi).1
  simp only[Ty.size,Ym]
  have:(done.map bv).drop i=bv x::(done.map bv).drop (i+1):=by
   rw[X2 (by simpa using hlt)]
   congr 1
   rw[Jm]
   rw[(Qb.1 hi).2]
  rw[this]
  rfl
section
variable {r:Option Nat}{P:Program}{ops:Array Oper}{Q:Exit->Act->World->Prop}{a:Act}{w:World}{rest:List Oper}{n:Nat}{ds:List Deferred}{l:List (Nat×Value)}{d:Nat}{T:TypeId}{pos:String}{af:Array Edge}
end
end Go.Z
end
section
namespace Go.Z
open Go.RowKit Go.Lib
section
variable {P:Program}{a:Act}{w:World}{d:Option Tmp}{T:TypeId}{pos:String}{af:Array Edge}{gd:Option (Nat×Bool)}
end
section
variable {r:Option Nat}{P:Program}{ops:Array Oper}{Q:Exit->Act->World->Prop}{a:Act}{w:World}{rest:List Oper}{n:Nat}{ds:List Deferred}{l:List (Nat×Value)}{d:Nat}{T:TypeId}{pos:String}{af:Array Edge}
end
end Go.Z
end
section
namespace Go.Z
open Go.RowKit
section
variable {r:Option Nat}{P:Program}{Q:Exit->Act->World->Prop}{a:Act}{w:World}{n:Nat}{ds:List Deferred}{l:List (Nat×Value)}
theorem seqn {x y:Code}(h: ∀Q':Exit->Act->World->Prop,(∀a w,WP r P y Q a w->Q' .normal a w)->(∀e a w,e≠ .normal->Q e a w->Q' e a w)->WP r P x Q' a w):WP r P (Code.seq x y) Q a w:=by
 refine wpIn_seq (h _ (fun _ _ h=>h) (fun e a w hne hq=>?_))
 cases e<;>first|exact hq|exact absurd rfl hne
def Rec (u:FrameMode)(v:Value)(u':FrameMode):Prop:=
 (u=.returning/\v=.nilIface/\u'=.returning)\/(∃older,u=.panicking ({v,recovered:=false,goexit:=false}::older)/\u'=.panicking ({v,recovered:=true}::older))
theorem Qfd {fn:Func}{R:Ending->World->Prop}{u':FrameMode}{c₀:Frame}{cs:List Frame}(e:Exit)(a:Act)(w:World)(h:bodyPost P fn R e a w):
  bodyPostS P fn c₀ cs (fun e u2 w'=>u2=u'/\R e w') e a ({c₀ with mode:=u'}::cs) w:=by
 cases e with
 |normal=>exact⟨h.1,u',rfl,h.2.elim fun v hv=>⟨v,hv.1,rfl,hv.2⟩⟩
 |ret=>exact⟨h.1,u',rfl,h.2.elim fun v hv=>⟨v,hv.1,rfl,hv.2⟩⟩
 |panic c=>exact⟨h.1,u',rfl,rfl,h.2⟩
 |exit _=>exact h.elim
 |goto _=>exact h.elim
 |outgrown=>exact⟨u',rfl,h⟩
section
variable {d:Option Tmp}{T:TypeId}{pos:String}{af:Array Edge}{gd:Option (Nat×Bool)}{t ty e0:TypeId}{x:Operand}{v:Value}
theorem r_eqif_nil {ms:Array (String×TypeId)}(ht:P.underlying t=some (.interface ms))(hx:a.eval x=.nilIface):(execOp a.eval ⟨d,.binOp .eql t x (.const .nilIface) ty,T,pos,af,gd⟩).run P w=.ok (.value (.bool true)) w:=by
 have hy:a.eval (.const .nilIface)=.nilIface:=rfl
 have h: ∀m,(Op.equalIn (m+1) t .nilIface .nilIface).run P w=.ok true w:=fun m=>by simp[Op.equalIn,run_underlying ht]
 have h2:(Op.equal t .nilIface .nilIface).run P w=.ok true w:=h 9999
 simp[execOp,hx,hy,eqGuard,binOp,h2]
end
end
def EqV (P:Program)(d:Nat)(t:TypeId)(x y:Value)(b:Bool):Prop:=∀w,(Op.equalIn d t x y).run P w=.ok b w
def EqF (P:Program)(d:Nat)(xs ys:Array Value)(fs:List Field)(b:Bool):Prop:=∀w,(Op.eqFields d xs ys fs).run P w=.ok b w
def EqI (P:Program)(d:Nat)(e:TypeId)(c:Nat)(xs ys:Array Value)(is:List Nat)(b:Bool):Prop:=∀w,(Op.eqItems d e c xs ys is).run P w=.ok b w
section
variable {P:Program}{d:Nat}{t e:TypeId}
theorem eq_int {k k':IntKind}{a b:Int}(h:P.underlying t=some (.int k')):EqV P (d+1) t (.int k a) (.int k b) (decide (a=b)):=fun w=>by
 rw[run_equalIn_int w d t k k' a b h];rfl
theorem eq_bool {a b:Bool}(h:P.underlying t=some .bool):EqV P (d+1) t (.bool a) (.bool b) (decide (a=b)):=fun w=>by
 rw[Qbo h];cases a<;>cases b<;>rfl
theorem eq_str {a b:ByteArray}(h:P.underlying t=some .string):EqV P (d+1) t (.string a) (.string b) (decide (a=b)):=fun w=>by
 rw[run_equalIn_string w d t a b h,str_eq]
theorem part_one {xs:Array Value}{o:Nat}{v:Value}(w:World)(hA: ∀w,(isAgg t).run P w=.ok false w)(h:xs[o]?=some v):(part t xs o).run P w=.ok v w:=by simp[part,hA,h]
theorem part_agg {xs zs:Array Value}{o n:Nat}(w:World)(hA: ∀w,(isAgg t).run P w=.ok true w)(hS: ∀w,(sizeOf t).run P w=.ok n w)(h:xs.extract o (o+n)=zs):(part t xs o).run P w=.ok (.agg zs) w:=by simp[part,hA,hS,h]
theorem eqf_nil {xs ys:Array Value}:EqF P d xs ys [] true:=fun w=>by simp[Op.eqFields]
theorem eqf_cons {xs ys:Array Value}{f:Field}{fs:List Field}{a b:Value}{r r':Bool}(hn:(f.name != "_")=true)(ha: ∀w,(part f.type xs f.offset).run P w=.ok a w)(hb: ∀w,(part f.type ys f.offset).run P w=.ok b w)
  (he:EqV P d f.type a b r) (h:EqF P d xs ys fs r'):EqF P d xs ys (f::fs) (r&&r'):=fun w=>by
 have hn':f.name≠ "_" :=by simpa using hn
 have h1:=he w;have h2:=h w
 cases r<;>simp[Op.eqFields,hn',ha,hb,h1,h2]
theorem eqi_nil {xs ys:Array Value}{c:Nat}:EqI P d e c xs ys [] true:=fun w=>by simp[Op.eqItems]
theorem eqi_cons {xs ys:Array Value}{c i:Nat}{is:List Nat}{a b:Value}{r r':Bool}(ha: ∀w,(part e xs (i*c)).run P w=.ok a w)(hb: ∀w,(part e ys (i*c)).run P w=.ok b w)
  (he:EqV P d e a b r) (h:EqI P d e c xs ys is r'):EqI P d e c xs ys (i::is) (r&&r'):=fun w=>by
 have h1:=he w;have h2:=h w
 cases r<;>simp[Op.eqItems,ha,hb,h1,h2]
theorem eq_struct {xs ys:Array Value}{fs:List Field}{r:Bool}(hu:P.underlying t=some (.struct fs.toArray))(hs:P.stoodInHeld t=false)(h:EqF P d xs ys fs r):EqV P (d+1) t (.agg xs) (.agg ys) r:=fun w=>by
 have hf:P.fieldsOf t=fs.toArray:=by simp[Program.fieldsOf,hu]
 rw[run_equalIn_struct w d t xs ys (by rw[hf];exact hu) hs,hf];exact h w
theorem eq_array {xs ys:Array Value}{n c:Nat}{i:TypeInfo}{is:List Nat}{r:Bool}(hu:P.underlying t=some (.array n e))(hi:P.info? e=some i)(hc:P.cellsOf e=c)(his:List.range n=is)(h:EqI P d e c xs ys is r):EqV P (d+1) t (.agg xs) (.agg ys) r:=fun w=>by
 rw[run_equalIn_array w d xs ys hu hi,hc,his];exact h w
theorem decide_pair {α β:Type}[DecidableEq α][DecidableEq β](x y:α×β):decide (x=y)=(decide (x.1=y.1)&&decide (x.2=y.2)):=by
 rw[<-Bool.decide_and];exact decide_eq_decide.2 Prod.ext_iff
section
variable {a:Act}{w:World}{dd:Option Tmp}{T ty:TypeId}{pos:String}{af:Array Edge}{gd:Option (Nat×Bool)}{x y:Operand}
theorem r_eqagg {xs ys:Array Value}{b:Bool}(h:EqV P 10000 t (.agg xs) (.agg ys) b)(hm:P.eqGuardType P.depth t=false)(hx:a.eval x=.agg xs)(hy:a.eval y=.agg ys):
  (execOp a.eval ⟨dd,.binOp .eql t x y ty,T,pos,af,gd⟩).run P w=.ok (.value (.bool b)) w:=by
 have h0:=h w
 have h1:=run_eqGuard_agg w .eql t x y xs ys hm
 have h2:=run_eql_struct (P:=P) w t xs ys
 rw[h0]at h2
 simp[execOp,hx,hy,h1,h2]
theorem r_neagg {xs ys:Array Value}{p:Prop}[Decidable p](h:EqV P 10000 t (.agg xs) (.agg ys) (decide p))(hm:P.eqGuardType P.depth t=false)(hx:a.eval x=.agg xs)(hy:a.eval y=.agg ys):
  (execOp a.eval ⟨dd,.binOp .neq t x y ty,T,pos,af,gd⟩).run P w=.ok (.value (.bool (decide (¬p)))) w:=by
 have h0:=h w
 have h1:=run_eqGuard_agg w .neq t x y xs ys hm
 have h2:=run_neq_struct (P:=P) w t xs ys
 rw[h0]at h2
 simp[execOp,hx,hy,h1,h2]
theorem r_nes' {s u:ByteArray}(hx:a.eval x=.string s)(hy:a.eval y=.string u):(execOp a.eval ⟨dd,.binOp .neq t x y ty,T,pos,af,gd⟩).run P w=.ok (.value (.bool (decide (s≠u)))) w:=by
 rw[r_nes hx hy];simp
theorem r_neb' {b c:Bool}(ht:P.underlying t=some .bool)(hx:a.eval x=.bool b)(hy:a.eval y=.bool c):(execOp a.eval ⟨dd,.binOp .neq t x y ty,T,pos,af,gd⟩).run P w=.ok (.value (.bool (decide (b≠c)))) w:=by
 rw[r_neb ht hx hy];cases b<;>cases c<;>rfl
end
end
section
variable {P:Program}{a:Act}{w:World}{d:Option Tmp}{T:TypeId}{pos:String}{af:Array Edge}{gd:Option (Nat×Bool)}{t ty:TypeId}{x y:Operand}
theorem rep_none {w:World}{F:Nat->Prop}{e:Ty}{A:Option Addr}{n c:Nat}{xs:List e.den}(h:(Ty.slice e).rep w F [.slice A n c] xs)(hA:A.isNone=true):xs=[]:=by
 obtain⟨A',c',cells,h1,_,_,_,h5,_⟩:=h
 injection h1 with h1 _;injection h1 with h1 _ _
 subst h1
 rcases h5 with h5|⟨b,o,rfl,_⟩
 ·exact Wj h5
 ·cases hA
theorem Qhz {e:TypeId}{ad:Addr}(ht:P.underlying t=some (.pointer e))(hx:a.eval x=.pointer (some ad))(hy:a.eval y=.pointer none):
  (execOp a.eval ⟨d,.binOp .neq t x y ty,T,pos,af,gd⟩).run P w=.ok (.value (.bool true)) w:=by
 have h: ∀m,(Op.equalIn (m+1) t (.pointer (some ad)) (.pointer none)).run P w=.ok false w:=fun m=>by simp[Op.equalIn,run_underlying ht]
 have h2:(Op.equal t (.pointer (some ad)) (.pointer none)).run P w=.ok false w:=h 9999
 simp[execOp,hx,hy,eqGuard_at_pointer,binOp,h2]
end
section
variable {r:Option Nat}{P:Program}{ops:Array Oper}{Q:Exit->Act->World->Prop}{a:Act}{w:World}{rest:List Oper}{n:Nat}{ds:List Deferred}{l:List (Nat×Value)}{d:Nat}{T:TypeId}{pos:String}{af:Array Edge}
end
section
variable {r:Option Nat}{P:Program}{ops:Array Oper}{Q:Exit->Act->World->Prop}{a:Act}{w:World}{rest:List Oper}{n:Nat}{ds:List Deferred}{l:List (Nat×Value)}{d:Nat}{T:TypeId}{pos:String}{af:Array Edge}
end
@[reducible] def R64 (x:Int):Prop:= -9223372036854775808<=x/\x<=9223372036854775807
inductive Hint where
 |n
 |b (i o:Nat)
 |e (i o:Nat)
 |pk
 |off
 |on (h:Hint)
 |sy (h:Hint)
structure Kn where
 bs:List (Nat×TypeId×List Value)
 es:List (Addr×List Value)
def Kn.ok (K:Kn)(w:World):Prop:=(∀b,b∈K.bs->Blk w b.1 b.2.1 b.2.2)/\(∀e,e∈K.es->Cells w e.1 e.2)
theorem k0 {w:World}:Kn.ok ⟨[],[]⟩ w:=⟨fun b h=>(by cases h),fun b h=>(by cases h)⟩
theorem kb {w:World}{g:Nat}{t:TypeId}{cs:List Value}{bs:List (Nat×TypeId×List Value)}{es:List (Addr×List Value)}(h:Blk w g t cs)(hK:Kn.ok ⟨bs,es⟩ w):Kn.ok ⟨(g,t,cs)::bs,es⟩ w:=
 ⟨fun b hb=>by rcases Qk.1 hb with rfl|hb;exact h;exact hK.1 b hb,hK.2⟩
theorem ke {w:World}{E:Addr}{cs:List Value}{bs:List (Nat×TypeId×List Value)}{es:List (Addr×List Value)}(h:Cells w E cs)(hK:Kn.ok ⟨bs,es⟩ w):Kn.ok ⟨bs,(E,cs)::es⟩ w:=
 ⟨hK.1,fun b hb=>by rcases Qk.1 hb with rfl|hb;exact h;exact hK.2 b hb⟩
def aggB (P:Program)(t:TypeId):Option Bool:=match P.underlying t with
 |some (.struct _)=>some true
 |some (.array _ _)=>some true
 |some _=>some false
 |none=>none
def szB (P:Program)(t:TypeId):Option Nat:=(P.info? t).map (·.size)
section
variable {P:Program}{t:TypeId}
theorem Qcj {b:Bool}(h:aggB P t=some b)(w:World):(isAgg t).run P w=.ok b w:=by
 unfold aggB at h
 cases hu:P.underlying t with
 |none=>rw[hu]at h;cases h
 |some d=>
  rw[hu]at h
  unfold isAgg
  rw[Sem.run_bind,run_underlying hu,Result.andThen_ok]
  cases d<;>simp at h<;>subst h<;>rfl
theorem Qah {n:Nat}(h:szB P t=some n)(w:World):(sizeOf t).run P w=.ok n w:=by
 unfold szB at h
 cases hi:P.info? t with
 |none=>rw[hi]at h;cases h
 |some i=>rw[hi]at h;simp at h;subst h;simp[sizeOf,typeInfo,hi]
theorem zero_run {i:TypeInfo}{z:Value}(hi:P.info? t=some i)(hz:i.zero=some z)(w:World):(zeroValue t).run P w=.ok z w:=by
 simp[zeroValue,typeInfo,hi,hz]
end
abbrev QO:=Option (List Prop×List (Value×Value)×Value)
def qok (v:Value):QO:=some ([],[],v)
def qar (k:IntKind)(x:Int):QO:=match k with
 | .i64=>some ([R64 x],[],.int .i64 x)
 |k=>qok (.int k (k.wrap x))
def qint (op:BinOp)(k:IntKind)(m n:Int):QO:=match op with
 | .add=>qar k (m+n)
 | .sub=>qar k (m-n)
 | .mul=>qar k (m*n)
 | .lss=>qok (.bool (decide (m<n)))
 | .leq=>qok (.bool (decide (m<=n)))
 | .gtr=>qok (.bool (decide (n<m)))
 | .geq=>qok (.bool (decide (n<=m)))
 | .eql=>qok (.bool (decide (m=n)))
 | .neq=>qok (.bool (decide (m≠n)))
 | .quo=>match k with
  | .i64=>some ([n≠0,R64 (m.tdiv n)],[],.int .i64 (m.tdiv n))
  |_=>none
 | .rem=>some ([n≠0],[],.int k (m.tmod n))
 | .shr=>match k with
  | .u64=>some ([0<=n/\n<=64],[],.int .u64 (m / 2^n.toNat))
  |_=>none
 |_=>none
def qbin (P:Program)(op:BinOp)(t:TypeId):Option Value->Option Value->QO
 |some (.int k m),some (.int k' n)=>if k'=k then qint op k m n else none
 |some (.bool b),some (.bool c)=>match P.underlying t with
  |some .bool=>match op with
   | .eql=>qok (.bool (b==c))
   | .neq=>qok (.bool (decide (b≠c)))
   |_=>none
  |_=>none
 |some (.string s),some (.string u)=>match op with
  | .eql=>qok (.bool (decide (s=u)))
  | .neq=>qok (.bool (decide (s≠u)))
  | .lss=>qok (.bool (Op.bytesLess s.toList u.toList))
  | .gtr=>qok (.bool (!(Op.bytesLess s.toList u.toList||s.toList==u.toList)))
  | .add=>some ([s.size+u.size<=9223372036854775807],[],.string (s++u))
  |_=>none
 |some (.slice A _ _),some (.slice none 0 0)=>match P.underlying t with
  |some (.slice _)=>match op with
   | .eql=>qok (.bool A.isNone)
   |_=>none
  |_=>none
 |some (.pointer (some _)),some (.pointer none)=>match P.underlying t with
  |some (.pointer _)=>match op with
   | .neq=>qok (.bool true)
   |_=>none
  |_=>none
 |_,_=>none
def qconv (P:Program)(s d:TypeId):Option Value->QO
 |some (.int _ n)=>match P.underlying s,P.underlying d with
  |some _,some (.int .i64)=>some ([R64 n],[],.int .i64 n)
  |some _,some (.int k)=>qok (.int k (k.wrap n))
  |_,_=>none
 |_=>none
def qfa (P:Program)(t:TypeId)(i:Nat):Option Value->QO
 |some (.pointer (some a))=>match P.underlying t with
  |some (.struct fs)=>match fs[i]? with
   |some f=>match szB P f.type with
    |some (_+1)=>qok (.pointer (some (a.add f.offset)))
    |_=>none
   |none=>none
  |_=>none
 |_=>none
def qfl (P:Program)(t:TypeId)(i:Nat):Option Value->QO
 |some (.agg cs)=>match P.underlying t with
  |some (.struct fs)=>match fs[i]? with
   |some f=>match aggB P f.type with
    |some false=>match cs[f.offset]? with
     |some v=>qok v
     |none=>none
    |some true=>match szB P f.type with
     |some n=>qok (.agg (cs.extract f.offset (f.offset+n)))
     |none=>none
    |none=>none
   |none=>none
  |_=>none
 |_=>none
def qcut (P:Program)(t:TypeId)(cs:List Value)(o:Nat):Option Value:=match aggB P t with
 |some false=>cs[o]?
 |some true=>match szB P t with
  |some n=>if((cs.drop o).take n).length=n then some (.agg ((cs.drop o).take n).toArray)else none
  |none=>none
 |none=>none
def qld (P:Program)(K:Kn)(h:Hint)(t:TypeId):Option Value->QO
 |some (.pointer (some a))=>match h with
  | .b i o=>match K.bs[i]? with
   |some (g,_,cs)=>match qcut P t cs o with
    |some v=>some ([],[(.pointer (some a),.pointer (some ⟨g,o,none⟩))],v)
    |none=>none
   |none=>none
  | .e i o=>match K.es[i]? with
   |some (E,cs)=>match qcut P t cs o with
    |some v=>some ([],[(.pointer (some a),.pointer (some (E.add o)))],v)
    |none=>none
   |none=>none
  |_=>none
 |_=>none
def qbi (P:Program)(b:Builtin):List (Option Value)->List TypeId->QO
 | [some (.slice _ n _)],[t]=>match b,P.underlying t with
  | .len,some (.slice _)=>qok (.int .i64 (n:Int))
  |_,_=>none
 | [some (.string s)],[t]=>match b,P.underlying t with
  | .len,some .string=>qok (.int .i64 (s.size:Int))
  |_,_=>none
 | [some (.int k p),some (.int _ q)],_=>match b with
  | .min=>qok (.int k (min p q))
  | .max=>qok (.int k (max p q))
  |_=>none
 |_,_=>none
def qes (e:Operand->Option Value):List Operand->Option (List Value)
 | []=>some []
 |x::r=>match e x,qes e r with
  |some v,some vs=>some (v::vs)
  |_,_=>none
def qps (e:Operand->Option Value):List (Nat×Operand)->Option (List (Nat×Value))
 | []=>some []
 |(i,x)::r=>match e x,qps e r with
  |some v,some vs=>some ((i,v)::vs)
  |_,_=>none
def qpl (P:Program):List Field->Option (List (Nat×Nat))
 | []=>some []
 |f::r=>match szB P f.type,qpl P r with
  |some n,some l=>some ((f.offset,n)::l)
  |_,_=>none
def qbd (P:Program)(t:TypeId)(vs:Option (List (Nat×Value))):QO:=match vs,P.info? t,P.underlying t with
 |some vs,some i,some (.struct fs)=>match i.zero,qpl P fs.toList with
  |some z,some pl=>match Instr.fill (pl.toArray[·]?) z.cells vs with
   |some cs=>qok (.agg cs)
   |none=>none
  |_,_=>none
 |_,_,_=>none
def qv (P:Program)(K:Kn)(h:Hint)(e:Operand->Option Value):Op->QO
 | .move x=>(e x).map fun v=>([],[],v)
 | .assign x=>(e x).map fun v=>([],[],v)
 | .pick c x y=>match e c with
  |some (.bool true)=>(e x).map fun v=>([],[],v)
  |some (.bool false)=>(e y).map fun v=>([],[],v)
  |_=>none
 | .unOp .not _ x=>match e x with
  |some (.bool b)=>qok (.bool (!b))
  |_=>none
 | .extract x i=>match e x with
  |some (.tuple vs)=>(vs[i]?).map fun v=>([],[],v)
  |_=>none
 | .nilCheck x=>match e x with
  |some (.pointer (some a))=>qok (.pointer (some a))
  |_=>none
 | .makeFunc fn xs ys=>match qes e xs.toList,qes e ys.toList with
  |some vs,some us=>qok (.func fn vs.toArray us.toArray)
  |_,_=>none
 | .binOp op t x y _=>qbin P op t (e x) (e y)
 | .convert s d x=>qconv P s d (e x)
 | .fieldAddr t x i=>qfa P t i (e x)
 | .field t x i=>qfl P t i (e x)
 | .load t x=>qld P K h t (e x)
 | .call {callee:=.builtin b,args:=xs,argTypes:=ts}=>qbi P b (xs.toList.map e) ts.toList
 | .build t ps=>qbd P t (qps e ps.toList)
 |_=>none
section
variable {P:Program}{K:Kn}{a:Act}{w:World}{d:Option Tmp}{T:TypeId}{pos:String}{af:Array Edge}{gd:Option (Nat×Bool)}{e:Operand->Option Value}
theorem qes_eval (he: ∀x v,e x=some v->a.eval x=v): ∀(xs:List Operand) {vs:List Value},qes e xs=some vs->xs.toArray.map a.eval=vs.toArray:=by
 intro xs
 induction xs with
 |nil=>intro vs h;simp only[qes,Qc]at h;subst h;simp
 |cons x r ih=>
  intro vs h
  unfold qes at h
  cases hx:e x with
  |none=>simp[hx]at h
  |some v=>cases hr:qes e r with
   |none=>simp[hx,hr]at h
   |some us=>
    simp only[hx,hr,Qc]at h
    subst h
    have:=ih hr
    simp only[Xi,Qz,he x v hx]at this ⊢
    rw[Yu]at this
    rw[this]
theorem qps_eval (he: ∀x v,e x=some v->a.eval x=v): ∀(xs:List (Nat×Operand)) {vs:List (Nat×Value)},qps e xs=some vs->xs.toArray.map (fun(i,x)=>(i,a.eval x))=vs.toArray:=by
 intro xs
 induction xs with
 |nil=>intro vs h;simp only[qps,Qc]at h;subst h;simp
 |cons x r ih=>
  obtain⟨i,x⟩:=x
  intro vs h
  unfold qps at h
  cases hx:e x with
  |none=>simp[hx]at h
  |some v=>cases hr:qps e r with
   |none=>simp[hx,hr]at h
   |some us=>
    simp only[hx,hr,Qc]at h
    subst h
    have:=ih hr
    simp only[Xi,Qz,he x v hx]at this ⊢
    rw[Yu]at this
    rw[this]
theorem qpl_run: ∀(fs:List Field) {pl:List (Nat×Nat)},qpl P fs=some pl->∀w,(fs.mapM fun f=>do pure (f.offset,<-sizeOf f.type):Sem (List (Nat×Nat))).run P w=.ok pl w:=by
 intro fs
 induction fs with
 |nil=>intro pl h w;simp only[qpl,Qc]at h;subst h;rfl
 |cons f r ih=>
  intro pl h w
  unfold qpl at h
  cases hs:szB P f.type with
  |none=>simp[hs]at h
  |some n=>cases hr:qpl P r with
   |none=>simp[hs,hr]at h
   |some l=>
    simp only[hs,hr,Qc]at h
    subst h
    rw[List.mapM_cons]
    simp only[Sem.run_bind,Qah hs,Result.andThen_ok,Sem.run_pure,ih hr]
theorem qpl_arr {fs:Array Field}{pl:List (Nat×Nat)}(h:qpl P fs.toList=some pl)(w:World):(fs.mapM fun f=>do pure (f.offset,<-sizeOf f.type):Sem (Array (Nat×Nat))).run P w=.ok pl.toArray w:=by
 have h1:=qpl_run fs.toList h w
 rw[Array.mapM_eq_mapM_toList,map_eq_pure_bind,Sem.run_bind,h1]
 rfl
theorem o_bN {k:IntKind}{x:Int}{c:List Prop}{q:List (Value×Value)}{v:Value}(h:qar k x=some (c,q,v))(hc: ∀p,p∈c->p):v=.int k (k.wrap x):=by
 unfold qar at h
 split at h
 ·injection h with h;injection h with h1 h;injection h with h2 h;subst h;subst h1
  rw[IntWalk.i64_in _ (hc _ (Qm.2 rfl))]
 ·unfold qok at h;injection h with h;injection h with h1 h;injection h with h2 h;exact h.symm
theorem o_b {u v:Value}{c:List Prop}{q:List (Value×Value)}(h:qok u=some (c,q,v)):v=u:=by
 unfold qok at h;injection h with h;injection h with h1 h;injection h with h2 h;exact h.symm
theorem Qha {t:TypeId}{x:Operand}{cs:List Value}{o:Nat}{v:Value}{A:Addr}(h:qcut P t cs o=some v)(hx:a.eval x=.pointer (some A))(hcell: ∀j u,cs[o+j]?=some u->w.cell? (A.add j)=some u):
  (execOp a.eval ⟨d,.load t x,T,pos,af,gd⟩).run P w=.ok (.value v) w:=by
 unfold qcut at h
 split at h
 ·rename_i hA
  refine r_load1 (fun w=>Qcj hA w) hx ?_
  have:=hcell 0 v (by simpa using h)
  rwa[Addr.add_zero']at this
 ·rename_i hA
  split at h
  ·rename_i n hS
   split at h
   ·rename_i hl
    injection h with h;subst h
    refine r_loadN (fun w=>Qcj hA w) (fun w=>Qah hS w) hx hl fun j u hj=>hcell j u ?_
    have hjn:j<n:=by have:=(Qb.1 hj).1;rw[hl]at this;exact this
    rwa[Q6 hjn,Q8]at hj
   ·cases h
  ·cases h
 ·cases h
theorem o_cY {op:BinOp}{t ty:TypeId}{k:IntKind}{m n:Int}{x y:Operand}{c:List Prop}{q:List (Value×Value)}{v:Value}(h:qint op k m n=some (c,q,v))(hc: ∀p,p∈c->p)(hx:a.eval x=.int k m)(hy:a.eval y=.int k n):
  (execOp a.eval ⟨d,.binOp op t x y ty,T,pos,af,gd⟩).run P w=.ok (.value v) w:=by
 unfold qint at h
 split at h
 ·rw[o_bN h hc];exact r_add hx hy
 ·rw[o_bN h hc];exact r_sub hx hy
 ·rw[o_bN h hc];exact r_mul hx hy
 ·rw[o_b h];exact r_lss hx hy
 ·rw[o_b h];exact r_leq hx hy
 ·rw[o_b h];exact r_gtr hx hy
 ·rw[o_b h];exact r_geq hx hy
 ·rw[o_b h];exact r_eql hx hy
 ·rw[o_b h];exact r_neq hx hy
 ·split at h
  ·injection h with h;injection h with h1 h;injection h with h2 h;subst h;subst h1
   exact r_quow hx hy (hc _ (by simp)) (IntWalk.i64_in _ (hc _ (by simp)))
  ·cases h
 ·injection h with h;injection h with h1 h;injection h with h2 h;subst h;subst h1
  exact r_rem hx hy (hc _ (by simp))
 ·split at h
  ·injection h with h;injection h with h1 h;injection h with h2 h;subst h;subst h1
   have hz:=hc (0<=n/\n<=64) (by simp);exact r_shr hx hy hz.1 hz.2
  ·cases h
 ·cases h
theorem Qhr {t ty:TypeId}{x y:Operand}{s u:ByteArray}(hx:a.eval x=.string s)(hy:a.eval y=.string u):(execOp a.eval ⟨d,.binOp .lss t x y ty,T,pos,af,gd⟩).run P w=.ok (.value (.bool (Op.bytesLess s.toList u.toList))) w:=by
 simp[execOp,hx,hy,binOp_string_lss,eqGuard_lss]
theorem Qhs {t ty:TypeId}{x y:Operand}{s u:ByteArray}(hx:a.eval x=.string s)(hy:a.eval y=.string u):(execOp a.eval ⟨d,.binOp .gtr t x y ty,T,pos,af,gd⟩).run P w=.ok (.value (.bool (!(Op.bytesLess s.toList u.toList||s.toList==u.toList)))) w:=by
 simp[execOp,hx,hy,binOp,Op.stringOp,eqGuard_gtr]
theorem r_cat {t ty:TypeId}{x y:Operand}{s u:ByteArray}(hx:a.eval x=.string s)(hy:a.eval y=.string u)(h:s.size+u.size<=9223372036854775807):(execOp a.eval ⟨d,.binOp .add t x y ty,T,pos,af,gd⟩).run P w=.ok (.value (.string (s++u))) w:=by
 simp[execOp,hx,hy,binOp_string_add,run_string_add_sum w s u h,eqGuard_add]
theorem o_cZ {op:BinOp}{t ty:TypeId}{x y:Operand}{c:List Prop}{q:List (Value×Value)}{v:Value}(he: ∀x v,e x=some v->a.eval x=v)(h:qbin P op t (e x) (e y)=some (c,q,v))(hc: ∀p,p∈c->p):
  (execOp a.eval ⟨d,.binOp op t x y ty,T,pos,af,gd⟩).run P w=.ok (.value v) w:=by
 unfold qbin at h
 split at h
 ·rename_i k m k' n hx hy
  split at h
  ·rename_i hk;subst hk;exact o_cY h hc (he _ _ hx) (he _ _ hy)
  ·cases h
 ·rename_i b c' hx hy
  split at h
  ·rename_i hu
   split at h
   ·rw[o_b h];exact r_eqb hu (he _ _ hx) (he _ _ hy)
   ·rw[o_b h];exact r_neb' hu (he _ _ hx) (he _ _ hy)
   ·cases h
  ·cases h
 ·rename_i s u hx hy
  split at h
  ·rw[o_b h];exact r_eqs (he _ _ hx) (he _ _ hy)
  ·rw[o_b h];exact r_nes' (he _ _ hx) (he _ _ hy)
  ·rw[o_b h];exact Qhr (he _ _ hx) (he _ _ hy)
  ·rw[o_b h];exact Qhs (he _ _ hx) (he _ _ hy)
  ·injection h with h;injection h with h1 h;injection h with h2 h;subst h;subst h1
   exact r_cat (he _ _ hx) (he _ _ hy) (hc _ (by simp))
  ·cases h
 ·rename_i A n c' hx hy
  split at h
  ·rename_i hu
   split at h
   ·rw[o_b h];exact r_eqnil hu (he _ _ hx) (he _ _ hy)
   ·cases h
  ·cases h
 ·rename_i A hx hy
  split at h
  ·rename_i hu
   split at h
   ·rw[o_b h];exact Qhz hu (he _ _ hx) (he _ _ hy)
   ·cases h
  ·cases h
 ·cases h
theorem o_cR {hn:Hint}{op:Op}{c:List Prop}{q:List (Value×Value)}{v:Value}(he: ∀x v,e x=some v->a.eval x=v)(hK:K.ok w)(h:qv P K hn e op=some (c,q,v))(hc: ∀p,p∈c->p)(hq: ∀p,p∈q->p.1=p.2):
  (execOp a.eval ⟨d,op,T,pos,af,gd⟩).run P w=.ok (.value v) w:=by
 unfold qv at h
 split at h
 ·rename_i x
  cases hx:e x with
  |none=>simp[hx]at h
  |some u=>simp[hx]at h;obtain⟨_,_,rfl⟩:=h;exact r_move (he _ _ hx)
 ·rename_i x
  cases hx:e x with
  |none=>simp[hx]at h
  |some u=>simp[hx]at h;obtain⟨_,_,rfl⟩:=h;exact r_assign (he _ _ hx)
 ·rename_i c' x y
  split at h
  ·rename_i hcd
   cases hx:e x with
   |none=>simp[hx]at h
   |some u=>simp[hx]at h;obtain⟨_,_,rfl⟩:=h;exact Qge (he _ _ hcd) (he _ _ hx)
  ·rename_i hcd
   cases hx:e y with
   |none=>simp[hx]at h
   |some u=>simp[hx]at h;obtain⟨_,_,rfl⟩:=h;exact Qfw (he _ _ hcd) (he _ _ hx)
  ·cases h
 ·split at h
  ·rename_i hx;rw[o_b h];exact r_not (he _ _ hx)
  ·cases h
 ·rename_i x i
  split at h
  ·rename_i vs hx
   cases hi:vs[i]? with
   |none=>simp[hi]at h
   |some u=>simp[hi]at h;obtain⟨_,_,rfl⟩:=h;exact r_extract (he _ _ hx) hi
  ·cases h
 ·split at h
  ·rename_i hx;rw[o_b h];exact Qdc (he _ _ hx)
  ·cases h
 ·rename_i fn xs ys
  split at h
  ·rename_i vs us hx hy
   rw[o_b h]
   have h1:=qes_eval he _ hx
   have h2:=qes_eval he _ hy
   simp only[Q4]at h1 h2
   exact Qfi h1 h2
  ·cases h
 ·exact o_cZ he h hc
 ·rename_i s d' x
  unfold qconv at h
  split at h
  ·rename_i k n hx
   split at h
   ·rename_i hs hd
    injection h with h;injection h with h1 h;injection h with h2 h;subst h;subst h1
    exact r_convw hs hd (he _ _ hx) (IntWalk.i64_in _ (hc _ (Qm.2 rfl)))
   ·rename_i hs hd
    rw[o_b h];exact r_conv hs hd (he _ _ hx)
   ·cases h
  ·cases h
 ·unfold qfa at h
  split at h
  ·rename_i A hx
   split at h
   ·rename_i fs hu
    split at h
    ·rename_i f hf
     split at h
     ·rename_i m hs
      rw[o_b h];exact Qdk hu hf (fun w=>Qah hs w) (he _ _ hx)
     ·cases h
    ·cases h
   ·cases h
  ·cases h
 ·unfold qfl at h
  split at h
  ·rename_i cs hx
   split at h
   ·rename_i fs hu
    split at h
    ·rename_i f hf
     split at h
     ·rename_i hA
      split at h
      ·rename_i u hv
       rw[o_b h]
       have:=he _ _ hx
       simp[execOp,Instr.field,run_underlying hu,hf,this,asAgg,part,Qcj hA,hv]
      ·cases h
     ·rename_i hA
      split at h
      ·rename_i n hs
       rw[o_b h]
       have:=he _ _ hx
       simp[execOp,Instr.field,run_underlying hu,hf,this,asAgg,part,Qcj hA,Qah hs]
      ·cases h
     ·cases h
    ·cases h
   ·cases h
  ·cases h
 ·unfold qld at h
  split at h
  ·rename_i A hx
   split at h
   ·split at h
    ·rename_i i o _ g bt cs hb
     split at h
     ·rename_i u hcut
      injection h with h;injection h with h1 h;injection h with h2 h;subst h;subst h2
      have hA:Value.pointer (some A)=.pointer (some ⟨g,o,none⟩):=hq _ (Qm.2 rfl)
      have hB:Blk w g bt cs:=hK.1 _ (Qt hb)
      refine Qha hcut ((he _ _ hx).trans hA) fun j u hj=>?_
      rw[Addr.add_lit,hB.cell];exact hj
     ·cases h
    ·cases h
   ·split at h
    ·rename_i i o _ E cs hb
     split at h
     ·rename_i u hcut
      injection h with h;injection h with h1 h;injection h with h2 h;subst h;subst h2
      have hA:Value.pointer (some A)=.pointer (some (E.add o)):=hq _ (Qm.2 rfl)
      have hB:Cells w E cs:=hK.2 _ (Qt hb)
      refine Qha hcut ((he _ _ hx).trans hA) fun j u hj=>?_
      rw[add_add];exact hB _ _ hj
     ·cases h
    ·cases h
   ·cases h
  ·cases h
 ·rename_i b xs ts
  unfold qbi at h
  split at h
  ·rename_i A n c' t h1 h2
   split at h
   ·rename_i hu
    rw[o_b h]
    obtain⟨x,rfl,hx⟩: ∃x,xs=#[x]/\e x=some (.slice A n c'):=by
     obtain⟨l⟩:=xs
     rcases l with _|⟨x,_|⟨y,l⟩⟩
     ·simp at h1
     ·exact⟨x,rfl,by simpa using h1⟩
     ·simp at h1
    obtain rfl:ts=#[t]:=by obtain⟨l⟩:=ts;simp at h2;rw[h2]
    exact r_len hu (he _ _ hx)
   ·cases h
  ·rename_i s t h1 h2
   split at h
   ·rename_i hu
    rw[o_b h]
    obtain⟨x,rfl,hx⟩: ∃x,xs=#[x]/\e x=some (.string s):=by
     obtain⟨l⟩:=xs
     rcases l with _|⟨x,_|⟨y,l⟩⟩
     ·simp at h1
     ·exact⟨x,rfl,by simpa using h1⟩
     ·simp at h1
    obtain rfl:ts=#[t]:=by obtain⟨l⟩:=ts;simp at h2;rw[h2]
    exact r_lens hu (he _ _ hx)
   ·cases h
  ·rename_i k p k' q' h1
   obtain⟨x,y,rfl,hx,hy⟩: ∃x y,xs=#[x,y]/\e x=some (.int k p)/\e y=some (.int k' q'):=by
    obtain⟨l⟩:=xs
    rcases l with _|⟨x,_|⟨y,_|⟨z,l⟩⟩⟩
    ·simp at h1
    ·simp at h1
    ·simp at h1;exact⟨x,y,rfl,h1.1,h1.2⟩
    ·simp at h1
   split at h
   ·rw[o_b h];exact r_min (he _ _ hx) (he _ _ hy)
   ·rw[o_b h];exact r_max (he _ _ hx) (he _ _ hy)
   ·cases h
  ·cases h
 ·rename_i t ps
  unfold qbd at h
  split at h
  ·rename_i vs i fs hvs hi hu
   split at h
   ·rename_i z pl hz hpl
    split at h
    ·rename_i cs hcs
     rw[o_b h]
     have h1:=qps_eval he _ hvs
     simp only[Q4]at h1
     simp only[execOp,Instr.build,h1]
     simp only[Sem.run_bind,zero_run hi hz,Result.andThen_ok,run_underlying hu]
     rw[qpl_arr hpl w]
     simp only[Result.andThen_ok,hcs,Sem.run_pure]
    ·cases h
   ·cases h
  ·cases h
 ·cases h
end
theorem bf {x y:Bool}(h:(x&&y)=false):x=false\/y=false:=by cases x<;>simp_all
theorem bo {x y:Bool}(h:(x||y)=true):x=true\/y=true:=by cases x<;>simp_all
theorem bn {x:Bool}(h:(!x)=true):x=false:=by cases x<;>simp_all
structure QS where
 l:List (Nat×Value)
 g:List (Nat×Nat×Bool×Value)
 c:List Prop
 q:List (Value×Value)
 wr:List Nat
def gk:List (Nat×Nat×Bool×Value)->Nat->Option (Nat×Bool×Value)
 | [],_=>none
 |(t,x)::r,d=>bif Nat.beq t d then some x else gk r d
def gfree:List (Nat×Nat×Bool×Value)->Nat->Bool
 | [],_=>true
 |(t,j,_)::r,d=> !(Nat.beq t d)&& !(Nat.beq j d)&&gfree r d
def evg (s:QS)(gd:Option (Nat×Bool)):Operand->Option Value
 | .tmp t=>match gk s.g t with
  |some (dj,b,v)=>match gd with
   |some (dj',b')=>if dj'=dj then if b'=b then some v else none else none
   |none=>none
  |none=>lk s.l t
 |x=>ev s.l x
def qput (s:QS)(d:Nat)(c:List Prop)(q:List (Value×Value))(v:Value):Option QS:=
 if gfree s.g d then some ⟨(d,v)::s.l,s.g,s.c++c,q++s.q,d::s.wr⟩else none
def qside (s:QS)(tc:Nat)(b:Bool):Operand->Option Bool
 | .tmp t=>match gk s.g t with
  |some (dj,b',.bool u)=>if dj=tc then if b'=b then some u else none else none
  |some _=>none
  |none=>if t=tc then some b else match lk s.l t with
   |some (.bool u)=>some u
   |_=>none
 |x=>match ev s.l x with
  |some (.bool u)=>some u
  |_=>none
def qpk (s:QS)(d:Nat):Op->Option QS
 | .pick (.tmp tc) x y=>match gk s.g tc,lk s.l tc with
  |none,some (.bool cb)=>match qside s tc true x,qside s tc false y with
   |some b1,some b2=>qput s d [] [] (.bool (bif cb then b1 else b2))
   |_,_=>none
  |_,_=>none
 |_=>none
def qno (P:Program)(K:Kn)(s:QS)(d:Nat)(h:Hint)(op:Op):Option QS:=match qv P K h (evg s none) op with
 |some (c,q,v)=>qput s d c q v
 |none=>none
def q1 (P:Program)(K:Kn)(n:Nat)(ops:Array Oper)(s:QS)(h:Hint)(o:Oper):Option QS:=match o.dst with
 |none=>none
 |some d=>if Nat.ble (d+1) n then match o.guard with
  |none=>match h with
   | .pk=>qpk s d o.op
   |h=>qno P K s d h o.op
  |some (j,b)=>match(ops[j]?).bind (·.dst)with
   |none=>none
   |some dj=>match gk s.g dj,lk s.l dj with
    |none,some (.bool c)=>match h with
     | .off=>if c= !b then qput s d [] [] undef else none
     | .on .pk=>if c=b then qpk s d o.op else none
     | .on h=>if c=b then qno P K s d h o.op else none
     | .sy h=>if d=dj then none else if gfree s.g d then match lk s.l d with
      |none=>match qv P K h (evg s (some (dj,b))) o.op with
       |some (cs,q,v)=>some ⟨s.l,(d,dj,b,v)::s.g,s.c++cs.map (fun p=>c=b->p),q++s.q,d::s.wr⟩
       |none=>none
      |some _=>none else none
     |_=>none
    |none,some (.tuple vs)=>match h with
     | .off=>if vs.toList.isEmpty then qput s d [] [] undef else none
     |_=>none
    |_,_=>none else none
def qs (P:Program)(K:Kn)(n:Nat)(ops:Array Oper):List Hint->List Oper->QS->Option QS
 | [],_,s=>some s
 |h::hs,o::r,s=>match q1 P K n ops s h o with
  |some s'=>qs P K n ops hs r s'
  |none=>none
 |_::_,[],_=>none
def dqs (P:Program)(K:Kn)(n:Nat)(ops:Array Oper):List (Nat×Hint)->Array Bool->QS->Option (Array Bool×QS)
 | [],li,s=>some (li,s)
 |(i,h)::r,li,s=>match ops[i]? with
  |some o=>if Region.free .any ops li i&&(Region.ready .any ops li).contains i then match q1 P K n ops s h o with
   |some s'=>dqs P K n ops r (li.setIfInBounds i true) s'
   |none=>none else none
  |none=>none
def qfin (l0:List (Nat×Value))(ks:List Nat)(s:QS):Option (List Prop×List (Nat×Value)):=
 if s.wr.all (fun d=>ks.contains d||(lk l0 d).isNone)then some (s.c,kp s.l ks)else none
def conj:List Prop->Prop
 | []=>True
 | [p]=>p
 |p::q::r=>p/\conj (q::r)
def cat:List (Nat×Value)->List (Nat×Value)->List (Nat×Value)
 | [],l=>l
 |p::r,l=>p::cat r l
theorem Qfr: ∀{cs:List Prop},conj cs->∀p,p∈cs->p
 | [],_,p,hp=>by cases hp
 | [q],h,p,hp=>by rw[Qm]at hp;subst hp;exact h
 |q::q'::r,h,p,hp=>by
  rcases Qk.1 hp with rfl|hp
  ·exact h.1
  ·exact Qfr h.2 p hp
theorem Qcd (d e:Nat)(v:Value)(l:List (Nat×Value)):lk ((d,v)::l) e=if d=e then some v else lk l e:=by
 by_cases h:d=e
 ·subst h;rw[Qaf,Qj rfl]
 ·rw[Qae _ _ h,Qd h]
theorem Qdx (d e:Nat)(x:Nat×Bool×Value)(l:List (Nat×Nat×Bool×Value)):gk ((d,x)::l) e=if d=e then some x else gk l e:=by
 unfold gk
 by_cases h:d=e
 ·subst h;simp
 ·have:Nat.beq d e=false:=by cases hb:Nat.beq d e with
   |false=>rfl
   |true=>exact absurd (Ql hb) h
  simp only[this,cond_false,Qd h]
  cases l<;>rfl
theorem Qdd: ∀{g:List (Nat×Nat×Bool×Value)} {d:Nat},gfree g d=true->gk g d=none/\∀t j b v,gk g t=some (j,b,v)->j≠d
 | [],d,_=>⟨rfl,fun t j b v h=>by cases h⟩
 |(t,j,x)::r,d,h=>by
  simp only[gfree,Qe,Xt]at h
  obtain⟨⟨h1,h2⟩,h3⟩:=h
  have e1:t≠d:=fun e=>by subst e;simp at h1
  have e2:j≠d:=fun e=>by subst e;simp at h2
  obtain⟨i1,i2⟩:=Qdd h3
  refine⟨by rw[Qdx,Qd e1];exact i1,fun t' j' b v h=>?_⟩
  rw[Qdx]at h
  split at h
  ·injection h with h;injection h with h4 h5;rw[<-h4];exact e2
  ·exact i2 _ _ _ _ h
structure QS.ok (s:QS) (a:Act) (n:Nat) (ds:List Deferred):Prop where
 fr:Fr a n ds s.l
 gd: ∀t dj b v,gk s.g t=some (dj,b,v)->lk s.l t=none/\∃c,lk s.l dj=some (.bool c)/\gk s.g dj=none/\a.tmps[t]?=some (if c=b then v else undef)
structure QS.inv (l0:List (Nat×Value)) (s:QS):Prop where
 out: ∀d,d∉s.wr->lk s.l d=lk l0 d
 wrn: ∀d,d∈s.wr->(lk s.l d).isSome=true\/lk l0 d=none\/∃v,lk s.l d=some v
structure QS.le (s s':QS):Prop where
 c: ∀p,p∈s.c->p∈s'.c
 q: ∀p,p∈s.q->p∈s'.q
theorem QS.le.refl (s:QS):QS.le s s:=⟨fun _ h=>h,fun _ h=>h⟩
theorem QS.le.trans {s t u:QS}(h:QS.le s t)(k:QS.le t u):QS.le s u:=⟨fun _ hp=>k.c _ (h.c _ hp),fun _ hp=>k.q _ (h.q _ hp)⟩
section
variable {P:Program}{K:Kn}{n:Nat}{ds:List Deferred}{ops:Array Oper}{a:Act}{s s':QS}
theorem evg_none (hs:s.ok a n ds)(x:Operand)(v:Value)(h:evg s none x=some v):a.eval x=v:=by
 unfold evg at h
 split at h
 ·split at h
  ·cases h
  ·exact hs.fr.eval (x:=.tmp _) h
 ·exact hs.fr.eval h
theorem evg_some {dj:Nat}{b:Bool}(hs:s.ok a n ds)(hg:lk s.l dj=some (.bool b))(x:Operand)(v:Value)(h:evg s (some (dj,b)) x=some v):a.eval x=v:=by
 unfold evg at h
 split at h
 ·rename_i t
  split at h
  ·rename_i dj' b' v' hgk
   by_cases e1:dj=dj'
   ·subst e1
    by_cases e2:b=b'
    ·subst e2
     simp only[X6]at h
     injection h with h
     subst h
     obtain⟨_,c,h1,_,h2⟩:=hs.gd _ _ _ _ hgk
     rw[hg]at h1
     injection h1 with h1;injection h1 with h1
     rw[Qj h1.symm]at h2
     simp[Act.eval,Q1,h2]
    ·simp[e2]at h
   ·simp[e1]at h
  ·exact hs.fr.eval (x:=.tmp _) h
 ·exact hs.fr.eval h
theorem o_aY {d:Nat}{c:List Prop}{q:List (Value×Value)}{v:Value}(hd:d<n)(hs:s.ok a n ds)(h:qput s d c q v=some s'):s'.ok (a.put (some d) v) n ds/\QS.le s s'/\(∀p,p∈c->p∈s'.c)/\(∀p,p∈q->p∈s'.q):=by
 unfold qput at h
 split at h
 ·rename_i hg
  injection h with h
  subst h
  obtain⟨g1,g2⟩:=Qdd hg
  refine⟨⟨hs.fr.put hd v,fun t dj b u ht=>?_⟩,⟨fun p hp=>Wn _ hp,fun p hp=>Qy _ hp⟩,fun p hp=>Qy _ hp,fun p hp=>Wn _ hp⟩
  obtain⟨h1,cc,h2,h3,h4⟩:=hs.gd t dj b u ht
  have hdt:d≠t:=fun e=>by subst e;change gk s.g d=_ at ht;rw[g1]at ht;cases ht
  have hdj:d≠dj:=fun e=>g2 _ _ _ _ ht e.symm
  refine⟨by rw[Qcd,Qd hdt];exact h1,cc,by rw[Qcd,Qd hdj];exact h2,h3,?_⟩
  simp only[Act.put]
  rw[W7 hdt];exact h4
 ·cases h
theorem Qdr {d:Nat}{c:List Prop}{q:List (Value×Value)}{v:Value}{l0:List (Nat×Value)}(hi:s.inv l0)(h:qput s d c q v=some s'):s'.inv l0:=by
 unfold qput at h
 split at h
 ·injection h with h
  subst h
  refine⟨fun e he=>?_,fun e he=>?_⟩
  ·simp only[Qk,not_or]at he
   rw[Qcd,Qd (fun h=>he.1 h.symm)];exact hi.out e he.2
  ·simp only[Qk]at he
   by_cases hde:d=e
   ·left;subst hde;rw[Qcd,Qj rfl];rfl
   ·rw[Qcd,Qd hde]
    exact hi.wrn e (he.resolve_left fun h=>hde h.symm)
 ·cases h
theorem o_bO {tc:Nat}{b u cb:Bool}{x:Operand}(hs:s.ok a n ds)(hg:gk s.g tc=none)(hc:lk s.l tc=some (.bool cb))(hcb:cb=b)(h:qside s tc b x=some u):a.eval x=.bool u:=by
 unfold qside at h
 split at h
 ·rename_i t
  split at h
  ·rename_i dj b' u' hgk
   split at h
   ·rename_i e1
    subst e1
    split at h
    ·rename_i e2
     subst e2
     injection h with h;subst h
     obtain⟨_,c,h1,_,h2⟩:=hs.gd _ _ _ _ hgk
     rw[hc]at h1
     injection h1 with h1;injection h1 with h1
     rw[Qj (h1.symm.trans hcb)]at h2
     simp[Act.eval,Q1,h2]
    ·cases h
   ·cases h
  ·cases h
  ·split at h
   ·rename_i e1
    subst e1
    injection h with h;subst h;subst hcb
    exact hs.fr.eval (x:=.tmp _) hc
   ·split at h
    ·rename_i hl
     injection h with h;subst h
     exact hs.fr.eval (x:=.tmp _) hl
    ·cases h
 ·split at h
  ·rename_i hl
   injection h with h;subst h
   exact hs.fr.eval hl
  ·cases h
def QDo (P:Program)(K:Kn)(ops:Array Oper)(a:Act)(o:Oper)(v:Value):Prop:=
 (Region.wanted o (yielded ops a.tmps)=true/\∀w,K.ok w->(execOp a.eval o).run P w=.ok (.value v) w)\/(Region.wanted o (yielded ops a.tmps)=false/\v=undef)
theorem o_cp {d:Nat}{op:Op}{T:TypeId}{pos:String}{af:Array Edge}{gd:Option (Nat×Bool)}(hd:d<n)(hs:s.ok a n ds)(h:qpk s d op=some s'):
  ∃v,s'.ok (a.put (some d) v) n ds/\QS.le s s'/\∀w,(execOp a.eval ⟨some d,op,T,pos,af,gd⟩).run P w=.ok (.value v) w:=by
 unfold qpk at h
 split at h
 ·rename_i tc x y
  split at h
  ·rename_i cb hg hc
   split at h
   ·rename_i b1 b2 h1 h2
    obtain⟨k1,k2,_,_⟩:=o_aY hd hs h
    refine⟨_,k1,k2,fun w=>?_⟩
    have hcv:a.eval (.tmp tc)=.bool cb:=hs.fr.eval (x:=.tmp tc) hc
    cases cb with
    |true=>exact Qge hcv (o_bO hs hg hc rfl h1)
    |false=>exact Qfw hcv (o_bO hs hg hc rfl h2)
   ·cases h
  ·cases h
 ·cases h
theorem qpk_inv {d:Nat}{op:Op}{l0:List (Nat×Value)}(hi:s.inv l0)(h:qpk s d op=some s'):s'.inv l0:=by
 unfold qpk at h
 split at h
 ·split at h
  ·split at h
   ·exact Qdr hi h
   ·cases h
  ·cases h
 ·cases h
theorem o_cq {d:Nat}{hn:Hint}{op:Op}{T:TypeId}{pos:String}{af:Array Edge}{gd:Option (Nat×Bool)}(hd:d<n)(hs:s.ok a n ds)(h:qno P K s d hn op=some s')(hc: ∀p,p∈s'.c->p)(hq: ∀p,p∈s'.q->p.1=p.2):
  ∃v,s'.ok (a.put (some d) v) n ds/\QS.le s s'/\∀w,K.ok w->(execOp a.eval ⟨some d,op,T,pos,af,gd⟩).run P w=.ok (.value v) w:=by
 unfold qno at h
 split at h
 ·rename_i c q v hv
  obtain⟨k1,k2,k3,k4⟩:=o_aY hd hs h
  exact⟨v,k1,k2,fun w hK=>o_cR (evg_none hs) hK hv (fun p hp=>hc p (k3 p hp)) (fun p hp=>hq p (k4 p hp))⟩
 ·cases h
theorem qno_inv {d:Nat}{hn:Hint}{op:Op}{l0:List (Nat×Value)}(hi:s.inv l0)(h:qno P K s d hn op=some s'):s'.inv l0:=by
 unfold qno at h
 split at h
 ·exact Qdr hi h
 ·cases h
theorem bool_ne {c b:Bool}(h:c≠b):c= !b:=by cases c<;>cases b<;>first|rfl|exact absurd rfl h
theorem o_cr {d dj:Nat}{b c:Bool}{v u:Value}{cs:List Prop}{q:List (Value×Value)}(hd:d<n)(hs:s.ok a n ds)(hne:d≠dj)(hgf:gfree s.g d=true)(hln:lk s.l d=none)(hgk:gk s.g dj=none)(hlk:lk s.l dj=some (.bool c))(hu:u=if c=b then v else undef):
  QS.ok ⟨s.l,(d,dj,b,v)::s.g,cs,q,d::s.wr⟩ (a.put (some d) u) n ds:=by
 obtain⟨g1,g2⟩:=Qdd hgf
 refine⟨⟨by simp[Act.put,hs.fr.size],hs.fr.defs,fun e x he=>?_⟩,fun t dj' b' u' ht=>?_⟩
 ·have he:lk s.l e=some x:=he
  have hde:d≠e:=fun h=>by subst h;rw[hln]at he;cases he
  simp only[Act.put]
  rw[W7 hde];exact hs.fr.get e x he
 ·replace ht:gk ((d,dj,b,v)::s.g) t=some (dj',b',u'):=ht
  rw[Qdx]at ht
  by_cases hdt:d=t
  ·subst hdt
   rw[Qj rfl]at ht
   injection ht with ht;injection ht with h1 ht;injection ht with h2 ht
   subst h1;subst h2;subst ht
   refine⟨hln,c,hlk,?_,?_⟩
   ·show gk ((d,dj,b,v)::s.g) dj=none
    rw[Qdx,Qd hne];exact hgk
   ·simp only[Act.put]
    rw[hu,Array.getElem?_setIfInBounds_self_of_lt (by rw[hs.fr.size];exact hd)]
  ·rw[Qd hdt]at ht
   obtain⟨h1,cc,h2,h3,h4⟩:=hs.gd t dj' b' u' ht
   refine⟨h1,cc,h2,?_,?_⟩
   ·show gk ((d,dj,b,v)::s.g) dj'=none
    rw[Qdx,Qd (fun h=>g2 _ _ _ _ ht h.symm)];exact h3
   ·simp only[Act.put]
    rw[W7 hdt];exact h4
theorem o_cS {h:Hint}{o:Oper}(hs:s.ok a n ds)(hr:q1 P K n ops s h o=some s')(hc: ∀p,p∈s'.c->p)(hq: ∀p,p∈s'.q->p.1=p.2):
  ∃d v,o.dst=some d/\s'.ok (a.put (some d) v) n ds/\QS.le s s'/\QDo P K ops a o v:=by
 obtain⟨dst,op,T,pos,af,gd⟩:=o
 unfold q1 at hr
 split at hr
 ·cases hr
 ·rename_i d hdst
  have hdst:dst=some d:=hdst
  subst hdst
  split at hr
  ·rename_i hd
   have hd:d<n:=Qi hd
   split at hr
   ·rename_i hgd
    have hgd:gd=none:=hgd
    subst hgd
    split at hr
    ·obtain⟨v,k1,k2,k3⟩:=o_cp (P:=P) (T:=T) (pos:=pos) (af:=af) (gd:=none) hd hs hr
     exact⟨d,v,rfl,k1,k2,.inl ⟨Qci,fun w _=>k3 w⟩⟩
    ·obtain⟨v,k1,k2,k3⟩:=o_cq (T:=T) (pos:=pos) (af:=af) (gd:=none) hd hs hr hc hq
     exact⟨d,v,rfl,k1,k2,.inl ⟨Qci,k3⟩⟩
   ·rename_i j b hgd
    have hgd:gd=some (j,b):=hgd
    subst hgd
    split at hr
    ·cases hr
    ·rename_i dj hdj
     split at hr
     ·rename_i c hgk hlk
      split at hr
      ·split at hr
       ·rename_i hcb
        obtain⟨k1,k2,_,_⟩:=o_aY hd hs hr
        exact⟨d,undef,rfl,k1,k2,.inr ⟨Qcx hs.fr hdj hlk (.inl (by rw[hcb])),rfl⟩⟩
       ·cases hr
      ·split at hr
       ·rename_i hcb
        subst hcb
        obtain⟨v,k1,k2,k3⟩:=o_cp (P:=P) (T:=T) (pos:=pos) (af:=af) (gd:=some (j,c)) hd hs hr
        exact⟨d,v,rfl,k1,k2,.inl ⟨Qck hs.fr hdj hlk,fun w _=>k3 w⟩⟩
       ·cases hr
      ·split at hr
       ·rename_i hcb
        subst hcb
        obtain⟨v,k1,k2,k3⟩:=o_cq (T:=T) (pos:=pos) (af:=af) (gd:=some (j,c)) hd hs hr hc hq
        exact⟨d,v,rfl,k1,k2,.inl ⟨Qck hs.fr hdj hlk,k3⟩⟩
       ·cases hr
      ·split at hr
       ·cases hr
       ·rename_i hne
        split at hr
        ·rename_i hgf
         split at hr
         ·rename_i hln
          split at hr
          ·rename_i cs q v hv
           injection hr with hr
           subst hr
           have hle:QS.le s ⟨s.l,(d,dj,b,v)::s.g,s.c++cs.map (fun p=>c=b->p),q++s.q,d::s.wr⟩:=⟨fun p hp=>Wn _ hp,fun p hp=>Qy _ hp⟩
           by_cases hcb:c=b
           ·subst hcb
            refine⟨d,v,rfl,o_cr hd hs hne hgf hln hgk hlk (by rw[Qj rfl]),hle,.inl ⟨Qck hs.fr hdj hlk,fun w hK=>?_⟩⟩
            exact o_cR (evg_some hs hlk) hK hv (fun p hp=>hc (c=c->p) (Qy _ (Wx.2 ⟨p,hp,rfl⟩)) rfl) (fun p hp=>hq p (Wn _ hp))
           ·exact⟨d,undef,rfl,o_cr hd hs hne hgf hln hgk hlk (by rw[Qd hcb]),hle,.inr ⟨Qcx hs.fr hdj hlk (.inl (Qv Value.bool (bool_ne hcb))),rfl⟩⟩
          ·cases hr
         ·cases hr
        ·cases hr
      ·cases hr
     ·rename_i vs hgk hlk
      split at hr
      ·split at hr
       ·rename_i hvs
        obtain⟨k1,k2,_,_⟩:=o_aY hd hs hr
        refine⟨d,undef,rfl,k1,k2,.inr ⟨Qcx hs.fr hdj hlk (.inr ?_),rfl⟩⟩
        have:vs=#[]:=by
         have h1:vs.toList=[]:=Jn.1 hvs
         rw[<-Q4 (xs:=vs),h1]
        rw[this];rfl
       ·cases hr
      ·cases hr
     ·cases hr
  ·cases hr
theorem q1_inv {h:Hint}{o:Oper}{l0:List (Nat×Value)}(hi:s.inv l0)(hr:q1 P K n ops s h o=some s'):s'.inv l0:=by
 unfold q1 at hr
 split at hr
 ·cases hr
 ·split at hr
  ·split at hr
   ·split at hr
    ·exact qpk_inv hi hr
    ·exact qno_inv hi hr
   ·split at hr
    ·cases hr
    ·split at hr
     ·split at hr
      ·split at hr
       ·exact Qdr hi hr
       ·cases hr
      ·split at hr
       ·exact qpk_inv hi hr
       ·cases hr
      ·split at hr
       ·exact qno_inv hi hr
       ·cases hr
      ·split at hr
       ·cases hr
       ·split at hr
        ·split at hr
         ·rename_i hln
          split at hr
          ·injection hr with hr
           subst hr
           refine⟨fun e he=>hi.out e (fun h=>he (Qf _ h)),fun e he=>?_⟩
           rcases Qk.1 he with rfl|he
           ·by_cases hw:e∈s.wr
            ·exact hi.wrn e hw
            ·right;left;rw[<-hi.out e hw];exact hln
           ·exact hi.wrn e he
          ·cases hr
         ·cases hr
        ·cases hr
      ·cases hr
     ·split at hr
      ·split at hr
       ·exact Qdr hi hr
       ·cases hr
      ·cases hr
     ·cases hr
  ·cases hr
theorem q1_le {h:Hint}{o:Oper}(hr:q1 P K n ops s h o=some s'):QS.le s s':=by
 have hp: ∀{d:Nat} {c:List Prop} {q:List (Value×Value)} {v:Value},qput s d c q v=some s'->QS.le s s':=fun h=>by
  unfold qput at h
  split at h
  ·injection h with h;subst h;exact⟨fun p hp=>Wn _ hp,fun p hp=>Qy _ hp⟩
  ·cases h
 have hk: ∀{d:Nat} {op:Op},qpk s d op=some s'->QS.le s s':=fun h=>by
  unfold qpk at h
  split at h
  ·split at h
   ·split at h
    ·exact hp h
    ·cases h
   ·cases h
  ·cases h
 have hn: ∀{d:Nat} {g:Hint} {op:Op},qno P K s d g op=some s'->QS.le s s':=fun h=>by
  unfold qno at h
  split at h
  ·exact hp h
  ·cases h
 unfold q1 at hr
 split at hr
 ·cases hr
 ·split at hr
  ·split at hr
   ·split at hr
    ·exact hk hr
    ·exact hn hr
   ·split at hr
    ·cases hr
    ·split at hr
     ·split at hr
      ·split at hr
       ·exact hp hr
       ·cases hr
      ·split at hr
       ·exact hk hr
       ·cases hr
      ·split at hr
       ·exact hn hr
       ·cases hr
      ·split at hr
       ·cases hr
       ·split at hr
        ·split at hr
         ·split at hr
          ·injection hr with hr;subst hr;exact⟨fun p hp=>Wn _ hp,fun p hp=>Qy _ hp⟩
          ·cases hr
         ·cases hr
        ·cases hr
      ·cases hr
     ·split at hr
      ·split at hr
       ·exact hp hr
       ·cases hr
      ·cases hr
     ·cases hr
  ·cases hr
theorem qs_le: ∀{hs:List Hint} {lst:List Oper} {s:QS},qs P K n ops hs lst s=some s'->QS.le s s'
 | [],_,s,h=>by simp only[qs,Qc]at h;subst h;exact QS.le.refl _
 |h::hs,[],s,hr=>by simp[qs]at hr
 |h::hs,o::r,s,hr=>by
  unfold qs at hr
  split at hr
  ·rename_i s1 h1;exact(q1_le h1).trans (qs_le hr)
  ·cases hr
theorem dqs_le {li':Array Bool}: ∀{is:List (Nat×Hint)} {li:Array Bool} {s:QS},dqs P K n ops is li s=some (li',s')->QS.le s s'
 | [],_,s,h=>by simp only[dqs,Qc,Qr]at h;rw[h.2];exact QS.le.refl _
 |(i,h)::r,li,s,hr=>by
  unfold dqs at hr
  split at hr
  ·split at hr
   ·split at hr
    ·rename_i s1 h1;exact(q1_le h1).trans (dqs_le hr)
    ·cases hr
   ·cases hr
  ·cases hr
end
theorem lk_cat (nl l:List (Nat×Value))(d:Nat):lk (cat nl l) d=(lk nl d).or (lk l d):=by
 induction nl with
 |nil=>rfl
 |cons p r ih=>
  obtain⟨e,v⟩:=p
  show lk ((e,v)::cat r l) d=_
  rw[Qcd,Qcd,ih]
  split<;>rfl
theorem Qff {l:List (Nat×Value)}{ks:List Nat}{d:Nat}{v:Value}(hd:d∈ks)(hv:lk l d=some v):lk (kp l ks) d=some v:=by
 induction ks with
 |nil=>cases hd
 |cons k r ih=>
  unfold kp
  by_cases hk:k=d
  ·subst hk;rw[hv];exact Qaf _ _ _
  ·have hr:=ih ((Qk.1 hd).resolve_left fun h=>hk h.symm)
   split
   ·rw[Qae _ _ hk];exact hr
   ·exact hr
theorem qfin_fr {l0 nl:List (Nat×Value)}{ks:List Nat}{cs:List Prop}{s:QS}{a:Act}{n:Nat}{ds:List Deferred}(hok:s.ok a n ds)(hi:s.inv l0)(h:qfin l0 ks s=some (cs,nl)):Fr a n ds (cat nl l0)/\s.c=cs:=by
 unfold qfin at h
 split at h
 ·rename_i hall
  injection h with h;injection h with h1 h2
  refine⟨⟨hok.fr.size,hok.fr.defs,fun d v hd=>?_⟩,h1⟩
  rw[lk_cat,<-h2]at hd
  cases hk:lk (kp s.l ks) d with
  |some u=>rw[hk]at hd;injection hd with hd;subst hd;exact hok.fr.get d _ (lk_kp ks d _ hk)
  |none=>
   rw[hk]at hd
   have hd:lk l0 d=some v:=hd
   by_cases hw:d∈s.wr
   ·have h3:=Qx.1 hall d hw
    simp only[Xz,List.contains_iff_mem,Option.isNone_iff_eq_none,hd]at h3
    have hks:d∈ks:=by rcases h3 with h3|h3;exact h3;cases h3
    rcases hi.wrn d hw with h4|h4|⟨u,h4⟩
    ·obtain⟨u,hu⟩:=Xg.1 h4
     rw[Qff hks hu]at hk;cases hk
    ·rw[hd]at h4;cases h4
    ·rw[Qff hks h4]at hk;cases hk
   ·exact hok.fr.get d v (by rw[hi.out d hw];exact hd)
 ·cases h
section
variable {r:Option Nat}{P:Program}{K:Kn}{ops:Array Oper}{Q:Exit->Act->World->Prop}{a:Act}{w:World}{n:Nat}{ds:List Deferred}
theorem qs_walk: ∀{hs:List Hint} {lst:List Oper} {s s':QS} {a:Act},qs P K n ops hs lst s=some s'->(∀p,p∈s'.c->p)->(∀p,p∈s'.q->p.1=p.2)->K.ok w->s.ok a n ds->(∀a',s'.ok a' n ds->WL r P ops Q (lst.drop hs.length) a' w)->WL r P ops Q lst a w
 | [],_,s,s',a,hq,_,_,_,hs,h=>by simp only[qs,Qc]at hq;subst hq;exact h a hs
 |g::hs,[],s,s',a,hq,_,_,_,_,_=>by simp[qs]at hq
 |g::hs,o::lst,s,s',a,hq,hc,he,hK,hs0,h=>by
  unfold qs at hq
  split at hq
  ·rename_i s1 h1
   have hle:=qs_le hq
   obtain⟨d,v,hd,k1,k2,k3⟩:=o_cS hs0 h1 (fun p hp=>hc p (hle.c p hp)) (fun p hp=>he p (hle.q p hp))
   have hrest:WL r P ops Q lst (a.put (some d) v) w:=qs_walk hq hc he hK k1 h
   unfold WL wpListIn
   rcases k3 with⟨hw,hv⟩|⟨hw,rfl⟩
   ·rw[Qj hw]
    refine⟨fun _ _=>trivial,?_⟩
    rw[Qdw (hv w hK) (fun _ h=>by cases h)]
    show wpListIn _ _ _ _ _ _ (a.put o.dst v) w
    rw[hd];exact hrest
   ·rw[Qd (by rw[hw];decide)]
    refine⟨fun _ _=>trivial,?_⟩
    rw[hd];exact hrest
  ·cases hq
theorem qs_inv {l0:List (Nat×Value)}: ∀{hs:List Hint} {lst:List Oper} {s s':QS},s.inv l0->qs P K n ops hs lst s=some s'->s'.inv l0
 | [],_,s,s',hi,hq=>by simp only[qs,Qc]at hq;subst hq;exact hi
 |g::hs,[],s,s',_,hq=>by simp[qs]at hq
 |g::hs,o::lst,s,s',hi,hq=>by
  unfold qs at hq
  split at hq
  ·rename_i s1 h1;exact qs_inv (q1_inv hi h1) hq
  ·cases hq
theorem dqs_inv {l0:List (Nat×Value)}{li':Array Bool}: ∀{is:List (Nat×Hint)} {li:Array Bool} {s s':QS},s.inv l0->dqs P K n ops is li s=some (li',s')->s'.inv l0
 | [],_,s,s',hi,hq=>by simp only[dqs,Qc,Qr]at hq;rw[<-hq.2];exact hi
 |(i,h)::is,li,s,s',hi,hq=>by
  unfold dqs at hq
  split at hq
  ·split at hq
   ·split at hq
    ·rename_i s1 h1;exact dqs_inv (q1_inv hi h1) hq
    ·cases hq
   ·cases hq
  ·cases hq
variable {l:List (Nat×Value)}
def q0 (l:List (Nat×Value)):QS:=⟨l,[],[],[],[]⟩
theorem o_cT (hf:Fr a n ds l):(q0 l).ok a n ds:=⟨hf,fun t dj b v h=>by cases h⟩
theorem q0_inv (l:List (Nat×Value)):(q0 l).inv l:=⟨fun _ _=>rfl,fun d h=>by cases h⟩
theorem Qeu: ∀{q:List (Value×Value)},q.map Prod.fst=q.map Prod.snd->∀p,p∈q->p.1=p.2
 | [],_,p,hp=>by cases hp
 |x::q,h,p,hp=>by
  simp only[Qz,X8]at h
  rcases Qk.1 hp with rfl|hp
  ·exact h.1
  ·exact Qeu h.2 p hp
theorem qr {lst:List Oper}(hs:List Hint)(ks:List Nat)(cs:List Prop)(nl:List (Nat×Value))(hK:K.ok w)(hf:Fr a n ds l)
  (h: ∀a',Fr a' n ds (cat nl l)->WL r P ops Q (lst.drop hs.length) a' w)
  (hc:conj cs:=by first|exact trivial|(simp only[Go.Z.conj,Go.Z.R64];omega)|omega)
  (hq:((qs P K n ops hs lst (q0 l)).bind (qfin l ks))=some (cs,nl):=by kernel_rfl)
  (he:(qs P K n ops hs lst (q0 l)).map (fun s=>s.q.map Prod.fst)=(qs P K n ops hs lst (q0 l)).map (fun s=>s.q.map Prod.snd):=by kernel_rfl):WL r P ops Q lst a w:=by
 cases hq1:qs P K n ops hs lst (q0 l)with
 |none=>rw[hq1]at hq;cases hq
 |some s'=>
  rw[hq1]at hq he
  have hq:qfin l ks s'=some (cs,nl):=hq
  have he:s'.q.map Prod.fst=s'.q.map Prod.snd:=by injection he
  have hcs:s'.c=cs:=by unfold qfin at hq;split at hq;(injection hq with hq;injection hq);cases hq
  exact qs_walk hq1 (by rw[hcs];exact Qfr hc) (Qeu he) hK (o_cT hf) fun a' hok=>h a' (qfin_fr hok (qs_inv (q0_inv l) hq1) hq).1
variable {S:World->Prop}
end
end Go.Z
end
section
namespace Go.Proofs.YtlbdgahbamalcaaGreatDoor
@[reducible] def T27:Z.Ty:=(Z.Ty.pair (Z.Ty.int .i64) Z.Ty.str)
abbrev D27:Type:=Int×ByteArray
@[reducible] def T45:Z.Ty:=(Z.Ty.pair T27 (Z.Ty.int .i64))
abbrev D45:Type:=D27×Int
@[reducible] def T31:Z.Ty:=(Z.Ty.pair (Z.Ty.int .i64) (Z.Ty.pair (Z.Ty.int .i64) Z.Ty.str))
abbrev D31:Type:=Int×Int×ByteArray
@[reducible] def T33:Z.Ty:=(Z.Ty.pair (Z.Ty.int .i64) (Z.Ty.pair (Z.Ty.int .i64) (Z.Ty.pair (Z.Ty.slice (Z.Ty.int .i64)) (Z.Ty.pair T31 (Z.Ty.pair Z.Ty.str (Z.Ty.pair (Z.Ty.int .i64) (Z.Ty.int .i64)))))))
abbrev D33:Type:=Int×Int×(List Int)×D31×ByteArray×Int×Int
abbrev D36:Type:=(List D33)
@[reducible] def T39:Z.Ty:=(Z.Ty.pair (Z.Ty.int .i64) (Z.Ty.pair (Z.Ty.int .i64) T27))
abbrev D39:Type:=Int×Int×D27
@[reducible] def T48:Z.Ty:=(Z.Ty.pair Z.Ty.str (Z.Ty.pair (Z.Ty.int .i64) (Z.Ty.slice T45)))
abbrev D48:Type:=ByteArray×Int×(List D45)
@[reducible] def T72:Z.Ty:=(Z.Ty.pair (Z.Ty.int .i64) (Z.Ty.pair (Z.Ty.int .i64) (Z.Ty.pair Z.Ty.str (Z.Ty.int .i64))))
abbrev D72:Type:=Int×Int×ByteArray×Int
@[reducible] def T112:Z.Ty:=(Z.Ty.pair (Z.Ty.int .i64) (Z.Ty.pair (Z.Ty.int .i64) (Z.Ty.pair (Z.Ty.int .i64) (Z.Ty.int .i64))))
abbrev D112:Type:=Int×Int×Int×Int
abbrev D113:Type:=Int×Int×D112
abbrev D131:Type:=Int×D113
@[reducible] def T198:Z.Ty:=(Z.Ty.pair (Z.Ty.int .i64) (Z.Ty.int .i64))
abbrev D198:Type:=Int×Int
@[reducible] def T200:Z.Ty:=(Z.Ty.pair T198 (Z.Ty.int .i64))
abbrev D200:Type:=D198×Int
@[reducible] def T205:Z.Ty:=(Z.Ty.pair (Z.Ty.int .i64) (Z.Ty.pair (Z.Ty.int .i64) (Z.Ty.pair (Z.Ty.int .i64) (Z.Ty.pair (Z.Ty.int .i64) T112))))
abbrev D205:Type:=Int×Int×Int×Int×D112
@[reducible] def T207:Z.Ty:=(Z.Ty.pair T198 (Z.Ty.pair T198 T205))
abbrev D207:Type:=D198×D198×D205
abbrev CF (n:Nat):Prop:=∀(args:Array Value) (w:World),(callFunc n args).run Tryz.prog w=.ok (.enter n args) w
theorem cf5:CF 5:=fun _ _=>by kernel_rfl
theorem cf6:CF 6:=fun _ _=>by kernel_rfl
theorem cf7:CF 7:=fun _ _=>by kernel_rfl
theorem cf8:CF 8:=fun _ _=>by kernel_rfl
theorem cf9:CF 9:=fun _ _=>by kernel_rfl
theorem cf10:CF 10:=fun _ _=>by kernel_rfl
theorem cf17:CF 17:=fun _ _=>by kernel_rfl
theorem cf20:CF 20:=fun _ _=>by kernel_rfl
theorem cf21:CF 21:=fun _ _=>by kernel_rfl
theorem cf22:CF 22:=fun _ _=>by kernel_rfl
theorem cf25:CF 25:=fun _ _=>by kernel_rfl
theorem cf26:CF 26:=fun _ _=>by kernel_rfl
theorem cf27:CF 27:=fun _ _=>by kernel_rfl
theorem cf28:CF 28:=fun _ _=>by kernel_rfl
theorem cf29:CF 29:=fun _ _=>by kernel_rfl
theorem cf30:CF 30:=fun _ _=>by kernel_rfl
theorem cf31:CF 31:=fun _ _=>by kernel_rfl
theorem cf32:CF 32:=fun _ _=>by kernel_rfl
theorem cf33:CF 33:=fun _ _=>by kernel_rfl
theorem cf35:CF 35:=fun _ _=>by kernel_rfl
theorem cf36:CF 36:=fun _ _=>by kernel_rfl
theorem cf37:CF 37:=fun _ _=>by kernel_rfl
theorem cf41:CF 41:=fun _ _=>by kernel_rfl
theorem cf42:CF 42:=fun _ _=>by kernel_rfl
theorem cf43:CF 43:=fun _ _=>by kernel_rfl
theorem cf44:CF 44:=fun _ _=>by kernel_rfl
theorem cf45:CF 45:=fun _ _=>by kernel_rfl
theorem cf46:CF 46:=fun _ _=>by kernel_rfl
theorem cf48:CF 48:=fun _ _=>by kernel_rfl
theorem cf49:CF 49:=fun _ _=>by kernel_rfl
theorem cf50:CF 50:=fun _ _=>by kernel_rfl
theorem cf51:CF 51:=fun _ _=>by kernel_rfl
theorem cf54:CF 54:=fun _ _=>by kernel_rfl
theorem cf55:CF 55:=fun _ _=>by kernel_rfl
theorem cf56:CF 56:=fun _ _=>by kernel_rfl
theorem cf57:CF 57:=fun _ _=>by kernel_rfl
theorem cf58:CF 58:=fun _ _=>by kernel_rfl
theorem cf59:CF 59:=fun _ _=>by kernel_rfl
theorem cf60:CF 60:=fun _ _=>by kernel_rfl
theorem cf63:CF 63:=fun _ _=>by kernel_rfl
theorem cf64:CF 64:=fun _ _=>by kernel_rfl
theorem cf66:CF 66:=fun _ _=>by kernel_rfl
theorem cf78:CF 78:=fun _ _=>by kernel_rfl
theorem cf79:CF 79:=fun _ _=>by kernel_rfl
theorem cf80:CF 80:=fun _ _=>by kernel_rfl
theorem cf81:CF 81:=fun _ _=>by kernel_rfl
theorem cf82:CF 82:=fun _ _=>by kernel_rfl
theorem cf83:CF 83:=fun _ _=>by kernel_rfl
theorem cf84:CF 84:=fun _ _=>by kernel_rfl
theorem cf85:CF 85:=fun _ _=>by kernel_rfl
theorem cf86:CF 86:=fun _ _=>by kernel_rfl
theorem cf87:CF 87:=fun _ _=>by kernel_rfl
theorem cf88:CF 88:=fun _ _=>by kernel_rfl
theorem cf90:CF 90:=fun _ _=>by kernel_rfl
theorem cf91:CF 91:=fun _ _=>by kernel_rfl
theorem cf92:CF 92:=fun _ _=>by kernel_rfl
theorem cf93:CF 93:=fun _ _=>by kernel_rfl
theorem cf95:CF 95:=fun _ _=>by kernel_rfl
theorem cf96:CF 96:=fun _ _=>by kernel_rfl
theorem cf97:CF 97:=fun _ _=>by kernel_rfl
theorem cf98:CF 98:=fun _ _=>by kernel_rfl
theorem cf100:CF 100:=fun _ _=>by kernel_rfl
theorem cf101:CF 101:=fun _ _=>by kernel_rfl
theorem cf102:CF 102:=fun _ _=>by kernel_rfl
theorem cf116:CF 116:=fun _ _=>by kernel_rfl
theorem cf117:CF 117:=fun _ _=>by kernel_rfl
theorem cf118:CF 118:=fun _ _=>by kernel_rfl
theorem cf119:CF 119:=fun _ _=>by kernel_rfl
theorem cf120:CF 120:=fun _ _=>by kernel_rfl
theorem cf121:CF 121:=fun _ _=>by kernel_rfl
theorem cf122:CF 122:=fun _ _=>by kernel_rfl
theorem cf123:CF 123:=fun _ _=>by kernel_rfl
theorem cf124:CF 124:=fun _ _=>by kernel_rfl
theorem cf125:CF 125:=fun _ _=>by kernel_rfl
theorem cf126:CF 126:=fun _ _=>by kernel_rfl
theorem cf137:CF 137:=fun _ _=>by kernel_rfl
theorem cf138:CF 138:=fun _ _=>by kernel_rfl
theorem cf139:CF 139:=fun _ _=>by kernel_rfl
theorem cf140:CF 140:=fun _ _=>by kernel_rfl
theorem cf141:CF 141:=fun _ _=>by kernel_rfl
theorem cf165:CF 165:=fun _ _=>by kernel_rfl
theorem cf166:CF 166:=fun _ _=>by kernel_rfl
theorem cf167:CF 167:=fun _ _=>by kernel_rfl
theorem cf168:CF 168:=fun _ _=>by kernel_rfl
theorem cf169:CF 169:=fun _ _=>by kernel_rfl
theorem cf191:CF 191:=fun _ _=>by kernel_rfl
theorem mixed:Tryz.prog.follows .mixedOrders=true:=by kernel_rfl
theorem inf2:Tryz.prog.info? 2=some Tryz.t2/\Tryz.t2.zero=some (.int .i64 0)/\Tryz.t2.size=1/\Tryz.t2.bytes=8/\Array.size (Value.cells (.int .i64 0))=1:=⟨by kernel_rfl,rfl,rfl,rfl,rfl⟩
theorem inf3:Tryz.prog.info? 3=some Tryz.t3/\Tryz.t3.zero=some (.int .i64 0)/\Tryz.t3.size=1/\Tryz.t3.bytes=8/\Array.size (Value.cells (.int .i64 0))=1:=⟨by kernel_rfl,rfl,rfl,rfl,rfl⟩
theorem inf28:Tryz.prog.info? 28=some Tryz.t28/\Tryz.t28.zero=some (.agg #[.int .i64 0,.string (ByteArray.mk #[])])/\Tryz.t28.size=2/\Tryz.t28.bytes=24/\Array.size (Value.cells (.agg #[.int .i64 0,.string (ByteArray.mk #[])]))=2:=⟨by kernel_rfl,rfl,rfl,rfl,rfl⟩
theorem inf34:Tryz.prog.info? 34=some Tryz.t34/\Tryz.t34.zero=some (.agg #[.int .i64 0,.int .i64 0,.slice none 0 0,.int .i64 0,.int .i64 0,.string (ByteArray.mk #[]),.string (ByteArray.mk #[]),.int .i64 0,.int .i64 0])/\Tryz.t34.size=9/\Tryz.t34.bytes=104/\Array.size (Value.cells (.agg #[.int .i64 0,.int .i64 0,.slice none 0 0,.int .i64 0,.int .i64 0,.string (ByteArray.mk #[]),.string (ByteArray.mk #[]),.int .i64 0,.int .i64 0]))=9:=⟨by kernel_rfl,rfl,rfl,rfl,rfl⟩
theorem inf40:Tryz.prog.info? 40=some Tryz.t40/\Tryz.t40.zero=some (.agg #[.int .i64 0,.int .i64 0,.int .i64 0,.string (ByteArray.mk #[])])/\Tryz.t40.size=4/\Tryz.t40.bytes=40/\Array.size (Value.cells (.agg #[.int .i64 0,.int .i64 0,.int .i64 0,.string (ByteArray.mk #[])]))=4:=⟨by kernel_rfl,rfl,rfl,rfl,rfl⟩
theorem Qil:Tryz.prog.info? 46=some Tryz.t46/\Tryz.t46.zero=some (.agg #[.int .i64 0,.string (ByteArray.mk #[]),.int .i64 0])/\Tryz.t46.size=3/\Tryz.t46.bytes=32/\Array.size (Value.cells (.agg #[.int .i64 0,.string (ByteArray.mk #[]),.int .i64 0]))=3:=⟨by kernel_rfl,rfl,rfl,rfl,rfl⟩
theorem inf49:Tryz.prog.info? 49=some Tryz.t49/\Tryz.t49.zero=some (.agg #[.string (ByteArray.mk #[]),.int .i64 0,.slice none 0 0])/\Tryz.t49.size=3/\Tryz.t49.bytes=48/\Array.size (Value.cells (.agg #[.string (ByteArray.mk #[]),.int .i64 0,.slice none 0 0]))=3:=⟨by kernel_rfl,rfl,rfl,rfl,rfl⟩
theorem inf73:Tryz.prog.info? 73=some Tryz.t73/\Tryz.t73.zero=some (.agg #[.int .i64 0,.int .i64 0,.string (ByteArray.mk #[]),.int .i64 0])/\Tryz.t73.size=4/\Tryz.t73.bytes=40/\Array.size (Value.cells (.agg #[.int .i64 0,.int .i64 0,.string (ByteArray.mk #[]),.int .i64 0]))=4:=⟨by kernel_rfl,rfl,rfl,rfl,rfl⟩
theorem inf199:Tryz.prog.info? 199=some Tryz.t199/\Tryz.t199.zero=some (.agg #[.int .i64 0,.int .i64 0])/\Tryz.t199.size=2/\Tryz.t199.bytes=16/\Array.size (Value.cells (.agg #[.int .i64 0,.int .i64 0]))=2:=⟨by kernel_rfl,rfl,rfl,rfl,rfl⟩
theorem inf201:Tryz.prog.info? 201=some Tryz.t201/\Tryz.t201.zero=some (.agg #[.int .i64 0,.int .i64 0,.int .i64 0])/\Tryz.t201.size=3/\Tryz.t201.bytes=24/\Array.size (Value.cells (.agg #[.int .i64 0,.int .i64 0,.int .i64 0]))=3:=⟨by kernel_rfl,rfl,rfl,rfl,rfl⟩
theorem inf208:Tryz.prog.info? 208=some Tryz.t208/\Tryz.t208.zero=some (.agg #[.int .i64 0,.int .i64 0,.int .i64 0,.int .i64 0,.int .i64 0,.int .i64 0,.int .i64 0,.int .i64 0,.int .i64 0,.int .i64 0,.int .i64 0,.int .i64 0])/\Tryz.t208.size=12/\Tryz.t208.bytes=96/\Array.size (Value.cells (.agg #[.int .i64 0,.int .i64 0,.int .i64 0,.int .i64 0,.int .i64 0,.int .i64 0,.int .i64 0,.int .i64 0,.int .i64 0,.int .i64 0,.int .i64 0,.int .i64 0]))=12:=⟨by kernel_rfl,rfl,rfl,rfl,rfl⟩
end Go.Proofs.YtlbdgahbamalcaaGreatDoor
end
section
namespace Go.Z
open Go.RowKit
def bindl:List Nat->List Value->List (Nat×Value)->List (Nat×Value)
 |p::ps,v::vs,l=>bindl ps vs ((p,v)::l)
 |_,_,l=>l
abbrev mkD (D:Nat):Deferred:={target:=.collected D,args:=#[]}
def Dfr (w:World)(D:Nat):Prop:=w.heap[D]?=some (.deferred (some []))
theorem Dfr.lt {w:World}{D:Nat}(h:Dfr w D):D<w.heap.size:=(Qp.1 h).1
theorem Dfr.ch {w w':World}{D:Nat}{S:List Nat}(h:Dfr w D)(hc:Ch S w w')(hn:D∉S):Dfr w' D:=(hc.block D h.lt hn).trans h
theorem Ch.putObj (w:World)(r:Nat)(o:Obj):Ch [r] w (w.putObj r o):=
 ⟨rfl,rfl,rfl,by simp,fun k _ hn=>World.putObj_heap_other (by simpa using hn)⟩
def RP (D:Nat)(I:Nat->World->Prop)(X:Exit->World->Prop)(k:Nat)(W:World)(e:Exit)(W':World):Prop:=
 (∃S,Ch S W W'/\D∉S/\D+1∉S)/\match e with
  | .normal=>I (k+1) W'
  | .ret=>X .ret W'
  | .exit id=>X (.exit id) W'
  |_=>False
def RQ (D:Nat)(I:Nat->World->Prop)(X:Exit->World->Prop)(k:Nat)(W:World):Exit->Act->World->Prop:=fun e _ W'=>RP D I X k W e W'
section
variable {P:Program}{Q:Exit->Act->World->Prop}{a:Act}{w:World}{n:Nat}{ds:List Deferred}{l:List (Nat×Value)}
theorem bind_fr: ∀(ps:List Nat) (args:List Value) {l:List (Nat×Value)} {t:Array Value},(∀p,p∈ps->p<n)->Fr ⟨t,[]⟩ n [] l->Fr ⟨(ps.zip args).foldl (fun t (p,v)=>t.setIfInBounds p v) t,[]⟩ n [] (bindl ps args l)
 | [],_,_,_,_,h=>h
 |_::_,[],_,_,_,h=>h
 |p::ps,v::args,_,_,hp,h=>bind_fr ps args (fun q hq=>hp q (Qf _ hq)) (h.put (d:=p) (hp p (Qg ..)) v)
section
variable {r:Option Nat}
theorem blockn {id:Nat}{c:Code}(h: ∀Q':Exit->Act->World->Prop,(∀a w,Q .normal a w->Q' .normal a w)->(∀a w,Q .normal a w->Q' (.exit id) a w)->(∀e a w,e≠ .normal->e≠ .exit id->Q e a w->Q' e a w)->WP r P c Q' a w):WP r P (Code.block id c) Q a w:=by
 refine wpIn_block (h (Exit.inBlock id Q) (fun _ _ h=>h) (fun a w hq=>?_) (fun e a w h1 h2 hq=>?_))
 ·simp[Exit.inBlock,hq]
 ·cases e<;>first|exact hq|(rename_i i;have:i≠id:=fun e=>h2 (by rw[e]);simp[Exit.inBlock,this,hq])
end
section
variable {d:Option Tmp}{T:TypeId}{pos:String}{af:Array Edge}{gd:Option (Nat×Bool)}{t ty:TypeId}{x:Operand}{fn:Fn}{f c:Array Value}{p q:Array TypeId}{va:Bool}
theorem r_eqfn (ht:P.underlying t=some (.func p q va))(hx:a.eval x=.func fn f c):(execOp a.eval ⟨d,.binOp .eql t x (.const .nilFunc) ty,T,pos,af,gd⟩).run P w=.ok (.value (.bool false)) w:=by
 have hy:a.eval (.const .nilFunc)=.nilFunc:=rfl
 have h: ∀m,(Op.equalIn (m+1) t (.func fn f c) .nilFunc).run P w=.ok false w:=fun m=>by simp[Op.equalIn,run_underlying ht]
 have h2:(Op.equal t (.func fn f c) .nilFunc).run P w=.ok false w:=h 9999
 simp[execOp,hx,hy,eqGuard,binOp,h2]
end
theorem enterM {f:FuncId}{fn:Func}{c:Code}{vs:List Value}{m:Nat}{R:Ending->World->Prop}(hf:P.funcs[f]?=some fn)(hb:fn.body=some c)(hn:fn.ntmps=m)(hm:vs.length<=m)
  (h: ∀a,Fr a m [] (argl vs 0)->WP none P c (bodyPostM (FW none) 0 P fn R) a w):Calls P f vs.toArray w R:=by
 refine callsIn_wide.1 (callsIn_of_wp_marks (F:=FW none) (n:=0) hf hb trivial (h _ ?_))
 subst hn
 exact Fr.entry vs _ hm
def marks:List Nat->List Deferred
 | []=>[]
 |D::r=>mkD D::marks r
theorem leavesM {fn:Func}{R:Ending->World->Prop}: ∀{Ds:List Nat} {w:World} {tmps:Array Value},(∀D,D∈Ds->Dfr w D)->Ds.Nodup->(∀w',Ch Ds w w'->w'.heap.size=w.heap.size->∃v,(results fn tmps).run P w'=.ok v w'/\R (.returned v) w')->
  LeavesInM (FW none) 0 P fn tmps R (marks Ds) .returning w
 | [],w,tmps,_,_,h=>by
  obtain⟨v,h1,h2⟩:=h w (Ch.refl w) rfl
  exact⟨v,h1,h2⟩
 |D::Ds,w,tmps,hD,hn,h=>by
  refine⟨by simp,.inl ⟨D,_,rfl,run_takeDeferred (hD D (Qg ..)),leavesM (fun D' hD'=>?_) (Wv.1 hn).2 fun w' hc hz=>h w' ?_ (by rw[hz];simp)⟩⟩
  ·exact(hD D' (Qf _ hD')).ch (Ch.putObj _ _ _) (by simp only[Qm];rintro rfl;exact(Wv.1 hn).1 hD')
  ·exact(Ch.putObj w D _).then hc (fun i hi=>.inl (by simp at hi;simp[hi])) (fun i hi=>.inl (Qf _ hi))
theorem retM {fn:Func}{R:Ending->World->Prop}{Ds:List Nat}(hf:Fr a n (marks Ds) l)(hD: ∀D,D∈Ds->Dfr w D)(hn:Ds.Nodup)
  (h: ∀w',Ch Ds w w'->w'.heap.size=w.heap.size->∃v,(results fn a.tmps).run P w'=.ok v w'/\R (.returned v) w'):bodyPostM (FW none) 0 P fn R .ret a w:=by
 show LeavesInM _ _ _ _ _ _ a.defers _ _
 rw[hf.defs];exact leavesM hD hn h
theorem res1 {fn:Func}{t:Nat}{v:Value}(hf:Fr a n ds l)(h:fn.results=#[.tmp t])(ht:lk l t=some v)(w:World):(results fn a.tmps).run P w=.ok v w:=by
 rw[results_tmp h];exact Qv (fun x=>Result.ok x w) (hf.eval (x:=.tmp t) ht)
theorem res0 {fn:Func}(h:fn.results=#[])(w:World):(results fn a.tmps).run P w=.ok (.tuple #[]) w:=results_none h _ _ _
end
section
variable {r:Option Nat}{P:Program}{ops:Array Oper}{Q:Exit->Act->World->Prop}{a:Act}{w:World}{rest:List Oper}{n:Nat}{ds:List Deferred}{l:List (Nat×Value)}
theorem callY {d:Nat}{T:TypeId}{pos:String}{af:Array Edge}{c:Operand}{xs:List Operand}{ts:Array TypeId}{lid:Nat}{vs:List Value}{R:Ending->World->Prop}(hf:Fr a n ds l)(hd:Nat.ble (d+1) n=true)
  (hc:ev l c=some (.func (.yield lid) #[] #[])) (hx:evs l xs=some vs) (hY:YieldAt (FW none) 0 P lid vs.toArray w R) (h: ∀e w',R e w'->∃v,e=.returned v/\∀a',Fr a' n ds ((d,v)::l)->WL none P ops Q rest a' w'):
  WL none P ops Q (⟨some d,.call {callee:=.value c,args:=xs.toArray,argTypes:=ts},T,pos,af,none⟩::rest) a w:=by
 obtain⟨fn,tmps,assign,body,hy,hR⟩:=hY
 have h1:=hf.evals xs hx
 have h2:=hf.eval hc
 refine stepw (x:=.round lid fn tmps assign body) (w':=w) rfl ?_ (fun _ h=>by cases h) fun K hK=>⟨(fun h=>by cases h),hR.mono fun e w' he=>?_⟩
 ·simp only[execOp,resolve,h1,h2]
  simp[Deferred.ofValue,invoke,hy]
 ·obtain⟨v,rfl,hv⟩:=h e w' he
  exact hK _ _ (hv _ (hf.put (Qi hd) v))
end
structure Ky (P:Program) (kt:TypeId) {κ:Type} [DecidableEq κ] (enc:κ->Value):Prop where
 check: ∀b k w,(Instr.checkKey b 10000 kt (enc k)).run P w=.ok () w
 eq: ∀a b w,(Op.equal kt (enc a) (enc b)).run P w=.ok (decide (a=b)) w
 now: ∃d,P.underlying kt=some d/\((∀a b,Instr.sameNow d (enc a) (enc b)=some (decide (a=b)))\/(∀a b,Instr.sameNow d (enc a) (enc b)=none))
 bits: ∀a,Instr.sameBits 10000 (enc a) (enc a)=true
section
variable {κ:Type}[DecidableEq κ]{α:Type}
def loc (k:κ):List κ->Option Nat
 | []=>none
 |a::r=>if k=a then some 0 else(loc k r).map (· +1)
def mget (z:α):List (κ×α)->κ->α
 | [],_=>z
 |(a,x)::r,k=>if k=a then x else mget z r k
def mhas:List (κ×α)->κ->Bool
 | [],_=>false
 |(a,_)::r,k=>if k=a then true else mhas r k
def mins:List (κ×α)->κ->α->List (κ×α)
 | [],k,x=>[(k,x)]
 |(a,y)::r,k,x=>if k=a then(a,x)::r else(a,y)::mins r k x
theorem mget_ins (z:α)(m:List (κ×α))(k j:κ)(x:α):mget z (mins m k x) j=if j=k then x else mget z m j:=by
 induction m with
 |nil=>simp[mins,mget]
 |cons p r ih=>
  obtain⟨a,y⟩:=p
  unfold mins
  by_cases h:k=a
  ·subst h
   rw[Qj rfl]
   simp only[mget]
   by_cases hj:j=k
   ·rw[Qj hj,Qj hj]
   ·rw[Qd hj,Qd hj,Qd hj]
  ·rw[Qd h]
   simp only[mget,ih]
   by_cases hj:j=a
   ·subst hj;rw[Qj rfl,Qd (fun e=>h e.symm),Qj rfl]
   ·rw[Qd hj,Qd hj]
theorem mget_none {z:α}{m:List (κ×α)}{k:κ}(h:mhas m k=false):mget z m k=z:=by
 induction m with
 |nil=>rfl
 |cons p r ih=>
  obtain⟨a,y⟩:=p
  simp only[mhas]at h
  by_cases hk:k=a
  ·simp[hk]at h
  ·rw[Qd hk]at h;simp only[mget];rw[Qd hk];exact ih h
theorem mget_mem {z:α}{m:List (κ×α)}{k:κ}(h:mhas m k=true):(k,mget z m k)∈m:=by
 induction m with
 |nil=>simp[mhas]at h
 |cons p r ih=>
  obtain⟨a,y⟩:=p
  simp only[mhas]at h
  by_cases hk:k=a
  ·subst hk;simp[mget]
  ·rw[Qd hk]at h;simp only[mget];rw[Qd hk];exact Qf _ (ih h)
theorem mget_get {z:α}{m:List (κ×α)}{i:Nat}{p:κ×α}(hn:(m.map Prod.fst).Nodup)(h:m[i]?=some p):mget z m p.1=p.2/\mhas m p.1=true:=by
 induction m generalizing i with
 |nil=>simp at h
 |cons q r ih=>
  obtain⟨a,y⟩:=q
  rw[Qz,Wv]at hn
  cases i with
  |zero=>simp at h;subst h;simp[mget,mhas]
  |succ i=>
   rw[Xa]at h
   have hne:p.1≠a:=fun e=>hn.1 (by rw[<-e];exact Wx.2 ⟨p,Qt h,rfl⟩)
   simp only[mget,mhas]
   rw[Qd hne,Qd hne]
   exact ih hn.2 h
theorem mins_keys (m:List (κ×α))(k:κ)(x:α):(mins m k x).map Prod.fst=if mhas m k then m.map Prod.fst else m.map Prod.fst++[k]:=by
 induction m with
 |nil=>simp[mins,mhas]
 |cons p r ih=>
  obtain⟨a,y⟩:=p
  unfold mins
  by_cases h:k=a
  ·subst h;simp[mhas]
  ·rw[Qd h]
   simp only[Qz,ih,mhas,Qd h]
   split<;>simp
theorem mhas_iff (m:List (κ×α))(k:κ):mhas m k=true↔k∈m.map Prod.fst:=by
 induction m with
 |nil=>simp[mhas]
 |cons p r ih=>
  obtain⟨a,y⟩:=p
  simp only[mhas,Qz,Qk]
  by_cases h:k=a
  ·simp[h]
  ·rw[Qd h,ih];simp[h]
theorem mins_nodup {m:List (κ×α)}(h:(m.map Prod.fst).Nodup)(k:κ)(x:α):((mins m k x).map Prod.fst).Nodup:=by
 rw[mins_keys]
 by_cases hk:mhas m k=true
 ·rw[Qj hk];exact h
 ·rw[Qd hk,Wz]
  exact⟨h,by simp,fun a ha b hb=>by simp at hb;subst hb;intro e;subst e;exact hk ((mhas_iff _ _).2 ha)⟩
theorem Qgo (m:List (κ×α))(k:κ):loc k (m.map Prod.fst)=none↔mhas m k=false:=by
 induction m with
 |nil=>simp[loc,mhas]
 |cons p r ih=>
  obtain⟨a,y⟩:=p
  simp only[Qz,loc,mhas]
  by_cases h:k=a
  ·simp[h]
  ·rw[Qd h,Qd h,Option.map_eq_none_iff,ih]
theorem Qbv {m:List (κ×α)}{k:κ}{i:Nat}(h:loc k (m.map Prod.fst)=some i)(z:α):m[i]?=some (k,mget z m k):=by
 induction m generalizing i with
 |nil=>simp[loc]at h
 |cons p r ih=>
  obtain⟨a,y⟩:=p
  simp only[Qz,loc]at h
  by_cases hk:k=a
  ·subst hk;simp at h;subst h;simp[mget]
  ·rw[Qd hk,Je]at h
   obtain⟨j,hj,rfl⟩:=h
   simp only[Xa,mget]
   rw[Qd hk];exact ih hj
theorem Qag {m:List (κ×α)}{k:κ}(x:α):mins m k x=match loc k (m.map Prod.fst)with
  |some i=>m.modify i fun p=>(p.1,x)
  |none=>m++[(k,x)]:=by
 induction m with
 |nil=>simp[mins,loc]
 |cons p r ih=>
  obtain⟨a,y⟩:=p
  simp only[Qz,loc,mins]
  by_cases hk:k=a
  ·subst hk;simp
  ·rw[Qd hk,Qd hk,ih]
   cases loc k (r.map Prod.fst)<;>simp
end
section
variable {P:Program}{kt:TypeId}{κ:Type}[DecidableEq κ]{enc:κ->Value}
theorem Qdi {d:TypeDesc}(h: ∀a b,Instr.sameNow d (enc a) (enc b)=some (decide (a=b)))(k:κ): ∀(es:List MapEntry) (ks:List κ) (n:Nat),es.map (·.key)=ks.map enc->
  Instr.findNow d (enc k) es n=some ((loc k ks).bind fun i=>(es[i]?).map fun e=>(n+i,e.val))
 | [],[],n,_=>rfl
 | [],_::_,_,h=>by cases h
 |_::_,[],_,h=>by cases h
 |e::es,a::ks,n,hk=>by
  simp only[Qz,X8]at hk
  unfold Instr.findNow
  rw[hk.1,h]
  by_cases hka:k=a
  ·simp[loc,hka]
  ·simp only[hka,decide_false,loc,Wu]
   rw[Qdi h k es ks (n+1) hk.2]
   cases loc k ks with
   |none=>rfl
   |some i=>simp[Xb,Ye 1 i]
theorem Qbz (h: ∀a b w,(Op.equal kt (enc a) (enc b)).run P w=.ok (decide (a=b)) w)(k:κ)(w:World): ∀(es:List MapEntry) (ks:List κ) (n:Nat),es.map (·.key)=ks.map enc->
  (Instr.findAsking kt (enc k) es n).run P w=.ok ((loc k ks).bind fun i=>(es[i]?).map fun e=>(n+i,e.val)) w
 | [],[],n,_=>rfl
 | [],_::_,_,h=>by cases h
 |_::_,[],_,h=>by cases h
 |e::es,a::ks,n,hk=>by
  simp only[Qz,X8]at hk
  unfold Instr.findAsking
  rw[Sem.run_bind,hk.1,h,Result.andThen_ok]
  by_cases hka:k=a
  ·simp[loc,hka]
  ·simp only[hka,decide_false,loc,Wu,Wo]
   rw[Qbz h k w es ks (n+1) hk.2]
   cases loc k ks with
   |none=>rfl
   |some i=>simp[Xb,Ye 1 i]
theorem Qak (K:Ky P kt enc)(k:κ)(w:World)(es:List MapEntry)(ks:List κ)(h:es.map (·.key)=ks.map enc):
  (Instr.findKey kt (enc k) es).run P w=.ok ((loc k ks).bind fun i=>(es[i]?).map fun e=>(i,e.val)) w:=by
 obtain⟨d,hd,hn⟩:=K.now
 unfold Instr.findKey
 rw[Sem.run_bind,run_underlying hd,Result.andThen_ok]
 rcases hn with hn|hn
 ·rw[Qdi hn k es ks 0 h]
  simp only[Sem.run_pure,Wm]
 ·cases es with
  |nil=>
   cases ks with
   |nil=>rfl
   |cons a ks=>cases h
  |cons e es=>
   have:Instr.findNow d (enc k) (e::es) 0=none:=by
    cases ks with
    |nil=>cases h
    |cons a ks=>
     simp only[Qz,X8]at h
     unfold Instr.findNow;rw[h.1,hn]
   rw[this]
   have:=Qbz K.eq k w (e::es) ks 0 h
   simpa using this
end
def MapC (w:World)(b:Nat)(es:List (Value×Value)):Prop:=
 ∃(arr:List MapEntry) (clock:Nat),w.heap[b]?=some (.map arr.toArray clock)/\arr.map (fun e=>(e.key,e.val))=es/\(∀e,e∈arr->e.born<clock)/\(arr.map (·.born)).Nodup
theorem MapC.lt {w:World}{b:Nat}{es:List (Value×Value)}(h:MapC w b es):b<w.heap.size:=by obtain⟨_,_,h,_⟩:=h;exact(Qp.1 h).1
theorem MapC.ch {w w':World}{b:Nat}{es:List (Value×Value)}{S:List Nat}(h:MapC w b es)(hc:Ch S w w')(hn:b∉S):MapC w' b es:=by
 have hl:=h.lt
 obtain⟨arr,c,h1,h2⟩:=h
 exact⟨arr,c,(hc.block b hl hn).trans h1,h2⟩
def vof (agg:Bool)(cs:List Value):Value:=bif agg then .agg cs.toArray else cs.headD undef
def Mt {κ:Type}(enc:κ->Value)(t:Ty)(agg:Bool)(w:World)(F:Nat->Prop)(b:Nat)(m:List (κ×t.den)):Prop:=
 ∃es,MapC w b es/\es.length=m.length/\∀(i:Nat) (p:κ×t.den),m[i]?=some p->∃cs,es[i]?=some (enc p.1,vof agg cs)/\t.rep w F cs p.2
section
variable {κ:Type}{enc:κ->Value}{t:Ty}{agg:Bool}{w w':World}{F F':Nat->Prop}{b:Nat}{m:List (κ×t.den)}
theorem Mt.lt (h:Mt enc t agg w F b m):b<w.heap.size:=by obtain⟨_,h,_⟩:=h;exact h.lt
theorem Mt.to {S:List Nat}(h:Mt enc t agg w F b m)(hc:Ch S w w')(hn:b∉S)(hF: ∀b,F b->b<w.heap.size->b∉S/\F' b):Mt enc t agg w' F' b m:=by
 obtain⟨es,h1,h2,h3⟩:=h
 refine⟨es,h1.ch hc hn,h2,fun i p hp=>?_⟩
 obtain⟨cs,h4,h5⟩:=h3 i p hp
 exact⟨cs,h4,rep_to h5 hc hF⟩
end
section
variable {r:Option Nat}{P:Program}{ops:Array Oper}{Q:Exit->Act->World->Prop}{a:Act}{w:World}{rest:List Oper}{n:Nat}{ds:List Deferred}{l:List (Nat×Value)}{d:Nat}{T:TypeId}{pos:String}{af:Array Edge}
variable {κ:Type}{enc:κ->Value}{tt:TypeId}{t:Ty}{agg:Bool}{F:Nat->Prop}{m:List (κ×t.den)}
theorem st_makeMap {x:Option Operand}(hx:x=none)(hf:Fr a n ds l)(hd:Nat.ble (d+1) n=true)(enc:κ->Value)(t:Ty)(agg:Bool)(F:Nat->Prop)
  (h: ∀g w' a',g=w.heap.size->w'.heap.size=g+1->Mt enc t agg w' F g []->Ch [] w w'->Fr a' n ds ((d,.map (some g))::l)->WL r P ops Q rest a' w'):
  WL r P ops Q (⟨some d,.makeMap tt x,T,pos,af,none⟩::rest) a w:=by
 subst hx
 refine valw (w':=w.alloc (.map #[] 0)) (v:=.map (some w.heap.size)) hf hd (by simp[execOp,Instr.makeMap]) fun a' hf'=>h _ _ a' rfl (by simp) ⟨[],⟨[],0,heap_alloc_new w _,rfl,by simp,by simp⟩,rfl,fun i p hp=>by simp at hp⟩ (Ch.alloc w _) hf'
theorem keys_of {arr:List MapEntry}{es:List (Value×Value)}(h1:arr.map (fun e=>(e.key,e.val))=es)(hl:es.length=m.length)(h3: ∀(i:Nat) (p:κ×t.den),m[i]?=some p->∃cs,es[i]?=some (enc p.1,vof agg cs)/\t.rep w F cs p.2):arr.map (·.key)=(m.map Prod.fst).map enc:=by
 have e1:arr.map (·.key)=es.map Prod.fst:=by rw[<-h1,Y1];rfl
 rw[e1]
 refine Wp fun i=>?_
 simp only[Qs]
 cases hm:m[i]? with
 |none=>
  have:=Y4.1 hm
  rw[Q9 (by omega)];rfl
 |some p=>
  obtain⟨cs,h4,_⟩:=h3 i p hm
  rw[h4];rfl
end
section
variable {r:Option Nat}{P:Program}{ops:Array Oper}{Q:Exit->Act->World->Prop}{a:Act}{w:World}{rest:List Oper}{n:Nat}{ds:List Deferred}{l:List (Nat×Value)}{d:Nat}{T:TypeId}{pos:String}{af:Array Edge}
variable {κ:Type}[DecidableEq κ]{enc:κ->Value}{kt et tt:TypeId}{t:Ty}{agg:Bool}{F:Nat->Prop}{b:Nat}{m:List (κ×t.den)}
theorem run_lookup {x:Value}{zs:List Value}(K:Ky P kt enc)(ht:P.underlying tt=some (.map kt et))(hz: ∀w,(zeroValue et).run P w=.ok (vof agg zs) w){z:t.den}(hrz:t.rep w F zs z)(hm:Mt enc t agg w F b m)(hx:x=.map (some b))(k:κ)(ok:Bool):
  ∃cs,(Instr.lookup tt x (enc k) ok).run P w=.ok (if ok then .tuple #[vof agg cs,.bool (mhas m k)]else vof agg cs) w/\t.rep w F cs (mget z m k):=by
 subst hx
 obtain⟨es,⟨arr,clock,hb,h1,_⟩,hl,h3⟩:=hm
 have hk:=keys_of h1 hl h3
 have hfind:=Qak K k w arr (m.map Prod.fst) hk
 have hget:(getObj b).run P w=.ok (.map arr.toArray clock) w:=by simp[getObj,Sem.run,hb]
 cases hloc:loc k (m.map Prod.fst)with
 |none=>
  rw[hloc]at hfind
  have hh:=(Qgo m k).1 hloc
  refine⟨zs,?_,by rw[mget_none hh];exact hrz⟩
  simp only[Instr.lookup,Sem.run_bind,run_underlying ht,Result.andThen_ok,hget,Sem.run_pure,K.check,hfind,Yj,hz,hh]
 |some i=>
  rw[hloc]at hfind
  have hmi:=Qbv hloc z
  obtain⟨cs,h4,h5⟩:=h3 i _ hmi
  have hh:mhas m k=true:=by
   cases hc:mhas m k with
   |true=>rfl
   |false=>rw[(Qgo m k).2 hc]at hloc;cases hloc
  have harr: ∃e,arr[i]?=some e/\e.val=vof agg cs:=by
   rw[<-h1,Qs]at h4
   cases he:arr[i]? with
   |none=>rw[he]at h4;cases h4
   |some e=>rw[he]at h4;injection h4 with h4;injection h4 with _ h4;exact⟨e,rfl,h4⟩
  obtain⟨e,he,hev⟩:=harr
  refine⟨cs,?_,h5⟩
  simp only[Instr.lookup,Sem.run_bind,run_underlying ht,Result.andThen_ok,hget,Sem.run_pure,K.check,hfind,Qa,he,Q7,hev,hh]
theorem st_lookup {x y:Operand}(hf:Fr a n ds l)(hd:Nat.ble (d+1) n=true)(K:Ky P kt enc)(ht:P.underlying tt=some (.map kt et)){zs:List Value}(hz: ∀w,(zeroValue et).run P w=.ok (vof agg zs) w)(z:t.den)(hrz:t.rep w F zs z)(hm:Mt enc t agg w F b m)
  (hx:ev l x=some (.map (some b))) (k:κ) (hy:ev l y=some (enc k))
  (h: ∀cs a',t.rep w F cs (mget z m k)->Fr a' n ds ((d,vof agg cs)::l)->WL r P ops Q rest a' w):WL r P ops Q (⟨some d,.lookup tt x y false,T,pos,af,none⟩::rest) a w:=by
 obtain⟨cs,h1,h2⟩:=run_lookup (zs:=zs) K ht hz hrz hm rfl k false
 refine valw (w':=w) (v:=vof agg cs) hf hd ?_ fun a' hf'=>h cs a' h2 hf'
 simp only[execOp,hf.eval hx,hf.eval hy,Sem.run_bind,h1,Result.andThen_ok,Sem.run_pure,Wo,Wu]
theorem st_lookup2 {x y:Operand}(hf:Fr a n ds l)(hd:Nat.ble (d+1) n=true)(K:Ky P kt enc)(ht:P.underlying tt=some (.map kt et)){zs:List Value}(hz: ∀w,(zeroValue et).run P w=.ok (vof agg zs) w)(z:t.den)(hrz:t.rep w F zs z)(hm:Mt enc t agg w F b m)
  (hx:ev l x=some (.map (some b))) (k:κ) (hy:ev l y=some (enc k))
  (h: ∀cs a',t.rep w F cs (mget z m k)->Fr a' n ds ((d,.tuple #[vof agg cs,.bool (mhas m k)])::l)->WL r P ops Q rest a' w):WL r P ops Q (⟨some d,.lookup tt x y true,T,pos,af,none⟩::rest) a w:=by
 obtain⟨cs,h1,h2⟩:=run_lookup (zs:=zs) K ht hz hrz hm rfl k true
 refine valw (w':=w) (v:=.tuple #[vof agg cs,.bool (mhas m k)]) hf hd ?_ fun a' hf'=>h cs a' h2 hf'
 simp only[execOp,hf.eval hx,hf.eval hy,Sem.run_bind,h1,Result.andThen_ok,Sem.run_pure,X6]
theorem MapC.set {arr:List MapEntry}{clock:Nat}{b:Nat}{w:World}(hb:w.heap[b]?=some (.map arr.toArray clock))(o:Obj):(setObj b o).run P w=.ok () (w.putObj b o):=by
 have hl:=(Qp.1 hb).1
 simp[setObj,Sem.run,World.putObj,hb]
theorem Qfu (K:Ky P kt enc)(ht:P.underlying tt=some (.map kt et))(hm:Mt enc t agg w F b m)(k:κ){v:Value}{cs:List Value}(hv:v=vof agg cs){y:t.den}(hr:t.rep w F cs y)(hF: ∀b',F b'->b'≠b):
  ∃w',(Instr.mapUpdate tt (.map (some b)) (enc k) v).run P w=.ok () w'/\Ch [b] w w'/\w'.heap.size=w.heap.size/\Mt enc t agg w' F b (mins m k y):=by
 subst hv
 have hlt:=hm.lt
 obtain⟨es,⟨arr,clock,hb,h1,h4,h5⟩,hl,h3⟩:=hm
 have hk:=keys_of h1 hl h3
 have hfind:=Qak K k w arr (m.map Prod.fst) hk
 have hget:(getObj b).run P w=.ok (.map arr.toArray clock) w:=by simp[getObj,Sem.run,hb]
 have hlen:arr.length=m.length:=by rw[<-hl,<-h1,Wb]
 have step: ∀o,∀cs' x,t.rep w F cs' x->t.rep (w.putObj b o) F cs' x:=fun o cs' x h=>rep_to h (Ch.putObj w b o) fun b' hb' _=>⟨by simp only[Qm];exact hF b' hb',hb'⟩
 cases hloc:loc k (m.map Prod.fst)with
 |none=>
  rw[hloc]at hfind
  refine⟨w.putObj b (.map (arr.toArray.push {key:=enc k,val:=vof agg cs,born:=clock}) (clock+1)),?_,Ch.putObj w b _,by simp,?_⟩
  ·simp only[Instr.mapUpdate,Sem.run_bind,run_underlying ht,Result.andThen_ok,hget,K.check,hfind,Yj,MapC.set hb]
  ·rw[Qag,hloc]
   refine⟨es++[(enc k,vof agg cs)],⟨arr++[{key:=enc k,val:=vof agg cs,born:=clock}],clock+1,?_,by simp[h1],?_,?_⟩,by simp[hl],fun i p hp=>?_⟩
   ·have:=World.putObj_heap_same (o:=.map (arr.toArray.push {key:=enc k,val:=vof agg cs,born:=clock}) (clock+1)) hlt
    simpa using this
   ·intro e he
    rcases Q0.1 he with he|he
    ·have:=h4 e he;omega
    ·simp at he;subst he;simp
   ·rw[W5,Wz]
    refine⟨h5,by simp,fun x hx y hy=>?_⟩
    simp at hy;subst hy
    obtain⟨e,he,rfl⟩:=Wx.1 hx
    have:=h4 e he;omega
   ·by_cases hi:i<m.length
    ·rw[Q2 hi]at hp
     obtain⟨cs',h6,h7⟩:=h3 i p hp
     exact⟨cs',by rw[Q2 (by omega)];exact h6,step _ _ _ h7⟩
    ·rw[We (by omega)]at hp
     have hi0:i-m.length=0:=by
      have:=(Qb.1 hp).1;simp at this;omega
     rw[hi0]at hp;simp at hp;subst hp
     exact⟨cs,by rw[We (by omega),hl,hi0];rfl,step _ _ _ hr⟩
 |some i=>
  rw[hloc]at hfind
  have hmi:=Qbv hloc y
  have hil:=(Qb.1 hmi).1
  obtain⟨e,he⟩: ∃e,arr[i]?=some e:=⟨_,Qh (by omega)⟩
  have hek:e.key=enc k:=by
   have h6:(arr.map (·.key))[i]?=some e.key:=by rw[Qs,he];rfl
   rw[hk,Qs,Qs,hmi]at h6
   simpa using h6.symm
  have hstay:(Instr.keyThatStays (enc k) (enc k)).run P w=.ok (enc k) w:=by simp[Instr.keyThatStays,K.bits]
  refine⟨w.putObj b (.map (arr.toArray.modify i fun e=>{e with key:=enc k,val:=vof agg cs}) clock),?_,Ch.putObj w b _,by simp,?_⟩
  ·simp only[Instr.mapUpdate,Sem.run_bind,run_underlying ht,Result.andThen_ok,hget,K.check,hfind,Qa,he,Q7,W9,Y2,hek,hstay,MapC.set hb]
  ·rw[Qag,hloc]
   have hmod:(arr.toArray.modify i fun e=>{e with key:=enc k,val:=vof agg cs})=(arr.modify i fun e=>{e with key:=enc k,val:=vof agg cs}).toArray:=by simp
   refine⟨es.modify i fun _=>(enc k,vof agg cs),⟨arr.modify i fun e=>{e with key:=enc k,val:=vof agg cs},clock,?_,?_,?_,?_⟩,by simp[hl],fun j p hp=>?_⟩
   ·have:=World.putObj_heap_same (o:=.map (arr.toArray.modify i fun e=>{e with key:=enc k,val:=vof agg cs}) clock) hlt
    rw[<-hmod];exact this
   ·rw[<-h1]
    refine Wp fun j=>?_
    simp only[Qs,Wa]
    by_cases hij:i=j
    ·subst hij;simp[he]
    ·simp[hij]
   ·intro e' he'
    obtain⟨j,hj⟩:=Wr.1 he'
    rw[Wa]at hj
    cases ha:arr[j]? with
    |none=>rw[ha]at hj;simp at hj
    |some e0=>
     rw[ha]at hj
     have hb0:=h4 e0 (Qt ha)
     simp only[Xf,Q7,Qc]at hj
     subst hj
     split<;>exact hb0
   ·have:(arr.modify i fun e=>{e with key:=enc k,val:=vof agg cs}).map (·.born)=arr.map (·.born):=by
     refine Wp fun j=>?_
     simp only[Qs,Wa]
     cases arr[j]? with
     |none=>rfl
     |some e0=>simp only[Xf,Q7,Qc];split<;>rfl
    rw[this];exact h5
   ·rw[Wa]at hp
    by_cases hij:i=j
    ·subst hij
     rw[hmi]at hp
     simp at hp;subst hp
     refine⟨cs,?_,step _ _ _ hr⟩
     rw[Wa]
     have:es[i]?=some es[i]:=Qh (by omega)
     simp[this]
    ·have hp':m[j]?=some p:=by
      cases hmj:m[j]? with
      |none=>rw[hmj]at hp;simp at hp
      |some q=>rw[hmj]at hp;simpa[hij] using hp
     obtain⟨cs',h6,h7⟩:=h3 j p hp'
     refine⟨cs',?_,step _ _ _ h7⟩
     rw[Wa,h6];simp[hij]
theorem st_mapUpdate {x y v:Operand}(hf:Fr a n ds l)(K:Ky P kt enc)(ht:P.underlying tt=some (.map kt et))(hm:Mt enc t agg w F b m)(hx:ev l x=some (.map (some b)))(k:κ)(hy:ev l y=some (enc k)){cs:List Value}(hv:ev l v=some (vof agg cs)){u:t.den}(hr:t.rep w F cs u)(hF: ∀b',F b'->b'≠b)
  (h: ∀w' a',Ch [b] w w'->w'.heap.size=w.heap.size->Mt enc t agg w' F b (mins m k u)->Fr a' n ds l->WL r P ops Q rest a' w'):WL r P ops Q (⟨none,.mapUpdate tt x y v,T,pos,af,none⟩::rest) a w:=by
 obtain⟨w',h1,h2,h3,h4⟩:=Qfu K ht hm k rfl hr hF
 refine skipw (w':=w') hf ?_ fun a' hf'=>h _ a' h2 h3 h4 hf'
 simp only[execOp,hf.eval hx,hf.eval hy,hf.eval hv,Sem.run_bind,h1,Result.andThen_ok,Sem.run_pure]
end
theorem bbeq (x:ByteArray):(x==x)=true:=by cases x;exact beq_self_eq_true (α:=Array UInt8) _
section
variable {P:Program}{kt:TypeId}
theorem Ky.mkInt {k:IntKind}(h:P.underlying kt=some (.int k)):Ky P kt (fun i:Int=>.int k i):=
 ⟨fun b _ w=>by show(Instr.checkKey b (9999+1) kt _).run P w=_;unfold Instr.checkKey;simp only[Sem.run_bind,run_underlying h,Result.andThen_ok,Sem.run_pure],fun _ _ w=>eq_int (d:=9999) h w,⟨_,h,.inl fun a b=>by simp[Instr.sameNow];exact Bool.beq_eq_decide_eq a b⟩,fun a=>by simp[Instr.sameBits]⟩
theorem Ky.mkAgg {κ:Type}[DecidableEq κ]{enc:κ->Value}{d:TypeDesc}(h:P.underlying kt=some d)(hd: ∀a b,Instr.sameNow d (enc a) (enc b)=none)(hc: ∀b k w,(Instr.checkKey b 10000 kt (enc k)).run P w=.ok () w)(he: ∀a b,EqV P 10000 kt (enc a) (enc b) (decide (a=b)))(hb: ∀a,Instr.sameBits 10000 (enc a) (enc a)=true):Ky P kt enc:=
 ⟨hc,fun a b w=>he a b w,⟨d,h,.inr hd⟩,hb⟩
end
def Rg (w:World)(r b n:Nat)(seen:List Nat):Prop:=
 r≠b/\∃(arr:List MapEntry) (clock since:Nat) (sb:List Nat),w.heap[b]?=some (.map arr.toArray clock)/\arr.length=n/\w.heap[r]?=some (.mapIter (some b) since sb.toArray since)/\since=clock/\
  (∀e,e∈arr->e.born<since)/\(arr.map (·.born)).Nodup/\∀i e,arr[i]?=some e->(e.born∈sb↔i∈seen)
theorem Rg.ch {w w':World}{r b n:Nat}{seen:List Nat}{S:List Nat}(h:Rg w r b n seen)(hc:Ch S w w')(hr:r∉S)(hb:b∉S):Rg w' r b n seen:=by
 obtain⟨h0,arr,clock,since,sb,h1,h2,h3,h4⟩:=h
 exact⟨h0,arr,clock,since,sb,(hc.block _ (Qp.1 h1).1 hb).trans h1,h2,(hc.block _ (Qp.1 h3).1 hr).trans h3,h4⟩
section
variable {r:Option Nat}{P:Program}{ops:Array Oper}{Q:Exit->Act->World->Prop}{a:Act}{w:World}{rest:List Oper}{n:Nat}{ds:List Deferred}{l:List (Nat×Value)}{d:Nat}{T:TypeId}{pos:String}{af:Array Edge}
theorem Qib {x:Operand}{tt kt et:TypeId}{b:Nat}{es:List (Value×Value)}(hf:Fr a n ds l)(hd:Nat.ble (d+1) n=true)(ht:P.underlying tt=some (.map kt et))(hx:ev l x=some (.map (some b)))(hm:MapC w b es)
  (h: ∀g w' a',g=w.heap.size->w'.heap.size=g+1->Rg w' g b es.length []->Ch [] w w'->Fr a' n ds ((d,.pointer (some ⟨g,0,none⟩))::l)->WL r P ops Q rest a' w'):
  WL r P ops Q (⟨some d,.range tt x,T,pos,af,none⟩::rest) a w:=by
 have hlt:=hm.lt
 obtain⟨arr,clock,hb,h1,h4,h5⟩:=hm
 have hget:(getObj b).run P w=.ok (.map arr.toArray clock) w:=by simp[getObj,Sem.run,hb]
 refine valw (w':=w.alloc (.mapIter (some b) clock #[] clock)) (v:=.pointer (some ⟨w.heap.size,0,none⟩)) hf hd ?_ fun a' hf'=>h _ _ a' rfl (by simp) ⟨by omega,arr,clock,clock,[],?_,by rw[<-h1,Wb],heap_alloc_new w _,rfl,h4,h5,by simp⟩ (Ch.alloc w _) hf'
 ·simp[execOp,Instr.range,run_underlying ht,hf.eval hx,hget]
 ·exact(heap_alloc_old w _ hlt).trans hb
def Si (w:World)(g:Nat)(s:ByteArray)(p:Nat):Prop:=w.heap[g]?=some (.stringIter s p)
theorem Si.lt {w:World}{g p:Nat}{s:ByteArray}(h:Si w g s p):g<w.heap.size:=(Qp.1 h).1
theorem Si.ch {w w':World}{g p:Nat}{s:ByteArray}{S:List Nat}(h:Si w g s p)(hc:Ch S w w')(hn:g∉S):Si w' g s p:=(hc.block g h.lt hn).trans h
theorem st_rangeStr {x:Operand}{tt:TypeId}{s:ByteArray}(hf:Fr a n ds l)(hd:Nat.ble (d+1) n=true)(ht:P.underlying tt=some .string)(hx:ev l x=some (.string s))
  (h: ∀g w' a',g=w.heap.size->w'.heap.size=g+1->Si w' g s 0->Ch [] w w'->Fr a' n ds ((d,.pointer (some ⟨g,0,none⟩))::l)->WL r P ops Q rest a' w'):
  WL r P ops Q (⟨some d,.range tt x,T,pos,af,none⟩::rest) a w:=
 valw (w':=w.alloc (.stringIter s 0)) (v:=.pointer (some ⟨w.heap.size,0,none⟩)) hf hd (by simp[execOp,Instr.range,run_underlying ht,hf.eval hx]) fun a' hf'=>h _ _ a' rfl (by simp) (heap_alloc_new w _) (Ch.alloc w _) hf'
theorem st_nextStr {x:Operand}{g p:Nat}{s:ByteArray}(hf:Fr a n ds l)(hd:Nat.ble (d+1) n=true)(hx:ev l x=some (.pointer (some ⟨g,0,none⟩)))(hs:Si w g s p)
  (h1: ¬p<s.size->∀a',Fr a' n ds ((d,.tuple #[.bool false])::l)->WL r P ops Q rest a' w)
  (h2:p<s.size->∀w' a',Ch [g] w w'->w'.heap.size=w.heap.size->Si w' g s (p+(Utf8.decode s p).2)->Fr a' n ds ((d,.tuple #[.bool true,.int .i64 (p:Int),.int .i32 ((Utf8.decode s p).1:Int)])::l)->WL r P ops Q rest a' w'):
  WL r P ops Q (⟨some d,.next x true,T,pos,af,none⟩::rest) a w:=by
 have hget:(getObj g).run P w=.ok (.stringIter s p) w:=by simp[getObj,Sem.run,show w.heap[g]?=_ from hs]
 by_cases hp:p<s.size
 ·have hset:(setObj g (.stringIter s (p+(Utf8.decode s p).2))).run P w=.ok () (w.putObj g (.stringIter s (p+(Utf8.decode s p).2))):=by simp[setObj,Sem.run,World.putObj,show w.heap[g]?=_ from hs]
  refine valw (w':=w.putObj g (.stringIter s (p+(Utf8.decode s p).2))) hf hd ?_ fun a' hf'=>h2 hp _ a' (Ch.putObj w g _) (by simp) (World.putObj_heap_same hs.lt) hf'
  simp only[execOp,hf.eval hx,Instr.next,Sem.run_bind,hget,Result.andThen_ok,hp,X6,hset,Sem.run_pure,goInt]
 ·refine val hf hd ?_ fun a' hf'=>h1 hp a' hf'
  simp only[execOp,hf.eval hx,Instr.next,Sem.run_bind,hget,Result.andThen_ok,hp,Wu,Sem.run_pure]
def bat (s:ByteArray)(i:Nat):UInt8:=s.data.getD i 0
theorem r_indexStr {d:Option Tmp}{gd:Option (Nat×Bool)}{x y:Operand}{tt:TypeId}{s:ByteArray}{k:IntKind}{i:Int}{u:Nat}(ht:P.underlying tt=some .string)(hx:a.eval x=.string s)(hy:a.eval y=.int k i)(hu:i=(u:Int))(hl:u<s.size):
  (execOp a.eval ⟨d,.index tt x y,T,pos,af,gd⟩).run P w=.ok (.value (.int .u8 ((bat s u).toNat:Int))) w:=by
 subst hu
 have h1:s[u]?=some (bat s u):=by
  have h2:s[u]?=some (s[u]'hl):=ByteArray.getElem?_lt' s u hl
  rw[h2]
  congr 1
  have hl':u<s.data.size:=hl
  unfold bat
  rw[Q1,Q3 hl']
  rfl
 simp[execOp,Instr.index,hx,hy,asIntOf,run_underlying ht,h1]
end
section
variable {r:Option Nat}{P:Program}{ops:Array Oper}{Q:Exit->Act->World->Prop}{a:Act}{w:World}{rest:List Oper}{n:Nat}{ds:List Deferred}{l:List (Nat×Value)}{d:Nat}{T:TypeId}{pos:String}{af:Array Edge}
variable {κ:Type}[DecidableEq κ]{enc:κ->Value}{kt et tt:TypeId}{t:Ty}{agg:Bool}{F:Nat->Prop}{b:Nat}{m:List (κ×t.den)}
theorem r_lookup {d:Option Tmp}{gd:Option (Nat×Bool)}{x y:Operand}{ok:Bool}{X Y v:Value}(h:(Instr.lookup tt X Y ok).run P w=.ok v w)(hx:a.eval x=X)(hy:a.eval y=Y):(execOp a.eval ⟨d,.lookup tt x y ok,T,pos,af,gd⟩).run P w=.ok (.value v) w:=by
 subst hx;subst hy
 simp only[execOp,Sem.run_bind,h,Result.andThen_ok,Sem.run_pure]
omit [DecidableEq κ]in
theorem st_rangeMt {x:Operand}(hf:Fr a n ds l)(hd:Nat.ble (d+1) n=true)(ht:P.underlying tt=some (.map kt et))(hx:ev l x=some (.map (some b)))(hm:Mt enc t agg w F b m)
  (h: ∀g w' a',g=w.heap.size->w'.heap.size=g+1->Rg w' g b m.length []->Ch [] w w'->Fr a' n ds ((d,.pointer (some ⟨g,0,none⟩))::l)->WL r P ops Q rest a' w'):
  WL r P ops Q (⟨some d,.range tt x,T,pos,af,none⟩::rest) a w:=by
 obtain⟨es,hmc,hl,h3⟩:=hm
 exact Qib hf hd ht hx hmc fun g w' a' h1 h2 h4 h5 h6=>h g w' a' h1 h2 (hl▸h4) h5 h6
end
section
variable {r:Option Nat}{P:Program}{ops:Array Oper}{Q:Exit->Act->World->Prop}{a:Act}{w:World}{rest:List Oper}{n:Nat}{ds:List Deferred}{l:List (Nat×Value)}{d:Nat}{T:TypeId}{pos:String}{af:Array Edge}
theorem Qdu {α:Type}{l new:List α}{p:Nat}(hp:p+new.length<=l.length)(q:Nat):(l.take p++new++l.drop (p+new.length))[q]?=if q<p then l[q]? else if q<p+new.length then new[q-p]? else l[q]?:=by
 have h1:(l.take p).length=p:=by rw[Qw];omega
 rw[Ys]
 by_cases h:q<p
 ·rw[Qj h,Q2 (by omega),Q6 h]
 ·rw[Qd h,We (by omega),h1]
  by_cases h2:q<p+new.length
  ·rw[Qj h2,Q2 (by omega)]
  ·rw[Qd h2,We (by omega),Q8];congr 1;omega
theorem Qdb {α:Type}(l:List α)(i sz q:Nat):((l.drop i).take sz)[q]?=if q<sz then l[i+q]? else none:=by
 rw[Wq];split<;>simp[Q8]
theorem run_storeOwn {t:Ty}{e tt:TypeId}{B:Nat}{F:Nat->Prop}{A:Option Addr}{c:Nat}{xs:List t.den}(h:Own t e B w F A c xs){k o m:Nat}(hk:k<xs.length)(hS: ∀w,(sizeOf tt).run P w=.ok m w)(ho:o+m<=t.size){ad:Addr}(hA:A=some ad)
  {v:Value} {new es:List Value} (hv:v.cells=new.toArray) (hm:new.length=m) (h1: ∀u∈new,u.oneCell'=true) (hes:Cells w (ad.add (k*t.size)) es) (hel:es.length=t.size) {y:t.den} (hy:t.rep w F (es.take o++new++es.drop (o+m)) y) (hF: ∀b,F b->b∉obl A):
  ∃w',(Instr.storeAt tt (.pointer (some ((ad.add (k*t.size)).add o))) v).run P w=.ok () w'/\Ch (obl A) w w'/\w'.heap.size=w.heap.size/\Own t e B w' F A c (xs.set k y):=by
 obtain⟨cells,⟨hl,hrow⟩,h1c,h2⟩:=h
 rcases hrow with⟨hv0,hn⟩|⟨g,cap,cur,hv0,hb,hg,hnc,hcm,hcs,htake⟩
 ·injection hv0 with hA' _ _;subst hA';cases hA
 injection hv0 with hA' _ hc'
 subst hA';subst hc'
 injection hA with hA
 subst hA
 subst hm
 have hks:k*t.size+t.size<=xs.length*t.size:=by
  have:(k+1)*t.size<=xs.length*t.size:=Q5 _ hk
  rwa[W6,X7]at this
 have hcur:xs.length*t.size<=cur.size:=by rw[hcs];exact Q5 _ hnc
 have hl:cells.length=xs.length*t.size:=hl
 have hcell: ∀q,q<xs.length*t.size->cur.toList[q]?=cells[q]?:=fun q hq=>by rw[<-htake,Q6 hq]
 have hBlk:Blk w g e cur.toList:=by unfold Blk;simpa using hg
 have hadd:((⟨g,0,none⟩:Addr).add (k*t.size)).add o=⟨g,k*t.size+o,none⟩:=by rw[Addr.add_lit,Addr.add_lit];simp
 have hst:=run_storeB (P:=P) (o:=k*t.size+o) hBlk hS hv rfl (by simp;omega) h1
 obtain⟨cs',hcs'⟩: ∃cs',cs'=cur.toList.take (k*t.size+o)++new++cur.toList.drop (k*t.size+o+new.length):=⟨_,rfl⟩
 rw[<-hcs']at hst
 have hlen':cs'.length=cur.size:=by rw[hcs'];simp;omega
 have hch:Ch (obl (some (⟨g,0,none⟩:Addr))) w (w.setRow g cs'.toArray):=Ch.setRow w g _
 have hget: ∀q,q<xs.length*t.size->(cs'.take (xs.length*t.size))[q]?=if q<k*t.size+o then cells[q]? else if q<k*t.size+o+new.length then new[q-(k*t.size+o)]? else cells[q]?:=fun q hq=>by
  rw[Q6 hq,hcs',Qdu (by simp;omega),hcell q hq]
 have hesq: ∀q,q<t.size->es[q]?=cells[k*t.size+q]?:=fun q hq=>by
  obtain⟨u,hu⟩: ∃u,es[q]?=some u:=⟨_,Qh (by omega)⟩
  have:=hes q u hu
  rw[Addr.add_lit,Addr.add_lit,hBlk.cell]at this
  rw[hu,<-hcell _ (by omega)];simpa using this.symm
 refine⟨_,by rw[hadd];exact hst,hch,by simp[World.setRow],cs'.take (xs.length*t.size),⟨by rw[X0,Qw,hlen',Xy hcur],.inr ⟨g,c,cs'.toArray,by rw[X0],hb,?_,by rw[X0];exact hnc,hcm,by rw[Xs,hlen',hcs],by rw[X0]⟩⟩,?_,?_⟩
 ·have:=hBlk.setRow (cs':=cs')
  unfold Blk at this;exact this
 ·intro u hu
  obtain⟨q,hq⟩:=Wr.1 hu
  have hql:q<xs.length*t.size:=by have:=(Qb.1 hq).1;rw[Qw]at this;omega
  rw[hget q hql]at hq
  split at hq
  ·exact h1c u (Qt hq)
  ·split at hq
   ·exact h1 u (Qt hq)
   ·exact h1c u (Qt hq)
 ·intro i x hx
  have hil:i<xs.length:=by have:=(Qb.1 hx).1;rwa[X0]at this
  have his:i*t.size+t.size<=xs.length*t.size:=by
   have:(i+1)*t.size<=xs.length*t.size:=Q5 _ hil
   rwa[W6,X7]at this
  by_cases hik:i=k
  ·subst hik
   rw[Jf hil]at hx
   injection hx with hx
   subst hx
   have e1:((cs'.take (xs.length*t.size)).drop (i*t.size)).take t.size=es.take o++new++es.drop (o+new.length):=by
    refine Wp fun q=>?_
    rw[Qdb,Qdu (by omega)]
    by_cases hq:q<t.size
    ·rw[Qj hq,hget _ (by omega),hesq q hq]
     by_cases h3:q<o
     ·rw[Qj (by omega),Qj h3]
     ·rw[Qd (by omega),Qd h3]
      by_cases h4:q<o+new.length
      ·rw[Qj (by omega),Qj h4];congr 1;omega
      ·rw[Qd (by omega),Qd h4]
    ·rw[Qd hq,Qd (by omega),Qd (by omega),Q9 (by omega)]
   rw[e1]
   exact rep_to hy hch fun b hb _=>⟨hF b hb,hb⟩
  ·rw[List.getElem?_set_ne (fun h=>hik h.symm)]at hx
   have e1:((cs'.take (xs.length*t.size)).drop (i*t.size)).take t.size=(cells.drop (i*t.size)).take t.size:=by
    refine Wp fun q=>?_
    rw[Qdb,Qdb]
    by_cases hq:q<t.size
    ·rw[Qj hq,Qj hq,hget _ (by omega)]
     have:i*t.size+q<k*t.size+o\/k*t.size+o+new.length<=i*t.size+q:=by
      rcases Nat.lt_or_gt_of_ne hik with h3|h3
      ·left
       have:(i+1)*t.size<=k*t.size:=Q5 _ h3
       rw[W6,X7]at this;omega
      ·right
       have:(k+1)*t.size<=i*t.size:=Q5 _ h3
       rw[W6,X7]at this;omega
     rcases this with h3|h3
     ·rw[Qj h3]
     ·rw[Qd (by omega),Qd (by omega)]
    ·rw[Qd hq,Qd hq]
   rw[e1]
   exact rep_to (h2 i x hx) hch fun b hb _=>⟨hF b hb,hb⟩
theorem st_setel {t:Ty}{e tt:TypeId}{B:Nat}{F:Nat->Prop}{A:Option Addr}{c:Nat}{xs:List t.den}{px py:Operand}(hf:Fr a n ds l)(h:Own t e B w F A c xs){k o m:Nat}(hk:k<xs.length)(hS: ∀w,(sizeOf tt).run P w=.ok m w)(ho:Nat.ble (o+m) t.size=true){ad:Addr}(hA:A=some ad)
  (hx:ev l px=some (.pointer (some ((ad.add (k*t.size)).add o)))) {v:Value} (hv0:ev l py=some v) {new es:List Value} (hv:v.cells=new.toArray) (hm:new.length=m) (h1: ∀u∈new,u.oneCell'=true) (hes:Cells w (ad.add (k*t.size)) es) (hel:es.length=t.size) {y:t.den} (hy:t.rep w F (es.take o++new++es.drop (o+m)) y) (hF: ∀b,F b->b∉obl A)
  (hn: ∀w' a',Ch (obl A) w w'->w'.heap.size=w.heap.size->Own t e B w' F A c (xs.set k y)->Fr a' n ds l->WL r P ops Q rest a' w'):WL r P ops Q (⟨none,.store tt px py,T,pos,af,none⟩::rest) a w:=by
 obtain⟨w',h2,h3,h4,h5⟩:=run_storeOwn (P:=P) h hk hS (Qi ho) hA hv hm h1 hes hel hy hF
 refine skipw (w':=w') hf ?_ fun a' hf'=>hn _ a' h3 h4 h5 hf'
 simp only[execOp,hf.eval hx,hf.eval hv0,Sem.run_bind,h2,Result.andThen_ok,Sem.run_pure]
end
theorem ce {α:Type}{a b:α}{x y:List α}(h:a=b)(k:x=y):a::x=b::y:=by rw[h,k]
section
variable {P:Program}{a:Act}{w:World}{n:Nat}{ds:List Deferred}{l:List (Nat×Value)}
def RV (P:Program)(tm:Array Value)(w:World):ResultVar->Value->Prop
 | .tmp t,v=>tm.getD t undef=v
 | .cell p ty,v=>∃ad,tm.getD p undef=.pointer (some ad)/\(loadVar ty ad).run P w=.ok v w
theorem rv_t {t:Nat}{v:Value}(hf:Fr a n ds l)(ht:lk l t=some v):RV P a.tmps w (.tmp t) v:=hf.eval (x:=.tmp t) ht
theorem rv_1 {p g:Nat}{ty bt:TypeId}{u:Value}(hf:Fr a n ds l)(hp:lk l p=some (.pointer (some ⟨g,0,none⟩)))(hA: ∀w,(isAgg ty).run P w=.ok false w)(hb:Blk w g bt [u]):RV P a.tmps w (.cell p ty) u:=by
 have h3:w.cell? ⟨g,0,none⟩=some u:=hb.cell 0
 exact⟨_,hf.eval (x:=.tmp p) hp,by simp[loadVar,hA,h3]⟩
theorem rv_n {p g m:Nat}{ty bt:TypeId}{cs:List Value}(hf:Fr a n ds l)(hp:lk l p=some (.pointer (some ⟨g,0,none⟩)))(hA: ∀w,(isAgg ty).run P w=.ok true w)(hS: ∀w,(sizeOf ty).run P w=.ok m w)(hb:Blk w g bt cs)(hm:cs.length=m):RV P a.tmps w (.cell p ty) (.agg cs.toArray):=by
 subst hm
 refine⟨_,hf.eval (x:=.tmp p) hp,?_⟩
 have:=run_loadCells_list (P:=P) w ⟨g,0,none⟩ cs fun j u hj=>by rw[Addr.add_lit,hb.cell];simpa using hj
 simp[loadVar,hA,hS,this]
theorem resv1 {fn:Func}{r1:ResultVar}{v1:Value}(h:fn.results=#[r1])(h1:RV P a.tmps w r1 v1):(results fn a.tmps).run P w=.ok v1 w:=by
 cases r1<;>simp only[RV,Q1]at h1
 ·simp[results,h,h1]
 ·obtain⟨ad,h2,h3⟩:=h1;simp[results,h,h2,asAddr,h3]
theorem resv2 {fn:Func}{r1 r2:ResultVar}{v1 v2:Value}(h:fn.results=#[r1,r2])(h1:RV P a.tmps w r1 v1)(h2:RV P a.tmps w r2 v2):(results fn a.tmps).run P w=.ok (.tuple #[v1,v2]) w:=by
 cases r1<;>cases r2<;>simp only[RV,Q1]at h1 h2
 ·simp[results,h,h1,h2]
 ·obtain⟨ad,h3,h4⟩:=h2;simp[results,h,h1,h3,asAddr,h4]
 ·obtain⟨ad,h3,h4⟩:=h1;simp[results,h,h2,h3,asAddr,h4]
 ·obtain⟨ad,h3,h4⟩:=h1;obtain⟨ae,h5,h6⟩:=h2;simp[results,h,h3,h5,asAddr,h4,h6]
theorem retv {fn:Func}{R:Ending->World->Prop}{v:Value}(hf:Fr a n [] l)(h:(results fn a.tmps).run P w=.ok v w)(hR:R (.returned v) w):bodyPost P fn R .ret a w:=bodyPost_ret h hf.defs hR
theorem endv {fn:Func}{R:Ending->World->Prop}{v:Value}(hf:Fr a n [] l)(h:(results fn a.tmps).run P w=.ok v w)(hR:R (.returned v) w):bodyPost P fn R .normal a w:=bodyPost_end h hf.defs hR
end
end Go.Z
end
section
namespace Go.Proofs.YtlbdgahbamalcaaGreatDoor
theorem eqin28 {x y:D27}(d:Nat):Z.EqV Tryz.prog (d+2) 28 (.agg #[.int .i64 x.1,.string x.2]) (.agg #[.int .i64 y.1,.string y.2]) (decide (x=y)):=by
 have h:Z.EqV Tryz.prog (d+2) 28 (.agg #[.int .i64 x.1,.string x.2]) (.agg #[.int .i64 y.1,.string y.2]) (decide (x.1=y.1)&&(decide (x.2=y.2)&&true)):=Z.eq_struct Tryz.underlying28 (by kernel_rfl) (Z.eqf_cons rfl (fun w=>Z.part_one w Tryz.isAgg2 rfl) (fun w=>Z.part_one w Tryz.isAgg2 rfl) (Z.eq_int (d:=d+0) Tryz.underlying2) (Z.eqf_cons rfl (fun w=>Z.part_one w Tryz.isAgg9 rfl) (fun w=>Z.part_one w Tryz.isAgg9 rfl) (Z.eq_str (d:=d+0) Tryz.underlying9) Z.eqf_nil))
 have e:decide (x=y)=(decide (x.1=y.1)&&(decide (x.2=y.2)&&true)):=by simp only[Z.decide_pair,Yq]
 rw[e];exact h
theorem eqin32 {x y:D31}(d:Nat):Z.EqV Tryz.prog (d+2) 32 (.agg #[.int .i64 x.1,.int .i64 x.2.1,.string x.2.2]) (.agg #[.int .i64 y.1,.int .i64 y.2.1,.string y.2.2]) (decide (x=y)):=by
 have h:Z.EqV Tryz.prog (d+2) 32 (.agg #[.int .i64 x.1,.int .i64 x.2.1,.string x.2.2]) (.agg #[.int .i64 y.1,.int .i64 y.2.1,.string y.2.2]) (decide (x.1=y.1)&&(decide (x.2.1=y.2.1)&&(decide (x.2.2=y.2.2)&&true))):=Z.eq_struct Tryz.underlying32 (by kernel_rfl) (Z.eqf_cons rfl (fun w=>Z.part_one w Tryz.isAgg3 rfl) (fun w=>Z.part_one w Tryz.isAgg3 rfl) (Z.eq_int (d:=d+0) Tryz.underlying3) (Z.eqf_cons rfl (fun w=>Z.part_one w Tryz.isAgg2 rfl) (fun w=>Z.part_one w Tryz.isAgg2 rfl) (Z.eq_int (d:=d+0) Tryz.underlying2) (Z.eqf_cons rfl (fun w=>Z.part_one w Tryz.isAgg9 rfl) (fun w=>Z.part_one w Tryz.isAgg9 rfl) (Z.eq_str (d:=d+0) Tryz.underlying9) Z.eqf_nil)))
 have e:decide (x=y)=(decide (x.1=y.1)&&(decide (x.2.1=y.2.1)&&(decide (x.2.2=y.2.2)&&true))):=by simp only[Z.decide_pair,Yq]
 rw[e];exact h
theorem eqagg_neq32 {x y:D31}{a:Act}{w:World}{dd:Option Tmp}{T ty:TypeId}{pos:String}{af:Array Edge}{gd:Option (Nat×Bool)}{X Y:Operand}(hx:a.eval X=.agg #[.int .i64 x.1,.int .i64 x.2.1,.string x.2.2])(hy:a.eval Y=.agg #[.int .i64 y.1,.int .i64 y.2.1,.string y.2.2]):(execOp a.eval ⟨dd,.binOp .neq 32 X Y ty,T,pos,af,gd⟩).run Tryz.prog w=.ok (.value (.bool (decide (x≠y)))) w:=Z.r_neagg (eqin32 9998) (by kernel_rfl) hx hy
theorem eqin46 {x y:D45}(d:Nat):Z.EqV Tryz.prog (d+3) 46 (.agg #[.int .i64 x.1.1,.string x.1.2,.int .i64 x.2]) (.agg #[.int .i64 y.1.1,.string y.1.2,.int .i64 y.2]) (decide (x=y)):=by
 have h:Z.EqV Tryz.prog (d+3) 46 (.agg #[.int .i64 x.1.1,.string x.1.2,.int .i64 x.2]) (.agg #[.int .i64 y.1.1,.string y.1.2,.int .i64 y.2]) (decide (x.1=y.1)&&(decide (x.2=y.2)&&true)):=Z.eq_struct Tryz.underlying46 (by kernel_rfl) (Z.eqf_cons rfl (fun w=>Z.part_agg w Tryz.isAgg28 Tryz.sizeOf28 rfl) (fun w=>Z.part_agg w Tryz.isAgg28 Tryz.sizeOf28 rfl) (eqin28 (x:=x.1) (y:=y.1) d) (Z.eqf_cons rfl (fun w=>Z.part_one w Tryz.isAgg2 rfl) (fun w=>Z.part_one w Tryz.isAgg2 rfl) (Z.eq_int (d:=d+1) Tryz.underlying2) Z.eqf_nil))
 have e:decide (x=y)=(decide (x.1=y.1)&&(decide (x.2=y.2)&&true)):=by simp only[Z.decide_pair,Yq]
 rw[e];exact h
theorem eqagg_neq46 {x y:D45}{a:Act}{w:World}{dd:Option Tmp}{T ty:TypeId}{pos:String}{af:Array Edge}{gd:Option (Nat×Bool)}{X Y:Operand}(hx:a.eval X=.agg #[.int .i64 x.1.1,.string x.1.2,.int .i64 x.2])(hy:a.eval Y=.agg #[.int .i64 y.1.1,.string y.1.2,.int .i64 y.2]):(execOp a.eval ⟨dd,.binOp .neq 46 X Y ty,T,pos,af,gd⟩).run Tryz.prog w=.ok (.value (.bool (decide (x≠y)))) w:=Z.r_neagg (eqin46 9997) (by kernel_rfl) hx hy
theorem eqin112 {x y:D112}(d:Nat):Z.EqV Tryz.prog (d+2) 112 (.agg #[.int .i64 x.1,.int .i64 x.2.1,.int .i64 x.2.2.1,.int .i64 x.2.2.2]) (.agg #[.int .i64 y.1,.int .i64 y.2.1,.int .i64 y.2.2.1,.int .i64 y.2.2.2]) (decide (x=y)):=by
 have h:Z.EqV Tryz.prog (d+2) 112 (.agg #[.int .i64 x.1,.int .i64 x.2.1,.int .i64 x.2.2.1,.int .i64 x.2.2.2]) (.agg #[.int .i64 y.1,.int .i64 y.2.1,.int .i64 y.2.2.1,.int .i64 y.2.2.2]) (decide (x.1=y.1)&&(decide (x.2.1=y.2.1)&&(decide (x.2.2.1=y.2.2.1)&&(decide (x.2.2.2=y.2.2.2)&&true)))):=Z.eq_array (is:=[0,1,2,3]) (c:=1) Tryz.underlying112 inf2.1 (by kernel_rfl) rfl (Z.eqi_cons (fun w=>Z.part_one w Tryz.isAgg2 rfl) (fun w=>Z.part_one w Tryz.isAgg2 rfl) (Z.eq_int (d:=d+0) Tryz.underlying2) (Z.eqi_cons (fun w=>Z.part_one w Tryz.isAgg2 rfl) (fun w=>Z.part_one w Tryz.isAgg2 rfl) (Z.eq_int (d:=d+0) Tryz.underlying2) (Z.eqi_cons (fun w=>Z.part_one w Tryz.isAgg2 rfl) (fun w=>Z.part_one w Tryz.isAgg2 rfl) (Z.eq_int (d:=d+0) Tryz.underlying2) (Z.eqi_cons (fun w=>Z.part_one w Tryz.isAgg2 rfl) (fun w=>Z.part_one w Tryz.isAgg2 rfl) (Z.eq_int (d:=d+0) Tryz.underlying2) Z.eqi_nil))))
 have e:decide (x=y)=(decide (x.1=y.1)&&(decide (x.2.1=y.2.1)&&(decide (x.2.2.1=y.2.2.1)&&(decide (x.2.2.2=y.2.2.2)&&true)))):=by simp only[Z.decide_pair,Yq]
 rw[e];exact h
theorem eqin114 {x y:D113}(d:Nat):Z.EqV Tryz.prog (d+3) 114 (.agg #[.int .i64 x.1,.int .i64 x.2.1,.int .i64 x.2.2.1,.int .i64 x.2.2.2.1,.int .i64 x.2.2.2.2.1,.int .i64 x.2.2.2.2.2]) (.agg #[.int .i64 y.1,.int .i64 y.2.1,.int .i64 y.2.2.1,.int .i64 y.2.2.2.1,.int .i64 y.2.2.2.2.1,.int .i64 y.2.2.2.2.2]) (decide (x=y)):=by
 have h:Z.EqV Tryz.prog (d+3) 114 (.agg #[.int .i64 x.1,.int .i64 x.2.1,.int .i64 x.2.2.1,.int .i64 x.2.2.2.1,.int .i64 x.2.2.2.2.1,.int .i64 x.2.2.2.2.2]) (.agg #[.int .i64 y.1,.int .i64 y.2.1,.int .i64 y.2.2.1,.int .i64 y.2.2.2.1,.int .i64 y.2.2.2.2.1,.int .i64 y.2.2.2.2.2]) (decide (x.1=y.1)&&(decide (x.2.1=y.2.1)&&(decide (x.2.2=y.2.2)&&true))):=Z.eq_struct Tryz.underlying114 (by kernel_rfl) (Z.eqf_cons rfl (fun w=>Z.part_one w Tryz.isAgg2 rfl) (fun w=>Z.part_one w Tryz.isAgg2 rfl) (Z.eq_int (d:=d+1) Tryz.underlying2) (Z.eqf_cons rfl (fun w=>Z.part_one w Tryz.isAgg3 rfl) (fun w=>Z.part_one w Tryz.isAgg3 rfl) (Z.eq_int (d:=d+1) Tryz.underlying3) (Z.eqf_cons rfl (fun w=>Z.part_agg w Tryz.isAgg112 Tryz.sizeOf112 rfl) (fun w=>Z.part_agg w Tryz.isAgg112 Tryz.sizeOf112 rfl) (eqin112 (x:=x.2.2) (y:=y.2.2) d) Z.eqf_nil)))
 have e:decide (x=y)=(decide (x.1=y.1)&&(decide (x.2.1=y.2.1)&&(decide (x.2.2=y.2.2)&&true))):=by simp only[Z.decide_pair,Yq]
 rw[e];exact h
theorem eqin132 {x y:D131}(d:Nat):Z.EqV Tryz.prog (d+4) 132 (.agg #[.int .i64 x.1,.int .i64 x.2.1,.int .i64 x.2.2.1,.int .i64 x.2.2.2.1,.int .i64 x.2.2.2.2.1,.int .i64 x.2.2.2.2.2.1,.int .i64 x.2.2.2.2.2.2]) (.agg #[.int .i64 y.1,.int .i64 y.2.1,.int .i64 y.2.2.1,.int .i64 y.2.2.2.1,.int .i64 y.2.2.2.2.1,.int .i64 y.2.2.2.2.2.1,.int .i64 y.2.2.2.2.2.2]) (decide (x=y)):=by
 have h:Z.EqV Tryz.prog (d+4) 132 (.agg #[.int .i64 x.1,.int .i64 x.2.1,.int .i64 x.2.2.1,.int .i64 x.2.2.2.1,.int .i64 x.2.2.2.2.1,.int .i64 x.2.2.2.2.2.1,.int .i64 x.2.2.2.2.2.2]) (.agg #[.int .i64 y.1,.int .i64 y.2.1,.int .i64 y.2.2.1,.int .i64 y.2.2.2.1,.int .i64 y.2.2.2.2.1,.int .i64 y.2.2.2.2.2.1,.int .i64 y.2.2.2.2.2.2]) (decide (x.1=y.1)&&(decide (x.2=y.2)&&true)):=Z.eq_struct Tryz.underlying132 (by kernel_rfl) (Z.eqf_cons rfl (fun w=>Z.part_one w Tryz.isAgg3 rfl) (fun w=>Z.part_one w Tryz.isAgg3 rfl) (Z.eq_int (d:=d+2) Tryz.underlying3) (Z.eqf_cons rfl (fun w=>Z.part_agg w Tryz.isAgg114 Tryz.sizeOf114 rfl) (fun w=>Z.part_agg w Tryz.isAgg114 Tryz.sizeOf114 rfl) (eqin114 (x:=x.2) (y:=y.2) d) Z.eqf_nil))
 have e:decide (x=y)=(decide (x.1=y.1)&&(decide (x.2=y.2)&&true)):=by simp only[Z.decide_pair,Yq]
 rw[e];exact h
theorem eqin199 {x y:D198}(d:Nat):Z.EqV Tryz.prog (d+2) 199 (.agg #[.int .i64 x.1,.int .i64 x.2]) (.agg #[.int .i64 y.1,.int .i64 y.2]) (decide (x=y)):=by
 have h:Z.EqV Tryz.prog (d+2) 199 (.agg #[.int .i64 x.1,.int .i64 x.2]) (.agg #[.int .i64 y.1,.int .i64 y.2]) (decide (x.1=y.1)&&(decide (x.2=y.2)&&true)):=Z.eq_struct Tryz.underlying199 (by kernel_rfl) (Z.eqf_cons rfl (fun w=>Z.part_one w Tryz.isAgg3 rfl) (fun w=>Z.part_one w Tryz.isAgg3 rfl) (Z.eq_int (d:=d+0) Tryz.underlying3) (Z.eqf_cons rfl (fun w=>Z.part_one w Tryz.isAgg3 rfl) (fun w=>Z.part_one w Tryz.isAgg3 rfl) (Z.eq_int (d:=d+0) Tryz.underlying3) Z.eqf_nil))
 have e:decide (x=y)=(decide (x.1=y.1)&&(decide (x.2=y.2)&&true)):=by simp only[Z.decide_pair,Yq]
 rw[e];exact h
theorem eqagg_eql199 {x y:D198}{a:Act}{w:World}{dd:Option Tmp}{T ty:TypeId}{pos:String}{af:Array Edge}{gd:Option (Nat×Bool)}{X Y:Operand}(hx:a.eval X=.agg #[.int .i64 x.1,.int .i64 x.2])(hy:a.eval Y=.agg #[.int .i64 y.1,.int .i64 y.2]):(execOp a.eval ⟨dd,.binOp .eql 199 X Y ty,T,pos,af,gd⟩).run Tryz.prog w=.ok (.value (.bool (decide (x=y)))) w:=Z.r_eqagg (eqin199 9998) (by kernel_rfl) hx hy
theorem ky2:Z.Ky Tryz.prog 2 (fun i:Int=>.int .i64 i):=Z.Ky.mkInt Tryz.underlying2
theorem ky3:Z.Ky Tryz.prog 3 (fun i:Int=>.int .i64 i):=Z.Ky.mkInt Tryz.underlying3
theorem ky28:Z.Ky Tryz.prog 28 (fun x:D27=>.agg #[.int .i64 x.1,.string x.2]):=Z.Ky.mkAgg Tryz.underlying28 (fun _ _=>rfl) (fun _ _ _=>by kernel_rfl) (fun _ _=>eqin28 9998) (fun _=>by simp[Instr.sameBits,Z.bbeq])
theorem ky132:Z.Ky Tryz.prog 132 (fun x:D131=>.agg #[.int .i64 x.1,.int .i64 x.2.1,.int .i64 x.2.2.1,.int .i64 x.2.2.2.1,.int .i64 x.2.2.2.2.1,.int .i64 x.2.2.2.2.2.1,.int .i64 x.2.2.2.2.2.2]):=Z.Ky.mkAgg Tryz.underlying132 (fun _ _=>rfl) (fun _ _ _=>by kernel_rfl) (fun _ _=>eqin132 9996) (fun _=>by simp[Instr.sameBits,Z.bbeq])
theorem ky199:Z.Ky Tryz.prog 199 (fun x:D198=>.agg #[.int .i64 x.1,.int .i64 x.2]):=Z.Ky.mkAgg Tryz.underlying199 (fun _ _=>rfl) (fun _ _ _=>by kernel_rfl) (fun _ _=>eqin199 9998) (fun _=>by simp[Instr.sameBits,Z.bbeq])
end Go.Proofs.YtlbdgahbamalcaaGreatDoor
end
section
namespace Go.A
open Go.RowKit Go.Z
def Row (t:Ty)(w:World)(F G:Nat->Prop)(A:Option Addr)(c:Nat)(xs:List t.den):Prop:=
 xs.length<=c/\c<=maxLen/\∃cells:List Value,cells.length=xs.length*t.size/\
  (xs.length=0\/∃b o,A=some ⟨b,o,none⟩/\G b/\∀j u,cells[j]?=some u->w.cell? ⟨b,o+j,none⟩=some u)/\
  ∀(i:Nat) (x:t.den),xs[i]?=some x->t.rep w F ((cells.drop (i*t.size)).take t.size) x
section
variable {t:Ty}{w w':World}{F F' G G':Nat->Prop}{A:Option Addr}{c:Nat}{xs:List t.den}
theorem Row.of (h:(Ty.slice t).rep w F [.slice A xs.length c] xs):Row t w F F A c xs:=by
 obtain⟨A',c',cells,h1,h2,h3,h4,h5,h6⟩:=h
 injection h1 with h1;injection h1 with hA hn hc
 subst hA;subst hc
 exact⟨h2,h3,cells,h4,h5,h6⟩
theorem Row.rep (h:Row t w F F A c xs):(Ty.slice t).rep w F [.slice A xs.length c] xs:=by
 obtain⟨h2,h3,cells,h4,h5,h6⟩:=h
 exact⟨A,c,cells,rfl,h2,h3,h4,h5,h6⟩
theorem Row.to {S:List Nat}(h:Row t w F G A c xs)(hc:Ch S w w')(hF: ∀b,F b->b<w.heap.size->b∉S/\F' b)(hG: ∀b,G b->b<w.heap.size->b∉S/\G' b):Row t w' F' G' A c xs:=by
 obtain⟨h2,h3,cells,h4,h5,h6⟩:=h
 refine⟨h2,h3,cells,h4,?_,fun i x hi=>rep_to (h6 i x hi) hc hF⟩
 by_cases hz:xs.length=0
 ·exact .inl hz
 ·rcases h5 with h5|⟨b,o,hA,hb,hcell⟩
  ·exact absurd h5 hz
  ·have h0:0<cells.length:=by rw[h4];exact Nat.mul_pos (by omega) (Qan t)
   have hlt:=World.block_lt_of_cell? w _ (hcell 0 _ (Qh h0))
   obtain⟨h7,h8⟩:=hG b hb hlt
   exact .inr ⟨b,o,hA,h8,fun j u hu=>by rw[hc.cell (p:=⟨b,o+j,none⟩) hlt h7];exact hcell j u hu⟩
theorem Row.own {e:TypeId}{B:Nat}(h:Own t e B w F A c xs)(hA: ∀k,k∈obl A->G k):Row t w F G A c xs:=by
 obtain⟨cells,hr,h1,h2⟩:=h
 have hl:cells.length=xs.length*t.size:=hr.1
 rcases hr.2 with⟨hv,hn⟩|⟨g,cap,cur,hv,hb,hg,hnc,hcm,hcs,htake⟩
 ·injection hv with hA' _ hc
  subst hA';subst hc
  exact⟨by omega,by simp[maxLen],cells,hl,.inl hn,h2⟩
 ·injection hv with hA' _ hc
  subst hA';subst hc
  refine⟨hnc,hcm,cells,hl,.inr ⟨g,0,rfl,hA g (by simp[obl]),fun j u hu=>?_⟩,h2⟩
  rw[Wm,cell_of_row w g j cur e (0,0) hg]
  rw[<-htake,Wq]at hu
  split at hu
  ·simpa using hu
  ·cases hu
theorem Row.at (h:Row t w F G A c xs){k:Nat}{x:t.den}(hk:xs[k]?=some x):
  ∃b o es,A=some ⟨b,o,none⟩/\G b/\b<w.heap.size/\Cells w ⟨b,o+k*t.size,none⟩ es/\t.rep w F es x:=by
 obtain⟨h2,h3,cells,h4,h5,h6⟩:=h
 have hlt:=(Qb.1 hk).1
 rcases h5 with h5|⟨b,o,rfl,hb,hcell⟩
 ·omega
 ·have hs:=Qan t
  have hk2:k*t.size<cells.length:=by rw[h4];exact Nat.mul_lt_mul_of_pos_right hlt hs
  refine⟨b,o,_,rfl,hb,World.block_lt_of_cell? w ⟨b,o+k*t.size,none⟩ (hcell (k*t.size) _ (Qh hk2)),fun j u hu=>?_,h6 k _ hk⟩
  rw[Addr.add_lit]
  have hj:j<t.size:=by
   have:=(Qb.1 hu).1
   simp only[Qw]at this
   omega
  rw[Q6 hj,Q8]at hu
  rw[Xb]
  exact hcell _ _ hu
theorem Row.ok (h:Row t w F G A c xs): ∀x,x∈xs->t.ok x:=fun x hx=>by
 obtain⟨i,hi,rfl⟩:=Xe hx
 obtain⟨_,_,es,_,_,_,_,hr⟩:=h.at (Qh hi)
 exact rep_ok t hr
end
def Lst (w:World)(g b:Nat)(k v:Value):Prop:=
 ∃(since clock bo:Nat) (sb:Array Nat) (arr:List MapEntry) (e:MapEntry),w.heap[g]?=some (.mapIter (some b) since (sb.push bo) clock)/\w.heap[b]?=some (.map arr.toArray clock)/\arr.find? (fun x=>x.born==bo)=some e/\e.key=k/\e.val=v
theorem Lst.ch {w w':World}{g b:Nat}{k v:Value}{S:List Nat}(h:Lst w g b k v)(hc:Ch S w w')(hg:g∉S)(hb:b∉S):Lst w' g b k v:=by
 obtain⟨since,clock,bo,sb,arr,e,h1,h2,h3⟩:=h
 exact⟨since,clock,bo,sb,arr,e,(hc.block _ (Qp.1 h1).1 hg).trans h1,(hc.block _ (Qp.1 h2).1 hb).trans h2,h3⟩
theorem Lst.run {P:Program}{w:World}{g b:Nat}{k v:Value}(h:Lst w g b k v):(Instr.entry (.pointer (some ⟨g,0,none⟩))).run P w=.ok (.tuple #[k,v]) w:=by
 obtain⟨since,clock,bo,sb,arr,e,h1,h2,h3,rfl,rfl⟩:=h
 have g1:(getObj g).run P w=.ok (.mapIter (some b) since (sb.push bo) clock) w:=by rw[getObj,Sem.run];simp only[h1];rfl
 have g2:(getObj b).run P w=.ok (.map arr.toArray clock) w:=by rw[getObj,Sem.run];simp only[h2];rfl
 simp only[Instr.entry,Sem.run_bind,g1,Result.andThen_ok,Array.back?_push,g2,bne_self_eq_false,Wo,Wu,List.find?_toArray,h3,Sem.run_pure]
def lv:Ty->Nat
 | .slice _=>1
 | .pair a b=>lv a+lv b
 |_=>0
abbrev Lf:=List (Option Addr×Nat)
def cl:(t:Ty)->t.den->Lf->List Value
 | .int k,x,_=>[.int k x]
 | .byte,x,_=>[.int .u8 (x.toNat:Int)]
 | .bool,x,_=>[.bool x]
 | .str,x,_=>[.string x]
 | .slice _,xs,p::_=>[.slice p.1 xs.length p.2]
 | .slice _,_,[]=>[]
 | .pair a b,x,ps=>cl a x.1 (ps.take (lv a))++cl b x.2 (ps.drop (lv a))
def rbl (As:List (Option Addr×Nat)):List Nat:=As.flatMap fun a=>obl a.1
def Mr {κ:Type}(enc:κ->Value)(t:Ty)(e:TypeId)(w:World)(F:Nat->Prop)(b:Nat)(As:List (Option Addr×Nat))(m:List (κ×List t.den)):Prop:=
 ∃es,MapC w b es/\es.length=m.length/\As.length=m.length/\(b::rbl As).Nodup/\(∀x,x∈rbl As->x<w.heap.size)/\
  ∀(i:Nat) (p:κ×List t.den) (a:Option Addr×Nat),m[i]?=some p->As[i]?=some a->es[i]?=some (enc p.1,.slice a.1 p.2.length a.2)/\Own t e 0 w F a.1 a.2 p.2
theorem Qat {As:List (Option Addr×Nat)}{i:Nat}{a:Option Addr×Nat}(h:As[i]?=some a){k:Nat}(hk:k∈obl a.1):k∈rbl As:=List.mem_flatMap.2 ⟨a,Qt h,hk⟩
theorem Mr.to {κ:Type}{enc:κ->Value}{t:Ty}{e:TypeId}{w w':World}{F F':Nat->Prop}{b:Nat}{As:List (Option Addr×Nat)}{m:List (κ×List t.den)}{S:List Nat}(h:Mr enc t e w F b As m)(hc:Ch S w w')(hn: ∀x,x∈b::rbl As->x∉S)(hF: ∀b,F b->b<w.heap.size->b∉S/\F' b):Mr enc t e w' F' b As m:=by
 obtain⟨es,h1,h2,h3,h4,h5,h6⟩:=h
 refine⟨es,h1.ch hc (hn b (Qg ..)),h2,h3,h4,fun x hx=>Qq (h5 x hx) hc.size,fun i p a hp ha=>?_⟩
 obtain⟨h7,h8⟩:=h6 i p a hp ha
 exact⟨h7,Own.to h8 hc (fun k hk _ _=>hn k (Qf _ (Qat ha hk))) hF⟩
inductive Res:Type 1 where
 |dead
 |sh (t:Ty) (cs:List Value) (x:t.den)
 |ln (t:Ty) (A:Option Addr) (c:Nat) (xs:List t.den)
 |el (k:Option Nat) (b o:Nat) (cs:List Value)
 |own (t:Ty) (e:TypeId) (A:Option Addr) (c:Nat) (xs:List t.den)
 |blk (g:Nat) (e:TypeId) (cs:List Value)
 |mp (κ:Type) (enc:κ->Value) (t:Ty) (agg:Bool) (b:Nat) (m:List (κ×t.den))
 |mit (k g b n:Nat) (seen:List Nat) (last:Option (Value×Value))
 |si (g:Nat) (s:ByteArray) (p:Nat)
 |ob (g:Nat) (p:Obj->Prop)
 |lmp (κ:Type) (enc:κ->Value) (t:Ty) (agg:Bool) (b:Nat) (m:List (κ×t.den))
 |mr (κ:Type) (enc:κ->Value) (t:Ty) (e:TypeId) (b:Nat) (As:List (Option Addr×Nat)) (m:List (κ×List t.den))
 |gn (bs:List Nat) (p:World->(Nat->Prop)->Prop) (hp: ∀{w w':World} {F F':Nat->Prop} {S:List Nat},p w F->Ch S w w'->(∀b,b∈bs->b∉S)->(∀b,F b->b<w.heap.size->b∉S/\F' b)->p w' F')
def rs:(t:Ty)->t.den->Lf->List Res
 | .slice t,xs,p::_=>[.sh (.slice t) [.slice p.1 xs.length p.2] xs]
 | .pair a b,x,ps=>rs a x.1 (ps.take (lv a))++rs b x.2 (ps.drop (lv a))
 |_,_,_=>[]
def tele:Nat->(Lf->Prop)->Prop
 |0,K=>K []
 |n+1,K=>∀A c,tele n fun ps=>K ((A,c)::ps)
theorem Qau: ∀{n:Nat} {K:Lf->Prop},tele n K->∀ps:Lf,ps.length=n->K ps
 |0,_,h,[],_=>h
 |n+1,_,h,(A,c)::ps,hl=>Qau (h A c) ps (by simpa using hl)
def Res.bl:Res->List Nat
 | .own _ _ A _ _=>obl A
 | .blk g _ _=>[g]
 | .mp _ _ _ _ b _=>[b]
 | .mit _ g _ _ _ _=>[g]
 | .si g _ _=>[g]
 | .ob g _=>[g]
 | .mr _ _ _ _ b As _=>b::rbl As
 | .gn bs _ _=>bs
 |_=>[]
def Res.ref:Res->Option Nat
 | .el k _ _ _=>k
 | .mit k _ _ _ _ _=>some k
 |_=>none
def Res.holds (w:World)(F:Nat->Prop)(B:Nat->Nat->Prop):Res->Prop
 | .dead=>True
 | .sh t cs x=>t.rep w F cs x
 | .ln t A c xs=>Row t w F (fun b=>∀k,¬B k b) A c xs
 | .el k b o cs=>Cells w ⟨b,o,none⟩ cs/\b<w.heap.size/\match k with
  |none=>∀k,¬B k b
  |some k=>B k b
 | .own t e A c xs=>Own t e 0 w F A c xs
 | .blk g e cs=>Blk w g e cs
 | .mp _ enc t agg b m=>Mt enc t agg w F b m
 | .mit k g b n seen last=>Rg w g b n seen/\B k b/\∀kv,last=some kv->Lst w g b kv.1 kv.2
 | .si g s p=>Si w g s p
 | .ob g p=>∃o,w.heap[g]?=some o/\p o
 | .lmp _ enc t agg b m=>Mt enc t agg w F b m/\∀k,¬B k b
 | .mr _ enc t e b As m=>Mr enc t e w F b As m
 | .gn _ p _=>p w F
theorem Res.to {r:Res}{w w':World}{F F':Nat->Prop}{B B':Nat->Nat->Prop}{S:List Nat}(h:r.holds w F B)(hc:Ch S w w')(hF: ∀b,F b->b<w.heap.size->b∉S/\F' b)
  (hG: ∀b,(∀k,¬B k b)->b<w.heap.size->b∉S/\∀k,¬B' k b) (hB: ∀k b,r.ref=some k->B k b->b∉S/\B' k b) (hb: ∀b,b∈r.bl->b∉S):r.holds w' F' B':=by
 cases r with
 |dead=>trivial
 |sh t cs x=>exact rep_to h hc hF
 |ln t A c xs=>exact Row.to h hc hF hG
 |el k b o cs=>
  obtain⟨h1,h2,h3⟩:=h
  cases k with
  |none=>exact⟨h1.ch hc fun _=>(hG b h3 h2).1,Qq h2 hc.size,(hG b h3 h2).2⟩
  |some k=>exact⟨h1.ch hc fun _=>(hB k b rfl h3).1,Qq h2 hc.size,(hB k b rfl h3).2⟩
 |own t e A c xs=>exact Own.to h hc (fun k hk _ _=>hb k hk) hF
 |blk g e cs=>exact Blk.ch h hc (hb g (by simp[Res.bl]))
 |mp κ enc t agg b m=>exact Mt.to h hc (hb b (by simp[Res.bl])) hF
 |mit k g b n seen last=>exact⟨h.1.ch hc (hb g (by simp[Res.bl])) (hB k b rfl h.2.1).1,(hB k b rfl h.2.1).2,fun kv hkv=>(h.2.2 kv hkv).ch hc (hb g (by simp[Res.bl])) (hB k b rfl h.2.1).1⟩
 |si g s p=>exact h.ch hc (hb g (by simp[Res.bl]))
 |ob g p=>
  obtain⟨o,h1,h2⟩:=h
  exact⟨o,(hc.block g (Qp.1 h1).1 (hb g (by simp[Res.bl]))).trans h1,h2⟩
 |lmp κ enc t agg b m=>
  obtain⟨h1,h2⟩:=h
  exact⟨Mt.to h1 hc (hG b h2 h1.lt).1 hF,(hG b h2 h1.lt).2⟩
 |mr κ enc t e b As m=>exact Mr.to h hc hb hF
 |gn bs p hp=>exact hp h hc hb hF
theorem rep_cl {w:World}{F:Nat->Prop}{B:Nat->Nat->Prop}: ∀(t:Ty) {cs:List Value} {x:t.den},t.rep w F cs x->∃ps:Lf,ps.length=lv t/\cs=cl t x ps/\∀r∈rs t x ps,r.holds w F B/\r.bl=[]/\r.ref=none
 | .int _,cs,x,h=>⟨[],rfl,h.1,by simp[rs]⟩
 | .byte,cs,x,h=>⟨[],rfl,h,by simp[rs]⟩
 | .bool,cs,x,h=>⟨[],rfl,h,by simp[rs]⟩
 | .str,cs,x,h=>⟨[],rfl,h.1,by simp[rs]⟩
 | .slice e,cs,x,h=>by
  have h0:=h
  obtain⟨A,c,cells,h1,_⟩:=h
  refine⟨[(A,c)],rfl,h1,fun r hr=>?_⟩
  simp only[rs,Qm]at hr
  subst hr
  exact⟨by rw[h1]at h0;exact h0,rfl,rfl⟩
 | .pair a b,cs,x,h=>by
  obtain⟨ca,cb,h1,ha,hb⟩:=h
  obtain⟨pa,a1,a2,a3⟩:=rep_cl (B:=B) a ha
  obtain⟨pb,b1,b2,b3⟩:=rep_cl (B:=B) b hb
  refine⟨pa++pb,by rw[Wg,a1,b1];rfl,?_,fun r hr=>?_⟩
  ·simp only[cl,<-a1,List.take_left,List.drop_left];rw[h1,a2,b2]
  ·simp only[rs,<-a1,List.take_left,List.drop_left,Q0]at hr
   exact hr.elim (a3 r) (b3 r)
def hk:List (Nat×Res)->Nat->Option Res
 | [],_=>none
 |(e,v)::r,d=>bif Nat.beq e d then some v else hk r d
theorem Qab (d e:Nat)(v:Res)(H:List (Nat×Res)):hk ((d,v)::H) e=if d=e then some v else hk H e:=by
 unfold hk
 by_cases h:d=e
 ·subst h;simp
 ·have:Nat.beq d e=false:=by cases hb:Nat.beq d e with
   |false=>rfl
   |true=>exact absurd (Ql hb) h
  simp only[this,cond_false,Qd h]
  cases H<;>rfl
def drp (k:Nat):List (Nat×Res)->List (Nat×Res)
 | []=>[]
 |(e,v)::r=>(e,match v.ref with
  |none=>v
  |some j=>bif Nat.beq j k then .dead else v)::drp k r
theorem Qcw (k:Nat): ∀(H:List (Nat×Res)) (e:Nat) (v:Res),hk (drp k H) e=some v->v=.dead\/(hk H e=some v/\v.ref≠some k)
 | [],e,v,h=>by cases h
 |(d,u)::r,e,v,h=>by
  unfold drp at h
  rw[Qab]at h
  rw[Qab]
  split at h
  ·rename_i hde
   injection h with h
   cases hu:u.ref with
   |none=>rw[hu]at h;subst h;exact .inr ⟨by rw[Qj hde],by rw[hu];simp⟩
   |some j=>
    rw[hu]at h
    simp only[]at h
    cases hb:Nat.beq j k with
    |true=>rw[hb]at h;exact .inl h.symm
    |false=>
     rw[hb]at h
     subst h
     refine .inr ⟨by rw[Qj hde];rfl,fun h2=>?_⟩
     rw[show(bif false then Res.dead else u)=u from rfl,hu]at h2
     injection h2 with h2
     subst h2
     simp at hb
  ·rename_i hde
   rw[Qd hde]
   exact Qcw k r e v h
def Bk (H:List (Nat×Res))(k b:Nat):Prop:=∃r,hk H k=some r/\b∈r.bl
structure Cx where
 n:Nat
 ds:List Deferred
 w0:World
 S:List Nat
 F:Nat->Prop
def Fh (C:Cx)(H:List (Nat×Res))(b:Nat):Prop:=(∀k,¬Bk H k b)/\(C.F b\/C.w0.heap.size<=b\/b∈C.S)
structure Hp (C:Cx) (H:List (Nat×Res)) (w:World):Prop where
 ch:Ch C.S C.w0 w
 hold: ∀k r,hk H k=some r->r.holds w (Fh C H) (Bk H)
 bnd: ∀k b,Bk H k b->(C.w0.heap.size<=b\/b∈C.S)/\b<w.heap.size
 dis: ∀k k' b,Bk H k b->Bk H k' b->k=k'
 ref: ∀k r j,hk H k=some r->r.ref=some j->j≠k/\∀r',hk H j=some r'->r'.ref=none
section
variable {C:Cx}{H:List (Nat×Res)}{w w':World}{k:Nat}{r':Res}{S:List Nat}
theorem Hp.upd (h:Hp C H w)(hc:Ch S w w')(hS: ∀b,b∈S->Bk H k b)(hb: ∀b,b∈r'.bl->Bk H k b\/(w.heap.size<=b/\b<w'.heap.size))(hrf: ∀j,r'.ref=some j->j≠k/\∀r,hk H j=some r->r.ref=none)
  (hr: ∀(F:Nat->Prop) (B:Nat->Nat->Prop),(∀b,Fh C H b->b<w.heap.size->F b)->(∀b,(∃r,hk H k=some r/\b∈r.bl)->b∉r'.bl->F b)->(∀b,(∀k,¬Bk H k b)->b<w.heap.size->∀k,¬B k b)->(∀j b,r'.ref=some j->Bk H j b->B j b)->(∀b,b∈r'.bl->B k b)->r'.holds w' F B)
  :Hp C ((k,r')::drp k H) w':=by
 have hbk: ∀j b,j≠k->Bk ((k,r')::drp k H) j b->Bk H j b:=fun j b hj ⟨r,h1,h2⟩=>by
  rw[Qab,Qd (Ne.symm hj)]at h1
  rcases Qcw k H j r h1 with rfl|⟨h3,_⟩
  ·cases h2
  ·exact⟨r,h3,h2⟩
 have drp_keep: ∀(H:List (Nat×Res)) (j:Nat) (r:Res),hk H j=some r->r.ref≠some k->hk (drp k H) j=some r:=by
  intro H
  induction H with
  |nil=>intro j r h1;cases h1
  |cons p q ih=>
   obtain⟨d,u⟩:=p
   intro j r h1 h2
   unfold drp
   rw[Qab]at h1 ⊢
   by_cases hd:d=j
   ·rw[Qj hd]at h1 ⊢
    injection h1 with h1
    subst h1
    cases hu:u.ref with
    |none=>rfl
    |some i=>
     simp only[]
     have:Nat.beq i k=false:=by cases hb:Nat.beq i k with
      |false=>rfl
      |true=>exact absurd (by rw[hu,Ql hb]) h2
     rw[this];rfl
   ·rw[Qd hd]at h1 ⊢
    exact ih j r h1 h2
 have hkp: ∀j b,j≠k->(∀r,hk H j=some r->r.ref=none)->Bk H j b->Bk ((k,r')::drp k H) j b:=fun j b hj hn ⟨r,h1,h2⟩=>
  ⟨r,by rw[Qab,Qd (Ne.symm hj)];exact drp_keep H j r h1 (by rw[hn r h1];simp),h2⟩
 have hk0: ∀b,Bk ((k,r')::drp k H) k b↔b∈r'.bl:=fun b=>⟨fun⟨r,h1,h2⟩=>by rw[Qab,Qj rfl]at h1;injection h1 with h1;subst h1;exact h2,fun hb=>⟨r',by rw[Qab,Qj rfl],hb⟩⟩
 have hFh: ∀b,Fh C H b->b<w.heap.size->b∉S/\Fh C ((k,r')::drp k H) b:=fun b hf hl=>by
  refine⟨fun hS'=>hf.1 k (hS b hS'),⟨fun j hj=>?_,hf.2⟩⟩
  by_cases hjk:j=k
  ·subst hjk
   rcases hb b ((hk0 b).1 hj)with h2|h2
   ·exact hf.1 j h2
   ·omega
  ·exact hf.1 j (hbk j b hjk hj)
 have hGh: ∀b,(∀k,¬Bk H k b)->b<w.heap.size->b∉S/\∀j,¬Bk ((k,r')::drp k H) j b:=fun b hb' hl=>by
  refine⟨fun hS'=>hb' k (hS b hS'),fun j hj=>?_⟩
  by_cases hjk:j=k
  ·subst hjk
   rcases hb b ((hk0 b).1 hj)with h2|h2
   ·exact hb' j h2
   ·omega
  ·exact hb' j (hbk j b hjk hj)
 have hlt: ∀b,Bk H k b->b<w.heap.size:=fun b hb=>(h.bnd k b hb).2
 have bnd': ∀j b,Bk ((k,r')::drp k H) j b->(C.w0.heap.size<=b\/b∈C.S)/\b<w'.heap.size:=fun j b hj=>by
  by_cases hjk:j=k
  ·subst hjk
   rcases hb b ((hk0 b).1 hj)with h2|h2
   ·exact⟨(h.bnd j b h2).1,Qq (h.bnd j b h2).2 hc.size⟩
   ·exact⟨.inl (Wd h.ch.size h2.1),h2.2⟩
  ·have:=h.bnd j b (hbk j b hjk hj)
   exact⟨this.1,Qq this.2 hc.size⟩
 refine⟨?_,fun j r hj=>?_,bnd',fun j j' b hj hj'=>?_,fun j r i hj hri=>?_⟩
 ·have hch:=h.ch
  refine⟨hc.os.trans hch.os,hc.tape.trans hch.tape,hc.output.trans hch.output,Wd hch.size hc.size,fun b hb' hn=>?_⟩
  have hb2:b∉S:=fun hbS=>by
   rcases(h.bnd k b (hS b hbS)).1 with h1|h1
   ·omega
   ·exact hn h1
  rw[hc.block b (Qq hb' hch.size) hb2]
  exact hch.block b hb' hn
 ·rw[Qab]at hj
  by_cases hjk:k=j
  ·subst hjk
   rw[Qj rfl]at hj
   injection hj with hj
   subst hj
   refine hr _ _ (fun b hb hl=>(hFh b hb hl).2) (fun b hb hn=>⟨fun j hj=>?_,?_⟩) (fun b hb hl=>(hGh b hb hl).2) (fun j b hjk hj=>?_) (fun b hb=>(hk0 b).2 hb)
   ·by_cases hjk:j=k
    ·subst hjk;exact hn ((hk0 b).1 hj)
    ·exact hjk (h.dis j k b (hbk j b hjk hj) hb)
   ·exact .inr (h.bnd k b hb).1
   ·exact hkp j b (hrf j hjk).1 (hrf j hjk).2 hj
  ·rw[Qd hjk]at hj
   rcases Qcw k H j r hj with rfl|⟨h3,h4⟩
   ·trivial
   ·refine Res.to (h.hold j r h3) hc hFh hGh (fun i b hi hB=>?_) (fun b hb hS'=>hjk (h.dis k j b (hS b hS') ⟨r,h3,hb⟩))
    have hik:i≠k:=fun e=>h4 (by rw[hi,e])
    exact⟨fun hS'=>hik (h.dis i k b hB (hS b hS')),hkp i b hik (h.ref j r i h3 hi).2 hB⟩
 ·by_cases hjk:j=k<;>by_cases hjk':j'=k
  ·rw[hjk,hjk']
  ·subst hjk
   have h2:=hbk j' b hjk' hj'
   rcases hb b ((hk0 b).1 hj)with h1|h1
   ·exact h.dis j j' b h1 h2
   ·have:=(h.bnd j' b h2).2;omega
  ·subst hjk'
   have h2:=hbk j b hjk hj
   rcases hb b ((hk0 b).1 hj')with h1|h1
   ·exact h.dis j j' b h2 h1
   ·have:=(h.bnd j b h2).2;omega
  ·exact h.dis j j' b (hbk j b hjk hj) (hbk j' b hjk' hj')
 ·rw[Qab]at hj
  by_cases hjk:k=j
  ·subst hjk
   rw[Qj rfl]at hj
   injection hj with hj
   subst hj
   refine⟨(hrf i hri).1,fun r2 h2=>?_⟩
   rw[Qab,Qd (Ne.symm (hrf i hri).1)]at h2
   rcases Qcw k H i r2 h2 with rfl|⟨h3,_⟩
   ·rfl
   ·exact(hrf i hri).2 r2 h3
  ·rw[Qd hjk]at hj
   rcases Qcw k H j r hj with rfl|⟨h3,h4⟩
   ·cases hri
   ·obtain⟨h5,h6⟩:=h.ref j r i h3 hri
    have hik:k≠i:=fun e=>h4 (by rw[hri,e])
    refine⟨h5,fun r2 h2=>?_⟩
    rw[Qab,Qd hik]at h2
    rcases Qcw k H i r2 h2 with rfl|⟨h7,_⟩
    ·rfl
    ·exact h6 r2 h7
end
theorem Bk.cons_ne {H:List (Nat×Res)}{k j b:Nat}{r:Res}(h:j≠k):Bk ((k,r)::H) j b↔Bk H j b:=by
 unfold Bk;rw[Qab,Qd (Ne.symm h)]
theorem Bk.cons_eq {H:List (Nat×Res)}{k b:Nat}{r:Res}:Bk ((k,r)::H) k b↔b∈r.bl:=by
 unfold Bk;rw[Qab,Qj rfl]
 exact⟨fun⟨r2,h1,h2⟩=>by injection h1 with h1;subst h1;exact h2,fun h=>⟨r,rfl,h⟩⟩
theorem Hp.ext {C:Cx}{H H':List (Nat×Res)}{w:World}(h:Hp C H w)(e: ∀j,hk H' j=hk H j\/(hk H' j=some .dead/\hk H j=none)):Hp C H' w:=by
 have e0: ∀{j r},hk H' j=some r->r=.dead\/hk H j=some r:=fun {j r} hj=>by
  rcases e j with h1|⟨h1,_⟩
  ·exact .inr (h1▸hj)
  ·rw[h1]at hj;injection hj with hj;exact .inl hj.symm
 have e1:Bk H'=Bk H:=by
  funext k b
  refine propext ⟨fun⟨r,h1,h2⟩=>?_,fun⟨r,h1,h2⟩=>?_⟩
  ·rcases e0 h1 with rfl|h3
   ·cases h2
   ·exact⟨r,h3,h2⟩
  ·rcases e k with h3|⟨_,h3⟩
   ·exact⟨r,h3.trans h1,h2⟩
   ·rw[h3]at h1;cases h1
 have e2:Fh C H'=Fh C H:=by funext b;unfold Fh;rw[e1]
 refine⟨h.ch,fun k r hk=>?_,?_,?_,fun k r j hk hr=>?_⟩
 ·rcases e0 hk with rfl|h3
  ·trivial
  ·rw[e1,e2];exact h.hold k r h3
 ·rw[e1];exact h.bnd
 ·rw[e1];exact h.dis
 ·rcases e0 hk with rfl|h3
  ·cases hr
  ·refine⟨(h.ref k r j h3 hr).1,fun r' h4=>?_⟩
   rcases e0 h4 with rfl|h5
   ·rfl
   ·exact(h.ref k r j h3 hr).2 r' h5
def ded:List Nat->List (Nat×Res)->List (Nat×Res)
 | [],H=>H
 |j::js,H=>(j,.dead)::ded js H
theorem Qgw {H:List (Nat×Res)}{j:Nat}: ∀{js:List Nat},hk (ded js H) j=bif js.any (Nat.beq j)then some .dead else hk H j
 | []=>rfl
 |i::js=>by
  show hk ((i,.dead)::ded js H) j=_
  rw[Qab,Qgw,Jq]
  by_cases h:i=j
  ·subst h;simp
  ·have:Nat.beq j i=false:=by cases hb:Nat.beq j i with
    |false=>rfl
    |true=>exact absurd (Ql hb).symm h
   rw[Qd h,this];rfl
def rin (ks:List Nat):Option Nat->Bool
 |none=>false
 |some i=>ks.any (Nat.beq i)
def hng (ks js:List Nat)(H:List (Nat×Res)):Bool:=
 js.all (fun j=>match hk H j with|some v=>rin ks v.ref|none=>true)&&H.all fun p=>bif rin ks p.2.ref then js.any (Nat.beq p.1)||(match hk H p.1 with|some v=> !(rin ks v.ref)|none=>true)else true
theorem hk_memb: ∀{H:List (Nat×Res)} {j:Nat} {v:Res},hk H j=some v->(j,v)∈H
 |(d,u)::H,j,v,h=>by
  rw[Qab]at h
  split at h
  ·rename_i e;subst e;injection h with h;subst h;exact Qg ..
  ·exact Qf _ (hk_memb h)
theorem hng_at {ks js:List Nat}{H:List (Nat×Res)}(h:hng ks js H=true)(j:Nat):(bif js.any (Nat.beq j)then some Res.dead else hk H j)=((hk H j).map fun v=>bif rin ks v.ref then .dead else v)\/((bif js.any (Nat.beq j)then some Res.dead else hk H j)=some .dead/\((hk H j).map fun v=>bif rin ks v.ref then .dead else v)=none):=by
 simp only[hng,Qe,Qx]at h
 cases hj:js.any (Nat.beq j)with
 |true=>
  obtain⟨i,hi,hb⟩:=List.any_eq_true.1 hj
  have:=Ql hb;subst this
  have h1:=h.1 j hi
  cases hv:hk H j with
  |none=>exact .inr ⟨rfl,rfl⟩
  |some v=>rw[hv]at h1;replace h1:rin ks v.ref=true:=h1;exact .inl (by simp[h1])
 |false=>
  cases hv:hk H j with
  |none=>exact .inl rfl
  |some v=>
   refine .inl ?_
   have h1:=h.2 _ (hk_memb hv)
   simp only[hj,hv,Jr]at h1
   cases hr:rin ks v.ref with
   |false=>simp[hr]
   |true=>rw[hr]at h1;cases h1
theorem Qcq (k:Nat): ∀(H:List (Nat×Res)) (j:Nat),hk (drp k H) j=(hk H j).map fun v=>bif rin [k] v.ref then .dead else v
 | [],_=>rfl
 |(d,u)::H,j=>by
  unfold drp
  rw[Qab,Qab]
  by_cases hd:d=j
  ·rw[Qj hd,Qj hd]
   cases hu:u.ref with
   |none=>simp[hu,rin]
   |some i=>cases hb:Nat.beq i k<;>simp[hu,rin]<;>simp at hb<;>simp[hb]
  ·rw[Qd hd,Qd hd];exact Qcq k H j
theorem Hp.dd {C:Cx}{H:List (Nat×Res)}{w:World}{k:Nat}{r:Res}{js:List Nat}(h:Hp C ((k,r)::drp k H) w)(hj:hng [k] js H=true):Hp C ((k,r)::ded js H) w:=
 h.ext fun j=>by
  rw[Qab,Qab]
  by_cases h:k=j
  ·rw[Qj h,Qj h];exact .inl rfl
  ·rw[Qd h,Qd h,Qgw,Qcq];exact hng_at hj j
theorem Hp.dd2 {C:Cx}{H:List (Nat×Res)}{w:World}{k k2:Nat}{r r2:Res}{js:List Nat}(h:Hp C ((k2,r2)::(k,r)::drp k H) w)(hj:hng [k] js H=true):Hp C ((k2,r2)::(k,r)::ded js H) w:=
 h.ext fun j=>by
  rw[Qab,Qab,Qab,Qab]
  by_cases h2:k2=j
  ·rw[Qj h2,Qj h2];exact .inl rfl
  ·by_cases h:k=j
   ·rw[Qd h2,Qd h2,Qj h,Qj h];exact .inl rfl
   ·rw[Qd h2,Qd h2,Qd h,Qd h,Qgw,Qcq];exact hng_at hj j
section
variable {C:Cx}{H:List (Nat×Res)}{w w':World}{k:Nat}{r':Res}
theorem Hp.noref (h:Hp C H w)(h0:hk H k=none){j:Nat}{r:Res}(hj:hk H j=some r):r.ref≠some k:=fun hr=>by
 have hh:=h.hold j r hj
 cases r with
 |el i b o cs=>
  simp only[Res.ref]at hr
  subst hr
  obtain⟨_,_,r2,h2,_⟩:=hh
  rw[h0]at h2;cases h2
 |mit i g b n seen la=>
  simp only[Res.ref,Qc]at hr
  subst hr
  obtain⟨_,⟨r2,h2,_⟩,_⟩:=hh
  rw[h0]at h2;cases h2
 |_=>cases hr
theorem Hp.new (h:Hp C H w)(h0:hk H k=none)(hc:Ch [] w w')(hb: ∀b,b∈r'.bl->w.heap.size<=b/\b<w'.heap.size)(hrf: ∀j,r'.ref=some j->∀r,hk H j=some r->r.ref=none)
  (hr: ∀(F:Nat->Prop) (B:Nat->Nat->Prop),(∀b,Fh C H b->b<w.heap.size->F b)->(∀b,(∀k,¬Bk H k b)->b<w.heap.size->∀k,¬B k b)->(∀j b,Bk H j b->B j b)->r'.holds w' F B):Hp C ((k,r')::H) w':=by
 have hkn: ∀j b,Bk H j b->j≠k:=fun j b ⟨r,h1,_⟩ e=>by subst e;rw[h0]at h1;cases h1
 have hup: ∀j b,Bk H j b->Bk ((k,r')::H) j b:=fun j b hj=>(Bk.cons_ne (hkn j b hj)).2 hj
 have hcase: ∀j b,Bk ((k,r')::H) j b->(j=k/\w.heap.size<=b/\b<w'.heap.size)\/(j≠k/\Bk H j b):=fun j b hj=>by
  by_cases hjk:j=k
  ·subst hjk;exact .inl ⟨rfl,hb b (Bk.cons_eq.1 hj)⟩
  ·exact .inr ⟨hjk,(Bk.cons_ne hjk).1 hj⟩
 have hnb: ∀b,(∀k,¬Bk H k b)->b<w.heap.size->∀j,¬Bk ((k,r')::H) j b:=fun b hb' hl j hj=>by
  rcases hcase j b hj with⟨_,h1,_⟩|⟨_,h1⟩
  ·omega
  ·exact hb' j h1
 refine⟨?_,fun j r hj=>?_,fun j b hj=>?_,fun j j' b hj hj'=>?_,fun j r i hj hri=>?_⟩
 ·have hch:=h.ch
  exact⟨hc.os.trans hch.os,hc.tape.trans hch.tape,hc.output.trans hch.output,Wd hch.size hc.size,fun b hb' hn=>by rw[hc.block b (Qq hb' hch.size) (by simp)];exact hch.block b hb' hn⟩
 ·rw[Qab]at hj
  split at hj
  ·injection hj with hj;subst hj
   exact hr _ _ (fun b hF hl=>⟨hnb b hF.1 hl,hF.2⟩) hnb hup
  ·exact Res.to (h.hold j r hj) hc (fun b hF hl=>⟨by simp,hnb b hF.1 hl,hF.2⟩) (fun b hB hl=>⟨by simp,hnb b hB hl⟩) (fun i b _ hB=>⟨by simp,hup i b hB⟩) (by simp)
 ·rcases hcase j b hj with⟨_,h1,h2⟩|⟨_,h1⟩
  ·exact⟨.inl (Wd h.ch.size h1),h2⟩
  ·exact⟨(h.bnd j b h1).1,Qq (h.bnd j b h1).2 hc.size⟩
 ·rcases hcase j b hj with⟨h1,h2,_⟩|⟨_,h1⟩<;>rcases hcase j' b hj' with⟨h3,h4,_⟩|⟨_,h3⟩
  ·rw[h1,h3]
  ·have:=(h.bnd j' b h3).2;omega
  ·have:=(h.bnd j b h1).2;omega
  ·exact h.dis j j' b h1 h3
 ·rw[Qab]at hj
  have hvis: ∀i r2,hk ((k,r')::H) i=some r2->i≠k->hk H i=some r2:=fun i r2 h2 hne=>by rwa[Qab,Qd (Ne.symm hne)]at h2
  split at hj
  ·injection hj with hj;subst hj
   have hik:i≠k:=fun e=>by
    subst e
    have h1:=hr (fun b=>Fh C H b/\b<w.heap.size) (Bk H) (fun b h1 h2=>⟨h1,h2⟩) (fun b hB _=>hB) (fun j b hj=>hj)
    cases r' with
    |el i' b o cs=>
     simp only[Res.ref]at hri
     subst hri
     obtain⟨_,_,r2,h2,_⟩:=h1
     rw[h0]at h2;cases h2
    |mit i' g b n seen la=>
     simp only[Res.ref,Qc]at hri
     subst hri
     obtain⟨_,⟨r2,h2,_⟩,_⟩:=h1
     rw[h0]at h2;cases h2
    |_=>cases hri
   rename_i hkj
   exact⟨fun e=>hik (e.trans hkj.symm),fun r2 h2=>hrf i hri r2 (hvis i r2 h2 hik)⟩
  ·obtain⟨h5,h6⟩:=h.ref j r i hj hri
   have hik:i≠k:=fun e=>h.noref h0 hj (by rw[hri,e])
   exact⟨h5,fun r2 h2=>h6 r2 (hvis i r2 h2 hik)⟩
theorem Hp.add (h:Hp C H w)(h0:hk H k=none)(hb:r'.bl=[])(hrf: ∀j,r'.ref=some j->∀r,hk H j=some r->r.ref=none)
  (hr:r'.holds w (fun b=>Fh C H b/\b<w.heap.size) (Bk H)):Hp C ((k,r')::H) w:=
 h.new h0 (Ch.refl w) (by rw[hb];simp) hrf fun F B h1 h2 h3=>Res.to hr (S:=[]) (Ch.refl w) (fun b hF _=>⟨by simp,h1 b hF.1 hF.2⟩) (fun b hB hl=>⟨by simp,h2 b hB hl⟩) (fun i b _ hB=>⟨by simp,h3 i b hB⟩) (by simp)
end
def kx:Nat->List Res->List (Nat×Res)
 |_,[]=>[]
 |k,r::rs=>(k,r)::kx (k+1) rs
def hcat:List (Nat×Res)->List (Nat×Res)->List (Nat×Res)
 | [],H=>H
 |p::r,H=>p::hcat r H
def nok (H:List (Nat×Res)):Nat->Nat->Bool
 |_,0=>true
 |k,n+1=>(match hk H k with|none=>true|some _=>false)&&nok H (k+1) n
theorem Qbn {H:List (Nat×Res)}: ∀{n k j:Nat},nok H k n=true->k<=j->j<k+n->hk H j=none
 |0,k,j,_,h1,h2=>by omega
 |n+1,k,j,h,h1,h2=>by
  simp only[nok,Qe]at h
  rcases Yn k j with hlt|hge
  ·exact Qbn h.2 (by omega) (by omega)
  ·have:k=j:=by omega
   subst this
   cases hh:hk H k with
   |none=>rfl
   |some r=>rw[hh]at h;exact absurd h.1 (by simp)
theorem hk_kx: ∀(rs:List Res) (k j:Nat) (H:List (Nat×Res)),j<k->hk (hcat (kx k rs) H) j=hk H j
 | [],_,_,_,_=>rfl
 |r::rs,k,j,H,h=>by
  show hk ((k,r)::hcat (kx (k+1) rs) H) j=_
  rw[Qab,Qd (by omega)]
  exact hk_kx rs (k+1) j H (by omega)
theorem Hp.adds {C:Cx}{w:World}: ∀{rs:List Res} {k:Nat} {H:List (Nat×Res)},Hp C H w->nok H k rs.length=true->(∀r,r∈rs->r.bl=[]/\r.ref=none/\r.holds w (fun b=>Fh C H b/\b<w.heap.size) (Bk H))->Hp C (hcat (kx k rs) H) w
 | [],_,_,h,_,_=>h
 |r::rs,k,H,h,hn,hr=>by
  have h1:Hp C (hcat (kx (k+1) rs) H) w:=Hp.adds h (by simp only[Qu,nok,Qe]at hn;exact hn.2) fun r2 h2=>hr r2 (Qf _ h2)
  obtain⟨h2,h3,h4⟩:=hr r (Qg ..)
  have hb: ∀(rs:List Res) (k:Nat),(∀r,r∈rs->r.bl=[])->nok H k rs.length=true->∀j b,Bk (hcat (kx k rs) H) j b↔Bk H j b:=by
   intro rs
   induction rs with
   |nil=>intro k _ _ j b;exact Iff.rfl
   |cons r rs ih=>
    intro k hr hn j b
    show Bk ((k,r)::hcat (kx (k+1) rs) H) j b↔_
    have hn2:nok H (k+1) rs.length=true:=by simp only[Qu,nok,Qe]at hn;exact hn.2
    have hh:hk H k=none:=Qbn hn (Qo k) (by simp)
    by_cases hjk:j=k
    ·subst hjk
     rw[Bk.cons_eq,hr r (Qg ..)]
     exact⟨fun h=>by simp at h,fun⟨r2,h2,_⟩=>by rw[hh]at h2;cases h2⟩
    ·rw[Bk.cons_ne hjk];exact ih (k+1) (fun r2 h2=>hr r2 (Qf _ h2)) hn2 j b
  have hb':=hb rs (k+1) (fun r2 h2=>(hr r2 (Qf _ h2)).1) (by simp only[Qu,nok,Qe]at hn;exact hn.2)
  have hF: ∀b,Fh C H b->Fh C (hcat (kx (k+1) rs) H) b:=fun b hF=>⟨fun j hj=>hF.1 j ((hb' j b).1 hj),hF.2⟩
  refine h1.add ?_ h2 (fun j hj=>by rw[h3]at hj;cases hj) ?_
  ·rw[hk_kx rs (k+1) k H (by omega)];exact Qbn hn (Qo k) (by simp)
  ·exact Res.to h4 (S:=[]) (Ch.refl w) (fun b h _=>⟨by simp,hF b h.1,h.2⟩) (fun b h _=>⟨by simp,fun j hj=>h j ((hb' j b).1 hj)⟩) (fun i b _ h=>⟨by simp,(hb' i b).2 h⟩) (by simp)
def rok (ks:List Nat):Option Nat->Bool
 |none=>true
 |some j=>ks.any (Nat.beq j)
def kpH (H:List (Nat×Res))(all:List Nat):List Nat->List (Nat×Res)
 | []=>[]
 |k::ks=>match hk H k with
  |some r=>bif rok all r.ref then(k,r)::kpH H all ks else kpH H all ks
  |none=>kpH H all ks
theorem Qdh {H:List (Nat×Res)}{all:List Nat}: ∀{ks:List Nat} {k:Nat} {r:Res},hk (kpH H all ks) k=some r->hk H k=some r/\rok all r.ref=true/\k∈ks
 | [],k,r,h=>by cases h
 |j::ks,k,r,h=>by
  unfold kpH at h
  cases hj:hk H j with
  |none=>rw[hj]at h;obtain⟨h1,h2,h3⟩:=Qdh h;exact⟨h1,h2,Qf _ h3⟩
  |some u=>
   rw[hj]at h
   simp only[]at h
   cases hr:rok all u.ref with
   |false=>rw[hr]at h;obtain⟨h1,h2,h3⟩:=Qdh (show hk (kpH H all ks) k=some r from h);exact⟨h1,h2,Qf _ h3⟩
   |true=>
    rw[hr]at h
    replace h:hk ((j,u)::kpH H all ks) k=some r:=h
    rw[Qab]at h
    split at h
    ·rename_i hjk;subst hjk;have h:=Ws h;subst h;exact⟨hj,hr,Qg ..⟩
    ·obtain⟨h1,h2,h3⟩:=Qdh h;exact⟨h1,h2,Qf _ h3⟩
theorem Qcs {H:List (Nat×Res)}{all:List Nat}: ∀{ks:List Nat} {k:Nat} {r:Res},hk H k=some r->rok all r.ref=true->k∈ks->hk (kpH H all ks) k=some r
 | [],_,_,_,_,h=>by cases h
 |j::ks,k,r,h,hr,hm=>by
  unfold kpH
  by_cases hjk:j=k
  ·subst hjk
   rw[h]
   simp only[hr]
   show hk ((j,r)::_) j=_
   rw[Qab,Qj rfl]
  ·have hm':k∈ks:=(Qk.1 hm).resolve_left (Ne.symm hjk)
   cases hj:hk H j with
   |none=>exact Qcs h hr hm'
   |some u=>
    simp only[]
    cases rok all u.ref with
    |false=>exact Qcs h hr hm'
    |true=>
     show hk ((j,u)::_) k=_
     rw[Qab,Qd hjk]
     exact Qcs h hr hm'
theorem Hp.keep {C:Cx}{H:List (Nat×Res)}{w:World}(h:Hp C H w)(ks:List Nat):Hp C (kpH H ks ks) w:=by
 have hb: ∀j b,Bk (kpH H ks ks) j b->Bk H j b:=fun j b ⟨r,h1,h2⟩=>⟨r,(Qdh h1).1,h2⟩
 refine⟨h.ch,fun k r hk1=>?_,fun k b hb1=>h.bnd k b (hb k b hb1),fun k k' b h1 h2=>h.dis k k' b (hb _ _ h1) (hb _ _ h2),fun k r j hk1 hr=>?_⟩
 ·obtain⟨h1,h2,h3⟩:=Qdh hk1
  refine Res.to (h.hold k r h1) (S:=[]) (Ch.refl w) (fun b hF _=>⟨by simp,fun j hj=>hF.1 j (hb j b hj),hF.2⟩) (fun b hB _=>⟨by simp,fun j hj=>hB j (hb j b hj)⟩) (fun i b hi hB=>⟨by simp,?_⟩) (by simp)
  obtain⟨r2,h4,h5⟩:=hB
  have h6:=(h.ref k r i h1 hi).2 r2 h4
  refine⟨r2,Qcs h4 (by rw[h6];rfl) ?_,h5⟩
  rw[hi]at h2
  simp only[rok,List.any_eq_true]at h2
  obtain⟨x,hx,hb⟩:=h2
  rw[Ql hb];exact hx
 ·obtain⟨h1,_,_⟩:=Qdh hk1
  obtain⟨h2,h3⟩:=h.ref k r j h1 hr
  exact⟨h2,fun r2 h4=>h3 r2 (Qdh h4).1⟩
theorem Hp.cov {C:Cx}{H H':List (Nat×Res)}{w:World}(h:Hp C H w)(ks:List Nat)(e:kpH H ks ks=H'):Hp C H' w:=e▸h.keep ks
def ren (H:List (Nat×Res)):List (Nat×Nat)->List (Nat×Res)
 | []=>[]
 |(i,k)::ks=>match hk H k with
  |some r=>match r.ref with
   |none=>(i,r)::ren H ks
   |some _=>ren H ks
  |none=>ren H ks
theorem hk_ren {H:List (Nat×Res)}: ∀{ps:List (Nat×Nat)} {i:Nat} {r:Res},hk (ren H ps) i=some r->∃k,(i,k)∈ps/\hk H k=some r/\r.ref=none
 | [],i,r,h=>by cases h
 |(j,k)::ps,i,r,h=>by
  unfold ren at h
  have step:hk (ren H ps) i=some r->∃k',(i,k')∈(j,k)::ps/\hk H k'=some r/\r.ref=none:=fun h=>by
   obtain⟨k',h1,h2⟩:=hk_ren h;exact⟨k',Qf _ h1,h2⟩
  cases hj:hk H k with
  |none=>rw[hj]at h;exact step h
  |some u=>
   rw[hj]at h
   simp only[]at h
   cases hr:u.ref with
   |some _=>rw[hr]at h;exact step h
   |none=>
    rw[hr]at h
    replace h:hk ((j,u)::ren H ps) i=some r:=h
    rw[Qab]at h
    split at h
    ·rename_i hji;subst hji;injection h with h;subst h;exact⟨k,Qg ..,hj,hr⟩
    ·exact step h
def nod:List Nat->Bool
 | []=>true
 |k::ks=> !(ks.any (Nat.beq k))&&nod ks
theorem Qia {α:Type}{f g:α->Nat}: ∀{l:List α},nod (l.map f)=true->∀x y,x∈l->y∈l->f x=f y->g x=g y
 | [],_,x,_,hx,_,_=>by cases hx
 |a::l,h,x,y,hx,hy,e=>by
  simp only[Qz,nod,Qe,Xt,List.any_map]at h
  have hno: ∀z∈l,f a≠f z:=fun z hz e=>by
   have:=h.1
   rw[Yt]at this
   exact this z hz (by simp[Function.comp,e])
  rcases Qk.1 hx with hx0|hx1<;>rcases Qk.1 hy with hy0|hy1
  ·rw[hx0,hy0]
  ·subst hx0;exact absurd e (hno y hy1)
  ·subst hy0;exact absurd e.symm (hno x hx1)
  ·exact Qia h.2 x y hx1 hy1 e
theorem Hp.ren {C:Cx}{H:List (Nat×Res)}{w:World}(h:Hp C H w)(ps:List (Nat×Nat))(h1:nod (ps.map (·.1))=true)(h2:nod (ps.map (·.2))=true):Hp C (ren H ps) w:=by
 have hb: ∀i b,Bk (A.ren H ps) i b->∃k,(i,k)∈ps/\Bk H k b:=fun i b ⟨r,h3,h4⟩=>by
  obtain⟨k,h5,h6,_⟩:=hk_ren h3;exact⟨k,h5,r,h6,h4⟩
 have hnb: ∀b,(∀k,¬Bk H k b)->∀k,¬Bk (A.ren H ps) k b:=fun b hB j hj=>by obtain⟨k,_,h4⟩:=hb j b hj;exact hB k h4
 refine⟨h.ch,fun k r hk1=>?_,fun k b hb1=>by obtain⟨j,_,h3⟩:=hb k b hb1;exact h.bnd j b h3,fun k k' b h3 h4=>?_,fun k r j hk1 hr=>?_⟩
 ·obtain⟨j,h3,h4,h5⟩:=hk_ren hk1
  exact Res.to (h.hold j r h4) (S:=[]) (Ch.refl w) (fun b hF _=>⟨by simp,hnb b hF.1,hF.2⟩) (fun b hB _=>⟨by simp,hnb b hB⟩) (fun i b hi hB=>by rw[h5]at hi;cases hi) (by simp)
 ·obtain⟨j,h5,h6⟩:=hb k b h3
  obtain⟨j',h7,h8⟩:=hb k' b h4
  exact Qia (f:=fun p:Nat×Nat=>p.2) (g:=fun p:Nat×Nat=>p.1) h2 (k,j) (k',j') h5 h7 (h.dis j j' b h6 h8)
 ·obtain⟨_,_,_,h5⟩:=hk_ren hk1;rw[h5]at hr;cases hr
inductive Kx where
 |c (y:Code)
 |b (id:Nat)
 |m (M:Act->World->Prop)
 |s
def kont (r:Option Nat)(P:Program)(Y:Exit->Act->World->Prop):List Kx->Exit->Act->World->Prop
 | [],e,a,w=>Y e a w
 | .c y::K,.normal,a,w=>WP r P y (kont r P Y K) a w
 | .m M::_,.normal,a,w=>M a w
 | .b _::K,.normal,a,w=>kont r P Y K .normal a w
 | .s::_,.goto _,_,_=>False
 | .b id::K,.exit i,a,w=>if i=id then kont r P Y K .normal a w else kont r P Y K (.exit i) a w
 |_::K,e,a,w=>kont r P Y K e a w
section
variable {r:Option Nat}{P:Program}{Y:Exit->Act->World->Prop}{K:List Kx}{C:Cx}{l:List (Nat×Value)}{H:List (Nat×Res)}
abbrev AX (r:Option Nat) (P:Program) (Y:Exit->Act->World->Prop) (K:List Kx) (c:Code) (C:Cx) (l:List (Nat×Value)) (H:List (Nat×Res)):Prop:=∀a w,Fr a C.n C.ds l->Hp C H w->WP r P c (kont r P Y K) a w
abbrev AE (r:Option Nat) (P:Program) (Y:Exit->Act->World->Prop) (K:List Kx) (e:Exit) (C:Cx) (l:List (Nat×Value)) (H:List (Nat×Res)):Prop:=∀a w,Fr a C.n C.ds l->Hp C H w->kont r P Y K e a w
abbrev AL (r:Option Nat) (P:Program) (ops:Array Oper) (Q:Exit->Act->World->Prop) (rest:List Oper) (C:Cx) (l:List (Nat×Value)) (H:List (Nat×Res)):Prop:=∀a w,Fr a C.n C.ds l->Hp C H w->WL r P ops Q rest a w
theorem AX.seq {x y:Code}(h:AX r P Y (.c y::K) x C l H):AX r P Y K (.seq x y) C l H:=fun a w hf hh=>by
 refine wpIn_seq (wpIn_mono (h a w hf hh) fun e a w hq=>?_)
 cases e<;>exact hq
theorem AX.reg {id:Nat}{lo:List Oper}(h:AL r P lo.toArray (kont r P Y K) lo C l H):AX r P Y K (.region id lo.toArray false) C l H:=fun a w hf hh=>Z.reg (h a w hf hh)
theorem AL.done {ops:Array Oper}(h:AE r P Y K .normal C l H):AL r P ops (kont r P Y K) [] C l H:=fun a w hf hh=>Z.done (h a w hf hh)
theorem AE.c {y:Code}(h:AX r P Y K y C l H):AE r P Y (.c y::K) .normal C l H:=h
theorem AE.b {id:Nat}(h:AE r P Y K .normal C l H):AE r P Y (.b id::K) .normal C l H:=h
theorem AX.skip (h:AE r P Y K .normal C l H):AX r P Y K .skip C l H:=fun a w hf hh=>wpIn_skip (h a w hf hh)
theorem AX.block {id:Nat}{c:Code}(h:AX r P Y (.b id::K) c C l H):AX r P Y K (.block id c) C l H:=fun a w hf hh=>by
 refine wpIn_block (wpIn_mono (h a w hf hh) fun e a w hq=>?_)
 cases e<;>first|exact hq|skip
def popx (id:Nat):List Kx->Option (List Kx)
 | []=>none
 | .b i::K=>bif Nat.beq i id then some K else popx id K
 |_::K=>popx id K
theorem popx_spec {id:Nat}{a:Act}{w:World}: ∀{K K':List Kx},popx id K=some K'->kont r P Y K' .normal a w->kont r P Y K (.exit id) a w
 | [],_,h,_=>by cases h
 | .b i::K,K',h,hq=>by
  unfold popx at h
  show(if id=i then kont r P Y K .normal a w else kont r P Y K (.exit id) a w)
  cases hb:Nat.beq i id with
  |true=>
   rw[hb]at h
   have h:some K=some K':=h
   injection h with h;subst h
   rw[Qj (Ql hb).symm];exact hq
  |false=>
   rw[hb]at h
   rw[Qd (fun e=>by subst e;simp at hb)]
   exact popx_spec h hq
 | .c y::K,K',h,hq=>popx_spec (K:=K) h hq
 | .m M::K,K',h,hq=>popx_spec (K:=K) h hq
 | .s::K,K',h,hq=>popx_spec (K:=K) h hq
theorem AX.exit {id:Nat}{K':List Kx}(e:popx id K=some K')(h:AE r P Y K' .normal C l H):AX r P Y K (.exit id) C l H:=fun a w hf hh=>wpIn_exit (popx_spec e (h a w hf hh))
theorem kont_ret {a:Act}{w:World}: ∀{K:List Kx},Y .ret a w->kont r P Y K .ret a w
 | [],h=>h
 | .b _::K,h=>kont_ret (K:=K) h
 | .c _::K,h=>kont_ret (K:=K) h
 | .m _::K,h=>kont_ret (K:=K) h
 | .s::K,h=>kont_ret (K:=K) h
theorem AX.ret0 (h: ∀a w,Fr a C.n C.ds l->Hp C H w->Y .ret a w):AX r P Y K .ret C l H:=fun a w hf hh=>wpIn_ret (kont_ret (h a w hf hh))
theorem AE.s (h:AE r P Y K .normal C l H):AE r P Y (.s::K) .normal C l H:=h
theorem AX.scope {c:Code}(h:AX none P Y (.s::K) c C l H):AX none P Y K (.scope c) C l H:=fun a w hf hh=>by
 refine wpIn_wide.2 (wp_scope_straight ?_)
 have:=wpIn_wide.1 (h a w hf hh)
 refine Code.wp_mono (fun e a w hq=>?_) this
 cases e<;>exact hq
theorem AX.label {i:Nat}(h:AE r P Y K .normal C l H):AX r P Y K (.label i) C l H:=fun a w hf hh=>wpIn_label (h a w hf hh)
theorem AX.cnd {ρ:Type}{A B R:Option ρ}{c:Operand}{x y:Code}{p:Prop}[Decidable p](hc:ev l c=some (.bool (decide p)))(hF:(if p then A else B)=R)(ht:p->A=R->AX r P Y K x C l H)(he: ¬p->B=R->AX r P Y K y C l H):AX r P Y K (.cond c x y) C l H:=fun a w hf hh=>by
 by_cases hp:p
 ·rw[Qj hp]at hF;exact Z.condp hf hc (fun _=>ht hp hF a w hf hh) (fun h=>absurd hp h)
 ·rw[Qd hp]at hF;exact Z.condp hf hc (fun h=>absurd h hp) (fun _=>he hp hF a w hf hh)
theorem AX.cnb {ρ:Type}{A B R:Option ρ}{c:Operand}{x y:Code}{b:Bool}(hc:ev l c=some (.bool b))(hF:(if b=true then A else B)=R)(ht:b=true->A=R->AX r P Y K x C l H)(he:b=false->B=R->AX r P Y K y C l H):AX r P Y K (.cond c x y) C l H:=fun a w hf hh=>by
 cases b with
 |true=>rw[Qj rfl]at hF;exact Z.condt hf hc (ht rfl hF a w hf hh)
 |false=>rw[Qd (by simp)]at hF;exact Z.condf hf hc (he rfl hF a w hf hh)
theorem AX.cnt {c:Operand}{x y:Code}(hc:ev l c=some (.bool true))(ht:AX r P Y K x C l H):AX r P Y K (.cond c x y) C l H:=fun a w hf hh=>Z.condt hf hc (ht a w hf hh)
theorem AX.cnf {c:Operand}{x y:Code}(hc:ev l c=some (.bool false))(ht:AX r P Y K y C l H):AX r P Y K (.cond c x y) C l H:=fun a w hf hh=>Z.condf hf hc (ht a w hf hh)
theorem Fr.cov {a:Act}{n:Nat}{ds:List Deferred}{l':List (Nat×Value)}(h:Fr a n ds l)(e:kp l (l'.map (·.1))=l'):Fr a n ds l':=e▸h.keep _
abbrev St (C:Cx) (l:List (Nat×Value)) (H:List (Nat×Res)) (ks hs:List Nat) (J:List (Nat×Value)->List (Nat×Res)->Prop):Act->World->Prop:=fun a w=>∃nl nh,J nl nh/\Fr a C.n C.ds (cat nl (kp l ks))/\Hp C (hcat nh (kpH H hs hs)) w
theorem AX.join (ks hs:List Nat)(J:List (Nat×Value)->List (Nat×Res)->Prop){x y:Code}(h:AX r P Y (.m (St C l H ks hs J)::K) x C l H)(hy: ∀nl nh,J nl nh->AX r P Y K y C (cat nl (kp l ks)) (hcat nh (kpH H hs hs))):AX r P Y K (.seq x y) C l H:=fun a w hf hh=>by
 refine wpIn_seq (wpIn_mono (h a w hf hh) fun e a w hq=>?_)
 cases e with
 |normal=>obtain⟨nl,nh,hJ,hf',hh'⟩:=hq;exact hy nl nh hJ a w hf' hh'
 |_=>exact hq
theorem AE.j {l':List (Nat×Value)}{H':List (Nat×Res)}{ks hs:List Nat}{J:List (Nat×Value)->List (Nat×Res)->Prop}(gs:List Nat)(nl:List (Nat×Value))(nh:List (Nat×Res))(hJ:J nl nh)(h1:kp l ((cat nl (kp l' ks)).map (·.1))=cat nl (kp l' ks):=by kernel_rfl)(h2:kpH H gs gs=hcat nh (kpH H' hs hs):=by kernel_rfl):
  AE r P Y (.m (St C l' H' ks hs J)::K) .normal C l H:=fun a w hf hh=>⟨nl,nh,hJ,Fr.cov hf h1,hh.cov gs h2⟩
theorem AX.loop (ks hs gs:List Nat)(J:Nat->List (Nat×Value)->List (Nat×Res)->Prop)(m:Nat)(nl:List (Nat×Value))(nh:List (Nat×Res)){x:Code}(hJ:J m nl nh)
  (h: ∀f nl nh,J f nl nh->AX r P Y (.m (St C l H ks hs fun nl nh=>∃f',f'<f/\J f' nl nh)::K) x C (cat nl (kp l ks)) (hcat nh (kpH H hs hs)))
  (h1:kp l ((cat nl (kp l ks)).map (·.1))=cat nl (kp l ks):=by kernel_rfl) (h2:kpH H gs gs=hcat nh (kpH H hs hs):=by kernel_rfl):AX r P Y K (.loop x) C l H:=fun a w hf hh=>by
 refine Z.loop (fun f a w=>St C l H ks hs (J f) a w) m ⟨nl,nh,hJ,Fr.cov hf h1,hh.cov gs h2⟩ fun f a w ⟨nl,nh,hJ,hf,hh⟩=>?_
 refine wpIn_mono (h f nl nh hJ a w hf hh) fun e a w hq=>?_
 cases e with
 |normal=>obtain⟨nl,nh,⟨f',hlt,hJ'⟩,hf',hh'⟩:=hq;exact⟨f',hlt,nl,nh,hJ',hf',hh'⟩
 |_=>exact hq
end
end Go.A
end
