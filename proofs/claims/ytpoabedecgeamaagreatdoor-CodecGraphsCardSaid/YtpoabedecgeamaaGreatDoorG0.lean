import Derived.OrdersHeld
import Derived.Laws.AppendOwn
import Derived.Laws.Entries
import Derived.Tactics
import Derived.Below
import Derived.RangeFuncIn
import Derived.TacticsIn
import Derived.LoopIn
import Derived.OrdersIn
import Derived.Maps.AppendAt
import Derived.Deep.Draws
import Derived.IntWalk
import Derived.Laws.Rows
import Derived.Laws.Strings
import Derived.Laws.StructEq
import Derived.Defers
import Derived.Lib.MakeNoZero
import Derived.Laws.Externs
import Derived.Laws.CopyOwn
import Derived.Lib.AppendStr
import Derived.Recover
import Derived.ChangeKeysEq
import Derived.Lib.ConvBytes
import Derived.KernelRfl
import Derived.Laws.Concat
import Derived.Test.YtpoabedecgeamaaGreatDoorProg
import Derived.RangeFuncSeq
import Derived.RangeFuncBound
import Derived.Laws.MakeOwn
set_option linter.defProp false
set_option linter.unusedSimpArgs false
set_option synthInstance.maxSize 1000000
set_option synthInstance.maxHeartbeats 400000
def Qa:=@Option.bind_some
def Qb:=@if_neg
def Qc:=@if_pos
def Qd:=@List.getElem?_eq_some_iff
def Qe:=@List.length_append
def Qf:=@List.getElem?_eq_getElem
def Qg:=@List.mem_of_getElem?
def Qh:=@List.mem_cons_of_mem
def Qi:=@List.length_cons
def Qj:=@Nat.lt_succ_self
def Qk:=@List.mem_singleton
def Ql:=@List.mem_cons_self
def Qm:=@List.length_nil
def Qn:=@List.mem_cons
def Qo:=@List.length_take
def Qp:=@Bool.and_eq_true
def Qq:=@Nat.le_of_ble_eq_true
def Qr:=@Option.some.injEq
def Qs:=@List.append_assoc
def Qt:=@decide_eq_true_eq
def Qu:=@List.length_drop
def Qv:=@Array.getElem?_eq_some_iff
def Qw:=@Bool.false_eq_true
def Qx:=@List.mem_append
def Qy:=@List.getElem?_map
def Qz:=@List.eq_nil_of_length_eq_zero
def Q0:=@Int.toNat_natCast
def Q2:=@List.getElem?_take_of_lt
def Q3:=@Nat.lt_of_lt_of_le
def Q4:=@Nat.le_refl
def Q5:=@List.nil_append
def Q7:=@List.map_cons
def Q8:=@Int.toNat_of_nonneg
def Q9:=@List.getElem?_append_left
def Wa:=@Bool.false_ne_true
def Wb:=@if_false
def Wc:=@decide_eq_true
def Wd:=@List.length_map
def We:=@List.mem_append_right
def Wf:=@List.take_of_length_le
def Wg:=@Array.getD_eq_getD_getElem?
def Wh:=@List.mem_append_left
def Wi:=@List.drop_eq_nil_of_le
def Wj:=@List.append_nil
def Wk:=@decide_eq_false
def Wl:=@List.getElem?_drop
def Wm:=@Nat.eq_of_beq_eq_true
def Wn:=@List.getElem?_eq_none
def Wo:=@List.length_singleton
def Wp:=@Option.map_some
def Wq:=@List.getElem?_modify
def Wr:=@Nat.le_trans
def Ws:=@List.getElem?_toArray
def Wt:=@List.mem_iff_getElem?
def Wu:=@List.drop_zero
def Wv:=@List.all_eq_true
def Ww:=@Nat.mul_le_mul_right
def Wx:=@List.getElem?_append_right
def Wy:=@Array.toArray_toList
def Wz:=@List.cons_append
def W5:=@List.nodup_cons
def W6:=@of_decide_eq_true
def W7:=@List.getElem?_cons_succ
def W8:=@if_true
def W9:=@Nat.zero_add
def Xa:=@List.getElem?_cons_zero
def Xb:=@congrArg
def Xc:=@List.ext_getElem?
def Xd:=@List.nodup_append
def Xe:=@Bool.not_true
def Xf:=@List.mem_map
def Xg:=@List.map_toArray
def Xh:=@List.map_nil
def Xi:=@List.drop_drop
def Xj:=@List.size_toArray
def Xk:=@List.singleton_append
def Xl:=@List.length_set
def Xm:=@Option.some.inj
def Xn:=@Bool.false_or
def Xo:=@List.all_cons
def Xp:=@List.take_succ_eq_append_getElem
def Xq:=@Array.getElem?_setIfInBounds_ne
def Xr:=@List.drop_eq_getElem_cons
def Xs:=@Array.getElem?_eq_getElem
def Xt:=@List.length_replicate
def Xu:=@List.take_append_drop
def Xv:=@List.take_length
def Xw:=@List.flatten_nil
def Xx:=@Nat.add_assoc
def Xy:=@List.any_cons
def Xz:=@Bool.true_and
def X0:=@Nat.testBit_or
def X1:=@Bool.not_false
def X2:=@List.getElem?_replicate
def X3:=@Nat.one_shiftLeft
def X4:=@Nat.min_eq_left
def X5:=@List.map_append
def X6:=@List.getElem_of_mem
def X7:=@Nat.zero_le
def X8:=@List.take_zero
def X9:=@Array.getElem?_toList
def Ya:=@Option.map_eq_map
def Yc:=@List.filter_cons
def Yd:=@Nat.mul_one
def Ye:=@Array.getElem?_eq_none
def Yf:=@List.getElem?_take
def Yg:=@Nat.add_comm
def Yh:=@List.getElem?_set_self
def Yi:=@Bool.or_eq_true
def Yj:=@Bool.not_eq_true'
def Yk:=@Nat.add_mul
def Ym:=@List.nodup_nil
def Yn:=@Nat.lt_or_ge
def Yo:=@Nat.le_of_not_lt
def Yp:=@Nat.testBit_two_pow
def Yq:=@Prod.mk.injEq
def Yr:=@Nat.testBit_two_pow_self
def Ys:=@Bool.eq_iff_iff
def Yt:=@Int.toNat_le_toNat
def Yu:=@Nat.one_mul
def Yv:=@Nat.le_mul_of_pos_right
def Yw:=@Option.bind_eq_some_iff
def Yx:=@Int.eq_ofNat_of_zero_le
def Yy:=@List.drop_take
def Yz:=@List.any_eq_false
def Y0:=@List.mem_range
def Y1:=@Nat.beq_refl
def Y2:=@Bool.false_and
def Y3:=@List.length_filter_le
def Y4:=@List.not_mem_nil
def Y5:=@Option.getD_some
def Y6:=@List.any_eq_true
def Y7:=@Int.le_refl
def Y8:=@List.cons.injEq
def Y9:=@Nat.mul_comm
def Ja:=@Nat.add_zero
section
namespace Go.Z
open Go.RowKit
def lk:List (Nat×Value)->Nat->Option Value
 | [],_=>none
 |(e,v)::r,d=>bif Nat.beq e d then some v else lk r d
def ev (l:List (Nat×Value)):Operand->Option Value
 | .tmp t=>lk l t
 | .const v=>some v
 | .global g=>some (.pointer (some ⟨g,0,none⟩))
 | .func f=>some (.func (.func f) #[] #[])
structure Fr (a:Act) (n:Nat) (ds:List Deferred) (l:List (Nat×Value)):Prop where
 size:a.tmps.size=n
 defs:a.defers=ds
 get: ∀d v,lk l d=some v->a.tmps[d]?=some v
def Qak (l:List (Nat×Value))(d:Nat)(v:Value):lk ((d,v)::l) d=some v:=by simp[lk]
def Qai (l:List (Nat×Value)){d e:Nat}(v:Value)(h:e≠d):lk ((e,v)::l) d=lk l d:=by
 have:Nat.beq e d=false:=by cases H:Nat.beq e d with
  |false=>rfl
  |true=>exact absurd (Wm H) h
 simp[lk,this]
section
variable {a:Act}{n:Nat}{ds:List Deferred}{l:List (Nat×Value)}
def Fr.eval (h:Fr a n ds l){x:Operand}{v:Value}(H:ev l x=some v):a.eval x=v:=by
 cases x with
 |tmp t=>
  have:=h.get t v H;simp[Act.eval,Wg,this]
 |const u=>injection H
 |global g=>injection H
 |func f=>injection H
def Fr.put (h:Fr a n ds l){d:Nat}(L:d<n)(v:Value):Fr (a.put (some d) v) n ds ((d,v)::l):=by
 refine⟨by simp[Act.put,h.size],h.defs,λe u J=>?_⟩;by_cases H:d=e;subst H;rw[Qak]at J;injection J with J
 subst J;simp[Act.put,h.size,L];rw[Qai _ _ H]at J;simp only[Act.put];rw[Xq H];exact h.get e u J
def kp (l:List (Nat×Value)):List Nat->List (Nat×Value)
 | []=>[]
 |k::r=>match lk l k with
  |some v=>(k,v)::kp l r
  |none=>kp l r
def lk_kp (ks:List Nat)(d:Nat)(v:Value)(h:lk (kp l ks) d=some v):lk l d=some v:=by
 induction ks with
 |nil=>simp[kp,lk]at h
 |cons k r J=>
  unfold kp at h;cases hk:lk l k with
  |none=>rw[hk]at h;exact J h
  |some u=>
   rw[hk]at h;by_cases H:k=d;subst H;rw[Qak]at h;rw[hk];exact h;exact J (by rw[<-h];exact(Qai _ _ H).symm)
def Fr.keep (h:Fr a n ds l)(ks:List Nat):Fr a n ds (kp l ks):=⟨h.size,h.defs,λd v H=>h.get d v (lk_kp ks d v H)⟩
def Fr.cons {l':List (Nat×Value)}{d:Nat}{v:Value}(h:Fr a n ds l)(h':Fr a n ds l')(e:lk l d=some v):Fr a n ds ((d,v)::l'):=by
 refine⟨h.size,h.defs,λd' v' H=>?_⟩;by_cases hk:d=d';subst hk;rw[Qak]at H;injection H with H
 subst H;exact h.get _ _ e;rw[Qai _ _ hk]at H;exact h'.get _ _ H
end
def argl:List Value->Nat->List (Nat×Value)
 | [],_=>[]
 |v::r,k=>(k,v)::argl r (k+1)
def lk_argl (vs:List Value): ∀(k d:Nat) (v:Value),lk (argl vs k) d=some v->k<=d/\vs[d-k]?=some v:=by
 induction vs with
 |nil=>intro k d v h;simp[argl,lk]at h
 |cons u r J=>
  intro k d v h;unfold argl at h;by_cases H:k=d;subst H;rw[Qak]at h;injection h with h
  subst h;simp;rw[Qai _ _ H]at h;obtain⟨N,L⟩:=J _ _ _ h;refine⟨by omega,?_⟩;have:d-k=(d-(k+1))+1:=by omega
  rw[this,W7];exact L
def Fr.entry (vs:List Value)(n:Nat)(L:vs.length<=n):
  Fr {tmps:=vs.toArray++Array.replicate (n-vs.toArray.size) undef,defers:=[]} n [] (argl vs 0):=by
 refine⟨by simp;omega,rfl,λd v h=>?_⟩;obtain⟨_,H⟩:=lk_argl vs 0 d v h;have J:d<vs.length:=by
  rcases Yn d vs.length with h'|h'
  exact h';rw[Wn (by omega)]at H;cases H
 rw[Array.getElem?_append_left (by simpa using J)];simpa using H
abbrev FW (r:Option Nat):Fence:={Fence.wide with round:=r}
abbrev WP (r:Option Nat) (P:Program) (c:Code) (Q:Exit->Act->World->Prop) (a:Act) (w:World):Prop:=c.wpIn (FW r) 0 P Q a w
abbrev WL (r:Option Nat) (P:Program) (ops:Array Oper) (Q:Exit->Act->World->Prop) (l:List Oper) (a:Act) (w:World):Prop:=wpListIn (FW r) 0 P ops Q l a w
def callsFW {r:Option Nat}{n:Nat}{P:Program}{f:FuncId}{args:Array Value}{w:World}{R:Ending->World->Prop}(h:Calls P f args w R):CallsIn (FW r) n P f args w R:=by
 have H:CallsIn Fence.wide n P f args w R:=callsIn_wide.2 h;cases r with
 |none=>exact H
 |some l=>exact H
def Qhe {r:Option Nat}{P:Program}{ρ:Operand->Value}{o:Oper}{x:Next}{w w':World}(h:(execOp ρ o).run P w=.ok x w')(J: ∀d,x≠ .defer d):(o.semAt r ρ).run P w=.ok x w':=by
 cases r with
 |none=>rw[Oper.semAt_none];exact h
 |some l=>
  rw[Oper.semAt_some];exact h;intro c L;unfold execOp at h;rw[L]at h;simp only[Sem.run_bind]at h;cases H:(resolve ρ c o.type).run P w with
  |ok d N=>rw[H]at h;simp only[Result.andThen_ok,Sem.run_pure]at h;injection h with h _;exact J _ h.symm
  |halt y N=>rw[H]at h;simp[Result.andThen]at h
section
variable {r:Option Nat}{P:Program}{ops:Array Oper}{Q:Exit->Act->World->Prop}{a:Act}{w:World}{rest:List Oper}{n:Nat}{ds:List Deferred}{l:List (Nat×Value)}
def enter {f:FuncId}{fn:Func}{c:Code}{vs:List Value}{m:Nat}{R:Ending->World->Prop}(H:P.funcs[f]?=some fn)(J:fn.body=some c)(L:fn.ntmps=m)(N:vs.length<=m)
  (h: ∀a,Fr a m [] (argl vs 0)->WP none P c (bodyPost P fn R) a w):Calls P f vs.toArray w R:=by
 refine calls_of_wp H J (wpIn_wide.1 (h _ ?_));subst L;exact Fr.entry vs _ N
def stepw {o:Oper}{x:Next}{w':World}(H:o.guard=none)(J:(execOp a.eval o).run P w=.ok x w')(L: ∀d,x≠ .defer d)
  (h: ∀K:Act->World->Prop,(∀a w,WL r P ops Q rest a w->K a w)->o.uponIn (FW r) 0 P a K Q (.ok x w')):WL r P ops Q (o::rest) a w:=
 wpListIn_plain H λK N=>⟨λ_ _=>trivial,by rw[Qhe J L];exact h K N⟩
def valw {d:Nat}{op:Op}{T:TypeId}{pos:String}{af:Array Edge}{v:Value}{w':World}(H:Fr a n ds l)(J:Nat.ble (d+1) n=true)
  (L:(execOp a.eval ⟨some d,op,T,pos,af,none⟩).run P w=.ok (.value v) w')
  (h: ∀a',Fr a' n ds ((d,v)::l)->WL r P ops Q rest a' w'):WL r P ops Q (⟨some d,op,T,pos,af,none⟩::rest) a w:=
 stepw rfl L (λ_ h=>by cases h) λ_ N=>N _ _ (h _ (H.put (Qq J) v))
def val {d:Nat}{op:Op}{T:TypeId}{pos:String}{af:Array Edge}{v:Value}(H:Fr a n ds l)(J:Nat.ble (d+1) n=true)
  (L:(execOp a.eval ⟨some d,op,T,pos,af,none⟩).run P w=.ok (.value v) w)
  (h: ∀a',Fr a' n ds ((d,v)::l)->WL r P ops Q rest a' w):WL r P ops Q (⟨some d,op,T,pos,af,none⟩::rest) a w:=valw H J L h
def skipw {op:Op}{T:TypeId}{pos:String}{af:Array Edge}{w':World}(H:Fr a n ds l)
  (J:(execOp a.eval ⟨none,op,T,pos,af,none⟩).run P w=.ok .skip w')
  (h: ∀a',Fr a' n ds l->WL r P ops Q rest a' w'):WL r P ops Q (⟨none,op,T,pos,af,none⟩::rest) a w:=
 stepw rfl J (λ_ h=>by cases h) λ_ L=>L _ _ (h _ H)
def call {d:Nat}{op:Op}{T:TypeId}{pos:String}{af:Array Edge}{f:FuncId}{args:Array Value}{R:Ending->World->Prop}(H:Fr a n ds l)(J:Nat.ble (d+1) n=true)
  (L:(execOp a.eval ⟨some d,op,T,pos,af,none⟩).run P w=.ok (.enter f args) w) (N:Calls P f args w R)
  (h: ∀e w',R e w'->(∃v,e=.returned v/\∀a',Fr a' n ds ((d,v)::l)->WL r P ops Q rest a' w')\/(∃ch,e=.panicked ch/\Q (.panic ch) a w')):
  WL r P ops Q (⟨some d,op,T,pos,af,none⟩::rest) a w:=
 stepw rfl L (λ_ h=>by cases h) λ_ O=>⟨(λh=>by cases h),(callsFW N).mono λe w' V=>by
  rcases h e w' V with⟨v,rfl,h⟩|⟨ch,rfl,h⟩
  exact O _ _ (h _ (H.put (Qq J) v));exact h⟩
def call1 {d:Nat}{op:Op}{T:TypeId}{pos:String}{af:Array Edge}{f:FuncId}{args:Array Value}{R:Ending->World->Prop}(H:Fr a n ds l)(J:Nat.ble (d+1) n=true)
  (L:(execOp a.eval ⟨some d,op,T,pos,af,none⟩).run P w=.ok (.enter f args) w) (N:Calls P f args w R)
  (h: ∀e w',R e w'->∃v,e=.returned v/\∀a',Fr a' n ds ((d,v)::l)->WL r P ops Q rest a' w'):
  WL r P ops Q (⟨some d,op,T,pos,af,none⟩::rest) a w:=call H J L N λe w' O=>.inl (h e w' O)
def defer {op:Op}{T:TypeId}{pos:String}{af:Array Edge}{dd:Deferred}(H:Fr a n ds l)
  (J:(execOp a.eval ⟨none,op,T,pos,af,none⟩).run P w=.ok (.defer dd) w)
  (h: ∀a',Fr a' n (dd::ds) l->WL none P ops Q rest a' w):WL none P ops Q (⟨none,op,T,pos,af,none⟩::rest) a w:=
 wpListIn_plain rfl λK L=>⟨λ_ _=>trivial,by
  show Oper.uponIn _ _ _ _ _ _ _ ((Oper.semAt none a.eval _).run P w);rw[Oper.semAt_none,J];exact L _ _ (h _ ⟨H.size,by rw[<-H.defs];rfl,H.get⟩)⟩
def on {dst:Option Tmp}{op:Op}{T:TypeId}{pos:String}{af:Array Edge}{j dj:Nat}{b:Bool}(H:Fr a n ds l)(J:(ops[j]?).bind (·.dst)=some dj)(L:lk l dj=some (.bool b))
  (h:WL r P ops Q (⟨dst,op,T,pos,af,none⟩::rest) a w):WL r P ops Q (⟨dst,op,T,pos,af,some (j,b)⟩::rest) a w:=by
 have N:yielded ops a.tmps j=some b:=by simp[yielded,J,H.get _ _ L]
 unfold WL wpListIn at h ⊢;have O:Region.wanted ⟨dst,op,T,pos,af,some (j,b)⟩ (yielded ops a.tmps)=true:=by simp[Region.wanted,N]
 have V:Region.wanted ⟨dst,op,T,pos,af,none⟩ (yielded ops a.tmps)=true:=by simp[Region.wanted]
 rw[Qc O];rw[Qc V]at h;exact h
def off {d:Nat}{op:Op}{T:TypeId}{pos:String}{af:Array Edge}{j dj:Nat}{b:Bool}{u:Value}(H:Fr a n ds l)(J:Nat.ble (d+1) n=true)(L:(ops[j]?).bind (·.dst)=some dj)(N:lk l dj=some u)
  (O:u=.bool (!b)\/u=undef)
  (h: ∀a',Fr a' n ds ((d,undef)::l)->WL r P ops Q rest a' w):WL r P ops Q (⟨some d,op,T,pos,af,some (j,b)⟩::rest) a w:=by
 have V:Region.wanted ⟨some d,op,T,pos,af,some (j,b)⟩ (yielded ops a.tmps)=false:=by
  rcases O with rfl|rfl<;>simp[Region.wanted,yielded,L,H.get _ _ N,undef]
 unfold WL wpListIn;rw[V];exact⟨λ_ _=>trivial,h _ (H.put (Qq J) undef)⟩
def done (h:Q .normal a w):WL r P ops Q [] a w:=h
def reg {id:Nat}{lo:List Oper}(h:WL r P lo.toArray Q lo a w):WP r P (Code.region id lo.toArray false) Q a w:=wpIn_region_lit h
def cond {c:Operand}{x y:Code}{b:Bool}(H:Fr a n ds l)(J:ev l c=some (.bool b))(L:b=true->WP r P x Q a w)(N:b=false->WP r P y Q a w):WP r P (Code.cond c x y) Q a w:=
 wpIn_cond_split (H.eval J) L N
def condp {c:Operand}{x y:Code}{p:Prop}[Decidable p](H:Fr a n ds l)(J:ev l c=some (.bool (decide p)))(L:p->WP r P x Q a w)(N: ¬p->WP r P y Q a w):WP r P (Code.cond c x y) Q a w:=
 wpIn_cond_split (H.eval J) (λh=>L (W6 h)) (λh=>N (of_decide_eq_false h))
def condt {c:Operand}{x y:Code}(H:Fr a n ds l)(J:ev l c=some (.bool true))(L:WP r P x Q a w):WP r P (Code.cond c x y) Q a w:=
 wpIn_cond_split (H.eval J) (λ_=>L) (λh=>by cases h)
def condf {c:Operand}{x y:Code}(H:Fr a n ds l)(J:ev l c=some (.bool false))(L:WP r P y Q a w):WP r P (Code.cond c x y) Q a w:=
 wpIn_cond_split (H.eval J) (λh=>by cases h) (λ_=>L)
def skip (h:Q .normal a w):WP r P Code.skip Q a w:=wpIn_skip h
def exit {id:Nat}(h:Q (.exit id) a w):WP r P (Code.exit id) Q a w:=wpIn_exit h
def ret (h:Q .ret a w):WP r P Code.ret Q a w:=wpIn_ret h
def loop {c:Code}(I:Nat->Act->World->Prop)(m:Nat)(O:I m a w)
  (round: ∀m a w,I m a w->WP r P c (Exit.then (λa' w'=>∃m',m'<m/\I m' a' w') Q) a w):WP r P (Code.loop c) Q a w:=by
 intro b k cs H J L;have key: ∀m a w,I m a w->∃e a' w',Q e a' w'/\ArrivesIn (Machine.fenced P (FW r)) P (lone (b.atR a (.code c:: .inLoop c::k)) cs w) b k cs e a' w':=by
  intro m;induction m using Nat.strongRecOn with
  |_ m V=>
   intro a w W;obtain⟨e,a₁,w₁,hq,harr⟩:=round m a w W b (.inLoop c::k) cs H J L;cases e with
   |normal=>
    obtain⟨m',N,hI₁⟩:=hq;obtain⟨e₂,a₂,w₂,hq₂,harr₂⟩:=V m' N a₁ w₁ hI₁;exact⟨e₂,a₂,w₂,hq₂,.of_steps (StepsIn.trans harr (.one (fenced_calm J L rfl) stepR_inLoop)) harr₂⟩
   |exit id=>exact⟨_,a₁,w₁,hq,.pass (x:=.inLoop c) rfl (λ_ _=>.inl (by simp)) harr⟩
   |goto l=>exact⟨_,a₁,w₁,hq,.pass (x:=.inLoop c) rfl (λ_ _=>.inl (by simp)) harr⟩
   |ret=>exact⟨_,a₁,w₁,hq,.pass (x:=.inLoop c) rfl (λ_ _=>.inl (by simp)) harr⟩
   |panic ch=>exact⟨_,a₁,w₁,hq,.pass (x:=.inLoop c) rfl (λ_ _=>.inl (by simp)) harr⟩
   |outgrown=>exact⟨_,a₁,w₁,hq,.pass (x:=.inLoop c) rfl (λ_ _=>.inl (by simp)) harr⟩
 obtain⟨e,a',w',hq,harr⟩:=key m a w O;exact⟨e,a',w',hq,.of_steps (.one (fenced_calm J L rfl) stepR_loop) harr⟩
def ret1 {fn:Func}{R:Ending->World->Prop}{t:Tmp}{v:Value}(H:Fr a n [] l)(J:fn.results=#[.tmp t])(L:lk l t=some v)(N:R (.returned v) w):bodyPost P fn R .ret a w:=
 bodyPost_ret (v:=v) (by rw[results_tmp J];exact Xb (λx=>Result.ok x w) (H.eval (x:=.tmp t) L)) H.defs N
def ret0 {fn:Func}{R:Ending->World->Prop}(H:Fr a n [] l)(J:fn.results=#[])(L:R (.returned (.tuple #[])) w):bodyPost P fn R .ret a w:=
 bodyPost_ret (results_none J _ _ _) H.defs L
end
structure Ch (S:List Nat) (w w':World):Prop where
 os:w'.os=w.os
 tape:w'.tape=w.tape
 output:w'.output=w.output
 size:w.heap.size<=w'.heap.size
 block: ∀k,k<w.heap.size->k∉S->w'.heap[k]?=w.heap[k]?
def Ch.refl (w:World):Ch [] w w:=⟨rfl,rfl,rfl,Q4 _,λ_ _ _=>rfl⟩
def Ch.refl' (S:List Nat)(w:World):Ch S w w:=⟨rfl,rfl,rfl,Q4 _,λ_ _ _=>rfl⟩
def Ch.mono {S S':List Nat}{a b:World}(h:Ch S a b)(J: ∀k,k∈S->k∈S'\/a.heap.size<=k):Ch S' a b:=
 ⟨h.os,h.tape,h.output,h.size,λk hk L=>h.block k hk (λN=>by rcases J k N with H|H;exact L H;omega)⟩
def Ch.then {S T U:List Nat}{a b c:World}(h:Ch S a b)(k:Ch T b c)(N: ∀i,i∈S->i∈U\/a.heap.size<=i:=by simp)(O: ∀i,i∈T->i∈U\/a.heap.size<=i:=by simp):Ch U a c:=
 ⟨k.os.trans h.os,k.tape.trans h.tape,k.output.trans h.output,Wr h.size k.size,λi hi L=>by
  have V:=h.size;refine(k.block i (by omega) (λJ=>?_)).trans (h.block i hi (λJ=>?_));rcases O i J with H|H
  exact L H;omega;rcases N i J with H|H
  exact L H;omega⟩
def Ch.trans {S T:List Nat}{a b c:World}(h:Ch S a b)(k:Ch T b c):Ch (S++T) a c:=
 h.then k (λ_ hi=>.inl (Wh _ hi)) (λ_ hi=>.inl (We _ hi))
def Ch.step {S:List Nat}{a b c:World}(h:Ch S a b)(k:Ch [] b c):Ch S a c:=h.then k (λ_ hi=>.inl hi) (λ_ hi=>by cases hi)
def Ch.of_grown {w w':World}{row:Option Nat}(h:w.grownBy w' row):Ch row.toList w w':=
 ⟨h.os,h.tape,h.output,h.size,λk hk H=>h.block k hk (λe=>H (by rw[<-e];simp))⟩
def Ch.below {w w':World}(h:Ch [] w w'):Below w.heap.size w w':=⟨h.os,h.tape,h.output,h.size,λk hk=>h.block k hk (by simp)⟩
def Ch.of_below {w w':World}(h:Below w.heap.size w w'):Ch [] w w':=⟨h.os,h.tape,h.output,h.size,λk hk _=>h.block k hk⟩
def Ch.drew (w:World):Ch [] w w.drew:=⟨rfl,rfl,rfl,Q4 _,λ_ _ _=>rfl⟩
def Ch.alloc (w:World)(o:Obj):Ch [] w (w.alloc o):=⟨rfl,rfl,rfl,by simp,λk hk _=>Below.heap_alloc w o k hk⟩
def Ch.setRow (w:World)(g:Nat)(cs:Array Value):Ch [g] w (w.setRow g cs):=
 ⟨rfl,rfl,rfl,by simp[World.setRow],λk _ H=>setRow_other w g k cs (by simpa using H)⟩
def Ch.cell {S:List Nat}{w w':World}(h:Ch S w w'){p:Addr}(hp:p.block<w.heap.size)(H:p.block∉S):w'.cell? p=w.cell? p:=World.cell?_of_block (h.block _ hp H)
def Blk (w:World)(g:Nat)(t:TypeId)(cs:List Value):Prop:=w.heap[g]?=some (.cells cs.toArray t (0,0))
section
variable {w w':World}{g:Nat}{t:TypeId}{cs:List Value}
def Blk.lt (h:Blk w g t cs):g<w.heap.size:=by
 rcases Yn g w.heap.size with H|J
 exact H;unfold Blk at h;rw[Ye J]at h;cases h
def Blk.cell (h:Blk w g t cs)(i:Nat):w.cell? ⟨g,i,none⟩=cs[i]?:=by rw[cell_of_row w g i cs.toArray t (0,0) h];simp
def Blk.new (w:World)(t:TypeId)(cs:List Value):Blk (w.alloc (.cells cs.toArray t)) w.heap.size t cs:=heap_alloc_new w _
def Blk.ch {S:List Nat}(h:Blk w g t cs)(H:Ch S w w')(J:g∉S):Blk w' g t cs:=(H.block g h.lt J).trans h
end
section
variable {P:Program}{a:Act}{w:World}{d:Option Tmp}{T:TypeId}{pos:String}{af:Array Edge}{gd:Option (Nat×Bool)}
def r_move {x:Operand}{v:Value}(H:a.eval x=v):(execOp a.eval ⟨d,.move x,T,pos,af,gd⟩).run P w=.ok (.value v) w:=by
 simp[execOp,H]
def r_assign {x:Operand}{v:Value}(H:a.eval x=v):(execOp a.eval ⟨d,.assign x,T,pos,af,gd⟩).run P w=.ok (.value v) w:=by
 simp[execOp,H]
def r_pick_t {c x y:Operand}{u:Value}(H:a.eval c=.bool true)(J:a.eval x=u):
  (execOp a.eval ⟨d,.pick c x y,T,pos,af,gd⟩).run P w=.ok (.value u) w:=by
 simp[execOp,H,J,asBool]
def r_pick_f {c x y:Operand}{v:Value}(H:a.eval c=.bool false)(J:a.eval y=v):
  (execOp a.eval ⟨d,.pick c x y,T,pos,af,gd⟩).run P w=.ok (.value v) w:=by
 simp[execOp,H,J,asBool]
def r_not {t:TypeId}{x:Operand}{b:Bool}(H:a.eval x=.bool b):(execOp a.eval ⟨d,.unOp .not t x,T,pos,af,gd⟩).run P w=.ok (.value (.bool (!b))) w:=by
 simp[execOp,H,Op.unary]
def r_extract {x:Operand}{vs:Array Value}{i:Nat}{v:Value}(H:a.eval x=.tuple vs)(J:vs[i]?=some v):(execOp a.eval ⟨d,.extract x i,T,pos,af,gd⟩).run P w=.ok (.value v) w:=by
 simp[execOp,H,Instr.extract,J]
def r_nilCheck {x:Operand}{ad:Addr}(H:a.eval x=.pointer (some ad)):(execOp a.eval ⟨d,.nilCheck x,T,pos,af,gd⟩).run P w=.ok (.value (.pointer (some ad))) w:=by
 simp[execOp,H]
def r_makeFunc {fn:Fn}{first captured:Array Operand}{vs us:Array Value}(H:first.map a.eval=vs)(J:captured.map a.eval=us):
  (execOp a.eval ⟨d,.makeFunc fn first captured,T,pos,af,gd⟩).run P w=.ok (.value (.func fn vs us)) w:=by
 simp[execOp,Instr.makeFunc,H,J]
section ints
variable {t ty:TypeId}{x y:Operand}{k:IntKind}{m n:Int}
def r_add (H:a.eval x=.int k m)(J:a.eval y=.int k n):(execOp a.eval ⟨d,.binOp .add t x y ty,T,pos,af,gd⟩).run P w=.ok (.value (.int k (k.wrap (m+n)))) w:=by
 simp[execOp,H,J,binOp_add,eqGuard_add,Op.intArith]
def r_sub (H:a.eval x=.int k m)(J:a.eval y=.int k n):(execOp a.eval ⟨d,.binOp .sub t x y ty,T,pos,af,gd⟩).run P w=.ok (.value (.int k (k.wrap (m-n)))) w:=by
 simp[execOp,H,J,binOp_sub,eqGuard_sub,Op.intArith]
def r_mul (H:a.eval x=.int k m)(J:a.eval y=.int k n):(execOp a.eval ⟨d,.binOp .mul t x y ty,T,pos,af,gd⟩).run P w=.ok (.value (.int k (k.wrap (m*n)))) w:=by
 simp[execOp,H,J,binOp_mul,eqGuard_mul,Op.intArith]
def r_quo (H:a.eval x=.int k m)(J:a.eval y=.int k n)(L:n≠0):(execOp a.eval ⟨d,.binOp .quo t x y ty,T,pos,af,gd⟩).run P w=.ok (.value (.int k (k.wrap (m.tdiv n)))) w:=by
 simp[execOp,H,J,binOp_quo,eqGuard_quo,Op.intDiv,L]
def r_rem (H:a.eval x=.int k m)(J:a.eval y=.int k n)(L:n≠0):(execOp a.eval ⟨d,.binOp .rem t x y ty,T,pos,af,gd⟩).run P w=.ok (.value (.int k (m.tmod n))) w:=by
 simp[execOp,H,J,binOp_rem,eqGuard_rem,Op.intDiv,L]
def r_lss (H:a.eval x=.int k m)(J:a.eval y=.int k n):(execOp a.eval ⟨d,.binOp .lss t x y ty,T,pos,af,gd⟩).run P w=.ok (.value (.bool (decide (m<n)))) w:=by
 simp[execOp,H,J,binOp_lss,eqGuard_lss]
def r_leq (H:a.eval x=.int k m)(J:a.eval y=.int k n):(execOp a.eval ⟨d,.binOp .leq t x y ty,T,pos,af,gd⟩).run P w=.ok (.value (.bool (decide (m<=n)))) w:=by
 simp[execOp,H,J,binOp_leq,eqGuard_leq]
def r_gtr (H:a.eval x=.int k m)(J:a.eval y=.int k n):(execOp a.eval ⟨d,.binOp .gtr t x y ty,T,pos,af,gd⟩).run P w=.ok (.value (.bool (decide (n<m)))) w:=by
 simp[execOp,H,J,binOp_gtr,eqGuard_gtr]
def r_geq (H:a.eval x=.int k m)(J:a.eval y=.int k n):(execOp a.eval ⟨d,.binOp .geq t x y ty,T,pos,af,gd⟩).run P w=.ok (.value (.bool (decide (n<=m)))) w:=by
 simp[execOp,H,J,binOp_geq,eqGuard_geq]
def r_eql (H:a.eval x=.int k m)(J:a.eval y=.int k n):(execOp a.eval ⟨d,.binOp .eql t x y ty,T,pos,af,gd⟩).run P w=.ok (.value (.bool (decide (m=n)))) w:=by
 simp[execOp,H,J,binOp_eql,eqGuard_at_int];rfl
def r_neq (H:a.eval x=.int k m)(J:a.eval y=.int k n):(execOp a.eval ⟨d,.binOp .neq t x y ty,T,pos,af,gd⟩).run P w=.ok (.value (.bool (decide (m≠n)))) w:=by
 have e:(m !=n)=decide (m≠n):=by rw[Ys];simp
 simp only[execOp,H,J,binOp_neq,eqGuard_at_int,Sem.run_bind,Sem.run_pure,Result.andThen_ok,e]
def r_shr {k':IntKind}(H:a.eval x=.int .u64 m)(J:a.eval y=.int k' n)(L:0<=n)(N:n<=64):(execOp a.eval ⟨d,.binOp .shr t x y ty,T,pos,af,gd⟩).run P w=.ok (.value (.int .u64 (m / 2^n.toNat))) w:=by
 simp[execOp,H,J,binOp_shr,eqGuard_shr,shift_shr_u64 k' m n L N]
end ints
section bools
variable {t ty:TypeId}{x y:Operand}{b c:Bool}
def Qcv {t:TypeId}(H:P.underlying t=some .bool)(m:Nat):(Op.equalIn (m+1) t (.bool b) (.bool c)).run P w=.ok (b==c) w:=by
 simp[Op.equalIn,run_underlying H]
def Qbo {t:TypeId}(H:P.underlying t=some .bool):(Op.equal t (.bool b) (.bool c)).run P w=.ok (b==c) w:=Qcv H 9999
def r_eqb (H:P.underlying t=some .bool)(J:a.eval x=.bool b)(L:a.eval y=.bool c):(execOp a.eval ⟨d,.binOp .eql t x y ty,T,pos,af,gd⟩).run P w=.ok (.value (.bool (b==c))) w:=by
 simp[execOp,J,L,eqGuard_at_bool,binOp,Qbo H]
def r_neb (H:P.underlying t=some .bool)(J:a.eval x=.bool b)(L:a.eval y=.bool c):(execOp a.eval ⟨d,.binOp .neq t x y ty,T,pos,af,gd⟩).run P w=.ok (.value (.bool (!(b==c)))) w:=by
 simp[execOp,J,L,eqGuard_at_bool,binOp,Qbo H]
end bools
section strings
variable {t ty:TypeId}{x y:Operand}{s u:ByteArray}
def str_eq (s u:ByteArray):(s.toList==u.toList)=decide (s=u):=by
 rw[Ys];simp only[beq_iff_eq,Qt];constructor;intro h;rw[ByteArray.toList_eq,ByteArray.toList_eq]at h;exact ByteArray.ext (Array.toList_inj.1 h);rintro rfl;rfl
def r_eqs (H:a.eval x=.string s)(J:a.eval y=.string u):(execOp a.eval ⟨d,.binOp .eql t x y ty,T,pos,af,gd⟩).run P w=.ok (.value (.bool (decide (s=u)))) w:=by
 simp[execOp,H,J,eqGuard_at_string,binOp,Op.stringOp,str_eq]
def r_nes (H:a.eval x=.string s)(J:a.eval y=.string u):(execOp a.eval ⟨d,.binOp .neq t x y ty,T,pos,af,gd⟩).run P w=.ok (.value (.bool (!decide (s=u)))) w:=by
 simp[execOp,H,J,eqGuard_at_string,binOp,Op.stringOp,str_eq]
end strings
section conv
variable {src dst:TypeId}{x:Operand}{k k':IntKind}{n:Int}
def r_conv {de:TypeDesc}(H:P.underlying src=some de)(J:P.underlying dst=some (.int k'))(L:a.eval x=.int k n):(execOp a.eval ⟨d,.convert src dst x,T,pos,af,gd⟩).run P w=.ok (.value (.int k' (k'.wrap n))) w:=by
 simp[execOp,L,convert,run_underlying H,run_underlying J,Conv.intToInt]
end conv
section lens
variable {t e:TypeId}{x y:Operand}{A:Option Addr}{n c:Nat}
def r_len (H:P.underlying t=some (.slice e))(J:a.eval x=.slice A n c):
  (execOp a.eval ⟨d,.call {callee:=.builtin .len,args:=#[x],argTypes:=#[t]},T,pos,af,gd⟩).run P w=.ok (.value (.int .i64 (n:Int))) w:=by
 simp[execOp,resolve,invoke,builtin,J,Builtin.len_,run_underlying H,goInt]
def r_lens {s:ByteArray}(H:P.underlying t=some .string)(J:a.eval x=.string s):
  (execOp a.eval ⟨d,.call {callee:=.builtin .len,args:=#[x],argTypes:=#[t]},T,pos,af,gd⟩).run P w=.ok (.value (.int .i64 (s.size:Int))) w:=by
 simp[execOp,resolve,invoke,builtin,J,Builtin.len_,run_underlying H,goInt]
def r_min {k k':IntKind}{p q:Int}{ts:Array TypeId}(H:a.eval x=.int k p)(J:a.eval y=.int k' q):
  (execOp a.eval ⟨d,.call {callee:=.builtin .min,args:=#[x,y],argTypes:=ts},T,pos,af,gd⟩).run P w=.ok (.value (.int k (min p q))) w:=by
 have e:(if q<p then q else p)=min p q:=by omega
 simp[execOp,resolve,invoke,builtin,H,J,Builtin.min_,Builtin.min2,e]
def r_max {k k':IntKind}{p q:Int}{ts:Array TypeId}(H:a.eval x=.int k p)(J:a.eval y=.int k' q):
  (execOp a.eval ⟨d,.call {callee:=.builtin .max,args:=#[x,y],argTypes:=ts},T,pos,af,gd⟩).run P w=.ok (.value (.int k (max p q))) w:=by
 have e:(if p<q then q else p)=max p q:=by omega
 simp[execOp,resolve,invoke,builtin,H,J,Builtin.max_,Builtin.max2,e]
end lens
section mem
variable {t e:TypeId}{x y:Operand}{g o:Nat}{cs:List Value}{v:Value}{n:Nat}
def r_load1 {ad:Addr}(H: ∀w,(isAgg t).run P w=.ok false w)(J:a.eval x=.pointer (some ad))(L:w.cell? ad=some v):
  (execOp a.eval ⟨d,.load t x,T,pos,af,gd⟩).run P w=.ok (.value v) w:=by
 simp[execOp,Instr.loadAt,J,Instr.sureAddr,loadVar,H,L]
def r_loadN {ad:Addr}(H: ∀w,(isAgg t).run P w=.ok true w)(J: ∀w,(sizeOf t).run P w=.ok n w)(L:a.eval x=.pointer (some ad))(N:cs.length=n)
  (O: ∀j u,cs[j]?=some u->w.cell? (ad.add j)=some u):
  (execOp a.eval ⟨d,.load t x,T,pos,af,gd⟩).run P w=.ok (.value (.agg cs.toArray)) w:=by
 subst N;have:=run_loadCells_list (P:=P) w ad cs O;simp[execOp,Instr.loadAt,L,Instr.sureAddr,loadVar,H,J,this]
def r_indexAddr {A:Addr}{c:Nat}{i:Int}{k:IntKind}(H:P.underlying t=some (.slice e))(J: ∀w,(sizeOf e).run P w=.ok g w)(L:a.eval x=.slice (some A) n c)(N:a.eval y=.int k i)(O:0<=i)(V:i<n):
  (execOp a.eval ⟨d,.indexAddr t x y,T,pos,af,gd⟩).run P w=.ok (.value (.pointer (some (A.add (i.toNat*g))))) w:=by
 simp[execOp,Instr.indexAt,L,N,asIntOf,run_underlying H,J,O,V]
end mem
end
inductive Ty where
 |int (k:IntKind)
 |byte
 |bool
 |str
 |slice (e:Ty)
 |pair (a b:Ty)
@[reducible] def Ty.den:Ty->Type
 | .int _=>Int
 | .byte=>UInt8
 | .bool=>Bool
 | .str=>ByteArray
 | .slice e=>List e.den
 | .pair a b=>a.den×b.den
def Ty.size:Ty->Nat
 | .pair a b=>a.size+b.size
 |_=>1
def Ty.rep (w:World)(F:Nat->Prop):(t:Ty)->List Value->t.den->Prop
 | .int k,cs,x=>cs=[.int k x]/\k.has x
 | .byte,cs,x=>cs=[.int .u8 (x.toNat:Int)]
 | .bool,cs,x=>cs=[.bool x]
 | .str,cs,x=>cs=[.string x]/\x.size<=maxLen
 | .slice e,cs,xs=>∃(A:Option Addr) (c:Nat) (cells:List Value),cs=[.slice A xs.length c]/\xs.length<=c/\c<=maxLen/\cells.length=xs.length*e.size/\
   (xs.length=0\/∃b o,A=some ⟨b,o,none⟩/\F b/\∀j u,cells[j]?=some u->w.cell? ⟨b,o+j,none⟩=some u)/\
   ∀(i:Nat) (x:e.den),xs[i]?=some x->e.rep w F ((cells.drop (i*e.size)).take e.size) x
 | .pair a b,cs,x=>∃ca cb,cs=ca++cb/\a.rep w F ca x.1/\b.rep w F cb x.2
section
variable {w w':World}{F F':Nat->Prop}
def Qhw: ∀(t:Ty) {cs:List Value} {x:t.den},t.rep w F cs x->cs.length=t.size
 | .int _,_,_,h=>by rw[h.1];rfl
 | .byte,_,_,h=>by rw[show _=_ from h];rfl
 | .bool,_,_,h=>by rw[show _=_ from h];rfl
 | .str,_,_,h=>by rw[h.1];rfl
 | .slice e,_,_,h=>by obtain⟨A,c,cells,h,_⟩:=h;rw[h];rfl
 | .pair a b,_,_,h=>by
  obtain⟨ca,cb,h,H,J⟩:=h;rw[h,Qe,Qhw a H,Qhw b J];rfl
def Qdh: ∀(t:Ty) {cs:List Value} {x:t.den},t.rep w F cs x->∀u∈cs,u.oneCell'=true
 | .int _,_,_,h=>by rw[h.1];simp[Value.oneCell']
 | .byte,_,_,h=>by rw[show _=_ from h];simp[Value.oneCell']
 | .bool,_,_,h=>by rw[show _=_ from h];simp[Value.oneCell']
 | .str,_,_,h=>by rw[h.1];simp[Value.oneCell']
 | .slice e,_,_,h=>by obtain⟨A,c,cells,h,_⟩:=h;rw[h];simp[Value.oneCell']
 | .pair a b,_,_,h=>by
  obtain⟨ca,cb,h,J,L⟩:=h;intro u H;rw[h,Qx]at H;rcases H with H|H
  exact Qdh a J u H;exact Qdh b L u H
def rep_keep (hk: ∀p:Addr,F p.block->p.block<w.heap.size->w'.cell? p=w.cell? p)(H: ∀b,F b->F' b): ∀(t:Ty) {cs:List Value} {x:t.den},t.rep w F cs x->t.rep w' F' cs x
 | .int _,_,_,h=>h
 | .byte,_,_,h=>h
 | .bool,_,_,h=>h
 | .str,_,_,h=>h
 | .slice e,_,_,h=>by
  obtain⟨A,c,cells,N,O,V,W,L,h6⟩:=h;refine⟨A,c,cells,N,O,V,W,?_,λi x hi=>rep_keep hk H e (h6 i x hi)⟩;rcases L with L|⟨b,o,Y,J,hc⟩
  exact .inl L;refine .inr ⟨b,o,Y,H b J,λj u hu=>?_⟩;have:=hc j u hu;rw[hk ⟨b,o+j,none⟩ J (World.block_lt_of_cell? w _ this)];exact this
 | .pair a b,_,_,h=>by
  obtain⟨ca,cb,h,ha,J⟩:=h;exact⟨ca,cb,h,rep_keep hk H a ha,rep_keep hk H b J⟩
def Ty.flat:Ty->Bool
 | .slice _=>false
 | .pair a b=>a.flat&&b.flat
 |_=>true
def Qfw: ∀(t:Ty),t.flat=true->∀{cs:List Value} {x:t.den},t.rep w F cs x->t.rep w F' cs x
 | .int _,_,_,_,h=>h
 | .byte,_,_,_,h=>h
 | .bool,_,_,_,h=>h
 | .str,_,_,_,h=>h
 | .slice e,H,_,_,_=>by cases H
 | .pair a b,H,_,_,h=>by
  simp only[Ty.flat,Qp]at H;obtain⟨ca,cb,h,J,L⟩:=h;exact⟨ca,cb,h,Qfw a H.1 J,Qfw b H.2 L⟩
def Qgp {S:List Nat}(H:Ch S w w')(J: ∀b,F b->b∉S)(t:Ty){cs:List Value}{x:t.den}(h:t.rep w F cs x):t.rep w' F cs x:=
 rep_keep (λ_ hp L=>H.cell L (J _ hp)) (λ_ h=>h) t h
def rep_ch0 (H:Ch [] w w')(t:Ty){cs:List Value}{x:t.den}(h:t.rep w F cs x):t.rep w' F cs x:=Qgp H (λ_ _=>by simp) t h
def Qbz (H: ∀b,F b->F' b)(t:Ty){cs:List Value}{x:t.den}(h:t.rep w F cs x):t.rep w F' cs x:=rep_keep (λ_ _ _=>rfl) H t h
def rep_slice {e:Ty}{cs:List Value}{xs:List e.den}(h:(Ty.slice e).rep w F cs xs): ∃A c,cs=[.slice A xs.length c]/\xs.length<=c/\c<=maxLen:=by
 obtain⟨A,c,cells,H,J,L,_⟩:=h;exact⟨A,c,H,J,L⟩
def rep_at {e:Ty}{A:Option Addr}{n c:Nat}{xs:List e.den}(h:(Ty.slice e).rep w F [.slice A n c] xs){k:Nat}(hk:k<xs.length):
  ∃ad es,A=some ad/\(∀j u,es[j]?=some u->w.cell? ((ad.add (k*e.size)).add j)=some u)/\e.rep w F es xs[k]:=by
 obtain⟨A',c',cells,H,V,W,Y,L,h6⟩:=h;injection H with H
 injection H with N hn hc
 subst N;rcases L with L|⟨b,o,rfl,hb,hcell⟩
 omega;refine⟨_,_,rfl,λj u J=>?_,h6 k _ (Qf hk)⟩;rw[Addr.add_lit,Addr.add_lit];have O:j<e.size:=by
  have:=(Qd.1 J).1;simp only[Qo]at this;omega
 rw[Q2 O,Wl]at J;rw[Xx];exact hcell _ _ J
def rep_slice_len {e:Ty}{A:Option Addr}{n c:Nat}{xs:List e.den}(h:(Ty.slice e).rep w F [.slice A n c] xs):xs.length=n/\n<=c/\c<=maxLen:=by
 obtain⟨A',c',cells,H,J,L,_⟩:=h;injection H with H
 injection H with V N O
 subst N;subst O;exact⟨rfl,J,L⟩
def rep_nil (e:Ty):(Ty.slice e).rep w F [.slice none 0 0] []:=⟨none,0,[],rfl,Q4 _,by simp[maxLen],by simp,.inl rfl,λi x h=>by simp at h⟩
def Qbi {e:Ty}{A:Option Addr}{n c:Nat}{xs:List e.den}(h:(Ty.slice e).rep w F [.slice A n c] xs){k:Nat}(hk:k<=xs.length):(Ty.slice e).rep w F [.slice A k c] (xs.take k):=by
 obtain⟨A',c',cells,J,h2,W,Y,O,h6⟩:=h;injection J with J
 injection J with L hn hc
 subst L;subst hc;have N:(xs.take k).length=k:=by rw[Qo];omega
 refine⟨A,c,cells.take (k*e.size),by rw[N],by omega,W,by rw[Qo,Y,N];exact X4 (Ww _ hk),?_,λi x hi=>?_⟩;rw[N];rcases O with O|⟨b,o,L,hb,hcell⟩
 exact .inl (by omega);refine .inr ⟨b,o,L,hb,λj u V=>hcell j u ?_⟩;have hj:=(Qd.1 V).1;rw[Qo]at hj;rwa[Q2 (by omega)]at V;have H:i<k:=by
  have:=(Qd.1 hi).1;omega
 have hx:xs[i]?=some x:=by rwa[Q2 H]at hi
 have:=h6 i x hx;have hm:(i+1)*e.size<=k*e.size:=Ww _ H;rw[Yk,Yu]at hm;rw[Yy,List.take_take,X4 (by omega)];exact this
def rep_drop {e:Ty}{A:Option Addr}{n c:Nat}{xs:List e.den}(h:(Ty.slice e).rep w F [.slice A n c] xs){k c':Nat}{A':Option Addr}(hk:k<=xs.length)(hc':n-k<=c')(O:c'<=maxLen)
  (hA':k<xs.length->∀ad,A=some ad->A'=some (ad.add (k*e.size))):(Ty.slice e).rep w F [.slice A' (n-k) c'] (xs.drop k):=by
 obtain⟨A1,c1,cells,H,h2,h3,V,L,h6⟩:=h;injection H with H
 injection H with W Y hc
 subst W;subst Y;have J:(xs.drop k).length=xs.length-k:=Qu;refine⟨A',c',cells.drop (k*e.size),by rw[J],by omega,O,by rw[Qu,V,J,Nat.sub_mul],?_,λi x hi=>?_⟩;rw[J];by_cases hz:xs.length-k=0;exact .inl hz;rcases L with L|⟨b,o,rfl,hb,hcell⟩
 omega;refine .inr ⟨b,o+k*e.size,by rw[hA' (by omega) _ rfl,Addr.add_lit],hb,λj u N=>?_⟩;rw[Wl]at N;rw[Xx];exact hcell _ _ N;rw[Wl]at hi;have:=h6 _ _ hi;rw[Xi,show k*e.size+i*e.size=(k+i)*e.size from(Yk _ _ _).symm];exact this
def rep_cells {e:Ty}{A:Option Addr}{n c:Nat}{xs:List e.den}(h:(Ty.slice e).rep w F [.slice A n c] xs):
  ∃cells:List Value,cells.length=n*e.size/\(∀u∈cells,u.oneCell'=true)/\(n=0\/∃ad,A=some ad/\F ad.block/\∀j u,cells[j]?=some u->w.cell? (ad.add j)=some u)/\
   ∀(i:Nat) (x:e.den),xs[i]?=some x->e.rep w F ((cells.drop (i*e.size)).take e.size) x:=by
 obtain⟨A',c',cells,H,h2,h3,J,L,h6⟩:=h;injection H with H
 injection H with W Y hc
 subst W;subst Y;refine⟨cells,J,λu N=>?_,?_,h6⟩;obtain⟨j,V,rfl⟩:=X6 N;have hs:0<e.size:=by
  rcases Nat.eq_zero_or_pos e.size with O|O
  rw[O]at J;omega;exact O
 have hi:j / e.size<xs.length:=Nat.div_lt_of_lt_mul (by rw[Y9,<-J];exact V);have hr:=h6 (j / e.size) _ (Qf hi);refine Qdh e hr _ (Qg (i:=j%e.size) ?_);rw[Q2 (Nat.mod_lt _ hs),Wl,Y9,Nat.div_add_mod];exact Qf V;rcases L with L|⟨b,o,rfl,hb,hcell⟩
 exact .inl L;exact .inr ⟨_,rfl,hb,λj u N=>by rw[Addr.add_lit];exact hcell j u N⟩
end
def obl:Option Addr->List Nat
 |none=>[]
 |some a=>[a.block]
def Own (t:Ty)(e:TypeId)(B:Nat)(w:World)(F:Nat->Prop)(A:Option Addr)(c:Nat)(xs:List t.den):Prop:=
 ∃cells:List Value,w.ownsRow B e t.size (.slice A xs.length c) xs.length cells/\(∀u∈cells,u.oneCell'=true)/\
  ∀(i:Nat) (x:t.den),xs[i]?=some x->t.rep w F ((cells.drop (i*t.size)).take t.size) x
section
variable {t:Ty}{e:TypeId}{B:Nat}{w w':World}{F F':Nat->Prop}{A:Option Addr}{c:Nat}{xs:List t.den}
def ownBlock_slice (A:Option Addr)(n c:Nat):(Value.slice A n c).ownBlock.toList=obl A:=by cases A<;>rfl
def Own.nil (t:Ty)(e:TypeId)(B:Nat)(w:World)(F:Nat->Prop):Own t e B w F none 0 []:=
 ⟨[],World.ownsRow_nil w B e t.size,by simp,λi x h=>by simp at h⟩
def Own.lt (h:Own t e B w F A c xs): ∀k,k∈obl A->B<=k/\k<w.heap.size:=by
 obtain⟨cells,H,_⟩:=h;intro k hk;exact H.lt k (by cases A<;>simp_all [obl,Value.ownBlock])
def Own.len (h:Own t e B w F A c xs):xs.length<=c/\c<=maxLen:=by
 obtain⟨cells,L,_⟩:=h;rcases L.2 with⟨H,V⟩|⟨g,cap,cur,H,_,_,N,O,_⟩
 injection H with _ _ J;subst J;exact⟨by omega,by simp[maxLen]⟩
 injection H with _ _ J;subst J;exact⟨N,O⟩
def Own.more (h:Own t e B w F A c xs)(H: ∀b,F b->F' b):Own t e B w F' A c xs:=by
 obtain⟨cells,J,L,N⟩:=h;exact⟨cells,J,L,λi x hi=>Qbz H t (N i x hi)⟩
def Own.base {B':Nat}(h:Own t e B w F A c xs)(V:B'<=B):Own t e B' w F A c xs:=by
 obtain⟨cells,H,J,L⟩:=h;refine⟨cells,⟨H.1,?_⟩,J,L⟩;rcases H.2 with N|⟨g,cap,cur,O,W,rest⟩
 exact .inl N;exact .inr ⟨g,cap,cur,O,by omega,rest⟩
def Own.rep (h:Own t e B w F A c xs)(V: ∀b,F b->F' b)(hA: ∀k,k∈obl A->F' k):(Ty.slice t).rep w F' [.slice A xs.length c] xs:=by
 obtain⟨cells,W,h1,Y⟩:=h;have hl:cells.length=xs.length*t.size:=W.1;rcases W.2 with⟨J,hn⟩|⟨g,cap,cur,J,hb,hg,L,N,hcs,htake⟩
 injection J with hA' _ O
 subst hA';subst O;exact⟨none,0,cells,rfl,by omega,by simp[maxLen],hl,.inl hn,λi x hi=>Qbz V t (Y i x hi)⟩;injection J with hA' _ O
 subst hA';subst O;refine⟨_,_,cells,rfl,L,N,hl,.inr ⟨g,0,rfl,hA g (by simp[obl]),λj u H=>?_⟩,λi x hi=>Qbz V t (Y i x hi)⟩;rw[W9,cell_of_row w g j cur e (0,0) hg];rw[<-htake,Yf]at H;split at H;simpa using H;cases H
def Own.made {w:World}{g:Nat}{cs:List Value}(J:Blk w g e cs)(L:B<=g)(H:cs.length=xs.length*t.size)(N:xs.length<=maxLen)(O: ∀u∈cs,u.oneCell'=true)
  (V: ∀(i:Nat) (x:t.den),xs[i]?=some x->t.rep w F ((cs.drop (i*t.size)).take t.size) x):Own t e B w F (some ⟨g,0,none⟩) xs.length xs:=
 ⟨cs,⟨H,.inr ⟨g,xs.length,cs.toArray,rfl,L,J,Q4 _,N,by simpa using H,by simp[<-H]⟩⟩,O,V⟩
end
def Qbj {t:Ty}{w:World}{F:Nat->Prop}{xs ys:List t.den}{cs ds:List Value}(J:cs.length=xs.length*t.size)
  (L: ∀(i:Nat) (x:t.den),xs[i]?=some x->t.rep w F ((cs.drop (i*t.size)).take t.size) x) (N: ∀(i:Nat) (x:t.den),ys[i]?=some x->t.rep w F ((ds.drop (i*t.size)).take t.size) x):
  ∀(i:Nat) (x:t.den),(xs++ys)[i]?=some x->t.rep w F (((cs++ds).drop (i*t.size)).take t.size) x:=by
 intro i x hi;by_cases H:i<xs.length;rw[Q9 H]at hi;have O:(i+1)*t.size<=xs.length*t.size:=Ww _ H;rw[Yk,Yu]at O;rw[List.drop_append_of_le_length (by omega),List.take_append_of_le_length (by rw[Qu];omega)];exact L i x hi;rw[Wx (by omega)]at hi;have:=N _ _ hi;have e:(cs++ds).drop (i*t.size)=ds.drop ((i-xs.length)*t.size):=by
  rw[List.drop_append,Wi (by rw[J];exact Ww _ (by omega)),Q5,J,Nat.sub_mul]
 rw[e];exact this
section
variable {P:Program}{t:Ty}{e:TypeId}{B:Nat}{w:World}{F:Nat->Prop}{A:Option Addr}{c:Nat}{xs:List t.den}
def run_append {tt ty:TypeId}{i:TypeInfo}{z:Value}{bytes:Nat}(ht:P.underlying tt=some (.slice e))(hi:P.info? e=some i)(hz:i.zero=some z)(hsize:i.size=t.size)(hby:i.bytes=bytes)
  (hzs:z.cells.size=t.size) (hsz:0<t.size) (hown:Own t e B w F A c xs) {F2:Nat->Prop} {A2:Option Addr} {n2 c2:Nat} {ys:List t.den} (hr:(Ty.slice t).rep w F2 [.slice A2 n2 c2] ys) (hel: ∀cs x,t.rep w F2 cs x->t.rep w F cs x) (h63:(xs.length+ys.length)*bytes<=140737488355328)
  (hbp:0<bytes) (hA: ∀b,F b->b∉obl A) (hB:B<=w.heap.size):
  ∃A' c' w',(Builtin.append_ #[tt,tt] ty #[.slice A xs.length c,.slice A2 n2 c2]).run P w=.ok (.slice A' (xs.length+ys.length) c') w'/\Own t e B w' F A' c' (xs++ys)/\Ch (obl A) w w'/\
   (∀k,k∈obl A'->k∈obl A\/k=w.heap.size):=by
 obtain⟨cells,hrow,h1,h2⟩:=hown;have hlen:=rep_slice_len hr;obtain⟨news,O,V,J,hn3⟩:=rep_cells hr;obtain⟨H,_,_⟩:=hlen;have hbig:xs.length+ys.length<=maxLen:=by
  have:xs.length+ys.length<=(xs.length+ys.length)*bytes:=Yv _ hbp;simp only[maxLen];omega
 by_cases W:n2=0;have hy:ys=[]:=Qz (by omega);subst hy;subst W;have hnews:news=[]:=Qz (by simpa using O);have hrun:(Builtin.append_ #[tt,tt] ty #[.slice A xs.length c,.slice A2 0 c2]).run P w=.ok (.slice A xs.length c) w:=by
  rcases hrow.2 with⟨L,hn⟩|⟨g,cap,cur,L,_,_,hnc,_⟩
  injection L with hA' hn' hc
  subst hA';subst hc;cases A2<;>simp[Builtin.append_,run_underlying ht,sizeOf,typeInfo,hi,Builtin.lenOf,Builtin.firstCells,hn,loadCells,loadCellsFrom];injection L with hA' hn' hc
  subst hA';subst hc;cases A2<;>simp[Builtin.append_,run_underlying ht,sizeOf,typeInfo,hi,Builtin.lenOf,Builtin.firstCells,hnc,storeCells,loadCells,loadCellsFrom]
 refine⟨A,c,w,by simpa using hrun,⟨cells,by simpa using hrow,h1,by simpa using h2⟩,Ch.refl' _ _,λk hk=>.inl hk⟩;rcases J with J|⟨ad,rfl,hFad,hcell⟩
 exact absurd J W;obtain⟨v',w',hrun,h3,h4,_,Y⟩:=run_append_own_at (P:=P) w B tt ty e i z t.size bytes ht hi hz hsize hby hzs hsz _ xs.length cells hrow ad n2 c2 news O hcell V (by omega) (by rw[<-H];exact h63) hB;have hform: ∃A' c',v'=.slice A' (xs.length+ys.length) c':=by
  rcases h3.2 with⟨L,hn⟩|⟨g,cap,cur,L,_⟩
  exact⟨none,0,by rw[L,show xs.length+ys.length=0 from by omega]⟩;exact⟨_,_,by rw[L,H]⟩
 obtain⟨A',c',rfl⟩:=hform;have N:Ch (obl A) w w':=by have:=Ch.of_grown h4;rwa[ownBlock_slice]at this
 refine⟨A',c',w',hrun,⟨cells++news,?_,?_,?_⟩,N,λk hk=>?_⟩;rw[Qe,H];rw[H]at h3;exact h3;intro u hu;rcases Qx.1 hu with hu|hu
 exact h1 u hu;exact V u hu;exact Qbj hrow.1 (λi x hi=>Qgp N hA t (h2 i x hi)) (λi x hi=>Qgp N hA t (hel _ _ (hn3 i x hi)));rcases Y with Y|Y
 left;have:obl A'=obl A:=by rw[<-ownBlock_slice A' (xs.length+ys.length) c',Y,ownBlock_slice]
 rwa[<-this];right;have:obl A'=[w.heap.size]:=by rw[<-ownBlock_slice A' (xs.length+ys.length) c',Y];rfl
 rw[this]at hk;simpa using hk
end
def evs (l:List (Nat×Value)):List Operand->Option (List Value)
 | []=>some []
 |x::r=>match ev l x,evs l r with
  |some v,some vs=>some (v::vs)
  |_,_=>none
def evp (l:List (Nat×Value)):List (Nat×Operand)->Option (List (Nat×Value))
 | []=>some []
 |(i,x)::r=>match ev l x,evp l r with
  |some v,some vs=>some ((i,v)::vs)
  |_,_=>none
def Fr.evals {a:Act}{n:Nat}{ds:List Deferred}{l:List (Nat×Value)}(h:Fr a n ds l): ∀(xs:List Operand) {vs:List Value},evs l xs=some vs->xs.toArray.map a.eval=vs.toArray:=by
 intro xs;induction xs with
 |nil=>intro vs H;simp only[evs,Qr]at H;subst H;simp
 |cons x r N=>
  intro vs H;unfold evs at H;cases J:ev l x with
  |none=>simp[J]at H
  |some v=>
   cases L:evs l r with
   |none=>simp[J,L]at H
   |some us=>
    simp only[J,L,Qr]at H;subst H;have:=N L;simp only[Xg,Q7,h.eval J]at this ⊢;rw[Array.mk.injEq]at this;rw[this]
def Fr.evalp {a:Act}{n:Nat}{ds:List Deferred}{l:List (Nat×Value)}(h:Fr a n ds l): ∀(xs:List (Nat×Operand)) {vs:List (Nat×Value)},evp l xs=some vs->
  xs.toArray.map (λ(i,x)=>(i,a.eval x))=vs.toArray:=by
 intro xs;induction xs with
 |nil=>intro vs H;simp only[evp,Qr]at H;subst H;simp
 |cons x r N=>
  obtain⟨i,x⟩:=x;intro vs H;unfold evp at H;cases J:ev l x with
  |none=>simp[J]at H
  |some v=>
   cases L:evp l r with
   |none=>simp[J,L]at H
   |some us=>
    simp only[J,L,Qr]at H;subst H;have:=N L;simp only[Xg,Q7,h.eval J]at this ⊢;rw[Array.mk.injEq]at this;rw[this]
section
variable {P:Program}{a:Act}{w:World}{d:Option Tmp}{T:TypeId}{pos:String}{af:Array Edge}{gd:Option (Nat×Bool)}{n:Nat}{ds:List Deferred}{l:List (Nat×Value)}
def Qgh {t:TypeId}{x:Operand}{fs:Array Field}{f:Field}{i m:Nat}{ad:Addr}(H:P.underlying t=some (.struct fs))(J:fs[i]?=some f)(L: ∀w,(sizeOf f.type).run P w=.ok (m+1) w)(N:a.eval x=.pointer (some ad)):
  (execOp a.eval ⟨d,.fieldAddr t x i,T,pos,af,gd⟩).run P w=.ok (.value (.pointer (some (ad.add f.offset)))) w:=by
 simp[execOp,Instr.fieldAt,run_underlying H,J,N,Instr.sureAddr,fieldPlace,L]
section
variable {t e:TypeId}{x lo hi mx:Operand}{A:Option Addr}{len c sz:Nat}{k k1 k2 k3:IntKind}{p q r:Int}
def Qdf {u:Nat}(H:P.underlying t=some (.slice e))(J: ∀w,(sizeOf e).run P w=.ok sz w)(L:a.eval x=.slice A len c)(N:a.eval hi=.int k q)(hq:q=(u:Int))(O:u<=c):
  (execOp a.eval ⟨d,.slice t x none (some hi) none,T,pos,af,gd⟩).run P w=.ok (.value (.slice A u c)) w:=by
 subst hq;simp[execOp,Instr.sliceAt,run_underlying H,L,N,Instr.slice,Instr.sliceBounds,Instr.sliceBound,asIntOf,O,J];cases A<;>simp[Addr.add]
def cutA (A:Option Addr)(m p sz:Nat):Option Addr:=if m=p then A else A.map (·.add (p*sz))
def r_slice_l {u:Nat}(H:P.underlying t=some (.slice e))(J: ∀w,(sizeOf e).run P w=.ok sz w)(L:a.eval x=.slice A len c)(N:a.eval lo=.int k p)(hp:p=(u:Int))(O:u<=len):
  (execOp a.eval ⟨d,.slice t x (some lo) none none,T,pos,af,gd⟩).run P w=.ok (.value (.slice (cutA A c u sz) (len-u) (c-u))) w:=by
 subst hp;simp[execOp,Instr.sliceAt,run_underlying H,L,N,Instr.slice,Instr.sliceBounds,Instr.sliceBound,asIntOf,O,J,cutA]
def r_slice_lh {u v:Nat}(H:P.underlying t=some (.slice e))(J: ∀w,(sizeOf e).run P w=.ok sz w)(L:a.eval x=.slice A len c)(N:a.eval lo=.int k p)(O:a.eval hi=.int k1 q)(hp:p=(u:Int))(hq:q=(v:Int))(V:u<=v)(W:v<=c):
  (execOp a.eval ⟨d,.slice t x (some lo) (some hi) none,T,pos,af,gd⟩).run P w=.ok (.value (.slice (cutA A c u sz) (v-u) (c-u))) w:=by
 subst hp;subst hq;simp[execOp,Instr.sliceAt,run_underlying H,L,N,O,Instr.slice,Instr.sliceBounds,Instr.sliceBound,asIntOf,V,W,J,cutA]
def Qdg {u v m:Nat}(H:P.underlying t=some (.slice e))(J: ∀w,(sizeOf e).run P w=.ok sz w)(L:a.eval x=.slice A len c)(N:a.eval lo=.int k p)(O:a.eval hi=.int k1 q)(V:a.eval mx=.int k2 r)(hp:p=(u:Int))(hq:q=(v:Int))(W:r=(m:Int))(Y:u<=v)(h2:v<=m)(h3:m<=c):
  (execOp a.eval ⟨d,.slice t x (some lo) (some hi) (some mx),T,pos,af,gd⟩).run P w=.ok (.value (.slice (cutA A m u sz) (v-u) (m-u))) w:=by
 subst hp;subst hq;subst W;simp[execOp,Instr.sliceAt,run_underlying H,L,N,O,V,Instr.slice,Instr.sliceBounds,Instr.sliceBound,asIntOf,Y,h2,h3,J,cutA]
def r_slice_hm {v m:Nat}(H:P.underlying t=some (.slice e))(J: ∀w,(sizeOf e).run P w=.ok sz w)(L:a.eval x=.slice A len c)(N:a.eval hi=.int k1 q)(O:a.eval mx=.int k2 r)(hq:q=(v:Int))(V:r=(m:Int))(W:v<=m)(Y:m<=c):
  (execOp a.eval ⟨d,.slice t x none (some hi) (some mx),T,pos,af,gd⟩).run P w=.ok (.value (.slice A v m)) w:=by
 subst hq;subst V;simp[execOp,Instr.sliceAt,run_underlying H,L,N,O,Instr.slice,Instr.sliceBounds,Instr.sliceBound,asIntOf,W,Y,J];cases A<;>simp[Addr.add]
def r_eqnil {ty:TypeId}{y:Operand}(H:P.underlying t=some (.slice e))(J:a.eval x=.slice A len c)(L:a.eval y=.slice none 0 0):
  (execOp a.eval ⟨d,.binOp .eql t x y ty,T,pos,af,gd⟩).run P w=.ok (.value (.bool A.isNone)) w:=by
 have h: ∀m,(Op.equalIn (m+1) t (.slice A len c) (.slice none 0 0)).run P w=.ok A.isNone w:=λm=>by
  cases A<;>simp[Op.equalIn,run_underlying H]
 have N:(Op.equal t (.slice A len c) (.slice none 0 0)).run P w=.ok A.isNone w:=h 9999;simp[execOp,J,L,eqGuard_at_slice,binOp,N]
end
def r_callv {f:FuncId}{c:Operand}{xs:List Operand}{vs first cap:List Value}{ts:Array TypeId}(H: ∀args w,(callFunc f args).run P w=.ok (.enter f args) w)(J:Fr a n ds l)
  (L:ev l c=some (.func (.func f) first.toArray cap.toArray)) (N:evs l xs=some vs):
  (execOp a.eval ⟨d,.call {callee:=.value c,args:=xs.toArray,argTypes:=ts},T,pos,af,gd⟩).run P w=.ok (.enter f (first++vs++cap).toArray) w:=by
 have h:=J.evals xs N;have O:=J.eval L;simp only[execOp,resolve,h,O];simp[Deferred.ofValue,invoke,H]
def r_defer {f:FuncId}{xs:List Operand}{vs:List Value}{ts:Array TypeId}(H:Fr a n ds l)(J:evs l xs=some vs):
  (execOp a.eval ⟨d,.defer {callee:=.value (.func f),args:=xs.toArray,argTypes:=ts},T,pos,af,gd⟩).run P w=.ok (.defer {target:=.fn (.func f) #[],args:=vs.toArray}) w:=by
 have h:=H.evals xs J;simp only[execOp,resolve,h];simp[Act.eval,Deferred.ofValue]
def run_b2s {F:Nat->Prop}{A:Option Addr}{len c:Nat}{bs:List UInt8}(h:(Ty.slice .byte).rep w F [.slice A len c] bs):(Conv.bytesToString (.slice A len c)).run P w=.ok (.string ⟨bs.toArray⟩) w:=by
 obtain⟨V,_,_⟩:=rep_slice_len h;have hall: ∀k,k<bs.length->∃ad,A=some ad/\w.cell? (ad.add k)=some (.int .u8 ((bs.getD k 0).toNat:Int)):=λk hk=>by
  obtain⟨ad,es,W,Y,hr⟩:=rep_at h hk;have he:es=[.int .u8 ((bs[k]).toNat:Int)]:=hr;refine⟨ad,W,?_⟩;have:=Y 0 _ (by rw[he];rfl);rw[Addr.add_zero',show Ty.byte.size=1 from rfl,Yd]at this;rw[this,List.getD_eq_getElem?_getD,Qf hk];rfl
 cases A with
 |none=>
  have:bs=[]:=by
   rcases Nat.eq_zero_or_pos bs.length with N|N
   exact Qz N;obtain⟨ad,J,_⟩:=hall 0 N;cases J
  subst this;simp[Conv.bytesToString];rfl
 |some ad=>
  have hload:(loadCells ad len).run P w=.ok (bs.map λb=>Value.int .u8 (b.toNat:Int)).toArray w:=by
   have:=run_loadCells_list (P:=P) w ad (bs.map λb=>Value.int .u8 (b.toNat:Int)) (λj v H=>by
    rw[Qy]at H;cases L:bs[j]? with
    |none=>rw[L]at H;cases H
    |some b=>
     rw[L]at H;injection H with H
     subst H;have O:=(Qd.1 L).1;obtain⟨ad',J,h2⟩:=hall j O;injection J with J
     subst J;rw[h2,List.getD_eq_getElem?_getD,L];rfl)
   rw[Wd,V]at this;exact this
  have hloop: ∀(l:List UInt8) (acc:ByteArray),(forIn (m:=Sem) (l.map λb=>Value.int .u8 (b.toNat:Int)) acc λc r=>(match c with
    | .int .u8 m=>(pure (ForInStep.yield (r.push (UInt8.ofNat m.toNat))):Sem (ForInStep ByteArray))
    |_=>stuck "bytesToString: byte expected")).run P w=.ok ⟨acc.data++l.toArray⟩ w:=by
   intro l;induction l with
   |nil=>intro acc;simp
   |cons b r ih=>
    intro acc;simp only[Q7,List.forIn_cons,Sem.run_bind,Sem.run_pure,Result.andThen_ok];rw[ih];simp only[ByteArray.push,Q0,UInt8.ofNat_toNat];congr 2;apply Array.toList_inj.1;simp
  simp only[Conv.bytesToString,Sem.run_bind,hload,Result.andThen_ok];rw[<-Array.forIn_toList];have:=hloop bs ByteArray.empty;erw [this];simp[ByteArray.empty,ByteArray.emptyWithCapacity];rfl
def r_b2s {src dst e:TypeId}{x:Operand}{F:Nat->Prop}{A:Option Addr}{len c:Nat}{bs:List UInt8}(H:P.underlying src=some (.slice e))(J:P.underlying e=some (.int .u8))(L:P.underlying dst=some .string)(N:a.eval x=.slice A len c)
  (h:(Ty.slice .byte).rep w F [.slice A len c] bs):(execOp a.eval ⟨d,.convert src dst x,T,pos,af,gd⟩).run P w=.ok (.value (.string ⟨bs.toArray⟩)) w:=by
 have:=run_b2s (P:=P) h;simp[execOp,N,convert,run_underlying H,run_underlying L,run_underlying J,this]
end
section
variable {r:Option Nat}{P:Program}{ops:Array Oper}{Q:Exit->Act->World->Prop}{a:Act}{w:World}{rest:List Oper}{n:Nat}{ds:List Deferred}{l:List (Nat×Value)}{d:Nat}{T:TypeId}{pos:String}{af:Array Edge}
def st_box {e:TypeId}{x:Operand}{v:Value}{cs:List Value}(H:Fr a n ds l)(J:Nat.ble (d+1) n=true)(L:ev l x=some v)(N:v.cells=cs.toArray)
  (h: ∀g w' a',g=w.heap.size->w'.heap.size=g+1->Blk w' g e cs->Ch [] w w'->Fr a' n ds ((d,.pointer (some ⟨g,0,none⟩))::l)->WL r P ops Q rest a' w'):
  WL r P ops Q (⟨some d,.box e x,T,pos,af,none⟩::rest) a w:=
 valw (w':=w.alloc (.cells cs.toArray e)) (v:=.pointer (some ⟨w.heap.size,0,none⟩)) H J (by simp[execOp,H.eval L,Instr.box,newVar,newRow,N])
  λa' hf'=>h _ _ a' rfl (by simp) (Blk.new w e cs) (Ch.alloc w _) hf'
def st_alloc {e:TypeId}{z:Value}{cs:List Value}(H:Fr a n ds l)(J:Nat.ble (d+1) n=true)(L: ∀w,(zeroValue e).run P w=.ok z w)(N:z.cells=cs.toArray)
  (h: ∀g w' a',g=w.heap.size->w'.heap.size=g+1->Blk w' g e cs->Ch [] w w'->Fr a' n ds ((d,.pointer (some ⟨g,0,none⟩))::l)->WL r P ops Q rest a' w'):
  WL r P ops Q (⟨some d,.alloc e,T,pos,af,none⟩::rest) a w:=
 valw (w':=w.alloc (.cells cs.toArray e)) (v:=.pointer (some ⟨w.heap.size,0,none⟩)) H J (by simp[execOp,Instr.alloc,L,newVar,newRow,N])
  λa' hf'=>h _ _ a' rfl (by simp) (Blk.new w e cs) (Ch.alloc w _) hf'
def run_bslice {t e:TypeId}{len sz:Nat}{z:Value}{vs:List (Nat×Value)}{cs:List Value}(H:P.underlying t=some (.slice e))(J: ∀w,(sizeOf e).run P w=.ok sz w)(L: ∀w,(zeroValue e).run P w=.ok z w)
  (W:len*sz<=2^24) (N:len*sz≠0) (O:Instr.fill (λi=>some (i*sz,sz)) ((Array.range (len*sz)).map (z.cells[· %z.cells.size]!)) vs=some cs.toArray):
  (Instr.buildSlice t len vs.toArray).run P w=.ok (.slice (some ⟨w.heap.size,0,none⟩) len len) (w.alloc (.cells cs.toArray e)):=by
 have V: ¬2^24<len*sz:=by omega
 simp only[Instr.buildSlice,Sem.run_bind,run_underlying H,Result.andThen_ok,J,V,Wb,N,L,Sem.run_pure,O,newRow,run_newObj,gt_iff_lt];rfl
def st_bslice {t e:TypeId}{len sz:Nat}{z:Value}{parts:List (Nat×Operand)}{vs:List (Nat×Value)}{cs:List Value}(J:Fr a n ds l)(L:Nat.ble (d+1) n=true)(N:P.underlying t=some (.slice e))(O: ∀w,(sizeOf e).run P w=.ok sz w)
  (V: ∀w,(zeroValue e).run P w=.ok z w) (hp:evp l parts=some vs) (W:Nat.ble (len*sz) 16777216=true) (Y:Nat.ble 1 (len*sz)=true)
  (hc:Instr.fill (λi=>some (i*sz,sz)) ((Array.range (len*sz)).map (z.cells[· %z.cells.size]!)) vs=some cs.toArray)
  (h: ∀g w' a',g=w.heap.size->w'.heap.size=g+1->Blk w' g e cs->Ch [] w w'->Fr a' n ds ((d,.slice (some ⟨g,0,none⟩) len len)::l)->WL r P ops Q rest a' w'):
  WL r P ops Q (⟨some d,.buildSlice t len parts.toArray,T,pos,af,none⟩::rest) a w:=
 valw (w':=w.alloc (.cells cs.toArray e)) (v:=.slice (some ⟨w.heap.size,0,none⟩) len len) J L (by
  have hb:=run_bslice (P:=P) (w:=w) N O V (Qq W) (by have:=Qq Y;omega) hc;have H:=J.evalp parts hp;simp only[execOp,H,Sem.run_bind,hb,Result.andThen_ok,Sem.run_pure])
  λa' hf'=>h _ _ a' rfl (by simp) (Blk.new w e cs) (Ch.alloc w _) hf'
def st_bslice0 {t e:TypeId}{sz:Nat}(H:Fr a n ds l)(J:Nat.ble (d+1) n=true)(L:P.underlying t=some (.slice e))(N: ∀w,(sizeOf e).run P w=.ok sz w)
  (h: ∀g w' a',g=w.heap.size->w'.heap.size=g+1->Blk w' g e []->Ch [] w w'->Fr a' n ds ((d,.slice (some ⟨g,0,none⟩) 0 0)::l)->WL r P ops Q rest a' w'):
  WL r P ops Q (⟨some d,.buildSlice t 0 #[],T,pos,af,none⟩::rest) a w:=
 valw (w':=w.alloc (.cells ([]:List Value).toArray e)) (v:=.slice (some ⟨w.heap.size,0,none⟩) 0 0) H J (by
  simp only[execOp,Instr.buildSlice,Sem.run_bind,run_underlying L,Result.andThen_ok,N,Nat.zero_mul];simp[Instr.fill,newRow,Array.range_zero'])
  λa' hf'=>h _ _ a' rfl (by simp) (Blk.new w e []) (Ch.alloc w _) hf'
def run_storeB {t bt:TypeId}{g o m:Nat}{cs new:List Value}{v:Value}(J:Blk w g bt cs)(L: ∀w,(sizeOf t).run P w=.ok m w)(N:v.cells=new.toArray)(H:new.length=m)(V:o+m<=cs.length)(O: ∀u∈new,u.oneCell'=true):
  (Instr.storeAt t (.pointer (some ⟨g,o,none⟩)) v).run P w=.ok () (w.setRow g (cs.take o++new++cs.drop (o+m)).toArray):=by
 have:=run_storeCells_at P g o bt new 0 cs.toArray w J (by simp;omega) O;simp only[Ja]at this;simp only[Instr.storeAt,Instr.sureAddr,Sem.run_bind,Sem.run_pure,Result.andThen_ok,storeVar,L,N,Xj,H,ne_eq,not_true,Wb];rw[this,H]
def Blk.setRow {g:Nat}{bt:TypeId}{cs cs':List Value}(H:Blk w g bt cs):Blk (w.setRow g cs'.toArray) g bt cs':=setRow_heap w g cs.toArray cs'.toArray bt (0,0) H
def st_store {t bt:TypeId}{x y:Operand}{g o m:Nat}{cs new cs':List Value}{v:Value}(H:Fr a n ds l)(J:Blk w g bt cs)(N:ev l x=some (.pointer (some ⟨g,o,none⟩)))(O:ev l y=some v)(V: ∀w,(sizeOf t).run P w=.ok m w)
  (W:v.cells=new.toArray) (Y:new.length=m) (ho:Nat.ble (o+m) cs.length=true) (h1: ∀u∈new,u.oneCell'=true) (hc:cs.take o++new++cs.drop (o+m)=cs')
  (h: ∀w' a',w'.heap.size=w.heap.size->Blk w' g bt cs'->Ch [g] w w'->Fr a' n ds l->WL r P ops Q rest a' w'):
  WL r P ops Q (⟨none,.store t x y,T,pos,af,none⟩::rest) a w:=
 skipw (w':=w.setRow g cs'.toArray) H (by
  have L:=run_storeB (P:=P) J V W Y (Qq ho) h1;rw[hc]at L;simp only[execOp,H.eval N,H.eval O,Sem.run_bind,L,Result.andThen_ok,Sem.run_pure])
  λa' hf'=>h _ a' (by simp[World.setRow]) J.setRow (Ch.setRow w g _) hf'
def st_append {t:Ty}{tt e:TypeId}{B:Nat}{F:Nat->Prop}{x y:Operand}{i:TypeInfo}{z:Value}{bytes:Nat}{A:Option Addr}{c:Nat}{xs:List t.den}(H:Fr a n ds l)(hd:Nat.ble (d+1) n=true)
  (ht:P.underlying tt=some (.slice e)) (hi:P.info? e=some i) (hz:i.zero=some z) (hsize:i.size=t.size) (J:i.bytes=bytes) (L:z.cells.size=t.size) (N:0<t.size) (O:0<bytes)
  {n1:Nat} (hx:ev l x=some (.slice A n1 c)) (V:n1=xs.length) (hown:Own t e B w F A c xs) {F2:Nat->Prop} {A2:Option Addr} {n2 c2:Nat} {ys:List t.den} (hy:ev l y=some (.slice A2 n2 c2)) (hr:(Ty.slice t).rep w F2 [.slice A2 n2 c2] ys) (W: ∀cs x,t.rep w F2 cs x->t.rep w F cs x)
  (Y:(xs.length+ys.length)*bytes<=140737488355328) (hA: ∀b,F b->b∉obl A) (hB:B<=w.heap.size)
  (h: ∀A' c' w' a',Own t e B w' F A' c' (xs++ys)->Ch (obl A) w w'->(∀k,k∈obl A'->k∈obl A\/k=w.heap.size)->Fr a' n ds ((d,.slice A' (xs++ys).length c')::l)->WL r P ops Q rest a' w'):
  WL r P ops Q (⟨some d,.call {callee:=.builtin .append,args:=#[x,y],argTypes:=#[tt,tt]},T,pos,af,none⟩::rest) a w:=by
 subst V;obtain⟨A',c',w',hrun,h1,h2,h3⟩:=run_append (P:=P) (ty:=T) ht hi hz hsize J L N hown hr W Y O hA hB;refine valw (w':=w') (v:=.slice A' (xs++ys).length c') H hd ?_ λa' hf'=>h _ _ _ a' h1 h2 h3 hf';rw[Qe];simp only[execOp,resolve,invoke,builtin,Sem.run_bind,Sem.run_pure,Result.andThen_ok,Xg,Q7,Xh,H.eval hx,H.eval hy,hrun]
end
section
variable {r:Option Nat}{P:Program}{ops:Array Oper}{Q:Exit->Act->World->Prop}{a:Act}{w:World}{rest:List Oper}{n:Nat}{ds:List Deferred}{l:List (Nat×Value)}{d:Nat}{T:TypeId}{pos:String}{af:Array Edge}
def st_append_flat {t:Ty}{tt e:TypeId}{B:Nat}{x y:Operand}{i:TypeInfo}{z:Value}{bytes:Nat}{A:Option Addr}{c:Nat}{xs:List t.den}(hf:Fr a n ds l)(hd:Nat.ble (d+1) n=true)
  (ht:P.underlying tt=some (.slice e)) (hi:P.info? e=some i) (hz:i.zero=some z) (hsize:i.size=t.size) (H:i.bytes=bytes) (J:z.cells.size=t.size) (L:0<t.size) (N:0<bytes) (O:t.flat=true)
  {n1:Nat} (hx:ev l x=some (.slice A n1 c)) (V:n1=xs.length) (hown:Own t e B w (λ_=>False) A c xs) {F2:Nat->Prop} {A2:Option Addr} {Y c2:Nat} {ys:List t.den} (hy:ev l y=some (.slice A2 Y c2)) (hr:(Ty.slice t).rep w F2 [.slice A2 Y c2] ys)
  (W:(xs.length+ys.length)*bytes<=140737488355328) (hB:B<=w.heap.size)
  (h: ∀A' c' w' a',Own t e B w' (λ_=>False) A' c' (xs++ys)->Ch (obl A) w w'->(∀k,k∈obl A'->k∈obl A\/k=w.heap.size)->Fr a' n ds ((d,.slice A' (xs++ys).length c')::l)->WL r P ops Q rest a' w'):
  WL r P ops Q (⟨some d,.call {callee:=.builtin .append,args:=#[x,y],argTypes:=#[tt,tt]},T,pos,af,none⟩::rest) a w:=
 st_append hf hd ht hi hz hsize H J L N hx V hown hy hr (λ_ _ h=>Qfw t O h) W (λ_ hb=>hb.elim) hB h
end
section
variable {r:Option Nat}{P:Program}{ops:Array Oper}{Q:Exit->Act->World->Prop}{S:World->Prop}{a:Act}{w:World}{n:Nat}{ds:List Deferred}{l:List (Nat×Value)}{fuel:Nat}{listed:Array Bool}
def Hel (r:Option Nat)(P:Program)(ops:Array Oper)(Q:Exit->Act->World->Prop)(S:World->Prop):Nat->Array Bool->Act->World->Prop
 |0,listed,a,w=>Region.ready .any ops listed=[]/\Q .normal a w
 |f+1,listed,a,w=>(Region.ready .any ops listed=[]->Q .normal a w)/\
  ∀i∈Region.ready .any ops listed,wpOpIn (FW r) 0 P ops Q i (λa' w'=>S w'/\Hel r P ops Q S f (listed.setIfInBounds i true) a' w') a w
def Qay (ops:Array Oper):Bool:=ops.toList.all λo=>match o.op with| .defer _=>false|_=>true
def Qbc (h:Qay ops=true){j:Nat}{o:Oper}(H:ops[j]?=some o): ∀c,o.op≠ .defer c:=λc J=>by
 have:=Wv.1 h o (Qg (i:=j) (by rw[X9];exact H));simp[J]at this
def Qfk {ρ:Operand->Value}{o:Oper}(h: ∀c,o.op≠ .defer c):o.semAt r ρ=execOp ρ o:=by
 cases r with
 |none=>exact Oper.semAt_none ρ o
 |some l=>exact Oper.semAt_some l ρ o h
def Hel.put {j:Nat}{oi oj:Oper}{v:Value}(N: ∀c,oj.op≠ .defer c)(hj:ops[j]?=some oj)(O:oi.apart ops oj=true)(V: ∀cs b,oi.op≠ .select cs b)(W: ∀cs b,oj.op≠ .select cs b)
  (Y: ∀c a w,Q (.panic c) (a.put oi.dst v) w->Q (.panic c) a w) {K:Act->World->Prop} (H:YieldsIf P ops S oi v a) (h:wpOpIn (FW r) 0 P ops Q j K (a.put oi.dst v) w):
  wpOpIn (FW r) 0 P ops Q j (λa' w'=>YieldsIf P ops S oi v a'/\K (a'.put oi.dst v) w') a w:=by
 obtain⟨h1,L,h3⟩:=Oper.apart_spec O;have kp1: ∀(a:Act),YieldsIf P ops S oi v a->∀u,YieldsIf P ops S oi v (a.put oj.dst u):=λa H u=>H.of_same (execOp_put oi V a oj.dst u h3) (wanted_put oi a oj.dst u h3);have kp2: ∀d,YieldsIf P ops S oi v {a with defers:=d::a.defers}:=λd=>H.of_same rfl rfl;unfold wpOpIn at*;rw[hj]at h ⊢;simp only[]at h ⊢;rw[wanted_put oj a oi.dst v h1]at h;by_cases hw:Region.wanted oj (yielded ops a.tmps)=true;rw[Qc hw]at h ⊢;refine⟨λ_ _=>trivial,?_⟩;have h:=h.2;rw[Qfk N,execOp_put oj W a oi.dst v h1]at h;rw[Qfk N];generalize (execOp a.eval oj).run P w=res at h ⊢;cases res with
 |ok x w'=>
  cases x with
  |value u=>exact⟨kp1 a H u,by rw[<-Act.put_comm a v u L];exact h⟩
  |skip=>exact⟨kp1 a H _,by rw[<-Act.put_comm a v undef L];exact h⟩
  |defer d=>exact⟨kp1 _ (kp2 d) _,by rw[<-Act.put_comm _ v undef L,<-Act.put_defers];exact h⟩
  |enter f args=>
   refine⟨h.1,CallsIn.mono h.2 λe w'' J=>?_⟩;cases e with
   |returned u=>exact⟨kp1 a H u,by rw[<-Act.put_comm a v u L];exact J⟩
   |panicked c=>exact Y _ _ _ J
   |outgrown=>exact J
  |row row args=>exact⟨h.1,RowsIn.mono h.2 λu w'' J=>⟨kp1 a H u,by rw[<-Act.put_comm a v u L];exact J⟩⟩
  |round l f tmps assign body=>
   refine⟨h.1,RoundIn.mono h.2 λe w'' J=>?_⟩;cases e with
   |returned u=>exact⟨kp1 a H u,by rw[<-Act.put_comm a v u L];exact J⟩
   |panicked c=>exact Y _ _ _ J
   |outgrown=>exact J
  |_=>exact h
 |halt x w'=>cases x<;>first|exact Y _ _ _ h|exact h
 rw[Qb hw]at h ⊢;exact⟨λ_ _=>trivial,kp1 a H _,by rw[<-Act.put_comm a v undef L];exact h.2⟩
def Hel.op {i:Nat}{o:Oper}{v:Value}(H: ∀c,o.op≠ .defer c)(hi:ops[i]?=some o)(L:YieldsIf P ops S o v a){K:Act->World->Prop}(N:S w)(h:K (a.put o.dst v) w):wpOpIn (FW r) 0 P ops Q i K a w:=by
 unfold wpOpIn;rw[hi];simp only[];rcases L with⟨J,O⟩|⟨J,rfl⟩
 rw[Qc J];exact⟨λ_ _=>trivial,by rw[Qfk H,O w N];exact h⟩;rw[Qb (by rw[J];decide)];exact⟨λ_ _=>trivial,h⟩
def Qbr {dst:Option Tmp}{op:Op}{T:TypeId}{pos:String}{af:Array Edge}{y:Nat->Option Bool}:Region.wanted ⟨dst,op,T,pos,af,none⟩ y=true:=by simp[Region.wanted]
def Qbv {dst:Option Tmp}{op:Op}{T:TypeId}{pos:String}{af:Array Edge}{j dj:Nat}{b:Bool}(H:Fr a n ds l)(J:(ops[j]?).bind (·.dst)=some dj)(L:lk l dj=some (.bool b)):Region.wanted ⟨dst,op,T,pos,af,some (j,b)⟩ (yielded ops a.tmps)=true:=by
 simp[Region.wanted,yielded,J,H.get _ _ L]
def Qcm {dst:Option Tmp}{op:Op}{T:TypeId}{pos:String}{af:Array Edge}{j dj:Nat}{b:Bool}{u:Value}(H:Fr a n ds l)(J:(ops[j]?).bind (·.dst)=some dj)(L:lk l dj=some u)(N:u=.bool (!b)\/u=undef):
  Region.wanted ⟨dst,op,T,pos,af,some (j,b)⟩ (yielded ops a.tmps)=false:=by
 rcases N with rfl|rfl<;>simp[Region.wanted,yielded,J,H.get _ _ L,undef]
end
def Pq (Q:Exit->Act->World->Prop):Prop:=∀c a d v w,Q (.panic c) (Act.put a d v) w->Q (.panic c) a w
def put_defers (a:Act)(d:Option Tmp)(v:Value):(a.put d v).defers=a.defers:=by cases d<;>rfl
def Pq.body (P:Program)(fn:Func)(R:Ending->World->Prop):Pq (bodyPost P fn R):=λc a d v w h=>by
 obtain⟨H,J⟩:=h;rw[put_defers]at H;exact⟨H,J⟩
section
variable {r:Option Nat}{P:Program}{Q:Exit->Act->World->Prop}{a:Act}{w:World}{n:Nat}{ds:List Deferred}{l:List (Nat×Value)}
def seq' (hp:Pq Q){x y:Code}(h: ∀Q':Exit->Act->World->Prop,Pq Q'->(∀a w,WP r P y Q a w->Q' .normal a w)->(∀e a w,e≠ .normal->Q e a w->Q' e a w)->WP r P x Q' a w):WP r P (Code.seq x y) Q a w:=by
 refine wpIn_seq (h _ (λc a d v w J=>hp c a d v w J) (λ_ _ h=>h) (λe a w H hq=>?_));cases e<;>first|exact hq|exact absurd rfl H
def block' (hp:Pq Q){id:Nat}{c:Code}(h: ∀Q':Exit->Act->World->Prop,Pq Q'->(∀a w,Q .normal a w->Q' .normal a w)->(∀a w,Q .normal a w->Q' (.exit id) a w)->(∀e a w,e≠ .normal->e≠ .exit id->Q e a w->Q' e a w)->WP r P c Q' a w):WP r P (Code.block id c) Q a w:=by
 refine wpIn_block (h (Exit.inBlock id Q) (λc a d v w H=>hp c a d v w H) (λ_ _ h=>h) (λa w hq=>?_) (λe a w L J hq=>?_));simp[Exit.inBlock,hq];cases e<;>first|exact hq|(rename_i i;have:i≠id:=λe=>J (by rw[e]);simp[Exit.inBlock,this,hq])
def loop' (hp:Pq Q){c:Code}(I:Nat->Act->World->Prop)(m:Nat)(L:I m a w)
  (h: ∀m a w,I m a w->∀Q':Exit->Act->World->Prop,Pq Q'->(∀m' a w,m'<m->I m' a w->Q' .normal a w)->(∀e a w,e≠ .normal->Q e a w->Q' e a w)->WP r P c Q' a w):WP r P (Code.loop c) Q a w:=
 loop I m L λm a w N=>by
  refine h m a w N _ (λc a d v w O=>hp c a d v w O) (λm' a w H hI'=>⟨m',H,hI'⟩) (λe a w J hq=>?_);cases e<;>first|exact hq|exact absurd rfl J
def Fr.seti (h:Fr a n ds l){d:Nat}{k:IntKind}{x y:Int}(H:lk l d=some (.int k x))(e:x=y):Fr a n ds ((d,.int k y)::l):=h.cons h (by rw[H,e])
def Fr.setv (h:Fr a n ds l){d:Nat}{x y:Value}(H:lk l d=some x)(e:x=y):Fr a n ds ((d,y)::l):=h.cons h (by rw[H,e])
def r_indexAddrA {d:Option Tmp}{T:TypeId}{pos:String}{af:Array Edge}{gd:Option (Nat×Bool)}{t e:TypeId}{x y:Operand}{g:Nat}{A:Option Addr}{ad:Addr}{len c:Nat}{i:Int}{kd:IntKind}{k:Nat}(H:P.underlying t=some (.slice e))(J: ∀w,(sizeOf e).run P w=.ok g w)(L:a.eval x=.slice A len c)(N:A=some ad)(O:a.eval y=.int kd i)(hi:i=(k:Int))(V:k<len):
  (execOp a.eval ⟨d,.indexAddr t x y,T,pos,af,gd⟩).run P w=.ok (.value (.pointer (some (ad.add (k*g))))) w:=by
 subst N;subst hi;have:=r_indexAddr (P:=P) (a:=a) (w:=w) (d:=d) (T:=T) (pos:=pos) (af:=af) (gd:=gd) H J L O (by omega) (by omega);simpa using this
end
def Qal: ∀t:Ty,0<t.size
 | .pair a _=>by have:=Qal a;simp only[Ty.size];omega
 | .int _=>by simp[Ty.size]
 | .byte=>by simp[Ty.size]
 | .bool=>by simp[Ty.size]
 | .str=>by simp[Ty.size]
 | .slice _=>by simp[Ty.size]
def Ty.ok:(t:Ty)->t.den->Prop
 | .int k,x=>k.has x
 | .byte,_=>True
 | .bool,_=>True
 | .str,x=>x.size<=maxLen
 | .slice e,xs=>xs.length<=maxLen/\∀x∈xs,e.ok x
 | .pair a b,x=>a.ok x.1/\b.ok x.2
def rep_ok {w:World}{F:Nat->Prop}: ∀(t:Ty) {cs:List Value} {x:t.den},t.rep w F cs x->t.ok x
 | .int _,_,_,h=>h.2
 | .byte,_,_,_=>trivial
 | .bool,_,_,_=>trivial
 | .str,_,_,h=>h.2
 | .slice e,_,xs,h=>by
  obtain⟨A,c,cells,N,O,V,W,Y,h6⟩:=h;refine⟨by omega,λx H=>?_⟩;obtain⟨i,hi,rfl⟩:=X6 H;exact rep_ok e (h6 i _ (Qf hi))
 | .pair a b,_,_,h=>by
  obtain⟨ca,cb,h,J,L⟩:=h;exact⟨rep_ok a J,rep_ok b L⟩
def has_i64 {n:Int}(h:IntKind.i64.has n): -9223372036854775808<=n/\n<=9223372036854775807:=by
 simpa[IntKind.has,IntKind.min,IntKind.max,IntKind.bits,IntKind.signed] using h
def i64_has {n:Int}(h: -9223372036854775808<=n/\n<=9223372036854775807):IntKind.i64.has n:=by
 simpa[IntKind.has,IntKind.min,IntKind.max,IntKind.bits,IntKind.signed] using h
def Own.rep' {t:Ty}{e:TypeId}{B:Nat}{w:World}{F F':Nat->Prop}{A:Option Addr}{c:Nat}{xs:List t.den}(h:Own t e B w F A c xs)(H: ∀b,F b->F' b)(J: ∀b,B<=b->b<w.heap.size->F' b):(Ty.slice t).rep w F' [.slice A xs.length c] xs:=
 h.rep H λk hk=>J k (h.lt k hk).1 (h.lt k hk).2
def Qaf {w:World}{F:Nat->Prop}: ∀(t:Ty) {cs:List Value} {x:t.den},t.rep w F cs x->t.rep w (λb=>F b/\b<w.heap.size) cs x
 | .int _,_,_,h=>h
 | .byte,_,_,h=>h
 | .bool,_,_,h=>h
 | .str,_,_,h=>h
 | .slice e,_,xs,h=>by
  obtain⟨A,c,cells,N,O,V,H,J,h6⟩:=h;by_cases W:cells.length=0;have h7: ∀i x,xs[i]?=some x->e.size=0:=λi x hi=>by
   have hl:=(Qd.1 hi).1;rw[W]at H;rcases Nat.mul_eq_zero.1 H.symm with h|h
   omega;exact h
  refine⟨A,c,cells,N,O,V,H,?_,λi x hi=>Qaf e (h6 i x hi)⟩;by_cases hx:xs.length=0;exact .inl hx;have hp:=Qal e;rw[W]at H;rcases Nat.mul_eq_zero.1 H.symm with h|h<;>omega
  refine⟨A,c,cells,N,O,V,H,?_,λi x hi=>Qaf e (h6 i x hi)⟩;rcases J with J|⟨b,o,hA,L,Y⟩
  exact .inl J;exact .inr ⟨b,o,hA,⟨L,World.block_lt_of_cell? w _ (Y 0 _ (Qf (by omega)))⟩,Y⟩
 | .pair a b,_,_,h=>by
  obtain⟨ca,cb,h,ha,L⟩:=h;exact⟨ca,cb,h,Qaf a ha,Qaf b L⟩
def iv (lo hi:Nat):Nat->Prop:=λb=>lo<=b/\b<hi
@[reducible] def no:Nat->Prop:=λ_=>False
def Own.riv {t:Ty}{e:TypeId}{B:Nat}{w:World}{A:Option Addr}{c:Nat}{xs:List t.den}(h:Own t e B w no A c xs):(Ty.slice t).rep w (iv B w.heap.size) [.slice A xs.length c] xs:=
 h.rep' (λ_ H=>H.elim) (λ_ J L=>⟨J,L⟩)
def Cells (w:World)(E:Addr)(es:List Value):Prop:=∀j u,es[j]?=some u->w.cell? (E.add j)=some u
def Cells.ch {w w':World}{E:Addr}{es:List Value}{S:List Nat}(h:Cells w E es)(L:Ch S w w')(N:E.block<w.heap.size->E.block∉S):Cells w' E es:=λj u O=>by
 have J:=h j u O;have V:(E.add j).block=E.block:=by unfold Addr.add;split<;>rfl
 have H:=World.block_lt_of_cell? w _ J;rw[L.cell H (by rw[V]at H ⊢;exact N H)];exact J
def rep_el {w:World}{F:Nat->Prop}{e:Ty}{A:Option Addr}{n c:Nat}{xs:List e.den}(h:(Ty.slice e).rep w F [.slice A n c] xs){k:Nat}(hk:k<xs.length):
  ∃ad es x,A=some ad/\F ad.block/\ad.block<w.heap.size/\xs[k]?=some x/\Cells w (ad.add (k*e.size)) es/\e.rep w F es x:=by
 obtain⟨A',c',cells,H,h2,h3,O,N,h6⟩:=h;injection H with H
 injection H with V hn hc
 subst V;rcases N with N|⟨b,o,rfl,W,hcell⟩
 omega;have Y:=Qal e;have J:k*e.size<cells.length:=by
  rw[O];exact Nat.mul_lt_mul_of_pos_right hk Y
 refine⟨_,_,_,rfl,W,World.block_lt_of_cell? w ⟨b,o+k*e.size,none⟩ (hcell (k*e.size) _ (Qf J)),Qf hk,λj u L=>?_,h6 k _ (Qf hk)⟩;rw[Addr.add_lit,Addr.add_lit];have hj:j<e.size:=by
  have:=(Qd.1 L).1;simp only[Qo]at this;omega
 rw[Q2 hj,Wl]at L;rw[Xx];exact hcell _ _ L
section
variable {P:Program}{a:Act}{w:World}{d:Option Tmp}{T:TypeId}{pos:String}{af:Array Edge}{gd:Option (Nat×Bool)}
def r_indexAddrE {t e:TypeId}{x y:Operand}{g:Nat}{A:Option Addr}{ad:Addr}{len c:Nat}{i:Int}{kd:IntKind}{k:Nat}(H:P.underlying t=some (.slice e))(J: ∀w,(sizeOf e).run P w=.ok g w)(L:a.eval x=.slice A len c)(N:A=some ad)(O:a.eval y=.int kd i)(hi:i=(k:Int))(V:k<len):
  (execOp a.eval ⟨d,.indexAddr t x y,T,pos,af,gd⟩).run P w=.ok (.value (.pointer (some ((ad.add (k*g)).add 0)))) w:=by
 rw[r_indexAddrA H J L N O hi V,Addr.add_zero']
def add_add (E:Addr)(i j:Nat):(E.add i).add j=E.add (i+j):=by
 unfold Addr.add;by_cases hi:i=0<;>by_cases H:j=0<;>simp[hi,H,Xx]
end
def rep_eq {w:World}{F:Nat->Prop}{e:Ty}{A:Option Addr}{n c:Nat}{xs ys:List e.den}(h:(Ty.slice e).rep w F [.slice A n c] xs)(H:xs=ys):(Ty.slice e).rep w F [.slice A ys.length c] ys:=by
 subst H;rw[(rep_slice_len h).1];exact h
def rep_cut {w:World}{F:Nat->Prop}{e:Ty}{A:Option Addr}{n c:Nat}{xs:List e.den}(h:(Ty.slice e).rep w F [.slice A n c] xs)(u v m:Nat)(W:u<=v)(H:v<=xs.length)(Y:v<=m)(h4:m<=c):
  (Ty.slice e).rep w F [.slice (cutA A m u e.size) ((xs.take v).drop u).length (m-u)] ((xs.take v).drop u):=by
 have hl:=rep_slice_len h;have J:=Qbi h H;have L:(xs.take v).length=v:=by rw[Qo];omega
 have N:=rep_drop J (k:=u) (c':=m-u) (A':=cutA A m u e.size) (by omega) (by omega) (by omega) (λO ad V=>by
  subst V;unfold cutA;rw[Qb (by omega)];rfl)
 rw[Qu,L];exact N
def rep_cut0 {w:World}{F:Nat->Prop}{e:Ty}{A:Option Addr}{n c:Nat}{xs:List e.den}(h:(Ty.slice e).rep w F [.slice A n c] xs)(u:Nat)(H:u<=xs.length):
  (Ty.slice e).rep w F [.slice (cutA A c u e.size) (xs.drop u).length (c-u)] (xs.drop u):=by
 have J:=rep_slice_len h;have:=rep_cut h u xs.length c H (Q4 _) (by omega) (Q4 _);rwa[Xv]at this
def u8_of {m:Int}(h:0<=m/\m<=255):m=((UInt8.ofNat m.toNat).toNat:Int):=by
 have:(UInt8.ofNat m.toNat).toNat=m.toNat%256:=by simp
 omega
def u64_in (n:Int)(h:0<=n/\n<=18446744073709551615):IntKind.u64.wrap n=n:=by simp[IntKind.wrap,IntKind.bits,IntKind.signed];omega
def wrap_u8 (m:Nat):IntKind.u8.wrap (m:Int)=((UInt8.ofNat m).toNat:Int):=by
 have:(UInt8.ofNat m).toNat=m%256:=by simp
 rw[this];simp[IntKind.wrap,IntKind.bits,IntKind.signed]
section
variable {P:Program}{a:Act}{w:World}{d:Option Tmp}{T:TypeId}{pos:String}{af:Array Edge}{gd:Option (Nat×Bool)}
def r_convw {src dst:TypeId}{x:Operand}{k k':IntKind}{n m:Int}{de:TypeDesc}(H:P.underlying src=some de)(J:P.underlying dst=some (.int k'))(L:a.eval x=.int k n)(N:k'.wrap n=m):(execOp a.eval ⟨d,.convert src dst x,T,pos,af,gd⟩).run P w=.ok (.value (.int k' m)) w:=by
 rw[r_conv H J L,N]
def r_quow {t ty:TypeId}{x y:Operand}{k:IntKind}{m n u:Int}(H:a.eval x=.int k m)(J:a.eval y=.int k n)(L:n≠0)(N:k.wrap (m.tdiv n)=u):(execOp a.eval ⟨d,.binOp .quo t x y ty,T,pos,af,gd⟩).run P w=.ok (.value (.int k u)) w:=by rw[r_quo H J L,N]
end
def rep_le {w:World}{F:Nat->Prop}{e:Ty}{A:Option Addr}{n c:Nat}{xs:List e.den}(h:(Ty.slice e).rep w F [.slice A n c] xs):xs.length<=9223372036854775807:=by
 have H:=rep_slice_len h;simp only[maxLen]at H;omega
def slice_n {A:Option Addr}{n m c:Nat}(h:n=m):Value.slice A n c=Value.slice A m c:=by rw[h]
def nt (M:List Nat):Nat->Prop:=λb=>b∉M
def ol (M:List Nat)(n:Nat):Nat->Prop:=λb=>b∉M/\b<n
def rep_to {t:Ty}{w w':World}{F F':Nat->Prop}{S:List Nat}{cs:List Value}{x:t.den}(h:t.rep w F cs x)(O:Ch S w w')(J: ∀b,F b->b<w.heap.size->b∉S/\F' b:=by intro b H V;(try simp only[Go.Z.nt,Go.Z.iv,Go.Z.no,Go.Z.ol,Qn,Y4,or_false,not_or,not_false_eq_true]at H);(try simp only[Go.Z.nt,Go.Z.iv,Go.Z.no,Go.Z.ol,Qn,Qx,Y4,or_false,not_or,not_false_eq_true,true_and,and_true])<;>omega):t.rep w' F' cs x:=by
 have H:t.rep w (λb=>F b/\b<w.heap.size) cs x:=Qaf t h;exact rep_keep (λp hp L=>O.cell L (J _ hp.1 L).1) (λb N=>(J b N.1 N.2).2) t H
def rep_as {t:Ty}{w:World}{F F':Nat->Prop}{cs:List Value}{x:t.den}(h:t.rep w F cs x)(H: ∀b,F b->b<w.heap.size->F' b):t.rep w F' cs x:=
 rep_to h (Ch.refl w) λb J L=>⟨by simp,H b J L⟩
def rep_ol {t:Ty}{w:World}{M:List Nat}{cs:List Value}{x:t.den}(h:t.rep w (nt M) cs x):t.rep w (ol M w.heap.size) cs x:=rep_as h λ_ H J=>⟨H,J⟩
def Own.to {t:Ty}{e:TypeId}{B:Nat}{w w':World}{F F':Nat->Prop}{A:Option Addr}{c:Nat}{xs:List t.den}{S:List Nat}(h:Own t e B w F A c xs)(L:Ch S w w')(W: ∀k,k∈obl A->B<=k->k<w.heap.size->k∉S)(Y: ∀b,F b->b<w.heap.size->b∉S/\F' b):Own t e B w' F' A c xs:=by
 have H:=h.lt;obtain⟨cells,N,h1,h2⟩:=h;refine⟨cells,⟨N.1,?_⟩,h1,λi x hi=>rep_to (h2 i x hi) L Y⟩;rcases N.2 with h3|⟨g,cap,cur,O,hb,V,rest⟩
 exact .inl h3;refine .inr ⟨g,cap,cur,O,hb,?_,rest⟩;injection O with hA' _ _
 have J:g∈obl A:=by rw[hA'];simp[obl]
 rw[L.block g (Qv.1 V).1 (W g J (H g J).1 (H g J).2)];exact V
def bv (b:UInt8):Value:=.int .u8 (b.toNat:Int)
def FB (w:World)(g:Nat)(e:TypeId)(u:Nat)(done:List UInt8):Prop:=
 ∃rest:List Value,Blk w g e (done.map bv++rest)/\u<=done.length+rest.length/\done.length+rest.length<=maxLen
def FB.rep {w:World}{g:Nat}{e:TypeId}{u:Nat}{done:List UInt8}{F:Nat->Prop}{c:Nat}(h:FB w g e u done)(V:done.length=u)(L:F g)(W:u<=c)(N:c<=maxLen):(Ty.slice .byte).rep w F [.slice (some ⟨g,0,none⟩) done.length c] done:=by
 obtain⟨r,O,Y,h2⟩:=h;refine⟨_,_,done.map bv,rfl,by omega,N,by simp[Ty.size],.inr ⟨g,0,rfl,L,λj v J=>?_⟩,λi x hi=>?_⟩;rw[O.cell,W9,Q9 (by have:=(Qd.1 J).1;exact this)];exact J
 ·show _=_
  have H:=(Qd.1 hi).1;simp only[Ty.size,Yd];have:(done.map bv).drop i=bv x::(done.map bv).drop (i+1):=by
   rw[Xr (by simpa using H)];congr 1;rw[List.getElem_map];rw[(Qd.1 hi).2]
  rw[this];rfl
def Qib {w:World}{F:Nat->Prop}{A:Option Addr}{n c:Nat}{ys:List UInt8}(h:(Ty.slice .byte).rep w F [.slice A n c] ys):
  n=ys.length/\(ys.length=0\/∃ad,A=some ad/\∀j v,(ys.map bv)[j]?=some v->w.cell? (ad.add j)=some v):=by
 obtain⟨V,_,_⟩:=rep_slice_len h;refine⟨V.symm,?_⟩;by_cases W:ys.length=0;exact .inl W;right;obtain⟨ad0,es0,H,Y,hr0⟩:=rep_at h (k:=0) (by omega);refine⟨ad0,H,λj v N=>?_⟩;have J:j<ys.length:=by have:=(Qd.1 N).1;simpa using this
 obtain⟨ad,es,L,hc,hr⟩:=rep_at h J;rw[H]at L;injection L with L
 subst L;have O:es=[.int .u8 ((ys[j]).toNat:Int)]:=hr;have:=hc 0 _ (by rw[O];rfl);rw[Addr.add_zero',show Ty.byte.size=1 from rfl,Yd]at this;rw[this];rw[Qy,Qf J]at N;exact N
section
variable {r:Option Nat}{P:Program}{ops:Array Oper}{Q:Exit->Act->World->Prop}{a:Act}{w:World}{rest:List Oper}{n:Nat}{ds:List Deferred}{l:List (Nat×Value)}{d:Nat}{T:TypeId}{pos:String}{af:Array Edge}
def st_nozero {f:FuncId}{x:Operand}{ts ps:Array TypeId}{t e:TypeId}{u:Nat}{m:Int}(H: ∀args w,(callFunc f args).run P w=((Extern.BytealgMakeNoZero.makeNoZero ps #[t] args).run P w).andThen λv w'=>.ok (.value v) w')(J:Fr a n ds l)(N:Nat.ble (d+1) n=true)
  (O:P.underlying t=some (.slice e)) (V:ev l x=some (.int .i64 m)) (W:m=(u:Int)) (hu:u<=140737488355328)
  (h: ∀g w' a' (c:Nat),g=w.heap.size->w'.heap.size=g+1->FB w' g e u []->Ch [] w w'->u<=c->c<=maxLen->Fr a' n ds ((d,.slice (some ⟨g,0,none⟩) u c)::l)->WL r P ops Q rest a' w'):
  WL r P ops Q (⟨some d,.call {callee:=.value (.func f),args:=#[x],argTypes:=ts},T,pos,af,none⟩::rest) a w:=by
 subst W;obtain⟨cs,hrun,L,Y⟩:=Lib.run_makeNoZero (P:=P) w ps t e O u (by omega);have hmax:=Y (by simp only[maxLen];omega);refine valw (w':=w.drew.drew.alloc (.cells cs e)) (v:=.slice (some ⟨w.heap.size,0,none⟩) u cs.size) J N ?_ λa' hf'=>h w.heap.size (w.drew.drew.alloc (.cells cs e)) a' cs.size rfl (by simp) ⟨cs.toList,?_,by simpa using L,by simpa using hmax⟩ (((Ch.drew w).step (Ch.drew _)).step (Ch.alloc _ _)) L hmax hf';simp only[execOp,resolve,Xg,Q7,Xh,J.eval V];simp[Act.eval,Deferred.ofValue,invoke,H,hrun];have:=Blk.new w.drew.drew e cs.toList;simpa using this
def st_copy {x y:Operand}{dT sT e:TypeId}{g u:Nat}{done:List UInt8}{A' A2:Option Addr}{L c' n2 c2:Nat}{F2:Nat->Prop}{ys:List UInt8}(H:Fr a n ds l)(hd:Nat.ble (d+1) n=true)
  (ht:P.underlying dT=some (.slice e)) (hi:(P.info? e).map (·.size)=some 1) (hx:ev l x=some (.slice A' L c')) (hA:ys.length=0\/A'=some ⟨g,done.length,none⟩) (hy:ev l y=some (.slice A2 n2 c2)) (hr:(Ty.slice .byte).rep w F2 [.slice A2 n2 c2] ys)
  (J:FB w g e u done) (hL:L+done.length=u) (N:ys.length<=L)
  (h: ∀w' a',FB w' g e u (done++ys)->Ch [g] w w'->w'.heap.size=w.heap.size->Fr a' n ds ((d,.int .i64 (ys.length:Int))::l)->WL r P ops Q rest a' w'):
  WL r P ops Q (⟨some d,.call {callee:=.builtin .copy,args:=#[x,y],argTypes:=#[dT,sT]},T,pos,af,none⟩::rest) a w:=by
 obtain⟨O,hsrc⟩:=Qib hr;subst O;obtain⟨r,V,h1,h2⟩:=J;have hmin:Nat.min ys.length L=ys.length:=X4 N;by_cases W:ys.length=0;have Y:ys=[]:=Qz W;subst Y;have hrun:=run_copy_none (P:=P) w dT sT T e A' A2 L c' 0 c2 ht hi (by simp);refine valw (w':=w) (v:=.int .i64 0) H hd ?_ λa' hf'=>h w a' (by rw[Wj];exact⟨r,V,h1,h2⟩) (Ch.refl' _ _) rfl hf';simp only[execOp,resolve,invoke,builtin,Sem.run_bind,Sem.run_pure,Result.andThen_ok,Xg,Q7,Xh,H.eval hx,H.eval hy,Qm,hrun];rfl
 ·have hA':=hA.resolve_left W
  subst hA';obtain⟨ad,rfl,hcell⟩:=hsrc.resolve_left W;have hrun:=run_copy_row (P:=P) w dT sT T e g done.length L c' ad ys.length c2 _ e (ys.map bv) ht hi V (by rw[Wd];exact hmin.symm) hcell (by simp;omega) (by intro v hv;obtain⟨b,_,rfl⟩:=Xf.1 hv;rfl);refine valw (w':=_) (v:=.int .i64 (ys.length:Int)) H hd (by
   simp only[execOp,resolve,invoke,builtin,Sem.run_bind,Sem.run_pure,Result.andThen_ok,Xg,Q7,Xh,H.eval hx,H.eval hy,hrun];rw[Wd];rfl) λa' hf'=>h _ a' ⟨r.drop ys.length,?_,by simp;omega,by simp;omega⟩ (Ch.setRow w g _) (by simp[World.setRow]) hf'
  have e1:(done.map bv++r).take done.length=done.map bv:=by
   rw[List.take_append_of_le_length (by simp),Wf (by simp)]
  have e2:(done.map bv++r).drop (done.length+ys.length)=r.drop ys.length:=by
   rw[List.drop_append,Wi (by simp),Q5,Wd];congr 1;omega
  simp only[e1,e2,X5,Qs];exact V.setRow
end
end Go.Z
end
section
namespace Go.Z
open Go.RowKit Go.Lib
section
variable {P:Program}{a:Act}{w:World}{d:Option Tmp}{T:TypeId}{pos:String}{af:Array Edge}{gd:Option (Nat×Bool)}
end
def Own.str {e:TypeId}{B:Nat}{w w':World}{xs:List UInt8}{s:ByteArray}{cells:List Value}{v':Value}
  (hrow:w'.ownsRow B e 1 v' (xs.length+s.size) (cells++strCells s)) (O:cells.length=xs.length*1) (V: ∀u∈cells,u.oneCell'=true)
  (W: ∀(i:Nat) (x:UInt8),xs[i]?=some x->Ty.byte.rep w no ((cells.drop (i*1)).take 1) x): ∃A' c',v'=.slice A' (xs++s.data.toList).length c'/\Own .byte e B w' no A' c' (xs++s.data.toList):=by
 have J:(xs++s.data.toList).length=xs.length+s.size:=by rw[Qe];rfl
 have hform: ∃A' c',v'=.slice A' (xs.length+s.size) c':=by
  rcases hrow.2 with⟨L,J⟩|⟨g,cap,cur,L,_⟩
  exact⟨none,0,by rw[L,J]⟩;exact⟨_,_,L⟩
 obtain⟨A',c',rfl⟩:=hform;refine⟨A',c',by rw[J],cells++strCells s,by rw[J];exact hrow,λu H=>?_,?_⟩;rcases Qx.1 H with H|H
 exact V u H;simp only[strCells,Xf]at H;obtain⟨b,_,rfl⟩:=H;rfl;refine Qbj (t:=.byte) (xs:=xs) (ys:=s.data.toList) O (λi x hi=>(show _=_ from W i x hi)) λi x hi=>?_;have:(strCells s)[i]?=some (.int .u8 (x.toNat:Int)):=by
  have hi':s.data[i]?=some x:=by rw[<-X9];exact hi
  simp[strCells,hi']
 show _=_;obtain⟨N,Y⟩:=Qd.1 this;rw[show Ty.size .byte=1 from rfl,Yd,Xr N,Y];rfl
section
variable {r:Option Nat}{P:Program}{ops:Array Oper}{Q:Exit->Act->World->Prop}{a:Act}{w:World}{rest:List Oper}{n:Nat}{ds:List Deferred}{l:List (Nat×Value)}{d:Nat}{T:TypeId}{pos:String}{af:Array Edge}
end
end Go.Z
end
section
namespace Go.Z
open Go.RowKit
section
variable {r:Option Nat}{P:Program}{Q:Exit->Act->World->Prop}{a:Act}{w:World}{n:Nat}{ds:List Deferred}{l:List (Nat×Value)}
def enterDf {f:FuncId}{fn:Func}{c:Code}{vs:List Value}{m:Nat}{R:Ending->World->Prop}(H:P.funcs[f]?=some fn)(J:fn.body=some c)(L:fn.ntmps=m)(N:vs.length<=m)
  (h: ∀a,Fr a m [] (argl vs 0)->WP none P c (bodyPostD P fn R) a w):Calls P f vs.toArray w R:=by
 refine calls_of_wp_defers H J (wpIn_wide.1 (h _ ?_));subst L;exact Fr.entry vs _ N
def Rec (u:FrameMode)(v:Value)(u':FrameMode):Prop:=
 (u=.returning/\v=.nilIface/\u'=.returning)\/(∃older,u=.panicking ({v,recovered:=false,goexit:=false}::older)/\u'=.panicking ({v,recovered:=true}::older))
def Qeq {fn:Func}{R:Ending->World->Prop}{u':FrameMode}{c₀:Frame}{cs:List Frame}(e:Exit)(a:Act)(w:World)(h:bodyPost P fn R e a w):
  bodyPostS P fn c₀ cs (λe J w'=>J=u'/\R e w') e a ({c₀ with mode:=u'}::cs) w:=by
 cases e with
 |normal=>exact⟨h.1,u',rfl,h.2.elim λv H=>⟨v,H.1,rfl,H.2⟩⟩
 |ret=>exact⟨h.1,u',rfl,h.2.elim λv H=>⟨v,H.1,rfl,H.2⟩⟩
 |panic c=>exact⟨h.1,u',rfl,rfl,h.2⟩
 |exit _=>exact h.elim
 |goto _=>exact h.elim
 |outgrown=>exact⟨u',rfl,h⟩
def enterRec {f:FuncId}{fn:Func}{c:Code}{vs:List Value}{m id d:Nat}{T:TypeId}{pos:String}{af:Array Edge}{R:Ending->World->Prop}{u u':FrameMode}{v:Value}(J:Rec u v u')(L:P.funcs[f]?=some fn)
  (N:fn.body=some (Code.seq (.region id #[⟨some d,.call {callee:=.builtin .recover,args:=#[],argTypes:=#[]},T,pos,af,none⟩] false) c)) (O:fn.ntmps=m) (V:vs.length<=m) (W:Nat.ble (d+1) m=true)
  (h: ∀a,Fr a m [] ((d,v)::argl vs 0)->WP none P c (bodyPost P fn R) a w):CallsD P f vs.toArray u w λe Y w'=>Y=u'/\R e w':=by
 refine callsD_of_wpS L N λc₀ cs H=>wpS_seq (wpS_region ?_);have hx: ∀a':Act,(execOp a'.eval ⟨some d,.call {callee:=.builtin .recover,args:=#[],argTypes:=#[]},T,pos,af,none⟩).run P w=.ok .recover w:=λa'=>by
  simp[execOp,resolve,invoke,builtin]
 have hl:List.range (Array.size #[(⟨some d,.call {callee:=.builtin .recover,args:=#[],argTypes:=#[]},T,pos,af,none⟩:Oper)])=[0]:=rfl;have h0:Fr (a:={tmps:=vs.toArray++Array.replicate (fn.ntmps-vs.toArray.size) undef,defers:=[]}) m [] (argl vs 0):=by subst O;exact Fr.entry vs _ V
 have hq:=wpIn_wide.1 (h _ (h0.put (Qq W) v));rw[hl];simp only[wpOpsS,Ws,Xa,Region.wanted,W8,hx];rcases J with⟨rfl,rfl,rfl⟩|⟨older,rfl,rfl⟩
 have hrec:recoverD (c₀::cs)=none:=by simp[recoverD,H]
 simp only[hrec,Exit.thenS];have hc:c₀={c₀ with mode:=.returning}:=by rw[<-H]
 refine wpS_of_wp (Code.wp_mono (λe a w hq=>?_) hq);rw[hc];exact Qeq e a w hq;have hrec:recoverD (c₀::cs)=some (v,{c₀ with mode:=.panicking ({v,recovered:=true}::older)}::cs):=by simp[recoverD,H]
 simp only[hrec,Exit.thenS];exact wpS_of_wp (Code.wp_mono (λe a w hq=>Qeq e a w hq) hq)
def retp {f:FuncId}{fn:Func}{R:Ending->World->Prop}{RD:Ending->World->Prop}{vs:List Value}{H:Value}(N:Fr a n [{target:=.fn (.func f) #[],args:=vs.toArray}] l)
  (J: ∀args w,(callFunc f args).run P w=.ok (.enter f args) w)
  (O:CallsD P f vs.toArray (.panicking [{v:=H,recovered:=false}]) w λe L w'=>L=.panicking [{v:=H,recovered:=true}]/\RD e w')
  (h: ∀e w',RD e w'->∃v,e=.returned v/\∃r,(results fn a.tmps).run P w'=.ok r w'/\R (.returned r) w'):bodyPostD P fn R (.panic [{v:=H,recovered:=false}]) a w:=by
 show Leaves P fn a.tmps R a.defers (.panicking [{v:=H,recovered:=false}]) w;rw[N.defs];refine leaves_cons (by simp) (by simp[invoke,J]) (O.mono λe L w' ⟨V,W⟩=>?_);obtain⟨v,rfl,r,Y,h2⟩:=h e w' W;subst V;exact⟨r,Y,h2⟩
section
variable {d:Option Tmp}{T:TypeId}{pos:String}{af:Array Edge}{gd:Option (Nat×Bool)}{t ty e0:TypeId}{x:Operand}{v:Value}
def r_eqif_nil {ms:Array (String×TypeId)}(H:P.underlying t=some (.interface ms))(J:a.eval x=.nilIface):(execOp a.eval ⟨d,.binOp .eql t x (.const .nilIface) ty,T,pos,af,gd⟩).run P w=.ok (.value (.bool true)) w:=by
 have L:a.eval (.const .nilIface)=.nilIface:=rfl;have h: ∀m,(Op.equalIn (m+1) t .nilIface .nilIface).run P w=.ok true w:=λm=>by simp[Op.equalIn,run_underlying H]
 have N:(Op.equal t .nilIface .nilIface).run P w=.ok true w:=h 9999;simp[execOp,J,L,eqGuard,binOp,N]
def r_eqif_some {ms:Array (String×TypeId)}(H:P.underlying t=some (.interface ms))(J:a.eval x=.iface e0 v):(execOp a.eval ⟨d,.binOp .eql t x (.const .nilIface) ty,T,pos,af,gd⟩).run P w=.ok (.value (.bool false)) w:=by
 have L:a.eval (.const .nilIface)=.nilIface:=rfl;have h: ∀m,(Op.equalIn (m+1) t (.iface e0 v) .nilIface).run P w=.ok false w:=λm=>by simp[Op.equalIn,run_underlying H]
 have N:(Op.equal t (.iface e0 v) .nilIface).run P w=.ok false w:=h 9999;simp[execOp,J,L,eqGuard,binOp,N]
end
end
def EqV (P:Program)(d:Nat)(t:TypeId)(x y:Value)(b:Bool):Prop:=∀w,(Op.equalIn d t x y).run P w=.ok b w
def EqF (P:Program)(d:Nat)(xs ys:Array Value)(fs:List Field)(b:Bool):Prop:=∀w,(Op.eqFields d xs ys fs).run P w=.ok b w
section
variable {P:Program}{d:Nat}{t e:TypeId}
def eq_int {k k':IntKind}{a b:Int}(h:P.underlying t=some (.int k')):EqV P (d+1) t (.int k a) (.int k b) (decide (a=b)):=λw=>by
 rw[run_equalIn_int w d t k k' a b h];rfl
def eq_str {a b:ByteArray}(h:P.underlying t=some .string):EqV P (d+1) t (.string a) (.string b) (decide (a=b)):=λw=>by
 rw[run_equalIn_string w d t a b h,str_eq]
def part_one {xs:Array Value}{o:Nat}{v:Value}(w:World)(H: ∀w,(isAgg t).run P w=.ok false w)(h:xs[o]?=some v):(part t xs o).run P w=.ok v w:=by simp[part,H,h]
def eqf_nil {xs ys:Array Value}:EqF P d xs ys [] true:=λw=>by simp[Op.eqFields]
def eqf_cons {xs ys:Array Value}{f:Field}{fs:List Field}{a b:Value}{r r':Bool}(H:(f.name != "_")=true)(J: ∀w,(part f.type xs f.offset).run P w=.ok a w)(L: ∀w,(part f.type ys f.offset).run P w=.ok b w)
  (N:EqV P d f.type a b r) (h:EqF P d xs ys fs r'):EqF P d xs ys (f::fs) (r&&r'):=λw=>by
 have hn':f.name≠ "_" :=by simpa using H
 have O:=N w;have V:=h w;cases r<;>simp[Op.eqFields,hn',J,L,O,V]
def eq_struct {xs ys:Array Value}{fs:List Field}{r:Bool}(H:P.underlying t=some (.struct fs.toArray))(L:P.stoodInHeld t=false)(h:EqF P d xs ys fs r):EqV P (d+1) t (.agg xs) (.agg ys) r:=λw=>by
 have J:P.fieldsOf t=fs.toArray:=by simp[Program.fieldsOf,H]
 rw[run_equalIn_struct w d t xs ys (by rw[J];exact H) L,J];exact h w
def decide_pair {α β:Type}[DecidableEq α][DecidableEq β](x y:α×β):decide (x=y)=(decide (x.1=y.1)&&decide (x.2=y.2)):=by
 rw[<-Bool.decide_and];exact decide_eq_decide.2 Prod.ext_iff
section
variable {a:Act}{w:World}{dd:Option Tmp}{T ty:TypeId}{pos:String}{af:Array Edge}{gd:Option (Nat×Bool)}{x y:Operand}
def r_eqagg {xs ys:Array Value}{b:Bool}(h:EqV P 10000 t (.agg xs) (.agg ys) b)(J:P.eqGuardType P.depth t=false)(L:a.eval x=.agg xs)(N:a.eval y=.agg ys):
  (execOp a.eval ⟨dd,.binOp .eql t x y ty,T,pos,af,gd⟩).run P w=.ok (.value (.bool b)) w:=by
 have O:=h w;have V:=run_eqGuard_agg w .eql t x y xs ys J;have H:=run_eql_struct (P:=P) w t xs ys;rw[O]at H;simp[execOp,L,N,V,H]
def r_neagg {xs ys:Array Value}{p:Prop}[Decidable p](h:EqV P 10000 t (.agg xs) (.agg ys) (decide p))(J:P.eqGuardType P.depth t=false)(L:a.eval x=.agg xs)(N:a.eval y=.agg ys):
  (execOp a.eval ⟨dd,.binOp .neq t x y ty,T,pos,af,gd⟩).run P w=.ok (.value (.bool (decide (¬p)))) w:=by
 have O:=h w;have V:=run_eqGuard_agg w .neq t x y xs ys J;have H:=run_neq_struct (P:=P) w t xs ys;rw[O]at H;simp[execOp,L,N,V,H]
def r_nes' {s u:ByteArray}(H:a.eval x=.string s)(J:a.eval y=.string u):(execOp a.eval ⟨dd,.binOp .neq t x y ty,T,pos,af,gd⟩).run P w=.ok (.value (.bool (decide (s≠u)))) w:=by
 rw[r_nes H J];simp
def r_neb' {b c:Bool}(H:P.underlying t=some .bool)(J:a.eval x=.bool b)(L:a.eval y=.bool c):(execOp a.eval ⟨dd,.binOp .neq t x y ty,T,pos,af,gd⟩).run P w=.ok (.value (.bool (decide (b≠c)))) w:=by
 rw[r_neb H J L];cases b<;>cases c<;>rfl
end
end
section
variable {P:Program}{a:Act}{w:World}{d:Option Tmp}{T:TypeId}{pos:String}{af:Array Edge}{gd:Option (Nat×Bool)}{t ty:TypeId}{x y:Operand}
def r_shl8 {k':IntKind}{m n u:Int}(H:a.eval x=.int .u64 m)(J:a.eval y=.int k' n)(L:n=8)(N:IntKind.u64.wrap (m*256)=u):
  (execOp a.eval ⟨d,.binOp .shl t x y ty,T,pos,af,gd⟩).run P w=.ok (.value (.int .u64 u)) w:=by
 subst L;subst N;have O:eqGuard .shl t x y (.int .u64 m) (.int k' 8)=pure ():=rfl;have V:(Op.shift .shl .u64 m k' 8).run P w=.ok (.int .u64 (IntKind.u64.wrap (m*256))) w:=by simp[Op.shift,IntKind.bits]
 have W:binOp .shl t (.int .u64 m) (.int k' 8)=Op.shift .shl .u64 m k' 8:=rfl;simp[execOp,H,J,O,W,V]
def or_low (u b:Nat)(H:b<256)(J:u*256+255<18446744073709551616):IntKind.u64.wrap (((BitVec.ofInt 64 ((u:Int)*256))|||(BitVec.ofInt 64 (b:Int))).toNat:Int)=((u*256+b:Nat):Int):=by
 have L:BitVec.ofInt 64 ((u:Int)*256)=BitVec.ofNat 64 (u*256):=by rw[show(u:Int)*256=((u*256:Nat):Int) by omega,BitVec.ofInt_natCast]
 have N:BitVec.ofInt 64 (b:Int)=BitVec.ofNat 64 b:=BitVec.ofInt_natCast ..;have hp:(2:Nat)^64=18446744073709551616:=by decide
 have O:u*256%18446744073709551616=u*256:=Nat.mod_eq_of_lt (Nat.lt_of_le_of_lt (Nat.le_add_right _ 255) J);have V:b%18446744073709551616=b:=Nat.mod_eq_of_lt (Nat.lt_trans H (by decide));rw[L,N,BitVec.toNat_or,BitVec.toNat_ofNat,BitVec.toNat_ofNat,hp,O,V];have W:u*256|||b=u*256+b:=by
  have:=Nat.shiftLeft_add_eq_or_of_lt (show b<2^8 by omega) u;rw[Nat.shiftLeft_eq]at this;exact this.symm
 rw[W];exact u64_in _ (by omega)
def r_orb {m n:Int}{u b:Nat}(H:a.eval x=.int .u64 m)(J:a.eval y=.int .u64 n)(L:m=(u:Int)*256)(N:n=(b:Int))(O:b<256)(V:u*256+255<18446744073709551616):
  (execOp a.eval ⟨d,.binOp .or t x y ty,T,pos,af,gd⟩).run P w=.ok (.value (.int .u64 ((u*256+b:Nat):Int))) w:=by
 subst L;subst N;have W:eqGuard .or t x y (.int .u64 ((u:Int)*256)) (.int .u64 (b:Int))=pure ():=rfl;have Y:binOp .or t (.int .u64 ((u:Int)*256)) (.int .u64 (b:Int))=Op.intBits .or .u64 ((u:Int)*256) (b:Int):=by simp[binOp]
 have hs:(Op.intBits .or .u64 ((u:Int)*256) (b:Int)).run P w=.ok (.int .u64 ((u*256+b:Nat):Int)) w:=by
  rw[<-or_low u b O V];rfl
 simp[execOp,H,J,W,Y,hs]
def Qhy {e:TypeId}{ad:Addr}(H:P.underlying t=some (.pointer e))(J:a.eval x=.pointer (some ad))(L:a.eval y=.pointer none):
  (execOp a.eval ⟨d,.binOp .neq t x y ty,T,pos,af,gd⟩).run P w=.ok (.value (.bool true)) w:=by
 have h: ∀m,(Op.equalIn (m+1) t (.pointer (some ad)) (.pointer none)).run P w=.ok false w:=λm=>by simp[Op.equalIn,run_underlying H]
 have N:(Op.equal t (.pointer (some ad)) (.pointer none)).run P w=.ok false w:=h 9999;simp[execOp,J,L,eqGuard_at_pointer,binOp,N]
end
section
variable {r:Option Nat}{P:Program}{ops:Array Oper}{Q:Exit->Act->World->Prop}{a:Act}{w:World}{rest:List Oper}{n:Nat}{ds:List Deferred}{l:List (Nat×Value)}{d:Nat}{T:TypeId}{pos:String}{af:Array Edge}
end
section
variable {r:Option Nat}{P:Program}{ops:Array Oper}{Q:Exit->Act->World->Prop}{a:Act}{w:World}{rest:List Oper}{n:Nat}{ds:List Deferred}{l:List (Nat×Value)}{d:Nat}{T:TypeId}{pos:String}{af:Array Edge}
end
@[reducible] def R64 (x:Int):Prop:= -9223372036854775808<=x/\x<=9223372036854775807
inductive Hint where
 |n
 |b (i o:Nat)
 |e (i o:Nat)
 |pk
 |off
 |on (h:Hint)
 |sy (h:Hint)
structure Kn where
 bs:List (Nat×TypeId×List Value)
 es:List (Addr×List Value)
def Kn.ok (K:Kn)(w:World):Prop:=(∀b,b∈K.bs->Blk w b.1 b.2.1 b.2.2)/\(∀e,e∈K.es->Cells w e.1 e.2)
def k0 {w:World}:Kn.ok ⟨[],[]⟩ w:=⟨λb h=>(by cases h),λb h=>(by cases h)⟩
def ke {w:World}{E:Addr}{cs:List Value}{bs:List (Nat×TypeId×List Value)}{es:List (Addr×List Value)}(h:Cells w E cs)(J:Kn.ok ⟨bs,es⟩ w):Kn.ok ⟨bs,(E,cs)::es⟩ w:=
 ⟨J.1,λb H=>by rcases Qn.1 H with rfl|H;exact h;exact J.2 b H⟩
def aggB (P:Program)(t:TypeId):Option Bool:=match P.underlying t with
 |some (.struct _)=>some true
 |some (.array _ _)=>some true
 |some _=>some false
 |none=>none
def szB (P:Program)(t:TypeId):Option Nat:=(P.info? t).map (·.size)
section
variable {P:Program}{t:TypeId}
def Qcz {b:Bool}(h:aggB P t=some b)(w:World):(isAgg t).run P w=.ok b w:=by
 unfold aggB at h;cases H:P.underlying t with
 |none=>rw[H]at h;cases h
 |some d=>
  rw[H]at h;unfold isAgg;rw[Sem.run_bind,run_underlying H,Result.andThen_ok];cases d<;>simp at h<;>subst h<;>rfl
def Qah {n:Nat}(h:szB P t=some n)(w:World):(sizeOf t).run P w=.ok n w:=by
 unfold szB at h;cases hi:P.info? t with
 |none=>rw[hi]at h;cases h
 |some i=>rw[hi]at h;simp at h;subst h;simp[sizeOf,typeInfo,hi]
def zero_run {i:TypeInfo}{z:Value}(hi:P.info? t=some i)(H:i.zero=some z)(w:World):(zeroValue t).run P w=.ok z w:=by
 simp[zeroValue,typeInfo,hi,H]
end
abbrev QO:=Option (List Prop×List (Value×Value)×Value)
def qok (v:Value):QO:=some ([],[],v)
def qar (k:IntKind)(x:Int):QO:=match k with
 | .i64=>some ([R64 x],[],.int .i64 x)
 |k=>qok (.int k (k.wrap x))
def qint (op:BinOp)(k:IntKind)(m n:Int):QO:=match op with
 | .add=>qar k (m+n)
 | .sub=>qar k (m-n)
 | .mul=>qar k (m*n)
 | .lss=>qok (.bool (decide (m<n)))
 | .leq=>qok (.bool (decide (m<=n)))
 | .gtr=>qok (.bool (decide (n<m)))
 | .geq=>qok (.bool (decide (n<=m)))
 | .eql=>qok (.bool (decide (m=n)))
 | .neq=>qok (.bool (decide (m≠n)))
 | .quo=>match k with
  | .i64=>some ([n≠0,R64 (m.tdiv n)],[],.int .i64 (m.tdiv n))
  |_=>none
 | .rem=>some ([n≠0],[],.int k (m.tmod n))
 | .shr=>match k with
  | .u64=>some ([0<=n/\n<=64],[],.int .u64 (m / 2^n.toNat))
  |_=>none
 |_=>none
def qbin (P:Program)(op:BinOp)(t:TypeId):Option Value->Option Value->QO
 |some (.int k m),some (.int k' n)=>if k'=k then qint op k m n else none
 |some (.bool b),some (.bool c)=>match P.underlying t with
  |some .bool=>match op with
   | .eql=>qok (.bool (b==c))
   | .neq=>qok (.bool (decide (b≠c)))
   |_=>none
  |_=>none
 |some (.string s),some (.string u)=>match op with
  | .eql=>qok (.bool (decide (s=u)))
  | .neq=>qok (.bool (decide (s≠u)))
  | .lss=>qok (.bool (Op.bytesLess s.toList u.toList))
  | .gtr=>qok (.bool (!(Op.bytesLess s.toList u.toList||s.toList==u.toList)))
  | .add=>some ([s.size+u.size<=9223372036854775807],[],.string (s++u))
  |_=>none
 |some (.slice A _ _),some (.slice none 0 0)=>match P.underlying t with
  |some (.slice _)=>match op with
   | .eql=>qok (.bool A.isNone)
   |_=>none
  |_=>none
 |some (.pointer (some _)),some (.pointer none)=>match P.underlying t with
  |some (.pointer _)=>match op with
   | .neq=>qok (.bool true)
   |_=>none
  |_=>none
 |_,_=>none
def qconv (P:Program)(s d:TypeId):Option Value->QO
 |some (.int _ n)=>match P.underlying s,P.underlying d with
  |some _,some (.int .i64)=>some ([R64 n],[],.int .i64 n)
  |some _,some (.int k)=>qok (.int k (k.wrap n))
  |_,_=>none
 |_=>none
def qfa (P:Program)(t:TypeId)(i:Nat):Option Value->QO
 |some (.pointer (some a))=>match P.underlying t with
  |some (.struct fs)=>match fs[i]? with
   |some f=>match szB P f.type with
    |some (_+1)=>qok (.pointer (some (a.add f.offset)))
    |_=>none
   |none=>none
  |_=>none
 |_=>none
def qfl (P:Program)(t:TypeId)(i:Nat):Option Value->QO
 |some (.agg cs)=>match P.underlying t with
  |some (.struct fs)=>match fs[i]? with
   |some f=>match aggB P f.type with
    |some false=>match cs[f.offset]? with
     |some v=>qok v
     |none=>none
    |some true=>match szB P f.type with
     |some n=>qok (.agg (cs.extract f.offset (f.offset+n)))
     |none=>none
    |none=>none
   |none=>none
  |_=>none
 |_=>none
def qcut (P:Program)(t:TypeId)(cs:List Value)(o:Nat):Option Value:=match aggB P t with
 |some false=>cs[o]?
 |some true=>match szB P t with
  |some n=>if((cs.drop o).take n).length=n then some (.agg ((cs.drop o).take n).toArray)else none
  |none=>none
 |none=>none
def qld (P:Program)(K:Kn)(h:Hint)(t:TypeId):Option Value->QO
 |some (.pointer (some a))=>match h with
  | .b i o=>match K.bs[i]? with
   |some (g,_,cs)=>match qcut P t cs o with
    |some v=>some ([],[(.pointer (some a),.pointer (some ⟨g,o,none⟩))],v)
    |none=>none
   |none=>none
  | .e i o=>match K.es[i]? with
   |some (E,cs)=>match qcut P t cs o with
    |some v=>some ([],[(.pointer (some a),.pointer (some (E.add o)))],v)
    |none=>none
   |none=>none
  |_=>none
 |_=>none
def qbi (P:Program)(b:Builtin):List (Option Value)->List TypeId->QO
 | [some (.slice _ n _)],[t]=>match b,P.underlying t with
  | .len,some (.slice _)=>qok (.int .i64 (n:Int))
  |_,_=>none
 | [some (.string s)],[t]=>match b,P.underlying t with
  | .len,some .string=>qok (.int .i64 (s.size:Int))
  |_,_=>none
 | [some (.int k p),some (.int _ q)],_=>match b with
  | .min=>qok (.int k (min p q))
  | .max=>qok (.int k (max p q))
  |_=>none
 |_,_=>none
def qes (e:Operand->Option Value):List Operand->Option (List Value)
 | []=>some []
 |x::r=>match e x,qes e r with
  |some v,some vs=>some (v::vs)
  |_,_=>none
def qps (e:Operand->Option Value):List (Nat×Operand)->Option (List (Nat×Value))
 | []=>some []
 |(i,x)::r=>match e x,qps e r with
  |some v,some vs=>some ((i,v)::vs)
  |_,_=>none
def qpl (P:Program):List Field->Option (List (Nat×Nat))
 | []=>some []
 |f::r=>match szB P f.type,qpl P r with
  |some n,some l=>some ((f.offset,n)::l)
  |_,_=>none
def qbd (P:Program)(t:TypeId)(vs:Option (List (Nat×Value))):QO:=match vs,P.info? t,P.underlying t with
 |some vs,some i,some (.struct fs)=>match i.zero,qpl P fs.toList with
  |some z,some pl=>match Instr.fill (pl.toArray[·]?) z.cells vs with
   |some cs=>qok (.agg cs)
   |none=>none
  |_,_=>none
 |_,_,_=>none
def qv (P:Program)(K:Kn)(h:Hint)(e:Operand->Option Value):Op->QO
 | .move x=>(e x).map λv=>([],[],v)
 | .assign x=>(e x).map λv=>([],[],v)
 | .pick c x y=>match e c with
  |some (.bool true)=>(e x).map λv=>([],[],v)
  |some (.bool false)=>(e y).map λv=>([],[],v)
  |_=>none
 | .unOp .not _ x=>match e x with
  |some (.bool b)=>qok (.bool (!b))
  |_=>none
 | .extract x i=>match e x with
  |some (.tuple vs)=>(vs[i]?).map λv=>([],[],v)
  |_=>none
 | .nilCheck x=>match e x with
  |some (.pointer (some a))=>qok (.pointer (some a))
  |_=>none
 | .makeFunc fn xs ys=>match qes e xs.toList,qes e ys.toList with
  |some vs,some us=>qok (.func fn vs.toArray us.toArray)
  |_,_=>none
 | .binOp op t x y _=>qbin P op t (e x) (e y)
 | .convert s d x=>qconv P s d (e x)
 | .fieldAddr t x i=>qfa P t i (e x)
 | .field t x i=>qfl P t i (e x)
 | .load t x=>qld P K h t (e x)
 | .call {callee:=.builtin b,args:=xs,argTypes:=ts}=>qbi P b (xs.toList.map e) ts.toList
 | .build t ps=>qbd P t (qps e ps.toList)
 |_=>none
section
variable {P:Program}{K:Kn}{a:Act}{w:World}{d:Option Tmp}{T:TypeId}{pos:String}{af:Array Edge}{gd:Option (Nat×Bool)}{e:Operand->Option Value}
def qes_eval (L: ∀x v,e x=some v->a.eval x=v): ∀(xs:List Operand) {vs:List Value},qes e xs=some vs->xs.toArray.map a.eval=vs.toArray:=by
 intro xs;induction xs with
 |nil=>intro vs h;simp only[qes,Qr]at h;subst h;simp
 |cons x r N=>
  intro vs h;unfold qes at h;cases H:e x with
  |none=>simp[H]at h
  |some v=>cases J:qes e r with
   |none=>simp[H,J]at h
   |some us=>
    simp only[H,J,Qr]at h;subst h;have:=N J;simp only[Xg,Q7,L x v H]at this ⊢;rw[Array.mk.injEq]at this;rw[this]
def qps_eval (L: ∀x v,e x=some v->a.eval x=v): ∀(xs:List (Nat×Operand)) {vs:List (Nat×Value)},qps e xs=some vs->xs.toArray.map (λ(i,x)=>(i,a.eval x))=vs.toArray:=by
 intro xs;induction xs with
 |nil=>intro vs h;simp only[qps,Qr]at h;subst h;simp
 |cons x r N=>
  obtain⟨i,x⟩:=x;intro vs h;unfold qps at h;cases H:e x with
  |none=>simp[H]at h
  |some v=>cases J:qps e r with
   |none=>simp[H,J]at h
   |some us=>
    simp only[H,J,Qr]at h;subst h;have:=N J;simp only[Xg,Q7,L x v H]at this ⊢;rw[Array.mk.injEq]at this;rw[this]
def qpl_run: ∀(fs:List Field) {pl:List (Nat×Nat)},qpl P fs=some pl->∀w,(fs.mapM λf=>do pure (f.offset,<-sizeOf f.type):Sem (List (Nat×Nat))).run P w=.ok pl w:=by
 intro fs;induction fs with
 |nil=>intro pl h w;simp only[qpl,Qr]at h;subst h;rfl
 |cons f r L=>
  intro pl h w;unfold qpl at h;cases H:szB P f.type with
  |none=>simp[H]at h
  |some n=>cases J:qpl P r with
   |none=>simp[H,J]at h
   |some l=>
    simp only[H,J,Qr]at h;subst h;rw[List.mapM_cons];simp only[Sem.run_bind,Qah H,Result.andThen_ok,Sem.run_pure,L J]
def qpl_arr {fs:Array Field}{pl:List (Nat×Nat)}(h:qpl P fs.toList=some pl)(w:World):(fs.mapM λf=>do pure (f.offset,<-sizeOf f.type):Sem (Array (Nat×Nat))).run P w=.ok pl.toArray w:=by
 have H:=qpl_run fs.toList h w;rw[Array.mapM_eq_mapM_toList,map_eq_pure_bind,Sem.run_bind,H];rfl
def o_bw {k:IntKind}{x:Int}{c:List Prop}{q:List (Value×Value)}{v:Value}(h:qar k x=some (c,q,v))(J: ∀p,p∈c->p):v=.int k (k.wrap x):=by
 unfold qar at h;split at h;injection h with h;injection h with H h;injection h with L h;subst h;subst H
 rw[IntWalk.i64_in _ (J _ (Qk.2 rfl))];unfold qok at h;injection h with h;injection h with H h;injection h with L h;exact h.symm
def o_a {u v:Value}{c:List Prop}{q:List (Value×Value)}(h:qok u=some (c,q,v)):v=u:=by
 unfold qok at h;injection h with h;injection h with H h;injection h with J h;exact h.symm
def Qgi {t:TypeId}{x:Operand}{cs:List Value}{o:Nat}{v:Value}{A:Addr}(h:qcut P t cs o=some v)(L:a.eval x=.pointer (some A))(hcell: ∀j u,cs[o+j]?=some u->w.cell? (A.add j)=some u):
  (execOp a.eval ⟨d,.load t x,T,pos,af,gd⟩).run P w=.ok (.value v) w:=by
 unfold qcut at h;split at h;rename_i H;refine r_load1 (λw=>Qcz H w) L ?_;have:=hcell 0 v (by simpa using h);rwa[Addr.add_zero']at this;rename_i H;split at h;rename_i n V;split at h;rename_i N;injection h with h;subst h
 refine r_loadN (λw=>Qcz H w) (λw=>Qah V w) L N λj u O=>hcell j u ?_;have J:j<n:=by have:=(Qd.1 O).1;rw[N]at this;exact this
 rwa[Q2 J,Wl]at O;cases h;cases h;cases h
def o_cl {op:BinOp}{t ty:TypeId}{k:IntKind}{m n:Int}{x y:Operand}{c:List Prop}{q:List (Value×Value)}{v:Value}(h:qint op k m n=some (c,q,v))(L: ∀p,p∈c->p)(H:a.eval x=.int k m)(J:a.eval y=.int k n):
  (execOp a.eval ⟨d,.binOp op t x y ty,T,pos,af,gd⟩).run P w=.ok (.value v) w:=by
 unfold qint at h;split at h;rw[o_bw h L];exact r_add H J;rw[o_bw h L];exact r_sub H J;rw[o_bw h L];exact r_mul H J;rw[o_a h];exact r_lss H J;rw[o_a h];exact r_leq H J;rw[o_a h];exact r_gtr H J;rw[o_a h];exact r_geq H J;rw[o_a h];exact r_eql H J;rw[o_a h];exact r_neq H J;split at h;injection h with h;injection h with N h;injection h with O h;subst h;subst N
 exact r_quow H J (L _ (by simp)) (IntWalk.i64_in _ (L _ (by simp)));cases h;injection h with h;injection h with N h;injection h with O h;subst h;subst N
 exact r_rem H J (L _ (by simp));split at h;injection h with h;injection h with N h;injection h with O h;subst h;subst N
 have V:=L (0<=n/\n<=64) (by simp);exact r_shr H J V.1 V.2;cases h;cases h
def r_lss_str {t ty:TypeId}{x y:Operand}{s u:ByteArray}(H:a.eval x=.string s)(J:a.eval y=.string u):(execOp a.eval ⟨d,.binOp .lss t x y ty,T,pos,af,gd⟩).run P w=.ok (.value (.bool (Op.bytesLess s.toList u.toList))) w:=by
 simp[execOp,H,J,binOp_string_lss,eqGuard_lss]
def r_gtr_str {t ty:TypeId}{x y:Operand}{s u:ByteArray}(H:a.eval x=.string s)(J:a.eval y=.string u):(execOp a.eval ⟨d,.binOp .gtr t x y ty,T,pos,af,gd⟩).run P w=.ok (.value (.bool (!(Op.bytesLess s.toList u.toList||s.toList==u.toList)))) w:=by
 simp[execOp,H,J,binOp,Op.stringOp,eqGuard_gtr]
def r_cat {t ty:TypeId}{x y:Operand}{s u:ByteArray}(H:a.eval x=.string s)(J:a.eval y=.string u)(h:s.size+u.size<=9223372036854775807):(execOp a.eval ⟨d,.binOp .add t x y ty,T,pos,af,gd⟩).run P w=.ok (.value (.string (s++u))) w:=by
 simp[execOp,H,J,binOp_string_add,run_string_add_sum w s u h,eqGuard_add]
def o_cm {op:BinOp}{t ty:TypeId}{x y:Operand}{c:List Prop}{q:List (Value×Value)}{v:Value}(H: ∀x v,e x=some v->a.eval x=v)(h:qbin P op t (e x) (e y)=some (c,q,v))(O: ∀p,p∈c->p):
  (execOp a.eval ⟨d,.binOp op t x y ty,T,pos,af,gd⟩).run P w=.ok (.value v) w:=by
 unfold qbin at h;split at h;rename_i k m k' n J L;split at h;rename_i hk;subst hk;exact o_cl h O (H _ _ J) (H _ _ L);cases h;rename_i b c' J L;split at h;rename_i N;split at h;rw[o_a h];exact r_eqb N (H _ _ J) (H _ _ L);rw[o_a h];exact r_neb' N (H _ _ J) (H _ _ L);cases h;cases h;rename_i s u J L;split at h;rw[o_a h];exact r_eqs (H _ _ J) (H _ _ L);rw[o_a h];exact r_nes' (H _ _ J) (H _ _ L);rw[o_a h];exact r_lss_str (H _ _ J) (H _ _ L);rw[o_a h];exact r_gtr_str (H _ _ J) (H _ _ L);injection h with h;injection h with V h;injection h with W h;subst h;subst V
 exact r_cat (H _ _ J) (H _ _ L) (O _ (by simp));cases h;rename_i A n c' J L;split at h;rename_i N;split at h;rw[o_a h];exact r_eqnil N (H _ _ J) (H _ _ L);cases h;cases h;rename_i A J L;split at h;rename_i N;split at h;rw[o_a h];exact Qhy N (H _ _ J) (H _ _ L);cases h;cases h;cases h
def o_cg {hn:Hint}{op:Op}{c:List Prop}{q:List (Value×Value)}{v:Value}(J: ∀x v,e x=some v->a.eval x=v)(hK:K.ok w)(h:qv P K hn e op=some (c,q,v))(hc: ∀p,p∈c->p)(hq: ∀p,p∈q->p.1=p.2):
  (execOp a.eval ⟨d,op,T,pos,af,gd⟩).run P w=.ok (.value v) w:=by
 unfold qv at h;split at h;rename_i x;cases H:e x with
 |none=>simp[H]at h
 |some u=>simp[H]at h;obtain⟨_,_,rfl⟩:=h;exact r_move (J _ _ H)
 rename_i x;cases H:e x with
 |none=>simp[H]at h
 |some u=>simp[H]at h;obtain⟨_,_,rfl⟩:=h;exact r_assign (J _ _ H)
 rename_i c' x y;split at h;rename_i V;cases H:e x with
 |none=>simp[H]at h
 |some u=>simp[H]at h;obtain⟨_,_,rfl⟩:=h;exact r_pick_t (J _ _ V) (J _ _ H)
 rename_i V;cases H:e y with
 |none=>simp[H]at h
 |some u=>simp[H]at h;obtain⟨_,_,rfl⟩:=h;exact r_pick_f (J _ _ V) (J _ _ H)
 cases h;split at h;rename_i H;rw[o_a h];exact r_not (J _ _ H);cases h;rename_i x i;split at h;rename_i vs H;cases hi:vs[i]? with
 |none=>simp[hi]at h
 |some u=>simp[hi]at h;obtain⟨_,_,rfl⟩:=h;exact r_extract (J _ _ H) hi
 cases h;split at h;rename_i H;rw[o_a h];exact r_nilCheck (J _ _ H);cases h;rename_i fn xs ys;split at h;rename_i vs us H hy;rw[o_a h];have L:=qes_eval J _ H;have N:=qes_eval J _ hy;simp only[Wy]at L N;exact r_makeFunc L N;cases h;exact o_cm J h hc;rename_i s d' x;unfold qconv at h;split at h;rename_i k n H;split at h;rename_i W hd;injection h with h;injection h with L h;injection h with N h;subst h;subst L
 exact r_convw W hd (J _ _ H) (IntWalk.i64_in _ (hc _ (Qk.2 rfl)));rename_i W hd;rw[o_a h];exact r_conv W hd (J _ _ H);cases h;cases h;unfold qfa at h;split at h;rename_i A H;split at h;rename_i fs O;split at h;rename_i f hf;split at h;rename_i m W;rw[o_a h];exact Qgh O hf (λw=>Qah W w) (J _ _ H);cases h;cases h;cases h;cases h;unfold qfl at h;split at h;rename_i cs H;split at h;rename_i fs O;split at h;rename_i f hf;split at h;rename_i Y;split at h;rename_i u hv;rw[o_a h];have:=J _ _ H;simp[execOp,Instr.field,run_underlying O,hf,this,asAgg,part,Qcz Y,hv];cases h;rename_i Y;split at h;rename_i n W;rw[o_a h];have:=J _ _ H;simp[execOp,Instr.field,run_underlying O,hf,this,asAgg,part,Qcz Y,Qah W];cases h;cases h;cases h;cases h;cases h;unfold qld at h;split at h;rename_i A H;split at h;split at h;rename_i i o _ g bt cs hb;split at h;rename_i u hcut;injection h with h;injection h with L h;injection h with N h;subst h;subst N
 have Y:Value.pointer (some A)=.pointer (some ⟨g,o,none⟩):=hq _ (Qk.2 rfl);have hB:Blk w g bt cs:=hK.1 _ (Qg hb);refine Qgi hcut ((J _ _ H).trans Y) λj u hj=>?_;rw[Addr.add_lit,hB.cell];exact hj;cases h;cases h;split at h;rename_i i o _ E cs hb;split at h;rename_i u hcut;injection h with h;injection h with L h;injection h with N h;subst h;subst N
 have Y:Value.pointer (some A)=.pointer (some (E.add o)):=hq _ (Qk.2 rfl);have hB:Cells w E cs:=hK.2 _ (Qg hb);refine Qgi hcut ((J _ _ H).trans Y) λj u hj=>?_;rw[add_add];exact hB _ _ hj;cases h;cases h;cases h;cases h;rename_i b xs ts;unfold qbi at h;split at h;rename_i A n c' t L N;split at h;rename_i O;rw[o_a h];obtain⟨x,rfl,H⟩: ∃x,xs=#[x]/\e x=some (.slice A n c'):=by
  obtain⟨l⟩:=xs;rcases l with _|⟨x,_|⟨y,l⟩⟩
  simp at L;exact⟨x,rfl,by simpa using L⟩;simp at L
 obtain rfl:ts=#[t]:=by obtain⟨l⟩:=ts;simp at N;rw[N]
 exact r_len O (J _ _ H);cases h;rename_i s t L N;split at h;rename_i O;rw[o_a h];obtain⟨x,rfl,H⟩: ∃x,xs=#[x]/\e x=some (.string s):=by
  obtain⟨l⟩:=xs;rcases l with _|⟨x,_|⟨y,l⟩⟩
  simp at L;exact⟨x,rfl,by simpa using L⟩;simp at L
 obtain rfl:ts=#[t]:=by obtain⟨l⟩:=ts;simp at N;rw[N]
 exact r_lens O (J _ _ H);cases h;rename_i k p k' q' L;obtain⟨x,y,rfl,H,hy⟩: ∃x y,xs=#[x,y]/\e x=some (.int k p)/\e y=some (.int k' q'):=by
  obtain⟨l⟩:=xs;rcases l with _|⟨x,_|⟨y,_|⟨z,l⟩⟩⟩
  simp at L;simp at L;simp at L;exact⟨x,y,rfl,L.1,L.2⟩;simp at L
 split at h;rw[o_a h];exact r_min (J _ _ H) (J _ _ hy);rw[o_a h];exact r_max (J _ _ H) (J _ _ hy);cases h;cases h;rename_i t ps;unfold qbd at h;split at h;rename_i vs i fs hvs hi O;split at h;rename_i z pl hz hpl;split at h;rename_i cs hcs;rw[o_a h];have L:=qps_eval J _ hvs;simp only[Wy]at L;simp only[execOp,Instr.build,L];simp only[Sem.run_bind,zero_run hi hz,Result.andThen_ok,run_underlying O];rw[qpl_arr hpl w];simp only[Result.andThen_ok,hcs,Sem.run_pure];cases h;cases h;cases h;cases h
end
def bo {x y:Bool}(h:(x||y)=true):x=true\/y=true:=by cases x<;>simp_all
def bn {x:Bool}(h:(!x)=true):x=false:=by cases x<;>simp_all
structure QS where
 l:List (Nat×Value)
 g:List (Nat×Nat×Bool×Value)
 c:List Prop
 q:List (Value×Value)
 wr:List Nat
def gk:List (Nat×Nat×Bool×Value)->Nat->Option (Nat×Bool×Value)
 | [],_=>none
 |(t,x)::r,d=>bif Nat.beq t d then some x else gk r d
def gfree:List (Nat×Nat×Bool×Value)->Nat->Bool
 | [],_=>true
 |(t,j,_)::r,d=> !(Nat.beq t d)&& !(Nat.beq j d)&&gfree r d
def evg (s:QS)(gd:Option (Nat×Bool)):Operand->Option Value
 | .tmp t=>match gk s.g t with
  |some (dj,b,v)=>match gd with
   |some (dj',b')=>if dj'=dj then if b'=b then some v else none else none
   |none=>none
  |none=>lk s.l t
 |x=>ev s.l x
def qput (s:QS)(d:Nat)(c:List Prop)(q:List (Value×Value))(v:Value):Option QS:=
 if gfree s.g d then some ⟨(d,v)::s.l,s.g,s.c++c,q++s.q,d::s.wr⟩else none
def qside (s:QS)(tc:Nat)(b:Bool):Operand->Option Bool
 | .tmp t=>match gk s.g t with
  |some (dj,b',.bool u)=>if dj=tc then if b'=b then some u else none else none
  |some _=>none
  |none=>if t=tc then some b else match lk s.l t with
   |some (.bool u)=>some u
   |_=>none
 |x=>match ev s.l x with
  |some (.bool u)=>some u
  |_=>none
def qpk (s:QS)(d:Nat):Op->Option QS
 | .pick (.tmp tc) x y=>match gk s.g tc,lk s.l tc with
  |none,some (.bool cb)=>match qside s tc true x,qside s tc false y with
   |some b1,some b2=>qput s d [] [] (.bool (bif cb then b1 else b2))
   |_,_=>none
  |_,_=>none
 |_=>none
def qno (P:Program)(K:Kn)(s:QS)(d:Nat)(h:Hint)(op:Op):Option QS:=match qv P K h (evg s none) op with
 |some (c,q,v)=>qput s d c q v
 |none=>none
def q1 (P:Program)(K:Kn)(n:Nat)(ops:Array Oper)(s:QS)(h:Hint)(o:Oper):Option QS:=match o.dst with
 |none=>none
 |some d=>if Nat.ble (d+1) n then match o.guard with
  |none=>match h with
   | .pk=>qpk s d o.op
   |h=>qno P K s d h o.op
  |some (j,b)=>match(ops[j]?).bind (·.dst)with
   |none=>none
   |some dj=>match gk s.g dj,lk s.l dj with
    |none,some (.bool c)=>match h with
     | .off=>if c= !b then qput s d [] [] undef else none
     | .on .pk=>if c=b then qpk s d o.op else none
     | .on h=>if c=b then qno P K s d h o.op else none
     | .sy h=>if d=dj then none else if gfree s.g d then match lk s.l d with
      |none=>match qv P K h (evg s (some (dj,b))) o.op with
       |some (cs,q,v)=>some ⟨s.l,(d,dj,b,v)::s.g,s.c++cs.map (λp=>c=b->p),q++s.q,d::s.wr⟩
       |none=>none
      |some _=>none else none
     |_=>none
    |none,some (.tuple vs)=>match h with
     | .off=>if vs.toList.isEmpty then qput s d [] [] undef else none
     |_=>none
    |_,_=>none else none
def qs (P:Program)(K:Kn)(n:Nat)(ops:Array Oper):List Hint->List Oper->QS->Option QS
 | [],_,s=>some s
 |h::hs,o::r,s=>match q1 P K n ops s h o with
  |some s'=>qs P K n ops hs r s'
  |none=>none
 |_::_,[],_=>none
def dqs (P:Program)(K:Kn)(n:Nat)(ops:Array Oper):List (Nat×Hint)->Array Bool->QS->Option (Array Bool×QS)
 | [],li,s=>some (li,s)
 |(i,h)::r,li,s=>match ops[i]? with
  |some o=>if Region.free .any ops li i&&(Region.ready .any ops li).contains i then match q1 P K n ops s h o with
   |some s'=>dqs P K n ops r (li.setIfInBounds i true) s'
   |none=>none else none
  |none=>none
def qfin (l0:List (Nat×Value))(ks:List Nat)(s:QS):Option (List Prop×List (Nat×Value)):=
 if s.wr.all (λd=>ks.contains d||(lk l0 d).isNone)then some (s.c,kp s.l ks)else none
def conj:List Prop->Prop
 | []=>True
 | [p]=>p
 |p::q::r=>p/\conj (q::r)
def cat:List (Nat×Value)->List (Nat×Value)->List (Nat×Value)
 | [],l=>l
 |p::r,l=>p::cat r l
def Qfd: ∀{cs:List Prop},conj cs->∀p,p∈cs->p
 | [],_,p,hp=>by cases hp
 | [q],h,p,hp=>by rw[Qk]at hp;subst hp;exact h
 |q::q'::r,h,p,hp=>by
  rcases Qn.1 hp with rfl|hp
  exact h.1;exact Qfd h.2 p hp
def Qbt (d e:Nat)(v:Value)(l:List (Nat×Value)):lk ((d,v)::l) e=if d=e then some v else lk l e:=by
 by_cases h:d=e;subst h;rw[Qak,Qc rfl];rw[Qai _ _ h,Qb h]
def Qdo (d e:Nat)(x:Nat×Bool×Value)(l:List (Nat×Nat×Bool×Value)):gk ((d,x)::l) e=if d=e then some x else gk l e:=by
 unfold gk;by_cases h:d=e;subst h;simp;have:Nat.beq d e=false:=by cases H:Nat.beq d e with
  |false=>rfl
  |true=>exact absurd (Wm H) h
 simp only[this,cond_false,Qb h];cases l<;>rfl
def Qcj: ∀{g:List (Nat×Nat×Bool×Value)} {d:Nat},gfree g d=true->gk g d=none/\∀t j b v,gk g t=some (j,b,v)->j≠d
 | [],d,_=>⟨rfl,λt j b v h=>by cases h⟩
 |(t,j,x)::r,d,h=>by
  simp only[gfree,Qp,Yj]at h;obtain⟨⟨H,J⟩,L⟩:=h;have N:t≠d:=λe=>by subst e;simp at H
  have O:j≠d:=λe=>by subst e;simp at J
  obtain⟨V,W⟩:=Qcj L;refine⟨by rw[Qdo,Qb N];exact V,λt' j' b v h=>?_⟩;rw[Qdo]at h;split at h;injection h with h;injection h with Y h5;rw[<-Y];exact O
  exact W _ _ _ _ h
structure QS.ok (s:QS) (a:Act) (n:Nat) (ds:List Deferred):Prop where
 fr:Fr a n ds s.l
 gd: ∀t dj b v,gk s.g t=some (dj,b,v)->lk s.l t=none/\∃c,lk s.l dj=some (.bool c)/\gk s.g dj=none/\a.tmps[t]?=some (if c=b then v else undef)
structure QS.inv (l0:List (Nat×Value)) (s:QS):Prop where
 out: ∀d,d∉s.wr->lk s.l d=lk l0 d
 wrn: ∀d,d∈s.wr->(lk s.l d).isSome=true\/lk l0 d=none\/∃v,lk s.l d=some v
structure QS.le (s s':QS):Prop where
 c: ∀p,p∈s.c->p∈s'.c
 q: ∀p,p∈s.q->p∈s'.q
def QS.le.refl (s:QS):QS.le s s:=⟨λ_ h=>h,λ_ h=>h⟩
def QS.le.trans {s t u:QS}(h:QS.le s t)(k:QS.le t u):QS.le s u:=⟨λ_ hp=>k.c _ (h.c _ hp),λ_ hp=>k.q _ (h.q _ hp)⟩
section
variable {P:Program}{K:Kn}{n:Nat}{ds:List Deferred}{ops:Array Oper}{a:Act}{s s':QS}
def evg_none (H:s.ok a n ds)(x:Operand)(v:Value)(h:evg s none x=some v):a.eval x=v:=by
 unfold evg at h;split at h;split at h;cases h;exact H.fr.eval (x:=.tmp _) h;exact H.fr.eval h
def evg_some {dj:Nat}{b:Bool}(J:s.ok a n ds)(W:lk s.l dj=some (.bool b))(x:Operand)(v:Value)(h:evg s (some (dj,b)) x=some v):a.eval x=v:=by
 unfold evg at h;split at h;rename_i t;split at h;rename_i dj' b' v' L;by_cases N:dj=dj';subst N;by_cases O:b=b';subst O;simp only[W8]at h;injection h with h
 subst h;obtain⟨_,c,H,_,V⟩:=J.gd _ _ _ _ L;rw[W]at H;injection H with H;injection H with H
 rw[Qc H.symm]at V;simp[Act.eval,Wg,V];simp[O]at h;simp[N]at h;exact J.fr.eval (x:=.tmp _) h;exact J.fr.eval h
def o_a1 {d:Nat}{c:List Prop}{q:List (Value×Value)}{v:Value}(O:d<n)(N:s.ok a n ds)(h:qput s d c q v=some s'):s'.ok (a.put (some d) v) n ds/\QS.le s s'/\(∀p,p∈c->p∈s'.c)/\(∀p,p∈q->p∈s'.q):=by
 unfold qput at h;split at h;rename_i V;injection h with h
 subst h;obtain⟨W,Y⟩:=Qcj V;refine⟨⟨N.fr.put O v,λt dj b u H=>?_⟩,⟨λp hp=>Wh _ hp,λp hp=>We _ hp⟩,λp hp=>We _ hp,λp hp=>Wh _ hp⟩;obtain⟨h1,cc,h2,h3,h4⟩:=N.gd t dj b u H;have J:d≠t:=λe=>by subst e;change gk s.g d=_ at H;rw[W]at H;cases H
 have L:d≠dj:=λe=>Y _ _ _ _ H e.symm;refine⟨by rw[Qbt,Qb J];exact h1,cc,by rw[Qbt,Qb L];exact h2,h3,?_⟩;simp only[Act.put];rw[Xq J];exact h4;cases h
def Qdc {d:Nat}{c:List Prop}{q:List (Value×Value)}{v:Value}{L:List (Nat×Value)}(hi:s.inv L)(h:qput s d c q v=some s'):s'.inv L:=by
 unfold qput at h;split at h;injection h with h
 subst h;refine⟨λe J=>?_,λe J=>?_⟩;simp only[Qn,not_or]at J;rw[Qbt,Qb (λh=>J.1 h.symm)];exact hi.out e J.2;simp only[Qn]at J;by_cases H:d=e;left;subst H;rw[Qbt,Qc rfl];rfl;rw[Qbt,Qb H];exact hi.wrn e (J.resolve_left λh=>H h.symm);cases h
def o_bx {tc:Nat}{b u cb:Bool}{x:Operand}(L:s.ok a n ds)(hg:gk s.g tc=none)(W:lk s.l tc=some (.bool cb))(J:cb=b)(h:qside s tc b x=some u):a.eval x=.bool u:=by
 unfold qside at h;split at h;rename_i t;split at h;rename_i dj b' u' N;split at h;rename_i O;subst O;split at h;rename_i e2;subst e2;injection h with h;subst h
 obtain⟨_,c,H,_,Y⟩:=L.gd _ _ _ _ N;rw[W]at H;injection H with H;injection H with H
 rw[Qc (H.symm.trans J)]at Y;simp[Act.eval,Wg,Y];cases h;cases h;cases h;split at h;rename_i O;subst O;injection h with h;subst h;subst J
 exact L.fr.eval (x:=.tmp _) W;split at h;rename_i V;injection h with h;subst h
 exact L.fr.eval (x:=.tmp _) V;cases h;split at h;rename_i V;injection h with h;subst h
 exact L.fr.eval V;cases h
def QDo (P:Program)(K:Kn)(ops:Array Oper)(a:Act)(o:Oper)(v:Value):Prop:=
 (Region.wanted o (yielded ops a.tmps)=true/\∀w,K.ok w->(execOp a.eval o).run P w=.ok (.value v) w)\/(Region.wanted o (yielded ops a.tmps)=false/\v=undef)
def o_cc {d:Nat}{op:Op}{T:TypeId}{pos:String}{af:Array Edge}{gd:Option (Nat×Bool)}(O:d<n)(J:s.ok a n ds)(h:qpk s d op=some s'):
  ∃v,s'.ok (a.put (some d) v) n ds/\QS.le s s'/\∀w,(execOp a.eval ⟨some d,op,T,pos,af,gd⟩).run P w=.ok (.value v) w:=by
 unfold qpk at h;split at h;rename_i tc x y;split at h;rename_i cb N L;split at h;rename_i b1 b2 V W;obtain⟨k1,k2,_,_⟩:=o_a1 O J h;refine⟨_,k1,k2,λw=>?_⟩;have H:a.eval (.tmp tc)=.bool cb:=J.fr.eval (x:=.tmp tc) L;cases cb with
 |true=>exact r_pick_t H (o_bx J N L rfl V)
 |false=>exact r_pick_f H (o_bx J N L rfl W)
 cases h;cases h;cases h
def qpk_inv {d:Nat}{op:Op}{H:List (Nat×Value)}(hi:s.inv H)(h:qpk s d op=some s'):s'.inv H:=by
 unfold qpk at h;split at h;split at h;split at h;exact Qdc hi h;cases h;cases h;cases h
def o_cd {d:Nat}{J:Hint}{op:Op}{T:TypeId}{pos:String}{af:Array Edge}{gd:Option (Nat×Bool)}(L:d<n)(H:s.ok a n ds)(h:qno P K s d J op=some s')(N: ∀p,p∈s'.c->p)(hq: ∀p,p∈s'.q->p.1=p.2):
  ∃v,s'.ok (a.put (some d) v) n ds/\QS.le s s'/\∀w,K.ok w->(execOp a.eval ⟨some d,op,T,pos,af,gd⟩).run P w=.ok (.value v) w:=by
 unfold qno at h;split at h;rename_i c q v O;obtain⟨k1,k2,k3,V⟩:=o_a1 L H h;exact⟨v,k1,k2,λw W=>o_cg (evg_none H) W O (λp hp=>N p (k3 p hp)) (λp hp=>hq p (V p hp))⟩;cases h
def qno_inv {d:Nat}{J:Hint}{op:Op}{H:List (Nat×Value)}(hi:s.inv H)(h:qno P K s d J op=some s'):s'.inv H:=by
 unfold qno at h;split at h;exact Qdc hi h;cases h
def bool_ne {c b:Bool}(h:c≠b):c= !b:=by cases c<;>cases b<;>first|rfl|exact absurd rfl h
def o_ce {d dj:Nat}{b c:Bool}{v u:Value}{cs:List Prop}{q:List (Value×Value)}(hd:d<n)(L:s.ok a n ds)(V:d≠dj)(W:gfree s.g d=true)(N:lk s.l d=none)(Y:gk s.g dj=none)(hlk:lk s.l dj=some (.bool c))(hu:u=if c=b then v else undef):
  QS.ok ⟨s.l,(d,dj,b,v)::s.g,cs,q,d::s.wr⟩ (a.put (some d) u) n ds:=by
 obtain⟨g1,g2⟩:=Qcj W;refine⟨⟨by simp[Act.put,L.fr.size],L.fr.defs,λe x O=>?_⟩,λt dj' b' u' H=>?_⟩;have O:lk s.l e=some x:=O;have hde:d≠e:=λh=>by subst h;rw[N]at O;cases O
 simp only[Act.put];rw[Xq hde];exact L.fr.get e x O;replace H:gk ((d,dj,b,v)::s.g) t=some (dj',b',u'):=H;rw[Qdo]at H;by_cases J:d=t;subst J;rw[Qc rfl]at H;injection H with H;injection H with h1 H;injection H with h2 H
 subst h1;subst h2;subst H;refine⟨N,c,hlk,?_,?_⟩;show gk ((d,dj,b,v)::s.g) dj=none;rw[Qdo,Qb V];exact Y;simp only[Act.put];rw[hu,Array.getElem?_setIfInBounds_self_of_lt (by rw[L.fr.size];exact hd)];rw[Qb J]at H;obtain⟨h1,cc,h2,h3,h4⟩:=L.gd t dj' b' u' H;refine⟨h1,cc,h2,?_,?_⟩;show gk ((d,dj,b,v)::s.g) dj'=none;rw[Qdo,Qb (λh=>g2 _ _ _ _ H h.symm)];exact h3;simp only[Act.put];rw[Xq J];exact h4
def o_ch {h:Hint}{o:Oper}(N:s.ok a n ds)(H:q1 P K n ops s h o=some s')(hc: ∀p,p∈s'.c->p)(hq: ∀p,p∈s'.q->p.1=p.2):
  ∃d v,o.dst=some d/\s'.ok (a.put (some d) v) n ds/\QS.le s s'/\QDo P K ops a o v:=by
 obtain⟨dst,op,T,pos,af,gd⟩:=o;unfold q1 at H;split at H;cases H;rename_i d hdst;have hdst:dst=some d:=hdst;subst hdst;split at H;rename_i W;have W:d<n:=Qq W;split at H;rename_i O;have O:gd=none:=O;subst O;split at H;obtain⟨v,k1,k2,k3⟩:=o_cc (P:=P) (T:=T) (pos:=pos) (af:=af) (gd:=none) W N H;exact⟨d,v,rfl,k1,k2,.inl ⟨Qbr,λw _=>k3 w⟩⟩;obtain⟨v,k1,k2,k3⟩:=o_cd (T:=T) (pos:=pos) (af:=af) (gd:=none) W N H hc hq;exact⟨d,v,rfl,k1,k2,.inl ⟨Qbr,k3⟩⟩;rename_i j b O;have O:gd=some (j,b):=O;subst O;split at H;cases H;rename_i dj V;split at H;rename_i c Y J;split at H;split at H;rename_i L;obtain⟨k1,k2,_,_⟩:=o_a1 W N H;exact⟨d,undef,rfl,k1,k2,.inr ⟨Qcm N.fr V J (.inl (by rw[L])),rfl⟩⟩;cases H;split at H;rename_i L;subst L;obtain⟨v,k1,k2,k3⟩:=o_cc (P:=P) (T:=T) (pos:=pos) (af:=af) (gd:=some (j,c)) W N H;exact⟨d,v,rfl,k1,k2,.inl ⟨Qbv N.fr V J,λw _=>k3 w⟩⟩;cases H;split at H;rename_i L;subst L;obtain⟨v,k1,k2,k3⟩:=o_cd (T:=T) (pos:=pos) (af:=af) (gd:=some (j,c)) W N H hc hq;exact⟨d,v,rfl,k1,k2,.inl ⟨Qbv N.fr V J,k3⟩⟩;cases H;split at H;cases H;rename_i hne;split at H;rename_i hgf;split at H;rename_i hln;split at H;rename_i cs q v hv;injection H with H
 subst H;have hle:QS.le s ⟨s.l,(d,dj,b,v)::s.g,s.c++cs.map (λp=>c=b->p),q++s.q,d::s.wr⟩:=⟨λp hp=>Wh _ hp,λp hp=>We _ hp⟩;by_cases L:c=b;subst L;refine⟨d,v,rfl,o_ce W N hne hgf hln Y J (by rw[Qc rfl]),hle,.inl ⟨Qbv N.fr V J,λw hK=>?_⟩⟩;exact o_cg (evg_some N J) hK hv (λp hp=>hc (c=c->p) (We _ (Xf.2 ⟨p,hp,rfl⟩)) rfl) (λp hp=>hq p (Wh _ hp));exact⟨d,undef,rfl,o_ce W N hne hgf hln Y J (by rw[Qb L]),hle,.inr ⟨Qcm N.fr V J (.inl (Xb Value.bool (bool_ne L))),rfl⟩⟩;cases H;cases H;cases H;cases H;rename_i vs Y J;split at H;split at H;rename_i hvs;obtain⟨k1,k2,_,_⟩:=o_a1 W N H;refine⟨d,undef,rfl,k1,k2,.inr ⟨Qcm N.fr V J (.inr ?_),rfl⟩⟩;have:vs=#[]:=by
  have h1:vs.toList=[]:=List.isEmpty_iff.1 hvs;rw[<-Wy (xs:=vs),h1]
 rw[this];rfl;cases H;cases H;cases H;cases H
def q1_inv {h:Hint}{o:Oper}{N:List (Nat×Value)}(hi:s.inv N)(H:q1 P K n ops s h o=some s'):s'.inv N:=by
 unfold q1 at H;split at H;cases H;split at H;split at H;split at H;exact qpk_inv hi H;exact qno_inv hi H;split at H;cases H;split at H;split at H;split at H;exact Qdc hi H;cases H;split at H;exact qpk_inv hi H;cases H;split at H;exact qno_inv hi H;cases H;split at H;cases H;split at H;split at H;rename_i L;split at H;injection H with H
 subst H;refine⟨λe J=>hi.out e (λh=>J (Qh _ h)),λe J=>?_⟩;rcases Qn.1 J with rfl|J
 by_cases O:e∈s.wr;exact hi.wrn e O;right;left;rw[<-hi.out e O];exact L;exact hi.wrn e J;cases H;cases H;cases H;cases H;split at H;split at H;exact Qdc hi H;cases H;cases H;cases H;cases H
def q1_le {h:Hint}{o:Oper}(H:q1 P K n ops s h o=some s'):QS.le s s':=by
 have hp: ∀{d:Nat} {c:List Prop} {q:List (Value×Value)} {v:Value},qput s d c q v=some s'->QS.le s s':=λh=>by
  unfold qput at h;split at h;injection h with h;subst h;exact⟨λp hp=>Wh _ hp,λp hp=>We _ hp⟩
  cases h
 have hk: ∀{d:Nat} {op:Op},qpk s d op=some s'->QS.le s s':=λh=>by
  unfold qpk at h;split at h;split at h;split at h;exact hp h;cases h;cases h;cases h
 have J: ∀{d:Nat} {g:Hint} {op:Op},qno P K s d g op=some s'->QS.le s s':=λh=>by
  unfold qno at h;split at h;exact hp h;cases h
 unfold q1 at H;split at H;cases H;split at H;split at H;split at H;exact hk H;exact J H;split at H;cases H;split at H;split at H;split at H;exact hp H;cases H;split at H;exact hk H;cases H;split at H;exact J H;cases H;split at H;cases H;split at H;split at H;split at H;injection H with H;subst H;exact⟨λp hp=>Wh _ hp,λp hp=>We _ hp⟩
 cases H;cases H;cases H;cases H;split at H;split at H;exact hp H;cases H;cases H;cases H;cases H
def qs_le: ∀{J:List Hint} {lst:List Oper} {s:QS},qs P K n ops J lst s=some s'->QS.le s s'
 | [],_,s,h=>by simp only[qs,Qr]at h;subst h;exact QS.le.refl _
 |h::J,[],s,H=>by simp[qs]at H
 |h::J,o::r,s,H=>by
  unfold qs at H;split at H;rename_i N L;exact(q1_le L).trans (qs_le H);cases H
def dqs_le {li':Array Bool}: ∀{is:List (Nat×Hint)} {li:Array Bool} {s:QS},dqs P K n ops is li s=some (li',s')->QS.le s s'
 | [],_,s,h=>by simp only[dqs,Qr,Yq]at h;rw[h.2];exact QS.le.refl _
 |(i,h)::r,li,s,H=>by
  unfold dqs at H;split at H;split at H;split at H;rename_i L J;exact(q1_le J).trans (dqs_le H);cases H;cases H;cases H
end
def lk_cat (nl l:List (Nat×Value))(d:Nat):lk (cat nl l) d=(lk nl d).or (lk l d):=by
 induction nl with
 |nil=>rfl
 |cons p r H=>
  obtain⟨e,v⟩:=p;show lk ((e,v)::cat r l) d=_;rw[Qbt,Qbt,H];split<;>rfl
def Qep {l:List (Nat×Value)}{ks:List Nat}{d:Nat}{v:Value}(H:d∈ks)(L:lk l d=some v):lk (kp l ks) d=some v:=by
 induction ks with
 |nil=>cases H
 |cons k r N=>
  unfold kp;by_cases hk:k=d;subst hk;rw[L];exact Qak _ _ _;have J:=N ((Qn.1 H).resolve_left λh=>hk h.symm);split;rw[Qai _ _ hk];exact J;exact J
def qfin_fr {V nl:List (Nat×Value)}{ks:List Nat}{cs:List Prop}{s:QS}{a:Act}{n:Nat}{ds:List Deferred}(J:s.ok a n ds)(hi:s.inv V)(h:qfin V ks s=some (cs,nl)):Fr a n ds (cat nl V)/\s.c=cs:=by
 unfold qfin at h;split at h;rename_i hall;injection h with h;injection h with Y h2
 refine⟨⟨J.fr.size,J.fr.defs,λd v H=>?_⟩,Y⟩;rw[lk_cat,<-h2]at H;cases hk:lk (kp s.l ks) d with
 |some u=>rw[hk]at H;injection H with H;subst H;exact J.fr.get d _ (lk_kp ks d _ hk)
 |none=>
  rw[hk]at H;have H:lk V d=some v:=H;by_cases W:d∈s.wr;have L:=Wv.1 hall d W;simp only[Yi,List.contains_iff_mem,Option.isNone_iff_eq_none,H]at L;have O:d∈ks:=by rcases L with L|L;exact L;cases L
  rcases hi.wrn d W with N|N|⟨u,N⟩
  obtain⟨u,hu⟩:=Option.isSome_iff_exists.1 N;rw[Qep O hu]at hk;cases hk;rw[H]at N;cases N;rw[Qep O N]at hk;cases hk;exact J.fr.get d v (by rw[hi.out d W];exact H)
 cases h
section
variable {r:Option Nat}{P:Program}{K:Kn}{ops:Array Oper}{Q:Exit->Act->World->Prop}{a:Act}{w:World}{n:Nat}{ds:List Deferred}
def qs_walk: ∀{H:List Hint} {lst:List Oper} {s s':QS} {a:Act},qs P K n ops H lst s=some s'->(∀p,p∈s'.c->p)->(∀p,p∈s'.q->p.1=p.2)->K.ok w->s.ok a n ds->(∀a',s'.ok a' n ds->WL r P ops Q (lst.drop H.length) a' w)->WL r P ops Q lst a w
 | [],_,s,s',a,hq,_,_,_,H,h=>by simp only[qs,Qr]at hq;subst hq;exact h a H
 |g::H,[],s,s',a,hq,_,_,_,_,_=>by simp[qs]at hq
 |g::H,o::lst,s,s',a,hq,O,V,W,L,h=>by
  unfold qs at hq;split at hq;rename_i s1 h1;have J:=qs_le hq;obtain⟨d,v,Y,k1,k2,k3⟩:=o_ch L h1 (λp hp=>O p (J.c p hp)) (λp hp=>V p (J.q p hp));have hrest:WL r P ops Q lst (a.put (some d) v) w:=qs_walk hq O V W k1 h;unfold WL wpListIn;rcases k3 with⟨N,hv⟩|⟨N,rfl⟩
  rw[Qc N];refine⟨λ_ _=>trivial,?_⟩;rw[Qhe (hv w W) (λ_ h=>by cases h)];show wpListIn _ _ _ _ _ _ (a.put o.dst v) w;rw[Y];exact hrest;rw[Qb (by rw[N];decide)];refine⟨λ_ _=>trivial,?_⟩;rw[Y];exact hrest;cases hq
def qs_inv {J:List (Nat×Value)}: ∀{H:List Hint} {lst:List Oper} {s s':QS},s.inv J->qs P K n ops H lst s=some s'->s'.inv J
 | [],_,s,s',hi,hq=>by simp only[qs,Qr]at hq;subst hq;exact hi
 |g::H,[],s,s',_,hq=>by simp[qs]at hq
 |g::H,o::lst,s,s',hi,hq=>by
  unfold qs at hq;split at hq;rename_i N L;exact qs_inv (q1_inv hi L) hq;cases hq
def dqs_inv {H:List (Nat×Value)}{li':Array Bool}: ∀{is:List (Nat×Hint)} {li:Array Bool} {s s':QS},s.inv H->dqs P K n ops is li s=some (li',s')->s'.inv H
 | [],_,s,s',hi,hq=>by simp only[dqs,Qr,Yq]at hq;rw[<-hq.2];exact hi
 |(i,h)::is,li,s,s',hi,hq=>by
  unfold dqs at hq;split at hq;split at hq;split at hq;rename_i L J;exact dqs_inv (q1_inv hi J) hq;cases hq;cases hq;cases hq
variable {l:List (Nat×Value)}
def q0 (l:List (Nat×Value)):QS:=⟨l,[],[],[],[]⟩
def o_ci (H:Fr a n ds l):(q0 l).ok a n ds:=⟨H,λt dj b v h=>by cases h⟩
def q0_inv (l:List (Nat×Value)):(q0 l).inv l:=⟨λ_ _=>rfl,λd h=>by cases h⟩
def Qdx: ∀{q:List (Value×Value)},q.map Prod.fst=q.map Prod.snd->∀p,p∈q->p.1=p.2
 | [],_,p,hp=>by cases hp
 |x::q,h,p,hp=>by
  simp only[Q7,Y8]at h;rcases Qn.1 hp with rfl|hp
  exact h.1;exact Qdx h.2 p hp
def qr {lst:List Oper}(J:List Hint)(ks:List Nat)(cs:List Prop)(nl:List (Nat×Value))(V:K.ok w)(W:Fr a n ds l)
  (h: ∀a',Fr a' n ds (cat nl l)->WL r P ops Q (lst.drop J.length) a' w)
  (Y:conj cs:=by first|exact trivial|(simp only[Go.Z.conj,Go.Z.R64];omega)|omega)
  (hq:((qs P K n ops J lst (q0 l)).bind (qfin l ks))=some (cs,nl):=by kernel_rfl)
  (L:(qs P K n ops J lst (q0 l)).map (λs=>s.q.map Prod.fst)=(qs P K n ops J lst (q0 l)).map (λs=>s.q.map Prod.snd):=by kernel_rfl):WL r P ops Q lst a w:=by
 cases H:qs P K n ops J lst (q0 l)with
 |none=>rw[H]at hq;cases hq
 |some s'=>
  rw[H]at hq L;have hq:qfin l ks s'=some (cs,nl):=hq;have L:s'.q.map Prod.fst=s'.q.map Prod.snd:=by injection L
  have N:s'.c=cs:=by unfold qfin at hq;split at hq;(injection hq with hq;injection hq);cases hq
  exact qs_walk H (by rw[N];exact Qfd Y) (Qdx L) V (o_ci W) λa' O=>h a' (qfin_fr O (qs_inv (q0_inv l) H) hq).1
def qreg {id:Nat}{lst:List Oper}(H:List Hint)(ks:List Nat)(cs:List Prop)(nl:List (Nat×Value))(J:K.ok w)(L:Fr a n ds l)
  (h: ∀a',Fr a' n ds (cat nl l)->Q .normal a' w)
  (N:conj cs:=by first|exact trivial|(simp only[Go.Z.conj,Go.Z.R64];omega)|omega)
  (O:lst.drop H.length=[]:=by kernel_rfl)
  (hq:((qs P K n lst.toArray H lst (q0 l)).bind (qfin l ks))=some (cs,nl):=by kernel_rfl)
  (V:(qs P K n lst.toArray H lst (q0 l)).map (λs=>s.q.map Prod.fst)=(qs P K n lst.toArray H lst (q0 l)).map (λs=>s.q.map Prod.snd):=by kernel_rfl):WP r P (Code.region id lst.toArray false) Q a w:=
 reg (qr H ks cs nl J L (λa' hf'=>by rw[O];exact h a' hf') N hq V)
def qseq {id:Nat}{lst:List Oper}{y:Code}(H:List Hint)(ks:List Nat)(cs:List Prop)(nl:List (Nat×Value))(J:K.ok w)(L:Fr a n ds l)
  (h: ∀a',Fr a' n ds (cat nl l)->WP r P y Q a' w)
  (N:conj cs:=by first|exact trivial|(simp only[Go.Z.conj,Go.Z.R64];omega)|omega)
  (O:lst.drop H.length=[]:=by kernel_rfl)
  (hq:((qs P K n lst.toArray H lst (q0 l)).bind (qfin l ks))=some (cs,nl):=by kernel_rfl)
  (V:(qs P K n lst.toArray H lst (q0 l)).map (λs=>s.q.map Prod.fst)=(qs P K n lst.toArray H lst (q0 l)).map (λs=>s.q.map Prod.snd):=by kernel_rfl):WP r P (Code.seq (Code.region id lst.toArray false) y) Q a w:=
 wpIn_seq (qreg H ks cs nl J L h N O hq V)
def qe {lst:List Oper}(H:List Hint)(ks:List Nat)(cs:List Prop)(nl:List (Nat×Value))(J:K.ok w)(L:Fr a n ds l)
  (h: ∀a',Fr a' n ds (cat nl l)->Q .normal a' w)
  (N:conj cs:=by first|exact trivial|(simp only[Go.Z.conj,Go.Z.R64];omega)|omega)
  (O:lst.drop H.length=[]:=by kernel_rfl)
  (hq:((qs P K n ops H lst (q0 l)).bind (qfin l ks))=some (cs,nl):=by kernel_rfl)
  (V:(qs P K n ops H lst (q0 l)).map (λs=>s.q.map Prod.fst)=(qs P K n ops H lst (q0 l)).map (λs=>s.q.map Prod.snd):=by kernel_rfl):WL r P ops Q lst a w:=
 qr H ks cs nl J L (λa' hf'=>by rw[O];exact h a' hf') N hq V
variable {S:World->Prop}
end
end Go.Z
end
section
namespace Go.Proofs.YtpoabedecgeamaaGreatDoor
@[reducible] def T62:Z.Ty:=(Z.Ty.pair (Z.Ty.int .i64) (Z.Ty.pair (Z.Ty.int .i64) Z.Ty.str))
abbrev D62:Type:=Int×Int×ByteArray
@[reducible] def T64:Z.Ty:=(Z.Ty.pair (Z.Ty.int .i64) (Z.Ty.pair (Z.Ty.int .i64) (Z.Ty.pair (Z.Ty.slice (Z.Ty.int .i64)) (Z.Ty.pair T62 (Z.Ty.pair Z.Ty.str (Z.Ty.pair (Z.Ty.int .i64) (Z.Ty.int .i64)))))))
abbrev D64:Type:=Int×Int×(List Int)×D62×ByteArray×Int×Int
@[reducible] def T23:Z.Ty:=(Z.Ty.slice T64)
abbrev D23:Type:=(List D64)
@[reducible] def T36:Z.Ty:=(Z.Ty.pair (Z.Ty.int .i64) (Z.Ty.int .i64))
abbrev D36:Type:=Int×Int
@[reducible] def T38:Z.Ty:=(Z.Ty.pair (Z.Ty.int .i64) (Z.Ty.pair (Z.Ty.int .i64) (Z.Ty.pair (Z.Ty.int .i64) (Z.Ty.int .i64))))
abbrev D38:Type:=Int×Int×Int×Int
@[reducible] def T59:Z.Ty:=(Z.Ty.pair (Z.Ty.int .i64) (Z.Ty.pair (Z.Ty.int .i64) (Z.Ty.pair Z.Ty.str (Z.Ty.int .i64))))
abbrev D59:Type:=Int×Int×ByteArray×Int
abbrev D73:Type:=(List UInt8)×Int
abbrev D114:Type:=(List UInt8)
@[reducible] def T181:Z.Ty:=(Z.Ty.pair T36 (Z.Ty.int .i64))
abbrev D181:Type:=D36×Int
@[reducible] def T218:Z.Ty:=(Z.Ty.pair (Z.Ty.int .i64) (Z.Ty.pair (Z.Ty.int .i64) (Z.Ty.pair (Z.Ty.int .i64) (Z.Ty.pair (Z.Ty.int .i64) T38))))
abbrev D218:Type:=Int×Int×Int×Int×D38
@[reducible] def T220:Z.Ty:=(Z.Ty.pair T36 (Z.Ty.pair T36 T218))
abbrev D220:Type:=D36×D36×D218
abbrev D184:Type:=Bool×(List UInt8)×Int
@[reducible] def T259:Z.Ty:=(Z.Ty.pair (Z.Ty.int .i64) (Z.Ty.int .i32))
abbrev D259:Type:=Int×Int
abbrev CF (n:Nat):Prop:=∀(args:Array Value) (w:World),(callFunc n args).run Tryz.prog w=.ok (.enter n args) w
def cf5:CF 5:=λ_ _=>by kernel_rfl
def cf6:CF 6:=λ_ _=>by kernel_rfl
def cf7:CF 7:=λ_ _=>by kernel_rfl
def cf8:CF 8:=λ_ _=>by kernel_rfl
def cf9:CF 9:=λ_ _=>by kernel_rfl
def cf10:CF 10:=λ_ _=>by kernel_rfl
def cf11:CF 11:=λ_ _=>by kernel_rfl
def cf12:CF 12:=λ_ _=>by kernel_rfl
def cf18:CF 18:=λ_ _=>by kernel_rfl
def cf19:CF 19:=λ_ _=>by kernel_rfl
def cf20:CF 20:=λ_ _=>by kernel_rfl
def cf21:CF 21:=λ_ _=>by kernel_rfl
def cf22:CF 22:=λ_ _=>by kernel_rfl
def cf23:CF 23:=λ_ _=>by kernel_rfl
def cf24:CF 24:=λ_ _=>by kernel_rfl
def cf25:CF 25:=λ_ _=>by kernel_rfl
def cf26:CF 26:=λ_ _=>by kernel_rfl
def cf27:CF 27:=λ_ _=>by kernel_rfl
def cf28:CF 28:=λ_ _=>by kernel_rfl
def cf29:CF 29:=λ_ _=>by kernel_rfl
def cf30:CF 30:=λ_ _=>by kernel_rfl
def cf31:CF 31:=λ_ _=>by kernel_rfl
def cf41:CF 41:=λ_ _=>by kernel_rfl
def cf42:CF 42:=λ_ _=>by kernel_rfl
def cf43:CF 43:=λ_ _=>by kernel_rfl
def cf44:CF 44:=λ_ _=>by kernel_rfl
def cf45:CF 45:=λ_ _=>by kernel_rfl
def cf46:CF 46:=λ_ _=>by kernel_rfl
def cf47:CF 47:=λ_ _=>by kernel_rfl
def cf48:CF 48:=λ_ _=>by kernel_rfl
def cf49:CF 49:=λ_ _=>by kernel_rfl
def cf50:CF 50:=λ_ _=>by kernel_rfl
def cf51:CF 51:=λ_ _=>by kernel_rfl
def cf52:CF 52:=λ_ _=>by kernel_rfl
def cf53:CF 53:=λ_ _=>by kernel_rfl
def cf54:CF 54:=λ_ _=>by kernel_rfl
def cf55:CF 55:=λ_ _=>by kernel_rfl
def cf56:CF 56:=λ_ _=>by kernel_rfl
def cf57:CF 57:=λ_ _=>by kernel_rfl
def cf58:CF 58:=λ_ _=>by kernel_rfl
def cf59:CF 59:=λ_ _=>by kernel_rfl
def cf60:CF 60:=λ_ _=>by kernel_rfl
def cf61:CF 61:=λ_ _=>by kernel_rfl
def cf62:CF 62:=λ_ _=>by kernel_rfl
def cf63:CF 63:=λ_ _=>by kernel_rfl
def cf64:CF 64:=λ_ _=>by kernel_rfl
def cf65:CF 65:=λ_ _=>by kernel_rfl
def cf66:CF 66:=λ_ _=>by kernel_rfl
def cf67:CF 67:=λ_ _=>by kernel_rfl
def cf68:CF 68:=λ_ _=>by kernel_rfl
def cf69:CF 69:=λ_ _=>by kernel_rfl
def cf70:CF 70:=λ_ _=>by kernel_rfl
def cf79:CF 79:=λ_ _=>by kernel_rfl
def cf80:CF 80:=λ_ _=>by kernel_rfl
def cf92:CF 92:=λ_ _=>by kernel_rfl
def cf93:CF 93:=λ_ _=>by kernel_rfl
def cf94:CF 94:=λ_ _=>by kernel_rfl
def cf95:CF 95:=λ_ _=>by kernel_rfl
def cf96:CF 96:=λ_ _=>by kernel_rfl
def cf97:CF 97:=λ_ _=>by kernel_rfl
def cf98:CF 98:=λ_ _=>by kernel_rfl
def cf99:CF 99:=λ_ _=>by kernel_rfl
def cf100:CF 100:=λ_ _=>by kernel_rfl
def cf101:CF 101:=λ_ _=>by kernel_rfl
def cf102:CF 102:=λ_ _=>by kernel_rfl
def cf103:CF 103:=λ_ _=>by kernel_rfl
def cf104:CF 104:=λ_ _=>by kernel_rfl
def cf105:CF 105:=λ_ _=>by kernel_rfl
def cf106:CF 106:=λ_ _=>by kernel_rfl
def cf107:CF 107:=λ_ _=>by kernel_rfl
def cf108:CF 108:=λ_ _=>by kernel_rfl
def cf109:CF 109:=λ_ _=>by kernel_rfl
def cf110:CF 110:=λ_ _=>by kernel_rfl
def cf111:CF 111:=λ_ _=>by kernel_rfl
def cf112:CF 112:=λ_ _=>by kernel_rfl
def cf113:CF 113:=λ_ _=>by kernel_rfl
def cf114:CF 114:=λ_ _=>by kernel_rfl
def cf115:CF 115:=λ_ _=>by kernel_rfl
def cf116:CF 116:=λ_ _=>by kernel_rfl
def cf117:CF 117:=λ_ _=>by kernel_rfl
def cf118:CF 118:=λ_ _=>by kernel_rfl
def cf119:CF 119:=λ_ _=>by kernel_rfl
def cf122:CF 122:=λ_ _=>by kernel_rfl
def cf126:CF 126:=λ_ _=>by kernel_rfl
def cf127:CF 127:=λ_ _=>by kernel_rfl
def cf128:CF 128:=λ_ _=>by kernel_rfl
def cf129:CF 129:=λ_ _=>by kernel_rfl
def cf130:CF 130:=λ_ _=>by kernel_rfl
def cf131:CF 131:=λ_ _=>by kernel_rfl
def cf132:CF 132:=λ_ _=>by kernel_rfl
def cf133:CF 133:=λ_ _=>by kernel_rfl
def cf134:CF 134:=λ_ _=>by kernel_rfl
def cf135:CF 135:=λ_ _=>by kernel_rfl
def cf136:CF 136:=λ_ _=>by kernel_rfl
def cf137:CF 137:=λ_ _=>by kernel_rfl
def cf138:CF 138:=λ_ _=>by kernel_rfl
def cf139:CF 139:=λ_ _=>by kernel_rfl
def cf140:CF 140:=λ_ _=>by kernel_rfl
def cf141:CF 141:=λ_ _=>by kernel_rfl
def cf142:CF 142:=λ_ _=>by kernel_rfl
def cf143:CF 143:=λ_ _=>by kernel_rfl
def cf144:CF 144:=λ_ _=>by kernel_rfl
def cf145:CF 145:=λ_ _=>by kernel_rfl
def cf146:CF 146:=λ_ _=>by kernel_rfl
def cf147:CF 147:=λ_ _=>by kernel_rfl
def cf148:CF 148:=λ_ _=>by kernel_rfl
def cf149:CF 149:=λ_ _=>by kernel_rfl
def cf150:CF 150:=λ_ _=>by kernel_rfl
def cf151:CF 151:=λ_ _=>by kernel_rfl
def cf152:CF 152:=λ_ _=>by kernel_rfl
def cf153:CF 153:=λ_ _=>by kernel_rfl
def cf154:CF 154:=λ_ _=>by kernel_rfl
def cf155:CF 155:=λ_ _=>by kernel_rfl
def cf156:CF 156:=λ_ _=>by kernel_rfl
def cf157:CF 157:=λ_ _=>by kernel_rfl
def cf158:CF 158:=λ_ _=>by kernel_rfl
def cf159:CF 159:=λ_ _=>by kernel_rfl
def cf160:CF 160:=λ_ _=>by kernel_rfl
def cf161:CF 161:=λ_ _=>by kernel_rfl
def cf162:CF 162:=λ_ _=>by kernel_rfl
def cf163:CF 163:=λ_ _=>by kernel_rfl
def cf164:CF 164:=λ_ _=>by kernel_rfl
def cf165:CF 165:=λ_ _=>by kernel_rfl
def cf166:CF 166:=λ_ _=>by kernel_rfl
def cf167:CF 167:=λ_ _=>by kernel_rfl
def cf168:CF 168:=λ_ _=>by kernel_rfl
def cf170:CF 170:=λ_ _=>by kernel_rfl
def cf171:CF 171:=λ_ _=>by kernel_rfl
def cf172:CF 172:=λ_ _=>by kernel_rfl
def cf173:CF 173:=λ_ _=>by kernel_rfl
def cf174:CF 174:=λ_ _=>by kernel_rfl
def cf175:CF 175:=λ_ _=>by kernel_rfl
def cf176:CF 176:=λ_ _=>by kernel_rfl
def cf177:CF 177:=λ_ _=>by kernel_rfl
def cf178:CF 178:=λ_ _=>by kernel_rfl
def cf179:CF 179:=λ_ _=>by kernel_rfl
def cf180:CF 180:=λ_ _=>by kernel_rfl
def cf181:CF 181:=λ_ _=>by kernel_rfl
def cf182:CF 182:=λ_ _=>by kernel_rfl
def mixed:Tryz.prog.follows .mixedOrders=true:=by kernel_rfl
def nz125: ∀(args:Array Value) (w:World),(callFunc 125 args).run Tryz.prog w=((Extern.BytealgMakeNoZero.makeNoZero #[3] #[25] args).run Tryz.prog w).andThen λv w'=>.ok (.value v) w':=λargs w=>run_callFunc_extern Tryz.func125 (by kernel_rfl) (by kernel_rfl) (by kernel_rfl) (e:=Extern.BytealgMakeNoZero.makeNoZero #[3] #[25]) (by kernel_rfl) args w
def inf3:Tryz.prog.info? 3=some Tryz.t3/\Tryz.t3.zero=some (.int .i64 0)/\Tryz.t3.size=1/\Tryz.t3.bytes=8/\Array.size (Value.cells (.int .i64 0))=1:=⟨by kernel_rfl,rfl,rfl,rfl,rfl⟩
def inf4:Tryz.prog.info? 4=some Tryz.t4/\Tryz.t4.zero=some (.bool false)/\Tryz.t4.size=1/\Tryz.t4.bytes=1/\Array.size (Value.cells (.bool false))=1:=⟨by kernel_rfl,rfl,rfl,rfl,rfl⟩
def inf5:Tryz.prog.info? 5=some Tryz.t5/\Tryz.t5.zero=some (.int .u8 0)/\Tryz.t5.size=1/\Tryz.t5.bytes=1/\Array.size (Value.cells (.int .u8 0))=1:=⟨by kernel_rfl,rfl,rfl,rfl,rfl⟩
def inf5.sz:(Tryz.prog.info? 5).map (·.size)=some 1:=by rw[inf5.1];rfl
def inf37:Tryz.prog.info? 37=some Tryz.t37/\Tryz.t37.zero=some (.agg #[.int .i64 0,.int .i64 0])/\Tryz.t37.size=2/\Tryz.t37.bytes=16/\Array.size (Value.cells (.agg #[.int .i64 0,.int .i64 0]))=2:=⟨by kernel_rfl,rfl,rfl,rfl,rfl⟩
def inf65:Tryz.prog.info? 65=some Tryz.t65/\Tryz.t65.zero=some (.agg #[.int .i64 0,.int .i64 0,.slice none 0 0,.int .i64 0,.int .i64 0,.string (ByteArray.mk #[]),.string (ByteArray.mk #[]),.int .i64 0,.int .i64 0])/\Tryz.t65.size=9/\Tryz.t65.bytes=104/\Array.size (Value.cells (.agg #[.int .i64 0,.int .i64 0,.slice none 0 0,.int .i64 0,.int .i64 0,.string (ByteArray.mk #[]),.string (ByteArray.mk #[]),.int .i64 0,.int .i64 0]))=9:=⟨by kernel_rfl,rfl,rfl,rfl,rfl⟩
def inf182:Tryz.prog.info? 182=some Tryz.t182/\Tryz.t182.zero=some (.agg #[.int .i64 0,.int .i64 0,.int .i64 0])/\Tryz.t182.size=3/\Tryz.t182.bytes=24/\Array.size (Value.cells (.agg #[.int .i64 0,.int .i64 0,.int .i64 0]))=3:=⟨by kernel_rfl,rfl,rfl,rfl,rfl⟩
def inf221:Tryz.prog.info? 221=some Tryz.t221/\Tryz.t221.zero=some (.agg #[.int .i64 0,.int .i64 0,.int .i64 0,.int .i64 0,.int .i64 0,.int .i64 0,.int .i64 0,.int .i64 0,.int .i64 0,.int .i64 0,.int .i64 0,.int .i64 0])/\Tryz.t221.size=12/\Tryz.t221.bytes=96/\Array.size (Value.cells (.agg #[.int .i64 0,.int .i64 0,.int .i64 0,.int .i64 0,.int .i64 0,.int .i64 0,.int .i64 0,.int .i64 0,.int .i64 0,.int .i64 0,.int .i64 0,.int .i64 0]))=12:=⟨by kernel_rfl,rfl,rfl,rfl,rfl⟩
def inf260:Tryz.prog.info? 260=some Tryz.t260/\Tryz.t260.zero=some (.agg #[.int .i64 0,.int .i32 0])/\Tryz.t260.size=2/\Tryz.t260.bytes=16/\Array.size (Value.cells (.agg #[.int .i64 0,.int .i32 0]))=2:=⟨by kernel_rfl,rfl,rfl,rfl,rfl⟩
end Go.Proofs.YtpoabedecgeamaaGreatDoor
end
section
namespace Go.Z
open Go.RowKit
def bindl:List Nat->List Value->List (Nat×Value)->List (Nat×Value)
 |p::ps,v::vs,l=>bindl ps vs ((p,v)::l)
 |_,_,l=>l
abbrev mkD (D:Nat):Deferred:={target:=.collected D,args:=#[]}
def Dfr (w:World)(D:Nat):Prop:=w.heap[D]?=some (.deferred (some []))
def Dfr.lt {w:World}{D:Nat}(h:Dfr w D):D<w.heap.size:=(Qv.1 h).1
def Dfr.ch {w w':World}{D:Nat}{S:List Nat}(h:Dfr w D)(H:Ch S w w')(J:D∉S):Dfr w' D:=(H.block D h.lt J).trans h
def Ch.putObj (w:World)(r:Nat)(o:Obj):Ch [r] w (w.putObj r o):=
 ⟨rfl,rfl,rfl,by simp,λk _ H=>World.putObj_heap_other (by simpa using H)⟩
def RP (D:Nat)(I:Nat->World->Prop)(X:Exit->World->Prop)(k:Nat)(W:World)(e:Exit)(W':World):Prop:=
 (∃S,Ch S W W'/\D∉S/\D+1∉S)/\match e with
  | .normal=>I (k+1) W'
  | .ret=>X .ret W'
  | .exit id=>X (.exit id) W'
  |_=>False
def RQ (D:Nat)(I:Nat->World->Prop)(X:Exit->World->Prop)(k:Nat)(W:World):Exit->Act->World->Prop:=λe _ W'=>RP D I X k W e W'
section
variable {P:Program}{Q:Exit->Act->World->Prop}{a:Act}{w:World}{n:Nat}{ds:List Deferred}{l:List (Nat×Value)}
def bind_fr: ∀(ps:List Nat) (args:List Value) {l:List (Nat×Value)} {t:Array Value},(∀p,p∈ps->p<n)->Fr ⟨t,[]⟩ n [] l->Fr ⟨(ps.zip args).foldl (λt (p,v)=>t.setIfInBounds p v) t,[]⟩ n [] (bindl ps args l)
 | [],_,_,_,_,h=>h
 |_::_,[],_,_,_,h=>h
 |p::ps,v::args,_,_,hp,h=>bind_fr ps args (λq hq=>hp q (Qh _ hq)) (h.put (d:=p) (hp p (Ql ..)) v)
section
variable {r:Option Nat}
end
section
variable {d:Option Tmp}{T:TypeId}{pos:String}{af:Array Edge}{gd:Option (Nat×Bool)}{t ty:TypeId}{x:Operand}{fn:Fn}{f c:Array Value}{p q:Array TypeId}{va:Bool}
end
def enterM {f:FuncId}{fn:Func}{c:Code}{vs:List Value}{m:Nat}{R:Ending->World->Prop}(H:P.funcs[f]?=some fn)(J:fn.body=some c)(L:fn.ntmps=m)(N:vs.length<=m)
  (h: ∀a,Fr a m [] (argl vs 0)->WP none P c (bodyPostM (FW none) 0 P fn R) a w):Calls P f vs.toArray w R:=by
 refine callsIn_wide.1 (callsIn_of_wp_marks (F:=FW none) (n:=0) H J trivial (h _ ?_));subst L;exact Fr.entry vs _ N
def marks:List Nat->List Deferred
 | []=>[]
 |D::r=>mkD D::marks r
def leavesM {fn:Func}{R:Ending->World->Prop}: ∀{Ds:List Nat} {w:World} {tmps:Array Value},(∀D,D∈Ds->Dfr w D)->Ds.Nodup->(∀w',Ch Ds w w'->w'.heap.size=w.heap.size->∃v,(results fn tmps).run P w'=.ok v w'/\R (.returned v) w')->
  LeavesInM (FW none) 0 P fn tmps R (marks Ds) .returning w
 | [],w,tmps,_,_,h=>by
  obtain⟨v,L,N⟩:=h w (Ch.refl w) rfl;exact⟨v,L,N⟩
 |D::Ds,w,tmps,H,J,h=>by
  refine⟨by simp,.inl ⟨D,_,rfl,run_takeDeferred (H D (Ql ..)),leavesM (λD' hD'=>?_) (W5.1 J).2 λw' O V=>h w' ?_ (by rw[V];simp)⟩⟩;exact(H D' (Qh _ hD')).ch (Ch.putObj _ _ _) (by simp only[Qk];rintro rfl;exact(W5.1 J).1 hD');exact(Ch.putObj w D _).then O (λi hi=>.inl (by simp at hi;simp[hi])) (λi hi=>.inl (Qh _ hi))
def retM {fn:Func}{R:Ending->World->Prop}{Ds:List Nat}(H:Fr a n (marks Ds) l)(J: ∀D,D∈Ds->Dfr w D)(L:Ds.Nodup)
  (h: ∀w',Ch Ds w w'->w'.heap.size=w.heap.size->∃v,(results fn a.tmps).run P w'=.ok v w'/\R (.returned v) w'):bodyPostM (FW none) 0 P fn R .ret a w:=by
 show LeavesInM _ _ _ _ _ _ a.defers _ _;rw[H.defs];exact leavesM J L h
def res0 {fn:Func}(h:fn.results=#[])(w:World):(results fn a.tmps).run P w=.ok (.tuple #[]) w:=results_none h _ _ _
end
section
variable {r:Option Nat}{P:Program}{ops:Array Oper}{Q:Exit->Act->World->Prop}{a:Act}{w:World}{rest:List Oper}{n:Nat}{ds:List Deferred}{l:List (Nat×Value)}
def callY {d:Nat}{T:TypeId}{pos:String}{af:Array Edge}{c:Operand}{xs:List Operand}{ts:Array TypeId}{lid:Nat}{vs:List Value}{R:Ending->World->Prop}(H:Fr a n ds l)(J:Nat.ble (d+1) n=true)
  (L:ev l c=some (.func (.yield lid) #[] #[])) (N:evs l xs=some vs) (O:YieldAt (FW none) 0 P lid vs.toArray w R) (h: ∀e w',R e w'->∃v,e=.returned v/\∀a',Fr a' n ds ((d,v)::l)->WL none P ops Q rest a' w'):
  WL none P ops Q (⟨some d,.call {callee:=.value c,args:=xs.toArray,argTypes:=ts},T,pos,af,none⟩::rest) a w:=by
 obtain⟨fn,tmps,assign,body,V,W⟩:=O;have Y:=H.evals xs N;have h2:=H.eval L;refine stepw (x:=.round lid fn tmps assign body) (w':=w) rfl ?_ (λ_ h=>by cases h) λK hK=>⟨(λh=>by cases h),W.mono λe w' he=>?_⟩;simp only[execOp,resolve,Y,h2];simp[Deferred.ofValue,invoke,V];obtain⟨v,rfl,hv⟩:=h e w' he;exact hK _ _ (hv _ (H.put (Qq J) v))
end
structure Ky (P:Program) (kt:TypeId) {κ:Type} [DecidableEq κ] (enc:κ->Value):Prop where
 check: ∀b k w,(Instr.checkKey b 10000 kt (enc k)).run P w=.ok () w
 eq: ∀a b w,(Op.equal kt (enc a) (enc b)).run P w=.ok (decide (a=b)) w
 now: ∃d,P.underlying kt=some d/\((∀a b,Instr.sameNow d (enc a) (enc b)=some (decide (a=b)))\/(∀a b,Instr.sameNow d (enc a) (enc b)=none))
 bits: ∀a,Instr.sameBits 10000 (enc a) (enc a)=true
section
variable {κ:Type}[DecidableEq κ]{α:Type}
def loc (k:κ):List κ->Option Nat
 | []=>none
 |a::r=>if k=a then some 0 else(loc k r).map (· +1)
def mget (z:α):List (κ×α)->κ->α
 | [],_=>z
 |(a,x)::r,k=>if k=a then x else mget z r k
def mhas:List (κ×α)->κ->Bool
 | [],_=>false
 |(a,_)::r,k=>if k=a then true else mhas r k
def mins:List (κ×α)->κ->α->List (κ×α)
 | [],k,x=>[(k,x)]
 |(a,y)::r,k,x=>if k=a then(a,x)::r else(a,y)::mins r k x
def mget_ins (z:α)(m:List (κ×α))(k j:κ)(x:α):mget z (mins m k x) j=if j=k then x else mget z m j:=by
 induction m with
 |nil=>simp[mins,mget]
 |cons p r J=>
  obtain⟨a,y⟩:=p;unfold mins;by_cases h:k=a;subst h;rw[Qc rfl];simp only[mget];by_cases H:j=k;rw[Qc H,Qc H];rw[Qb H,Qb H,Qb H];rw[Qb h];simp only[mget,J];by_cases H:j=a;subst H;rw[Qc rfl,Qb (λe=>h e.symm),Qc rfl];rw[Qb H,Qb H]
def mhas_ins (m:List (κ×α))(k j:κ)(x:α):mhas (mins m k x) j=(decide (j=k)||mhas m j):=by
 induction m with
 |nil=>by_cases h:j=k<;>simp[mins,mhas,h]
 |cons p r J=>
  obtain⟨a,y⟩:=p;unfold mins;by_cases h:k=a;subst h;rw[Qc rfl];simp only[mhas];by_cases H:j=k<;>simp[H];rw[Qb h];simp only[mhas,J];by_cases H:j=a<;>simp[H]
def Qdj {z:α}{m:List (κ×α)}{k:κ}(h:mhas m k=false):mget z m k=z:=by
 induction m with
 |nil=>rfl
 |cons p r H=>
  obtain⟨a,y⟩:=p;simp only[mhas]at h;by_cases hk:k=a;simp[hk]at h;rw[Qb hk]at h;simp only[mget];rw[Qb hk];exact H h
def mget_mem {z:α}{m:List (κ×α)}{k:κ}(h:mhas m k=true):(k,mget z m k)∈m:=by
 induction m with
 |nil=>simp[mhas]at h
 |cons p r H=>
  obtain⟨a,y⟩:=p;simp only[mhas]at h;by_cases hk:k=a;subst hk;simp[mget];rw[Qb hk]at h;simp only[mget];rw[Qb hk];exact Qh _ (H h)
def Qhu (m:List (κ×α))(k:κ):loc k (m.map Prod.fst)=none↔mhas m k=false:=by
 induction m with
 |nil=>simp[loc,mhas]
 |cons p r H=>
  obtain⟨a,y⟩:=p;simp only[Q7,loc,mhas];by_cases h:k=a;simp[h];rw[Qb h,Qb h,Option.map_eq_none_iff,H]
def Qfg {m:List (κ×α)}{k:κ}{i:Nat}(h:loc k (m.map Prod.fst)=some i)(z:α):m[i]?=some (k,mget z m k):=by
 induction m generalizing i with
 |nil=>simp[loc]at h
 |cons p r H=>
  obtain⟨a,y⟩:=p;simp only[Q7,loc]at h;by_cases hk:k=a;subst hk;simp at h;subst h;simp[mget];rw[Qb hk,Option.map_eq_some_iff]at h;obtain⟨j,J,rfl⟩:=h;simp only[W7,mget];rw[Qb hk];exact H J
def Qbe {m:List (κ×α)}{k:κ}(x:α):mins m k x=match loc k (m.map Prod.fst)with
  |some i=>m.modify i λp=>(p.1,x)
  |none=>m++[(k,x)]:=by
 induction m with
 |nil=>simp[mins,loc]
 |cons p r H=>
  obtain⟨a,y⟩:=p;simp only[Q7,loc,mins];by_cases hk:k=a;subst hk;simp;rw[Qb hk,Qb hk,H];cases loc k (r.map Prod.fst)<;>simp
end
section
variable {P:Program}{kt:TypeId}{κ:Type}[DecidableEq κ]{enc:κ->Value}
def Qcr {d:TypeDesc}(h: ∀a b,Instr.sameNow d (enc a) (enc b)=some (decide (a=b)))(k:κ): ∀(es:List MapEntry) (ks:List κ) (n:Nat),es.map (·.key)=ks.map enc->
  Instr.findNow d (enc k) es n=some ((loc k ks).bind λi=>(es[i]?).map λe=>(n+i,e.val))
 | [],[],n,_=>rfl
 | [],_::_,_,h=>by cases h
 |_::_,[],_,h=>by cases h
 |e::es,a::ks,n,hk=>by
  simp only[Q7,Y8]at hk;unfold Instr.findNow;rw[hk.1,h];by_cases H:k=a;simp[loc,H];simp only[H,decide_false,loc,Wb];rw[Qcr h k es ks (n+1) hk.2];cases loc k ks with
  |none=>rfl
  |some i=>simp[Xx,Yg 1 i]
def Qbp (h: ∀a b w,(Op.equal kt (enc a) (enc b)).run P w=.ok (decide (a=b)) w)(k:κ)(w:World): ∀(es:List MapEntry) (ks:List κ) (n:Nat),es.map (·.key)=ks.map enc->
  (Instr.findAsking kt (enc k) es n).run P w=.ok ((loc k ks).bind λi=>(es[i]?).map λe=>(n+i,e.val)) w
 | [],[],n,_=>rfl
 | [],_::_,_,h=>by cases h
 |_::_,[],_,h=>by cases h
 |e::es,a::ks,n,hk=>by
  simp only[Q7,Y8]at hk;unfold Instr.findAsking;rw[Sem.run_bind,hk.1,h,Result.andThen_ok];by_cases H:k=a;simp[loc,H];simp only[H,decide_false,loc,Wb,Qw];rw[Qbp h k w es ks (n+1) hk.2];cases loc k ks with
  |none=>rfl
  |some i=>simp[Xx,Yg 1 i]
def Qbs (K:Ky P kt enc)(k:κ)(w:World)(es:List MapEntry)(ks:List κ)(h:es.map (·.key)=ks.map enc):
  (Instr.findKey kt (enc k) es).run P w=.ok ((loc k ks).bind λi=>(es[i]?).map λe=>(i,e.val)) w:=by
 obtain⟨d,J,H⟩:=K.now;unfold Instr.findKey;rw[Sem.run_bind,run_underlying J,Result.andThen_ok];rcases H with H|H
 rw[Qcr H k es ks 0 h];simp only[Sem.run_pure,W9];cases es with
 |nil=>
  cases ks with
  |nil=>rfl
  |cons a ks=>cases h
 |cons e es=>
  have:Instr.findNow d (enc k) (e::es) 0=none:=by
   cases ks with
   |nil=>cases h
   |cons a ks=>
    simp only[Q7,Y8]at h;unfold Instr.findNow;rw[h.1,H]
  rw[this];have:=Qbp K.eq k w (e::es) ks 0 h;simpa using this
end
def MapC (w:World)(b:Nat)(es:List (Value×Value)):Prop:=
 ∃(arr:List MapEntry) (clock:Nat),w.heap[b]?=some (.map arr.toArray clock)/\arr.map (λe=>(e.key,e.val))=es/\(∀e,e∈arr->e.born<clock)/\(arr.map (·.born)).Nodup
def MapC.lt {w:World}{b:Nat}{es:List (Value×Value)}(h:MapC w b es):b<w.heap.size:=by obtain⟨_,_,h,_⟩:=h;exact(Qv.1 h).1
def MapC.ch {w w':World}{b:Nat}{es:List (Value×Value)}{S:List Nat}(h:MapC w b es)(H:Ch S w w')(J:b∉S):MapC w' b es:=by
 have L:=h.lt;obtain⟨arr,c,N,O⟩:=h;exact⟨arr,c,(H.block b L J).trans N,O⟩
def vof (agg:Bool)(cs:List Value):Value:=bif agg then .agg cs.toArray else cs.headD undef
def Mt {κ:Type}(enc:κ->Value)(t:Ty)(agg:Bool)(w:World)(F:Nat->Prop)(b:Nat)(m:List (κ×t.den)):Prop:=
 ∃es,MapC w b es/\es.length=m.length/\∀(i:Nat) (p:κ×t.den),m[i]?=some p->∃cs,es[i]?=some (enc p.1,vof agg cs)/\t.rep w F cs p.2
section
variable {κ:Type}{enc:κ->Value}{t:Ty}{agg:Bool}{w w':World}{F F':Nat->Prop}{b:Nat}{m:List (κ×t.den)}
def Mt.lt (h:Mt enc t agg w F b m):b<w.heap.size:=by obtain⟨_,h,_⟩:=h;exact h.lt
def Mt.to {S:List Nat}(h:Mt enc t agg w F b m)(H:Ch S w w')(J:b∉S)(L: ∀b,F b->b<w.heap.size->b∉S/\F' b):Mt enc t agg w' F' b m:=by
 obtain⟨es,N,O,V⟩:=h;refine⟨es,N.ch H J,O,λi p hp=>?_⟩;obtain⟨cs,W,Y⟩:=V i p hp;exact⟨cs,W,rep_to Y H L⟩
end
section
variable {r:Option Nat}{P:Program}{ops:Array Oper}{Q:Exit->Act->World->Prop}{a:Act}{w:World}{rest:List Oper}{n:Nat}{ds:List Deferred}{l:List (Nat×Value)}{d:Nat}{T:TypeId}{pos:String}{af:Array Edge}
variable {κ:Type}{enc:κ->Value}{tt:TypeId}{t:Ty}{agg:Bool}{F:Nat->Prop}{m:List (κ×t.den)}
def st_makeMap {x:Option Operand}(H:x=none)(J:Fr a n ds l)(L:Nat.ble (d+1) n=true)(enc:κ->Value)(t:Ty)(agg:Bool)(F:Nat->Prop)
  (h: ∀g w' a',g=w.heap.size->w'.heap.size=g+1->Mt enc t agg w' F g []->Ch [] w w'->Fr a' n ds ((d,.map (some g))::l)->WL r P ops Q rest a' w'):
  WL r P ops Q (⟨some d,.makeMap tt x,T,pos,af,none⟩::rest) a w:=by
 subst H;refine valw (w':=w.alloc (.map #[] 0)) (v:=.map (some w.heap.size)) J L (by simp[execOp,Instr.makeMap]) λa' hf'=>h _ _ a' rfl (by simp) ⟨[],⟨[],0,heap_alloc_new w _,rfl,by simp,by simp⟩,rfl,λi p hp=>by simp at hp⟩ (Ch.alloc w _) hf'
def keys_of {arr:List MapEntry}{es:List (Value×Value)}(J:arr.map (λe=>(e.key,e.val))=es)(V:es.length=m.length)(L: ∀(i:Nat) (p:κ×t.den),m[i]?=some p->∃cs,es[i]?=some (enc p.1,vof agg cs)/\t.rep w F cs p.2):arr.map (·.key)=(m.map Prod.fst).map enc:=by
 have N:arr.map (·.key)=es.map Prod.fst:=by rw[<-J,List.map_map];rfl
 rw[N];refine Xc λi=>?_;simp only[Qy];cases H:m[i]? with
 |none=>
  have:=List.getElem?_eq_none_iff.1 H;rw[Wn (by omega)];rfl
 |some p=>
  obtain⟨cs,O,_⟩:=L i p H;rw[O];rfl
end
section
variable {r:Option Nat}{P:Program}{ops:Array Oper}{Q:Exit->Act->World->Prop}{a:Act}{w:World}{rest:List Oper}{n:Nat}{ds:List Deferred}{l:List (Nat×Value)}{d:Nat}{T:TypeId}{pos:String}{af:Array Edge}
variable {κ:Type}[DecidableEq κ]{enc:κ->Value}{kt et tt:TypeId}{t:Ty}{agg:Bool}{F:Nat->Prop}{b:Nat}{m:List (κ×t.den)}
def run_lookup {x:Value}{zs:List Value}(K:Ky P kt enc)(W:P.underlying tt=some (.map kt et))(hz: ∀w,(zeroValue et).run P w=.ok (vof agg zs) w){z:t.den}(N:t.rep w F zs z)(hm:Mt enc t agg w F b m)(hx:x=.map (some b))(k:κ)(ok:Bool):
  ∃cs,(Instr.lookup tt x (enc k) ok).run P w=.ok (if ok then .tuple #[vof agg cs,.bool (mhas m k)]else vof agg cs) w/\t.rep w F cs (mget z m k):=by
 subst hx;obtain⟨es,⟨arr,clock,hb,Y,_⟩,hl,h3⟩:=hm;have hk:=keys_of Y hl h3;have hfind:=Qbs K k w arr (m.map Prod.fst) hk;have hget:(getObj b).run P w=.ok (.map arr.toArray clock) w:=by simp[getObj,Sem.run,hb]
 cases hloc:loc k (m.map Prod.fst)with
 |none=>
  rw[hloc]at hfind;have J:=(Qhu m k).1 hloc;refine⟨zs,?_,by rw[Qdj J];exact N⟩;simp only[Instr.lookup,Sem.run_bind,run_underlying W,Result.andThen_ok,hget,Sem.run_pure,K.check,hfind,Option.bind_none,hz,J]
 |some i=>
  rw[hloc]at hfind;have O:=Qfg hloc z;obtain⟨cs,H,h5⟩:=h3 i _ O;have J:mhas m k=true:=by
   cases hc:mhas m k with
   |true=>rfl
   |false=>rw[(Qhu m k).2 hc]at hloc;cases hloc
  have harr: ∃e,arr[i]?=some e/\e.val=vof agg cs:=by
   rw[<-Y,Qy]at H;cases L:arr[i]? with
   |none=>rw[L]at H;cases H
   |some e=>rw[L]at H;injection H with H;injection H with _ H;exact⟨e,rfl,H⟩
  obtain⟨e,L,V⟩:=harr;refine⟨cs,?_,h5⟩;simp only[Instr.lookup,Sem.run_bind,run_underlying W,Result.andThen_ok,hget,Sem.run_pure,K.check,hfind,Qa,L,Wp,V,J]
def st_lookup {x y:Operand}(H:Fr a n ds l)(L:Nat.ble (d+1) n=true)(K:Ky P kt enc)(N:P.underlying tt=some (.map kt et)){zs:List Value}(O: ∀w,(zeroValue et).run P w=.ok (vof agg zs) w)(z:t.den)(J:t.rep w F zs z)(V:Mt enc t agg w F b m)
  (W:ev l x=some (.map (some b))) (k:κ) (Y:ev l y=some (enc k))
  (h: ∀cs a',t.rep w F cs (mget z m k)->Fr a' n ds ((d,vof agg cs)::l)->WL r P ops Q rest a' w):WL r P ops Q (⟨some d,.lookup tt x y false,T,pos,af,none⟩::rest) a w:=by
 obtain⟨cs,h1,h2⟩:=run_lookup (zs:=zs) K N O J V rfl k false;refine valw (w':=w) (v:=vof agg cs) H L ?_ λa' hf'=>h cs a' h2 hf';simp only[execOp,H.eval W,H.eval Y,Sem.run_bind,h1,Result.andThen_ok,Sem.run_pure,Qw,Wb]
def st_lookup2 {x y:Operand}(H:Fr a n ds l)(L:Nat.ble (d+1) n=true)(K:Ky P kt enc)(N:P.underlying tt=some (.map kt et)){zs:List Value}(O: ∀w,(zeroValue et).run P w=.ok (vof agg zs) w)(z:t.den)(J:t.rep w F zs z)(V:Mt enc t agg w F b m)
  (W:ev l x=some (.map (some b))) (k:κ) (Y:ev l y=some (enc k))
  (h: ∀cs a',t.rep w F cs (mget z m k)->Fr a' n ds ((d,.tuple #[vof agg cs,.bool (mhas m k)])::l)->WL r P ops Q rest a' w):WL r P ops Q (⟨some d,.lookup tt x y true,T,pos,af,none⟩::rest) a w:=by
 obtain⟨cs,h1,h2⟩:=run_lookup (zs:=zs) K N O J V rfl k true;refine valw (w':=w) (v:=.tuple #[vof agg cs,.bool (mhas m k)]) H L ?_ λa' hf'=>h cs a' h2 hf';simp only[execOp,H.eval W,H.eval Y,Sem.run_bind,h1,Result.andThen_ok,Sem.run_pure,W8]
def MapC.set {arr:List MapEntry}{clock:Nat}{b:Nat}{w:World}(H:w.heap[b]?=some (.map arr.toArray clock))(o:Obj):(setObj b o).run P w=.ok () (w.putObj b o):=by
 have J:=(Qv.1 H).1;simp[setObj,Sem.run,World.putObj,H]
def Qez (K:Ky P kt enc)(ht:P.underlying tt=some (.map kt et))(hm:Mt enc t agg w F b m)(k:κ){v:Value}{cs:List Value}(hv:v=vof agg cs){y:t.den}(hr:t.rep w F cs y)(hF: ∀b',F b'->b'≠b):
  ∃w',(Instr.mapUpdate tt (.map (some b)) (enc k) v).run P w=.ok () w'/\Ch [b] w w'/\w'.heap.size=w.heap.size/\Mt enc t agg w' F b (mins m k y):=by
 subst hv;have O:=hm.lt;obtain⟨es,⟨arr,clock,hb,h1,h4,h5⟩,V,h3⟩:=hm;have hk:=keys_of h1 V h3;have hfind:=Qbs K k w arr (m.map Prod.fst) hk;have hget:(getObj b).run P w=.ok (.map arr.toArray clock) w:=by simp[getObj,Sem.run,hb]
 have hlen:arr.length=m.length:=by rw[<-V,<-h1,Wd]
 have step: ∀o,∀cs' x,t.rep w F cs' x->t.rep (w.putObj b o) F cs' x:=λo cs' x h=>rep_to h (Ch.putObj w b o) λb' hb' _=>⟨by simp only[Qk];exact hF b' hb',hb'⟩;cases hloc:loc k (m.map Prod.fst)with
 |none=>
  rw[hloc]at hfind;refine⟨w.putObj b (.map (arr.toArray.push {key:=enc k,val:=vof agg cs,born:=clock}) (clock+1)),?_,Ch.putObj w b _,by simp,?_⟩;simp only[Instr.mapUpdate,Sem.run_bind,run_underlying ht,Result.andThen_ok,hget,K.check,hfind,Option.bind_none,MapC.set hb];rw[Qbe,hloc];refine⟨es++[(enc k,vof agg cs)],⟨arr++[{key:=enc k,val:=vof agg cs,born:=clock}],clock+1,?_,by simp[h1],?_,?_⟩,by simp[V],λi p hp=>?_⟩;have:=World.putObj_heap_same (o:=.map (arr.toArray.push {key:=enc k,val:=vof agg cs,born:=clock}) (clock+1)) O;simpa using this;intro e J;rcases Qx.1 J with J|J
  have:=h4 e J;omega;simp at J;subst J;simp;rw[X5,Xd];refine⟨h5,by simp,λx hx y hy=>?_⟩;simp at hy;subst hy;obtain⟨e,J,rfl⟩:=Xf.1 hx;have:=h4 e J;omega;by_cases hi:i<m.length;rw[Q9 hi]at hp;obtain⟨cs',h6,h7⟩:=h3 i p hp;exact⟨cs',by rw[Q9 (by omega)];exact h6,step _ _ _ h7⟩;rw[Wx (by omega)]at hp;have W:i-m.length=0:=by
   have:=(Qd.1 hp).1;simp at this;omega
  rw[W]at hp;simp at hp;subst hp;exact⟨cs,by rw[Wx (by omega),V,W];rfl,step _ _ _ hr⟩
 |some i=>
  rw[hloc]at hfind;have L:=Qfg hloc y;have hil:=(Qd.1 L).1;obtain⟨e,J⟩: ∃e,arr[i]?=some e:=⟨_,Qf (by omega)⟩;have hek:e.key=enc k:=by
   have h6:(arr.map (·.key))[i]?=some e.key:=by rw[Qy,J];rfl
   rw[hk,Qy,Qy,L]at h6;simpa using h6.symm
  have hstay:(Instr.keyThatStays (enc k) (enc k)).run P w=.ok (enc k) w:=by simp[Instr.keyThatStays,K.bits]
  refine⟨w.putObj b (.map (arr.toArray.modify i λe=>{e with key:=enc k,val:=vof agg cs}) clock),?_,Ch.putObj w b _,by simp,?_⟩;simp only[Instr.mapUpdate,Sem.run_bind,run_underlying ht,Result.andThen_ok,hget,K.check,hfind,Qa,J,Wp,Ws,Y5,hek,hstay,MapC.set hb];rw[Qbe,hloc];have hmod:(arr.toArray.modify i λe=>{e with key:=enc k,val:=vof agg cs})=(arr.modify i λe=>{e with key:=enc k,val:=vof agg cs}).toArray:=by simp
  refine⟨es.modify i λ_=>(enc k,vof agg cs),⟨arr.modify i λe=>{e with key:=enc k,val:=vof agg cs},clock,?_,?_,?_,?_⟩,by simp[V],λj p hp=>?_⟩;have:=World.putObj_heap_same (o:=.map (arr.toArray.modify i λe=>{e with key:=enc k,val:=vof agg cs}) clock) O;rw[<-hmod];exact this;rw[<-h1];refine Xc λj=>?_;simp only[Qy,Wq];by_cases H:i=j;subst H;simp[J];simp[H];intro e' he';obtain⟨j,N⟩:=Wt.1 he';rw[Wq]at N;cases ha:arr[j]? with
  |none=>rw[ha]at N;simp at N
  |some e0=>
   rw[ha]at N;have hb0:=h4 e0 (Qg ha);simp only[Ya,Wp,Qr]at N;subst N;split<;>exact hb0
  have:(arr.modify i λe=>{e with key:=enc k,val:=vof agg cs}).map (·.born)=arr.map (·.born):=by
   refine Xc λj=>?_;simp only[Qy,Wq];cases arr[j]? with
   |none=>rfl
   |some e0=>simp only[Ya,Wp,Qr];split<;>rfl
  rw[this];exact h5;rw[Wq]at hp;by_cases H:i=j;subst H;rw[L]at hp;simp at hp;subst hp;refine⟨cs,?_,step _ _ _ hr⟩;rw[Wq];have:es[i]?=some es[i]:=Qf (by omega);simp[this];have hp':m[j]?=some p:=by
   cases Y:m[j]? with
   |none=>rw[Y]at hp;simp at hp
   |some q=>rw[Y]at hp;simpa[H] using hp
  obtain⟨cs',h6,h7⟩:=h3 j p hp';refine⟨cs',?_,step _ _ _ h7⟩;rw[Wq,h6];simp[H]
def st_mapUpdate {x y v:Operand}(H:Fr a n ds l)(K:Ky P kt enc)(J:P.underlying tt=some (.map kt et))(L:Mt enc t agg w F b m)(N:ev l x=some (.map (some b)))(k:κ)(O:ev l y=some (enc k)){cs:List Value}(V:ev l v=some (vof agg cs)){u:t.den}(W:t.rep w F cs u)(Y: ∀b',F b'->b'≠b)
  (h: ∀w' a',Ch [b] w w'->w'.heap.size=w.heap.size->Mt enc t agg w' F b (mins m k u)->Fr a' n ds l->WL r P ops Q rest a' w'):WL r P ops Q (⟨none,.mapUpdate tt x y v,T,pos,af,none⟩::rest) a w:=by
 obtain⟨w',h1,h2,h3,h4⟩:=Qez K J L k rfl W Y;refine skipw (w':=w') H ?_ λa' hf'=>h _ a' h2 h3 h4 hf';simp only[execOp,H.eval N,H.eval O,H.eval V,Sem.run_bind,h1,Result.andThen_ok,Sem.run_pure]
end
def bbeq (x:ByteArray):(x==x)=true:=by cases x;exact beq_self_eq_true (α:=Array UInt8) _
section
variable {P:Program}{kt:TypeId}
def Ky.mkInt {k:IntKind}(h:P.underlying kt=some (.int k)):Ky P kt (λi:Int=>.int k i):=
 ⟨λb _ w=>by show(Instr.checkKey b (9999+1) kt _).run P w=_;unfold Instr.checkKey;simp only[Sem.run_bind,run_underlying h,Result.andThen_ok,Sem.run_pure],λ_ _ w=>eq_int (d:=9999) h w,⟨_,h,.inl λa b=>by simp[Instr.sameNow];exact Bool.beq_eq_decide_eq a b⟩,λa=>by simp[Instr.sameBits]⟩
def Ky.mkAgg {κ:Type}[DecidableEq κ]{enc:κ->Value}{d:TypeDesc}(h:P.underlying kt=some d)(H: ∀a b,Instr.sameNow d (enc a) (enc b)=none)(J: ∀b k w,(Instr.checkKey b 10000 kt (enc k)).run P w=.ok () w)(L: ∀a b,EqV P 10000 kt (enc a) (enc b) (decide (a=b)))(N: ∀a,Instr.sameBits 10000 (enc a) (enc a)=true):Ky P kt enc:=
 ⟨J,λa b w=>L a b w,⟨d,h,.inr H⟩,N⟩
end
def Rg (w:World)(r b n:Nat)(seen:List Nat):Prop:=
 r≠b/\∃(arr:List MapEntry) (clock since:Nat) (sb:List Nat),w.heap[b]?=some (.map arr.toArray clock)/\arr.length=n/\w.heap[r]?=some (.mapIter (some b) since sb.toArray since)/\since=clock/\
  (∀e,e∈arr->e.born<since)/\(arr.map (·.born)).Nodup/\∀i e,arr[i]?=some e->(e.born∈sb↔i∈seen)
def Rg.ch {w w':World}{r b n:Nat}{seen:List Nat}{S:List Nat}(h:Rg w r b n seen)(H:Ch S w w')(N:r∉S)(O:b∉S):Rg w' r b n seen:=by
 obtain⟨V,arr,clock,since,sb,J,W,L,Y⟩:=h;exact⟨V,arr,clock,since,sb,(H.block _ (Qv.1 J).1 O).trans J,W,(H.block _ (Qv.1 L).1 N).trans L,Y⟩
section
variable {r:Option Nat}{P:Program}{ops:Array Oper}{Q:Exit->Act->World->Prop}{a:Act}{w:World}{rest:List Oper}{n:Nat}{ds:List Deferred}{l:List (Nat×Value)}{d:Nat}{T:TypeId}{pos:String}{af:Array Edge}
def Qic {x:Operand}{tt kt et:TypeId}{b:Nat}{es:List (Value×Value)}(J:Fr a n ds l)(O:Nat.ble (d+1) n=true)(V:P.underlying tt=some (.map kt et))(W:ev l x=some (.map (some b)))(L:MapC w b es)
  (h: ∀g w' a',g=w.heap.size->w'.heap.size=g+1->Rg w' g b es.length []->Ch [] w w'->Fr a' n ds ((d,.pointer (some ⟨g,0,none⟩))::l)->WL r P ops Q rest a' w'):
  WL r P ops Q (⟨some d,.range tt x,T,pos,af,none⟩::rest) a w:=by
 have H:=L.lt;obtain⟨arr,clock,N,Y,h4,h5⟩:=L;have hget:(getObj b).run P w=.ok (.map arr.toArray clock) w:=by simp[getObj,Sem.run,N]
 refine valw (w':=w.alloc (.mapIter (some b) clock #[] clock)) (v:=.pointer (some ⟨w.heap.size,0,none⟩)) J O ?_ λa' hf'=>h _ _ a' rfl (by simp) ⟨by omega,arr,clock,clock,[],?_,by rw[<-Y,Wd],heap_alloc_new w _,rfl,h4,h5,by simp⟩ (Ch.alloc w _) hf';simp[execOp,Instr.range,run_underlying V,J.eval W,hget];exact(heap_alloc_old w _ H).trans N
def Si (w:World)(g:Nat)(s:ByteArray)(p:Nat):Prop:=w.heap[g]?=some (.stringIter s p)
def Si.lt {w:World}{g p:Nat}{s:ByteArray}(h:Si w g s p):g<w.heap.size:=(Qv.1 h).1
def Si.ch {w w':World}{g p:Nat}{s:ByteArray}{S:List Nat}(h:Si w g s p)(H:Ch S w w')(J:g∉S):Si w' g s p:=(H.block g h.lt J).trans h
def st_rangeStr {x:Operand}{tt:TypeId}{s:ByteArray}(H:Fr a n ds l)(J:Nat.ble (d+1) n=true)(L:P.underlying tt=some .string)(N:ev l x=some (.string s))
  (h: ∀g w' a',g=w.heap.size->w'.heap.size=g+1->Si w' g s 0->Ch [] w w'->Fr a' n ds ((d,.pointer (some ⟨g,0,none⟩))::l)->WL r P ops Q rest a' w'):
  WL r P ops Q (⟨some d,.range tt x,T,pos,af,none⟩::rest) a w:=
 valw (w':=w.alloc (.stringIter s 0)) (v:=.pointer (some ⟨w.heap.size,0,none⟩)) H J (by simp[execOp,Instr.range,run_underlying L,H.eval N]) λa' hf'=>h _ _ a' rfl (by simp) (heap_alloc_new w _) (Ch.alloc w _) hf'
def st_nextStr {x:Operand}{g p:Nat}{s:ByteArray}(H:Fr a n ds l)(L:Nat.ble (d+1) n=true)(N:ev l x=some (.pointer (some ⟨g,0,none⟩)))(J:Si w g s p)
  (O: ¬p<s.size->∀a',Fr a' n ds ((d,.tuple #[.bool false])::l)->WL r P ops Q rest a' w)
  (V:p<s.size->∀w' a',Ch [g] w w'->w'.heap.size=w.heap.size->Si w' g s (p+(Utf8.decode s p).2)->Fr a' n ds ((d,.tuple #[.bool true,.int .i64 (p:Int),.int .i32 ((Utf8.decode s p).1:Int)])::l)->WL r P ops Q rest a' w'):
  WL r P ops Q (⟨some d,.next x true,T,pos,af,none⟩::rest) a w:=by
 have hget:(getObj g).run P w=.ok (.stringIter s p) w:=by simp[getObj,Sem.run,show w.heap[g]?=_ from J]
 by_cases hp:p<s.size
 ·have hset:(setObj g (.stringIter s (p+(Utf8.decode s p).2))).run P w=.ok () (w.putObj g (.stringIter s (p+(Utf8.decode s p).2))):=by simp[setObj,Sem.run,World.putObj,show w.heap[g]?=_ from J]
  refine valw (w':=w.putObj g (.stringIter s (p+(Utf8.decode s p).2))) H L ?_ λa' hf'=>V hp _ a' (Ch.putObj w g _) (by simp) (World.putObj_heap_same J.lt) hf';simp only[execOp,H.eval N,Instr.next,Sem.run_bind,hget,Result.andThen_ok,hp,W8,hset,Sem.run_pure,goInt]
 ·refine val H L ?_ λa' hf'=>O hp a' hf'
  simp only[execOp,H.eval N,Instr.next,Sem.run_bind,hget,Result.andThen_ok,hp,Wb,Sem.run_pure]
def bat (s:ByteArray)(i:Nat):UInt8:=s.data.getD i 0
def r_indexStr {d:Option Tmp}{gd:Option (Nat×Bool)}{x y:Operand}{tt:TypeId}{s:ByteArray}{k:IntKind}{i:Int}{u:Nat}(J:P.underlying tt=some .string)(L:a.eval x=.string s)(N:a.eval y=.int k i)(O:i=(u:Int))(H:u<s.size):
  (execOp a.eval ⟨d,.index tt x y,T,pos,af,gd⟩).run P w=.ok (.value (.int .u8 ((bat s u).toNat:Int))) w:=by
 subst O;have V:s[u]?=some (bat s u):=by
  have W:s[u]?=some (s[u]'H):=ByteArray.getElem?_lt' s u H;rw[W];congr 1;have hl':u<s.data.size:=H;unfold bat;rw[Wg,Xs hl'];rfl
 simp[execOp,Instr.index,L,N,asIntOf,run_underlying J,V]
end
section
variable {r:Option Nat}{P:Program}{ops:Array Oper}{Q:Exit->Act->World->Prop}{a:Act}{w:World}{rest:List Oper}{n:Nat}{ds:List Deferred}{l:List (Nat×Value)}{d:Nat}{T:TypeId}{pos:String}{af:Array Edge}
variable {κ:Type}[DecidableEq κ]{enc:κ->Value}{kt et tt:TypeId}{t:Ty}{agg:Bool}{F:Nat->Prop}{b:Nat}{m:List (κ×t.den)}
def r_lookup {d:Option Tmp}{gd:Option (Nat×Bool)}{x y:Operand}{ok:Bool}{X Y v:Value}(h:(Instr.lookup tt X Y ok).run P w=.ok v w)(H:a.eval x=X)(J:a.eval y=Y):(execOp a.eval ⟨d,.lookup tt x y ok,T,pos,af,gd⟩).run P w=.ok (.value v) w:=by
 subst H;subst J;simp only[execOp,Sem.run_bind,h,Result.andThen_ok,Sem.run_pure]
omit [DecidableEq κ]in
def st_rangeMt {x:Operand}(J:Fr a n ds l)(L:Nat.ble (d+1) n=true)(N:P.underlying tt=some (.map kt et))(O:ev l x=some (.map (some b)))(V:Mt enc t agg w F b m)
  (h: ∀g w' a',g=w.heap.size->w'.heap.size=g+1->Rg w' g b m.length []->Ch [] w w'->Fr a' n ds ((d,.pointer (some ⟨g,0,none⟩))::l)->WL r P ops Q rest a' w'):
  WL r P ops Q (⟨some d,.range tt x,T,pos,af,none⟩::rest) a w:=by
 obtain⟨es,H,W,h3⟩:=V;exact Qic J L N O H λg w' a' Y h2 h4 h5 h6=>h g w' a' Y h2 (W▸h4) h5 h6
end
section
variable {r:Option Nat}{P:Program}{ops:Array Oper}{Q:Exit->Act->World->Prop}{a:Act}{w:World}{rest:List Oper}{n:Nat}{ds:List Deferred}{l:List (Nat×Value)}{d:Nat}{T:TypeId}{pos:String}{af:Array Edge}
def Qgn {α:Type}{l new:List α}{p:Nat}(hp:p+new.length<=l.length)(q:Nat):(l.take p++new++l.drop (p+new.length))[q]?=if q<p then l[q]? else if q<p+new.length then new[q-p]? else l[q]?:=by
 have J:(l.take p).length=p:=by rw[Qo];omega
 rw[Qs];by_cases h:q<p;rw[Qc h,Q9 (by omega),Q2 h];rw[Qb h,Wx (by omega),J];by_cases H:q<p+new.length;rw[Qc H,Q9 (by omega)];rw[Qb H,Wx (by omega),Wl];congr 1;omega
def Qfp {α:Type}(l:List α)(i sz q:Nat):((l.drop i).take sz)[q]?=if q<sz then l[i+q]? else none:=by
 rw[Yf];split<;>simp[Wl]
def run_storeOwn {t:Ty}{e tt:TypeId}{B:Nat}{F:Nat->Prop}{A:Option Addr}{c:Nat}{xs:List t.den}(h:Own t e B w F A c xs){k o m:Nat}(hk:k<xs.length)(hS: ∀w,(sizeOf tt).run P w=.ok m w)(ho:o+m<=t.size){ad:Addr}(hA:A=some ad)
  {v:Value} {new es:List Value} (hv:v.cells=new.toArray) (hm:new.length=m) (h1: ∀u∈new,u.oneCell'=true) (hes:Cells w (ad.add (k*t.size)) es) (hel:es.length=t.size) {y:t.den} (hy:t.rep w F (es.take o++new++es.drop (o+m)) y) (hF: ∀b,F b->b∉obl A):
  ∃w',(Instr.storeAt tt (.pointer (some ((ad.add (k*t.size)).add o))) v).run P w=.ok () w'/\Ch (obl A) w w'/\w'.heap.size=w.heap.size/\Own t e B w' F A c (xs.set k y):=by
 obtain⟨cells,⟨hl,hrow⟩,h1c,h2⟩:=h;rcases hrow with⟨J,hn⟩|⟨g,cap,cur,J,L,hg,W,hcm,Y,htake⟩
 injection J with hA' _ _;subst hA';cases hA
 injection J with hA' _ hc'
 subst hA';subst hc';injection hA with hA
 subst hA;subst hm;have hks:k*t.size+t.size<=xs.length*t.size:=by
  have:(k+1)*t.size<=xs.length*t.size:=Ww _ hk;rwa[Yk,Yu]at this
 have hcur:xs.length*t.size<=cur.size:=by rw[Y];exact Ww _ W
 have hl:cells.length=xs.length*t.size:=hl;have hcell: ∀q,q<xs.length*t.size->cur.toList[q]?=cells[q]?:=λq hq=>by rw[<-htake,Q2 hq]
 have hBlk:Blk w g e cur.toList:=by unfold Blk;simpa using hg
 have hadd:((⟨g,0,none⟩:Addr).add (k*t.size)).add o=⟨g,k*t.size+o,none⟩:=by rw[Addr.add_lit,Addr.add_lit];simp
 have hst:=run_storeB (P:=P) (o:=k*t.size+o) hBlk hS hv rfl (by simp;omega) h1;obtain⟨cs',hcs'⟩: ∃cs',cs'=cur.toList.take (k*t.size+o)++new++cur.toList.drop (k*t.size+o+new.length):=⟨_,rfl⟩;rw[<-hcs']at hst;have hlen':cs'.length=cur.size:=by rw[hcs'];simp;omega
 have N:Ch (obl (some (⟨g,0,none⟩:Addr))) w (w.setRow g cs'.toArray):=Ch.setRow w g _;have hget: ∀q,q<xs.length*t.size->(cs'.take (xs.length*t.size))[q]?=if q<k*t.size+o then cells[q]? else if q<k*t.size+o+new.length then new[q-(k*t.size+o)]? else cells[q]?:=λq hq=>by
  rw[Q2 hq,hcs',Qgn (by simp;omega),hcell q hq]
 have hesq: ∀q,q<t.size->es[q]?=cells[k*t.size+q]?:=λq hq=>by
  obtain⟨u,hu⟩: ∃u,es[q]?=some u:=⟨_,Qf (by omega)⟩;have:=hes q u hu;rw[Addr.add_lit,Addr.add_lit,hBlk.cell]at this;rw[hu,<-hcell _ (by omega)];simpa using this.symm
 refine⟨_,by rw[hadd];exact hst,N,by simp[World.setRow],cs'.take (xs.length*t.size),⟨by rw[Xl,Qo,hlen',X4 hcur],.inr ⟨g,c,cs'.toArray,by rw[Xl],L,?_,by rw[Xl];exact W,hcm,by rw[Xj,hlen',Y],by rw[Xl]⟩⟩,?_,?_⟩;have:=hBlk.setRow (cs':=cs');unfold Blk at this;exact this;intro u hu;obtain⟨q,hq⟩:=Wt.1 hu;have hql:q<xs.length*t.size:=by have:=(Qd.1 hq).1;rw[Qo]at this;omega
 rw[hget q hql]at hq;split at hq;exact h1c u (Qg hq);split at hq;exact h1 u (Qg hq);exact h1c u (Qg hq);intro i x O;have hil:i<xs.length:=by have:=(Qd.1 O).1;rwa[Xl]at this
 have his:i*t.size+t.size<=xs.length*t.size:=by
  have:(i+1)*t.size<=xs.length*t.size:=Ww _ hil;rwa[Yk,Yu]at this
 by_cases V:i=k;subst V;rw[Yh hil]at O;injection O with O
 subst O;have e1:((cs'.take (xs.length*t.size)).drop (i*t.size)).take t.size=es.take o++new++es.drop (o+new.length):=by
  refine Xc λq=>?_;rw[Qfp,Qgn (by omega)];by_cases hq:q<t.size;rw[Qc hq,hget _ (by omega),hesq q hq];by_cases H:q<o;rw[Qc (by omega),Qc H];rw[Qb (by omega),Qb H];by_cases h4:q<o+new.length;rw[Qc (by omega),Qc h4];congr 1;omega;rw[Qb (by omega),Qb h4];rw[Qb hq,Qb (by omega),Qb (by omega),Wn (by omega)]
 rw[e1];exact rep_to hy N λb L _=>⟨hF b L,L⟩;rw[List.getElem?_set_ne (λh=>V h.symm)]at O;have e1:((cs'.take (xs.length*t.size)).drop (i*t.size)).take t.size=(cells.drop (i*t.size)).take t.size:=by
  refine Xc λq=>?_;rw[Qfp,Qfp];by_cases hq:q<t.size;rw[Qc hq,Qc hq,hget _ (by omega)];have:i*t.size+q<k*t.size+o\/k*t.size+o+new.length<=i*t.size+q:=by
   rcases Nat.lt_or_gt_of_ne V with H|H
   left;have:(i+1)*t.size<=k*t.size:=Ww _ H;rw[Yk,Yu]at this;omega;right;have:(k+1)*t.size<=i*t.size:=Ww _ H;rw[Yk,Yu]at this;omega
  rcases this with H|H
  rw[Qc H];rw[Qb (by omega),Qb (by omega)];rw[Qb hq,Qb hq]
 rw[e1];exact rep_to (h2 i x O) N λb L _=>⟨hF b L,L⟩
def st_setel {t:Ty}{e tt:TypeId}{B:Nat}{F:Nat->Prop}{A:Option Addr}{c:Nat}{xs:List t.den}{px py:Operand}(H:Fr a n ds l)(h:Own t e B w F A c xs){k o m:Nat}(hk:k<xs.length)(O: ∀w,(sizeOf tt).run P w=.ok m w)(V:Nat.ble (o+m) t.size=true){ad:Addr}(W:A=some ad)
  (Y:ev l px=some (.pointer (some ((ad.add (k*t.size)).add o)))) {v:Value} (J:ev l py=some v) {new es:List Value} (hv:v.cells=new.toArray) (hm:new.length=m) (h1: ∀u∈new,u.oneCell'=true) (L:Cells w (ad.add (k*t.size)) es) (N:es.length=t.size) {y:t.den} (hy:t.rep w F (es.take o++new++es.drop (o+m)) y) (hF: ∀b,F b->b∉obl A)
  (hn: ∀w' a',Ch (obl A) w w'->w'.heap.size=w.heap.size->Own t e B w' F A c (xs.set k y)->Fr a' n ds l->WL r P ops Q rest a' w'):WL r P ops Q (⟨none,.store tt px py,T,pos,af,none⟩::rest) a w:=by
 obtain⟨w',h2,h3,h4,h5⟩:=run_storeOwn (P:=P) h hk O (Qq V) W hv hm h1 L N hy hF;refine skipw (w':=w') H ?_ λa' hf'=>hn _ a' h3 h4 h5 hf';simp only[execOp,H.eval Y,H.eval J,Sem.run_bind,h2,Result.andThen_ok,Sem.run_pure]
def st_makeSlice {t:Ty}{tt e:TypeId}{x y:Operand}{i:TypeInfo}{z:Value}{bytes u:Nat}{k1 k2:IntKind}{p q:Int}(N:Fr a n ds l)(hd:Nat.ble (d+1) n=true)(ht:P.underlying tt=some (.slice e))(hi:P.info? e=some i)(hz:i.zero=some z)(hsize:i.size=1)(O:i.bytes=bytes)(V:z.cells=#[z])(L:t.size=1)
  (J:ev l x=some (.int k1 p)) (hy:ev l y=some (.int k2 q)) (hp:p=(u:Int)) (hq:q=(u:Int)) (hu:bytes*u<=140737488355328) (hm:u<=maxLen) (z0:t.den) (W:t.rep w no [z] z0) (h1:z.oneCell'=true)
  (h: ∀g w' a',g=w.heap.size->w'.heap.size=g+1->Own t e g w' no (some ⟨g,0,none⟩) u (List.replicate u z0)->Ch [] w w'->Fr a' n ds ((d,.slice (some ⟨g,0,none⟩) u u)::l)->WL r P ops Q rest a' w'):
  WL r P ops Q (⟨some d,.makeSlice tt x y,T,pos,af,none⟩::rest) a w:=by
 subst hp;subst hq;have hrun:=run_make (P:=P) w tt e i z ht hi hz k1 k2 (u:Int) (u:Int) (by omega) (by omega) (by rw[O,<-Int.natCast_mul];omega) (by rw[show maxLen=9223372036854775807 from rfl]at hm;omega);have hcells:madeCells z.cells ((u:Int).toNat*i.size)=(List.replicate u z).toArray:=by
  rw[V,hsize,Q0,Yd];unfold madeCells;apply Array.toList_inj.1;refine Xc λj=>?_;simp only[Array.toList_map,Array.toList_range,Qy];by_cases H:j<u;rw[List.getElem?_range H,X2,Qc H];simp[Nat.mod_one];rw[Wn (by simpa using H),Wn (by simpa using H)];rfl
 rw[hcells,Q0]at hrun;refine valw (w':=w.alloc (.cells (List.replicate u z).toArray e)) (v:=.slice (some ⟨w.heap.size,0,none⟩) u u) N hd ?_ λa' hf'=>h _ _ a' rfl (by simp) ?_ (Ch.alloc w _) hf';simp only[execOp,N.eval J,N.eval hy,Sem.run_bind,hrun,Result.andThen_ok,Sem.run_pure];have:=Own.made (t:=t) (F:=no) (B:=w.heap.size) (xs:=List.replicate u z0) (Blk.new w e (List.replicate u z)) (Q4 _) (by simp[L]) (by simpa using hm) (λv hv=>by rw[List.eq_of_mem_replicate hv];exact h1) λj x J=>by
  have H:=(Qd.1 J).1;rw[Xt]at H;have Y:x=z0:=by
   rw[X2,Qc H]at J;injection J with J;exact J.symm
  subst Y;have:((List.replicate u z).drop (j*t.size)).take t.size=[z]:=by
   rw[L,Yd];refine Xc λq=>?_;rw[Qfp];cases q with
   |zero=>simp[H]
   |succ q=>simp
  rw[this];exact rep_ch0 (Ch.alloc w _) t W
 rwa[Xt]at this
end
section
variable {P:Program}{a:Act}{w:World}{n:Nat}{ds:List Deferred}{l:List (Nat×Value)}
def RV (P:Program)(tm:Array Value)(w:World):ResultVar->Value->Prop
 | .tmp t,v=>tm.getD t undef=v
 | .cell p ty,v=>∃ad,tm.getD p undef=.pointer (some ad)/\(loadVar ty ad).run P w=.ok v w
def rv_t {t:Nat}{v:Value}(H:Fr a n ds l)(J:lk l t=some v):RV P a.tmps w (.tmp t) v:=H.eval (x:=.tmp t) J
def rv_1 {p g:Nat}{ty bt:TypeId}{u:Value}(H:Fr a n ds l)(hp:lk l p=some (.pointer (some ⟨g,0,none⟩)))(J: ∀w,(isAgg ty).run P w=.ok false w)(L:Blk w g bt [u]):RV P a.tmps w (.cell p ty) u:=by
 have N:w.cell? ⟨g,0,none⟩=some u:=L.cell 0;exact⟨_,H.eval (x:=.tmp p) hp,by simp[loadVar,J,N]⟩
def rv_n {p g m:Nat}{ty bt:TypeId}{cs:List Value}(H:Fr a n ds l)(hp:lk l p=some (.pointer (some ⟨g,0,none⟩)))(J: ∀w,(isAgg ty).run P w=.ok true w)(L: ∀w,(sizeOf ty).run P w=.ok m w)(N:Blk w g bt cs)(O:cs.length=m):RV P a.tmps w (.cell p ty) (.agg cs.toArray):=by
 subst O;refine⟨_,H.eval (x:=.tmp p) hp,?_⟩;have:=run_loadCells_list (P:=P) w ⟨g,0,none⟩ cs λj u V=>by rw[Addr.add_lit,N.cell];simpa using V
 simp[loadVar,J,L,this]
def resv1 {fn:Func}{H:ResultVar}{L:Value}(h:fn.results=#[H])(J:RV P a.tmps w H L):(results fn a.tmps).run P w=.ok L w:=by
 cases H<;>simp only[RV,Wg]at J;simp[results,h,J];obtain⟨ad,N,O⟩:=J;simp[results,h,N,asAddr,O]
def resv2 {fn:Func}{O V:ResultVar}{W Y:Value}(h:fn.results=#[O,V])(H:RV P a.tmps w O W)(J:RV P a.tmps w V Y):(results fn a.tmps).run P w=.ok (.tuple #[W,Y]) w:=by
 cases O<;>cases V<;>simp only[RV,Wg]at H J;simp[results,h,H,J];obtain⟨ad,L,N⟩:=J;simp[results,h,H,L,asAddr,N];obtain⟨ad,L,N⟩:=H;simp[results,h,J,L,asAddr,N];obtain⟨ad,L,N⟩:=H;obtain⟨ae,h5,h6⟩:=J;simp[results,h,L,h5,asAddr,N,h6]
def retv {fn:Func}{R:Ending->World->Prop}{v:Value}(H:Fr a n [] l)(h:(results fn a.tmps).run P w=.ok v w)(J:R (.returned v) w):bodyPost P fn R .ret a w:=bodyPost_ret h H.defs J
def endv {fn:Func}{R:Ending->World->Prop}{v:Value}(H:Fr a n [] l)(h:(results fn a.tmps).run P w=.ok v w)(J:R (.returned v) w):bodyPost P fn R .normal a w:=bodyPost_end h H.defs J
end
end Go.Z
end
section
namespace Go.Proofs.YtpoabedecgeamaaGreatDoor
def eqin37 {x y:D36}(d:Nat):Z.EqV Tryz.prog (d+2) 37 (.agg #[.int .i64 x.1,.int .i64 x.2]) (.agg #[.int .i64 y.1,.int .i64 y.2]) (decide (x=y)):=by
 have h:Z.EqV Tryz.prog (d+2) 37 (.agg #[.int .i64 x.1,.int .i64 x.2]) (.agg #[.int .i64 y.1,.int .i64 y.2]) (decide (x.1=y.1)&&(decide (x.2=y.2)&&true)):=Z.eq_struct Tryz.underlying37 (by kernel_rfl) (Z.eqf_cons rfl (λw=>Z.part_one w Tryz.isAgg3 rfl) (λw=>Z.part_one w Tryz.isAgg3 rfl) (Z.eq_int (d:=d+0) Tryz.underlying3) (Z.eqf_cons rfl (λw=>Z.part_one w Tryz.isAgg3 rfl) (λw=>Z.part_one w Tryz.isAgg3 rfl) (Z.eq_int (d:=d+0) Tryz.underlying3) Z.eqf_nil));have e:decide (x=y)=(decide (x.1=y.1)&&(decide (x.2=y.2)&&true)):=by simp only[Z.decide_pair,Bool.and_true]
 rw[e];exact h
def eqagg_eql37 {x y:D36}{a:Act}{w:World}{dd:Option Tmp}{T ty:TypeId}{pos:String}{af:Array Edge}{gd:Option (Nat×Bool)}{X Y:Operand}(H:a.eval X=.agg #[.int .i64 x.1,.int .i64 x.2])(J:a.eval Y=.agg #[.int .i64 y.1,.int .i64 y.2]):(execOp a.eval ⟨dd,.binOp .eql 37 X Y ty,T,pos,af,gd⟩).run Tryz.prog w=.ok (.value (.bool (decide (x=y)))) w:=Z.r_eqagg (eqin37 9998) (by kernel_rfl) H J
def eqin63 {x y:D62}(d:Nat):Z.EqV Tryz.prog (d+2) 63 (.agg #[.int .i64 x.1,.int .i64 x.2.1,.string x.2.2]) (.agg #[.int .i64 y.1,.int .i64 y.2.1,.string y.2.2]) (decide (x=y)):=by
 have h:Z.EqV Tryz.prog (d+2) 63 (.agg #[.int .i64 x.1,.int .i64 x.2.1,.string x.2.2]) (.agg #[.int .i64 y.1,.int .i64 y.2.1,.string y.2.2]) (decide (x.1=y.1)&&(decide (x.2.1=y.2.1)&&(decide (x.2.2=y.2.2)&&true))):=Z.eq_struct Tryz.underlying63 (by kernel_rfl) (Z.eqf_cons rfl (λw=>Z.part_one w Tryz.isAgg3 rfl) (λw=>Z.part_one w Tryz.isAgg3 rfl) (Z.eq_int (d:=d+0) Tryz.underlying3) (Z.eqf_cons rfl (λw=>Z.part_one w Tryz.isAgg2 rfl) (λw=>Z.part_one w Tryz.isAgg2 rfl) (Z.eq_int (d:=d+0) Tryz.underlying2) (Z.eqf_cons rfl (λw=>Z.part_one w Tryz.isAgg9 rfl) (λw=>Z.part_one w Tryz.isAgg9 rfl) (Z.eq_str (d:=d+0) Tryz.underlying9) Z.eqf_nil)));have e:decide (x=y)=(decide (x.1=y.1)&&(decide (x.2.1=y.2.1)&&(decide (x.2.2=y.2.2)&&true))):=by simp only[Z.decide_pair,Bool.and_true]
 rw[e];exact h
def eqagg_eql63 {x y:D62}{a:Act}{w:World}{dd:Option Tmp}{T ty:TypeId}{pos:String}{af:Array Edge}{gd:Option (Nat×Bool)}{X Y:Operand}(H:a.eval X=.agg #[.int .i64 x.1,.int .i64 x.2.1,.string x.2.2])(J:a.eval Y=.agg #[.int .i64 y.1,.int .i64 y.2.1,.string y.2.2]):(execOp a.eval ⟨dd,.binOp .eql 63 X Y ty,T,pos,af,gd⟩).run Tryz.prog w=.ok (.value (.bool (decide (x=y)))) w:=Z.r_eqagg (eqin63 9998) (by kernel_rfl) H J
def eqagg_neq63 {x y:D62}{a:Act}{w:World}{dd:Option Tmp}{T ty:TypeId}{pos:String}{af:Array Edge}{gd:Option (Nat×Bool)}{X Y:Operand}(H:a.eval X=.agg #[.int .i64 x.1,.int .i64 x.2.1,.string x.2.2])(J:a.eval Y=.agg #[.int .i64 y.1,.int .i64 y.2.1,.string y.2.2]):(execOp a.eval ⟨dd,.binOp .neq 63 X Y ty,T,pos,af,gd⟩).run Tryz.prog w=.ok (.value (.bool (decide (x≠y)))) w:=Z.r_neagg (eqin63 9998) (by kernel_rfl) H J
def ky3:Z.Ky Tryz.prog 3 (λi:Int=>.int .i64 i):=Z.Ky.mkInt Tryz.underlying3
def ky37:Z.Ky Tryz.prog 37 (λx:D36=>.agg #[.int .i64 x.1,.int .i64 x.2]):=Z.Ky.mkAgg Tryz.underlying37 (λ_ _=>rfl) (λ_ _ _=>by kernel_rfl) (λ_ _=>eqin37 9998) (λ_=>by simp[Instr.sameBits,Z.bbeq])
end Go.Proofs.YtpoabedecgeamaaGreatDoor
end
