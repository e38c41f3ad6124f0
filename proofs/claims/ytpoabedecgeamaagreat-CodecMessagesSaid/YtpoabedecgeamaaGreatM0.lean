import Derived.OrdersHeld
import Derived.Laws.AppendOwn
import Derived.Laws.Entries
import Derived.Tactics
import Derived.Below
import Derived.RangeFuncIn
import Derived.TacticsIn
import Derived.LoopIn
import Derived.OrdersIn
import Derived.Maps.AppendAt
import Derived.Deep.Draws
import Derived.IntWalk
import Derived.Laws.Rows
import Derived.Laws.Strings
import Derived.Laws.StructEq
import Derived.Defers
import Derived.Lib.MakeNoZero
import Derived.Laws.Externs
import Derived.Laws.CopyOwn
import Derived.Lib.AppendStr
import Derived.Recover
import Derived.ChangeKeysEq
import Derived.Lib.ConvBytes
import Derived.KernelRfl
import Derived.Laws.Concat
import Derived.Test.YtpoabedecgeamaaGreatProg
import Derived.RangeFuncSeq
import Derived.RangeFuncBound
import Derived.Laws.MakeOwn
set_option linter.defProp false
set_option linter.unusedSimpArgs false
set_option synthInstance.maxSize 1000000
set_option synthInstance.maxHeartbeats 400000
def Qa:=@Option.bind_some
def Qb:=@List.length_append
def Qc:=@if_neg
def Qd:=@List.getElem?_eq_some_iff
def Qe:=@if_pos
def Qf:=@List.getElem?_eq_getElem
def Qg:=@Nat.lt_succ_self
def Qh:=@List.append_assoc
def Qi:=@List.mem_of_getElem?
def Qj:=@List.length_take
def Qk:=@List.length_drop
def Ql:=@List.nil_append
def Qm:=@Bool.and_eq_true
def Qn:=@Nat.le_of_ble_eq_true
def Qo:=@List.length_nil
def Qp:=@List.mem_cons_of_mem
def Qq:=@List.mem_cons
def Qr:=@Option.some.injEq
def Qs:=@Int.toNat_of_nonneg
def Qt:=@List.eq_nil_of_length_eq_zero
def Qu:=@List.getElem?_take_of_lt
def Qv:=@List.getElem?_drop
def Qw:=@Array.getElem?_eq_some_iff
def Qx:=@List.mem_cons_self
def Qy:=@List.length_singleton
def Qz:=@List.mem_singleton
def Q0:=@Array.toArray_toList
def Q2:=@Nat.eq_of_beq_eq_true
def Q3:=@Nat.lt_of_lt_of_le
def Q4:=@Nat.le_refl
def Q5:=@List.length_cons
def Q7:=@Nat.le_trans
def Q8:=@List.take_of_length_le
def Q9:=@List.drop_drop
def Wa:=@Array.getD_eq_getD_getElem?
def Wb:=@List.mem_append
def Wc:=@List.map_cons
def Wd:=@List.map_toArray
def We:=@List.mem_append_right
def Wf:=@decide_eq_true
def Wg:=@List.mem_append_left
def Wh:=@Nat.mul_le_mul_right
def Wi:=@List.take_length
def Wj:=@List.take_succ_eq_append_getElem
def Wk:=@Array.getElem?_setIfInBounds_ne
def Wl:=@congrArg
def Wm:=@List.flatten_nil
def Wn:=@Nat.add_assoc
def Wo:=@Int.eq_ofNat_of_zero_le
def Wp:=@List.append_nil
def Wq:=@List.take_zero
def Wr:=@List.take_append_drop
def Ws:=@List.drop_eq_getElem_cons
def Wt:=@Option.bind_assoc
def Wu:=@of_decide_eq_true
def Wv:=@Bool.and_true
def Ww:=@List.getElem_of_mem
def Wx:=@List.all_eq_true
def Wy:=@Array.getElem?_eq_none
def Wz:=@Bool.false_eq_true
def W1:=@Option.map_some
def W2:=@decide_eq_false
def W3:=@decide_eq_true_eq
def W4:=@List.forall_mem_cons
def W5:=@List.not_mem_nil
def W6:=@List.cons_append
def W7:=@List.getElem?_append_left
def W8:=@Nat.min_eq_left
def W9:=@Int.toNat_le_toNat
def Xa:=@Bool.false_ne_true
def Xb:=@Nat.le_mul_of_pos_right
def Xc:=@Nat.mul_one
def Xd:=@List.getElem?_cons_zero
def Xe:=@Nat.zero_le
def Xf:=@Option.bind_eq_some_iff
def Xg:=@List.drop_take
def Xh:=@List.drop_eq_nil_of_le
def Xi:=@List.getElem?_map
def Xj:=@Int.toNat_natCast
def Xk:=@List.map_nil
def Xl:=@List.mem_map
def Xm:=@List.drop_zero
def Xn:=@Array.getElem?_toList
def Xo:=@List.length_map
def Xp:=@Nat.mul_comm
def Xq:=@Nat.add_zero
def Xr:=@Nat.add_comm
def Xs:=@if_false
section
namespace Go.Z
open Go.RowKit
def lk:List (Nat×Value)->Nat->Option Value
 | [],_=>none
 |(e,v)::r,d=>bif Nat.beq e d then some v else lk r d
def ev (l:List (Nat×Value)):Operand->Option Value
 | .tmp t=>lk l t
 | .const v=>some v
 | .global g=>some (.pointer (some ⟨g,0,none⟩))
 | .func f=>some (.func (.func f) #[] #[])
structure Fr (a:Act) (n:Nat) (ds:List Deferred) (l:List (Nat×Value)):Prop where
 size:a.tmps.size=n
 defs:a.defers=ds
 get: ∀d v,lk l d=some v->a.tmps[d]?=some v
def Qam (l:List (Nat×Value))(d:Nat)(v:Value):lk ((d,v)::l) d=some v:=by simp[lk]
def Qak (l:List (Nat×Value)){d e:Nat}(v:Value)(h:e≠d):lk ((e,v)::l) d=lk l d:=by
 have:Nat.beq e d=false:=by cases J:Nat.beq e d with
  |false=>rfl
  |true=>exact absurd (Q2 J) h
 simp[lk,this]
section
variable {a:Act}{n:Nat}{ds:List Deferred}{l:List (Nat×Value)}
def Fr.eval (h:Fr a n ds l){x:Operand}{v:Value}(J:ev l x=some v):a.eval x=v:=by
 cases x with
 |tmp t=>
  have:=h.get t v J;simp[Act.eval,Wa,this]
 |const u=>injection J
 |global g=>injection J
 |func f=>injection J
def Fr.put (h:Fr a n ds l){d:Nat}(N:d<n)(v:Value):Fr (a.put (some d) v) n ds ((d,v)::l):=by
 refine⟨by simp[Act.put,h.size],h.defs,λe u L=>?_⟩;by_cases J:d=e;subst J;rw[Qam]at L;injection L with L
 subst L;simp[Act.put,h.size,N];rw[Qak _ _ J]at L;simp only[Act.put];rw[Wk J];exact h.get e u L
def kp (l:List (Nat×Value)):List Nat->List (Nat×Value)
 | []=>[]
 |k::r=>match lk l k with
  |some v=>(k,v)::kp l r
  |none=>kp l r
def lk_kp (ks:List Nat)(d:Nat)(v:Value)(h:lk (kp l ks) d=some v):lk l d=some v:=by
 induction ks with
 |nil=>simp[kp,lk]at h
 |cons k r L=>
  unfold kp at h;cases hk:lk l k with
  |none=>rw[hk]at h;exact L h
  |some u=>
   rw[hk]at h;by_cases J:k=d;subst J;rw[Qam]at h;rw[hk];exact h;exact L (by rw[<-h];exact(Qak _ _ J).symm)
def Fr.keep (h:Fr a n ds l)(ks:List Nat):Fr a n ds (kp l ks):=⟨h.size,h.defs,λd v J=>h.get d v (lk_kp ks d v J)⟩
def Fr.cons {l':List (Nat×Value)}{d:Nat}{v:Value}(h:Fr a n ds l)(h':Fr a n ds l')(e:lk l d=some v):Fr a n ds ((d,v)::l'):=by
 refine⟨h.size,h.defs,λd' v' J=>?_⟩;by_cases hk:d=d';subst hk;rw[Qam]at J;injection J with J
 subst J;exact h.get _ _ e;rw[Qak _ _ hk]at J;exact h'.get _ _ J
end
def argl:List Value->Nat->List (Nat×Value)
 | [],_=>[]
 |v::r,k=>(k,v)::argl r (k+1)
def lk_argl (vs:List Value): ∀(k d:Nat) (v:Value),lk (argl vs k) d=some v->k<=d/\vs[d-k]?=some v:=by
 induction vs with
 |nil=>intro k d v h;simp[argl,lk]at h
 |cons u r L=>
  intro k d v h;unfold argl at h;by_cases J:k=d;subst J;rw[Qam]at h;injection h with h
  subst h;simp;rw[Qak _ _ J]at h;obtain⟨O,N⟩:=L _ _ _ h;refine⟨by omega,?_⟩;have:d-k=(d-(k+1))+1:=by omega
  rw[this,List.getElem?_cons_succ];exact N
def Fr.entry (vs:List Value)(n:Nat)(N:vs.length<=n):
  Fr {tmps:=vs.toArray++Array.replicate (n-vs.toArray.size) undef,defers:=[]} n [] (argl vs 0):=by
 refine⟨by simp;omega,rfl,λd v h=>?_⟩;obtain⟨_,J⟩:=lk_argl vs 0 d v h;have L:d<vs.length:=by
  rcases Nat.lt_or_ge d vs.length with h'|h'
  exact h';rw[List.getElem?_eq_none (by omega)]at J;cases J
 rw[Array.getElem?_append_left (by simpa using L)];simpa using J
abbrev FW (r:Option Nat):Fence:={Fence.wide with round:=r}
abbrev WP (r:Option Nat) (P:Program) (c:Code) (Q:Exit->Act->World->Prop) (a:Act) (w:World):Prop:=c.wpIn (FW r) 0 P Q a w
abbrev WL (r:Option Nat) (P:Program) (ops:Array Oper) (Q:Exit->Act->World->Prop) (l:List Oper) (a:Act) (w:World):Prop:=wpListIn (FW r) 0 P ops Q l a w
def callsFW {r:Option Nat}{n:Nat}{P:Program}{f:FuncId}{args:Array Value}{w:World}{R:Ending->World->Prop}(h:Calls P f args w R):CallsIn (FW r) n P f args w R:=by
 have J:CallsIn Fence.wide n P f args w R:=callsIn_wide.2 h;cases r with
 |none=>exact J
 |some l=>exact J
def Qei {r:Option Nat}{P:Program}{ρ:Operand->Value}{o:Oper}{x:Next}{w w':World}(h:(execOp ρ o).run P w=.ok x w')(L: ∀d,x≠ .defer d):(o.semAt r ρ).run P w=.ok x w':=by
 cases r with
 |none=>rw[Oper.semAt_none];exact h
 |some l=>
  rw[Oper.semAt_some];exact h;intro c N;unfold execOp at h;rw[N]at h;simp only[Sem.run_bind]at h;cases J:(resolve ρ c o.type).run P w with
  |ok d O=>rw[J]at h;simp only[Result.andThen_ok,Sem.run_pure]at h;injection h with h _;exact L _ h.symm
  |halt y O=>rw[J]at h;simp[Result.andThen]at h
section
variable {r:Option Nat}{P:Program}{ops:Array Oper}{Q:Exit->Act->World->Prop}{a:Act}{w:World}{rest:List Oper}{n:Nat}{ds:List Deferred}{l:List (Nat×Value)}
def enter {f:FuncId}{fn:Func}{c:Code}{vs:List Value}{m:Nat}{R:Ending->World->Prop}(J:P.funcs[f]?=some fn)(L:fn.body=some c)(N:fn.ntmps=m)(O:vs.length<=m)
  (h: ∀a,Fr a m [] (argl vs 0)->WP none P c (bodyPost P fn R) a w):Calls P f vs.toArray w R:=by
 refine calls_of_wp J L (wpIn_wide.1 (h _ ?_));subst N;exact Fr.entry vs _ O
def stepw {o:Oper}{x:Next}{w':World}(J:o.guard=none)(L:(execOp a.eval o).run P w=.ok x w')(N: ∀d,x≠ .defer d)
  (h: ∀K:Act->World->Prop,(∀a w,WL r P ops Q rest a w->K a w)->o.uponIn (FW r) 0 P a K Q (.ok x w')):WL r P ops Q (o::rest) a w:=
 wpListIn_plain J λK O=>⟨λ_ _=>trivial,by rw[Qei L N];exact h K O⟩
def valw {d:Nat}{op:Op}{T:TypeId}{pos:String}{af:Array Edge}{v:Value}{w':World}(J:Fr a n ds l)(L:Nat.ble (d+1) n=true)
  (N:(execOp a.eval ⟨some d,op,T,pos,af,none⟩).run P w=.ok (.value v) w')
  (h: ∀a',Fr a' n ds ((d,v)::l)->WL r P ops Q rest a' w'):WL r P ops Q (⟨some d,op,T,pos,af,none⟩::rest) a w:=
 stepw rfl N (λ_ h=>by cases h) λ_ O=>O _ _ (h _ (J.put (Qn L) v))
def val {d:Nat}{op:Op}{T:TypeId}{pos:String}{af:Array Edge}{v:Value}(J:Fr a n ds l)(L:Nat.ble (d+1) n=true)
  (N:(execOp a.eval ⟨some d,op,T,pos,af,none⟩).run P w=.ok (.value v) w)
  (h: ∀a',Fr a' n ds ((d,v)::l)->WL r P ops Q rest a' w):WL r P ops Q (⟨some d,op,T,pos,af,none⟩::rest) a w:=valw J L N h
def skipw {op:Op}{T:TypeId}{pos:String}{af:Array Edge}{w':World}(J:Fr a n ds l)
  (L:(execOp a.eval ⟨none,op,T,pos,af,none⟩).run P w=.ok .skip w')
  (h: ∀a',Fr a' n ds l->WL r P ops Q rest a' w'):WL r P ops Q (⟨none,op,T,pos,af,none⟩::rest) a w:=
 stepw rfl L (λ_ h=>by cases h) λ_ N=>N _ _ (h _ J)
def call {d:Nat}{op:Op}{T:TypeId}{pos:String}{af:Array Edge}{f:FuncId}{args:Array Value}{R:Ending->World->Prop}(J:Fr a n ds l)(L:Nat.ble (d+1) n=true)
  (N:(execOp a.eval ⟨some d,op,T,pos,af,none⟩).run P w=.ok (.enter f args) w) (O:Calls P f args w R)
  (h: ∀e w',R e w'->(∃v,e=.returned v/\∀a',Fr a' n ds ((d,v)::l)->WL r P ops Q rest a' w')\/(∃ch,e=.panicked ch/\Q (.panic ch) a w')):
  WL r P ops Q (⟨some d,op,T,pos,af,none⟩::rest) a w:=
 stepw rfl N (λ_ h=>by cases h) λ_ U=>⟨(λh=>by cases h),(callsFW O).mono λe w' V=>by
  rcases h e w' V with⟨v,rfl,h⟩|⟨ch,rfl,h⟩
  exact U _ _ (h _ (J.put (Qn L) v));exact h⟩
def call1 {d:Nat}{op:Op}{T:TypeId}{pos:String}{af:Array Edge}{f:FuncId}{args:Array Value}{R:Ending->World->Prop}(J:Fr a n ds l)(L:Nat.ble (d+1) n=true)
  (N:(execOp a.eval ⟨some d,op,T,pos,af,none⟩).run P w=.ok (.enter f args) w) (O:Calls P f args w R)
  (h: ∀e w',R e w'->∃v,e=.returned v/\∀a',Fr a' n ds ((d,v)::l)->WL r P ops Q rest a' w'):
  WL r P ops Q (⟨some d,op,T,pos,af,none⟩::rest) a w:=call J L N O λe w' U=>.inl (h e w' U)
def defer {op:Op}{T:TypeId}{pos:String}{af:Array Edge}{dd:Deferred}(J:Fr a n ds l)
  (L:(execOp a.eval ⟨none,op,T,pos,af,none⟩).run P w=.ok (.defer dd) w)
  (h: ∀a',Fr a' n (dd::ds) l->WL none P ops Q rest a' w):WL none P ops Q (⟨none,op,T,pos,af,none⟩::rest) a w:=
 wpListIn_plain rfl λK N=>⟨λ_ _=>trivial,by
  show Oper.uponIn _ _ _ _ _ _ _ ((Oper.semAt none a.eval _).run P w);rw[Oper.semAt_none,L];exact N _ _ (h _ ⟨J.size,by rw[<-J.defs];rfl,J.get⟩)⟩
def on {dst:Option Tmp}{op:Op}{T:TypeId}{pos:String}{af:Array Edge}{j dj:Nat}{b:Bool}(J:Fr a n ds l)(L:(ops[j]?).bind (·.dst)=some dj)(N:lk l dj=some (.bool b))
  (h:WL r P ops Q (⟨dst,op,T,pos,af,none⟩::rest) a w):WL r P ops Q (⟨dst,op,T,pos,af,some (j,b)⟩::rest) a w:=by
 have O:yielded ops a.tmps j=some b:=by simp[yielded,L,J.get _ _ N]
 unfold WL wpListIn at h ⊢;have U:Region.wanted ⟨dst,op,T,pos,af,some (j,b)⟩ (yielded ops a.tmps)=true:=by simp[Region.wanted,O]
 have V:Region.wanted ⟨dst,op,T,pos,af,none⟩ (yielded ops a.tmps)=true:=by simp[Region.wanted]
 rw[Qe U];rw[Qe V]at h;exact h
def off {d:Nat}{op:Op}{T:TypeId}{pos:String}{af:Array Edge}{j dj:Nat}{b:Bool}{u:Value}(J:Fr a n ds l)(L:Nat.ble (d+1) n=true)(N:(ops[j]?).bind (·.dst)=some dj)(O:lk l dj=some u)
  (U:u=.bool (!b)\/u=undef)
  (h: ∀a',Fr a' n ds ((d,undef)::l)->WL r P ops Q rest a' w):WL r P ops Q (⟨some d,op,T,pos,af,some (j,b)⟩::rest) a w:=by
 have V:Region.wanted ⟨some d,op,T,pos,af,some (j,b)⟩ (yielded ops a.tmps)=false:=by
  rcases U with rfl|rfl<;>simp[Region.wanted,yielded,N,J.get _ _ O,undef]
 unfold WL wpListIn;rw[V];exact⟨λ_ _=>trivial,h _ (J.put (Qn L) undef)⟩
def done (h:Q .normal a w):WL r P ops Q [] a w:=h
def reg {id:Nat}{lo:List Oper}(h:WL r P lo.toArray Q lo a w):WP r P (Code.region id lo.toArray false) Q a w:=wpIn_region_lit h
def cond {c:Operand}{x y:Code}{b:Bool}(J:Fr a n ds l)(L:ev l c=some (.bool b))(N:b=true->WP r P x Q a w)(O:b=false->WP r P y Q a w):WP r P (Code.cond c x y) Q a w:=
 wpIn_cond_split (J.eval L) N O
def condp {c:Operand}{x y:Code}{p:Prop}[Decidable p](J:Fr a n ds l)(L:ev l c=some (.bool (decide p)))(N:p->WP r P x Q a w)(O: ¬p->WP r P y Q a w):WP r P (Code.cond c x y) Q a w:=
 wpIn_cond_split (J.eval L) (λh=>N (Wu h)) (λh=>O (of_decide_eq_false h))
def condt {c:Operand}{x y:Code}(J:Fr a n ds l)(L:ev l c=some (.bool true))(N:WP r P x Q a w):WP r P (Code.cond c x y) Q a w:=
 wpIn_cond_split (J.eval L) (λ_=>N) (λh=>by cases h)
def condf {c:Operand}{x y:Code}(J:Fr a n ds l)(L:ev l c=some (.bool false))(N:WP r P y Q a w):WP r P (Code.cond c x y) Q a w:=
 wpIn_cond_split (J.eval L) (λh=>by cases h) (λ_=>N)
def skip (h:Q .normal a w):WP r P Code.skip Q a w:=wpIn_skip h
def exit {id:Nat}(h:Q (.exit id) a w):WP r P (Code.exit id) Q a w:=wpIn_exit h
def ret (h:Q .ret a w):WP r P Code.ret Q a w:=wpIn_ret h
def loop {c:Code}(I:Nat->Act->World->Prop)(m:Nat)(U:I m a w)
  (round: ∀m a w,I m a w->WP r P c (Exit.then (λa' w'=>∃m',m'<m/\I m' a' w') Q) a w):WP r P (Code.loop c) Q a w:=by
 intro b k cs J L N;have key: ∀m a w,I m a w->∃e a' w',Q e a' w'/\ArrivesIn (Machine.fenced P (FW r)) P (lone (b.atR a (.code c:: .inLoop c::k)) cs w) b k cs e a' w':=by
  intro m;induction m using Nat.strongRecOn with
  |_ m V=>
   intro a w W;obtain⟨e,a₁,w₁,hq,harr⟩:=round m a w W b (.inLoop c::k) cs J L N;cases e with
   |normal=>
    obtain⟨m',O,hI₁⟩:=hq;obtain⟨e₂,a₂,w₂,hq₂,harr₂⟩:=V m' O a₁ w₁ hI₁;exact⟨e₂,a₂,w₂,hq₂,.of_steps (StepsIn.trans harr (.one (fenced_calm L N rfl) stepR_inLoop)) harr₂⟩
   |exit id=>exact⟨_,a₁,w₁,hq,.pass (x:=.inLoop c) rfl (λ_ _=>.inl (by simp)) harr⟩
   |goto l=>exact⟨_,a₁,w₁,hq,.pass (x:=.inLoop c) rfl (λ_ _=>.inl (by simp)) harr⟩
   |ret=>exact⟨_,a₁,w₁,hq,.pass (x:=.inLoop c) rfl (λ_ _=>.inl (by simp)) harr⟩
   |panic ch=>exact⟨_,a₁,w₁,hq,.pass (x:=.inLoop c) rfl (λ_ _=>.inl (by simp)) harr⟩
   |outgrown=>exact⟨_,a₁,w₁,hq,.pass (x:=.inLoop c) rfl (λ_ _=>.inl (by simp)) harr⟩
 obtain⟨e,a',w',hq,harr⟩:=key m a w U;exact⟨e,a',w',hq,.of_steps (.one (fenced_calm L N rfl) stepR_loop) harr⟩
def ret1 {fn:Func}{R:Ending->World->Prop}{t:Tmp}{v:Value}(J:Fr a n [] l)(L:fn.results=#[.tmp t])(N:lk l t=some v)(O:R (.returned v) w):bodyPost P fn R .ret a w:=
 bodyPost_ret (v:=v) (by rw[results_tmp L];exact Wl (λx=>Result.ok x w) (J.eval (x:=.tmp t) N)) J.defs O
def ret0 {fn:Func}{R:Ending->World->Prop}(J:Fr a n [] l)(L:fn.results=#[])(N:R (.returned (.tuple #[])) w):bodyPost P fn R .ret a w:=
 bodyPost_ret (results_none L _ _ _) J.defs N
end
structure Ch (S:List Nat) (w w':World):Prop where
 os:w'.os=w.os
 tape:w'.tape=w.tape
 output:w'.output=w.output
 size:w.heap.size<=w'.heap.size
 block: ∀k,k<w.heap.size->k∉S->w'.heap[k]?=w.heap[k]?
def Ch.refl (w:World):Ch [] w w:=⟨rfl,rfl,rfl,Q4 _,λ_ _ _=>rfl⟩
def Ch.refl' (S:List Nat)(w:World):Ch S w w:=⟨rfl,rfl,rfl,Q4 _,λ_ _ _=>rfl⟩
def Ch.mono {S S':List Nat}{a b:World}(h:Ch S a b)(L: ∀k,k∈S->k∈S'\/a.heap.size<=k):Ch S' a b:=
 ⟨h.os,h.tape,h.output,h.size,λk hk N=>h.block k hk (λO=>by rcases L k O with J|J;exact N J;omega)⟩
def Ch.then {S T U:List Nat}{a b c:World}(h:Ch S a b)(k:Ch T b c)(O: ∀i,i∈S->i∈U\/a.heap.size<=i:=by simp)(V: ∀i,i∈T->i∈U\/a.heap.size<=i:=by simp):Ch U a c:=
 ⟨k.os.trans h.os,k.tape.trans h.tape,k.output.trans h.output,Q7 h.size k.size,λi hi N=>by
  have W:=h.size;refine(k.block i (by omega) (λL=>?_)).trans (h.block i hi (λL=>?_));rcases V i L with J|J
  exact N J;omega;rcases O i L with J|J
  exact N J;omega⟩
def Ch.trans {S T:List Nat}{a b c:World}(h:Ch S a b)(k:Ch T b c):Ch (S++T) a c:=
 h.then k (λ_ hi=>.inl (Wg _ hi)) (λ_ hi=>.inl (We _ hi))
def Ch.step {S:List Nat}{a b c:World}(h:Ch S a b)(k:Ch [] b c):Ch S a c:=h.then k (λ_ hi=>.inl hi) (λ_ hi=>by cases hi)
def Ch.of_grown {w w':World}{row:Option Nat}(h:w.grownBy w' row):Ch row.toList w w':=
 ⟨h.os,h.tape,h.output,h.size,λk hk J=>h.block k hk (λe=>J (by rw[<-e];simp))⟩
def Ch.below {w w':World}(h:Ch [] w w'):Below w.heap.size w w':=⟨h.os,h.tape,h.output,h.size,λk hk=>h.block k hk (by simp)⟩
def Ch.drew (w:World):Ch [] w w.drew:=⟨rfl,rfl,rfl,Q4 _,λ_ _ _=>rfl⟩
def Ch.alloc (w:World)(o:Obj):Ch [] w (w.alloc o):=⟨rfl,rfl,rfl,by simp,λk hk _=>Below.heap_alloc w o k hk⟩
def Ch.setRow (w:World)(g:Nat)(cs:Array Value):Ch [g] w (w.setRow g cs):=
 ⟨rfl,rfl,rfl,by simp[World.setRow],λk _ J=>setRow_other w g k cs (by simpa using J)⟩
def Ch.cell {S:List Nat}{w w':World}(h:Ch S w w'){p:Addr}(hp:p.block<w.heap.size)(J:p.block∉S):w'.cell? p=w.cell? p:=World.cell?_of_block (h.block _ hp J)
def Blk (w:World)(g:Nat)(t:TypeId)(cs:List Value):Prop:=w.heap[g]?=some (.cells cs.toArray t (0,0))
section
variable {w w':World}{g:Nat}{t:TypeId}{cs:List Value}
def Blk.lt (h:Blk w g t cs):g<w.heap.size:=by
 rcases Nat.lt_or_ge g w.heap.size with J|L
 exact J;unfold Blk at h;rw[Wy L]at h;cases h
def Blk.cell (h:Blk w g t cs)(i:Nat):w.cell? ⟨g,i,none⟩=cs[i]?:=by rw[cell_of_row w g i cs.toArray t (0,0) h];simp
def Blk.new (w:World)(t:TypeId)(cs:List Value):Blk (w.alloc (.cells cs.toArray t)) w.heap.size t cs:=heap_alloc_new w _
def Blk.ch {S:List Nat}(h:Blk w g t cs)(J:Ch S w w')(L:g∉S):Blk w' g t cs:=(J.block g h.lt L).trans h
end
section
variable {P:Program}{a:Act}{w:World}{d:Option Tmp}{T:TypeId}{pos:String}{af:Array Edge}{gd:Option (Nat×Bool)}
def r_move {x:Operand}{v:Value}(J:a.eval x=v):(execOp a.eval ⟨d,.move x,T,pos,af,gd⟩).run P w=.ok (.value v) w:=by
 simp[execOp,J]
def r_assign {x:Operand}{v:Value}(J:a.eval x=v):(execOp a.eval ⟨d,.assign x,T,pos,af,gd⟩).run P w=.ok (.value v) w:=by
 simp[execOp,J]
def r_pick_t {c x y:Operand}{u:Value}(J:a.eval c=.bool true)(L:a.eval x=u):
  (execOp a.eval ⟨d,.pick c x y,T,pos,af,gd⟩).run P w=.ok (.value u) w:=by
 simp[execOp,J,L,asBool]
def r_pick_f {c x y:Operand}{v:Value}(J:a.eval c=.bool false)(L:a.eval y=v):
  (execOp a.eval ⟨d,.pick c x y,T,pos,af,gd⟩).run P w=.ok (.value v) w:=by
 simp[execOp,J,L,asBool]
def r_not {t:TypeId}{x:Operand}{b:Bool}(J:a.eval x=.bool b):(execOp a.eval ⟨d,.unOp .not t x,T,pos,af,gd⟩).run P w=.ok (.value (.bool (!b))) w:=by
 simp[execOp,J,Op.unary]
def r_extract {x:Operand}{vs:Array Value}{i:Nat}{v:Value}(J:a.eval x=.tuple vs)(L:vs[i]?=some v):(execOp a.eval ⟨d,.extract x i,T,pos,af,gd⟩).run P w=.ok (.value v) w:=by
 simp[execOp,J,Instr.extract,L]
def r_nilCheck {x:Operand}{ad:Addr}(J:a.eval x=.pointer (some ad)):(execOp a.eval ⟨d,.nilCheck x,T,pos,af,gd⟩).run P w=.ok (.value (.pointer (some ad))) w:=by
 simp[execOp,J]
def r_makeFunc {fn:Fn}{first captured:Array Operand}{vs us:Array Value}(J:first.map a.eval=vs)(L:captured.map a.eval=us):
  (execOp a.eval ⟨d,.makeFunc fn first captured,T,pos,af,gd⟩).run P w=.ok (.value (.func fn vs us)) w:=by
 simp[execOp,Instr.makeFunc,J,L]
section ints
variable {t ty:TypeId}{x y:Operand}{k:IntKind}{m n:Int}
def r_add (J:a.eval x=.int k m)(L:a.eval y=.int k n):(execOp a.eval ⟨d,.binOp .add t x y ty,T,pos,af,gd⟩).run P w=.ok (.value (.int k (k.wrap (m+n)))) w:=by
 simp[execOp,J,L,binOp_add,eqGuard_add,Op.intArith]
def r_sub (J:a.eval x=.int k m)(L:a.eval y=.int k n):(execOp a.eval ⟨d,.binOp .sub t x y ty,T,pos,af,gd⟩).run P w=.ok (.value (.int k (k.wrap (m-n)))) w:=by
 simp[execOp,J,L,binOp_sub,eqGuard_sub,Op.intArith]
def r_mul (J:a.eval x=.int k m)(L:a.eval y=.int k n):(execOp a.eval ⟨d,.binOp .mul t x y ty,T,pos,af,gd⟩).run P w=.ok (.value (.int k (k.wrap (m*n)))) w:=by
 simp[execOp,J,L,binOp_mul,eqGuard_mul,Op.intArith]
def r_quo (J:a.eval x=.int k m)(L:a.eval y=.int k n)(N:n≠0):(execOp a.eval ⟨d,.binOp .quo t x y ty,T,pos,af,gd⟩).run P w=.ok (.value (.int k (k.wrap (m.tdiv n)))) w:=by
 simp[execOp,J,L,binOp_quo,eqGuard_quo,Op.intDiv,N]
def r_rem (J:a.eval x=.int k m)(L:a.eval y=.int k n)(N:n≠0):(execOp a.eval ⟨d,.binOp .rem t x y ty,T,pos,af,gd⟩).run P w=.ok (.value (.int k (m.tmod n))) w:=by
 simp[execOp,J,L,binOp_rem,eqGuard_rem,Op.intDiv,N]
def r_lss (J:a.eval x=.int k m)(L:a.eval y=.int k n):(execOp a.eval ⟨d,.binOp .lss t x y ty,T,pos,af,gd⟩).run P w=.ok (.value (.bool (decide (m<n)))) w:=by
 simp[execOp,J,L,binOp_lss,eqGuard_lss]
def r_leq (J:a.eval x=.int k m)(L:a.eval y=.int k n):(execOp a.eval ⟨d,.binOp .leq t x y ty,T,pos,af,gd⟩).run P w=.ok (.value (.bool (decide (m<=n)))) w:=by
 simp[execOp,J,L,binOp_leq,eqGuard_leq]
def r_gtr (J:a.eval x=.int k m)(L:a.eval y=.int k n):(execOp a.eval ⟨d,.binOp .gtr t x y ty,T,pos,af,gd⟩).run P w=.ok (.value (.bool (decide (n<m)))) w:=by
 simp[execOp,J,L,binOp_gtr,eqGuard_gtr]
def r_geq (J:a.eval x=.int k m)(L:a.eval y=.int k n):(execOp a.eval ⟨d,.binOp .geq t x y ty,T,pos,af,gd⟩).run P w=.ok (.value (.bool (decide (n<=m)))) w:=by
 simp[execOp,J,L,binOp_geq,eqGuard_geq]
def r_eql (J:a.eval x=.int k m)(L:a.eval y=.int k n):(execOp a.eval ⟨d,.binOp .eql t x y ty,T,pos,af,gd⟩).run P w=.ok (.value (.bool (decide (m=n)))) w:=by
 simp[execOp,J,L,binOp_eql,eqGuard_at_int];rfl
def r_neq (J:a.eval x=.int k m)(L:a.eval y=.int k n):(execOp a.eval ⟨d,.binOp .neq t x y ty,T,pos,af,gd⟩).run P w=.ok (.value (.bool (decide (m≠n)))) w:=by
 have e:(m !=n)=decide (m≠n):=by rw[Bool.eq_iff_iff];simp
 simp only[execOp,J,L,binOp_neq,eqGuard_at_int,Sem.run_bind,Sem.run_pure,Result.andThen_ok,e]
def r_shr {k':IntKind}(J:a.eval x=.int .u64 m)(L:a.eval y=.int k' n)(N:0<=n)(O:n<=64):(execOp a.eval ⟨d,.binOp .shr t x y ty,T,pos,af,gd⟩).run P w=.ok (.value (.int .u64 (m / 2^n.toNat))) w:=by
 simp[execOp,J,L,binOp_shr,eqGuard_shr,shift_shr_u64 k' m n N O]
end ints
section bools
variable {t ty:TypeId}{x y:Operand}{b c:Bool}
def Qce {t:TypeId}(J:P.underlying t=some .bool)(m:Nat):(Op.equalIn (m+1) t (.bool b) (.bool c)).run P w=.ok (b==c) w:=by
 simp[Op.equalIn,run_underlying J]
def Qbk {t:TypeId}(J:P.underlying t=some .bool):(Op.equal t (.bool b) (.bool c)).run P w=.ok (b==c) w:=Qce J 9999
def r_eqb (J:P.underlying t=some .bool)(L:a.eval x=.bool b)(N:a.eval y=.bool c):(execOp a.eval ⟨d,.binOp .eql t x y ty,T,pos,af,gd⟩).run P w=.ok (.value (.bool (b==c))) w:=by
 simp[execOp,L,N,eqGuard_at_bool,binOp,Qbk J]
def r_neb (J:P.underlying t=some .bool)(L:a.eval x=.bool b)(N:a.eval y=.bool c):(execOp a.eval ⟨d,.binOp .neq t x y ty,T,pos,af,gd⟩).run P w=.ok (.value (.bool (!(b==c)))) w:=by
 simp[execOp,L,N,eqGuard_at_bool,binOp,Qbk J]
end bools
section strings
variable {t ty:TypeId}{x y:Operand}{s u:ByteArray}
def str_eq (s u:ByteArray):(s.toList==u.toList)=decide (s=u):=by
 rw[Bool.eq_iff_iff];simp only[beq_iff_eq,W3];constructor;intro h;rw[ByteArray.toList_eq,ByteArray.toList_eq]at h;exact ByteArray.ext (Array.toList_inj.1 h);rintro rfl;rfl
def r_eqs (J:a.eval x=.string s)(L:a.eval y=.string u):(execOp a.eval ⟨d,.binOp .eql t x y ty,T,pos,af,gd⟩).run P w=.ok (.value (.bool (decide (s=u)))) w:=by
 simp[execOp,J,L,eqGuard_at_string,binOp,Op.stringOp,str_eq]
def r_nes (J:a.eval x=.string s)(L:a.eval y=.string u):(execOp a.eval ⟨d,.binOp .neq t x y ty,T,pos,af,gd⟩).run P w=.ok (.value (.bool (!decide (s=u)))) w:=by
 simp[execOp,J,L,eqGuard_at_string,binOp,Op.stringOp,str_eq]
end strings
section conv
variable {src dst:TypeId}{x:Operand}{k k':IntKind}{n:Int}
def r_conv {de:TypeDesc}(J:P.underlying src=some de)(L:P.underlying dst=some (.int k'))(N:a.eval x=.int k n):(execOp a.eval ⟨d,.convert src dst x,T,pos,af,gd⟩).run P w=.ok (.value (.int k' (k'.wrap n))) w:=by
 simp[execOp,N,convert,run_underlying J,run_underlying L,Conv.intToInt]
end conv
section lens
variable {t e:TypeId}{x y:Operand}{A:Option Addr}{n c:Nat}
def r_len (J:P.underlying t=some (.slice e))(L:a.eval x=.slice A n c):
  (execOp a.eval ⟨d,.call {callee:=.builtin .len,args:=#[x],argTypes:=#[t]},T,pos,af,gd⟩).run P w=.ok (.value (.int .i64 (n:Int))) w:=by
 simp[execOp,resolve,invoke,builtin,L,Builtin.len_,run_underlying J,goInt]
def r_lens {s:ByteArray}(J:P.underlying t=some .string)(L:a.eval x=.string s):
  (execOp a.eval ⟨d,.call {callee:=.builtin .len,args:=#[x],argTypes:=#[t]},T,pos,af,gd⟩).run P w=.ok (.value (.int .i64 (s.size:Int))) w:=by
 simp[execOp,resolve,invoke,builtin,L,Builtin.len_,run_underlying J,goInt]
def r_min {k k':IntKind}{p q:Int}{ts:Array TypeId}(J:a.eval x=.int k p)(L:a.eval y=.int k' q):
  (execOp a.eval ⟨d,.call {callee:=.builtin .min,args:=#[x,y],argTypes:=ts},T,pos,af,gd⟩).run P w=.ok (.value (.int k (min p q))) w:=by
 have e:(if q<p then q else p)=min p q:=by omega
 simp[execOp,resolve,invoke,builtin,J,L,Builtin.min_,Builtin.min2,e]
def r_max {k k':IntKind}{p q:Int}{ts:Array TypeId}(J:a.eval x=.int k p)(L:a.eval y=.int k' q):
  (execOp a.eval ⟨d,.call {callee:=.builtin .max,args:=#[x,y],argTypes:=ts},T,pos,af,gd⟩).run P w=.ok (.value (.int k (max p q))) w:=by
 have e:(if p<q then q else p)=max p q:=by omega
 simp[execOp,resolve,invoke,builtin,J,L,Builtin.max_,Builtin.max2,e]
end lens
section mem
variable {t e:TypeId}{x y:Operand}{g o:Nat}{cs:List Value}{v:Value}{n:Nat}
def r_load1 {ad:Addr}(J: ∀w,(isAgg t).run P w=.ok false w)(L:a.eval x=.pointer (some ad))(N:w.cell? ad=some v):
  (execOp a.eval ⟨d,.load t x,T,pos,af,gd⟩).run P w=.ok (.value v) w:=by
 simp[execOp,Instr.loadAt,L,Instr.sureAddr,loadVar,J,N]
def r_loadN {ad:Addr}(J: ∀w,(isAgg t).run P w=.ok true w)(L: ∀w,(sizeOf t).run P w=.ok n w)(N:a.eval x=.pointer (some ad))(O:cs.length=n)
  (U: ∀j u,cs[j]?=some u->w.cell? (ad.add j)=some u):
  (execOp a.eval ⟨d,.load t x,T,pos,af,gd⟩).run P w=.ok (.value (.agg cs.toArray)) w:=by
 subst O;have:=run_loadCells_list (P:=P) w ad cs U;simp[execOp,Instr.loadAt,N,Instr.sureAddr,loadVar,J,L,this]
def r_indexAddr {A:Addr}{c:Nat}{i:Int}{k:IntKind}(J:P.underlying t=some (.slice e))(L: ∀w,(sizeOf e).run P w=.ok g w)(N:a.eval x=.slice (some A) n c)(O:a.eval y=.int k i)(U:0<=i)(V:i<n):
  (execOp a.eval ⟨d,.indexAddr t x y,T,pos,af,gd⟩).run P w=.ok (.value (.pointer (some (A.add (i.toNat*g))))) w:=by
 simp[execOp,Instr.indexAt,N,O,asIntOf,run_underlying J,L,U,V]
end mem
end
inductive Ty where
 |int (k:IntKind)
 |byte
 |bool
 |str
 |slice (e:Ty)
 |pair (a b:Ty)
@[reducible] def Ty.den:Ty->Type
 | .int _=>Int
 | .byte=>UInt8
 | .bool=>Bool
 | .str=>ByteArray
 | .slice e=>List e.den
 | .pair a b=>a.den×b.den
def Ty.size:Ty->Nat
 | .pair a b=>a.size+b.size
 |_=>1
def Ty.rep (w:World)(F:Nat->Prop):(t:Ty)->List Value->t.den->Prop
 | .int k,cs,x=>cs=[.int k x]/\k.has x
 | .byte,cs,x=>cs=[.int .u8 (x.toNat:Int)]
 | .bool,cs,x=>cs=[.bool x]
 | .str,cs,x=>cs=[.string x]/\x.size<=maxLen
 | .slice e,cs,xs=>∃(A:Option Addr) (c:Nat) (cells:List Value),cs=[.slice A xs.length c]/\xs.length<=c/\c<=maxLen/\cells.length=xs.length*e.size/\
   (xs.length=0\/∃b o,A=some ⟨b,o,none⟩/\F b/\∀j u,cells[j]?=some u->w.cell? ⟨b,o+j,none⟩=some u)/\
   ∀(i:Nat) (x:e.den),xs[i]?=some x->e.rep w F ((cells.drop (i*e.size)).take e.size) x
 | .pair a b,cs,x=>∃ca cb,cs=ca++cb/\a.rep w F ca x.1/\b.rep w F cb x.2
section
variable {w w':World}{F F':Nat->Prop}
def Qeq: ∀(t:Ty) {cs:List Value} {x:t.den},t.rep w F cs x->cs.length=t.size
 | .int _,_,_,h=>by rw[h.1];rfl
 | .byte,_,_,h=>by rw[show _=_ from h];rfl
 | .bool,_,_,h=>by rw[show _=_ from h];rfl
 | .str,_,_,h=>by rw[h.1];rfl
 | .slice e,_,_,h=>by obtain⟨A,c,cells,h,_⟩:=h;rw[h];rfl
 | .pair a b,_,_,h=>by
  obtain⟨ca,cb,h,J,L⟩:=h;rw[h,Qb,Qeq a J,Qeq b L];rfl
def Qcx: ∀(t:Ty) {cs:List Value} {x:t.den},t.rep w F cs x->∀u∈cs,u.oneCell'=true
 | .int _,_,_,h=>by rw[h.1];simp[Value.oneCell']
 | .byte,_,_,h=>by rw[show _=_ from h];simp[Value.oneCell']
 | .bool,_,_,h=>by rw[show _=_ from h];simp[Value.oneCell']
 | .str,_,_,h=>by rw[h.1];simp[Value.oneCell']
 | .slice e,_,_,h=>by obtain⟨A,c,cells,h,_⟩:=h;rw[h];simp[Value.oneCell']
 | .pair a b,_,_,h=>by
  obtain⟨ca,cb,h,L,N⟩:=h;intro u J;rw[h,Wb]at J;rcases J with J|J
  exact Qcx a L u J;exact Qcx b N u J
def rep_keep (hk: ∀p:Addr,F p.block->p.block<w.heap.size->w'.cell? p=w.cell? p)(J: ∀b,F b->F' b): ∀(t:Ty) {cs:List Value} {x:t.den},t.rep w F cs x->t.rep w' F' cs x
 | .int _,_,_,h=>h
 | .byte,_,_,h=>h
 | .bool,_,_,h=>h
 | .str,_,_,h=>h
 | .slice e,_,_,h=>by
  obtain⟨A,c,cells,O,U,V,W,N,h6⟩:=h;refine⟨A,c,cells,O,U,V,W,?_,λi x hi=>rep_keep hk J e (h6 i x hi)⟩;rcases N with N|⟨b,o,X,L,Y⟩
  exact .inl N;refine .inr ⟨b,o,X,J b L,λj u hu=>?_⟩;have:=Y j u hu;rw[hk ⟨b,o+j,none⟩ L (World.block_lt_of_cell? w _ this)];exact this
 | .pair a b,_,_,h=>by
  obtain⟨ca,cb,h,ha,L⟩:=h;exact⟨ca,cb,h,rep_keep hk J a ha,rep_keep hk J b L⟩
def Ty.flat:Ty->Bool
 | .slice _=>false
 | .pair a b=>a.flat&&b.flat
 |_=>true
def Qdr: ∀(t:Ty),t.flat=true->∀{cs:List Value} {x:t.den},t.rep w F cs x->t.rep w F' cs x
 | .int _,_,_,_,h=>h
 | .byte,_,_,_,h=>h
 | .bool,_,_,_,h=>h
 | .str,_,_,_,h=>h
 | .slice e,J,_,_,_=>by cases J
 | .pair a b,J,_,_,h=>by
  simp only[Ty.flat,Qm]at J;obtain⟨ca,cb,h,L,N⟩:=h;exact⟨ca,cb,h,Qdr a J.1 L,Qdr b J.2 N⟩
def rep_ch {S:List Nat}(J:Ch S w w')(L: ∀b,F b->b∉S)(t:Ty){cs:List Value}{x:t.den}(h:t.rep w F cs x):t.rep w' F cs x:=
 rep_keep (λ_ hp N=>J.cell N (L _ hp)) (λ_ h=>h) t h
def Qbh (J: ∀b,F b->F' b)(t:Ty){cs:List Value}{x:t.den}(h:t.rep w F cs x):t.rep w F' cs x:=rep_keep (λ_ _ _=>rfl) J t h
def rep_slice {e:Ty}{cs:List Value}{xs:List e.den}(h:(Ty.slice e).rep w F cs xs): ∃A c,cs=[.slice A xs.length c]/\xs.length<=c/\c<=maxLen:=by
 obtain⟨A,c,cells,J,L,N,_⟩:=h;exact⟨A,c,J,L,N⟩
def rep_at {e:Ty}{A:Option Addr}{n c:Nat}{xs:List e.den}(h:(Ty.slice e).rep w F [.slice A n c] xs){k:Nat}(hk:k<xs.length):
  ∃ad es,A=some ad/\(∀j u,es[j]?=some u->w.cell? ((ad.add (k*e.size)).add j)=some u)/\e.rep w F es xs[k]:=by
 obtain⟨A',c',cells,J,V,W,X,N,h6⟩:=h;injection J with J
 injection J with O Y hc
 subst O;rcases N with N|⟨b,o,rfl,hb,hcell⟩
 omega;refine⟨_,_,rfl,λj u L=>?_,h6 k _ (Qf hk)⟩;rw[Addr.add_lit,Addr.add_lit];have U:j<e.size:=by
  have:=(Qd.1 L).1;simp only[Qj]at this;omega
 rw[Qu U,Qv]at L;rw[Wn];exact hcell _ _ L
def rep_slice_len {e:Ty}{A:Option Addr}{n c:Nat}{xs:List e.den}(h:(Ty.slice e).rep w F [.slice A n c] xs):xs.length=n/\n<=c/\c<=maxLen:=by
 obtain⟨A',c',cells,J,L,N,_⟩:=h;injection J with J
 injection J with V O U
 subst O;subst U;exact⟨rfl,L,N⟩
def rep_nil (e:Ty):(Ty.slice e).rep w F [.slice none 0 0] []:=⟨none,0,[],rfl,Q4 _,by simp[maxLen],by simp,.inl rfl,λi x h=>by simp at h⟩
def Qbi {e:Ty}{A:Option Addr}{n c:Nat}{xs:List e.den}(h:(Ty.slice e).rep w F [.slice A n c] xs){k:Nat}(hk:k<=xs.length):(Ty.slice e).rep w F [.slice A k c] (xs.take k):=by
 obtain⟨A',c',cells,L,h2,W,X,U,h6⟩:=h;injection L with L
 injection L with N hn Y
 subst N;subst Y;have O:(xs.take k).length=k:=by rw[Qj];omega
 refine⟨A,c,cells.take (k*e.size),by rw[O],by omega,W,by rw[Qj,X,O];exact W8 (Wh _ hk),?_,λi x hi=>?_⟩;rw[O];rcases U with U|⟨b,o,N,hb,hcell⟩
 exact .inl (by omega);refine .inr ⟨b,o,N,hb,λj u V=>hcell j u ?_⟩;have hj:=(Qd.1 V).1;rw[Qj]at hj;rwa[Qu (by omega)]at V;have J:i<k:=by
  have:=(Qd.1 hi).1;omega
 have hx:xs[i]?=some x:=by rwa[Qu J]at hi
 have:=h6 i x hx;have hm:(i+1)*e.size<=k*e.size:=Wh _ J;rw[Nat.add_mul,Nat.one_mul]at hm;rw[Xg,List.take_take,W8 (by omega)];exact this
def rep_drop {e:Ty}{A:Option Addr}{n c:Nat}{xs:List e.den}(h:(Ty.slice e).rep w F [.slice A n c] xs){k c':Nat}{A':Option Addr}(hk:k<=xs.length)(hc':n-k<=c')(U:c'<=maxLen)
  (hA':k<xs.length->∀ad,A=some ad->A'=some (ad.add (k*e.size))):(Ty.slice e).rep w F [.slice A' (n-k) c'] (xs.drop k):=by
 obtain⟨A1,c1,cells,J,h2,h3,V,N,h6⟩:=h;injection J with J
 injection J with W X hc
 subst W;subst X;have L:(xs.drop k).length=xs.length-k:=Qk;refine⟨A',c',cells.drop (k*e.size),by rw[L],by omega,U,by rw[Qk,V,L,Nat.sub_mul],?_,λi x hi=>?_⟩;rw[L];by_cases Y:xs.length-k=0;exact .inl Y;rcases N with N|⟨b,o,rfl,hb,hcell⟩
 omega;refine .inr ⟨b,o+k*e.size,by rw[hA' (by omega) _ rfl,Addr.add_lit],hb,λj u O=>?_⟩;rw[Qv]at O;rw[Wn];exact hcell _ _ O;rw[Qv]at hi;have:=h6 _ _ hi;rw[Q9,show k*e.size+i*e.size=(k+i)*e.size from(Nat.add_mul _ _ _).symm];exact this
def rep_cells {e:Ty}{A:Option Addr}{n c:Nat}{xs:List e.den}(h:(Ty.slice e).rep w F [.slice A n c] xs):
  ∃cells:List Value,cells.length=n*e.size/\(∀u∈cells,u.oneCell'=true)/\(n=0\/∃ad,A=some ad/\F ad.block/\∀j u,cells[j]?=some u->w.cell? (ad.add j)=some u)/\
   ∀(i:Nat) (x:e.den),xs[i]?=some x->e.rep w F ((cells.drop (i*e.size)).take e.size) x:=by
 obtain⟨A',c',cells,J,h2,h3,L,N,h6⟩:=h;injection J with J
 injection J with W X hc
 subst W;subst X;refine⟨cells,L,λu O=>?_,?_,h6⟩;obtain⟨j,V,rfl⟩:=Ww O;have Y:0<e.size:=by
  rcases Nat.eq_zero_or_pos e.size with U|U
  rw[U]at L;omega;exact U
 have hi:j / e.size<xs.length:=Nat.div_lt_of_lt_mul (by rw[Xp,<-L];exact V);have hr:=h6 (j / e.size) _ (Qf hi);refine Qcx e hr _ (Qi (i:=j%e.size) ?_);rw[Qu (Nat.mod_lt _ Y),Qv,Xp,Nat.div_add_mod];exact Qf V;rcases N with N|⟨b,o,rfl,hb,hcell⟩
 exact .inl N;exact .inr ⟨_,rfl,hb,λj u O=>by rw[Addr.add_lit];exact hcell j u O⟩
end
def obl:Option Addr->List Nat
 |none=>[]
 |some a=>[a.block]
def Own (t:Ty)(e:TypeId)(B:Nat)(w:World)(F:Nat->Prop)(A:Option Addr)(c:Nat)(xs:List t.den):Prop:=
 ∃cells:List Value,w.ownsRow B e t.size (.slice A xs.length c) xs.length cells/\(∀u∈cells,u.oneCell'=true)/\
  ∀(i:Nat) (x:t.den),xs[i]?=some x->t.rep w F ((cells.drop (i*t.size)).take t.size) x
section
variable {t:Ty}{e:TypeId}{B:Nat}{w w':World}{F F':Nat->Prop}{A:Option Addr}{c:Nat}{xs:List t.den}
def ownBlock_slice (A:Option Addr)(n c:Nat):(Value.slice A n c).ownBlock.toList=obl A:=by cases A<;>rfl
def Own.nil (t:Ty)(e:TypeId)(B:Nat)(w:World)(F:Nat->Prop):Own t e B w F none 0 []:=
 ⟨[],World.ownsRow_nil w B e t.size,by simp,λi x h=>by simp at h⟩
def Own.lt (h:Own t e B w F A c xs): ∀k,k∈obl A->B<=k/\k<w.heap.size:=by
 obtain⟨cells,J,_⟩:=h;intro k hk;exact J.lt k (by cases A<;>simp_all [obl,Value.ownBlock])
def Own.more (h:Own t e B w F A c xs)(J: ∀b,F b->F' b):Own t e B w F' A c xs:=by
 obtain⟨cells,L,N,O⟩:=h;exact⟨cells,L,N,λi x hi=>Qbh J t (O i x hi)⟩
def Own.rep (h:Own t e B w F A c xs)(V: ∀b,F b->F' b)(hA: ∀k,k∈obl A->F' k):(Ty.slice t).rep w F' [.slice A xs.length c] xs:=by
 obtain⟨cells,W,h1,X⟩:=h;have Y:cells.length=xs.length*t.size:=W.1;rcases W.2 with⟨L,hn⟩|⟨g,cap,cur,L,hb,hg,N,O,hcs,htake⟩
 injection L with hA' _ U
 subst hA';subst U;exact⟨none,0,cells,rfl,by omega,by simp[maxLen],Y,.inl hn,λi x hi=>Qbh V t (X i x hi)⟩;injection L with hA' _ U
 subst hA';subst U;refine⟨_,_,cells,rfl,N,O,Y,.inr ⟨g,0,rfl,hA g (by simp[obl]),λj u J=>?_⟩,λi x hi=>Qbh V t (X i x hi)⟩;rw[Nat.zero_add,cell_of_row w g j cur e (0,0) hg];rw[<-htake,List.getElem?_take]at J;split at J;simpa using J;cases J
def Own.made {w:World}{g:Nat}{cs:List Value}(L:Blk w g e cs)(N:B<=g)(J:cs.length=xs.length*t.size)(O:xs.length<=maxLen)(U: ∀u∈cs,u.oneCell'=true)
  (V: ∀(i:Nat) (x:t.den),xs[i]?=some x->t.rep w F ((cs.drop (i*t.size)).take t.size) x):Own t e B w F (some ⟨g,0,none⟩) xs.length xs:=
 ⟨cs,⟨J,.inr ⟨g,xs.length,cs.toArray,rfl,N,L,Q4 _,O,by simpa using J,by simp[<-J]⟩⟩,U,V⟩
end
def Qbf {t:Ty}{w:World}{F:Nat->Prop}{xs ys:List t.den}{cs ds:List Value}(L:cs.length=xs.length*t.size)
  (N: ∀(i:Nat) (x:t.den),xs[i]?=some x->t.rep w F ((cs.drop (i*t.size)).take t.size) x) (O: ∀(i:Nat) (x:t.den),ys[i]?=some x->t.rep w F ((ds.drop (i*t.size)).take t.size) x):
  ∀(i:Nat) (x:t.den),(xs++ys)[i]?=some x->t.rep w F (((cs++ds).drop (i*t.size)).take t.size) x:=by
 intro i x hi;by_cases J:i<xs.length;rw[W7 J]at hi;have U:(i+1)*t.size<=xs.length*t.size:=Wh _ J;rw[Nat.add_mul,Nat.one_mul]at U;rw[List.drop_append_of_le_length (by omega),List.take_append_of_le_length (by rw[Qk];omega)];exact N i x hi;rw[List.getElem?_append_right (by omega)]at hi;have:=O _ _ hi;have e:(cs++ds).drop (i*t.size)=ds.drop ((i-xs.length)*t.size):=by
  rw[List.drop_append,Xh (by rw[L];exact Wh _ (by omega)),Ql,L,Nat.sub_mul]
 rw[e];exact this
section
variable {P:Program}{t:Ty}{e:TypeId}{B:Nat}{w:World}{F:Nat->Prop}{A:Option Addr}{c:Nat}{xs:List t.den}
def run_append {tt ty:TypeId}{i:TypeInfo}{z:Value}{bytes:Nat}(ht:P.underlying tt=some (.slice e))(hi:P.info? e=some i)(hz:i.zero=some z)(hsize:i.size=t.size)(hby:i.bytes=bytes)
  (hzs:z.cells.size=t.size) (hsz:0<t.size) (hown:Own t e B w F A c xs) {F2:Nat->Prop} {A2:Option Addr} {n2 c2:Nat} {ys:List t.den} (hr:(Ty.slice t).rep w F2 [.slice A2 n2 c2] ys) (hel: ∀cs x,t.rep w F2 cs x->t.rep w F cs x) (h63:(xs.length+ys.length)*bytes<=140737488355328)
  (hbp:0<bytes) (hA: ∀b,F b->b∉obl A) (hB:B<=w.heap.size):
  ∃A' c' w',(Builtin.append_ #[tt,tt] ty #[.slice A xs.length c,.slice A2 n2 c2]).run P w=.ok (.slice A' (xs.length+ys.length) c') w'/\Own t e B w' F A' c' (xs++ys)/\Ch (obl A) w w'/\
   (∀k,k∈obl A'->k∈obl A\/k=w.heap.size):=by
 obtain⟨cells,hrow,h1,h2⟩:=hown;have hlen:=rep_slice_len hr;obtain⟨news,U,V,L,hn3⟩:=rep_cells hr;obtain⟨J,_,_⟩:=hlen;have hbig:xs.length+ys.length<=maxLen:=by
  have:xs.length+ys.length<=(xs.length+ys.length)*bytes:=Xb _ hbp;simp only[maxLen];omega
 by_cases W:n2=0;have hy:ys=[]:=Qt (by omega);subst hy;subst W;have hnews:news=[]:=Qt (by simpa using U);have hrun:(Builtin.append_ #[tt,tt] ty #[.slice A xs.length c,.slice A2 0 c2]).run P w=.ok (.slice A xs.length c) w:=by
  rcases hrow.2 with⟨N,hn⟩|⟨g,cap,cur,N,_,_,hnc,_⟩
  injection N with hA' hn' hc
  subst hA';subst hc;cases A2<;>simp[Builtin.append_,run_underlying ht,sizeOf,typeInfo,hi,Builtin.lenOf,Builtin.firstCells,hn,loadCells,loadCellsFrom];injection N with hA' hn' hc
  subst hA';subst hc;cases A2<;>simp[Builtin.append_,run_underlying ht,sizeOf,typeInfo,hi,Builtin.lenOf,Builtin.firstCells,hnc,storeCells,loadCells,loadCellsFrom]
 refine⟨A,c,w,by simpa using hrun,⟨cells,by simpa using hrow,h1,by simpa using h2⟩,Ch.refl' _ _,λk hk=>.inl hk⟩;rcases L with L|⟨ad,rfl,hFad,hcell⟩
 exact absurd L W;obtain⟨v',w',hrun,h3,h4,_,X⟩:=run_append_own_at (P:=P) w B tt ty e i z t.size bytes ht hi hz hsize hby hzs hsz _ xs.length cells hrow ad n2 c2 news U hcell V (by omega) (by rw[<-J];exact h63) hB;have hform: ∃A' c',v'=.slice A' (xs.length+ys.length) c':=by
  rcases h3.2 with⟨N,hn⟩|⟨g,cap,cur,N,_⟩
  exact⟨none,0,by rw[N,show xs.length+ys.length=0 from by omega]⟩;exact⟨_,_,by rw[N,J]⟩
 obtain⟨A',c',rfl⟩:=hform;have O:Ch (obl A) w w':=by have:=Ch.of_grown h4;rwa[ownBlock_slice]at this
 refine⟨A',c',w',hrun,⟨cells++news,?_,?_,?_⟩,O,λk hk=>?_⟩;rw[Qb,J];rw[J]at h3;exact h3;intro u Y;rcases Wb.1 Y with Y|Y
 exact h1 u Y;exact V u Y;exact Qbf hrow.1 (λi x hi=>rep_ch O hA t (h2 i x hi)) (λi x hi=>rep_ch O hA t (hel _ _ (hn3 i x hi)));rcases X with X|X
 left;have:obl A'=obl A:=by rw[<-ownBlock_slice A' (xs.length+ys.length) c',X,ownBlock_slice]
 rwa[<-this];right;have:obl A'=[w.heap.size]:=by rw[<-ownBlock_slice A' (xs.length+ys.length) c',X];rfl
 rw[this]at hk;simpa using hk
end
def evs (l:List (Nat×Value)):List Operand->Option (List Value)
 | []=>some []
 |x::r=>match ev l x,evs l r with
  |some v,some vs=>some (v::vs)
  |_,_=>none
def evp (l:List (Nat×Value)):List (Nat×Operand)->Option (List (Nat×Value))
 | []=>some []
 |(i,x)::r=>match ev l x,evp l r with
  |some v,some vs=>some ((i,v)::vs)
  |_,_=>none
def Fr.evals {a:Act}{n:Nat}{ds:List Deferred}{l:List (Nat×Value)}(h:Fr a n ds l): ∀(xs:List Operand) {vs:List Value},evs l xs=some vs->xs.toArray.map a.eval=vs.toArray:=by
 intro xs;induction xs with
 |nil=>intro vs J;simp only[evs,Qr]at J;subst J;simp
 |cons x r O=>
  intro vs J;unfold evs at J;cases L:ev l x with
  |none=>simp[L]at J
  |some v=>
   cases N:evs l r with
   |none=>simp[L,N]at J
   |some us=>
    simp only[L,N,Qr]at J;subst J;have:=O N;simp only[Wd,Wc,h.eval L]at this ⊢;rw[Array.mk.injEq]at this;rw[this]
def Fr.evalp {a:Act}{n:Nat}{ds:List Deferred}{l:List (Nat×Value)}(h:Fr a n ds l): ∀(xs:List (Nat×Operand)) {vs:List (Nat×Value)},evp l xs=some vs->
  xs.toArray.map (λ(i,x)=>(i,a.eval x))=vs.toArray:=by
 intro xs;induction xs with
 |nil=>intro vs J;simp only[evp,Qr]at J;subst J;simp
 |cons x r O=>
  obtain⟨i,x⟩:=x;intro vs J;unfold evp at J;cases L:ev l x with
  |none=>simp[L]at J
  |some v=>
   cases N:evp l r with
   |none=>simp[L,N]at J
   |some us=>
    simp only[L,N,Qr]at J;subst J;have:=O N;simp only[Wd,Wc,h.eval L]at this ⊢;rw[Array.mk.injEq]at this;rw[this]
section
variable {P:Program}{a:Act}{w:World}{d:Option Tmp}{T:TypeId}{pos:String}{af:Array Edge}{gd:Option (Nat×Bool)}{n:Nat}{ds:List Deferred}{l:List (Nat×Value)}
def Qeg {t:TypeId}{x:Operand}{fs:Array Field}{f:Field}{i m:Nat}{ad:Addr}(J:P.underlying t=some (.struct fs))(L:fs[i]?=some f)(N: ∀w,(sizeOf f.type).run P w=.ok (m+1) w)(O:a.eval x=.pointer (some ad)):
  (execOp a.eval ⟨d,.fieldAddr t x i,T,pos,af,gd⟩).run P w=.ok (.value (.pointer (some (ad.add f.offset)))) w:=by
 simp[execOp,Instr.fieldAt,run_underlying J,L,O,Instr.sureAddr,fieldPlace,N]
section
variable {t e:TypeId}{x lo hi mx:Operand}{A:Option Addr}{len c sz:Nat}{k k1 k2 k3:IntKind}{p q r:Int}
def Qef {u:Nat}(J:P.underlying t=some (.slice e))(L: ∀w,(sizeOf e).run P w=.ok sz w)(N:a.eval x=.slice A len c)(O:a.eval hi=.int k q)(hq:q=(u:Int))(U:u<=c):
  (execOp a.eval ⟨d,.slice t x none (some hi) none,T,pos,af,gd⟩).run P w=.ok (.value (.slice A u c)) w:=by
 subst hq;simp[execOp,Instr.sliceAt,run_underlying J,N,O,Instr.slice,Instr.sliceBounds,Instr.sliceBound,asIntOf,U,L];cases A<;>simp[Addr.add]
def cutA (A:Option Addr)(m p sz:Nat):Option Addr:=if m=p then A else A.map (·.add (p*sz))
def r_slice_l {u:Nat}(J:P.underlying t=some (.slice e))(L: ∀w,(sizeOf e).run P w=.ok sz w)(N:a.eval x=.slice A len c)(O:a.eval lo=.int k p)(hp:p=(u:Int))(U:u<=len):
  (execOp a.eval ⟨d,.slice t x (some lo) none none,T,pos,af,gd⟩).run P w=.ok (.value (.slice (cutA A c u sz) (len-u) (c-u))) w:=by
 subst hp;simp[execOp,Instr.sliceAt,run_underlying J,N,O,Instr.slice,Instr.sliceBounds,Instr.sliceBound,asIntOf,U,L,cutA]
def r_slice_lh {u v:Nat}(J:P.underlying t=some (.slice e))(L: ∀w,(sizeOf e).run P w=.ok sz w)(N:a.eval x=.slice A len c)(O:a.eval lo=.int k p)(U:a.eval hi=.int k1 q)(hp:p=(u:Int))(hq:q=(v:Int))(V:u<=v)(W:v<=c):
  (execOp a.eval ⟨d,.slice t x (some lo) (some hi) none,T,pos,af,gd⟩).run P w=.ok (.value (.slice (cutA A c u sz) (v-u) (c-u))) w:=by
 subst hp;subst hq;simp[execOp,Instr.sliceAt,run_underlying J,N,O,U,Instr.slice,Instr.sliceBounds,Instr.sliceBound,asIntOf,V,W,L,cutA]
def Qcw {u v m:Nat}(J:P.underlying t=some (.slice e))(L: ∀w,(sizeOf e).run P w=.ok sz w)(N:a.eval x=.slice A len c)(O:a.eval lo=.int k p)(U:a.eval hi=.int k1 q)(V:a.eval mx=.int k2 r)(hp:p=(u:Int))(hq:q=(v:Int))(W:r=(m:Int))(X:u<=v)(Y:v<=m)(h3:m<=c):
  (execOp a.eval ⟨d,.slice t x (some lo) (some hi) (some mx),T,pos,af,gd⟩).run P w=.ok (.value (.slice (cutA A m u sz) (v-u) (m-u))) w:=by
 subst hp;subst hq;subst W;simp[execOp,Instr.sliceAt,run_underlying J,N,O,U,V,Instr.slice,Instr.sliceBounds,Instr.sliceBound,asIntOf,X,Y,h3,L,cutA]
def r_slice_hm {v m:Nat}(J:P.underlying t=some (.slice e))(L: ∀w,(sizeOf e).run P w=.ok sz w)(N:a.eval x=.slice A len c)(O:a.eval hi=.int k1 q)(U:a.eval mx=.int k2 r)(hq:q=(v:Int))(V:r=(m:Int))(W:v<=m)(X:m<=c):
  (execOp a.eval ⟨d,.slice t x none (some hi) (some mx),T,pos,af,gd⟩).run P w=.ok (.value (.slice A v m)) w:=by
 subst hq;subst V;simp[execOp,Instr.sliceAt,run_underlying J,N,O,U,Instr.slice,Instr.sliceBounds,Instr.sliceBound,asIntOf,W,X,L];cases A<;>simp[Addr.add]
def r_eqnil {ty:TypeId}{y:Operand}(J:P.underlying t=some (.slice e))(L:a.eval x=.slice A len c)(N:a.eval y=.slice none 0 0):
  (execOp a.eval ⟨d,.binOp .eql t x y ty,T,pos,af,gd⟩).run P w=.ok (.value (.bool A.isNone)) w:=by
 have h: ∀m,(Op.equalIn (m+1) t (.slice A len c) (.slice none 0 0)).run P w=.ok A.isNone w:=λm=>by
  cases A<;>simp[Op.equalIn,run_underlying J]
 have O:(Op.equal t (.slice A len c) (.slice none 0 0)).run P w=.ok A.isNone w:=h 9999;simp[execOp,L,N,eqGuard_at_slice,binOp,O]
end
def r_callv {f:FuncId}{c:Operand}{xs:List Operand}{vs first cap:List Value}{ts:Array TypeId}(J: ∀args w,(callFunc f args).run P w=.ok (.enter f args) w)(L:Fr a n ds l)
  (N:ev l c=some (.func (.func f) first.toArray cap.toArray)) (O:evs l xs=some vs):
  (execOp a.eval ⟨d,.call {callee:=.value c,args:=xs.toArray,argTypes:=ts},T,pos,af,gd⟩).run P w=.ok (.enter f (first++vs++cap).toArray) w:=by
 have h:=L.evals xs O;have U:=L.eval N;simp only[execOp,resolve,h,U];simp[Deferred.ofValue,invoke,J]
def r_defer {f:FuncId}{xs:List Operand}{vs:List Value}{ts:Array TypeId}(J:Fr a n ds l)(L:evs l xs=some vs):
  (execOp a.eval ⟨d,.defer {callee:=.value (.func f),args:=xs.toArray,argTypes:=ts},T,pos,af,gd⟩).run P w=.ok (.defer {target:=.fn (.func f) #[],args:=vs.toArray}) w:=by
 have h:=J.evals xs L;simp only[execOp,resolve,h];simp[Act.eval,Deferred.ofValue]
def run_b2s {F:Nat->Prop}{A:Option Addr}{len c:Nat}{bs:List UInt8}(h:(Ty.slice .byte).rep w F [.slice A len c] bs):(Conv.bytesToString (.slice A len c)).run P w=.ok (.string ⟨bs.toArray⟩) w:=by
 obtain⟨V,_,_⟩:=rep_slice_len h;have hall: ∀k,k<bs.length->∃ad,A=some ad/\w.cell? (ad.add k)=some (.int .u8 ((bs.getD k 0).toNat:Int)):=λk hk=>by
  obtain⟨ad,es,W,X,Y⟩:=rep_at h hk;have he:es=[.int .u8 ((bs[k]).toNat:Int)]:=Y;refine⟨ad,W,?_⟩;have:=X 0 _ (by rw[he];rfl);rw[Addr.add_zero',show Ty.byte.size=1 from rfl,Xc]at this;rw[this,List.getD_eq_getElem?_getD,Qf hk];rfl
 cases A with
 |none=>
  have:bs=[]:=by
   rcases Nat.eq_zero_or_pos bs.length with O|O
   exact Qt O;obtain⟨ad,L,_⟩:=hall 0 O;cases L
  subst this;simp[Conv.bytesToString];rfl
 |some ad=>
  have hload:(loadCells ad len).run P w=.ok (bs.map λb=>Value.int .u8 (b.toNat:Int)).toArray w:=by
   have:=run_loadCells_list (P:=P) w ad (bs.map λb=>Value.int .u8 (b.toNat:Int)) (λj v J=>by
    rw[Xi]at J;cases N:bs[j]? with
    |none=>rw[N]at J;cases J
    |some b=>
     rw[N]at J;injection J with J
     subst J;have U:=(Qd.1 N).1;obtain⟨ad',L,h2⟩:=hall j U;injection L with L
     subst L;rw[h2,List.getD_eq_getElem?_getD,N];rfl)
   rw[Xo,V]at this;exact this
  have hloop: ∀(l:List UInt8) (acc:ByteArray),(forIn (m:=Sem) (l.map λb=>Value.int .u8 (b.toNat:Int)) acc λc r=>(match c with
    | .int .u8 m=>(pure (ForInStep.yield (r.push (UInt8.ofNat m.toNat))):Sem (ForInStep ByteArray))
    |_=>stuck "bytesToString: byte expected")).run P w=.ok ⟨acc.data++l.toArray⟩ w:=by
   intro l;induction l with
   |nil=>intro acc;simp
   |cons b r ih=>
    intro acc;simp only[Wc,List.forIn_cons,Sem.run_bind,Sem.run_pure,Result.andThen_ok];rw[ih];simp only[ByteArray.push,Xj,UInt8.ofNat_toNat];congr 2;apply Array.toList_inj.1;simp
  simp only[Conv.bytesToString,Sem.run_bind,hload,Result.andThen_ok];rw[<-Array.forIn_toList];have:=hloop bs ByteArray.empty;erw [this];simp[ByteArray.empty,ByteArray.emptyWithCapacity];rfl
def r_b2s {src dst e:TypeId}{x:Operand}{F:Nat->Prop}{A:Option Addr}{len c:Nat}{bs:List UInt8}(J:P.underlying src=some (.slice e))(L:P.underlying e=some (.int .u8))(N:P.underlying dst=some .string)(O:a.eval x=.slice A len c)
  (h:(Ty.slice .byte).rep w F [.slice A len c] bs):(execOp a.eval ⟨d,.convert src dst x,T,pos,af,gd⟩).run P w=.ok (.value (.string ⟨bs.toArray⟩)) w:=by
 have:=run_b2s (P:=P) h;simp[execOp,O,convert,run_underlying J,run_underlying N,run_underlying L,this]
end
section
variable {r:Option Nat}{P:Program}{ops:Array Oper}{Q:Exit->Act->World->Prop}{a:Act}{w:World}{rest:List Oper}{n:Nat}{ds:List Deferred}{l:List (Nat×Value)}{d:Nat}{T:TypeId}{pos:String}{af:Array Edge}
def st_box {e:TypeId}{x:Operand}{v:Value}{cs:List Value}(J:Fr a n ds l)(L:Nat.ble (d+1) n=true)(N:ev l x=some v)(O:v.cells=cs.toArray)
  (h: ∀g w' a',g=w.heap.size->w'.heap.size=g+1->Blk w' g e cs->Ch [] w w'->Fr a' n ds ((d,.pointer (some ⟨g,0,none⟩))::l)->WL r P ops Q rest a' w'):
  WL r P ops Q (⟨some d,.box e x,T,pos,af,none⟩::rest) a w:=
 valw (w':=w.alloc (.cells cs.toArray e)) (v:=.pointer (some ⟨w.heap.size,0,none⟩)) J L (by simp[execOp,J.eval N,Instr.box,newVar,newRow,O])
  λa' hf'=>h _ _ a' rfl (by simp) (Blk.new w e cs) (Ch.alloc w _) hf'
def st_alloc {e:TypeId}{z:Value}{cs:List Value}(J:Fr a n ds l)(L:Nat.ble (d+1) n=true)(N: ∀w,(zeroValue e).run P w=.ok z w)(O:z.cells=cs.toArray)
  (h: ∀g w' a',g=w.heap.size->w'.heap.size=g+1->Blk w' g e cs->Ch [] w w'->Fr a' n ds ((d,.pointer (some ⟨g,0,none⟩))::l)->WL r P ops Q rest a' w'):
  WL r P ops Q (⟨some d,.alloc e,T,pos,af,none⟩::rest) a w:=
 valw (w':=w.alloc (.cells cs.toArray e)) (v:=.pointer (some ⟨w.heap.size,0,none⟩)) J L (by simp[execOp,Instr.alloc,N,newVar,newRow,O])
  λa' hf'=>h _ _ a' rfl (by simp) (Blk.new w e cs) (Ch.alloc w _) hf'
def run_bslice {t e:TypeId}{len sz:Nat}{z:Value}{vs:List (Nat×Value)}{cs:List Value}(J:P.underlying t=some (.slice e))(L: ∀w,(sizeOf e).run P w=.ok sz w)(N: ∀w,(zeroValue e).run P w=.ok z w)
  (W:len*sz<=2^24) (O:len*sz≠0) (U:Instr.fill (λi=>some (i*sz,sz)) ((Array.range (len*sz)).map (z.cells[· %z.cells.size]!)) vs=some cs.toArray):
  (Instr.buildSlice t len vs.toArray).run P w=.ok (.slice (some ⟨w.heap.size,0,none⟩) len len) (w.alloc (.cells cs.toArray e)):=by
 have V: ¬2^24<len*sz:=by omega
 simp only[Instr.buildSlice,Sem.run_bind,run_underlying J,Result.andThen_ok,L,V,Xs,O,N,Sem.run_pure,U,newRow,run_newObj,gt_iff_lt];rfl
def st_bslice {t e:TypeId}{len sz:Nat}{z:Value}{parts:List (Nat×Operand)}{vs:List (Nat×Value)}{cs:List Value}(L:Fr a n ds l)(N:Nat.ble (d+1) n=true)(O:P.underlying t=some (.slice e))(U: ∀w,(sizeOf e).run P w=.ok sz w)
  (V: ∀w,(zeroValue e).run P w=.ok z w) (hp:evp l parts=some vs) (W:Nat.ble (len*sz) 16777216=true) (X:Nat.ble 1 (len*sz)=true)
  (Y:Instr.fill (λi=>some (i*sz,sz)) ((Array.range (len*sz)).map (z.cells[· %z.cells.size]!)) vs=some cs.toArray)
  (h: ∀g w' a',g=w.heap.size->w'.heap.size=g+1->Blk w' g e cs->Ch [] w w'->Fr a' n ds ((d,.slice (some ⟨g,0,none⟩) len len)::l)->WL r P ops Q rest a' w'):
  WL r P ops Q (⟨some d,.buildSlice t len parts.toArray,T,pos,af,none⟩::rest) a w:=
 valw (w':=w.alloc (.cells cs.toArray e)) (v:=.slice (some ⟨w.heap.size,0,none⟩) len len) L N (by
  have hb:=run_bslice (P:=P) (w:=w) O U V (Qn W) (by have:=Qn X;omega) Y;have J:=L.evalp parts hp;simp only[execOp,J,Sem.run_bind,hb,Result.andThen_ok,Sem.run_pure])
  λa' hf'=>h _ _ a' rfl (by simp) (Blk.new w e cs) (Ch.alloc w _) hf'
def st_bslice0 {t e:TypeId}{sz:Nat}(J:Fr a n ds l)(L:Nat.ble (d+1) n=true)(N:P.underlying t=some (.slice e))(O: ∀w,(sizeOf e).run P w=.ok sz w)
  (h: ∀g w' a',g=w.heap.size->w'.heap.size=g+1->Blk w' g e []->Ch [] w w'->Fr a' n ds ((d,.slice (some ⟨g,0,none⟩) 0 0)::l)->WL r P ops Q rest a' w'):
  WL r P ops Q (⟨some d,.buildSlice t 0 #[],T,pos,af,none⟩::rest) a w:=
 valw (w':=w.alloc (.cells ([]:List Value).toArray e)) (v:=.slice (some ⟨w.heap.size,0,none⟩) 0 0) J L (by
  simp only[execOp,Instr.buildSlice,Sem.run_bind,run_underlying N,Result.andThen_ok,O,Nat.zero_mul];simp[Instr.fill,newRow,Array.range_zero'])
  λa' hf'=>h _ _ a' rfl (by simp) (Blk.new w e []) (Ch.alloc w _) hf'
def run_storeB {t bt:TypeId}{g o m:Nat}{cs new:List Value}{v:Value}(L:Blk w g bt cs)(N: ∀w,(sizeOf t).run P w=.ok m w)(O:v.cells=new.toArray)(J:new.length=m)(V:o+m<=cs.length)(U: ∀u∈new,u.oneCell'=true):
  (Instr.storeAt t (.pointer (some ⟨g,o,none⟩)) v).run P w=.ok () (w.setRow g (cs.take o++new++cs.drop (o+m)).toArray):=by
 have:=run_storeCells_at P g o bt new 0 cs.toArray w L (by simp;omega) U;simp only[Xq]at this;simp only[Instr.storeAt,Instr.sureAddr,Sem.run_bind,Sem.run_pure,Result.andThen_ok,storeVar,N,O,List.size_toArray,J,ne_eq,not_true,Xs];rw[this,J]
def Blk.setRow {g:Nat}{bt:TypeId}{cs cs':List Value}(J:Blk w g bt cs):Blk (w.setRow g cs'.toArray) g bt cs':=setRow_heap w g cs.toArray cs'.toArray bt (0,0) J
def st_store {t bt:TypeId}{x y:Operand}{g o m:Nat}{cs new cs':List Value}{v:Value}(J:Fr a n ds l)(L:Blk w g bt cs)(O:ev l x=some (.pointer (some ⟨g,o,none⟩)))(U:ev l y=some v)(V: ∀w,(sizeOf t).run P w=.ok m w)
  (W:v.cells=new.toArray) (X:new.length=m) (Y:Nat.ble (o+m) cs.length=true) (h1: ∀u∈new,u.oneCell'=true) (hc:cs.take o++new++cs.drop (o+m)=cs')
  (h: ∀w' a',w'.heap.size=w.heap.size->Blk w' g bt cs'->Ch [g] w w'->Fr a' n ds l->WL r P ops Q rest a' w'):
  WL r P ops Q (⟨none,.store t x y,T,pos,af,none⟩::rest) a w:=
 skipw (w':=w.setRow g cs'.toArray) J (by
  have N:=run_storeB (P:=P) L V W X (Qn Y) h1;rw[hc]at N;simp only[execOp,J.eval O,J.eval U,Sem.run_bind,N,Result.andThen_ok,Sem.run_pure])
  λa' hf'=>h _ a' (by simp[World.setRow]) L.setRow (Ch.setRow w g _) hf'
def st_append {t:Ty}{tt e:TypeId}{B:Nat}{F:Nat->Prop}{x y:Operand}{i:TypeInfo}{z:Value}{bytes:Nat}{A:Option Addr}{c:Nat}{xs:List t.den}(J:Fr a n ds l)(hd:Nat.ble (d+1) n=true)
  (ht:P.underlying tt=some (.slice e)) (hi:P.info? e=some i) (hz:i.zero=some z) (hsize:i.size=t.size) (L:i.bytes=bytes) (N:z.cells.size=t.size) (O:0<t.size) (U:0<bytes)
  {n1:Nat} (hx:ev l x=some (.slice A n1 c)) (V:n1=xs.length) (hown:Own t e B w F A c xs) {F2:Nat->Prop} {A2:Option Addr} {Y c2:Nat} {ys:List t.den} (hy:ev l y=some (.slice A2 Y c2)) (hr:(Ty.slice t).rep w F2 [.slice A2 Y c2] ys) (W: ∀cs x,t.rep w F2 cs x->t.rep w F cs x)
  (X:(xs.length+ys.length)*bytes<=140737488355328) (hA: ∀b,F b->b∉obl A) (hB:B<=w.heap.size)
  (h: ∀A' c' w' a',Own t e B w' F A' c' (xs++ys)->Ch (obl A) w w'->(∀k,k∈obl A'->k∈obl A\/k=w.heap.size)->Fr a' n ds ((d,.slice A' (xs++ys).length c')::l)->WL r P ops Q rest a' w'):
  WL r P ops Q (⟨some d,.call {callee:=.builtin .append,args:=#[x,y],argTypes:=#[tt,tt]},T,pos,af,none⟩::rest) a w:=by
 subst V;obtain⟨A',c',w',hrun,h1,h2,h3⟩:=run_append (P:=P) (ty:=T) ht hi hz hsize L N O hown hr W X U hA hB;refine valw (w':=w') (v:=.slice A' (xs++ys).length c') J hd ?_ λa' hf'=>h _ _ _ a' h1 h2 h3 hf';rw[Qb];simp only[execOp,resolve,invoke,builtin,Sem.run_bind,Sem.run_pure,Result.andThen_ok,Wd,Wc,Xk,J.eval hx,J.eval hy,hrun]
end
section
variable {r:Option Nat}{P:Program}{ops:Array Oper}{Q:Exit->Act->World->Prop}{a:Act}{w:World}{rest:List Oper}{n:Nat}{ds:List Deferred}{l:List (Nat×Value)}{d:Nat}{T:TypeId}{pos:String}{af:Array Edge}
def st_append_flat {t:Ty}{tt e:TypeId}{B:Nat}{x y:Operand}{i:TypeInfo}{z:Value}{bytes:Nat}{A:Option Addr}{c:Nat}{xs:List t.den}(hf:Fr a n ds l)(hd:Nat.ble (d+1) n=true)
  (ht:P.underlying tt=some (.slice e)) (hi:P.info? e=some i) (hz:i.zero=some z) (hsize:i.size=t.size) (J:i.bytes=bytes) (L:z.cells.size=t.size) (N:0<t.size) (O:0<bytes) (U:t.flat=true)
  {n1:Nat} (hx:ev l x=some (.slice A n1 c)) (V:n1=xs.length) (hown:Own t e B w (λ_=>False) A c xs) {F2:Nat->Prop} {A2:Option Addr} {X Y:Nat} {ys:List t.den} (hy:ev l y=some (.slice A2 X Y)) (hr:(Ty.slice t).rep w F2 [.slice A2 X Y] ys)
  (W:(xs.length+ys.length)*bytes<=140737488355328) (hB:B<=w.heap.size)
  (h: ∀A' c' w' a',Own t e B w' (λ_=>False) A' c' (xs++ys)->Ch (obl A) w w'->(∀k,k∈obl A'->k∈obl A\/k=w.heap.size)->Fr a' n ds ((d,.slice A' (xs++ys).length c')::l)->WL r P ops Q rest a' w'):
  WL r P ops Q (⟨some d,.call {callee:=.builtin .append,args:=#[x,y],argTypes:=#[tt,tt]},T,pos,af,none⟩::rest) a w:=
 st_append hf hd ht hi hz hsize J L N O hx V hown hy hr (λ_ _ h=>Qdr t U h) W (λ_ hb=>hb.elim) hB h
end
section
variable {r:Option Nat}{P:Program}{ops:Array Oper}{Q:Exit->Act->World->Prop}{S:World->Prop}{a:Act}{w:World}{n:Nat}{ds:List Deferred}{l:List (Nat×Value)}{fuel:Nat}{listed:Array Bool}
def Hel (r:Option Nat)(P:Program)(ops:Array Oper)(Q:Exit->Act->World->Prop)(S:World->Prop):Nat->Array Bool->Act->World->Prop
 |0,listed,a,w=>Region.ready .any ops listed=[]/\Q .normal a w
 |f+1,listed,a,w=>(Region.ready .any ops listed=[]->Q .normal a w)/\
  ∀i∈Region.ready .any ops listed,wpOpIn (FW r) 0 P ops Q i (λa' w'=>S w'/\Hel r P ops Q S f (listed.setIfInBounds i true) a' w') a w
def Qbm (ops:Array Oper):Bool:=ops.toList.all λo=>match o.op with| .defer _=>false|_=>true
def Qbe (h:Qbm ops=true){j:Nat}{o:Oper}(J:ops[j]?=some o): ∀c,o.op≠ .defer c:=λc L=>by
 have:=Wx.1 h o (Qi (i:=j) (by rw[Xn];exact J));simp[L]at this
def Qdp {ρ:Operand->Value}{o:Oper}(h: ∀c,o.op≠ .defer c):o.semAt r ρ=execOp ρ o:=by
 cases r with
 |none=>exact Oper.semAt_none ρ o
 |some l=>exact Oper.semAt_some l ρ o h
def Hel.put {j:Nat}{oi oj:Oper}{v:Value}(O: ∀c,oj.op≠ .defer c)(hj:ops[j]?=some oj)(U:oi.apart ops oj=true)(V: ∀cs b,oi.op≠ .select cs b)(W: ∀cs b,oj.op≠ .select cs b)
  (X: ∀c a w,Q (.panic c) (a.put oi.dst v) w->Q (.panic c) a w) {K:Act->World->Prop} (J:YieldsIf P ops S oi v a) (h:wpOpIn (FW r) 0 P ops Q j K (a.put oi.dst v) w):
  wpOpIn (FW r) 0 P ops Q j (λa' w'=>YieldsIf P ops S oi v a'/\K (a'.put oi.dst v) w') a w:=by
 obtain⟨Y,N,h3⟩:=Oper.apart_spec U;have kp1: ∀(a:Act),YieldsIf P ops S oi v a->∀u,YieldsIf P ops S oi v (a.put oj.dst u):=λa J u=>J.of_same (execOp_put oi V a oj.dst u h3) (wanted_put oi a oj.dst u h3);have kp2: ∀d,YieldsIf P ops S oi v {a with defers:=d::a.defers}:=λd=>J.of_same rfl rfl;unfold wpOpIn at*;rw[hj]at h ⊢;simp only[]at h ⊢;rw[wanted_put oj a oi.dst v Y]at h;by_cases hw:Region.wanted oj (yielded ops a.tmps)=true;rw[Qe hw]at h ⊢;refine⟨λ_ _=>trivial,?_⟩;have h:=h.2;rw[Qdp O,execOp_put oj W a oi.dst v Y]at h;rw[Qdp O];generalize (execOp a.eval oj).run P w=res at h ⊢;cases res with
 |ok x w'=>
  cases x with
  |value u=>exact⟨kp1 a J u,by rw[<-Act.put_comm a v u N];exact h⟩
  |skip=>exact⟨kp1 a J _,by rw[<-Act.put_comm a v undef N];exact h⟩
  |defer d=>exact⟨kp1 _ (kp2 d) _,by rw[<-Act.put_comm _ v undef N,<-Act.put_defers];exact h⟩
  |enter f args=>
   refine⟨h.1,CallsIn.mono h.2 λe w'' L=>?_⟩;cases e with
   |returned u=>exact⟨kp1 a J u,by rw[<-Act.put_comm a v u N];exact L⟩
   |panicked c=>exact X _ _ _ L
   |outgrown=>exact L
  |row row args=>exact⟨h.1,RowsIn.mono h.2 λu w'' L=>⟨kp1 a J u,by rw[<-Act.put_comm a v u N];exact L⟩⟩
  |round l f tmps assign body=>
   refine⟨h.1,RoundIn.mono h.2 λe w'' L=>?_⟩;cases e with
   |returned u=>exact⟨kp1 a J u,by rw[<-Act.put_comm a v u N];exact L⟩
   |panicked c=>exact X _ _ _ L
   |outgrown=>exact L
  |_=>exact h
 |halt x w'=>cases x<;>first|exact X _ _ _ h|exact h
 rw[Qc hw]at h ⊢;exact⟨λ_ _=>trivial,kp1 a J _,by rw[<-Act.put_comm a v undef N];exact h.2⟩
def Hel.op {i:Nat}{o:Oper}{v:Value}(J: ∀c,o.op≠ .defer c)(hi:ops[i]?=some o)(N:YieldsIf P ops S o v a){K:Act->World->Prop}(O:S w)(h:K (a.put o.dst v) w):wpOpIn (FW r) 0 P ops Q i K a w:=by
 unfold wpOpIn;rw[hi];simp only[];rcases N with⟨L,U⟩|⟨L,rfl⟩
 rw[Qe L];exact⟨λ_ _=>trivial,by rw[Qdp J,U w O];exact h⟩;rw[Qc (by rw[L];decide)];exact⟨λ_ _=>trivial,h⟩
def Qbp {dst:Option Tmp}{op:Op}{T:TypeId}{pos:String}{af:Array Edge}{y:Nat->Option Bool}:Region.wanted ⟨dst,op,T,pos,af,none⟩ y=true:=by simp[Region.wanted]
def Qbw {dst:Option Tmp}{op:Op}{T:TypeId}{pos:String}{af:Array Edge}{j dj:Nat}{b:Bool}(J:Fr a n ds l)(L:(ops[j]?).bind (·.dst)=some dj)(N:lk l dj=some (.bool b)):Region.wanted ⟨dst,op,T,pos,af,some (j,b)⟩ (yielded ops a.tmps)=true:=by
 simp[Region.wanted,yielded,L,J.get _ _ N]
def Qbz {dst:Option Tmp}{op:Op}{T:TypeId}{pos:String}{af:Array Edge}{j dj:Nat}{b:Bool}{u:Value}(J:Fr a n ds l)(L:(ops[j]?).bind (·.dst)=some dj)(N:lk l dj=some u)(O:u=.bool (!b)\/u=undef):
  Region.wanted ⟨dst,op,T,pos,af,some (j,b)⟩ (yielded ops a.tmps)=false:=by
 rcases O with rfl|rfl<;>simp[Region.wanted,yielded,L,J.get _ _ N,undef]
end
def Pq (Q:Exit->Act->World->Prop):Prop:=∀c a d v w,Q (.panic c) (Act.put a d v) w->Q (.panic c) a w
def put_defers (a:Act)(d:Option Tmp)(v:Value):(a.put d v).defers=a.defers:=by cases d<;>rfl
def Pq.body (P:Program)(fn:Func)(R:Ending->World->Prop):Pq (bodyPost P fn R):=λc a d v w h=>by
 obtain⟨J,L⟩:=h;rw[put_defers]at J;exact⟨J,L⟩
section
variable {r:Option Nat}{P:Program}{Q:Exit->Act->World->Prop}{a:Act}{w:World}{n:Nat}{ds:List Deferred}{l:List (Nat×Value)}
def seq' (hp:Pq Q){x y:Code}(h: ∀Q':Exit->Act->World->Prop,Pq Q'->(∀a w,WP r P y Q a w->Q' .normal a w)->(∀e a w,e≠ .normal->Q e a w->Q' e a w)->WP r P x Q' a w):WP r P (Code.seq x y) Q a w:=by
 refine wpIn_seq (h _ (λc a d v w L=>hp c a d v w L) (λ_ _ h=>h) (λe a w J hq=>?_));cases e<;>first|exact hq|exact absurd rfl J
def block' (hp:Pq Q){id:Nat}{c:Code}(h: ∀Q':Exit->Act->World->Prop,Pq Q'->(∀a w,Q .normal a w->Q' .normal a w)->(∀a w,Q .normal a w->Q' (.exit id) a w)->(∀e a w,e≠ .normal->e≠ .exit id->Q e a w->Q' e a w)->WP r P c Q' a w):WP r P (Code.block id c) Q a w:=by
 refine wpIn_block (h (Exit.inBlock id Q) (λc a d v w J=>hp c a d v w J) (λ_ _ h=>h) (λa w hq=>?_) (λe a w N L hq=>?_));simp[Exit.inBlock,hq];cases e<;>first|exact hq|(rename_i i;have:i≠id:=λe=>L (by rw[e]);simp[Exit.inBlock,this,hq])
def loop' (hp:Pq Q){c:Code}(I:Nat->Act->World->Prop)(m:Nat)(N:I m a w)
  (h: ∀m a w,I m a w->∀Q':Exit->Act->World->Prop,Pq Q'->(∀m' a w,m'<m->I m' a w->Q' .normal a w)->(∀e a w,e≠ .normal->Q e a w->Q' e a w)->WP r P c Q' a w):WP r P (Code.loop c) Q a w:=
 loop I m N λm a w O=>by
  refine h m a w O _ (λc a d v w U=>hp c a d v w U) (λm' a w J hI'=>⟨m',J,hI'⟩) (λe a w L hq=>?_);cases e<;>first|exact hq|exact absurd rfl L
def Fr.seti (h:Fr a n ds l){d:Nat}{k:IntKind}{x y:Int}(J:lk l d=some (.int k x))(e:x=y):Fr a n ds ((d,.int k y)::l):=h.cons h (by rw[J,e])
def Fr.setv (h:Fr a n ds l){d:Nat}{x y:Value}(J:lk l d=some x)(e:x=y):Fr a n ds ((d,y)::l):=h.cons h (by rw[J,e])
def r_indexAddrA {d:Option Tmp}{T:TypeId}{pos:String}{af:Array Edge}{gd:Option (Nat×Bool)}{t e:TypeId}{x y:Operand}{g:Nat}{A:Option Addr}{ad:Addr}{len c:Nat}{i:Int}{kd:IntKind}{k:Nat}(J:P.underlying t=some (.slice e))(L: ∀w,(sizeOf e).run P w=.ok g w)(N:a.eval x=.slice A len c)(O:A=some ad)(U:a.eval y=.int kd i)(hi:i=(k:Int))(V:k<len):
  (execOp a.eval ⟨d,.indexAddr t x y,T,pos,af,gd⟩).run P w=.ok (.value (.pointer (some (ad.add (k*g))))) w:=by
 subst O;subst hi;have:=r_indexAddr (P:=P) (a:=a) (w:=w) (d:=d) (T:=T) (pos:=pos) (af:=af) (gd:=gd) J L N U (by omega) (by omega);simpa using this
end
def Qat: ∀t:Ty,0<t.size
 | .pair a _=>by have:=Qat a;simp only[Ty.size];omega
 | .int _=>by simp[Ty.size]
 | .byte=>by simp[Ty.size]
 | .bool=>by simp[Ty.size]
 | .str=>by simp[Ty.size]
 | .slice _=>by simp[Ty.size]
def Ty.ok:(t:Ty)->t.den->Prop
 | .int k,x=>k.has x
 | .byte,_=>True
 | .bool,_=>True
 | .str,x=>x.size<=maxLen
 | .slice e,xs=>xs.length<=maxLen/\∀x∈xs,e.ok x
 | .pair a b,x=>a.ok x.1/\b.ok x.2
def rep_ok {w:World}{F:Nat->Prop}: ∀(t:Ty) {cs:List Value} {x:t.den},t.rep w F cs x->t.ok x
 | .int _,_,_,h=>h.2
 | .byte,_,_,_=>trivial
 | .bool,_,_,_=>trivial
 | .str,_,_,h=>h.2
 | .slice e,_,xs,h=>by
  obtain⟨A,c,cells,O,U,V,W,X,h6⟩:=h;refine⟨by omega,λx J=>?_⟩;obtain⟨i,hi,rfl⟩:=Ww J;exact rep_ok e (h6 i _ (Qf hi))
 | .pair a b,_,_,h=>by
  obtain⟨ca,cb,h,L,N⟩:=h;exact⟨rep_ok a L,rep_ok b N⟩
def has_i64 {n:Int}(h:IntKind.i64.has n): -9223372036854775808<=n/\n<=9223372036854775807:=by
 simpa[IntKind.has,IntKind.min,IntKind.max,IntKind.bits,IntKind.signed] using h
def i64_has {n:Int}(h: -9223372036854775808<=n/\n<=9223372036854775807):IntKind.i64.has n:=by
 simpa[IntKind.has,IntKind.min,IntKind.max,IntKind.bits,IntKind.signed] using h
def Own.rep' {t:Ty}{e:TypeId}{B:Nat}{w:World}{F F':Nat->Prop}{A:Option Addr}{c:Nat}{xs:List t.den}(h:Own t e B w F A c xs)(J: ∀b,F b->F' b)(L: ∀b,B<=b->b<w.heap.size->F' b):(Ty.slice t).rep w F' [.slice A xs.length c] xs:=
 h.rep J λk hk=>L k (h.lt k hk).1 (h.lt k hk).2
def Qal {w:World}{F:Nat->Prop}: ∀(t:Ty) {cs:List Value} {x:t.den},t.rep w F cs x->t.rep w (λb=>F b/\b<w.heap.size) cs x
 | .int _,_,_,h=>h
 | .byte,_,_,h=>h
 | .bool,_,_,h=>h
 | .str,_,_,h=>h
 | .slice e,_,xs,h=>by
  obtain⟨A,c,cells,O,U,V,J,L,h6⟩:=h;by_cases W:cells.length=0;have h7: ∀i x,xs[i]?=some x->e.size=0:=λi x hi=>by
   have hl:=(Qd.1 hi).1;rw[W]at J;rcases Nat.mul_eq_zero.1 J.symm with h|h
   omega;exact h
  refine⟨A,c,cells,O,U,V,J,?_,λi x hi=>Qal e (h6 i x hi)⟩;by_cases Y:xs.length=0;exact .inl Y;have hp:=Qat e;rw[W]at J;rcases Nat.mul_eq_zero.1 J.symm with h|h<;>omega
  refine⟨A,c,cells,O,U,V,J,?_,λi x hi=>Qal e (h6 i x hi)⟩;rcases L with L|⟨b,o,hA,N,X⟩
  exact .inl L;exact .inr ⟨b,o,hA,⟨N,World.block_lt_of_cell? w _ (X 0 _ (Qf (by omega)))⟩,X⟩
 | .pair a b,_,_,h=>by
  obtain⟨ca,cb,h,ha,N⟩:=h;exact⟨ca,cb,h,Qal a ha,Qal b N⟩
def iv (lo hi:Nat):Nat->Prop:=λb=>lo<=b/\b<hi
@[reducible] def no:Nat->Prop:=λ_=>False
def Own.riv {t:Ty}{e:TypeId}{B:Nat}{w:World}{A:Option Addr}{c:Nat}{xs:List t.den}(h:Own t e B w no A c xs):(Ty.slice t).rep w (iv B w.heap.size) [.slice A xs.length c] xs:=
 h.rep' (λ_ J=>J.elim) (λ_ L N=>⟨L,N⟩)
def Cells (w:World)(E:Addr)(es:List Value):Prop:=∀j u,es[j]?=some u->w.cell? (E.add j)=some u
def Cells.ch {w w':World}{E:Addr}{es:List Value}{S:List Nat}(h:Cells w E es)(N:Ch S w w')(O:E.block<w.heap.size->E.block∉S):Cells w' E es:=λj u U=>by
 have L:=h j u U;have V:(E.add j).block=E.block:=by unfold Addr.add;split<;>rfl
 have J:=World.block_lt_of_cell? w _ L;rw[N.cell J (by rw[V]at J ⊢;exact O J)];exact L
def rep_el {w:World}{F:Nat->Prop}{e:Ty}{A:Option Addr}{n c:Nat}{xs:List e.den}(h:(Ty.slice e).rep w F [.slice A n c] xs){k:Nat}(hk:k<xs.length):
  ∃ad es x,A=some ad/\F ad.block/\ad.block<w.heap.size/\xs[k]?=some x/\Cells w (ad.add (k*e.size)) es/\e.rep w F es x:=by
 obtain⟨A',c',cells,J,h2,h3,U,O,h6⟩:=h;injection J with J
 injection J with V hn hc
 subst V;rcases O with O|⟨b,o,rfl,W,hcell⟩
 omega;have X:=Qat e;have L:k*e.size<cells.length:=by
  rw[U];exact Nat.mul_lt_mul_of_pos_right hk X
 refine⟨_,_,_,rfl,W,World.block_lt_of_cell? w ⟨b,o+k*e.size,none⟩ (hcell (k*e.size) _ (Qf L)),Qf hk,λj u N=>?_,h6 k _ (Qf hk)⟩;rw[Addr.add_lit,Addr.add_lit];have Y:j<e.size:=by
  have:=(Qd.1 N).1;simp only[Qj]at this;omega
 rw[Qu Y,Qv]at N;rw[Wn];exact hcell _ _ N
section
variable {P:Program}{a:Act}{w:World}{d:Option Tmp}{T:TypeId}{pos:String}{af:Array Edge}{gd:Option (Nat×Bool)}
def r_indexAddrE {t e:TypeId}{x y:Operand}{g:Nat}{A:Option Addr}{ad:Addr}{len c:Nat}{i:Int}{kd:IntKind}{k:Nat}(J:P.underlying t=some (.slice e))(L: ∀w,(sizeOf e).run P w=.ok g w)(N:a.eval x=.slice A len c)(O:A=some ad)(U:a.eval y=.int kd i)(hi:i=(k:Int))(V:k<len):
  (execOp a.eval ⟨d,.indexAddr t x y,T,pos,af,gd⟩).run P w=.ok (.value (.pointer (some ((ad.add (k*g)).add 0)))) w:=by
 rw[r_indexAddrA J L N O U hi V,Addr.add_zero']
def add_add (E:Addr)(i j:Nat):(E.add i).add j=E.add (i+j):=by
 unfold Addr.add;by_cases hi:i=0<;>by_cases J:j=0<;>simp[hi,J,Wn]
end
def rep_eq {w:World}{F:Nat->Prop}{e:Ty}{A:Option Addr}{n c:Nat}{xs ys:List e.den}(h:(Ty.slice e).rep w F [.slice A n c] xs)(J:xs=ys):(Ty.slice e).rep w F [.slice A ys.length c] ys:=by
 subst J;rw[(rep_slice_len h).1];exact h
def rep_cut {w:World}{F:Nat->Prop}{e:Ty}{A:Option Addr}{n c:Nat}{xs:List e.den}(h:(Ty.slice e).rep w F [.slice A n c] xs)(u v m:Nat)(W:u<=v)(J:v<=xs.length)(X:v<=m)(Y:m<=c):
  (Ty.slice e).rep w F [.slice (cutA A m u e.size) ((xs.take v).drop u).length (m-u)] ((xs.take v).drop u):=by
 have hl:=rep_slice_len h;have L:=Qbi h J;have N:(xs.take v).length=v:=by rw[Qj];omega
 have O:=rep_drop L (k:=u) (c':=m-u) (A':=cutA A m u e.size) (by omega) (by omega) (by omega) (λU ad V=>by
  subst V;unfold cutA;rw[Qc (by omega)];rfl)
 rw[Qk,N];exact O
def rep_cut0 {w:World}{F:Nat->Prop}{e:Ty}{A:Option Addr}{n c:Nat}{xs:List e.den}(h:(Ty.slice e).rep w F [.slice A n c] xs)(u:Nat)(J:u<=xs.length):
  (Ty.slice e).rep w F [.slice (cutA A c u e.size) (xs.drop u).length (c-u)] (xs.drop u):=by
 have L:=rep_slice_len h;have:=rep_cut h u xs.length c J (Q4 _) (by omega) (Q4 _);rwa[Wi]at this
def u8_of {m:Int}(h:0<=m/\m<=255):m=((UInt8.ofNat m.toNat).toNat:Int):=by
 have:(UInt8.ofNat m.toNat).toNat=m.toNat%256:=by simp
 omega
def u64_in (n:Int)(h:0<=n/\n<=18446744073709551615):IntKind.u64.wrap n=n:=by simp[IntKind.wrap,IntKind.bits,IntKind.signed];omega
def wrap_u8 (m:Nat):IntKind.u8.wrap (m:Int)=((UInt8.ofNat m).toNat:Int):=by
 have:(UInt8.ofNat m).toNat=m%256:=by simp
 rw[this];simp[IntKind.wrap,IntKind.bits,IntKind.signed]
section
variable {P:Program}{a:Act}{w:World}{d:Option Tmp}{T:TypeId}{pos:String}{af:Array Edge}{gd:Option (Nat×Bool)}
def r_convw {src dst:TypeId}{x:Operand}{k k':IntKind}{n m:Int}{de:TypeDesc}(J:P.underlying src=some de)(L:P.underlying dst=some (.int k'))(N:a.eval x=.int k n)(O:k'.wrap n=m):(execOp a.eval ⟨d,.convert src dst x,T,pos,af,gd⟩).run P w=.ok (.value (.int k' m)) w:=by
 rw[r_conv J L N,O]
def r_quow {t ty:TypeId}{x y:Operand}{k:IntKind}{m n u:Int}(J:a.eval x=.int k m)(L:a.eval y=.int k n)(N:n≠0)(O:k.wrap (m.tdiv n)=u):(execOp a.eval ⟨d,.binOp .quo t x y ty,T,pos,af,gd⟩).run P w=.ok (.value (.int k u)) w:=by rw[r_quo J L N,O]
end
def rep_le {w:World}{F:Nat->Prop}{e:Ty}{A:Option Addr}{n c:Nat}{xs:List e.den}(h:(Ty.slice e).rep w F [.slice A n c] xs):xs.length<=9223372036854775807:=by
 have J:=rep_slice_len h;simp only[maxLen]at J;omega
def slice_n {A:Option Addr}{n m c:Nat}(h:n=m):Value.slice A n c=Value.slice A m c:=by rw[h]
def nt (M:List Nat):Nat->Prop:=λb=>b∉M
def ol (M:List Nat)(n:Nat):Nat->Prop:=λb=>b∉M/\b<n
def rep_to {t:Ty}{w w':World}{F F':Nat->Prop}{S:List Nat}{cs:List Value}{x:t.den}(h:t.rep w F cs x)(U:Ch S w w')(L: ∀b,F b->b<w.heap.size->b∉S/\F' b:=by intro b J V;(try simp only[Go.Z.nt,Go.Z.iv,Go.Z.no,Go.Z.ol,Qq,W5,or_false,not_or,not_false_eq_true]at J);(try simp only[Go.Z.nt,Go.Z.iv,Go.Z.no,Go.Z.ol,Qq,Wb,W5,or_false,not_or,not_false_eq_true,true_and,and_true])<;>omega):t.rep w' F' cs x:=by
 have J:t.rep w (λb=>F b/\b<w.heap.size) cs x:=Qal t h;exact rep_keep (λp hp N=>U.cell N (L _ hp.1 N).1) (λb O=>(L b O.1 O.2).2) t J
def rep_as {t:Ty}{w:World}{F F':Nat->Prop}{cs:List Value}{x:t.den}(h:t.rep w F cs x)(J: ∀b,F b->b<w.heap.size->F' b):t.rep w F' cs x:=
 rep_to h (Ch.refl w) λb L N=>⟨by simp,J b L N⟩
def rep_ol {t:Ty}{w:World}{M:List Nat}{cs:List Value}{x:t.den}(h:t.rep w (nt M) cs x):t.rep w (ol M w.heap.size) cs x:=rep_as h λ_ J L=>⟨J,L⟩
def Own.to {t:Ty}{e:TypeId}{B:Nat}{w w':World}{F F':Nat->Prop}{A:Option Addr}{c:Nat}{xs:List t.den}{S:List Nat}(h:Own t e B w F A c xs)(N:Ch S w w')(W: ∀k,k∈obl A->B<=k->k<w.heap.size->k∉S)(X: ∀b,F b->b<w.heap.size->b∉S/\F' b):Own t e B w' F' A c xs:=by
 have J:=h.lt;obtain⟨cells,O,Y,h2⟩:=h;refine⟨cells,⟨O.1,?_⟩,Y,λi x hi=>rep_to (h2 i x hi) N X⟩;rcases O.2 with h3|⟨g,cap,cur,U,hb,V,rest⟩
 exact .inl h3;refine .inr ⟨g,cap,cur,U,hb,?_,rest⟩;injection U with hA' _ _
 have L:g∈obl A:=by rw[hA'];simp[obl]
 rw[N.block g (Qw.1 V).1 (W g L (J g L).1 (J g L).2)];exact V
def bv (b:UInt8):Value:=.int .u8 (b.toNat:Int)
def FB (w:World)(g:Nat)(e:TypeId)(u:Nat)(done:List UInt8):Prop:=
 ∃rest:List Value,Blk w g e (done.map bv++rest)/\u<=done.length+rest.length/\done.length+rest.length<=maxLen
def FB.rep {w:World}{g:Nat}{e:TypeId}{u:Nat}{done:List UInt8}{F:Nat->Prop}{c:Nat}(h:FB w g e u done)(V:done.length=u)(N:F g)(W:u<=c)(O:c<=maxLen):(Ty.slice .byte).rep w F [.slice (some ⟨g,0,none⟩) done.length c] done:=by
 obtain⟨r,U,X,Y⟩:=h;refine⟨_,_,done.map bv,rfl,by omega,O,by simp[Ty.size],.inr ⟨g,0,rfl,N,λj v L=>?_⟩,λi x hi=>?_⟩;rw[U.cell,Nat.zero_add,W7 (by have:=(Qd.1 L).1;exact this)];exact L
 ·show _=_
  have J:=(Qd.1 hi).1;simp only[Ty.size,Xc];have:(done.map bv).drop i=bv x::(done.map bv).drop (i+1):=by
   rw[Ws (by simpa using J)];congr 1;rw[List.getElem_map];rw[(Qd.1 hi).2]
  rw[this];rfl
def Qet {w:World}{F:Nat->Prop}{A:Option Addr}{n c:Nat}{ys:List UInt8}(h:(Ty.slice .byte).rep w F [.slice A n c] ys):
  n=ys.length/\(ys.length=0\/∃ad,A=some ad/\∀j v,(ys.map bv)[j]?=some v->w.cell? (ad.add j)=some v):=by
 obtain⟨V,_,_⟩:=rep_slice_len h;refine⟨V.symm,?_⟩;by_cases W:ys.length=0;exact .inl W;right;obtain⟨ad0,es0,J,X,Y⟩:=rep_at h (k:=0) (by omega);refine⟨ad0,J,λj v O=>?_⟩;have L:j<ys.length:=by have:=(Qd.1 O).1;simpa using this
 obtain⟨ad,es,N,hc,hr⟩:=rep_at h L;rw[J]at N;injection N with N
 subst N;have U:es=[.int .u8 ((ys[j]).toNat:Int)]:=hr;have:=hc 0 _ (by rw[U];rfl);rw[Addr.add_zero',show Ty.byte.size=1 from rfl,Xc]at this;rw[this];rw[Xi,Qf L]at O;exact O
section
variable {r:Option Nat}{P:Program}{ops:Array Oper}{Q:Exit->Act->World->Prop}{a:Act}{w:World}{rest:List Oper}{n:Nat}{ds:List Deferred}{l:List (Nat×Value)}{d:Nat}{T:TypeId}{pos:String}{af:Array Edge}
def st_nozero {f:FuncId}{x:Operand}{ts ps:Array TypeId}{t e:TypeId}{u:Nat}{m:Int}(J: ∀args w,(callFunc f args).run P w=((Extern.BytealgMakeNoZero.makeNoZero ps #[t] args).run P w).andThen λv w'=>.ok (.value v) w')(L:Fr a n ds l)(O:Nat.ble (d+1) n=true)
  (U:P.underlying t=some (.slice e)) (V:ev l x=some (.int .i64 m)) (W:m=(u:Int)) (Y:u<=140737488355328)
  (h: ∀g w' a' (c:Nat),g=w.heap.size->w'.heap.size=g+1->FB w' g e u []->Ch [] w w'->u<=c->c<=maxLen->Fr a' n ds ((d,.slice (some ⟨g,0,none⟩) u c)::l)->WL r P ops Q rest a' w'):
  WL r P ops Q (⟨some d,.call {callee:=.value (.func f),args:=#[x],argTypes:=ts},T,pos,af,none⟩::rest) a w:=by
 subst W;obtain⟨cs,hrun,N,X⟩:=Lib.run_makeNoZero (P:=P) w ps t e U u (by omega);have hmax:=X (by simp only[maxLen];omega);refine valw (w':=w.drew.drew.alloc (.cells cs e)) (v:=.slice (some ⟨w.heap.size,0,none⟩) u cs.size) L O ?_ λa' hf'=>h w.heap.size (w.drew.drew.alloc (.cells cs e)) a' cs.size rfl (by simp) ⟨cs.toList,?_,by simpa using N,by simpa using hmax⟩ (((Ch.drew w).step (Ch.drew _)).step (Ch.alloc _ _)) N hmax hf';simp only[execOp,resolve,Wd,Wc,Xk,L.eval V];simp[Act.eval,Deferred.ofValue,invoke,J,hrun];have:=Blk.new w.drew.drew e cs.toList;simpa using this
def st_copy {x y:Operand}{dT sT e:TypeId}{g u:Nat}{done:List UInt8}{A' A2:Option Addr}{L c' n2 N:Nat}{F2:Nat->Prop}{ys:List UInt8}(J:Fr a n ds l)(hd:Nat.ble (d+1) n=true)
  (ht:P.underlying dT=some (.slice e)) (hi:(P.info? e).map (·.size)=some 1) (hx:ev l x=some (.slice A' L c')) (hA:ys.length=0\/A'=some ⟨g,done.length,none⟩) (hy:ev l y=some (.slice A2 n2 N)) (hr:(Ty.slice .byte).rep w F2 [.slice A2 n2 N] ys)
  (O:FB w g e u done) (hL:L+done.length=u) (U:ys.length<=L)
  (h: ∀w' a',FB w' g e u (done++ys)->Ch [g] w w'->w'.heap.size=w.heap.size->Fr a' n ds ((d,.int .i64 (ys.length:Int))::l)->WL r P ops Q rest a' w'):
  WL r P ops Q (⟨some d,.call {callee:=.builtin .copy,args:=#[x,y],argTypes:=#[dT,sT]},T,pos,af,none⟩::rest) a w:=by
 obtain⟨V,hsrc⟩:=Qet hr;subst V;obtain⟨r,W,h1,h2⟩:=O;have hmin:Nat.min ys.length L=ys.length:=W8 U;by_cases X:ys.length=0;have Y:ys=[]:=Qt X;subst Y;have hrun:=run_copy_none (P:=P) w dT sT T e A' A2 L c' 0 N ht hi (by simp);refine valw (w':=w) (v:=.int .i64 0) J hd ?_ λa' hf'=>h w a' (by rw[Wp];exact⟨r,W,h1,h2⟩) (Ch.refl' _ _) rfl hf';simp only[execOp,resolve,invoke,builtin,Sem.run_bind,Sem.run_pure,Result.andThen_ok,Wd,Wc,Xk,J.eval hx,J.eval hy,Qo,hrun];rfl
 ·have hA':=hA.resolve_left X
  subst hA';obtain⟨ad,rfl,hcell⟩:=hsrc.resolve_left X;have hrun:=run_copy_row (P:=P) w dT sT T e g done.length L c' ad ys.length N _ e (ys.map bv) ht hi W (by rw[Xo];exact hmin.symm) hcell (by simp;omega) (by intro v hv;obtain⟨b,_,rfl⟩:=Xl.1 hv;rfl);refine valw (w':=_) (v:=.int .i64 (ys.length:Int)) J hd (by
   simp only[execOp,resolve,invoke,builtin,Sem.run_bind,Sem.run_pure,Result.andThen_ok,Wd,Wc,Xk,J.eval hx,J.eval hy,hrun];rw[Xo];rfl) λa' hf'=>h _ a' ⟨r.drop ys.length,?_,by simp;omega,by simp;omega⟩ (Ch.setRow w g _) (by simp[World.setRow]) hf'
  have e1:(done.map bv++r).take done.length=done.map bv:=by
   rw[List.take_append_of_le_length (by simp),Q8 (by simp)]
  have e2:(done.map bv++r).drop (done.length+ys.length)=r.drop ys.length:=by
   rw[List.drop_append,Xh (by simp),Ql,Xo];congr 1;omega
  simp only[e1,e2,List.map_append,Qh];exact W.setRow
end
end Go.Z
end
section
namespace Go.Z
open Go.RowKit Go.Lib
section
variable {P:Program}{a:Act}{w:World}{d:Option Tmp}{T:TypeId}{pos:String}{af:Array Edge}{gd:Option (Nat×Bool)}
end
def Own.str {e:TypeId}{B:Nat}{w w':World}{xs:List UInt8}{s:ByteArray}{cells:List Value}{v':Value}
  (hrow:w'.ownsRow B e 1 v' (xs.length+s.size) (cells++strCells s)) (U:cells.length=xs.length*1) (V: ∀u∈cells,u.oneCell'=true)
  (W: ∀(i:Nat) (x:UInt8),xs[i]?=some x->Ty.byte.rep w no ((cells.drop (i*1)).take 1) x): ∃A' c',v'=.slice A' (xs++s.data.toList).length c'/\Own .byte e B w' no A' c' (xs++s.data.toList):=by
 have L:(xs++s.data.toList).length=xs.length+s.size:=by rw[Qb];rfl
 have hform: ∃A' c',v'=.slice A' (xs.length+s.size) c':=by
  rcases hrow.2 with⟨N,L⟩|⟨g,cap,cur,N,_⟩
  exact⟨none,0,by rw[N,L]⟩;exact⟨_,_,N⟩
 obtain⟨A',c',rfl⟩:=hform;refine⟨A',c',by rw[L],cells++strCells s,by rw[L];exact hrow,λu J=>?_,?_⟩;rcases Wb.1 J with J|J
 exact V u J;simp only[strCells,Xl]at J;obtain⟨b,_,rfl⟩:=J;rfl;refine Qbf (t:=.byte) (xs:=xs) (ys:=s.data.toList) U (λi x hi=>(show _=_ from W i x hi)) λi x hi=>?_;have:(strCells s)[i]?=some (.int .u8 (x.toNat:Int)):=by
  have hi':s.data[i]?=some x:=by rw[<-Xn];exact hi
  simp[strCells,hi']
 show _=_;obtain⟨O,X⟩:=Qd.1 this;rw[show Ty.size .byte=1 from rfl,Xc,Ws O,X];rfl
section
variable {r:Option Nat}{P:Program}{ops:Array Oper}{Q:Exit->Act->World->Prop}{a:Act}{w:World}{rest:List Oper}{n:Nat}{ds:List Deferred}{l:List (Nat×Value)}{d:Nat}{T:TypeId}{pos:String}{af:Array Edge}
end
end Go.Z
end
section
namespace Go.Z
open Go.RowKit
section
variable {r:Option Nat}{P:Program}{Q:Exit->Act->World->Prop}{a:Act}{w:World}{n:Nat}{ds:List Deferred}{l:List (Nat×Value)}
def enterDf {f:FuncId}{fn:Func}{c:Code}{vs:List Value}{m:Nat}{R:Ending->World->Prop}(J:P.funcs[f]?=some fn)(L:fn.body=some c)(N:fn.ntmps=m)(O:vs.length<=m)
  (h: ∀a,Fr a m [] (argl vs 0)->WP none P c (bodyPostD P fn R) a w):Calls P f vs.toArray w R:=by
 refine calls_of_wp_defers J L (wpIn_wide.1 (h _ ?_));subst N;exact Fr.entry vs _ O
def Rec (u:FrameMode)(v:Value)(u':FrameMode):Prop:=
 (u=.returning/\v=.nilIface/\u'=.returning)\/(∃older,u=.panicking ({v,recovered:=false,goexit:=false}::older)/\u'=.panicking ({v,recovered:=true}::older))
def Qde {fn:Func}{R:Ending->World->Prop}{u':FrameMode}{c₀:Frame}{cs:List Frame}(e:Exit)(a:Act)(w:World)(h:bodyPost P fn R e a w):
  bodyPostS P fn c₀ cs (λe L w'=>L=u'/\R e w') e a ({c₀ with mode:=u'}::cs) w:=by
 cases e with
 |normal=>exact⟨h.1,u',rfl,h.2.elim λv J=>⟨v,J.1,rfl,J.2⟩⟩
 |ret=>exact⟨h.1,u',rfl,h.2.elim λv J=>⟨v,J.1,rfl,J.2⟩⟩
 |panic c=>exact⟨h.1,u',rfl,rfl,h.2⟩
 |exit _=>exact h.elim
 |goto _=>exact h.elim
 |outgrown=>exact⟨u',rfl,h⟩
def enterRec {f:FuncId}{fn:Func}{c:Code}{vs:List Value}{m id d:Nat}{T:TypeId}{pos:String}{af:Array Edge}{R:Ending->World->Prop}{u u':FrameMode}{v:Value}(L:Rec u v u')(N:P.funcs[f]?=some fn)
  (O:fn.body=some (Code.seq (.region id #[⟨some d,.call {callee:=.builtin .recover,args:=#[],argTypes:=#[]},T,pos,af,none⟩] false) c)) (U:fn.ntmps=m) (V:vs.length<=m) (W:Nat.ble (d+1) m=true)
  (h: ∀a,Fr a m [] ((d,v)::argl vs 0)->WP none P c (bodyPost P fn R) a w):CallsD P f vs.toArray u w λe X w'=>X=u'/\R e w':=by
 refine callsD_of_wpS N O λc₀ cs J=>wpS_seq (wpS_region ?_);have Y: ∀a':Act,(execOp a'.eval ⟨some d,.call {callee:=.builtin .recover,args:=#[],argTypes:=#[]},T,pos,af,none⟩).run P w=.ok .recover w:=λa'=>by
  simp[execOp,resolve,invoke,builtin]
 have hl:List.range (Array.size #[(⟨some d,.call {callee:=.builtin .recover,args:=#[],argTypes:=#[]},T,pos,af,none⟩:Oper)])=[0]:=rfl;have h0:Fr (a:={tmps:=vs.toArray++Array.replicate (fn.ntmps-vs.toArray.size) undef,defers:=[]}) m [] (argl vs 0):=by subst U;exact Fr.entry vs _ V
 have hq:=wpIn_wide.1 (h _ (h0.put (Qn W) v));rw[hl];simp only[wpOpsS,List.getElem?_toArray,Xd,Region.wanted,if_true,Y];rcases L with⟨rfl,rfl,rfl⟩|⟨older,rfl,rfl⟩
 have hrec:recoverD (c₀::cs)=none:=by simp[recoverD,J]
 simp only[hrec,Exit.thenS];have hc:c₀={c₀ with mode:=.returning}:=by rw[<-J]
 refine wpS_of_wp (Code.wp_mono (λe a w hq=>?_) hq);rw[hc];exact Qde e a w hq;have hrec:recoverD (c₀::cs)=some (v,{c₀ with mode:=.panicking ({v,recovered:=true}::older)}::cs):=by simp[recoverD,J]
 simp only[hrec,Exit.thenS];exact wpS_of_wp (Code.wp_mono (λe a w hq=>Qde e a w hq) hq)
def retp {f:FuncId}{fn:Func}{R:Ending->World->Prop}{RD:Ending->World->Prop}{vs:List Value}{J:Value}(O:Fr a n [{target:=.fn (.func f) #[],args:=vs.toArray}] l)
  (L: ∀args w,(callFunc f args).run P w=.ok (.enter f args) w)
  (U:CallsD P f vs.toArray (.panicking [{v:=J,recovered:=false}]) w λe N w'=>N=.panicking [{v:=J,recovered:=true}]/\RD e w')
  (h: ∀e w',RD e w'->∃v,e=.returned v/\∃r,(results fn a.tmps).run P w'=.ok r w'/\R (.returned r) w'):bodyPostD P fn R (.panic [{v:=J,recovered:=false}]) a w:=by
 show Leaves P fn a.tmps R a.defers (.panicking [{v:=J,recovered:=false}]) w;rw[O.defs];refine leaves_cons (by simp) (by simp[invoke,L]) (U.mono λe N w' ⟨V,W⟩=>?_);obtain⟨v,rfl,r,X,Y⟩:=h e w' W;subst V;exact⟨r,X,Y⟩
section
variable {d:Option Tmp}{T:TypeId}{pos:String}{af:Array Edge}{gd:Option (Nat×Bool)}{t ty e0:TypeId}{x:Operand}{v:Value}
def r_eqif_nil {ms:Array (String×TypeId)}(J:P.underlying t=some (.interface ms))(L:a.eval x=.nilIface):(execOp a.eval ⟨d,.binOp .eql t x (.const .nilIface) ty,T,pos,af,gd⟩).run P w=.ok (.value (.bool true)) w:=by
 have N:a.eval (.const .nilIface)=.nilIface:=rfl;have h: ∀m,(Op.equalIn (m+1) t .nilIface .nilIface).run P w=.ok true w:=λm=>by simp[Op.equalIn,run_underlying J]
 have O:(Op.equal t .nilIface .nilIface).run P w=.ok true w:=h 9999;simp[execOp,L,N,eqGuard,binOp,O]
def r_eqif_some {ms:Array (String×TypeId)}(J:P.underlying t=some (.interface ms))(L:a.eval x=.iface e0 v):(execOp a.eval ⟨d,.binOp .eql t x (.const .nilIface) ty,T,pos,af,gd⟩).run P w=.ok (.value (.bool false)) w:=by
 have N:a.eval (.const .nilIface)=.nilIface:=rfl;have h: ∀m,(Op.equalIn (m+1) t (.iface e0 v) .nilIface).run P w=.ok false w:=λm=>by simp[Op.equalIn,run_underlying J]
 have O:(Op.equal t (.iface e0 v) .nilIface).run P w=.ok false w:=h 9999;simp[execOp,L,N,eqGuard,binOp,O]
end
end
def EqV (P:Program)(d:Nat)(t:TypeId)(x y:Value)(b:Bool):Prop:=∀w,(Op.equalIn d t x y).run P w=.ok b w
def EqF (P:Program)(d:Nat)(xs ys:Array Value)(fs:List Field)(b:Bool):Prop:=∀w,(Op.eqFields d xs ys fs).run P w=.ok b w
def EqI (P:Program)(d:Nat)(e:TypeId)(c:Nat)(xs ys:Array Value)(is:List Nat)(b:Bool):Prop:=∀w,(Op.eqItems d e c xs ys is).run P w=.ok b w
section
variable {P:Program}{d:Nat}{t e:TypeId}
def eq_int {k k':IntKind}{a b:Int}(h:P.underlying t=some (.int k')):EqV P (d+1) t (.int k a) (.int k b) (decide (a=b)):=λw=>by
 rw[run_equalIn_int w d t k k' a b h];rfl
def eq_str {a b:ByteArray}(h:P.underlying t=some .string):EqV P (d+1) t (.string a) (.string b) (decide (a=b)):=λw=>by
 rw[run_equalIn_string w d t a b h,str_eq]
def part_one {xs:Array Value}{o:Nat}{v:Value}(w:World)(J: ∀w,(isAgg t).run P w=.ok false w)(h:xs[o]?=some v):(part t xs o).run P w=.ok v w:=by simp[part,J,h]
def part_agg {xs zs:Array Value}{o n:Nat}(w:World)(J: ∀w,(isAgg t).run P w=.ok true w)(L: ∀w,(sizeOf t).run P w=.ok n w)(h:xs.extract o (o+n)=zs):(part t xs o).run P w=.ok (.agg zs) w:=by simp[part,J,L,h]
def eqf_nil {xs ys:Array Value}:EqF P d xs ys [] true:=λw=>by simp[Op.eqFields]
def eqf_cons {xs ys:Array Value}{f:Field}{fs:List Field}{a b:Value}{r r':Bool}(J:(f.name != "_")=true)(L: ∀w,(part f.type xs f.offset).run P w=.ok a w)(N: ∀w,(part f.type ys f.offset).run P w=.ok b w)
  (O:EqV P d f.type a b r) (h:EqF P d xs ys fs r'):EqF P d xs ys (f::fs) (r&&r'):=λw=>by
 have hn':f.name≠ "_" :=by simpa using J
 have U:=O w;have V:=h w;cases r<;>simp[Op.eqFields,hn',L,N,U,V]
def eqi_nil {xs ys:Array Value}{c:Nat}:EqI P d e c xs ys [] true:=λw=>by simp[Op.eqItems]
def eqi_cons {xs ys:Array Value}{c i:Nat}{is:List Nat}{a b:Value}{r r':Bool}(J: ∀w,(part e xs (i*c)).run P w=.ok a w)(L: ∀w,(part e ys (i*c)).run P w=.ok b w)
  (N:EqV P d e a b r) (h:EqI P d e c xs ys is r'):EqI P d e c xs ys (i::is) (r&&r'):=λw=>by
 have O:=N w;have U:=h w;cases r<;>simp[Op.eqItems,J,L,O,U]
def eq_struct {xs ys:Array Value}{fs:List Field}{r:Bool}(J:P.underlying t=some (.struct fs.toArray))(N:P.stoodInHeld t=false)(h:EqF P d xs ys fs r):EqV P (d+1) t (.agg xs) (.agg ys) r:=λw=>by
 have L:P.fieldsOf t=fs.toArray:=by simp[Program.fieldsOf,J]
 rw[run_equalIn_struct w d t xs ys (by rw[L];exact J) N,L];exact h w
def eq_array {xs ys:Array Value}{n c:Nat}{i:TypeInfo}{is:List Nat}{r:Bool}(L:P.underlying t=some (.array n e))(hi:P.info? e=some i)(N:P.cellsOf e=c)(J:List.range n=is)(h:EqI P d e c xs ys is r):EqV P (d+1) t (.agg xs) (.agg ys) r:=λw=>by
 rw[run_equalIn_array w d xs ys L hi,N,J];exact h w
def decide_pair {α β:Type}[DecidableEq α][DecidableEq β](x y:α×β):decide (x=y)=(decide (x.1=y.1)&&decide (x.2=y.2)):=by
 rw[<-Bool.decide_and];exact decide_eq_decide.2 Prod.ext_iff
section
variable {a:Act}{w:World}{dd:Option Tmp}{T ty:TypeId}{pos:String}{af:Array Edge}{gd:Option (Nat×Bool)}{x y:Operand}
def r_neagg {xs ys:Array Value}{p:Prop}[Decidable p](h:EqV P 10000 t (.agg xs) (.agg ys) (decide p))(L:P.eqGuardType P.depth t=false)(N:a.eval x=.agg xs)(O:a.eval y=.agg ys):
  (execOp a.eval ⟨dd,.binOp .neq t x y ty,T,pos,af,gd⟩).run P w=.ok (.value (.bool (decide (¬p)))) w:=by
 have U:=h w;have V:=run_eqGuard_agg w .neq t x y xs ys L;have J:=run_neq_struct (P:=P) w t xs ys;rw[U]at J;simp[execOp,N,O,V,J]
def r_nes' {s u:ByteArray}(J:a.eval x=.string s)(L:a.eval y=.string u):(execOp a.eval ⟨dd,.binOp .neq t x y ty,T,pos,af,gd⟩).run P w=.ok (.value (.bool (decide (s≠u)))) w:=by
 rw[r_nes J L];simp
def r_neb' {b c:Bool}(J:P.underlying t=some .bool)(L:a.eval x=.bool b)(N:a.eval y=.bool c):(execOp a.eval ⟨dd,.binOp .neq t x y ty,T,pos,af,gd⟩).run P w=.ok (.value (.bool (decide (b≠c)))) w:=by
 rw[r_neb J L N];cases b<;>cases c<;>rfl
end
end
section
variable {P:Program}{a:Act}{w:World}{d:Option Tmp}{T:TypeId}{pos:String}{af:Array Edge}{gd:Option (Nat×Bool)}{t ty:TypeId}{x y:Operand}
def r_shl8 {k':IntKind}{m n u:Int}(J:a.eval x=.int .u64 m)(L:a.eval y=.int k' n)(N:n=8)(O:IntKind.u64.wrap (m*256)=u):
  (execOp a.eval ⟨d,.binOp .shl t x y ty,T,pos,af,gd⟩).run P w=.ok (.value (.int .u64 u)) w:=by
 subst N;subst O;have U:eqGuard .shl t x y (.int .u64 m) (.int k' 8)=pure ():=rfl;have V:(Op.shift .shl .u64 m k' 8).run P w=.ok (.int .u64 (IntKind.u64.wrap (m*256))) w:=by simp[Op.shift,IntKind.bits]
 have W:binOp .shl t (.int .u64 m) (.int k' 8)=Op.shift .shl .u64 m k' 8:=rfl;simp[execOp,J,L,U,W,V]
def or_low (u b:Nat)(J:b<256)(L:u*256+255<18446744073709551616):IntKind.u64.wrap (((BitVec.ofInt 64 ((u:Int)*256))|||(BitVec.ofInt 64 (b:Int))).toNat:Int)=((u*256+b:Nat):Int):=by
 have N:BitVec.ofInt 64 ((u:Int)*256)=BitVec.ofNat 64 (u*256):=by rw[show(u:Int)*256=((u*256:Nat):Int) by omega,BitVec.ofInt_natCast]
 have O:BitVec.ofInt 64 (b:Int)=BitVec.ofNat 64 b:=BitVec.ofInt_natCast ..;have hp:(2:Nat)^64=18446744073709551616:=by decide
 have U:u*256%18446744073709551616=u*256:=Nat.mod_eq_of_lt (Nat.lt_of_le_of_lt (Nat.le_add_right _ 255) L);have V:b%18446744073709551616=b:=Nat.mod_eq_of_lt (Nat.lt_trans J (by decide));rw[N,O,BitVec.toNat_or,BitVec.toNat_ofNat,BitVec.toNat_ofNat,hp,U,V];have W:u*256|||b=u*256+b:=by
  have:=Nat.shiftLeft_add_eq_or_of_lt (show b<2^8 by omega) u;rw[Nat.shiftLeft_eq]at this;exact this.symm
 rw[W];exact u64_in _ (by omega)
def r_orb {m n:Int}{u b:Nat}(J:a.eval x=.int .u64 m)(L:a.eval y=.int .u64 n)(N:m=(u:Int)*256)(O:n=(b:Int))(U:b<256)(V:u*256+255<18446744073709551616):
  (execOp a.eval ⟨d,.binOp .or t x y ty,T,pos,af,gd⟩).run P w=.ok (.value (.int .u64 ((u*256+b:Nat):Int))) w:=by
 subst N;subst O;have W:eqGuard .or t x y (.int .u64 ((u:Int)*256)) (.int .u64 (b:Int))=pure ():=rfl;have X:binOp .or t (.int .u64 ((u:Int)*256)) (.int .u64 (b:Int))=Op.intBits .or .u64 ((u:Int)*256) (b:Int):=by simp[binOp]
 have Y:(Op.intBits .or .u64 ((u:Int)*256) (b:Int)).run P w=.ok (.int .u64 ((u*256+b:Nat):Int)) w:=by
  rw[<-or_low u b U V];rfl
 simp[execOp,J,L,W,X,Y]
def Qer {e:TypeId}{ad:Addr}(J:P.underlying t=some (.pointer e))(L:a.eval x=.pointer (some ad))(N:a.eval y=.pointer none):
  (execOp a.eval ⟨d,.binOp .neq t x y ty,T,pos,af,gd⟩).run P w=.ok (.value (.bool true)) w:=by
 have h: ∀m,(Op.equalIn (m+1) t (.pointer (some ad)) (.pointer none)).run P w=.ok false w:=λm=>by simp[Op.equalIn,run_underlying J]
 have O:(Op.equal t (.pointer (some ad)) (.pointer none)).run P w=.ok false w:=h 9999;simp[execOp,L,N,eqGuard_at_pointer,binOp,O]
end
section
variable {r:Option Nat}{P:Program}{ops:Array Oper}{Q:Exit->Act->World->Prop}{a:Act}{w:World}{rest:List Oper}{n:Nat}{ds:List Deferred}{l:List (Nat×Value)}{d:Nat}{T:TypeId}{pos:String}{af:Array Edge}
end
section
variable {r:Option Nat}{P:Program}{ops:Array Oper}{Q:Exit->Act->World->Prop}{a:Act}{w:World}{rest:List Oper}{n:Nat}{ds:List Deferred}{l:List (Nat×Value)}{d:Nat}{T:TypeId}{pos:String}{af:Array Edge}
end
@[reducible] def R64 (x:Int):Prop:= -9223372036854775808<=x/\x<=9223372036854775807
inductive Hint where
 |n
 |b (i o:Nat)
 |e (i o:Nat)
 |pk
 |off
 |on (h:Hint)
 |sy (h:Hint)
structure Kn where
 bs:List (Nat×TypeId×List Value)
 es:List (Addr×List Value)
def Kn.ok (K:Kn)(w:World):Prop:=(∀b,b∈K.bs->Blk w b.1 b.2.1 b.2.2)/\(∀e,e∈K.es->Cells w e.1 e.2)
def k0 {w:World}:Kn.ok ⟨[],[]⟩ w:=⟨λb h=>(by cases h),λb h=>(by cases h)⟩
def ke {w:World}{E:Addr}{cs:List Value}{bs:List (Nat×TypeId×List Value)}{es:List (Addr×List Value)}(h:Cells w E cs)(L:Kn.ok ⟨bs,es⟩ w):Kn.ok ⟨bs,(E,cs)::es⟩ w:=
 ⟨L.1,λb J=>by rcases Qq.1 J with rfl|J;exact h;exact L.2 b J⟩
def aggB (P:Program)(t:TypeId):Option Bool:=match P.underlying t with
 |some (.struct _)=>some true
 |some (.array _ _)=>some true
 |some _=>some false
 |none=>none
def szB (P:Program)(t:TypeId):Option Nat:=(P.info? t).map (·.size)
section
variable {P:Program}{t:TypeId}
def Qck {b:Bool}(h:aggB P t=some b)(w:World):(isAgg t).run P w=.ok b w:=by
 unfold aggB at h;cases J:P.underlying t with
 |none=>rw[J]at h;cases h
 |some d=>
  rw[J]at h;unfold isAgg;rw[Sem.run_bind,run_underlying J,Result.andThen_ok];cases d<;>simp at h<;>subst h<;>rfl
def Qai {n:Nat}(h:szB P t=some n)(w:World):(sizeOf t).run P w=.ok n w:=by
 unfold szB at h;cases hi:P.info? t with
 |none=>rw[hi]at h;cases h
 |some i=>rw[hi]at h;simp at h;subst h;simp[sizeOf,typeInfo,hi]
def zero_run {i:TypeInfo}{z:Value}(hi:P.info? t=some i)(J:i.zero=some z)(w:World):(zeroValue t).run P w=.ok z w:=by
 simp[zeroValue,typeInfo,hi,J]
end
abbrev QO:=Option (List Prop×List (Value×Value)×Value)
def qok (v:Value):QO:=some ([],[],v)
def qar (k:IntKind)(x:Int):QO:=match k with
 | .i64=>some ([R64 x],[],.int .i64 x)
 |k=>qok (.int k (k.wrap x))
def qint (op:BinOp)(k:IntKind)(m n:Int):QO:=match op with
 | .add=>qar k (m+n)
 | .sub=>qar k (m-n)
 | .mul=>qar k (m*n)
 | .lss=>qok (.bool (decide (m<n)))
 | .leq=>qok (.bool (decide (m<=n)))
 | .gtr=>qok (.bool (decide (n<m)))
 | .geq=>qok (.bool (decide (n<=m)))
 | .eql=>qok (.bool (decide (m=n)))
 | .neq=>qok (.bool (decide (m≠n)))
 | .quo=>match k with
  | .i64=>some ([n≠0,R64 (m.tdiv n)],[],.int .i64 (m.tdiv n))
  |_=>none
 | .rem=>some ([n≠0],[],.int k (m.tmod n))
 | .shr=>match k with
  | .u64=>some ([0<=n/\n<=64],[],.int .u64 (m / 2^n.toNat))
  |_=>none
 |_=>none
def qbin (P:Program)(op:BinOp)(t:TypeId):Option Value->Option Value->QO
 |some (.int k m),some (.int k' n)=>if k'=k then qint op k m n else none
 |some (.bool b),some (.bool c)=>match P.underlying t with
  |some .bool=>match op with
   | .eql=>qok (.bool (b==c))
   | .neq=>qok (.bool (decide (b≠c)))
   |_=>none
  |_=>none
 |some (.string s),some (.string u)=>match op with
  | .eql=>qok (.bool (decide (s=u)))
  | .neq=>qok (.bool (decide (s≠u)))
  | .lss=>qok (.bool (Op.bytesLess s.toList u.toList))
  | .gtr=>qok (.bool (!(Op.bytesLess s.toList u.toList||s.toList==u.toList)))
  | .add=>some ([s.size+u.size<=9223372036854775807],[],.string (s++u))
  |_=>none
 |some (.slice A _ _),some (.slice none 0 0)=>match P.underlying t with
  |some (.slice _)=>match op with
   | .eql=>qok (.bool A.isNone)
   |_=>none
  |_=>none
 |some (.pointer (some _)),some (.pointer none)=>match P.underlying t with
  |some (.pointer _)=>match op with
   | .neq=>qok (.bool true)
   |_=>none
  |_=>none
 |_,_=>none
def qconv (P:Program)(s d:TypeId):Option Value->QO
 |some (.int _ n)=>match P.underlying s,P.underlying d with
  |some _,some (.int .i64)=>some ([R64 n],[],.int .i64 n)
  |some _,some (.int k)=>qok (.int k (k.wrap n))
  |_,_=>none
 |_=>none
def qfa (P:Program)(t:TypeId)(i:Nat):Option Value->QO
 |some (.pointer (some a))=>match P.underlying t with
  |some (.struct fs)=>match fs[i]? with
   |some f=>match szB P f.type with
    |some (_+1)=>qok (.pointer (some (a.add f.offset)))
    |_=>none
   |none=>none
  |_=>none
 |_=>none
def qfl (P:Program)(t:TypeId)(i:Nat):Option Value->QO
 |some (.agg cs)=>match P.underlying t with
  |some (.struct fs)=>match fs[i]? with
   |some f=>match aggB P f.type with
    |some false=>match cs[f.offset]? with
     |some v=>qok v
     |none=>none
    |some true=>match szB P f.type with
     |some n=>qok (.agg (cs.extract f.offset (f.offset+n)))
     |none=>none
    |none=>none
   |none=>none
  |_=>none
 |_=>none
def qcut (P:Program)(t:TypeId)(cs:List Value)(o:Nat):Option Value:=match aggB P t with
 |some false=>cs[o]?
 |some true=>match szB P t with
  |some n=>if((cs.drop o).take n).length=n then some (.agg ((cs.drop o).take n).toArray)else none
  |none=>none
 |none=>none
def qld (P:Program)(K:Kn)(h:Hint)(t:TypeId):Option Value->QO
 |some (.pointer (some a))=>match h with
  | .b i o=>match K.bs[i]? with
   |some (g,_,cs)=>match qcut P t cs o with
    |some v=>some ([],[(.pointer (some a),.pointer (some ⟨g,o,none⟩))],v)
    |none=>none
   |none=>none
  | .e i o=>match K.es[i]? with
   |some (E,cs)=>match qcut P t cs o with
    |some v=>some ([],[(.pointer (some a),.pointer (some (E.add o)))],v)
    |none=>none
   |none=>none
  |_=>none
 |_=>none
def qbi (P:Program)(b:Builtin):List (Option Value)->List TypeId->QO
 | [some (.slice _ n _)],[t]=>match b,P.underlying t with
  | .len,some (.slice _)=>qok (.int .i64 (n:Int))
  |_,_=>none
 | [some (.string s)],[t]=>match b,P.underlying t with
  | .len,some .string=>qok (.int .i64 (s.size:Int))
  |_,_=>none
 | [some (.int k p),some (.int _ q)],_=>match b with
  | .min=>qok (.int k (min p q))
  | .max=>qok (.int k (max p q))
  |_=>none
 |_,_=>none
def qes (e:Operand->Option Value):List Operand->Option (List Value)
 | []=>some []
 |x::r=>match e x,qes e r with
  |some v,some vs=>some (v::vs)
  |_,_=>none
def qps (e:Operand->Option Value):List (Nat×Operand)->Option (List (Nat×Value))
 | []=>some []
 |(i,x)::r=>match e x,qps e r with
  |some v,some vs=>some ((i,v)::vs)
  |_,_=>none
def qpl (P:Program):List Field->Option (List (Nat×Nat))
 | []=>some []
 |f::r=>match szB P f.type,qpl P r with
  |some n,some l=>some ((f.offset,n)::l)
  |_,_=>none
def qbd (P:Program)(t:TypeId)(vs:Option (List (Nat×Value))):QO:=match vs,P.info? t,P.underlying t with
 |some vs,some i,some (.struct fs)=>match i.zero,qpl P fs.toList with
  |some z,some pl=>match Instr.fill (pl.toArray[·]?) z.cells vs with
   |some cs=>qok (.agg cs)
   |none=>none
  |_,_=>none
 |_,_,_=>none
def qv (P:Program)(K:Kn)(h:Hint)(e:Operand->Option Value):Op->QO
 | .move x=>(e x).map λv=>([],[],v)
 | .assign x=>(e x).map λv=>([],[],v)
 | .pick c x y=>match e c with
  |some (.bool true)=>(e x).map λv=>([],[],v)
  |some (.bool false)=>(e y).map λv=>([],[],v)
  |_=>none
 | .unOp .not _ x=>match e x with
  |some (.bool b)=>qok (.bool (!b))
  |_=>none
 | .extract x i=>match e x with
  |some (.tuple vs)=>(vs[i]?).map λv=>([],[],v)
  |_=>none
 | .nilCheck x=>match e x with
  |some (.pointer (some a))=>qok (.pointer (some a))
  |_=>none
 | .makeFunc fn xs ys=>match qes e xs.toList,qes e ys.toList with
  |some vs,some us=>qok (.func fn vs.toArray us.toArray)
  |_,_=>none
 | .binOp op t x y _=>qbin P op t (e x) (e y)
 | .convert s d x=>qconv P s d (e x)
 | .fieldAddr t x i=>qfa P t i (e x)
 | .field t x i=>qfl P t i (e x)
 | .load t x=>qld P K h t (e x)
 | .call {callee:=.builtin b,args:=xs,argTypes:=ts}=>qbi P b (xs.toList.map e) ts.toList
 | .build t ps=>qbd P t (qps e ps.toList)
 |_=>none
section
variable {P:Program}{K:Kn}{a:Act}{w:World}{d:Option Tmp}{T:TypeId}{pos:String}{af:Array Edge}{gd:Option (Nat×Bool)}{e:Operand->Option Value}
def qes_eval (N: ∀x v,e x=some v->a.eval x=v): ∀(xs:List Operand) {vs:List Value},qes e xs=some vs->xs.toArray.map a.eval=vs.toArray:=by
 intro xs;induction xs with
 |nil=>intro vs h;simp only[qes,Qr]at h;subst h;simp
 |cons x r O=>
  intro vs h;unfold qes at h;cases J:e x with
  |none=>simp[J]at h
  |some v=>cases L:qes e r with
   |none=>simp[J,L]at h
   |some us=>
    simp only[J,L,Qr]at h;subst h;have:=O L;simp only[Wd,Wc,N x v J]at this ⊢;rw[Array.mk.injEq]at this;rw[this]
def qps_eval (N: ∀x v,e x=some v->a.eval x=v): ∀(xs:List (Nat×Operand)) {vs:List (Nat×Value)},qps e xs=some vs->xs.toArray.map (λ(i,x)=>(i,a.eval x))=vs.toArray:=by
 intro xs;induction xs with
 |nil=>intro vs h;simp only[qps,Qr]at h;subst h;simp
 |cons x r O=>
  obtain⟨i,x⟩:=x;intro vs h;unfold qps at h;cases J:e x with
  |none=>simp[J]at h
  |some v=>cases L:qps e r with
   |none=>simp[J,L]at h
   |some us=>
    simp only[J,L,Qr]at h;subst h;have:=O L;simp only[Wd,Wc,N x v J]at this ⊢;rw[Array.mk.injEq]at this;rw[this]
def qpl_run: ∀(fs:List Field) {pl:List (Nat×Nat)},qpl P fs=some pl->∀w,(fs.mapM λf=>do pure (f.offset,<-sizeOf f.type):Sem (List (Nat×Nat))).run P w=.ok pl w:=by
 intro fs;induction fs with
 |nil=>intro pl h w;simp only[qpl,Qr]at h;subst h;rfl
 |cons f r N=>
  intro pl h w;unfold qpl at h;cases J:szB P f.type with
  |none=>simp[J]at h
  |some n=>cases L:qpl P r with
   |none=>simp[J,L]at h
   |some l=>
    simp only[J,L,Qr]at h;subst h;rw[List.mapM_cons];simp only[Sem.run_bind,Qai J,Result.andThen_ok,Sem.run_pure,N L]
def qpl_arr {fs:Array Field}{pl:List (Nat×Nat)}(h:qpl P fs.toList=some pl)(w:World):(fs.mapM λf=>do pure (f.offset,<-sizeOf f.type):Sem (Array (Nat×Nat))).run P w=.ok pl.toArray w:=by
 have J:=qpl_run fs.toList h w;rw[Array.mapM_eq_mapM_toList,map_eq_pure_bind,Sem.run_bind,J];rfl
def o_bH {k:IntKind}{x:Int}{c:List Prop}{q:List (Value×Value)}{v:Value}(h:qar k x=some (c,q,v))(L: ∀p,p∈c->p):v=.int k (k.wrap x):=by
 unfold qar at h;split at h;injection h with h;injection h with J h;injection h with N h;subst h;subst J
 rw[IntWalk.i64_in _ (L _ (Qz.2 rfl))];unfold qok at h;injection h with h;injection h with J h;injection h with N h;exact h.symm
def o_g {u v:Value}{c:List Prop}{q:List (Value×Value)}(h:qok u=some (c,q,v)):v=u:=by
 unfold qok at h;injection h with h;injection h with J h;injection h with L h;exact h.symm
def Qed {t:TypeId}{x:Operand}{cs:List Value}{o:Nat}{v:Value}{A:Addr}(h:qcut P t cs o=some v)(N:a.eval x=.pointer (some A))(hcell: ∀j u,cs[o+j]?=some u->w.cell? (A.add j)=some u):
  (execOp a.eval ⟨d,.load t x,T,pos,af,gd⟩).run P w=.ok (.value v) w:=by
 unfold qcut at h;split at h;rename_i J;refine r_load1 (λw=>Qck J w) N ?_;have:=hcell 0 v (by simpa using h);rwa[Addr.add_zero']at this;rename_i J;split at h;rename_i n V;split at h;rename_i O;injection h with h;subst h
 refine r_loadN (λw=>Qck J w) (λw=>Qai V w) N O λj u U=>hcell j u ?_;have L:j<n:=by have:=(Qd.1 U).1;rw[O]at this;exact this
 rwa[Qu L,Qv]at U;cases h;cases h;cases h
def o_b4 {op:BinOp}{t ty:TypeId}{k:IntKind}{m n:Int}{x y:Operand}{c:List Prop}{q:List (Value×Value)}{v:Value}(h:qint op k m n=some (c,q,v))(N: ∀p,p∈c->p)(J:a.eval x=.int k m)(L:a.eval y=.int k n):
  (execOp a.eval ⟨d,.binOp op t x y ty,T,pos,af,gd⟩).run P w=.ok (.value v) w:=by
 unfold qint at h;split at h;rw[o_bH h N];exact r_add J L;rw[o_bH h N];exact r_sub J L;rw[o_bH h N];exact r_mul J L;rw[o_g h];exact r_lss J L;rw[o_g h];exact r_leq J L;rw[o_g h];exact r_gtr J L;rw[o_g h];exact r_geq J L;rw[o_g h];exact r_eql J L;rw[o_g h];exact r_neq J L;split at h;injection h with h;injection h with O h;injection h with U h;subst h;subst O
 exact r_quow J L (N _ (by simp)) (IntWalk.i64_in _ (N _ (by simp)));cases h;injection h with h;injection h with O h;injection h with U h;subst h;subst O
 exact r_rem J L (N _ (by simp));split at h;injection h with h;injection h with O h;injection h with U h;subst h;subst O
 have V:=N (0<=n/\n<=64) (by simp);exact r_shr J L V.1 V.2;cases h;cases h
def r_lss_str {t ty:TypeId}{x y:Operand}{s u:ByteArray}(J:a.eval x=.string s)(L:a.eval y=.string u):(execOp a.eval ⟨d,.binOp .lss t x y ty,T,pos,af,gd⟩).run P w=.ok (.value (.bool (Op.bytesLess s.toList u.toList))) w:=by
 simp[execOp,J,L,binOp_string_lss,eqGuard_lss]
def r_gtr_str {t ty:TypeId}{x y:Operand}{s u:ByteArray}(J:a.eval x=.string s)(L:a.eval y=.string u):(execOp a.eval ⟨d,.binOp .gtr t x y ty,T,pos,af,gd⟩).run P w=.ok (.value (.bool (!(Op.bytesLess s.toList u.toList||s.toList==u.toList)))) w:=by
 simp[execOp,J,L,binOp,Op.stringOp,eqGuard_gtr]
def r_cat {t ty:TypeId}{x y:Operand}{s u:ByteArray}(J:a.eval x=.string s)(L:a.eval y=.string u)(h:s.size+u.size<=9223372036854775807):(execOp a.eval ⟨d,.binOp .add t x y ty,T,pos,af,gd⟩).run P w=.ok (.value (.string (s++u))) w:=by
 simp[execOp,J,L,binOp_string_add,run_string_add_sum w s u h,eqGuard_add]
def o_b5 {op:BinOp}{t ty:TypeId}{x y:Operand}{c:List Prop}{q:List (Value×Value)}{v:Value}(J: ∀x v,e x=some v->a.eval x=v)(h:qbin P op t (e x) (e y)=some (c,q,v))(U: ∀p,p∈c->p):
  (execOp a.eval ⟨d,.binOp op t x y ty,T,pos,af,gd⟩).run P w=.ok (.value v) w:=by
 unfold qbin at h;split at h;rename_i k m k' n L N;split at h;rename_i hk;subst hk;exact o_b4 h U (J _ _ L) (J _ _ N);cases h;rename_i b c' L N;split at h;rename_i O;split at h;rw[o_g h];exact r_eqb O (J _ _ L) (J _ _ N);rw[o_g h];exact r_neb' O (J _ _ L) (J _ _ N);cases h;cases h;rename_i s u L N;split at h;rw[o_g h];exact r_eqs (J _ _ L) (J _ _ N);rw[o_g h];exact r_nes' (J _ _ L) (J _ _ N);rw[o_g h];exact r_lss_str (J _ _ L) (J _ _ N);rw[o_g h];exact r_gtr_str (J _ _ L) (J _ _ N);injection h with h;injection h with V h;injection h with W h;subst h;subst V
 exact r_cat (J _ _ L) (J _ _ N) (U _ (by simp));cases h;rename_i A n c' L N;split at h;rename_i O;split at h;rw[o_g h];exact r_eqnil O (J _ _ L) (J _ _ N);cases h;cases h;rename_i A L N;split at h;rename_i O;split at h;rw[o_g h];exact Qer O (J _ _ L) (J _ _ N);cases h;cases h;cases h
def o_bZ {hn:Hint}{op:Op}{c:List Prop}{q:List (Value×Value)}{v:Value}(L: ∀x v,e x=some v->a.eval x=v)(hK:K.ok w)(h:qv P K hn e op=some (c,q,v))(hc: ∀p,p∈c->p)(hq: ∀p,p∈q->p.1=p.2):
  (execOp a.eval ⟨d,op,T,pos,af,gd⟩).run P w=.ok (.value v) w:=by
 unfold qv at h;split at h;rename_i x;cases J:e x with
 |none=>simp[J]at h
 |some u=>simp[J]at h;obtain⟨_,_,rfl⟩:=h;exact r_move (L _ _ J)
 rename_i x;cases J:e x with
 |none=>simp[J]at h
 |some u=>simp[J]at h;obtain⟨_,_,rfl⟩:=h;exact r_assign (L _ _ J)
 rename_i c' x y;split at h;rename_i V;cases J:e x with
 |none=>simp[J]at h
 |some u=>simp[J]at h;obtain⟨_,_,rfl⟩:=h;exact r_pick_t (L _ _ V) (L _ _ J)
 rename_i V;cases J:e y with
 |none=>simp[J]at h
 |some u=>simp[J]at h;obtain⟨_,_,rfl⟩:=h;exact r_pick_f (L _ _ V) (L _ _ J)
 cases h;split at h;rename_i J;rw[o_g h];exact r_not (L _ _ J);cases h;rename_i x i;split at h;rename_i vs J;cases hi:vs[i]? with
 |none=>simp[hi]at h
 |some u=>simp[hi]at h;obtain⟨_,_,rfl⟩:=h;exact r_extract (L _ _ J) hi
 cases h;split at h;rename_i J;rw[o_g h];exact r_nilCheck (L _ _ J);cases h;rename_i fn xs ys;split at h;rename_i vs us J Y;rw[o_g h];have N:=qes_eval L _ J;have O:=qes_eval L _ Y;simp only[Q0]at N O;exact r_makeFunc N O;cases h;exact o_b5 L h hc;rename_i s d' x;unfold qconv at h;split at h;rename_i k n J;split at h;rename_i W hd;injection h with h;injection h with N h;injection h with O h;subst h;subst N
 exact r_convw W hd (L _ _ J) (IntWalk.i64_in _ (hc _ (Qz.2 rfl)));rename_i W hd;rw[o_g h];exact r_conv W hd (L _ _ J);cases h;cases h;unfold qfa at h;split at h;rename_i A J;split at h;rename_i fs U;split at h;rename_i f hf;split at h;rename_i m W;rw[o_g h];exact Qeg U hf (λw=>Qai W w) (L _ _ J);cases h;cases h;cases h;cases h;unfold qfl at h;split at h;rename_i cs J;split at h;rename_i fs U;split at h;rename_i f hf;split at h;rename_i X;split at h;rename_i u hv;rw[o_g h];have:=L _ _ J;simp[execOp,Instr.field,run_underlying U,hf,this,asAgg,part,Qck X,hv];cases h;rename_i X;split at h;rename_i n W;rw[o_g h];have:=L _ _ J;simp[execOp,Instr.field,run_underlying U,hf,this,asAgg,part,Qck X,Qai W];cases h;cases h;cases h;cases h;cases h;unfold qld at h;split at h;rename_i A J;split at h;split at h;rename_i i o _ g bt cs hb;split at h;rename_i u hcut;injection h with h;injection h with N h;injection h with O h;subst h;subst O
 have X:Value.pointer (some A)=.pointer (some ⟨g,o,none⟩):=hq _ (Qz.2 rfl);have hB:Blk w g bt cs:=hK.1 _ (Qi hb);refine Qed hcut ((L _ _ J).trans X) λj u hj=>?_;rw[Addr.add_lit,hB.cell];exact hj;cases h;cases h;split at h;rename_i i o _ E cs hb;split at h;rename_i u hcut;injection h with h;injection h with N h;injection h with O h;subst h;subst O
 have X:Value.pointer (some A)=.pointer (some (E.add o)):=hq _ (Qz.2 rfl);have hB:Cells w E cs:=hK.2 _ (Qi hb);refine Qed hcut ((L _ _ J).trans X) λj u hj=>?_;rw[add_add];exact hB _ _ hj;cases h;cases h;cases h;cases h;rename_i b xs ts;unfold qbi at h;split at h;rename_i A n c' t N O;split at h;rename_i U;rw[o_g h];obtain⟨x,rfl,J⟩: ∃x,xs=#[x]/\e x=some (.slice A n c'):=by
  obtain⟨l⟩:=xs;rcases l with _|⟨x,_|⟨y,l⟩⟩
  simp at N;exact⟨x,rfl,by simpa using N⟩;simp at N
 obtain rfl:ts=#[t]:=by obtain⟨l⟩:=ts;simp at O;rw[O]
 exact r_len U (L _ _ J);cases h;rename_i s t N O;split at h;rename_i U;rw[o_g h];obtain⟨x,rfl,J⟩: ∃x,xs=#[x]/\e x=some (.string s):=by
  obtain⟨l⟩:=xs;rcases l with _|⟨x,_|⟨y,l⟩⟩
  simp at N;exact⟨x,rfl,by simpa using N⟩;simp at N
 obtain rfl:ts=#[t]:=by obtain⟨l⟩:=ts;simp at O;rw[O]
 exact r_lens U (L _ _ J);cases h;rename_i k p k' q' N;obtain⟨x,y,rfl,J,Y⟩: ∃x y,xs=#[x,y]/\e x=some (.int k p)/\e y=some (.int k' q'):=by
  obtain⟨l⟩:=xs;rcases l with _|⟨x,_|⟨y,_|⟨z,l⟩⟩⟩
  simp at N;simp at N;simp at N;exact⟨x,y,rfl,N.1,N.2⟩;simp at N
 split at h;rw[o_g h];exact r_min (L _ _ J) (L _ _ Y);rw[o_g h];exact r_max (L _ _ J) (L _ _ Y);cases h;cases h;rename_i t ps;unfold qbd at h;split at h;rename_i vs i fs hvs hi U;split at h;rename_i z pl hz hpl;split at h;rename_i cs hcs;rw[o_g h];have N:=qps_eval L _ hvs;simp only[Q0]at N;simp only[execOp,Instr.build,N];simp only[Sem.run_bind,zero_run hi hz,Result.andThen_ok,run_underlying U];rw[qpl_arr hpl w];simp only[Result.andThen_ok,hcs,Sem.run_pure];cases h;cases h;cases h;cases h
end
def bo {x y:Bool}(h:(x||y)=true):x=true\/y=true:=by cases x<;>simp_all
def bn {x:Bool}(h:(!x)=true):x=false:=by cases x<;>simp_all
structure QS where
 l:List (Nat×Value)
 g:List (Nat×Nat×Bool×Value)
 c:List Prop
 q:List (Value×Value)
 wr:List Nat
def gk:List (Nat×Nat×Bool×Value)->Nat->Option (Nat×Bool×Value)
 | [],_=>none
 |(t,x)::r,d=>bif Nat.beq t d then some x else gk r d
def gfree:List (Nat×Nat×Bool×Value)->Nat->Bool
 | [],_=>true
 |(t,j,_)::r,d=> !(Nat.beq t d)&& !(Nat.beq j d)&&gfree r d
def evg (s:QS)(gd:Option (Nat×Bool)):Operand->Option Value
 | .tmp t=>match gk s.g t with
  |some (dj,b,v)=>match gd with
   |some (dj',b')=>if dj'=dj then if b'=b then some v else none else none
   |none=>none
  |none=>lk s.l t
 |x=>ev s.l x
def qput (s:QS)(d:Nat)(c:List Prop)(q:List (Value×Value))(v:Value):Option QS:=
 if gfree s.g d then some ⟨(d,v)::s.l,s.g,s.c++c,q++s.q,d::s.wr⟩else none
def qside (s:QS)(tc:Nat)(b:Bool):Operand->Option Bool
 | .tmp t=>match gk s.g t with
  |some (dj,b',.bool u)=>if dj=tc then if b'=b then some u else none else none
  |some _=>none
  |none=>if t=tc then some b else match lk s.l t with
   |some (.bool u)=>some u
   |_=>none
 |x=>match ev s.l x with
  |some (.bool u)=>some u
  |_=>none
def qpk (s:QS)(d:Nat):Op->Option QS
 | .pick (.tmp tc) x y=>match gk s.g tc,lk s.l tc with
  |none,some (.bool cb)=>match qside s tc true x,qside s tc false y with
   |some b1,some b2=>qput s d [] [] (.bool (bif cb then b1 else b2))
   |_,_=>none
  |_,_=>none
 |_=>none
def qno (P:Program)(K:Kn)(s:QS)(d:Nat)(h:Hint)(op:Op):Option QS:=match qv P K h (evg s none) op with
 |some (c,q,v)=>qput s d c q v
 |none=>none
def q1 (P:Program)(K:Kn)(n:Nat)(ops:Array Oper)(s:QS)(h:Hint)(o:Oper):Option QS:=match o.dst with
 |none=>none
 |some d=>if Nat.ble (d+1) n then match o.guard with
  |none=>match h with
   | .pk=>qpk s d o.op
   |h=>qno P K s d h o.op
  |some (j,b)=>match(ops[j]?).bind (·.dst)with
   |none=>none
   |some dj=>match gk s.g dj,lk s.l dj with
    |none,some (.bool c)=>match h with
     | .off=>if c= !b then qput s d [] [] undef else none
     | .on .pk=>if c=b then qpk s d o.op else none
     | .on h=>if c=b then qno P K s d h o.op else none
     | .sy h=>if d=dj then none else if gfree s.g d then match lk s.l d with
      |none=>match qv P K h (evg s (some (dj,b))) o.op with
       |some (cs,q,v)=>some ⟨s.l,(d,dj,b,v)::s.g,s.c++cs.map (λp=>c=b->p),q++s.q,d::s.wr⟩
       |none=>none
      |some _=>none else none
     |_=>none
    |none,some (.tuple vs)=>match h with
     | .off=>if vs.toList.isEmpty then qput s d [] [] undef else none
     |_=>none
    |_,_=>none else none
def qs (P:Program)(K:Kn)(n:Nat)(ops:Array Oper):List Hint->List Oper->QS->Option QS
 | [],_,s=>some s
 |h::hs,o::r,s=>match q1 P K n ops s h o with
  |some s'=>qs P K n ops hs r s'
  |none=>none
 |_::_,[],_=>none
def dqs (P:Program)(K:Kn)(n:Nat)(ops:Array Oper):List (Nat×Hint)->Array Bool->QS->Option (Array Bool×QS)
 | [],li,s=>some (li,s)
 |(i,h)::r,li,s=>match ops[i]? with
  |some o=>if Region.free .any ops li i&&(Region.ready .any ops li).contains i then match q1 P K n ops s h o with
   |some s'=>dqs P K n ops r (li.setIfInBounds i true) s'
   |none=>none else none
  |none=>none
def qfin (l0:List (Nat×Value))(ks:List Nat)(s:QS):Option (List Prop×List (Nat×Value)):=
 if s.wr.all (λd=>ks.contains d||(lk l0 d).isNone)then some (s.c,kp s.l ks)else none
def conj:List Prop->Prop
 | []=>True
 | [p]=>p
 |p::q::r=>p/\conj (q::r)
def cat:List (Nat×Value)->List (Nat×Value)->List (Nat×Value)
 | [],l=>l
 |p::r,l=>p::cat r l
def Qdx: ∀{cs:List Prop},conj cs->∀p,p∈cs->p
 | [],_,p,hp=>by cases hp
 | [q],h,p,hp=>by rw[Qz]at hp;subst hp;exact h
 |q::q'::r,h,p,hp=>by
  rcases Qq.1 hp with rfl|hp
  exact h.1;exact Qdx h.2 p hp
def Qbo (d e:Nat)(v:Value)(l:List (Nat×Value)):lk ((d,v)::l) e=if d=e then some v else lk l e:=by
 by_cases h:d=e;subst h;rw[Qam,Qe rfl];rw[Qak _ _ h,Qc h]
def Qcr (d e:Nat)(x:Nat×Bool×Value)(l:List (Nat×Nat×Bool×Value)):gk ((d,x)::l) e=if d=e then some x else gk l e:=by
 unfold gk;by_cases h:d=e;subst h;simp;have:Nat.beq d e=false:=by cases J:Nat.beq d e with
  |false=>rfl
  |true=>exact absurd (Q2 J) h
 simp only[this,cond_false,Qc h];cases l<;>rfl
def Qcb: ∀{g:List (Nat×Nat×Bool×Value)} {d:Nat},gfree g d=true->gk g d=none/\∀t j b v,gk g t=some (j,b,v)->j≠d
 | [],d,_=>⟨rfl,λt j b v h=>by cases h⟩
 |(t,j,x)::r,d,h=>by
  simp only[gfree,Qm,Bool.not_eq_true']at h;obtain⟨⟨J,L⟩,N⟩:=h;have O:t≠d:=λe=>by subst e;simp at J
  have U:j≠d:=λe=>by subst e;simp at L
  obtain⟨V,W⟩:=Qcb N;refine⟨by rw[Qcr,Qc O];exact V,λt' j' b v h=>?_⟩;rw[Qcr]at h;split at h;injection h with h;injection h with X Y;rw[<-X];exact U
  exact W _ _ _ _ h
structure QS.ok (s:QS) (a:Act) (n:Nat) (ds:List Deferred):Prop where
 fr:Fr a n ds s.l
 gd: ∀t dj b v,gk s.g t=some (dj,b,v)->lk s.l t=none/\∃c,lk s.l dj=some (.bool c)/\gk s.g dj=none/\a.tmps[t]?=some (if c=b then v else undef)
structure QS.inv (l0:List (Nat×Value)) (s:QS):Prop where
 out: ∀d,d∉s.wr->lk s.l d=lk l0 d
 wrn: ∀d,d∈s.wr->(lk s.l d).isSome=true\/lk l0 d=none\/∃v,lk s.l d=some v
structure QS.le (s s':QS):Prop where
 c: ∀p,p∈s.c->p∈s'.c
 q: ∀p,p∈s.q->p∈s'.q
def QS.le.refl (s:QS):QS.le s s:=⟨λ_ h=>h,λ_ h=>h⟩
def QS.le.trans {s t u:QS}(h:QS.le s t)(k:QS.le t u):QS.le s u:=⟨λ_ hp=>k.c _ (h.c _ hp),λ_ hp=>k.q _ (h.q _ hp)⟩
section
variable {P:Program}{K:Kn}{n:Nat}{ds:List Deferred}{ops:Array Oper}{a:Act}{s s':QS}
def evg_none (J:s.ok a n ds)(x:Operand)(v:Value)(h:evg s none x=some v):a.eval x=v:=by
 unfold evg at h;split at h;split at h;cases h;exact J.fr.eval (x:=.tmp _) h;exact J.fr.eval h
def evg_some {dj:Nat}{b:Bool}(L:s.ok a n ds)(W:lk s.l dj=some (.bool b))(x:Operand)(v:Value)(h:evg s (some (dj,b)) x=some v):a.eval x=v:=by
 unfold evg at h;split at h;rename_i t;split at h;rename_i dj' b' v' N;by_cases O:dj=dj';subst O;by_cases U:b=b';subst U;simp only[if_true]at h;injection h with h
 subst h;obtain⟨_,c,J,_,V⟩:=L.gd _ _ _ _ N;rw[W]at J;injection J with J;injection J with J
 rw[Qe J.symm]at V;simp[Act.eval,Wa,V];simp[U]at h;simp[O]at h;exact L.fr.eval (x:=.tmp _) h;exact L.fr.eval h
def o_bo {d:Nat}{c:List Prop}{q:List (Value×Value)}{v:Value}(U:d<n)(O:s.ok a n ds)(h:qput s d c q v=some s'):s'.ok (a.put (some d) v) n ds/\QS.le s s'/\(∀p,p∈c->p∈s'.c)/\(∀p,p∈q->p∈s'.q):=by
 unfold qput at h;split at h;rename_i V;injection h with h
 subst h;obtain⟨W,X⟩:=Qcb V;refine⟨⟨O.fr.put U v,λt dj b u J=>?_⟩,⟨λp hp=>Wg _ hp,λp hp=>We _ hp⟩,λp hp=>We _ hp,λp hp=>Wg _ hp⟩;obtain⟨Y,cc,h2,h3,h4⟩:=O.gd t dj b u J;have L:d≠t:=λe=>by subst e;change gk s.g d=_ at J;rw[W]at J;cases J
 have N:d≠dj:=λe=>X _ _ _ _ J e.symm;refine⟨by rw[Qbo,Qc L];exact Y,cc,by rw[Qbo,Qc N];exact h2,h3,?_⟩;simp only[Act.put];rw[Wk L];exact h4;cases h
def Qcj {d:Nat}{c:List Prop}{q:List (Value×Value)}{v:Value}{N:List (Nat×Value)}(hi:s.inv N)(h:qput s d c q v=some s'):s'.inv N:=by
 unfold qput at h;split at h;injection h with h
 subst h;refine⟨λe L=>?_,λe L=>?_⟩;simp only[Qq,not_or]at L;rw[Qbo,Qc (λh=>L.1 h.symm)];exact hi.out e L.2;simp only[Qq]at L;by_cases J:d=e;left;subst J;rw[Qbo,Qe rfl];rfl;rw[Qbo,Qc J];exact hi.wrn e (L.resolve_left λh=>J h.symm);cases h
def o_bI {tc:Nat}{b u cb:Bool}{x:Operand}(N:s.ok a n ds)(hg:gk s.g tc=none)(W:lk s.l tc=some (.bool cb))(L:cb=b)(h:qside s tc b x=some u):a.eval x=.bool u:=by
 unfold qside at h;split at h;rename_i t;split at h;rename_i dj b' u' O;split at h;rename_i U;subst U;split at h;rename_i Y;subst Y;injection h with h;subst h
 obtain⟨_,c,J,_,X⟩:=N.gd _ _ _ _ O;rw[W]at J;injection J with J;injection J with J
 rw[Qe (J.symm.trans L)]at X;simp[Act.eval,Wa,X];cases h;cases h;cases h;split at h;rename_i U;subst U;injection h with h;subst h;subst L
 exact N.fr.eval (x:=.tmp _) W;split at h;rename_i V;injection h with h;subst h
 exact N.fr.eval (x:=.tmp _) V;cases h;split at h;rename_i V;injection h with h;subst h
 exact N.fr.eval V;cases h
def QDo (P:Program)(K:Kn)(ops:Array Oper)(a:Act)(o:Oper)(v:Value):Prop:=
 (Region.wanted o (yielded ops a.tmps)=true/\∀w,K.ok w->(execOp a.eval o).run P w=.ok (.value v) w)\/(Region.wanted o (yielded ops a.tmps)=false/\v=undef)
def o_bV {d:Nat}{op:Op}{T:TypeId}{pos:String}{af:Array Edge}{gd:Option (Nat×Bool)}(U:d<n)(L:s.ok a n ds)(h:qpk s d op=some s'):
  ∃v,s'.ok (a.put (some d) v) n ds/\QS.le s s'/\∀w,(execOp a.eval ⟨some d,op,T,pos,af,gd⟩).run P w=.ok (.value v) w:=by
 unfold qpk at h;split at h;rename_i tc x y;split at h;rename_i cb O N;split at h;rename_i b1 b2 V W;obtain⟨k1,k2,_,_⟩:=o_bo U L h;refine⟨_,k1,k2,λw=>?_⟩;have J:a.eval (.tmp tc)=.bool cb:=L.fr.eval (x:=.tmp tc) N;cases cb with
 |true=>exact r_pick_t J (o_bI L O N rfl V)
 |false=>exact r_pick_f J (o_bI L O N rfl W)
 cases h;cases h;cases h
def qpk_inv {d:Nat}{op:Op}{J:List (Nat×Value)}(hi:s.inv J)(h:qpk s d op=some s'):s'.inv J:=by
 unfold qpk at h;split at h;split at h;split at h;exact Qcj hi h;cases h;cases h;cases h
def o_bW {d:Nat}{L:Hint}{op:Op}{T:TypeId}{pos:String}{af:Array Edge}{gd:Option (Nat×Bool)}(N:d<n)(J:s.ok a n ds)(h:qno P K s d L op=some s')(O: ∀p,p∈s'.c->p)(hq: ∀p,p∈s'.q->p.1=p.2):
  ∃v,s'.ok (a.put (some d) v) n ds/\QS.le s s'/\∀w,K.ok w->(execOp a.eval ⟨some d,op,T,pos,af,gd⟩).run P w=.ok (.value v) w:=by
 unfold qno at h;split at h;rename_i c q v U;obtain⟨k1,k2,k3,V⟩:=o_bo N J h;exact⟨v,k1,k2,λw W=>o_bZ (evg_none J) W U (λp hp=>O p (k3 p hp)) (λp hp=>hq p (V p hp))⟩;cases h
def qno_inv {d:Nat}{L:Hint}{op:Op}{J:List (Nat×Value)}(hi:s.inv J)(h:qno P K s d L op=some s'):s'.inv J:=by
 unfold qno at h;split at h;exact Qcj hi h;cases h
def bool_ne {c b:Bool}(h:c≠b):c= !b:=by cases c<;>cases b<;>first|rfl|exact absurd rfl h
def o_bX {d dj:Nat}{b c:Bool}{v u:Value}{cs:List Prop}{q:List (Value×Value)}(hd:d<n)(N:s.ok a n ds)(V:d≠dj)(W:gfree s.g d=true)(O:lk s.l d=none)(X:gk s.g dj=none)(Y:lk s.l dj=some (.bool c))(hu:u=if c=b then v else undef):
  QS.ok ⟨s.l,(d,dj,b,v)::s.g,cs,q,d::s.wr⟩ (a.put (some d) u) n ds:=by
 obtain⟨g1,g2⟩:=Qcb W;refine⟨⟨by simp[Act.put,N.fr.size],N.fr.defs,λe x U=>?_⟩,λt dj' b' u' J=>?_⟩;have U:lk s.l e=some x:=U;have hde:d≠e:=λh=>by subst h;rw[O]at U;cases U
 simp only[Act.put];rw[Wk hde];exact N.fr.get e x U;replace J:gk ((d,dj,b,v)::s.g) t=some (dj',b',u'):=J;rw[Qcr]at J;by_cases L:d=t;subst L;rw[Qe rfl]at J;injection J with J;injection J with h1 J;injection J with h2 J
 subst h1;subst h2;subst J;refine⟨O,c,Y,?_,?_⟩;show gk ((d,dj,b,v)::s.g) dj=none;rw[Qcr,Qc V];exact X;simp only[Act.put];rw[hu,Array.getElem?_setIfInBounds_self_of_lt (by rw[N.fr.size];exact hd)];rw[Qc L]at J;obtain⟨h1,cc,h2,h3,h4⟩:=N.gd t dj' b' u' J;refine⟨h1,cc,h2,?_,?_⟩;show gk ((d,dj,b,v)::s.g) dj'=none;rw[Qcr,Qc (λh=>g2 _ _ _ _ J h.symm)];exact h3;simp only[Act.put];rw[Wk L];exact h4
def o_b0 {h:Hint}{o:Oper}(O:s.ok a n ds)(J:q1 P K n ops s h o=some s')(hc: ∀p,p∈s'.c->p)(hq: ∀p,p∈s'.q->p.1=p.2):
  ∃d v,o.dst=some d/\s'.ok (a.put (some d) v) n ds/\QS.le s s'/\QDo P K ops a o v:=by
 obtain⟨dst,op,T,pos,af,gd⟩:=o;unfold q1 at J;split at J;cases J;rename_i d hdst;have hdst:dst=some d:=hdst;subst hdst;split at J;rename_i W;have W:d<n:=Qn W;split at J;rename_i U;have U:gd=none:=U;subst U;split at J;obtain⟨v,k1,k2,k3⟩:=o_bV (P:=P) (T:=T) (pos:=pos) (af:=af) (gd:=none) W O J;exact⟨d,v,rfl,k1,k2,.inl ⟨Qbp,λw _=>k3 w⟩⟩;obtain⟨v,k1,k2,k3⟩:=o_bW (T:=T) (pos:=pos) (af:=af) (gd:=none) W O J hc hq;exact⟨d,v,rfl,k1,k2,.inl ⟨Qbp,k3⟩⟩;rename_i j b U;have U:gd=some (j,b):=U;subst U;split at J;cases J;rename_i dj V;split at J;rename_i c X L;split at J;split at J;rename_i N;obtain⟨k1,k2,_,_⟩:=o_bo W O J;exact⟨d,undef,rfl,k1,k2,.inr ⟨Qbz O.fr V L (.inl (by rw[N])),rfl⟩⟩;cases J;split at J;rename_i N;subst N;obtain⟨v,k1,k2,k3⟩:=o_bV (P:=P) (T:=T) (pos:=pos) (af:=af) (gd:=some (j,c)) W O J;exact⟨d,v,rfl,k1,k2,.inl ⟨Qbw O.fr V L,λw _=>k3 w⟩⟩;cases J;split at J;rename_i N;subst N;obtain⟨v,k1,k2,k3⟩:=o_bW (T:=T) (pos:=pos) (af:=af) (gd:=some (j,c)) W O J hc hq;exact⟨d,v,rfl,k1,k2,.inl ⟨Qbw O.fr V L,k3⟩⟩;cases J;split at J;cases J;rename_i Y;split at J;rename_i hgf;split at J;rename_i hln;split at J;rename_i cs q v hv;injection J with J
 subst J;have hle:QS.le s ⟨s.l,(d,dj,b,v)::s.g,s.c++cs.map (λp=>c=b->p),q++s.q,d::s.wr⟩:=⟨λp hp=>Wg _ hp,λp hp=>We _ hp⟩;by_cases N:c=b;subst N;refine⟨d,v,rfl,o_bX W O Y hgf hln X L (by rw[Qe rfl]),hle,.inl ⟨Qbw O.fr V L,λw hK=>?_⟩⟩;exact o_bZ (evg_some O L) hK hv (λp hp=>hc (c=c->p) (We _ (Xl.2 ⟨p,hp,rfl⟩)) rfl) (λp hp=>hq p (Wg _ hp));exact⟨d,undef,rfl,o_bX W O Y hgf hln X L (by rw[Qc N]),hle,.inr ⟨Qbz O.fr V L (.inl (Wl Value.bool (bool_ne N))),rfl⟩⟩;cases J;cases J;cases J;cases J;rename_i vs X L;split at J;split at J;rename_i hvs;obtain⟨k1,k2,_,_⟩:=o_bo W O J;refine⟨d,undef,rfl,k1,k2,.inr ⟨Qbz O.fr V L (.inr ?_),rfl⟩⟩;have:vs=#[]:=by
  have h1:vs.toList=[]:=List.isEmpty_iff.1 hvs;rw[<-Q0 (xs:=vs),h1]
 rw[this];rfl;cases J;cases J;cases J;cases J
def q1_inv {h:Hint}{o:Oper}{O:List (Nat×Value)}(hi:s.inv O)(J:q1 P K n ops s h o=some s'):s'.inv O:=by
 unfold q1 at J;split at J;cases J;split at J;split at J;split at J;exact qpk_inv hi J;exact qno_inv hi J;split at J;cases J;split at J;split at J;split at J;exact Qcj hi J;cases J;split at J;exact qpk_inv hi J;cases J;split at J;exact qno_inv hi J;cases J;split at J;cases J;split at J;split at J;rename_i N;split at J;injection J with J
 subst J;refine⟨λe L=>hi.out e (λh=>L (Qp _ h)),λe L=>?_⟩;rcases Qq.1 L with rfl|L
 by_cases U:e∈s.wr;exact hi.wrn e U;right;left;rw[<-hi.out e U];exact N;exact hi.wrn e L;cases J;cases J;cases J;cases J;split at J;split at J;exact Qcj hi J;cases J;cases J;cases J;cases J
def q1_le {h:Hint}{o:Oper}(J:q1 P K n ops s h o=some s'):QS.le s s':=by
 have hp: ∀{d:Nat} {c:List Prop} {q:List (Value×Value)} {v:Value},qput s d c q v=some s'->QS.le s s':=λh=>by
  unfold qput at h;split at h;injection h with h;subst h;exact⟨λp hp=>Wg _ hp,λp hp=>We _ hp⟩
  cases h
 have hk: ∀{d:Nat} {op:Op},qpk s d op=some s'->QS.le s s':=λh=>by
  unfold qpk at h;split at h;split at h;split at h;exact hp h;cases h;cases h;cases h
 have L: ∀{d:Nat} {g:Hint} {op:Op},qno P K s d g op=some s'->QS.le s s':=λh=>by
  unfold qno at h;split at h;exact hp h;cases h
 unfold q1 at J;split at J;cases J;split at J;split at J;split at J;exact hk J;exact L J;split at J;cases J;split at J;split at J;split at J;exact hp J;cases J;split at J;exact hk J;cases J;split at J;exact L J;cases J;split at J;cases J;split at J;split at J;split at J;injection J with J;subst J;exact⟨λp hp=>Wg _ hp,λp hp=>We _ hp⟩
 cases J;cases J;cases J;cases J;split at J;split at J;exact hp J;cases J;cases J;cases J;cases J
def qs_le: ∀{L:List Hint} {lst:List Oper} {s:QS},qs P K n ops L lst s=some s'->QS.le s s'
 | [],_,s,h=>by simp only[qs,Qr]at h;subst h;exact QS.le.refl _
 |h::L,[],s,J=>by simp[qs]at J
 |h::L,o::r,s,J=>by
  unfold qs at J;split at J;rename_i O N;exact(q1_le N).trans (qs_le J);cases J
def dqs_le {li':Array Bool}: ∀{is:List (Nat×Hint)} {li:Array Bool} {s:QS},dqs P K n ops is li s=some (li',s')->QS.le s s'
 | [],_,s,h=>by simp only[dqs,Qr,Prod.mk.injEq]at h;rw[h.2];exact QS.le.refl _
 |(i,h)::r,li,s,J=>by
  unfold dqs at J;split at J;split at J;split at J;rename_i N L;exact(q1_le L).trans (dqs_le J);cases J;cases J;cases J
end
def lk_cat (nl l:List (Nat×Value))(d:Nat):lk (cat nl l) d=(lk nl d).or (lk l d):=by
 induction nl with
 |nil=>rfl
 |cons p r J=>
  obtain⟨e,v⟩:=p;show lk ((e,v)::cat r l) d=_;rw[Qbo,Qbo,J];split<;>rfl
def Qdi {l:List (Nat×Value)}{ks:List Nat}{d:Nat}{v:Value}(J:d∈ks)(N:lk l d=some v):lk (kp l ks) d=some v:=by
 induction ks with
 |nil=>cases J
 |cons k r O=>
  unfold kp;by_cases hk:k=d;subst hk;rw[N];exact Qam _ _ _;have L:=O ((Qq.1 J).resolve_left λh=>hk h.symm);split;rw[Qak _ _ hk];exact L;exact L
def qfin_fr {V nl:List (Nat×Value)}{ks:List Nat}{cs:List Prop}{s:QS}{a:Act}{n:Nat}{ds:List Deferred}(L:s.ok a n ds)(hi:s.inv V)(h:qfin V ks s=some (cs,nl)):Fr a n ds (cat nl V)/\s.c=cs:=by
 unfold qfin at h;split at h;rename_i hall;injection h with h;injection h with X Y
 refine⟨⟨L.fr.size,L.fr.defs,λd v J=>?_⟩,X⟩;rw[lk_cat,<-Y]at J;cases hk:lk (kp s.l ks) d with
 |some u=>rw[hk]at J;injection J with J;subst J;exact L.fr.get d _ (lk_kp ks d _ hk)
 |none=>
  rw[hk]at J;have J:lk V d=some v:=J;by_cases W:d∈s.wr;have N:=Wx.1 hall d W;simp only[Bool.or_eq_true,List.contains_iff_mem,Option.isNone_iff_eq_none,J]at N;have U:d∈ks:=by rcases N with N|N;exact N;cases N
  rcases hi.wrn d W with O|O|⟨u,O⟩
  obtain⟨u,hu⟩:=Option.isSome_iff_exists.1 O;rw[Qdi U hu]at hk;cases hk;rw[J]at O;cases O;rw[Qdi U O]at hk;cases hk;exact L.fr.get d v (by rw[hi.out d W];exact J)
 cases h
section
variable {r:Option Nat}{P:Program}{K:Kn}{ops:Array Oper}{Q:Exit->Act->World->Prop}{a:Act}{w:World}{n:Nat}{ds:List Deferred}
def qs_walk: ∀{J:List Hint} {lst:List Oper} {s s':QS} {a:Act},qs P K n ops J lst s=some s'->(∀p,p∈s'.c->p)->(∀p,p∈s'.q->p.1=p.2)->K.ok w->s.ok a n ds->(∀a',s'.ok a' n ds->WL r P ops Q (lst.drop J.length) a' w)->WL r P ops Q lst a w
 | [],_,s,s',a,hq,_,_,_,J,h=>by simp only[qs,Qr]at hq;subst hq;exact h a J
 |g::J,[],s,s',a,hq,_,_,_,_,_=>by simp[qs]at hq
 |g::J,o::lst,s,s',a,hq,U,V,W,N,h=>by
  unfold qs at hq;split at hq;rename_i s1 Y;have L:=qs_le hq;obtain⟨d,v,X,k1,k2,k3⟩:=o_b0 N Y (λp hp=>U p (L.c p hp)) (λp hp=>V p (L.q p hp));have hrest:WL r P ops Q lst (a.put (some d) v) w:=qs_walk hq U V W k1 h;unfold WL wpListIn;rcases k3 with⟨O,hv⟩|⟨O,rfl⟩
  rw[Qe O];refine⟨λ_ _=>trivial,?_⟩;rw[Qei (hv w W) (λ_ h=>by cases h)];show wpListIn _ _ _ _ _ _ (a.put o.dst v) w;rw[X];exact hrest;rw[Qc (by rw[O];decide)];refine⟨λ_ _=>trivial,?_⟩;rw[X];exact hrest;cases hq
def qs_inv {L:List (Nat×Value)}: ∀{J:List Hint} {lst:List Oper} {s s':QS},s.inv L->qs P K n ops J lst s=some s'->s'.inv L
 | [],_,s,s',hi,hq=>by simp only[qs,Qr]at hq;subst hq;exact hi
 |g::J,[],s,s',_,hq=>by simp[qs]at hq
 |g::J,o::lst,s,s',hi,hq=>by
  unfold qs at hq;split at hq;rename_i O N;exact qs_inv (q1_inv hi N) hq;cases hq
def dqs_inv {J:List (Nat×Value)}{li':Array Bool}: ∀{is:List (Nat×Hint)} {li:Array Bool} {s s':QS},s.inv J->dqs P K n ops is li s=some (li',s')->s'.inv J
 | [],_,s,s',hi,hq=>by simp only[dqs,Qr,Prod.mk.injEq]at hq;rw[<-hq.2];exact hi
 |(i,h)::is,li,s,s',hi,hq=>by
  unfold dqs at hq;split at hq;split at hq;split at hq;rename_i N L;exact dqs_inv (q1_inv hi L) hq;cases hq;cases hq;cases hq
variable {l:List (Nat×Value)}
def q0 (l:List (Nat×Value)):QS:=⟨l,[],[],[],[]⟩
def o_b1 (J:Fr a n ds l):(q0 l).ok a n ds:=⟨J,λt dj b v h=>by cases h⟩
def q0_inv (l:List (Nat×Value)):(q0 l).inv l:=⟨λ_ _=>rfl,λd h=>by cases h⟩
def Qcs: ∀{q:List (Value×Value)},q.map Prod.fst=q.map Prod.snd->∀p,p∈q->p.1=p.2
 | [],_,p,hp=>by cases hp
 |x::q,h,p,hp=>by
  simp only[Wc,List.cons.injEq]at h;rcases Qq.1 hp with rfl|hp
  exact h.1;exact Qcs h.2 p hp
def qr {lst:List Oper}(L:List Hint)(ks:List Nat)(cs:List Prop)(nl:List (Nat×Value))(V:K.ok w)(W:Fr a n ds l)
  (h: ∀a',Fr a' n ds (cat nl l)->WL r P ops Q (lst.drop L.length) a' w)
  (X:conj cs:=by first|exact trivial|(simp only[Go.Z.conj,Go.Z.R64];omega)|omega)
  (hq:((qs P K n ops L lst (q0 l)).bind (qfin l ks))=some (cs,nl):=by kernel_rfl)
  (N:(qs P K n ops L lst (q0 l)).map (λs=>s.q.map Prod.fst)=(qs P K n ops L lst (q0 l)).map (λs=>s.q.map Prod.snd):=by kernel_rfl):WL r P ops Q lst a w:=by
 cases J:qs P K n ops L lst (q0 l)with
 |none=>rw[J]at hq;cases hq
 |some s'=>
  rw[J]at hq N;have hq:qfin l ks s'=some (cs,nl):=hq;have N:s'.q.map Prod.fst=s'.q.map Prod.snd:=by injection N
  have O:s'.c=cs:=by unfold qfin at hq;split at hq;(injection hq with hq;injection hq);cases hq
  exact qs_walk J (by rw[O];exact Qdx X) (Qcs N) V (o_b1 W) λa' U=>h a' (qfin_fr U (qs_inv (q0_inv l) J) hq).1
def qreg {id:Nat}{lst:List Oper}(J:List Hint)(ks:List Nat)(cs:List Prop)(nl:List (Nat×Value))(L:K.ok w)(N:Fr a n ds l)
  (h: ∀a',Fr a' n ds (cat nl l)->Q .normal a' w)
  (O:conj cs:=by first|exact trivial|(simp only[Go.Z.conj,Go.Z.R64];omega)|omega)
  (U:lst.drop J.length=[]:=by kernel_rfl)
  (hq:((qs P K n lst.toArray J lst (q0 l)).bind (qfin l ks))=some (cs,nl):=by kernel_rfl)
  (V:(qs P K n lst.toArray J lst (q0 l)).map (λs=>s.q.map Prod.fst)=(qs P K n lst.toArray J lst (q0 l)).map (λs=>s.q.map Prod.snd):=by kernel_rfl):WP r P (Code.region id lst.toArray false) Q a w:=
 reg (qr J ks cs nl L N (λa' hf'=>by rw[U];exact h a' hf') O hq V)
def qseq {id:Nat}{lst:List Oper}{y:Code}(J:List Hint)(ks:List Nat)(cs:List Prop)(nl:List (Nat×Value))(L:K.ok w)(N:Fr a n ds l)
  (h: ∀a',Fr a' n ds (cat nl l)->WP r P y Q a' w)
  (O:conj cs:=by first|exact trivial|(simp only[Go.Z.conj,Go.Z.R64];omega)|omega)
  (U:lst.drop J.length=[]:=by kernel_rfl)
  (hq:((qs P K n lst.toArray J lst (q0 l)).bind (qfin l ks))=some (cs,nl):=by kernel_rfl)
  (V:(qs P K n lst.toArray J lst (q0 l)).map (λs=>s.q.map Prod.fst)=(qs P K n lst.toArray J lst (q0 l)).map (λs=>s.q.map Prod.snd):=by kernel_rfl):WP r P (Code.seq (Code.region id lst.toArray false) y) Q a w:=
 wpIn_seq (qreg J ks cs nl L N h O U hq V)
def qe {lst:List Oper}(J:List Hint)(ks:List Nat)(cs:List Prop)(nl:List (Nat×Value))(L:K.ok w)(N:Fr a n ds l)
  (h: ∀a',Fr a' n ds (cat nl l)->Q .normal a' w)
  (O:conj cs:=by first|exact trivial|(simp only[Go.Z.conj,Go.Z.R64];omega)|omega)
  (U:lst.drop J.length=[]:=by kernel_rfl)
  (hq:((qs P K n ops J lst (q0 l)).bind (qfin l ks))=some (cs,nl):=by kernel_rfl)
  (V:(qs P K n ops J lst (q0 l)).map (λs=>s.q.map Prod.fst)=(qs P K n ops J lst (q0 l)).map (λs=>s.q.map Prod.snd):=by kernel_rfl):WL r P ops Q lst a w:=
 qr J ks cs nl L N (λa' hf'=>by rw[U];exact h a' hf') O hq V
variable {S:World->Prop}
end
end Go.Z
end
section
namespace Go.Proofs.YtpoabedecgeamaaGreat
@[reducible] def T22:Z.Ty:=(Z.Ty.pair (Z.Ty.int .i64) (Z.Ty.int .i64))
abbrev D22:Type:=Int×Int
@[reducible] def T24:Z.Ty:=(Z.Ty.pair (Z.Ty.int .i64) (Z.Ty.pair (Z.Ty.int .i64) (Z.Ty.pair (Z.Ty.int .i64) (Z.Ty.int .i64))))
abbrev D24:Type:=Int×Int×Int×Int
@[reducible] def T25:Z.Ty:=(Z.Ty.pair (Z.Ty.int .i64) (Z.Ty.pair (Z.Ty.int .i64) T24))
abbrev D25:Type:=Int×Int×D24
@[reducible] def T60:Z.Ty:=(Z.Ty.pair (Z.Ty.int .i64) Z.Ty.str)
abbrev D60:Type:=Int×ByteArray
@[reducible] def T96:Z.Ty:=(Z.Ty.pair T22 (Z.Ty.pair T25 (Z.Ty.int .i64)))
abbrev D96:Type:=D22×D25×Int
@[reducible] def T62:Z.Ty:=(Z.Ty.pair (Z.Ty.int .i64) (Z.Ty.pair (Z.Ty.int .i64) Z.Ty.str))
abbrev D62:Type:=Int×Int×ByteArray
@[reducible] def T115:Z.Ty:=(Z.Ty.pair (Z.Ty.int .i64) (Z.Ty.pair (Z.Ty.int .i64) (Z.Ty.pair (Z.Ty.slice (Z.Ty.int .i64)) (Z.Ty.pair T62 (Z.Ty.pair Z.Ty.str (Z.Ty.pair (Z.Ty.int .i64) (Z.Ty.int .i64)))))))
abbrev D115:Type:=Int×Int×(List Int)×D62×ByteArray×Int×Int
@[reducible] def T64:Z.Ty:=(Z.Ty.pair (Z.Ty.int .i64) (Z.Ty.pair (Z.Ty.int .i64) (Z.Ty.pair (Z.Ty.int .i64) (Z.Ty.pair (Z.Ty.int .i64) T62))))
abbrev D64:Type:=Int×Int×Int×Int×D62
@[reducible] def T32:Z.Ty:=(Z.Ty.pair (Z.Ty.slice (Z.Ty.int .i64)) (Z.Ty.pair (Z.Ty.slice T115) (Z.Ty.slice T64)))
abbrev D32:Type:=(List Int)×(List D115)×(List D64)
@[reducible] def T57:Z.Ty:=(Z.Ty.pair (Z.Ty.int .i64) (Z.Ty.pair (Z.Ty.int .i64) (Z.Ty.pair Z.Ty.str (Z.Ty.int .i64))))
abbrev D57:Type:=Int×Int×ByteArray×Int
@[reducible] def T36:Z.Ty:=(Z.Ty.pair (Z.Ty.int .i64) (Z.Ty.pair (Z.Ty.int .i64) (Z.Ty.pair T22 (Z.Ty.pair T25 (Z.Ty.pair (Z.Ty.slice T60) (Z.Ty.pair (Z.Ty.slice T96) (Z.Ty.pair T32 (Z.Ty.pair (Z.Ty.int .i64) (Z.Ty.pair (Z.Ty.slice T57) (Z.Ty.pair Z.Ty.bool (Z.Ty.int .i64)))))))))))
abbrev D36:Type:=Int×Int×D22×D25×(List D60)×(List D96)×D32×Int×(List D57)×Bool×Int
abbrev D72:Type:=(List UInt8)×Int
abbrev D104:Type:=(List D115)
abbrev D119:Type:=(List UInt8)
abbrev D169:Type:=Bool×(List UInt8)×Int
abbrev CF (n:Nat):Prop:=∀(args:Array Value) (w:World),(callFunc n args).run Tryz.prog w=.ok (.enter n args) w
def cf4:CF 4:=λ_ _=>by kernel_rfl
def cf5:CF 5:=λ_ _=>by kernel_rfl
def cf6:CF 6:=λ_ _=>by kernel_rfl
def cf7:CF 7:=λ_ _=>by kernel_rfl
def cf8:CF 8:=λ_ _=>by kernel_rfl
def cf9:CF 9:=λ_ _=>by kernel_rfl
def cf10:CF 10:=λ_ _=>by kernel_rfl
def cf11:CF 11:=λ_ _=>by kernel_rfl
def cf12:CF 12:=λ_ _=>by kernel_rfl
def cf13:CF 13:=λ_ _=>by kernel_rfl
def cf14:CF 14:=λ_ _=>by kernel_rfl
def cf15:CF 15:=λ_ _=>by kernel_rfl
def cf16:CF 16:=λ_ _=>by kernel_rfl
def cf17:CF 17:=λ_ _=>by kernel_rfl
def cf18:CF 18:=λ_ _=>by kernel_rfl
def cf19:CF 19:=λ_ _=>by kernel_rfl
def cf20:CF 20:=λ_ _=>by kernel_rfl
def cf21:CF 21:=λ_ _=>by kernel_rfl
def cf22:CF 22:=λ_ _=>by kernel_rfl
def cf23:CF 23:=λ_ _=>by kernel_rfl
def cf24:CF 24:=λ_ _=>by kernel_rfl
def cf25:CF 25:=λ_ _=>by kernel_rfl
def cf26:CF 26:=λ_ _=>by kernel_rfl
def cf27:CF 27:=λ_ _=>by kernel_rfl
def cf28:CF 28:=λ_ _=>by kernel_rfl
def cf29:CF 29:=λ_ _=>by kernel_rfl
def cf30:CF 30:=λ_ _=>by kernel_rfl
def cf31:CF 31:=λ_ _=>by kernel_rfl
def cf32:CF 32:=λ_ _=>by kernel_rfl
def cf33:CF 33:=λ_ _=>by kernel_rfl
def cf34:CF 34:=λ_ _=>by kernel_rfl
def cf35:CF 35:=λ_ _=>by kernel_rfl
def cf36:CF 36:=λ_ _=>by kernel_rfl
def cf37:CF 37:=λ_ _=>by kernel_rfl
def cf38:CF 38:=λ_ _=>by kernel_rfl
def cf39:CF 39:=λ_ _=>by kernel_rfl
def cf40:CF 40:=λ_ _=>by kernel_rfl
def cf41:CF 41:=λ_ _=>by kernel_rfl
def cf42:CF 42:=λ_ _=>by kernel_rfl
def cf43:CF 43:=λ_ _=>by kernel_rfl
def cf44:CF 44:=λ_ _=>by kernel_rfl
def cf45:CF 45:=λ_ _=>by kernel_rfl
def cf46:CF 46:=λ_ _=>by kernel_rfl
def cf47:CF 47:=λ_ _=>by kernel_rfl
def cf48:CF 48:=λ_ _=>by kernel_rfl
def cf49:CF 49:=λ_ _=>by kernel_rfl
def cf50:CF 50:=λ_ _=>by kernel_rfl
def cf51:CF 51:=λ_ _=>by kernel_rfl
def cf52:CF 52:=λ_ _=>by kernel_rfl
def cf53:CF 53:=λ_ _=>by kernel_rfl
def cf54:CF 54:=λ_ _=>by kernel_rfl
def cf55:CF 55:=λ_ _=>by kernel_rfl
def cf56:CF 56:=λ_ _=>by kernel_rfl
def cf57:CF 57:=λ_ _=>by kernel_rfl
def cf58:CF 58:=λ_ _=>by kernel_rfl
def cf59:CF 59:=λ_ _=>by kernel_rfl
def cf60:CF 60:=λ_ _=>by kernel_rfl
def cf61:CF 61:=λ_ _=>by kernel_rfl
def cf62:CF 62:=λ_ _=>by kernel_rfl
def cf63:CF 63:=λ_ _=>by kernel_rfl
def cf64:CF 64:=λ_ _=>by kernel_rfl
def cf65:CF 65:=λ_ _=>by kernel_rfl
def cf66:CF 66:=λ_ _=>by kernel_rfl
def cf67:CF 67:=λ_ _=>by kernel_rfl
def cf68:CF 68:=λ_ _=>by kernel_rfl
def cf69:CF 69:=λ_ _=>by kernel_rfl
def cf70:CF 70:=λ_ _=>by kernel_rfl
def cf71:CF 71:=λ_ _=>by kernel_rfl
def cf72:CF 72:=λ_ _=>by kernel_rfl
def cf73:CF 73:=λ_ _=>by kernel_rfl
def cf74:CF 74:=λ_ _=>by kernel_rfl
def cf75:CF 75:=λ_ _=>by kernel_rfl
def cf76:CF 76:=λ_ _=>by kernel_rfl
def cf77:CF 77:=λ_ _=>by kernel_rfl
def cf78:CF 78:=λ_ _=>by kernel_rfl
def cf79:CF 79:=λ_ _=>by kernel_rfl
def cf80:CF 80:=λ_ _=>by kernel_rfl
def cf81:CF 81:=λ_ _=>by kernel_rfl
def cf82:CF 82:=λ_ _=>by kernel_rfl
def cf83:CF 83:=λ_ _=>by kernel_rfl
def cf84:CF 84:=λ_ _=>by kernel_rfl
def cf85:CF 85:=λ_ _=>by kernel_rfl
def cf86:CF 86:=λ_ _=>by kernel_rfl
def cf87:CF 87:=λ_ _=>by kernel_rfl
def cf88:CF 88:=λ_ _=>by kernel_rfl
def cf89:CF 89:=λ_ _=>by kernel_rfl
def cf90:CF 90:=λ_ _=>by kernel_rfl
def cf91:CF 91:=λ_ _=>by kernel_rfl
def cf92:CF 92:=λ_ _=>by kernel_rfl
def cf93:CF 93:=λ_ _=>by kernel_rfl
def cf94:CF 94:=λ_ _=>by kernel_rfl
def cf95:CF 95:=λ_ _=>by kernel_rfl
def cf96:CF 96:=λ_ _=>by kernel_rfl
def cf97:CF 97:=λ_ _=>by kernel_rfl
def cf98:CF 98:=λ_ _=>by kernel_rfl
def cf99:CF 99:=λ_ _=>by kernel_rfl
def cf100:CF 100:=λ_ _=>by kernel_rfl
def cf101:CF 101:=λ_ _=>by kernel_rfl
def cf102:CF 102:=λ_ _=>by kernel_rfl
def cf103:CF 103:=λ_ _=>by kernel_rfl
def cf104:CF 104:=λ_ _=>by kernel_rfl
def cf105:CF 105:=λ_ _=>by kernel_rfl
def cf106:CF 106:=λ_ _=>by kernel_rfl
def cf107:CF 107:=λ_ _=>by kernel_rfl
def cf108:CF 108:=λ_ _=>by kernel_rfl
def cf109:CF 109:=λ_ _=>by kernel_rfl
def cf110:CF 110:=λ_ _=>by kernel_rfl
def cf111:CF 111:=λ_ _=>by kernel_rfl
def cf112:CF 112:=λ_ _=>by kernel_rfl
def cf113:CF 113:=λ_ _=>by kernel_rfl
def cf114:CF 114:=λ_ _=>by kernel_rfl
def cf115:CF 115:=λ_ _=>by kernel_rfl
def cf116:CF 116:=λ_ _=>by kernel_rfl
def cf117:CF 117:=λ_ _=>by kernel_rfl
def cf118:CF 118:=λ_ _=>by kernel_rfl
def cf119:CF 119:=λ_ _=>by kernel_rfl
def cf120:CF 120:=λ_ _=>by kernel_rfl
def cf121:CF 121:=λ_ _=>by kernel_rfl
def cf123:CF 123:=λ_ _=>by kernel_rfl
def cf124:CF 124:=λ_ _=>by kernel_rfl
def cf125:CF 125:=λ_ _=>by kernel_rfl
def cf126:CF 126:=λ_ _=>by kernel_rfl
def cf127:CF 127:=λ_ _=>by kernel_rfl
def Qay:Tryz.prog.follows .mixedOrders=true:=by kernel_rfl
def nz122: ∀(args:Array Value) (w:World),(callFunc 122 args).run Tryz.prog w=((Extern.BytealgMakeNoZero.makeNoZero #[3] #[38] args).run Tryz.prog w).andThen λv w'=>.ok (.value v) w':=λargs w=>run_callFunc_extern Tryz.func122 (by kernel_rfl) (by kernel_rfl) (by kernel_rfl) (e:=Extern.BytealgMakeNoZero.makeNoZero #[3] #[38]) (by kernel_rfl) args w
def inf2:Tryz.prog.info? 2=some Tryz.t2/\Tryz.t2.zero=some (.int .i64 0)/\Tryz.t2.size=1/\Tryz.t2.bytes=8/\Array.size (Value.cells (.int .i64 0))=1:=⟨by kernel_rfl,rfl,rfl,rfl,rfl⟩
def inf3:Tryz.prog.info? 3=some Tryz.t3/\Tryz.t3.zero=some (.int .i64 0)/\Tryz.t3.size=1/\Tryz.t3.bytes=8/\Array.size (Value.cells (.int .i64 0))=1:=⟨by kernel_rfl,rfl,rfl,rfl,rfl⟩
def inf5:Tryz.prog.info? 5=some Tryz.t5/\Tryz.t5.zero=some (.int .u8 0)/\Tryz.t5.size=1/\Tryz.t5.bytes=1/\Array.size (Value.cells (.int .u8 0))=1:=⟨by kernel_rfl,rfl,rfl,rfl,rfl⟩
def inf5.sz:(Tryz.prog.info? 5).map (·.size)=some 1:=by rw[inf5.1];rfl
def inf58:Tryz.prog.info? 58=some Tryz.t58/\Tryz.t58.zero=some (.agg #[.int .i64 0,.int .i64 0,.string (ByteArray.mk #[]),.int .i64 0])/\Tryz.t58.size=4/\Tryz.t58.bytes=40/\Array.size (Value.cells (.agg #[.int .i64 0,.int .i64 0,.string (ByteArray.mk #[]),.int .i64 0]))=4:=⟨by kernel_rfl,rfl,rfl,rfl,rfl⟩
def inf61:Tryz.prog.info? 61=some Tryz.t61/\Tryz.t61.zero=some (.agg #[.int .i64 0,.string (ByteArray.mk #[])])/\Tryz.t61.size=2/\Tryz.t61.bytes=24/\Array.size (Value.cells (.agg #[.int .i64 0,.string (ByteArray.mk #[])]))=2:=⟨by kernel_rfl,rfl,rfl,rfl,rfl⟩
def inf65:Tryz.prog.info? 65=some Tryz.t65/\Tryz.t65.zero=some (.agg #[.int .i64 0,.int .i64 0,.int .i64 0,.int .i64 0,.int .i64 0,.int .i64 0,.string (ByteArray.mk #[])])/\Tryz.t65.size=7/\Tryz.t65.bytes=64/\Array.size (Value.cells (.agg #[.int .i64 0,.int .i64 0,.int .i64 0,.int .i64 0,.int .i64 0,.int .i64 0,.string (ByteArray.mk #[])]))=7:=⟨by kernel_rfl,rfl,rfl,rfl,rfl⟩
def inf97:Tryz.prog.info? 97=some Tryz.t97/\Tryz.t97.zero=some (.agg #[.int .i64 0,.int .i64 0,.int .i64 0,.int .i64 0,.int .i64 0,.int .i64 0,.int .i64 0,.int .i64 0,.int .i64 0])/\Tryz.t97.size=9/\Tryz.t97.bytes=72/\Array.size (Value.cells (.agg #[.int .i64 0,.int .i64 0,.int .i64 0,.int .i64 0,.int .i64 0,.int .i64 0,.int .i64 0,.int .i64 0,.int .i64 0]))=9:=⟨by kernel_rfl,rfl,rfl,rfl,rfl⟩
def inf116:Tryz.prog.info? 116=some Tryz.t116/\Tryz.t116.zero=some (.agg #[.int .i64 0,.int .i64 0,.slice none 0 0,.int .i64 0,.int .i64 0,.string (ByteArray.mk #[]),.string (ByteArray.mk #[]),.int .i64 0,.int .i64 0])/\Tryz.t116.size=9/\Tryz.t116.bytes=104/\Array.size (Value.cells (.agg #[.int .i64 0,.int .i64 0,.slice none 0 0,.int .i64 0,.int .i64 0,.string (ByteArray.mk #[]),.string (ByteArray.mk #[]),.int .i64 0,.int .i64 0]))=9:=⟨by kernel_rfl,rfl,rfl,rfl,rfl⟩
end Go.Proofs.YtpoabedecgeamaaGreat
end
section
namespace Go.Z
open Go.RowKit
def Ch.putObj (w:World)(r:Nat)(o:Obj):Ch [r] w (w.putObj r o):=
 ⟨rfl,rfl,rfl,by simp,λk _ J=>World.putObj_heap_other (by simpa using J)⟩
section
variable {P:Program}{Q:Exit->Act->World->Prop}{a:Act}{w:World}{n:Nat}{ds:List Deferred}{l:List (Nat×Value)}
section
variable {r:Option Nat}
end
section
variable {d:Option Tmp}{T:TypeId}{pos:String}{af:Array Edge}{gd:Option (Nat×Bool)}{t ty:TypeId}{x:Operand}{fn:Fn}{f c:Array Value}{p q:Array TypeId}{va:Bool}
end
def res0 {fn:Func}(h:fn.results=#[])(w:World):(results fn a.tmps).run P w=.ok (.tuple #[]) w:=results_none h _ _ _
end
section
variable {r:Option Nat}{P:Program}{ops:Array Oper}{Q:Exit->Act->World->Prop}{a:Act}{w:World}{rest:List Oper}{n:Nat}{ds:List Deferred}{l:List (Nat×Value)}
end
structure Ky (P:Program) (kt:TypeId) {κ:Type} [DecidableEq κ] (enc:κ->Value):Prop where
 check: ∀b k w,(Instr.checkKey b 10000 kt (enc k)).run P w=.ok () w
 eq: ∀a b w,(Op.equal kt (enc a) (enc b)).run P w=.ok (decide (a=b)) w
 now: ∃d,P.underlying kt=some d/\((∀a b,Instr.sameNow d (enc a) (enc b)=some (decide (a=b)))\/(∀a b,Instr.sameNow d (enc a) (enc b)=none))
 bits: ∀a,Instr.sameBits 10000 (enc a) (enc a)=true
section
variable {κ:Type}[DecidableEq κ]{α:Type}
end
section
variable {P:Program}{kt:TypeId}{κ:Type}[DecidableEq κ]{enc:κ->Value}
end
def MapC (w:World)(b:Nat)(es:List (Value×Value)):Prop:=
 ∃(arr:List MapEntry) (clock:Nat),w.heap[b]?=some (.map arr.toArray clock)/\arr.map (λe=>(e.key,e.val))=es/\(∀e,e∈arr->e.born<clock)/\(arr.map (·.born)).Nodup
def MapC.lt {w:World}{b:Nat}{es:List (Value×Value)}(h:MapC w b es):b<w.heap.size:=by obtain⟨_,_,h,_⟩:=h;exact(Qw.1 h).1
def MapC.ch {w w':World}{b:Nat}{es:List (Value×Value)}{S:List Nat}(h:MapC w b es)(J:Ch S w w')(L:b∉S):MapC w' b es:=by
 have N:=h.lt;obtain⟨arr,c,O,U⟩:=h;exact⟨arr,c,(J.block b N L).trans O,U⟩
def vof (agg:Bool)(cs:List Value):Value:=bif agg then .agg cs.toArray else cs.headD undef
def Mt {κ:Type}(enc:κ->Value)(t:Ty)(agg:Bool)(w:World)(F:Nat->Prop)(b:Nat)(m:List (κ×t.den)):Prop:=
 ∃es,MapC w b es/\es.length=m.length/\∀(i:Nat) (p:κ×t.den),m[i]?=some p->∃cs,es[i]?=some (enc p.1,vof agg cs)/\t.rep w F cs p.2
section
variable {κ:Type}{enc:κ->Value}{t:Ty}{agg:Bool}{w w':World}{F F':Nat->Prop}{b:Nat}{m:List (κ×t.den)}
def Mt.lt (h:Mt enc t agg w F b m):b<w.heap.size:=by obtain⟨_,h,_⟩:=h;exact h.lt
def Mt.to {S:List Nat}(h:Mt enc t agg w F b m)(J:Ch S w w')(L:b∉S)(N: ∀b,F b->b<w.heap.size->b∉S/\F' b):Mt enc t agg w' F' b m:=by
 obtain⟨es,O,U,V⟩:=h;refine⟨es,O.ch J L,U,λi p hp=>?_⟩;obtain⟨cs,W,X⟩:=V i p hp;exact⟨cs,W,rep_to X J N⟩
end
section
variable {r:Option Nat}{P:Program}{ops:Array Oper}{Q:Exit->Act->World->Prop}{a:Act}{w:World}{rest:List Oper}{n:Nat}{ds:List Deferred}{l:List (Nat×Value)}{d:Nat}{T:TypeId}{pos:String}{af:Array Edge}
variable {κ:Type}{enc:κ->Value}{tt:TypeId}{t:Ty}{agg:Bool}{F:Nat->Prop}{m:List (κ×t.den)}
end
section
variable {r:Option Nat}{P:Program}{ops:Array Oper}{Q:Exit->Act->World->Prop}{a:Act}{w:World}{rest:List Oper}{n:Nat}{ds:List Deferred}{l:List (Nat×Value)}{d:Nat}{T:TypeId}{pos:String}{af:Array Edge}
variable {κ:Type}[DecidableEq κ]{enc:κ->Value}{kt et tt:TypeId}{t:Ty}{agg:Bool}{F:Nat->Prop}{b:Nat}{m:List (κ×t.den)}
def MapC.set {arr:List MapEntry}{clock:Nat}{b:Nat}{w:World}(J:w.heap[b]?=some (.map arr.toArray clock))(o:Obj):(setObj b o).run P w=.ok () (w.putObj b o):=by
 have L:=(Qw.1 J).1;simp[setObj,Sem.run,World.putObj,J]
end
section
variable {P:Program}{kt:TypeId}
end
def Rg (w:World)(r b n:Nat)(seen:List Nat):Prop:=
 r≠b/\∃(arr:List MapEntry) (clock since:Nat) (sb:List Nat),w.heap[b]?=some (.map arr.toArray clock)/\arr.length=n/\w.heap[r]?=some (.mapIter (some b) since sb.toArray since)/\since=clock/\
  (∀e,e∈arr->e.born<since)/\(arr.map (·.born)).Nodup/\∀i e,arr[i]?=some e->(e.born∈sb↔i∈seen)
def Rg.ch {w w':World}{r b n:Nat}{seen:List Nat}{S:List Nat}(h:Rg w r b n seen)(J:Ch S w w')(O:r∉S)(U:b∉S):Rg w' r b n seen:=by
 obtain⟨V,arr,clock,since,sb,L,W,N,X⟩:=h;exact⟨V,arr,clock,since,sb,(J.block _ (Qw.1 L).1 U).trans L,W,(J.block _ (Qw.1 N).1 O).trans N,X⟩
section
variable {r:Option Nat}{P:Program}{ops:Array Oper}{Q:Exit->Act->World->Prop}{a:Act}{w:World}{rest:List Oper}{n:Nat}{ds:List Deferred}{l:List (Nat×Value)}{d:Nat}{T:TypeId}{pos:String}{af:Array Edge}
def Si (w:World)(g:Nat)(s:ByteArray)(p:Nat):Prop:=w.heap[g]?=some (.stringIter s p)
def Si.lt {w:World}{g p:Nat}{s:ByteArray}(h:Si w g s p):g<w.heap.size:=(Qw.1 h).1
def Si.ch {w w':World}{g p:Nat}{s:ByteArray}{S:List Nat}(h:Si w g s p)(J:Ch S w w')(L:g∉S):Si w' g s p:=(J.block g h.lt L).trans h
def bat (s:ByteArray)(i:Nat):UInt8:=s.data.getD i 0
end
section
variable {r:Option Nat}{P:Program}{ops:Array Oper}{Q:Exit->Act->World->Prop}{a:Act}{w:World}{rest:List Oper}{n:Nat}{ds:List Deferred}{l:List (Nat×Value)}{d:Nat}{T:TypeId}{pos:String}{af:Array Edge}
variable {κ:Type}[DecidableEq κ]{enc:κ->Value}{kt et tt:TypeId}{t:Ty}{agg:Bool}{F:Nat->Prop}{b:Nat}{m:List (κ×t.den)}
end
section
variable {r:Option Nat}{P:Program}{ops:Array Oper}{Q:Exit->Act->World->Prop}{a:Act}{w:World}{rest:List Oper}{n:Nat}{ds:List Deferred}{l:List (Nat×Value)}{d:Nat}{T:TypeId}{pos:String}{af:Array Edge}
end
section
variable {P:Program}{a:Act}{w:World}{n:Nat}{ds:List Deferred}{l:List (Nat×Value)}
def RV (P:Program)(tm:Array Value)(w:World):ResultVar->Value->Prop
 | .tmp t,v=>tm.getD t undef=v
 | .cell p ty,v=>∃ad,tm.getD p undef=.pointer (some ad)/\(loadVar ty ad).run P w=.ok v w
def rv_t {t:Nat}{v:Value}(J:Fr a n ds l)(L:lk l t=some v):RV P a.tmps w (.tmp t) v:=J.eval (x:=.tmp t) L
def rv_1 {p g:Nat}{ty bt:TypeId}{u:Value}(J:Fr a n ds l)(hp:lk l p=some (.pointer (some ⟨g,0,none⟩)))(L: ∀w,(isAgg ty).run P w=.ok false w)(N:Blk w g bt [u]):RV P a.tmps w (.cell p ty) u:=by
 have O:w.cell? ⟨g,0,none⟩=some u:=N.cell 0;exact⟨_,J.eval (x:=.tmp p) hp,by simp[loadVar,L,O]⟩
def rv_n {p g m:Nat}{ty bt:TypeId}{cs:List Value}(J:Fr a n ds l)(hp:lk l p=some (.pointer (some ⟨g,0,none⟩)))(L: ∀w,(isAgg ty).run P w=.ok true w)(N: ∀w,(sizeOf ty).run P w=.ok m w)(O:Blk w g bt cs)(U:cs.length=m):RV P a.tmps w (.cell p ty) (.agg cs.toArray):=by
 subst U;refine⟨_,J.eval (x:=.tmp p) hp,?_⟩;have:=run_loadCells_list (P:=P) w ⟨g,0,none⟩ cs λj u V=>by rw[Addr.add_lit,O.cell];simpa using V
 simp[loadVar,L,N,this]
def resv1 {fn:Func}{J:ResultVar}{N:Value}(h:fn.results=#[J])(L:RV P a.tmps w J N):(results fn a.tmps).run P w=.ok N w:=by
 cases J<;>simp only[RV,Wa]at L;simp[results,h,L];obtain⟨ad,O,U⟩:=L;simp[results,h,O,asAddr,U]
def resv2 {fn:Func}{U V:ResultVar}{W X:Value}(h:fn.results=#[U,V])(J:RV P a.tmps w U W)(L:RV P a.tmps w V X):(results fn a.tmps).run P w=.ok (.tuple #[W,X]) w:=by
 cases U<;>cases V<;>simp only[RV,Wa]at J L;simp[results,h,J,L];obtain⟨ad,N,O⟩:=L;simp[results,h,J,N,asAddr,O];obtain⟨ad,N,O⟩:=J;simp[results,h,L,N,asAddr,O];obtain⟨ad,N,O⟩:=J;obtain⟨ae,Y,h6⟩:=L;simp[results,h,N,Y,asAddr,O,h6]
def retv {fn:Func}{R:Ending->World->Prop}{v:Value}(J:Fr a n [] l)(h:(results fn a.tmps).run P w=.ok v w)(L:R (.returned v) w):bodyPost P fn R .ret a w:=bodyPost_ret h J.defs L
def endv {fn:Func}{R:Ending->World->Prop}{v:Value}(J:Fr a n [] l)(h:(results fn a.tmps).run P w=.ok v w)(L:R (.returned v) w):bodyPost P fn R .normal a w:=bodyPost_end h J.defs L
end
end Go.Z
end
section
namespace Go.Proofs.YtpoabedecgeamaaGreat
def eqin23 {x y:D22}(d:Nat):Z.EqV Tryz.prog (d+2) 23 (.agg #[.int .i64 x.1,.int .i64 x.2]) (.agg #[.int .i64 y.1,.int .i64 y.2]) (decide (x=y)):=by
 have h:Z.EqV Tryz.prog (d+2) 23 (.agg #[.int .i64 x.1,.int .i64 x.2]) (.agg #[.int .i64 y.1,.int .i64 y.2]) (decide (x.1=y.1)&&(decide (x.2=y.2)&&true)):=Z.eq_struct Tryz.underlying23 (by kernel_rfl) (Z.eqf_cons rfl (λw=>Z.part_one w Tryz.isAgg3 rfl) (λw=>Z.part_one w Tryz.isAgg3 rfl) (Z.eq_int (d:=d+0) Tryz.underlying3) (Z.eqf_cons rfl (λw=>Z.part_one w Tryz.isAgg3 rfl) (λw=>Z.part_one w Tryz.isAgg3 rfl) (Z.eq_int (d:=d+0) Tryz.underlying3) Z.eqf_nil));have e:decide (x=y)=(decide (x.1=y.1)&&(decide (x.2=y.2)&&true)):=by simp only[Z.decide_pair,Wv]
 rw[e];exact h
def eqagg_neq23 {x y:D22}{a:Act}{w:World}{dd:Option Tmp}{T ty:TypeId}{pos:String}{af:Array Edge}{gd:Option (Nat×Bool)}{X Y:Operand}(J:a.eval X=.agg #[.int .i64 x.1,.int .i64 x.2])(L:a.eval Y=.agg #[.int .i64 y.1,.int .i64 y.2]):(execOp a.eval ⟨dd,.binOp .neq 23 X Y ty,T,pos,af,gd⟩).run Tryz.prog w=.ok (.value (.bool (decide (x≠y)))) w:=Z.r_neagg (eqin23 9998) (by kernel_rfl) J L
def eqin24 {x y:D24}(d:Nat):Z.EqV Tryz.prog (d+2) 24 (.agg #[.int .i64 x.1,.int .i64 x.2.1,.int .i64 x.2.2.1,.int .i64 x.2.2.2]) (.agg #[.int .i64 y.1,.int .i64 y.2.1,.int .i64 y.2.2.1,.int .i64 y.2.2.2]) (decide (x=y)):=by
 have h:Z.EqV Tryz.prog (d+2) 24 (.agg #[.int .i64 x.1,.int .i64 x.2.1,.int .i64 x.2.2.1,.int .i64 x.2.2.2]) (.agg #[.int .i64 y.1,.int .i64 y.2.1,.int .i64 y.2.2.1,.int .i64 y.2.2.2]) (decide (x.1=y.1)&&(decide (x.2.1=y.2.1)&&(decide (x.2.2.1=y.2.2.1)&&(decide (x.2.2.2=y.2.2.2)&&true)))):=Z.eq_array (is:=[0,1,2,3]) (c:=1) Tryz.underlying24 inf2.1 (by kernel_rfl) rfl (Z.eqi_cons (λw=>Z.part_one w Tryz.isAgg2 rfl) (λw=>Z.part_one w Tryz.isAgg2 rfl) (Z.eq_int (d:=d+0) Tryz.underlying2) (Z.eqi_cons (λw=>Z.part_one w Tryz.isAgg2 rfl) (λw=>Z.part_one w Tryz.isAgg2 rfl) (Z.eq_int (d:=d+0) Tryz.underlying2) (Z.eqi_cons (λw=>Z.part_one w Tryz.isAgg2 rfl) (λw=>Z.part_one w Tryz.isAgg2 rfl) (Z.eq_int (d:=d+0) Tryz.underlying2) (Z.eqi_cons (λw=>Z.part_one w Tryz.isAgg2 rfl) (λw=>Z.part_one w Tryz.isAgg2 rfl) (Z.eq_int (d:=d+0) Tryz.underlying2) Z.eqi_nil))));have e:decide (x=y)=(decide (x.1=y.1)&&(decide (x.2.1=y.2.1)&&(decide (x.2.2.1=y.2.2.1)&&(decide (x.2.2.2=y.2.2.2)&&true)))):=by simp only[Z.decide_pair,Wv]
 rw[e];exact h
def eqin26 {x y:D25}(d:Nat):Z.EqV Tryz.prog (d+3) 26 (.agg #[.int .i64 x.1,.int .i64 x.2.1,.int .i64 x.2.2.1,.int .i64 x.2.2.2.1,.int .i64 x.2.2.2.2.1,.int .i64 x.2.2.2.2.2]) (.agg #[.int .i64 y.1,.int .i64 y.2.1,.int .i64 y.2.2.1,.int .i64 y.2.2.2.1,.int .i64 y.2.2.2.2.1,.int .i64 y.2.2.2.2.2]) (decide (x=y)):=by
 have h:Z.EqV Tryz.prog (d+3) 26 (.agg #[.int .i64 x.1,.int .i64 x.2.1,.int .i64 x.2.2.1,.int .i64 x.2.2.2.1,.int .i64 x.2.2.2.2.1,.int .i64 x.2.2.2.2.2]) (.agg #[.int .i64 y.1,.int .i64 y.2.1,.int .i64 y.2.2.1,.int .i64 y.2.2.2.1,.int .i64 y.2.2.2.2.1,.int .i64 y.2.2.2.2.2]) (decide (x.1=y.1)&&(decide (x.2.1=y.2.1)&&(decide (x.2.2=y.2.2)&&true))):=Z.eq_struct Tryz.underlying26 (by kernel_rfl) (Z.eqf_cons rfl (λw=>Z.part_one w Tryz.isAgg2 rfl) (λw=>Z.part_one w Tryz.isAgg2 rfl) (Z.eq_int (d:=d+1) Tryz.underlying2) (Z.eqf_cons rfl (λw=>Z.part_one w Tryz.isAgg3 rfl) (λw=>Z.part_one w Tryz.isAgg3 rfl) (Z.eq_int (d:=d+1) Tryz.underlying3) (Z.eqf_cons rfl (λw=>Z.part_agg w Tryz.isAgg24 Tryz.sizeOf24 rfl) (λw=>Z.part_agg w Tryz.isAgg24 Tryz.sizeOf24 rfl) (eqin24 (x:=x.2.2) (y:=y.2.2) d) Z.eqf_nil)));have e:decide (x=y)=(decide (x.1=y.1)&&(decide (x.2.1=y.2.1)&&(decide (x.2.2=y.2.2)&&true))):=by simp only[Z.decide_pair,Wv]
 rw[e];exact h
def eqagg_neq26 {x y:D25}{a:Act}{w:World}{dd:Option Tmp}{T ty:TypeId}{pos:String}{af:Array Edge}{gd:Option (Nat×Bool)}{X Y:Operand}(J:a.eval X=.agg #[.int .i64 x.1,.int .i64 x.2.1,.int .i64 x.2.2.1,.int .i64 x.2.2.2.1,.int .i64 x.2.2.2.2.1,.int .i64 x.2.2.2.2.2])(L:a.eval Y=.agg #[.int .i64 y.1,.int .i64 y.2.1,.int .i64 y.2.2.1,.int .i64 y.2.2.2.1,.int .i64 y.2.2.2.2.1,.int .i64 y.2.2.2.2.2]):(execOp a.eval ⟨dd,.binOp .neq 26 X Y ty,T,pos,af,gd⟩).run Tryz.prog w=.ok (.value (.bool (decide (x≠y)))) w:=Z.r_neagg (eqin26 9997) (by kernel_rfl) J L
def eqin58 {x y:D57}(d:Nat):Z.EqV Tryz.prog (d+2) 58 (.agg #[.int .i64 x.1,.int .i64 x.2.1,.string x.2.2.1,.int .i64 x.2.2.2]) (.agg #[.int .i64 y.1,.int .i64 y.2.1,.string y.2.2.1,.int .i64 y.2.2.2]) (decide (x=y)):=by
 have h:Z.EqV Tryz.prog (d+2) 58 (.agg #[.int .i64 x.1,.int .i64 x.2.1,.string x.2.2.1,.int .i64 x.2.2.2]) (.agg #[.int .i64 y.1,.int .i64 y.2.1,.string y.2.2.1,.int .i64 y.2.2.2]) (decide (x.1=y.1)&&(decide (x.2.1=y.2.1)&&(decide (x.2.2.1=y.2.2.1)&&(decide (x.2.2.2=y.2.2.2)&&true)))):=Z.eq_struct Tryz.underlying58 (by kernel_rfl) (Z.eqf_cons rfl (λw=>Z.part_one w Tryz.isAgg3 rfl) (λw=>Z.part_one w Tryz.isAgg3 rfl) (Z.eq_int (d:=d+0) Tryz.underlying3) (Z.eqf_cons rfl (λw=>Z.part_one w Tryz.isAgg2 rfl) (λw=>Z.part_one w Tryz.isAgg2 rfl) (Z.eq_int (d:=d+0) Tryz.underlying2) (Z.eqf_cons rfl (λw=>Z.part_one w Tryz.isAgg9 rfl) (λw=>Z.part_one w Tryz.isAgg9 rfl) (Z.eq_str (d:=d+0) Tryz.underlying9) (Z.eqf_cons rfl (λw=>Z.part_one w Tryz.isAgg2 rfl) (λw=>Z.part_one w Tryz.isAgg2 rfl) (Z.eq_int (d:=d+0) Tryz.underlying2) Z.eqf_nil))));have e:decide (x=y)=(decide (x.1=y.1)&&(decide (x.2.1=y.2.1)&&(decide (x.2.2.1=y.2.2.1)&&(decide (x.2.2.2=y.2.2.2)&&true)))):=by simp only[Z.decide_pair,Wv]
 rw[e];exact h
def eqagg_neq58 {x y:D57}{a:Act}{w:World}{dd:Option Tmp}{T ty:TypeId}{pos:String}{af:Array Edge}{gd:Option (Nat×Bool)}{X Y:Operand}(J:a.eval X=.agg #[.int .i64 x.1,.int .i64 x.2.1,.string x.2.2.1,.int .i64 x.2.2.2])(L:a.eval Y=.agg #[.int .i64 y.1,.int .i64 y.2.1,.string y.2.2.1,.int .i64 y.2.2.2]):(execOp a.eval ⟨dd,.binOp .neq 58 X Y ty,T,pos,af,gd⟩).run Tryz.prog w=.ok (.value (.bool (decide (x≠y)))) w:=Z.r_neagg (eqin58 9998) (by kernel_rfl) J L
def eqin61 {x y:D60}(d:Nat):Z.EqV Tryz.prog (d+2) 61 (.agg #[.int .i64 x.1,.string x.2]) (.agg #[.int .i64 y.1,.string y.2]) (decide (x=y)):=by
 have h:Z.EqV Tryz.prog (d+2) 61 (.agg #[.int .i64 x.1,.string x.2]) (.agg #[.int .i64 y.1,.string y.2]) (decide (x.1=y.1)&&(decide (x.2=y.2)&&true)):=Z.eq_struct Tryz.underlying61 (by kernel_rfl) (Z.eqf_cons rfl (λw=>Z.part_one w Tryz.isAgg2 rfl) (λw=>Z.part_one w Tryz.isAgg2 rfl) (Z.eq_int (d:=d+0) Tryz.underlying2) (Z.eqf_cons rfl (λw=>Z.part_one w Tryz.isAgg9 rfl) (λw=>Z.part_one w Tryz.isAgg9 rfl) (Z.eq_str (d:=d+0) Tryz.underlying9) Z.eqf_nil));have e:decide (x=y)=(decide (x.1=y.1)&&(decide (x.2=y.2)&&true)):=by simp only[Z.decide_pair,Wv]
 rw[e];exact h
def eqagg_neq61 {x y:D60}{a:Act}{w:World}{dd:Option Tmp}{T ty:TypeId}{pos:String}{af:Array Edge}{gd:Option (Nat×Bool)}{X Y:Operand}(J:a.eval X=.agg #[.int .i64 x.1,.string x.2])(L:a.eval Y=.agg #[.int .i64 y.1,.string y.2]):(execOp a.eval ⟨dd,.binOp .neq 61 X Y ty,T,pos,af,gd⟩).run Tryz.prog w=.ok (.value (.bool (decide (x≠y)))) w:=Z.r_neagg (eqin61 9998) (by kernel_rfl) J L
def eqin63 {x y:D62}(d:Nat):Z.EqV Tryz.prog (d+2) 63 (.agg #[.int .i64 x.1,.int .i64 x.2.1,.string x.2.2]) (.agg #[.int .i64 y.1,.int .i64 y.2.1,.string y.2.2]) (decide (x=y)):=by
 have h:Z.EqV Tryz.prog (d+2) 63 (.agg #[.int .i64 x.1,.int .i64 x.2.1,.string x.2.2]) (.agg #[.int .i64 y.1,.int .i64 y.2.1,.string y.2.2]) (decide (x.1=y.1)&&(decide (x.2.1=y.2.1)&&(decide (x.2.2=y.2.2)&&true))):=Z.eq_struct Tryz.underlying63 (by kernel_rfl) (Z.eqf_cons rfl (λw=>Z.part_one w Tryz.isAgg3 rfl) (λw=>Z.part_one w Tryz.isAgg3 rfl) (Z.eq_int (d:=d+0) Tryz.underlying3) (Z.eqf_cons rfl (λw=>Z.part_one w Tryz.isAgg2 rfl) (λw=>Z.part_one w Tryz.isAgg2 rfl) (Z.eq_int (d:=d+0) Tryz.underlying2) (Z.eqf_cons rfl (λw=>Z.part_one w Tryz.isAgg9 rfl) (λw=>Z.part_one w Tryz.isAgg9 rfl) (Z.eq_str (d:=d+0) Tryz.underlying9) Z.eqf_nil)));have e:decide (x=y)=(decide (x.1=y.1)&&(decide (x.2.1=y.2.1)&&(decide (x.2.2=y.2.2)&&true))):=by simp only[Z.decide_pair,Wv]
 rw[e];exact h
def eqagg_neq63 {x y:D62}{a:Act}{w:World}{dd:Option Tmp}{T ty:TypeId}{pos:String}{af:Array Edge}{gd:Option (Nat×Bool)}{X Y:Operand}(J:a.eval X=.agg #[.int .i64 x.1,.int .i64 x.2.1,.string x.2.2])(L:a.eval Y=.agg #[.int .i64 y.1,.int .i64 y.2.1,.string y.2.2]):(execOp a.eval ⟨dd,.binOp .neq 63 X Y ty,T,pos,af,gd⟩).run Tryz.prog w=.ok (.value (.bool (decide (x≠y)))) w:=Z.r_neagg (eqin63 9998) (by kernel_rfl) J L
def eqin65 {x y:D64}(d:Nat):Z.EqV Tryz.prog (d+3) 65 (.agg #[.int .i64 x.1,.int .i64 x.2.1,.int .i64 x.2.2.1,.int .i64 x.2.2.2.1,.int .i64 x.2.2.2.2.1,.int .i64 x.2.2.2.2.2.1,.string x.2.2.2.2.2.2]) (.agg #[.int .i64 y.1,.int .i64 y.2.1,.int .i64 y.2.2.1,.int .i64 y.2.2.2.1,.int .i64 y.2.2.2.2.1,.int .i64 y.2.2.2.2.2.1,.string y.2.2.2.2.2.2]) (decide (x=y)):=by
 have h:Z.EqV Tryz.prog (d+3) 65 (.agg #[.int .i64 x.1,.int .i64 x.2.1,.int .i64 x.2.2.1,.int .i64 x.2.2.2.1,.int .i64 x.2.2.2.2.1,.int .i64 x.2.2.2.2.2.1,.string x.2.2.2.2.2.2]) (.agg #[.int .i64 y.1,.int .i64 y.2.1,.int .i64 y.2.2.1,.int .i64 y.2.2.2.1,.int .i64 y.2.2.2.2.1,.int .i64 y.2.2.2.2.2.1,.string y.2.2.2.2.2.2]) (decide (x.1=y.1)&&(decide (x.2.1=y.2.1)&&(decide (x.2.2.1=y.2.2.1)&&(decide (x.2.2.2.1=y.2.2.2.1)&&(decide (x.2.2.2.2=y.2.2.2.2)&&true))))):=Z.eq_struct Tryz.underlying65 (by kernel_rfl) (Z.eqf_cons rfl (λw=>Z.part_one w Tryz.isAgg3 rfl) (λw=>Z.part_one w Tryz.isAgg3 rfl) (Z.eq_int (d:=d+1) Tryz.underlying3) (Z.eqf_cons rfl (λw=>Z.part_one w Tryz.isAgg3 rfl) (λw=>Z.part_one w Tryz.isAgg3 rfl) (Z.eq_int (d:=d+1) Tryz.underlying3) (Z.eqf_cons rfl (λw=>Z.part_one w Tryz.isAgg3 rfl) (λw=>Z.part_one w Tryz.isAgg3 rfl) (Z.eq_int (d:=d+1) Tryz.underlying3) (Z.eqf_cons rfl (λw=>Z.part_one w Tryz.isAgg2 rfl) (λw=>Z.part_one w Tryz.isAgg2 rfl) (Z.eq_int (d:=d+1) Tryz.underlying2) (Z.eqf_cons rfl (λw=>Z.part_agg w Tryz.isAgg63 Tryz.sizeOf63 rfl) (λw=>Z.part_agg w Tryz.isAgg63 Tryz.sizeOf63 rfl) (eqin63 (x:=x.2.2.2.2) (y:=y.2.2.2.2) d) Z.eqf_nil)))));have e:decide (x=y)=(decide (x.1=y.1)&&(decide (x.2.1=y.2.1)&&(decide (x.2.2.1=y.2.2.1)&&(decide (x.2.2.2.1=y.2.2.2.1)&&(decide (x.2.2.2.2=y.2.2.2.2)&&true))))):=by simp only[Z.decide_pair,Wv]
 rw[e];exact h
def eqagg_neq65 {x y:D64}{a:Act}{w:World}{dd:Option Tmp}{T ty:TypeId}{pos:String}{af:Array Edge}{gd:Option (Nat×Bool)}{X Y:Operand}(J:a.eval X=.agg #[.int .i64 x.1,.int .i64 x.2.1,.int .i64 x.2.2.1,.int .i64 x.2.2.2.1,.int .i64 x.2.2.2.2.1,.int .i64 x.2.2.2.2.2.1,.string x.2.2.2.2.2.2])(L:a.eval Y=.agg #[.int .i64 y.1,.int .i64 y.2.1,.int .i64 y.2.2.1,.int .i64 y.2.2.2.1,.int .i64 y.2.2.2.2.1,.int .i64 y.2.2.2.2.2.1,.string y.2.2.2.2.2.2]):(execOp a.eval ⟨dd,.binOp .neq 65 X Y ty,T,pos,af,gd⟩).run Tryz.prog w=.ok (.value (.bool (decide (x≠y)))) w:=Z.r_neagg (eqin65 9997) (by kernel_rfl) J L
def eqin97 {x y:D96}(d:Nat):Z.EqV Tryz.prog (d+4) 97 (.agg #[.int .i64 x.1.1,.int .i64 x.1.2,.int .i64 x.2.1.1,.int .i64 x.2.1.2.1,.int .i64 x.2.1.2.2.1,.int .i64 x.2.1.2.2.2.1,.int .i64 x.2.1.2.2.2.2.1,.int .i64 x.2.1.2.2.2.2.2,.int .i64 x.2.2]) (.agg #[.int .i64 y.1.1,.int .i64 y.1.2,.int .i64 y.2.1.1,.int .i64 y.2.1.2.1,.int .i64 y.2.1.2.2.1,.int .i64 y.2.1.2.2.2.1,.int .i64 y.2.1.2.2.2.2.1,.int .i64 y.2.1.2.2.2.2.2,.int .i64 y.2.2]) (decide (x=y)):=by
 have h:Z.EqV Tryz.prog (d+4) 97 (.agg #[.int .i64 x.1.1,.int .i64 x.1.2,.int .i64 x.2.1.1,.int .i64 x.2.1.2.1,.int .i64 x.2.1.2.2.1,.int .i64 x.2.1.2.2.2.1,.int .i64 x.2.1.2.2.2.2.1,.int .i64 x.2.1.2.2.2.2.2,.int .i64 x.2.2]) (.agg #[.int .i64 y.1.1,.int .i64 y.1.2,.int .i64 y.2.1.1,.int .i64 y.2.1.2.1,.int .i64 y.2.1.2.2.1,.int .i64 y.2.1.2.2.2.1,.int .i64 y.2.1.2.2.2.2.1,.int .i64 y.2.1.2.2.2.2.2,.int .i64 y.2.2]) (decide (x.1=y.1)&&(decide (x.2.1=y.2.1)&&(decide (x.2.2=y.2.2)&&true))):=Z.eq_struct Tryz.underlying97 (by kernel_rfl) (Z.eqf_cons rfl (λw=>Z.part_agg w Tryz.isAgg23 Tryz.sizeOf23 rfl) (λw=>Z.part_agg w Tryz.isAgg23 Tryz.sizeOf23 rfl) (eqin23 (x:=x.1) (y:=y.1) (d+1)) (Z.eqf_cons rfl (λw=>Z.part_agg w Tryz.isAgg26 Tryz.sizeOf26 rfl) (λw=>Z.part_agg w Tryz.isAgg26 Tryz.sizeOf26 rfl) (eqin26 (x:=x.2.1) (y:=y.2.1) d) (Z.eqf_cons rfl (λw=>Z.part_one w Tryz.isAgg2 rfl) (λw=>Z.part_one w Tryz.isAgg2 rfl) (Z.eq_int (d:=d+2) Tryz.underlying2) Z.eqf_nil)));have e:decide (x=y)=(decide (x.1=y.1)&&(decide (x.2.1=y.2.1)&&(decide (x.2.2=y.2.2)&&true))):=by simp only[Z.decide_pair,Wv]
 rw[e];exact h
def eqagg_neq97 {x y:D96}{a:Act}{w:World}{dd:Option Tmp}{T ty:TypeId}{pos:String}{af:Array Edge}{gd:Option (Nat×Bool)}{X Y:Operand}(J:a.eval X=.agg #[.int .i64 x.1.1,.int .i64 x.1.2,.int .i64 x.2.1.1,.int .i64 x.2.1.2.1,.int .i64 x.2.1.2.2.1,.int .i64 x.2.1.2.2.2.1,.int .i64 x.2.1.2.2.2.2.1,.int .i64 x.2.1.2.2.2.2.2,.int .i64 x.2.2])(L:a.eval Y=.agg #[.int .i64 y.1.1,.int .i64 y.1.2,.int .i64 y.2.1.1,.int .i64 y.2.1.2.1,.int .i64 y.2.1.2.2.1,.int .i64 y.2.1.2.2.2.1,.int .i64 y.2.1.2.2.2.2.1,.int .i64 y.2.1.2.2.2.2.2,.int .i64 y.2.2]):(execOp a.eval ⟨dd,.binOp .neq 97 X Y ty,T,pos,af,gd⟩).run Tryz.prog w=.ok (.value (.bool (decide (x≠y)))) w:=Z.r_neagg (eqin97 9996) (by kernel_rfl) J L
end Go.Proofs.YtpoabedecgeamaaGreat
end
section
namespace Go.A
open Go.RowKit Go.Z
def Row (t:Ty)(w:World)(F G:Nat->Prop)(A:Option Addr)(c:Nat)(xs:List t.den):Prop:=
 xs.length<=c/\c<=maxLen/\∃cells:List Value,cells.length=xs.length*t.size/\
  (xs.length=0\/∃b o,A=some ⟨b,o,none⟩/\G b/\∀j u,cells[j]?=some u->w.cell? ⟨b,o+j,none⟩=some u)/\
  ∀(i:Nat) (x:t.den),xs[i]?=some x->t.rep w F ((cells.drop (i*t.size)).take t.size) x
section
variable {t:Ty}{w w':World}{F F' G G':Nat->Prop}{A:Option Addr}{c:Nat}{xs:List t.den}
def Row.of (h:(Ty.slice t).rep w F [.slice A xs.length c] xs):Row t w F F A c xs:=by
 obtain⟨A',c',cells,J,L,N,O,U,h6⟩:=h;injection J with J;injection J with V X W
 subst V;subst W;exact⟨L,N,cells,O,U,h6⟩
def Row.rep (h:Row t w F F A c xs):(Ty.slice t).rep w F [.slice A xs.length c] xs:=by
 obtain⟨J,L,cells,N,O,h6⟩:=h;exact⟨A,c,cells,rfl,J,L,N,O,h6⟩
def Row.to {S:List Nat}(h:Row t w F G A c xs)(N:Ch S w w')(V: ∀b,F b->b<w.heap.size->b∉S/\F' b)(W: ∀b,G b->b<w.heap.size->b∉S/\G' b):Row t w' F' G' A c xs:=by
 obtain⟨X,Y,cells,O,L,h6⟩:=h;refine⟨X,Y,cells,O,?_,λi x hi=>rep_to (h6 i x hi) N V⟩;by_cases U:xs.length=0;exact .inl U;rcases L with L|⟨b,o,hA,hb,hcell⟩
 exact absurd L U;have h0:0<cells.length:=by rw[O];exact Nat.mul_pos (by omega) (Qat t)
 have J:=World.block_lt_of_cell? w _ (hcell 0 _ (Qf h0));obtain⟨h7,h8⟩:=W b hb J;exact .inr ⟨b,o,hA,h8,λj u hu=>by rw[N.cell (p:=⟨b,o+j,none⟩) J h7];exact hcell j u hu⟩
def Row.own {e:TypeId}{B:Nat}(h:Own t e B w F A c xs)(Y: ∀k,k∈obl A->G k):Row t w F G A c xs:=by
 obtain⟨cells,V,h1,W⟩:=h;have X:cells.length=xs.length*t.size:=V.1;rcases V.2 with⟨L,hn⟩|⟨g,cap,cur,L,hb,hg,N,O,hcs,htake⟩
 injection L with hA' _ U
 subst hA';subst U;exact⟨by omega,by simp[maxLen],cells,X,.inl hn,W⟩;injection L with hA' _ U
 subst hA';subst U;refine⟨N,O,cells,X,.inr ⟨g,0,rfl,Y g (by simp[obl]),λj u J=>?_⟩,W⟩;rw[Nat.zero_add,cell_of_row w g j cur e (0,0) hg];rw[<-htake,List.getElem?_take]at J;split at J;simpa using J;cases J
def Row.at (h:Row t w F G A c xs){k:Nat}{x:t.den}(hk:xs[k]?=some x):
  ∃b o es,A=some ⟨b,o,none⟩/\G b/\b<w.heap.size/\Cells w ⟨b,o+k*t.size,none⟩ es/\t.rep w F es x:=by
 obtain⟨Y,h3,cells,U,O,h6⟩:=h;have J:=(Qd.1 hk).1;rcases O with O|⟨b,o,rfl,V,hcell⟩
 omega;have W:=Qat t;have L:k*t.size<cells.length:=by rw[U];exact Nat.mul_lt_mul_of_pos_right J W
 refine⟨b,o,_,rfl,V,World.block_lt_of_cell? w ⟨b,o+k*t.size,none⟩ (hcell (k*t.size) _ (Qf L)),λj u N=>?_,h6 k _ hk⟩;rw[Addr.add_lit];have X:j<t.size:=by
  have:=(Qd.1 N).1;simp only[Qj]at this;omega
 rw[Qu X,Qv]at N;rw[Wn];exact hcell _ _ N
def Row.ok (h:Row t w F G A c xs): ∀x,x∈xs->t.ok x:=λx J=>by
 obtain⟨i,hi,rfl⟩:=Ww J;obtain⟨_,_,es,_,_,_,_,L⟩:=h.at (Qf hi);exact rep_ok t L
end
def Lst (w:World)(g b:Nat)(k v:Value):Prop:=
 ∃(since clock bo:Nat) (sb:Array Nat) (arr:List MapEntry) (e:MapEntry),w.heap[g]?=some (.mapIter (some b) since (sb.push bo) clock)/\w.heap[b]?=some (.map arr.toArray clock)/\arr.find? (λx=>x.born==bo)=some e/\e.key=k/\e.val=v
def Lst.ch {w w':World}{g b:Nat}{k v:Value}{S:List Nat}(h:Lst w g b k v)(J:Ch S w w')(O:g∉S)(U:b∉S):Lst w' g b k v:=by
 obtain⟨since,clock,bo,sb,arr,e,L,N,V⟩:=h;exact⟨since,clock,bo,sb,arr,e,(J.block _ (Qw.1 L).1 O).trans L,(J.block _ (Qw.1 N).1 U).trans N,V⟩
def Lst.run {P:Program}{w:World}{g b:Nat}{k v:Value}(h:Lst w g b k v):(Instr.entry (.pointer (some ⟨g,0,none⟩))).run P w=.ok (.tuple #[k,v]) w:=by
 obtain⟨since,clock,bo,sb,arr,e,J,L,N,rfl,rfl⟩:=h;have O:(getObj g).run P w=.ok (.mapIter (some b) since (sb.push bo) clock) w:=by rw[getObj,Sem.run];simp only[J];rfl
 have U:(getObj b).run P w=.ok (.map arr.toArray clock) w:=by rw[getObj,Sem.run];simp only[L];rfl
 simp only[Instr.entry,Sem.run_bind,O,Result.andThen_ok,Array.back?_push,U,bne_self_eq_false,Wz,Xs,List.find?_toArray,N,Sem.run_pure]
def lv:Ty->Nat
 | .slice _=>1
 | .pair a b=>lv a+lv b
 |_=>0
abbrev Lf:=List (Option Addr×Nat)
def cl:(t:Ty)->t.den->Lf->List Value
 | .int k,x,_=>[.int k x]
 | .byte,x,_=>[.int .u8 (x.toNat:Int)]
 | .bool,x,_=>[.bool x]
 | .str,x,_=>[.string x]
 | .slice _,xs,p::_=>[.slice p.1 xs.length p.2]
 | .slice _,_,[]=>[]
 | .pair a b,x,ps=>cl a x.1 (ps.take (lv a))++cl b x.2 (ps.drop (lv a))
def rbl (As:List (Option Addr×Nat)):List Nat:=As.flatMap λa=>obl a.1
def Mr {κ:Type}(enc:κ->Value)(t:Ty)(e:TypeId)(w:World)(F:Nat->Prop)(b:Nat)(As:List (Option Addr×Nat))(m:List (κ×List t.den)):Prop:=
 ∃es,MapC w b es/\es.length=m.length/\As.length=m.length/\(b::rbl As).Nodup/\(∀x,x∈rbl As->x<w.heap.size)/\
  ∀(i:Nat) (p:κ×List t.den) (a:Option Addr×Nat),m[i]?=some p->As[i]?=some a->es[i]?=some (enc p.1,.slice a.1 p.2.length a.2)/\Own t e 0 w F a.1 a.2 p.2
def mem_rbl {As:List (Option Addr×Nat)}{i:Nat}{a:Option Addr×Nat}(h:As[i]?=some a){k:Nat}(hk:k∈obl a.1):k∈rbl As:=List.mem_flatMap.2 ⟨a,Qi h,hk⟩
def Mr.to {κ:Type}{enc:κ->Value}{t:Ty}{e:TypeId}{w w':World}{F F':Nat->Prop}{b:Nat}{As:List (Option Addr×Nat)}{m:List (κ×List t.den)}{S:List Nat}(h:Mr enc t e w F b As m)(J:Ch S w w')(L: ∀x,x∈b::rbl As->x∉S)(O: ∀b,F b->b<w.heap.size->b∉S/\F' b):Mr enc t e w' F' b As m:=by
 obtain⟨es,U,V,W,X,Y,h6⟩:=h;refine⟨es,U.ch J (L b (Qx ..)),V,W,X,λx hx=>Q3 (Y x hx) J.size,λi p a hp N=>?_⟩;obtain⟨h7,h8⟩:=h6 i p a hp N;exact⟨h7,Own.to h8 J (λk hk _ _=>L k (Qp _ (mem_rbl N hk))) O⟩
inductive Res:Type 1 where
 |dead
 |sh (t:Ty) (cs:List Value) (x:t.den)
 |ln (t:Ty) (A:Option Addr) (c:Nat) (xs:List t.den)
 |el (k:Option Nat) (b o:Nat) (cs:List Value)
 |own (t:Ty) (e:TypeId) (A:Option Addr) (c:Nat) (xs:List t.den)
 |blk (g:Nat) (e:TypeId) (cs:List Value)
 |mp (κ:Type) (enc:κ->Value) (t:Ty) (agg:Bool) (b:Nat) (m:List (κ×t.den))
 |mit (k g b n:Nat) (seen:List Nat) (last:Option (Value×Value))
 |si (g:Nat) (s:ByteArray) (p:Nat)
 |ob (g:Nat) (p:Obj->Prop)
 |lmp (κ:Type) (enc:κ->Value) (t:Ty) (agg:Bool) (b:Nat) (m:List (κ×t.den))
 |mr (κ:Type) (enc:κ->Value) (t:Ty) (e:TypeId) (b:Nat) (As:List (Option Addr×Nat)) (m:List (κ×List t.den))
 |gn (bs:List Nat) (p:World->(Nat->Prop)->Prop) (hp: ∀{w w':World} {F F':Nat->Prop} {S:List Nat},p w F->Ch S w w'->(∀b,b∈bs->b∉S)->(∀b,F b->b<w.heap.size->b∉S/\F' b)->p w' F')
def rs:(t:Ty)->t.den->Lf->List Res
 | .slice t,xs,p::_=>[.sh (.slice t) [.slice p.1 xs.length p.2] xs]
 | .pair a b,x,ps=>rs a x.1 (ps.take (lv a))++rs b x.2 (ps.drop (lv a))
 |_,_,_=>[]
def tele:Nat->(Lf->Prop)->Prop
 |0,K=>K []
 |n+1,K=>∀A c,tele n λps=>K ((A,c)::ps)
def Qcm: ∀{n:Nat} {K:Lf->Prop},tele n K->∀ps:Lf,ps.length=n->K ps
 |0,_,h,[],_=>h
 |n+1,_,h,(A,c)::ps,J=>Qcm (h A c) ps (by simpa using J)
def Res.bl:Res->List Nat
 | .own _ _ A _ _=>obl A
 | .blk g _ _=>[g]
 | .mp _ _ _ _ b _=>[b]
 | .mit _ g _ _ _ _=>[g]
 | .si g _ _=>[g]
 | .ob g _=>[g]
 | .mr _ _ _ _ b As _=>b::rbl As
 | .gn bs _ _=>bs
 |_=>[]
def Res.ref:Res->Option Nat
 | .el k _ _ _=>k
 | .mit k _ _ _ _ _=>some k
 |_=>none
def Res.holds (w:World)(F:Nat->Prop)(B:Nat->Nat->Prop):Res->Prop
 | .dead=>True
 | .sh t cs x=>t.rep w F cs x
 | .ln t A c xs=>Row t w F (λb=>∀k,¬B k b) A c xs
 | .el k b o cs=>Cells w ⟨b,o,none⟩ cs/\b<w.heap.size/\match k with
  |none=>∀k,¬B k b
  |some k=>B k b
 | .own t e A c xs=>Own t e 0 w F A c xs
 | .blk g e cs=>Blk w g e cs
 | .mp _ enc t agg b m=>Mt enc t agg w F b m
 | .mit k g b n seen last=>Rg w g b n seen/\B k b/\∀kv,last=some kv->Lst w g b kv.1 kv.2
 | .si g s p=>Si w g s p
 | .ob g p=>∃o,w.heap[g]?=some o/\p o
 | .lmp _ enc t agg b m=>Mt enc t agg w F b m/\∀k,¬B k b
 | .mr _ enc t e b As m=>Mr enc t e w F b As m
 | .gn _ p _=>p w F
def Res.to {r:Res}{w w':World}{F F':Nat->Prop}{B B':Nat->Nat->Prop}{S:List Nat}(h:r.holds w F B)(J:Ch S w w')(U: ∀b,F b->b<w.heap.size->b∉S/\F' b)
  (V: ∀b,(∀k,¬B k b)->b<w.heap.size->b∉S/\∀k,¬B' k b) (W: ∀k b,r.ref=some k->B k b->b∉S/\B' k b) (L: ∀b,b∈r.bl->b∉S):r.holds w' F' B':=by
 cases r with
 |dead=>trivial
 |sh t cs x=>exact rep_to h J U
 |ln t A c xs=>exact Row.to h J U V
 |el k b o cs=>
  obtain⟨N,O,X⟩:=h;cases k with
  |none=>exact⟨N.ch J λ_=>(V b X O).1,Q3 O J.size,(V b X O).2⟩
  |some k=>exact⟨N.ch J λ_=>(W k b rfl X).1,Q3 O J.size,(W k b rfl X).2⟩
 |own t e A c xs=>exact Own.to h J (λk hk _ _=>L k hk) U
 |blk g e cs=>exact Blk.ch h J (L g (by simp[Res.bl]))
 |mp κ enc t agg b m=>exact Mt.to h J (L b (by simp[Res.bl])) U
 |mit k g b n seen last=>exact⟨h.1.ch J (L g (by simp[Res.bl])) (W k b rfl h.2.1).1,(W k b rfl h.2.1).2,λkv Y=>(h.2.2 kv Y).ch J (L g (by simp[Res.bl])) (W k b rfl h.2.1).1⟩
 |si g s p=>exact h.ch J (L g (by simp[Res.bl]))
 |ob g p=>
  obtain⟨o,N,O⟩:=h;exact⟨o,(J.block g (Qw.1 N).1 (L g (by simp[Res.bl]))).trans N,O⟩
 |lmp κ enc t agg b m=>
  obtain⟨N,O⟩:=h;exact⟨Mt.to N J (V b O N.lt).1 U,(V b O N.lt).2⟩
 |mr κ enc t e b As m=>exact Mr.to h J L U
 |gn bs p hp=>exact hp h J L U
def rep_cl {w:World}{F:Nat->Prop}{B:Nat->Nat->Prop}: ∀(t:Ty) {cs:List Value} {x:t.den},t.rep w F cs x->∃ps:Lf,ps.length=lv t/\cs=cl t x ps/\∀r∈rs t x ps,r.holds w F B/\r.bl=[]/\r.ref=none
 | .int _,cs,x,h=>⟨[],rfl,h.1,by simp[rs]⟩
 | .byte,cs,x,h=>⟨[],rfl,h,by simp[rs]⟩
 | .bool,cs,x,h=>⟨[],rfl,h,by simp[rs]⟩
 | .str,cs,x,h=>⟨[],rfl,h.1,by simp[rs]⟩
 | .slice e,cs,x,h=>by
  have N:=h;obtain⟨A,c,cells,L,_⟩:=h;refine⟨[(A,c)],rfl,L,λr J=>?_⟩;simp only[rs,Qz]at J;subst J;exact⟨by rw[L]at N;exact N,rfl,rfl⟩
 | .pair a b,cs,x,h=>by
  obtain⟨ca,cb,L,O,U⟩:=h;obtain⟨pa,a1,a2,a3⟩:=rep_cl (B:=B) a O;obtain⟨pb,b1,b2,b3⟩:=rep_cl (B:=B) b U;refine⟨pa++pb,by rw[Qb,a1,b1];rfl,?_,λr J=>?_⟩;simp only[cl,<-a1,List.take_left,List.drop_left];rw[L,a2,b2];simp only[rs,<-a1,List.take_left,List.drop_left,Wb]at J;exact J.elim (a3 r) (b3 r)
def hk:List (Nat×Res)->Nat->Option Res
 | [],_=>none
 |(e,v)::r,d=>bif Nat.beq e d then some v else hk r d
def Qaa (d e:Nat)(v:Res)(H:List (Nat×Res)):hk ((d,v)::H) e=if d=e then some v else hk H e:=by
 unfold hk;by_cases h:d=e;subst h;simp;have:Nat.beq d e=false:=by cases J:Nat.beq d e with
  |false=>rfl
  |true=>exact absurd (Q2 J) h
 simp only[this,cond_false,Qc h];cases H<;>rfl
def drp (k:Nat):List (Nat×Res)->List (Nat×Res)
 | []=>[]
 |(e,v)::r=>(e,match v.ref with
  |none=>v
  |some j=>bif Nat.beq j k then .dead else v)::drp k r
def Qbs (k:Nat): ∀(H:List (Nat×Res)) (e:Nat) (v:Res),hk (drp k H) e=some v->v=.dead\/(hk H e=some v/\v.ref≠some k)
 | [],e,v,h=>by cases h
 |(d,u)::r,e,v,h=>by
  unfold drp at h;rw[Qaa]at h;rw[Qaa];split at h;rename_i J;injection h with h
  cases L:u.ref with
  |none=>rw[L]at h;subst h;exact .inr ⟨by rw[Qe J],by rw[L];simp⟩
  |some j=>
   rw[L]at h;simp only[]at h;cases O:Nat.beq j k with
   |true=>rw[O]at h;exact .inl h.symm
   |false=>
    rw[O]at h;subst h;refine .inr ⟨by rw[Qe J];rfl,λN=>?_⟩;rw[show(bif false then Res.dead else u)=u from rfl,L]at N;injection N with N
    subst N;simp at O
  rename_i J;rw[Qc J];exact Qbs k r e v h
def Bk (H:List (Nat×Res))(k b:Nat):Prop:=∃r,hk H k=some r/\b∈r.bl
structure Cx where
 n:Nat
 ds:List Deferred
 w0:World
 S:List Nat
 F:Nat->Prop
def Fh (C:Cx)(H:List (Nat×Res))(b:Nat):Prop:=(∀k,¬Bk H k b)/\(C.F b\/C.w0.heap.size<=b\/b∈C.S)
structure Hp (C:Cx) (H:List (Nat×Res)) (w:World):Prop where
 ch:Ch C.S C.w0 w
 hold: ∀k r,hk H k=some r->r.holds w (Fh C H) (Bk H)
 bnd: ∀k b,Bk H k b->(C.w0.heap.size<=b\/b∈C.S)/\b<w.heap.size
 dis: ∀k k' b,Bk H k b->Bk H k' b->k=k'
 ref: ∀k r j,hk H k=some r->r.ref=some j->j≠k/\∀r',hk H j=some r'->r'.ref=none
section
variable {C:Cx}{H:List (Nat×Res)}{w w':World}{k:Nat}{r':Res}{S:List Nat}
def Hp.upd (h:Hp C H w)(hc:Ch S w w')(hS: ∀b,b∈S->Bk H k b)(U: ∀b,b∈r'.bl->Bk H k b\/(w.heap.size<=b/\b<w'.heap.size))(hrf: ∀j,r'.ref=some j->j≠k/\∀r,hk H j=some r->r.ref=none)
  (hr: ∀(F:Nat->Prop) (B:Nat->Nat->Prop),(∀b,Fh C H b->b<w.heap.size->F b)->(∀b,(∃r,hk H k=some r/\b∈r.bl)->b∉r'.bl->F b)->(∀b,(∀k,¬Bk H k b)->b<w.heap.size->∀k,¬B k b)->(∀j b,r'.ref=some j->Bk H j b->B j b)->(∀b,b∈r'.bl->B k b)->r'.holds w' F B)
  :Hp C ((k,r')::drp k H) w':=by
 have V: ∀j b,j≠k->Bk ((k,r')::drp k H) j b->Bk H j b:=λj b L ⟨r,O,N⟩=>by
  rw[Qaa,Qc (Ne.symm L)]at O;rcases Qbs k H j r O with rfl|⟨h3,_⟩
  cases N;exact⟨r,h3,N⟩
 have drp_keep: ∀(H:List (Nat×Res)) (j:Nat) (r:Res),hk H j=some r->r.ref≠some k->hk (drp k H) j=some r:=by
  intro H;induction H with
  |nil=>intro j r O;cases O
  |cons p q ih=>
   obtain⟨d,u⟩:=p;intro j r O N;unfold drp;rw[Qaa]at O ⊢;by_cases hd:d=j;rw[Qe hd]at O ⊢;injection O with O
   subst O;cases hu:u.ref with
   |none=>rfl
   |some i=>
    simp only[];have:Nat.beq i k=false:=by cases U:Nat.beq i k with
     |false=>rfl
     |true=>exact absurd (by rw[hu,Q2 U]) N
    rw[this];rfl
   rw[Qc hd]at O ⊢;exact ih j r O N
 have hkp: ∀j b,j≠k->(∀r,hk H j=some r->r.ref=none)->Bk H j b->Bk ((k,r')::drp k H) j b:=λj b L hn ⟨r,O,N⟩=>
  ⟨r,by rw[Qaa,Qc (Ne.symm L)];exact drp_keep H j r O (by rw[hn r O];simp),N⟩
 have W: ∀b,Bk ((k,r')::drp k H) k b↔b∈r'.bl:=λb=>⟨λ⟨r,O,N⟩=>by rw[Qaa,Qe rfl]at O;injection O with O;subst O;exact N,λU=>⟨r',by rw[Qaa,Qe rfl],U⟩⟩;have hFh: ∀b,Fh C H b->b<w.heap.size->b∉S/\Fh C ((k,r')::drp k H) b:=λb hf hl=>by
  refine⟨λhS'=>hf.1 k (hS b hS'),⟨λj L=>?_,hf.2⟩⟩;by_cases J:j=k;subst J;rcases U b ((W b).1 L)with N|N
  exact hf.1 j N;omega;exact hf.1 j (V j b J L)
 have hGh: ∀b,(∀k,¬Bk H k b)->b<w.heap.size->b∉S/\∀j,¬Bk ((k,r')::drp k H) j b:=λb hb' hl=>by
  refine⟨λhS'=>hb' k (hS b hS'),λj L=>?_⟩;by_cases J:j=k;subst J;rcases U b ((W b).1 L)with N|N
  exact hb' j N;omega;exact hb' j (V j b J L)
 have hlt: ∀b,Bk H k b->b<w.heap.size:=λb U=>(h.bnd k b U).2;have bnd': ∀j b,Bk ((k,r')::drp k H) j b->(C.w0.heap.size<=b\/b∈C.S)/\b<w'.heap.size:=λj b L=>by
  by_cases J:j=k;subst J;rcases U b ((W b).1 L)with N|N
  exact⟨(h.bnd j b N).1,Q3 (h.bnd j b N).2 hc.size⟩;exact⟨.inl (Q7 h.ch.size N.1),N.2⟩;have:=h.bnd j b (V j b J L);exact⟨this.1,Q3 this.2 hc.size⟩
 refine⟨?_,λj r L=>?_,bnd',λj j' b L hj'=>?_,λj r i L X=>?_⟩;have Y:=h.ch;refine⟨hc.os.trans Y.os,hc.tape.trans Y.tape,hc.output.trans Y.output,Q7 Y.size hc.size,λb hb' hn=>?_⟩;have hb2:b∉S:=λhbS=>by
  rcases(h.bnd k b (hS b hbS)).1 with O|O
  omega;exact hn O
 rw[hc.block b (Q3 hb' Y.size) hb2];exact Y.block b hb' hn;rw[Qaa]at L;by_cases J:k=j;subst J;rw[Qe rfl]at L;injection L with L
 subst L;refine hr _ _ (λb U hl=>(hFh b U hl).2) (λb U hn=>⟨λj L=>?_,?_⟩) (λb U hl=>(hGh b U hl).2) (λj b J L=>?_) (λb U=>(W b).2 U);by_cases J:j=k;subst J;exact hn ((W b).1 L);exact J (h.dis j k b (V j b J L) U);exact .inr (h.bnd k b U).1;exact hkp j b (hrf j J).1 (hrf j J).2 L;rw[Qc J]at L;rcases Qbs k H j r L with rfl|⟨h3,h4⟩
 trivial;refine Res.to (h.hold j r h3) hc hFh hGh (λi b hi hB=>?_) (λb U hS'=>J (h.dis k j b (hS b hS') ⟨r,h3,U⟩));have hik:i≠k:=λe=>h4 (by rw[hi,e]);exact⟨λhS'=>hik (h.dis i k b hB (hS b hS')),hkp i b hik (h.ref j r i h3 hi).2 hB⟩;by_cases J:j=k<;>by_cases hjk':j'=k;rw[J,hjk'];subst J;have N:=V j' b hjk' hj';rcases U b ((W b).1 L)with O|O
 exact h.dis j j' b O N;have:=(h.bnd j' b N).2;omega;subst hjk';have N:=V j b J L;rcases U b ((W b).1 hj')with O|O
 exact h.dis j j' b N O;have:=(h.bnd j b N).2;omega;exact h.dis j j' b (V j b J L) (V j' b hjk' hj');rw[Qaa]at L;by_cases J:k=j;subst J;rw[Qe rfl]at L;injection L with L
 subst L;refine⟨(hrf i X).1,λr2 N=>?_⟩;rw[Qaa,Qc (Ne.symm (hrf i X).1)]at N;rcases Qbs k H i r2 N with rfl|⟨h3,_⟩
 rfl;exact(hrf i X).2 r2 h3;rw[Qc J]at L;rcases Qbs k H j r L with rfl|⟨h3,h4⟩
 cases X;obtain⟨h5,h6⟩:=h.ref j r i h3 X;have hik:k≠i:=λe=>h4 (by rw[X,e]);refine⟨h5,λr2 N=>?_⟩;rw[Qaa,Qc hik]at N;rcases Qbs k H i r2 N with rfl|⟨h7,_⟩
 rfl;exact h6 r2 h7
end
end Go.A
end
