/- A call never takes back what it has drawn from the tape. No program in sight. * A layer over the small logic, continued: slices.SortFunc of a row of data without rows, by the library's contract. No program in sight. * A layer over the small logic, continued: numbers that stay in their range; strings in their order. No program in sight. * How slices.SortFunc lies in the program. * Functions on data, and that the code computes them. -/
import Derived.Calls
import GoSem.Step
import Derived.Test.YtlbnpmfggfbdoaaGreatDoorA1
import Derived.Shelf.SlSortCmp.NoneTotal
import Derived.Lib.TrimU
import Derived.Shelf.Small.Strs
import Derived.Test.YtlbnpmfggfbdoaaGreatDoorA0
section
set_option linter.unusedVariables false
set_option linter.tactic.unusedName false
namespace Go.Dr
open Go
def R {α:Type}(n:Nat):Result α→Prop
 | .ok _ w=>n≤w.drawn
 | .halt _ w=>n≤w.drawn
theorem ask {α:Type}: ∀(a:Ask α) (w:World),w.drawn≤(w.ask a).2.drawn
 | .done a,w=>Nat.le_refl _
 | .ask what range k,w=>by
  unfold World.ask
  dsimp only
  split
  ·exact ask _ w
  ·exact Nat.le_trans (Nat.le_succ _) (ask _ {w with drawn:=w.drawn+1})
theorem sys (w:World)(c:Sys):w.drawn≤(w.sys c).2.drawn:=by
 unfold World.sys
 have h:=ask (Kernel.perform c w.os) w
 split
 ·exact Nat.le_refl _
 ·rename_i e;rw[e]at h;exact h
def EP {ε α:Type}(P:α→Prop)(x:Except ε α):Prop:=∀a,x=.ok a→P a
theorem eb {ε α β:Type}{P:β→Prop}{x:Except ε α}{f:α→Except ε β}(h: ∀a,EP P (f a)):EP P (x >>= f):=fun b hb=>by
 cases x with
 |error e=>cases hb
 |ok a=>exact h a b hb
theorem et {α:Type}{P:α→Prop}{e:String}:EP P (MonadExcept.throw e:Except String α):=fun _ h=>by cases h
theorem ep {ε α:Type}{P:α→Prop}{a:α}(h:P a):EP P (pure a:Except ε α):=fun b hb=>by injection hb with hb;subst hb;exact h
theorem vs0 (w:World)(p:Program)(at_:Addr)(u:TypeId)(a:Addr)(v:Value)(b:Bool):EP (fun r=>r.1.drawn=w.drawn) (w.viewStore p at_ u a v b):=by
 unfold World.viewStore
 dsimp only
 repeat' first|exact et|exact ep rfl|(refine eb fun _=>?_)|split|dsimp only
theorem vs {w w':World}{p:Program}{at_:Addr}{u:TypeId}{a:Addr}{v:Value}{b:Bool}{l:List Addr}(h:w.viewStore p at_ u a v b=.ok (w',l)):w'.drawn=w.drawn:=vs0 w p at_ u a v b _ h
theorem fs {w w':World}{p:Program}{a:Addr}{v:Value}{b:Bool}{l:List Addr}(h:w.farStore p a v b=.ok (w',l)):w'.drawn=w.drawn:=by
 unfold World.farStore at h
 split at h
 ·split at h
  ·rename_i e;injection h with h;subst h;exact vs e
  ·cases h
 ·cases h
theorem run {α:Type}(p:Program)(n:Nat): ∀(s:Sem α) (w:World),n≤w.drawn→R n (s.run p w):=by
 intro s
 induction s with
 |pure a=>intro w h;exact h
 |load m a k ih=>
  intro w h;unfold Sem.run
  split
  ·exact ih _ w h
  ·(split)
   ·exact ih _ w h
   ·exact h
 |store m a v k ih=>
  intro w h
  cases v
  all_goals
   unfold Sem.run
   first|exact h|skip
  all_goals
   split
   ·(split)
    ·exact h
    ·exact ih _ h
   ·(split)
    ·rename_i e;exact ih _ (by rw[fs e];exact h)
    ·exact h
 |choose q k ih=>
  intro w h;unfold Sem.run
  split
  ·exact ih _ w h
  ·exact ih _ _ (Nat.le_succ_of_le h)
 |sys c k ih=>intro w h;unfold Sem.run;exact ih _ _ (Nat.le_trans h (sys w c))
 |new o k ih=>intro w h;unfold Sem.run;exact ih _ _ h
 |shape r k ih=>intro w h;unfold Sem.run;exact ih _ _ h
 |freeze a n k ih=>intro w h;unfold Sem.run;refine ih _ ?_;unfold World.freeze;((repeat' split)<;>(exact h))
 |frozen a k ih=>intro w h;unfold Sem.run;exact ih _ _ h
 |getObj r k ih=>intro w h;unfold Sem.run;((repeat' split)<;>(first|exact h|exact ih _ _ h))
 |setObj r o k ih=>intro w h;unfold Sem.run;((repeat' split)<;>(first|exact h|exact ih _ h))
 |program k ih=>intro w h;unfold Sem.run;exact ih _ _ h
 |mark m k ih=>intro w h;unfold Sem.run;exact ih _ h
 |halt x=>intro w h;exact h
theorem runT {α:Type}(p:Program)(n:Nat)(s:Sem α)(w:World)(es:Array Event)(h:n≤w.drawn):R n (s.runT p w es).1:=by
 induction s generalizing w es with
 |pure a=>exact h
 |halt x=>exact h
 |choose q k ih=>
  unfold Sem.runT
  split
  ·exact ih _ w _ h
  ·exact ih _ _ _ (Nat.le_succ_of_le h)
 |sys c k ih=>unfold Sem.runT;exact ih _ _ _ (Nat.le_trans h (sys w c))
 |freeze a n k ih=>unfold Sem.runT;refine ih _ _ ?_;unfold World.freeze;((repeat' split)<;>(exact h))
 |store m a v k ih=>
  cases v
  all_goals
   unfold Sem.runT
   first|exact h|skip
  all_goals
   split
   ·(split)
    ·exact h
    ·exact ih _ _ h
   ·(split)
    ·rename_i e;exact ih _ _ (by rw[fs e];exact h)
    ·exact h
 |_=>
  unfold Sem.runT
  repeat' split
  all_goals first|exact h|(rename_i ih;exact ih _ _ _ h)|(rename_i ih;exact ih _ _ h)|(rename_i ih _;exact ih _ _ _ h)|(rename_i ih _;exact ih _ _ h)|(rename_i ih _ _;exact ih _ _ _ h)|(rename_i ih _ _;exact ih _ _ h)|(rename_i ih _ _ _;exact ih _ _ _ h)|(rename_i ih _ _ _;exact ih _ _ h)|(rename_i ih _ _ _ _;exact ih _ _ _ h)|(rename_i ih _ _ _ _;exact ih _ _ h)|(rename_i ih _ _ _ _ _;exact ih _ _ _ h)|(rename_i ih _ _ _ _ _ _;exact ih _ _ _ h)
def G (n:Nat):GStep→Prop
 | .go _ w _| .comm _ _ _ _ w _| .spawn _ _ w _| .count _ w _| .timer _ _ w _| .alone _ _ w _| .newcoro _ _ _ w _| .coroswitch _ _ _ w _| .collect _ w _| .watch _ w _=>n≤w.drawn
 | .ended _ _ _=>True
theorem after {n:Nat}{es:Array Event}{g:GStep}(h:G n g):G n (g.after es):=by cases g<;>exact h
variable {p:Program}{n:Nat}{w:World}
theorem ro {α:Type}{s:Sem α}{v:α}{w':World}(e:s.run p w=.ok v w')(h:n≤w.drawn):n≤w'.drawn:=by have:=run p n s w h;rw[e]at this;exact this
theorem rh {α:Type}{s:Sem α}{v:Halt}{w':World}(e:s.run p w=.halt v w')(h:n≤w.drawn):n≤w'.drawn:=by have:=run p n s w h;rw[e]at this;exact this
theorem gi {c:Prop}[Decidable c]{a b:GStep}(ha:G n a)(hb:G n b):G n (if c then a else b):=by split<;>assumption
theorem rto {α:Type}{s:Sem α}{v:α}{w':World}{es es':Array Event}(e:s.runT p w es=(.ok v w',es'))(h:n≤w.drawn):n≤w'.drawn:=by have:=runT p n s w es h;rw[e]at this;exact this
theorem rtr {α:Type}{s:Sem α}{r:Result α}{es es':Array Event}(e:s.runT p w es=(r,es'))(h:n≤w.drawn):R n r:=by have:=runT p n s w es h;rw[e]at this;exact this
theorem rth {α:Type}{s:Sem α}{v:Halt}{w':World}{es es':Array Event}(e:s.runT p w es=(.halt v w',es'))(h:n≤w.drawn):n≤w'.drawn:=by have:=runT p n s w es h;rw[e]at this;exact this
theorem endThrow (fr:Frame)(m:String)(h:n≤w.drawn):G n (Go.endThrow fr m w):=h
theorem endPrinting (fr:Frame)(v:Value)(h:n≤w.drawn):G n (Go.endPrinting p fr v w):=by
 unfold Go.endPrinting;dsimp only;split
 ·exact h
 ·trivial
theorem endWith (fd:Nat)(t:ByteArray)(o:Outcome):G n (Go.endWith w fd t o):=by
 unfold Go.endWith;dsimp only;((repeat' split)<;>(trivial))
theorem endFatal (fr:Frame)(cs:List Frame)(d:Option Dying)(m:String)(h:n≤w.drawn):G n (Go.endFatal p fr cs d m w):=by
 unfold Go.endFatal;extract_lets
 split
 ·rename_i e;exact ro e h
 ·trivial
 ·trivial
theorem writeOn (fr:Frame)(d:Dying)(f:Fatal)(h:n≤w.drawn):G n (Go.writeOn p fr d f w):=by
 unfold Go.writeOn;extract_lets
 split
 ·trivial
 ·extract_lets
  split
  all_goals first|trivial|(rename_i e;exact rto e h)|(rename_i e;exact rth e h)
theorem die (fr:Frame)(d:Dying)(h:n≤w.drawn):G n (Go.die p fr d w):=by
 unfold Go.die
 split
 ·exact writeOn _ _ _ h
 ·(split)
  ·(split)
   ·exact h
   ·exact endWith _ _ _
  ·extract_lets d2
   split
   ·exact h
   ·(split)
    ·rename_i e;exact ro e h
    ·trivial
   ·rename_i t recv name _
    have hr:=runT p n (invoke (.fn (.method name) #[]) #[.iface t recv]) w #[] h
    split
    rename_i r es e
    rw[e]at hr
    refine after ?_
    split
    all_goals first|trivial|exact hr|exact endPrinting _ _ hr
   ·trivial
theorem doReturn (main:Bool)(fr:Frame)(cs:List Frame)(d:Option Dying)(v:Value)(h:n≤w.drawn):G n (Go.doReturn p main fr cs d v w):=by
 unfold Go.doReturn
 repeat' split
 all_goals first|trivial|exact h
theorem callDeferred (fr:Frame)(cs:List Frame)(dy:Option Dying)(d:Deferred)(h:n≤w.drawn):G n (Go.callDeferred p fr cs dy d w):=by
 unfold Go.callDeferred
 refine gi trivial ?_
 ·have hr:=runT p n (invoke d.target d.args) w #[] h
  split
  rename_i r es e
  rw[e]at hr
  extract_lets
  refine after ?_
  split
  all_goals first|trivial|exact hr|exact endFatal _ _ _ _ hr|exact endThrow _ _ hr|(split<;>first|trivial|exact hr)
theorem unwind (main:Bool)(fr:Frame)(cs:List Frame)(dy:Option Dying)(h:n≤w.drawn):G n (Go.unwind p main fr cs dy w):=by
 unfold Go.unwind
 split
 ·rename_i block _ _ _
  have hr:=runT p n (Instr.takeDeferred block) w #[] h
  split
  rename_i r es e
  rw[e]at hr
  refine after ?_
  split
  ·exact hr
  ·trivial
 ·exact callDeferred _ _ _ _ h
 ·(split)
  ·trivial
  ·(split)
   ·trivial
   ·(split)
    ·exact h
    ·(split)
     ·(split)
      ·exact h
      ·(split)
       ·rename_i e;exact ro e h
       ·trivial
       ·trivial
     ·(split)
      ·exact endPrinting _ _ h
      ·trivial
  ·(split)
   ·exact doReturn _ _ _ _ _ h
   ·rename_i fn _
    have hr:=runT p n (results fn fr.tmps) w #[] h
    split
    rename_i r es e
    rw[e]at hr
    refine after ?_
    split
    ·exact doReturn _ _ _ _ _ hr
    ·trivial
    ·trivial
theorem early (fr:Frame)(cs:List Frame)(dy:Option Dying)(g:Nat)(h:n≤w.drawn):G n (Go.early p fr cs dy g w):=by
 unfold Go.early;extract_lets refuse notYet
 have hn: ∀w:World,n≤w.drawn→G n (notYet w):=fun w h=>by
  show G n (match w.heap[g]? with|some (.pending c elem)=>_|_=>_)
  split
  ·exact h
  ·trivial
 split
 ·exact hn w h
 ·(split)
  ·trivial
  ·extract_lets there
   have ht: ∀w:World,n≤w.drawn→G n (there w):=fun w h=>h
   repeat' split
   all_goals first|trivial|exact hn w h|exact ht w h|(rename_i e;exact hn _ (ro e h))|(rename_i e;exact ht _ (ro e h))|(rename_i e _;exact ht _ (ro e h))|(rename_i _ e;exact ht _ (ro e h))
theorem oe {α:Type}{o:Option α}{a:GStep}{f:α→GStep}(ha:G n a)(hf: ∀x,G n (f x)):G n (o.elim a f):=by cases o with
 |none=>exact ha
 |some x=>exact hf x
theorem app (listen:Bool)(fr:Frame)(cs:List Frame)(dy:Option Dying)(s:Sem Next)(h:n≤w.drawn):G n (Go.stepG.apply p listen fr cs dy s w):=by
 unfold Go.stepG.apply
 extract_lets
 have hr:R n (if listen=true then s.runT p w #[]else(s.run p w,#[])).1:=by
  split
  ·exact runT p n s w #[] h
  ·exact run p n s w h
 split
 rename_i r es e
 rw[e]at hr
 extract_lets
 refine after ?_
 split
 all_goals first|trivial|exact hr|exact endFatal _ _ _ _ hr|exact endThrow _ _ hr|exact early _ _ _ _ hr|(split<;>first|trivial|exact hr|(exact gi (endThrow _ _ hr) hr))|exact gi (endThrow _ _ hr) hr
theorem oper (listen:Bool)(fr:Frame)(cs:List Frame)(dy:Option Dying)(h:n≤w.drawn):G n (Go.stepG.oper p listen fr cs dy w):=by
 unfold Go.stepG.oper
 repeat' split
 all_goals first|trivial|exact app _ _ _ _ _ h
theorem exec (main listen:Bool)(fr:Frame)(cs:List Frame)(dy:Option Dying)(h:n≤w.drawn):G n (Go.stepG.exec p main listen fr cs dy w):=by
 unfold Go.stepG.exec
 extract_lets go tgo lost leave
 have hgo: ∀fr w,n≤w.drawn→G n (go fr w):=fun _ _ h=>h
 have hto: ∀k,G n (tgo k):=fun k=>h
 have hlost: ∀k,G n (lost k):=fun k=>trivial
 have hleave: ∀j,G n (leave j):=fun j=>by
  unfold leave
  split
  ·refine gi h trivial
  ·(split)
   rename_i r es e
   have hr:=rtr e h
   refine after ?_
   split
   ·exact doReturn _ _ _ _ _ hr
   ·trivial
 split
 case h_1=>exact hleave none
 case h_2=>exact hleave (some .ret)
 case h_13=>exact oe (hleave (some (.exit _))) hto
 case h_14=>exact oe (hleave (some (.goto _))) hto
 all_goals first
  |exact hto _|trivial|exact app _ _ _ _ _ h|exact hlost _
  |(split<;>first|exact hto _|exact hlost _)
  |(refine gi (hto _) ?_;split<;>first|trivial|(rename_i e;exact ro e h))
  |(refine gi (oper _ _ _ _ h) ?_;exact h)
  |exact oe (hlost _) fun _=>app _ _ _ _ _ h
  |(split;rename_i r es e;have hr:=rtr e h;refine after ?_;split<;>first|trivial|exact hr|exact app _ _ _ _ _ hr)
theorem stepG (main listen:Bool)(g:Goroutine)(h:n≤w.drawn):G n (Go.stepG p main g w listen):=by
 unfold Go.stepG
 split
 split
 ·exact die _ _ h
 ·exact exec _ _ _ _ _ h
 ·exact unwind _ _ _ _ h
def S (n:Nat):Stepped→Prop
 | .next m=>n≤m.world.drawn
 | .ended _ _=>True
theorem si {c:Prop}[Decidable c]{a b:Stepped}(ha:S n a)(hb:S n b):S n (if c then a else b):=by split<;>assumption
theorem si1 {α:Type}{c:Prop}[Decidable c]{a b:Stepped×α}(ha:S n a.1)(hb:S n b.1):S n (if c then a else b).1:=by split<;>assumption
theorem waitingAt {rest:Rest}{cs:Array CommCase}{w w':World}(h:Go.waitingAt rest cs w=some w'):w'.drawn=w.drawn:=by
 unfold Go.waitingAt at h
 split at h
 ·split at h
  ·injection h with h;subst h;rfl
  ·cases h
 ·injection h with h;subst h;rfl
theorem comm (rest:Rest)(gs:Array Goroutine)(i:Nat)(g:Goroutine)(cases:Array CommCase)(b:Bool)(sh:CommShape)(h:n≤w.drawn):S n (communicate p rest gs i g cases b sh w).1:=by
 unfold communicate
 extract_lets put
 refine si1 trivial ?_
 extract_lets ready
 refine si1 ?_ ?_
 ·refine si1 ?_ h
  split
  ·rename_i e;show n≤World.drawn _;rw[waitingAt e];exact h
  ·trivial
 ·extract_lets pick
  split
  ·trivial
  ·rename_i e
   have h2:=ro e h
   extract_lets r
   split
   ·(split)
    ·rename_i e2;exact rh e2 h2
    ·trivial
   ·exact h2
   ·exact h2
   ·extract_lets v buf
    split
    ·exact h2
    ·(split)
     ·rename_i e3;have h4:=ro e3 h2;exact h4
     ·trivial
   ·exact h2
   ·exact h2
   ·trivial
theorem look (gs:Array Goroutine)(rest:Rest)(h:n≤w.drawn):S n (Go.look p gs rest w):=by
 unfold Go.look
 split
 ·(split)
  extract_lets
  refine si trivial ?_
  extract_lets
  split
  ·trivial
  ·extract_lets
   split
   ·rename_i e;have h4:=ro e h;exact h4
   ·trivial
   ·trivial
 ·trivial
theorem drain (w:World)(c:Nat):(Go.drain w c).2.drawn=w.drawn:=by
 unfold Go.drain;split<;>rfl
theorem retime (m:Machine)(k:Nat)(t:Timer)(a b:Nat):(Go.retime m k t a b).2.world.drawn=m.world.drawn:=by
 unfold Go.retime
 split
 rename_i e
 split at e
 ·rename_i c _
  have:=drain m.world c
  rw[e]at this;exact this
 ·injection e with _ e;subst e;rfl
theorem named (m:Machine)(v:Addr)(f:Nat→Timer→Value×Machine){d:Nat}(hf: ∀k t,(f k t).2.world.drawn=d){r:Value×Machine}(e:timerOp.named m v f=.ok r):r.2.world.drawn=d:=by
 unfold timerOp.named at e
 split at e
 ·injection e with e;subst e;exact hf _ _
 ·cases e
theorem opened {m m':Machine}{v:Addr}(e:timerOp.opened m v=some m'):m'.world.drawn=m.world.drawn:=by
 unfold timerOp.opened at e
 split at e
 ·split at e
  ·injection e with e;subst e;rfl
  ·cases e
 ·injection e with e;subst e;rfl
theorem timer (m:Machine)(op:TimerOp){r:Value×Machine}(e:timerOp m op=.ok r):r.2.world.drawn=m.world.drawn:=by
 unfold timerOp at e
 split at e
 ·split at e
  ·injection e with e;subst e;rfl
  ·split at e
   ·split at e
    ·cases e
    ·injection e with e;subst e;rfl
   ·cases e
 ·exact named _ _ _ (fun _ _=>retime _ _ _ _ _) e
 ·split at e
  ·rename_i m1 e1
   exact(named _ _ _ (fun _ _=>retime _ _ _ _ _) e).trans (opened e1)
  ·cases e
 ·injection e with e;subst e;rfl
theorem commr {rest:Rest}{gs:Array Goroutine}{i:Nat}{g:Goroutine}{cases:Array CommCase}{b:Bool}{sh:CommShape}{r:Stepped}{ops:Array MemOp}(e:communicate p rest gs i g cases b sh w=(r,ops))(h:n≤w.drawn):S n r:=by have:=comm (p:=p) rest gs i g cases b sh h;rw[e]at this;exact this
theorem et1 {fr:Frame}{m:String}{g:GStep}(e:Go.endThrow fr m w=g)(h:n≤w.drawn):G n g:=e▸endThrow fr m h
theorem runM (m:Machine)(i:Nat)(listen:Bool)(h:n≤m.world.drawn):S n (Go.runT p m i listen).1:=by
 unfold Go.runT
 extract_lets rest world
 split
 extract_lets wake fn pos s ops done
 have hd: ∀r,(done r).1=r:=fun _=>rfl
 have hs:G n s:=stepG _ _ _ h
 clear_value s
 split
 ·trivial
 ·(split)
  rename_i e
  exact commr e hs
 all_goals first|exact hs|exact si trivial hs|exact look _ _ hs|skip
 ·rw[hd]
  split
  ·exact hs
  ·(split)
   ·rename_i e;exact et1 e hs
   ·trivial
  ·trivial
 ·rw[hd]
  split
  ·rename_i e;have h2:=timer _ _ e;exact Nat.le_trans hs (Nat.le_of_eq h2.symm)
  ·(split)
   ·rename_i e;exact et1 e hs
   ·trivial
  ·trivial
  ·trivial
theorem serve (m:Machine)(k:Nat)(h:n≤m.world.drawn):S n (Go.serve p m k):=by
 unfold Go.serve
 split
 ·trivial
 ·exact h
 ·extract_lets
  split
  ·trivial
  ·exact h
def M (n:Nat):Move→Prop
 | .goroutine m _=>n≤m.world.drawn
 | .machine s _=>S n s
theorem askOn (m:Machine)(h:n≤m.world.drawn):M n (Go.askOn p m):=by
 unfold Go.askOn
 extract_lets mono rs ds pick
 have hp: ∀m:Machine,n≤m.world.drawn→M n (pick m):=fun m h=>by
  simp only[pick]
  split
  ·trivial
  ·rename_i e;have h2:=ro e h
   split
   ·exact h2
   ·(split)
    ·trivial
    ·rename_i e2;exact ro e2 h2
 clear_value pick
 split
 ·trivial
 ·rename_i e;have h2:=ro e h
  extract_lets m2
  clear_value rs
  split
  ·exact serve _ _ h2
  ·cases rs with
   |nil=>
    dsimp only
    split
    ·exact h2
    ·(split)
     ·exact h2
     ·split<;>trivial
   |cons a l=>
    dsimp only
    split
    ·exact hp _ h2
    ·(split)
     ·trivial
     ·rename_i e3;exact hp _ (ro e3 h2)
     ·rename_i e3;have h4:=ro e3 h2;exact h4
     ·rename_i e3;have h4:=ro e3 h2;exact hp _ h4
theorem ask2 (m:Machine)(h:n≤m.world.drawn):M n (Go.ask p m):=by
 unfold Go.ask
 split
 ·(split)
  ·trivial
  ·rename_i e;have h2:=look (p:=p) m.gs m.rest (ro e h)
   split
   ·rename_i e2;rw[e2]at h2;exact askOn _ h2
   ·exact h2
  ·rename_i e;exact askOn _ (ro e h)
 ·exact askOn _ h
theorem move (m:Machine)(h:n≤m.world.drawn):M n (Go.move p m):=by
 unfold Go.move
 split
 ·(split)
  ·exact h
  ·trivial
 ·(split)
  ·(split)
   ·exact h
   ·exact ask2 _ h
  ·exact ask2 _ h
theorem step (m:Machine)(h:n≤m.world.drawn):S n (Go.step p m):=by
 unfold Go.step stepT
 have:=move (p:=p) m h
 split
 ·rename_i e;rw[e]at this;exact runM _ _ _ this
 ·rename_i e;rw[e]at this;exact this
theorem runN: ∀(k:Nat) (m m':Machine),Go.runN p k m=.next m'→n≤m.world.drawn→n≤m'.world.drawn
 |0,m,m',e,h=>by injection e with e;subst e;exact h
 |k+1,m,m',e,h=>by
  have h1:=step (p:=p) m h
  unfold Go.runN at e
  split at e
  ·rename_i e1;rw[e1]at h1;exact runN k _ _ e h1
  ·rename_i h2;exact absurd e (h2 _)
theorem steps {m m':Machine}(h:Steps p m m'):m.world.drawn≤m'.world.drawn:=by
 obtain⟨k,hk⟩:=h
 exact runN k m m' hk (Nat.le_refl _)
theorem calls {f:FuncId}{args:Array Value}{w:World}{Q:Ending→World→Prop}(h:Calls p f args w Q):Calls p f args w fun e w'=>Q e w'∧∀v,e=.returned v→w.drawn≤w'.drawn:=fun cs=>by
 obtain⟨e,w',fr,hq,hc,hf,hl⟩:=h cs
 refine⟨e,w',fr,⟨hq,fun v hv=>?_⟩,hc,hf,hl⟩
 subst hv
 exact steps hc
end Go.Dr
end
section
set_option linter.unusedVariables false
set_option linter.unusedSimpArgs false
namespace Go.A
open Go.RowKit Go.Z Go.Shelf Go.Proofs Go.Sort
section
variable {α:Type}
def cl0 (cmp:α→α→Option Int)(x y:α):Bool:=match cmp x y with
 |some c=>decide (c<0)
 |none=>false
def srtI (lt:α→α→Bool)(x:α):List α→List α
 | []=>[x]
 |y::l=>bif lt y x then y::srtI lt x l else x::y::l
def srtL (lt:α→α→Bool):List α→List α
 | []=>[]
 |x::l=>srtI lt x (srtL lt l)
def ordB [DecidableEq α](cmp:α→α→Option Int)(xs:List α):Bool:=xs.all fun x=>xs.all fun y=>(cmp x y).isSome&&(bif cl0 cmp x y then !cl0 cmp y x else cl0 cmp y x||decide (x=y))&&xs.all fun z=> !(cl0 cmp x y&&cl0 cmp y z)||cl0 cmp x z
def srtF [DecidableEq α](cmp:α→α→Option Int)(xs:List α):Option (List α):=if ordB cmp xs=true then some (srtL (cl0 cmp) xs)else none
structure OrdOn (lt:α→α→Bool) (X:List α):Prop where
 asym: ∀x∈X,∀y∈X,lt x y=true→lt y x=false
 tri: ∀x∈X,∀y∈X,lt x y=false→lt y x=false→x=y
 trans: ∀x∈X,∀y∈X,∀z∈X,lt x y=true→lt y z=true→lt x z=true
theorem OrdOn.nt {lt:α→α→Bool}{X:List α}(O:OrdOn lt X){x y z:α}(hx:x∈X)(hy:y∈X)(hz:z∈X)(h1:lt x y=false)(h2:lt y z=false):lt x z=false:=by
 cases h3:lt x z with
 |false=>rfl
 |true=>
  cases h4:lt y x with
  |true=>rw[O.trans y hy x hx z hz h4 h3]at h2;cases h2
  |false=>
   have:=O.tri x hx y hy h1 h4
   subst this;rw[h3]at h2;cases h2
theorem ordB_on [DecidableEq α]{cmp:α→α→Option Int}{xs:List α}(h:ordB cmp xs=true):OrdOn (cl0 cmp) xs∧∀x∈xs,∀y∈xs,∃c,cmp x y=some c:=by
 unfold ordB at h
 have key: ∀x∈xs,∀y∈xs,((cmp x y).isSome=true∧(bif cl0 cmp x y then !cl0 cmp y x else cl0 cmp y x||decide (x=y))=true)∧∀z∈xs,(!(cl0 cmp x y&&cl0 cmp y z)||cl0 cmp x z)=true:=fun x hx y hy=>by
  have:=List.all_eq_true.1 (List.all_eq_true.1 h x hx) y hy
  rw[Bool.and_eq_true,Bool.and_eq_true,List.all_eq_true]at this
  exact this
 refine⟨⟨fun x hx y hy h1=>?_,fun x hx y hy h1 h2=>?_,fun x hx y hy z hz h1 h2=>?_⟩,fun x hx y hy=>Option.isSome_iff_exists.1 (key x hx y hy).1.1⟩
 ·have:=(key x hx y hy).1.2
  rw[h1,cond_true,Bool.not_eq_true']at this;exact this
 ·have:=(key x hx y hy).1.2
  rw[h1,h2,cond_false,Bool.false_or,decide_eq_true_iff]at this;exact this
 ·have:=(key x hx y hy).2 z hz
  rw[h1,h2]at this;exact this
theorem srtI_perm (lt:α→α→Bool)(x:α): ∀l:List α,(srtI lt x l).Perm (x::l)
 | []=>List.Perm.refl _
 |y::l=>by
  unfold srtI
  cases lt y x with
  |true=>exact((srtI_perm lt x l).cons y).trans (List.Perm.swap x y l)
  |false=>exact List.Perm.refl _
theorem srtL_perm (lt:α→α→Bool): ∀l:List α,(srtL lt l).Perm l
 | []=>List.Perm.refl _
 |x::l=>(srtI_perm lt x _).trans ((srtL_perm lt l).cons x)
theorem srtI_pw {lt:α→α→Bool}{X:List α}(O:OrdOn lt X){x:α}(hx:x∈X): ∀l:List α,(∀a∈l,a∈X)→l.Pairwise (fun a b=>lt b a=false)→(srtI lt x l).Pairwise (fun a b=>lt b a=false)
 | [],_,_=>List.pairwise_singleton ..
 |y::l,hl,hp=>by
  have hy:=hl y (List.mem_cons_self ..)
  have hl2: ∀a∈l,a∈X:=fun a ha=>hl a (List.mem_cons_of_mem _ ha)
  rw[List.pairwise_cons]at hp
  unfold srtI
  cases h:lt y x with
  |true=>
   refine List.pairwise_cons.2 ⟨fun b hb=>?_,srtI_pw O hx l hl2 hp.2⟩
   rcases List.mem_cons.1 ((srtI_perm lt x l).mem_iff.1 hb)with rfl|hb
   ·exact O.asym y hy b hx h
   ·exact hp.1 b hb
  |false=>
   refine List.pairwise_cons.2 ⟨fun b hb=>?_,List.pairwise_cons.2 hp⟩
   rcases List.mem_cons.1 hb with rfl|hb
   ·exact h
   ·exact O.nt (hl2 b hb) hy hx (hp.1 b hb) h
theorem srtL_pw {lt:α→α→Bool}{X:List α}(O:OrdOn lt X): ∀l:List α,(∀a∈l,a∈X)→(srtL lt l).Pairwise (fun a b=>lt b a=false)
 | [],_=>List.Pairwise.nil
 |x::l,hl=>srtI_pw O (hl x (List.mem_cons_self ..)) _ (fun a ha=>hl a (List.mem_cons_of_mem _ ((srtL_perm lt l).mem_iff.1 ha))) (srtL_pw O l fun a ha=>hl a (List.mem_cons_of_mem _ ha))
theorem srt_uniq {lt:α→α→Bool}{xs ys:List α}(O:OrdOn lt xs)(hp:ys.Perm xs)(hs:ys.Pairwise (fun a b=>lt b a=false)):ys=srtL lt xs:=
 List.Perm.eq_of_pairwise (le:=fun a b=>lt b a=false) (fun a b ha hb h1 h2=>O.tri a (hp.mem_iff.1 ha) b ((srtL_perm lt xs).mem_iff.1 hb) h2 h1) hs (srtL_pw O xs fun a h=>h) (hp.trans (srtL_perm lt xs).symm)
end
theorem flat_lv: ∀{t:Ty},t.flat=true→lv t=0
 | .int _,_=>rfl
 | .byte,_=>rfl
 | .bool,_=>rfl
 | .str,_=>rfl
 | .slice _,h=>by cases h
 | .pair a b,h=>by
  simp only[Ty.flat,Bool.and_eq_true]at h
  show lv a+lv b=0
  rw[flat_lv h.1,flat_lv h.2]
theorem cl_len: ∀{t:Ty} (x:t.den) (ps:Lf),t.flat=true→(cl t x ps).length=t.size
 | .int _,_,_,_=>rfl
 | .byte,_,_,_=>rfl
 | .bool,_,_,_=>rfl
 | .str,_,_,_=>rfl
 | .slice _,_,_,h=>by cases h
 | .pair a b,x,ps,h=>by
  simp only[Ty.flat,Bool.and_eq_true]at h
  show(cl a x.1 _++cl b x.2 _).length=a.size+b.size
  rw[List.length_append,cl_len x.1 _ h.1,cl_len x.2 _ h.2]
theorem cl_one: ∀{t:Ty} (x:t.den) (ps:Lf),t.flat=true→∀v∈cl t x ps,v.oneCell'=true
 | .int _,_,_,_,v,hv=>by obtain rfl:=List.mem_singleton.1 hv;rfl
 | .byte,_,_,_,v,hv=>by obtain rfl:=List.mem_singleton.1 hv;rfl
 | .bool,_,_,_,v,hv=>by obtain rfl:=List.mem_singleton.1 hv;rfl
 | .str,_,_,_,v,hv=>by obtain rfl:=List.mem_singleton.1 hv;rfl
 | .slice _,_,_,h,_,_=>by cases h
 | .pair a b,x,ps,h,v,hv=>by
  simp only[Ty.flat,Bool.and_eq_true]at h
  rcases List.mem_append.1 (show v∈cl a x.1 _++cl b x.2 _ from hv)with hv|hv
  ·exact cl_one x.1 _ h.1 v hv
  ·exact cl_one x.2 _ h.2 v hv
theorem rep_cl0 {t:Ty}(ht:t.flat=true){w:World}{F:Nat→Prop}{cs:List Value}{x:t.den}(h:t.rep w F cs x):cs=cl t x []:=by
 obtain⟨ps,hp,hc,_⟩:=rep_cl (B:=fun _ _=>False) t h
 rw[flat_lv ht]at hp
 obtain rfl:=List.eq_nil_of_length_eq_zero hp
 exact hc
theorem ch_grow {W w':World}(h:Ch [] W w')(hd:W.drawn≤w'.drawn): ∃q os',w'=grow (W.drewN q) os':=by
 refine⟨w'.drawn-W.drawn,w'.heap.extract W.heap.size w'.heap.size,?_⟩
 obtain⟨h1,h2,h3,h4,h5⟩:=h
 obtain⟨heap',tape',drawn',os',output'⟩:=w'
 obtain⟨heap,tape,drawn,os,output⟩:=W
 simp only at h1 h2 h3 h4 h5 hd
 subst h1;subst h2;subst h3
 have e:heap'=heap++heap'.extract heap.size heap'.size:=by
  refine Array.ext_getElem? fun i=>?_
  by_cases hi:i<heap.size
  ·rw[h5 i hi (by simp),Array.getElem?_append_left hi]
  ·rw[Array.getElem?_append_right (by omega),Array.getElem?_extract]
   split
   ·congr 1;omega
   ·rw[Array.getElem?_eq_none (by omega)]
 show World.mk heap' tape' drawn' os' output'=World.mk (heap++heap'.extract heap.size heap'.size) tape' (drawn+(drawn'-drawn)) os' output'
 rw[←e,Nat.add_sub_cancel' hd]
theorem Hp.none (W:World)(F:Nat→Prop):Hp ⟨0,[],W,[],F⟩ [] W:=⟨Ch.refl _,fun k r h=>(by cases h),fun k b ⟨_,h,_⟩=>(by cases h),fun k k' b ⟨_,h,_⟩=>(by cases h),fun k r j h=>(by cases h)⟩
theorem Ct.cmp {P:Program}{g:Nat}{vs:List Value}{c:Int}{R:Value→List (Nat×Res)→Prop}(h:Ct P g vs [] [] R)(hR: ∀v H',R v H'→v=.int .i64 c)(W:World):Calls P g vs.toArray W fun e w'=>e=.returned (.int .i64 c)∧∃q os',w'=grow (W.drewN q) os':=
 (Dr.calls (h W (fun _=>False) (Hp.none W _))).mono fun e w' ⟨⟨v,H',he,hr,hh⟩,hd⟩=>⟨by rw[he,hR v H' hr],ch_grow hh.ch (hd v he)⟩
theorem flat_get {α:Type}[Inhabited α](enc:α→List Value)(k:Nat)(d:Array α){i j:Nat}{x:α}(hx:d[i]?=some x)(hj:j<k):i*k+j<d.size*k∧(flatK enc k d)[i*k+j]! =(enc x)[j]! :=by
 obtain⟨hi,he⟩:=Array.getElem?_eq_some_iff.1 hx
 have lt:i*k+j<d.size*k:=by
  have:=Nat.mul_le_mul_right k (show i+1≤d.size from hi);rw[Nat.add_mul,Nat.one_mul]at this;omega
 have e1:(i*k+j) / k=i:=(blk_iff k i _ (by omega)).1 ⟨by omega,by omega⟩
 have e2:(i*k+j)%k=j:=by rw[Nat.mod_eq_sub_div_mul,e1];omega
 refine⟨lt,?_⟩
 rw[get_flatK _ _ _ _ lt,e1,e2,getElem!_pos d i hi,he]
theorem lgetb {l:List Value}{j:Nat}(h:j<l.length):l[j]?=some l[j]! :=by rw[List.getElem?_eq_getElem h,getElem!_pos l j h]
theorem put_id (d:Array Value)(c:Array Value)(j:Nat):(putCells id 0 d c)[j]?=(c[j]?).map fun x=>if j<d.size then d[j]! else x:=by
 unfold putCells
 rw[Array.getElem?_mapIdx]
 congr 1;funext x
 simp
theorem Ct.sortF {P:Program}{ρ:Ren}{f:Nat}(L:SlLaysF0.n6 P ρ)(hf:ρ.f 6=f){t:Ty}[DecidableEq t.den]{e:TypeId}(ht:t.flat=true)
  (aE: ∀w,(isAgg (ρ.t 24)).run P w=.ok true w) (zE: ∀w,(Go.sizeOf (ρ.t 24)).run P w=.ok t.size w) (A:Option Addr) (c:Nat) (g:Nat) (cmp:t.den→t.den→Option Int)
  (eg: ∀args w,(callFunc g args).run P w=.ok (.enter g args) w)
  (hc: ∀x y r,t.ok x→t.ok y→cmp x y=some r→∃R,Ct P g [.agg (cl t x []).toArray,.agg (cl t y []).toArray] [] [] R∧∀v H',R v H'→v=.int .i64 r)
  (xs r:List t.den) (hm:xs.length<4611686018427387904) (hr:srtF cmp xs=some r):
  Ct P f [.slice A xs.length c,.func (.func g) #[] #[]] [(0,.own t e A c xs)] (obl A) (fun v H'=>v=.tuple #[]∧H'=[(0,.own t e A c r)]∧r.length=xs.length):=fun w F hh=>by
 subst hf
 obtain⟨hord,hr⟩:ordB cmp xs=true∧srtL (cl0 cmp) xs=r:=by
  unfold srtF at hr
  split at hr
  ·rename_i h;exact⟨h,Option.some.inj hr⟩
  ·cases hr
 obtain⟨O,tot⟩:=ordB_on hord
 have hlen:r.length=xs.length:=by rw[←hr];exact(srtL_perm (cl0 cmp) xs).length_eq
 obtain⟨cells,hrow,h1,h2⟩:Own t e 0 w (Fh ⟨0,[],w,obl A,F⟩ [(0,.own t e A c xs)]) A c xs:=hh.hold 0 _ rfl
 have hok: ∀x∈xs,t.ok x:=fun x hx=>by
  obtain⟨i,hi⟩:=List.getElem?_of_mem hx
  exact rep_ok t (h2 i x hi)
 by_cases hx0:xs=[]
 ·subst hx0
  obtain rfl:r=[]:=by rw[←hr];rfl
  refine(AnyF.slices_SortFunc_none L A c _ w).mono ?_
  rintro e' w' ⟨rfl,rfl⟩
  exact⟨_,_,rfl,⟨rfl,rfl,rfl⟩,hh⟩
 rcases hrow.2 with⟨hv,hn⟩|⟨b,cap,cur,hv,hb,hg,hnc,hcm,hcs,htake⟩
 ·exact absurd (List.eq_nil_of_length_eq_zero hn) hx0
 injection hv with hA _ hcap
 subst hA;subst hcap
 have hglt:b<w.heap.size:=(Array.getElem?_eq_some_iff.1 hg).1
 have hk:=pos_size t
 have hbound: ∀{n i j:Nat},i<n→j<t.size→i*t.size+j<n*t.size:=fun {n i j} hi hj=>by
  have:=Nat.mul_le_mul_right t.size (show i+1≤n from hi);rw[Nat.add_mul,Nat.one_mul]at this;omega
 have hcell: ∀i x,xs[i]?=some x→∀j,j<t.size→cur[i*t.size+j]?=(cl t x [])[j]?:=fun i x hx j hj=>by
  have h3:=rep_cl0 ht (h2 i x hx)
  have hi:=(List.getElem?_eq_some_iff.1 hx).1
  rw[←h3,List.getElem?_take_of_lt hj,List.getElem?_drop,←htake,List.getElem?_take,if_pos (hbound hi hj)]
  simp
 haveI:Inhabited {x // x∈xs}:=⟨⟨xs.head hx0,List.head_mem hx0⟩⟩
 let enc:{x // x∈xs}→List Value:=fun x=>cl t x.1 []
 have he: ∀x,(enc x).length=t.size:=fun x=>cl_len x.1 [] ht
 let cf:{x // x∈xs}→{x // x∈xs}→Int:=fun x y=>(cmp x.1 y.1).getD 0
 have hlt: ∀x y,ltOf cf x y=cl0 cmp x.1 y.1:=fun x y=>by
  obtain⟨c0,h0⟩:=tot x.1 x.2 y.1 y.2
  show decide ((cmp x.1 y.1).getD 0<0)=_
  unfold cl0;rw[h0];rfl
 have hO:SWO (ltOf cf):=by
  refine⟨fun x=>?_,fun x y z h3 h4=>?_,fun x y z h3 h4=>?_⟩
  ·rw[hlt]
   cases h3:cl0 cmp x.1 x.1 with
   |false=>rfl
   |true=>rw[O.asym _ x.2 _ x.2 h3]at h3;cases h3
  ·rw[hlt]at h3 h4 ⊢;exact O.trans _ x.2 _ y.2 _ z.2 h3 h4
  ·rw[hlt]at h3 h4 ⊢;exact O.nt x.2 y.2 z.2 h3 h4
 obtain⟨d,hd⟩: ∃d:Array {x // x∈xs},d=xs.attach.toArray:=⟨_,rfl⟩
 have hds:d.size=xs.length:=by rw[hd];simp
 have hdg: ∀(i:Nat) (x:{x // x∈xs}),d[i]?=some x→xs[i]?=some x.1:=fun i x hx=>by
  rw[hd,List.getElem?_toArray]at hx
  have:=congrArg (Option.map Subtype.val) hx
  rw[←List.getElem?_map,List.attach_map_subtype_val]at this;exact this
 have hH:HoldsK enc t.size w b 0 d:=fun j hj=>by
  rw[size_flatK]at hj
  have hi:j / t.size<d.size:=Nat.div_lt_of_lt_mul (by rwa[Nat.mul_comm]at hj)
  have hu:=Nat.mod_lt j hk
  have hje:j / t.size*t.size+j%t.size=j:=Nat.div_add_mod' j t.size
  have hx:d[j / t.size]?=some d[j / t.size]:=Array.getElem?_eq_getElem hi
  obtain⟨_,h4⟩:=flat_get enc t.size d hx hu
  rw[hje]at h4
  have h5:=hcell _ _ (hdg _ _ hx) _ hu
  rw[hje]at h5
  refine⟨?_,by simp[World.frozen?,hg]⟩
  rw[Nat.zero_add,cell_of_row w b j cur e (0,0) hg,h5,h4]
  have hl:j%t.size<(enc d[j / t.size]).length:=by rw[he];exact hu
  have e9:(enc d[j / t.size])[j%t.size]?=some ((enc d[j / t.size])[j%t.size]!):=lgetb hl
  exact e9
 have hcl:CmpLays P g #[] enc t.size cf b 0 d.size w:=fun m os dk _ x y=>by
  obtain⟨c0,h0⟩:=tot x.1 x.2 y.1 y.2
  obtain⟨R,h3,h4⟩:=hc x.1 y.1 c0 (hok _ x.2) (hok _ y.2) h0
  have:cf x y=c0:=by show(cmp x.1 y.1).getD 0=c0;rw[h0];rfl
  rw[this]
  exact Ct.cmp h3 h4 _
 have key:=AnyQ.slices_SortFunc L t.size aE zE enc he (fun x v hv=>cl_one x.1 [] ht v hv) cf hO g #[] b 0 c d w eg hcl hH hglt (by rw[hds];exact hm)
 rw[hds]at key
 refine key.mono ?_
 rintro e' w' ⟨rfl,d',n,os,hp,hs,rfl⟩
 clear key
 obtain⟨hsz,_,hperm⟩:=hp
 have hsz2:d'.size=xs.length:=hsz.trans hds
 have hys:d'.toList.map Subtype.val=r:=by
  rw[←hr]
  refine srt_uniq O ?_ ?_
  ·have h3:d'.toList.Perm d.toList:=by
    have e1:d'.extract 0 xs.length=d':=by rw[←hsz2];exact Array.extract_size
    have e2:d.extract 0 xs.length=d:=by rw[←hds];exact Array.extract_size
    rw[e1,e2]at hperm;exact hperm
   have h4:=h3.map Subtype.val
   rw[hd]at h4
   have h5:xs.attach.toArray.toList.map Subtype.val=xs:=List.attach_map_subtype_val xs
   rw[h5]at h4;exact h4
  ·refine List.pairwise_iff_getElem.2 fun i j hi hj hij=>?_
   rw[List.length_map,Array.length_toList]at hi hj
   have h3:=hs i j (Nat.zero_le _) hij (by omega)
   rw[hlt,getElem!_pos d' j (by omega),getElem!_pos d' i (by omega)]at h3
   simpa using h3
 have hrg: ∀(i:Nat) (x:t.den),r[i]?=some x→∃y,d'[i]?=some y∧y.1=x:=fun i x hx=>by
  rw[←hys,List.getElem?_map,Array.getElem?_toList]at hx
  obtain⟨y,h3,h4⟩:=Option.map_eq_some_iff.1 hx
  exact⟨y,h3,h4⟩
 generalize hcd:putCells id 0 (flatK enc t.size d') cur=cur'
 have hheap:(sortWorldK enc t.size w b 0 n d' os).heap[b]?=some (.cells cur' e (0,0)):=by
  show((w.heap.modify b (onCells (putCells id 0 (flatK enc t.size d'))))++os)[b]?=_
  rw[Array.getElem?_append_left (by simpa using hglt),Array.getElem?_modify,if_pos rfl,hg]
  simp only[Option.map_some,onCells,hcd]
 have hch:Ch [b] w (sortWorldK enc t.size w b 0 n d' os):=by
  refine⟨rfl,rfl,rfl,?_,fun k hk hn2=>?_⟩
  ·show w.heap.size≤((w.heap.modify b (onCells (putCells id 0 (flatK enc t.size d'))))++os).size
   simp
  ·show((w.heap.modify b (onCells (putCells id 0 (flatK enc t.size d'))))++os)[k]?=_
   rw[Array.getElem?_append_left (by simpa using hk),Array.getElem?_modify,if_neg (fun e=>hn2 (List.mem_singleton.2 e.symm))]
 have hcs':cur'.size=cur.size:=by rw[←hcd];simp[putCells]
 have hnk:xs.length*t.size≤cur.size:=by rw[hcs];exact Nat.mul_le_mul_right _ hnc
 have hget: ∀(i:Nat) (y:{x // x∈xs}),d'[i]?=some y→∀j,j<t.size→cur'[i*t.size+j]?=(cl t y.1 [])[j]?:=fun i y hy j hj=>by
  have hi:=(Array.getElem?_eq_some_iff.1 hy).1
  obtain⟨h3,h4⟩:=flat_get enc t.size d' hy hj
  have hb2:i*t.size+j<cur.size:=Nat.lt_of_lt_of_le (hbound (by omega) hj) hnk
  rw[←hcd,put_id,Array.getElem?_eq_getElem hb2,Option.map_some,if_pos (by rw[size_flatK];exact h3),h4]
  have hl:j<(enc y).length:=by rw[he];exact hj
  show some (enc y)[j]! =(enc y)[j]?
  exact(lgetb hl).symm
 have hown: ∀F':Nat→Prop,Own t e 0 (sortWorldK enc t.size w b 0 n d' os) F' (some ⟨b,0,none⟩) c r:=fun F'=>by
  refine⟨cur'.toList.take (r.length*t.size),⟨?_,.inr ⟨b,c,cur',rfl,Nat.zero_le _,hheap,by omega,hcm,by rw[hcs',hcs],rfl⟩⟩,fun u hu=>?_,fun i x hx=>?_⟩
  ·rw[List.length_take,Array.length_toList (xs:=cur'),hlen,hcs'];omega
  ·obtain⟨j,hj,rfl⟩:=List.getElem_of_mem hu
   rw[List.length_take]at hj
   have hj2:j<r.length*t.size:=by omega
   have hje:j / t.size*t.size+j%t.size=j:=Nat.div_add_mod' j t.size
   have hi:j / t.size<d'.size:=by rw[hsz2,←hlen];exact Nat.div_lt_of_lt_mul (by rwa[Nat.mul_comm]at hj2)
   have h3:=hget _ _ (Array.getElem?_eq_getElem hi) _ (Nat.mod_lt j hk)
   rw[hje]at h3
   rw[List.getElem_take]
   have hjc:j<cur'.size:=by have:=hj;rw[Array.length_toList (xs:=cur')]at this;omega
   rw[Array.getElem?_eq_getElem hjc]at h3
   rw[Array.getElem_toList]
   exact cl_one _ [] ht _ (List.mem_of_getElem? h3.symm)
  ·obtain⟨y,hy,rfl⟩:=hrg i x hx
   have hi:=(List.getElem?_eq_some_iff.1 hx).1
   have e1:((cur'.toList.take (r.length*t.size)).drop (i*t.size)).take t.size=cl t y.1 []:=by
    refine List.ext_getElem? fun j=>?_
    by_cases hj:j<t.size
    ·rw[List.getElem?_take_of_lt hj,List.getElem?_drop,List.getElem?_take,if_pos (hbound hi hj),Array.getElem?_toList]
     exact hget i y hy j hj
    ·rw[List.getElem?_eq_none (by rw[List.length_take];omega),List.getElem?_eq_none (by rw[cl_len _ _ ht];omega)]
   rw[e1]
   obtain⟨i0,hi0⟩:=List.getElem?_of_mem y.2
   have h3:=h2 i0 y.1 hi0
   rw[rep_cl0 ht h3]at h3
   exact rep_flat t ht (rep_to (F':=no) (rep_flat (F':=no) t ht h3) hch (fun _ h _=>h.elim))
 refine⟨_,[(0,.own t e (some ⟨b,0,none⟩) c r)],rfl,⟨rfl,rfl,hlen⟩,?_⟩
 have h3:=Hp.ren (Hp.upd (k:=0) (r':=.own t e (some ⟨b,0,none⟩) c r) hh hch (fun k hb2=>⟨_,rfl,hb2⟩) (fun k hb2=>.inl ⟨_,rfl,hb2⟩) (fun j hj=>by cases hj) fun F' B _ _ _ _ _=>hown _) [(0,0)] rfl rfl
 exact⟨h3.ch,h3.hold,h3.bnd,h3.dis,h3.ref⟩
end Go.A
end
section
set_option linter.unusedVariables false
set_option linter.unusedSimpArgs false
namespace Go.A
open Go.RowKit Go.Z Go.Shelf Go.Proofs
def dem {α β:Type}[DecidableEq β](m:List α)(sn:List Nat)(e:Option β)(g:Nat→α→Option β):Option β:=
 match(List.range m.length).filter (fun i=> !(sn.contains i))with
 | []=>e
 |i::js=>(m[i]?).bind fun p=>if(js.all fun j=>decide (((m[j]?).bind fun q=>g j q)=g i p))=true then g i p else none
theorem dem_some {α β:Type}[DecidableEq β]{m:List α}{sn:List Nat}{e:Option β}{g:Nat→α→Option β}{r:β}(h:dem m sn e g=some r):
  ((∀i,i<m.length→i∈sn)→e=some r)∧∀i p,m[i]?=some p→i∉sn→g i p=some r:=by
 have hmem: ∀i,i∈(List.range m.length).filter (fun i=> !(sn.contains i))↔i<m.length∧i∉sn:=fun i=>by
  rw[List.mem_filter,List.mem_range];simp
 unfold dem at h
 split at h
 ·rename_i hl
  rw[hl]at hmem
  exact⟨fun _=>h,fun i p hp hn=>absurd ((hmem i).2 ⟨(List.getElem?_eq_some_iff.1 hp).1,hn⟩) (by simp)⟩
 ·rename_i i js hl
  rw[hl]at hmem
  have hi:=(hmem i).1 (List.mem_cons_self ..)
  refine⟨fun hall=>absurd (hall i hi.1) hi.2,fun j q hq hn=>?_⟩
  rw[List.getElem?_eq_getElem hi.1,Option.bind_some]at h
  split at h
  ·rename_i hall
   rcases List.mem_cons.1 ((hmem j).2 ⟨(List.getElem?_eq_some_iff.1 hq).1,hn⟩)with rfl|hj
   ·rw[List.getElem?_eq_getElem hi.1]at hq
    obtain rfl:=Option.some.inj hq
    exact h
   ·have:=of_decide_eq_true (List.all_eq_true.1 hall j hj)
    rw[hq,Option.bind_some]at this
    rw[this];exact h
  ·cases h
section
variable {r:Option Nat}{P:Program}{Q:Exit→Act→World→Prop}{C:Cx}{l:List (Nat×Value)}{H:List (Nat×Res)}{ops:Array Oper}{rest:List Oper}{T:TypeId}{pos:String}{af:Array Edge}{d:Nat}
end
end Go.A
end
section
set_option linter.unusedVariables false
set_option maxRecDepth 100000
namespace Go.Proofs.YtlbnpmfggfbdoaaGreatDoor
open Go.RowKit Go.Shelf Go.Lib
def Tryz.laysSortFunc42_ren:Go.Shelf.Ren:=⟨fun|6=>42|15=>79|14=>78|28=>120|29=>121|20=>112|21=>113|22=>114|23=>115|24=>116|25=>117|26=>118|27=>119|46=>152|47=>153|48=>154|49=>155|50=>156|57=>179|n=>n,fun|22=>27|24=>58|25=>94|3=>3|39=>129|0=>0|53=>167|55=>169|4=>4|46=>160|45=>159|50=>164|5=>5|9=>9|66=>199|70=>203|76=>220|77=>180|n=>n,fun|n=>n⟩
theorem Tryz.laysSortFunc42:Go.Proofs.SlLaysF0.n6 Tryz.prog Tryz.laysSortFunc42_ren where
 mixed:=by kernel_rfl
 f6:=⟨"slices.SortFunc[[]rivulet/api.Path,rivulet/api.Path]",by decide,Tryz.func42.trans (congrArg some (by kernel_rfl))⟩
 f14:=⟨"slices.pdqsortCmpFunc[rivulet/api.Path]",by decide,Tryz.func78.trans (congrArg some (by kernel_rfl))⟩
 f15:=Tryz.func79.trans (congrArg some (by kernel_rfl))
 f20:=⟨"slices.insertionSortCmpFunc[rivulet/api.Path]",by decide,Tryz.func112.trans (congrArg some (by kernel_rfl))⟩
 f21:=⟨"slices.heapSortCmpFunc[rivulet/api.Path]",by decide,Tryz.func113.trans (congrArg some (by kernel_rfl))⟩
 f22:=⟨"slices.breakPatternsCmpFunc[rivulet/api.Path]",by decide,Tryz.func114.trans (congrArg some (by kernel_rfl))⟩
 f23:=⟨"slices.choosePivotCmpFunc[rivulet/api.Path]",by decide,Tryz.func115.trans (congrArg some (by kernel_rfl))⟩
 f24:=⟨"slices.reverseRangeCmpFunc[rivulet/api.Path]",by decide,Tryz.func116.trans (congrArg some (by kernel_rfl))⟩
 f25:=⟨"slices.partialInsertionSortCmpFunc[rivulet/api.Path]",by decide,Tryz.func117.trans (congrArg some (by kernel_rfl))⟩
 f26:=⟨"slices.partitionEqualCmpFunc[rivulet/api.Path]",by decide,Tryz.func118.trans (congrArg some (by kernel_rfl))⟩
 f27:=⟨"slices.partitionCmpFunc[rivulet/api.Path]",by decide,Tryz.func119.trans (congrArg some (by kernel_rfl))⟩
 f28:=Tryz.func120.trans (congrArg some (by kernel_rfl))
 f29:=Tryz.func121.trans (congrArg some (by kernel_rfl))
 f46:=⟨"slices.siftDownCmpFunc[rivulet/api.Path]",by decide,Tryz.func152.trans (congrArg some (by kernel_rfl))⟩
 f47:=Tryz.func153.trans (congrArg some (by kernel_rfl))
 f48:=Tryz.func154.trans (congrArg some (by kernel_rfl))
 f49:=⟨"slices.medianAdjacentCmpFunc[rivulet/api.Path]",by decide,Tryz.func155.trans (congrArg some (by kernel_rfl))⟩
 f50:=⟨"slices.medianCmpFunc[rivulet/api.Path]",by decide,Tryz.func156.trans (congrArg some (by kernel_rfl))⟩
 f57:=⟨"slices.order2CmpFunc[rivulet/api.Path]",by decide,Tryz.func179.trans (congrArg some (by kernel_rfl))⟩
 t0:=Tryz.underlying0
 a0:=Tryz.isAgg0
 z0:=Tryz.sizeOf0
 v0:=Tryz.zeroValue0
 t3:=Tryz.underlying3
 a3:=Tryz.isAgg3
 z3:=Tryz.sizeOf3
 v3:=Tryz.zeroValue3
 t4:=Tryz.underlying4
 a4:=Tryz.isAgg4
 z4:=Tryz.sizeOf4
 v4:=Tryz.zeroValue4
 t5:=Tryz.underlying5
 a5:=Tryz.isAgg5
 z5:=Tryz.sizeOf5
 v5:=Tryz.zeroValue5
 t9:=Tryz.underlying9
 a9:=Tryz.isAgg9
 z9:=Tryz.sizeOf9
 v9:=Tryz.zeroValue9
 t22:=Tryz.underlying27
 a22:=Tryz.isAgg27
 z22:=Tryz.sizeOf27
 v22:=Tryz.zeroValue27
 t25:=Tryz.underlying94
 a25:=Tryz.isAgg94
 z25:=Tryz.sizeOf94
 v25:=Tryz.zeroValue94
 t39:=Tryz.underlying129
 a39:=Tryz.isAgg129
 z39:=Tryz.sizeOf129
 v39:=Tryz.zeroValue129
 t45:=Tryz.underlying159
 a45:=Tryz.isAgg159
 z45:=Tryz.sizeOf159
 v45:=Tryz.zeroValue159
 t46:=Tryz.underlying160
 a46:=Tryz.isAgg160
 z46:=Tryz.sizeOf160
 v46:=Tryz.zeroValue160
 t50:=Tryz.underlying164
 a50:=Tryz.isAgg164
 z50:=Tryz.sizeOf164
 v50:=Tryz.zeroValue164
 t53:=Tryz.underlying167
 a53:=Tryz.isAgg167
 z53:=Tryz.sizeOf167
 v53:=Tryz.zeroValue167
 t55:=Tryz.underlying169
 a55:=Tryz.isAgg169
 z55:=Tryz.sizeOf169
 v55:=Tryz.zeroValue169
 t66:=Tryz.underlying199
 a66:=Tryz.isAgg199
 z66:=Tryz.sizeOf199
 v66:=Tryz.zeroValue199
 t70:=Tryz.underlying203
 a70:=Tryz.isAgg203
 z70:=Tryz.sizeOf203
 v70:=Tryz.zeroValue203
 t76:=Tryz.underlying220
 a76:=Tryz.isAgg220
 z76:=Tryz.sizeOf220
 v76:=Tryz.zeroValue220
 t77:=Tryz.underlying180
 a77:=Tryz.isAgg180
 z77:=Tryz.sizeOf180
 v77:=Tryz.zeroValue180
def Tryz.laysSortFunc109_ren:Go.Shelf.Ren:=⟨fun|6=>109|15=>79|14=>149|28=>120|29=>121|20=>170|21=>171|22=>172|23=>173|24=>174|25=>175|26=>176|27=>177|46=>187|47=>153|48=>154|49=>188|50=>189|57=>191|n=>n,fun|22=>49|24=>45|25=>142|3=>3|39=>129|0=>0|53=>167|55=>169|4=>4|46=>160|45=>159|50=>164|5=>5|9=>9|66=>199|70=>203|76=>220|77=>180|n=>n,fun|n=>n⟩
theorem Tryz.laysSortFunc109:Go.Proofs.SlLaysF0.n6 Tryz.prog Tryz.laysSortFunc109_ren where
 mixed:=by kernel_rfl
 f6:=⟨"slices.SortFunc[[]rivulet/api.Sum,rivulet/api.Sum]",by decide,Tryz.func109.trans (congrArg some (by kernel_rfl))⟩
 f14:=⟨"slices.pdqsortCmpFunc[rivulet/api.Sum]",by decide,Tryz.func149.trans (congrArg some (by kernel_rfl))⟩
 f15:=Tryz.func79.trans (congrArg some (by kernel_rfl))
 f20:=⟨"slices.insertionSortCmpFunc[rivulet/api.Sum]",by decide,Tryz.func170.trans (congrArg some (by kernel_rfl))⟩
 f21:=⟨"slices.heapSortCmpFunc[rivulet/api.Sum]",by decide,Tryz.func171.trans (congrArg some (by kernel_rfl))⟩
 f22:=⟨"slices.breakPatternsCmpFunc[rivulet/api.Sum]",by decide,Tryz.func172.trans (congrArg some (by kernel_rfl))⟩
 f23:=⟨"slices.choosePivotCmpFunc[rivulet/api.Sum]",by decide,Tryz.func173.trans (congrArg some (by kernel_rfl))⟩
 f24:=⟨"slices.reverseRangeCmpFunc[rivulet/api.Sum]",by decide,Tryz.func174.trans (congrArg some (by kernel_rfl))⟩
 f25:=⟨"slices.partialInsertionSortCmpFunc[rivulet/api.Sum]",by decide,Tryz.func175.trans (congrArg some (by kernel_rfl))⟩
 f26:=⟨"slices.partitionEqualCmpFunc[rivulet/api.Sum]",by decide,Tryz.func176.trans (congrArg some (by kernel_rfl))⟩
 f27:=⟨"slices.partitionCmpFunc[rivulet/api.Sum]",by decide,Tryz.func177.trans (congrArg some (by kernel_rfl))⟩
 f28:=Tryz.func120.trans (congrArg some (by kernel_rfl))
 f29:=Tryz.func121.trans (congrArg some (by kernel_rfl))
 f46:=⟨"slices.siftDownCmpFunc[rivulet/api.Sum]",by decide,Tryz.func187.trans (congrArg some (by kernel_rfl))⟩
 f47:=Tryz.func153.trans (congrArg some (by kernel_rfl))
 f48:=Tryz.func154.trans (congrArg some (by kernel_rfl))
 f49:=⟨"slices.medianAdjacentCmpFunc[rivulet/api.Sum]",by decide,Tryz.func188.trans (congrArg some (by kernel_rfl))⟩
 f50:=⟨"slices.medianCmpFunc[rivulet/api.Sum]",by decide,Tryz.func189.trans (congrArg some (by kernel_rfl))⟩
 f57:=⟨"slices.order2CmpFunc[rivulet/api.Sum]",by decide,Tryz.func191.trans (congrArg some (by kernel_rfl))⟩
 t0:=Tryz.underlying0
 a0:=Tryz.isAgg0
 z0:=Tryz.sizeOf0
 v0:=Tryz.zeroValue0
 t3:=Tryz.underlying3
 a3:=Tryz.isAgg3
 z3:=Tryz.sizeOf3
 v3:=Tryz.zeroValue3
 t4:=Tryz.underlying4
 a4:=Tryz.isAgg4
 z4:=Tryz.sizeOf4
 v4:=Tryz.zeroValue4
 t5:=Tryz.underlying5
 a5:=Tryz.isAgg5
 z5:=Tryz.sizeOf5
 v5:=Tryz.zeroValue5
 t9:=Tryz.underlying9
 a9:=Tryz.isAgg9
 z9:=Tryz.sizeOf9
 v9:=Tryz.zeroValue9
 t22:=Tryz.underlying49
 a22:=Tryz.isAgg49
 z22:=Tryz.sizeOf49
 v22:=Tryz.zeroValue49
 t25:=Tryz.underlying142
 a25:=Tryz.isAgg142
 z25:=Tryz.sizeOf142
 v25:=Tryz.zeroValue142
 t39:=Tryz.underlying129
 a39:=Tryz.isAgg129
 z39:=Tryz.sizeOf129
 v39:=Tryz.zeroValue129
 t45:=Tryz.underlying159
 a45:=Tryz.isAgg159
 z45:=Tryz.sizeOf159
 v45:=Tryz.zeroValue159
 t46:=Tryz.underlying160
 a46:=Tryz.isAgg160
 z46:=Tryz.sizeOf160
 v46:=Tryz.zeroValue160
 t50:=Tryz.underlying164
 a50:=Tryz.isAgg164
 z50:=Tryz.sizeOf164
 v50:=Tryz.zeroValue164
 t53:=Tryz.underlying167
 a53:=Tryz.isAgg167
 z53:=Tryz.sizeOf167
 v53:=Tryz.zeroValue167
 t55:=Tryz.underlying169
 a55:=Tryz.isAgg169
 z55:=Tryz.sizeOf169
 v55:=Tryz.zeroValue169
 t66:=Tryz.underlying199
 a66:=Tryz.isAgg199
 z66:=Tryz.sizeOf199
 v66:=Tryz.zeroValue199
 t70:=Tryz.underlying203
 a70:=Tryz.isAgg203
 z70:=Tryz.sizeOf203
 v70:=Tryz.zeroValue203
 t76:=Tryz.underlying220
 a76:=Tryz.isAgg220
 z76:=Tryz.sizeOf220
 v76:=Tryz.zeroValue220
 t77:=Tryz.underlying180
 a77:=Tryz.isAgg180
 z77:=Tryz.sizeOf180
 v77:=Tryz.zeroValue180
end Go.Proofs.YtlbnpmfggfbdoaaGreatDoor
end
section
set_option linter.unusedVariables false
set_option linter.unusedSimpArgs false
set_option maxRecDepth 20000
set_option maxHeartbeats 8000000
set_option synthInstance.maxSize 1000000
set_option synthInstance.maxHeartbeats 400000
namespace Go.Proofs.YtlbnpmfggfbdoaaGreatDoor
open Go.RowKit
def F.slices_Clone_api_Sum_api_Sum (a0:(List D44)):Option (List D44):=A.gd ((List.length (α:=D44) []+List.length (α:=D44) a0)*64≤140737488355328) (some ([]++a0))
theorem slices_Clone_api_Sum_api_Sum_ok (a0:(List D44))(A0_:Option Addr)(c1_:Nat)(r:(List D44))(hF:F.slices_Clone_api_Sum_api_Sum a0=some r):
    A.Ct Tryz.prog 53 [.slice A0_ ((a0).length) c1_] [(0,.ln T44 A0_ c1_ a0)] [] (fun v H'=>∃(A0':Option Addr) (c1':Nat),v=.slice A0' ((r).length) c1'∧H'=[(0,.own T44 45 A0' c1' r)]):=by
 refine A.Ct.enter Tryz.func53 rfl Tryz.ntmps53 rfl fun w0 F0=>?_
 rw[F.slices_Clone_api_Sum_api_Sum]at hF
 refine A.xl 1 ?_
 refine A.q0 [] [] [.n] [] ?_
 refine A.dl 3 ?_
 refine A.q0 [] [] [.n,.n] [(4,.bool A0_.isNone)] ?_
 refine A.dx 1 ?_
 refine A.AX.cnn rfl (fun hb=>?_) (fun hb=>?_)
 ·refine A.nilL 0 hb fun hb=>?_
  subst hb
  replace hF:some []=some r:=by simpa[A.gd,A.ix] using hF
  refine A.xl 1 ?_
  refine A.q0 [] [] [.n] [(2,.slice none 0 0)] ?_
  refine A.dx 1 ?_
  obtain rfl:=Option.some.inj hF
  refine A.nil 2 T44 45 ?_
  exact A.rt1 [(0,2)] ⟨none,0,rfl,rfl⟩
 refine A.xl 3 ?_
 refine A.AL.bs0 1 T44 (fun g1=>?_) Tryz.sizeOf45
 refine A.q0 [] [] [.n] [(6,.slice A0_ ((a0).length) c1_)] ?_
 obtain⟨hl4,hF⟩:=A.gd_some hF
 refine A.AL.app (k:=1) [] (A.rowL (k:=0) rfl) inf45 hl4 fun A2 c3=>?_
 refine A.q0 [] [] [.n] [(2,.slice A2 (([]++a0).length) c3)] ?_
 refine A.dx 1 ?_
 obtain rfl:=Option.some.inj hF
 exact A.rt1 [(0,1)] ⟨A2,c3,rfl,rfl⟩
def F.paths_Sums_l1 (a0:(List D57))(a1:D39)(a2:D39):Nat→Int→Option (List D44)
 |0,_=>none
 |f+1,y3=>if y3<((a0).length:Int)then((A.ix a0 y3).bind fun x6=>(if((x6.1.1,x6.1.2),(x6.2.1.1,x6.2.1.2))=((a1.1,a1.2),(a2.1,a2.2))then((F.slices_Clone_api_Sum_api_Sum x6.2.2).bind fun r14=>(some r14))else(A.gd (Z.R64 (y3+1)) ((F.paths_Sums_l1 a0 a1 a2 f) (y3+1)))))else(some [])
def F.paths_Sums (a0:(List D57))(a1:D39)(a2:D39):Option (List D44):=F.paths_Sums_l1 a0 a1 a2 A.FU 0
theorem paths_Sums_ok (a0:(List D57))(a1:D39)(a2:D39)(A0_:Option Addr)(c1_:Nat)(h2_:IntKind.i64.has a1.1)(h3_:IntKind.i64.has a1.2)(h4_:IntKind.i64.has a2.1)(h5_:IntKind.i64.has a2.2)(r:(List D44))(hF:F.paths_Sums a0 a1 a2=some r):
    A.Ct Tryz.prog 17 [.slice A0_ ((a0).length) c1_,.agg #[.int .i64 a1.1,.int .i64 a1.2],.agg #[.int .i64 a2.1,.int .i64 a2.2]] [(0,.ln T57 A0_ c1_ a0)] [] (fun v H'=>∃(A0':Option Addr) (c1':Nat),v=.slice A0' ((r).length) c1'∧H'=[(0,.own T44 45 A0' c1' r)]):=by
 refine A.Ct.enter Tryz.func17 rfl Tryz.ntmps17 rfl fun w0 F0=>?_
 rw[F.paths_Sums]at hF
 refine A.xl 1 ?_
 refine A.AL.box 1 (cs:=[.int .i64 a1.1,.int .i64 a1.2]) fun g1=>?_
 refine A.AL.box 2 (cs:=[.int .i64 a2.1,.int .i64 a2.2]) fun g2=>?_
 refine A.q0 [] [] [.n] [] ?_
 refine A.dl 3 ?_
 refine A.q0 [] [] [.n,.n,.n] [(9,.slice A0_ ((a0).length) c1_),(10,.int .i64 ((a0).length:Int)),(11,.int .i64 0)] ?_
 refine A.dx 2 ?_
 refine A.lp_ [4,5,9,10] [0,1,2] (fun f nl nh=>∃(y3:Int),nl=[(11,.int .i64 y3)]∧nh=[]∧IntKind.i64.has y3∧F.paths_Sums_l1 a0 a1 a2 f y3=some r) ⟨0,rfl,rfl,(A.hasl .i64 (0) rfl),hF⟩ ?_
 rintro f5 _ _ ⟨y3,rfl,rfl,hy4,hF⟩
 rcases f5 with _|f5
 ·exact A.no0 hF
 rw[F.paths_Sums_l1]at hF
 refine A.xl 1 ?_
 refine A.q0 [] [] [.n] [(12,.bool (decide (y3<((a0).length:Int))))] ?_
 refine A.dx 2 ?_
 refine A.AX.cnd rfl hF (fun hb hF=>?_) (fun hb hF=>?_)
 ·refine A.xl 5 ?_
  obtain⟨x6,hv7,hF⟩:=A.bd_some hF
  refine A.AL.ixl 0 91 hv7 fun ho8=>?_
  intro A9 c10 b11 o12
  refine A.q0 [] [91] [.e 0 0] [(14,.agg #[.int .i64 x6.1.1,.int .i64 x6.1.2,.int .i64 x6.2.1.1,.int .i64 x6.2.1.2,.slice A9 ((x6.2.2).length) c10])] ?_
  refine A.AL.alloc 93 (cs:=[.int .i64 0,.int .i64 0,.int .i64 0,.int .i64 0,.slice none 0 0]) Tryz.zeroValue58 fun g13=>?_
  refine A.sw 93 [] [.int .i64 x6.1.1,.int .i64 x6.1.2,.int .i64 x6.2.1.1,.int .i64 x6.2.1.2,.slice A9 ((x6.2.2).length) c10] ?_
  refine A.dl 2 ?_
  refine A.q0 [93,1,2] [] [.n,.b 0 0,.n,.b 0 2,.n,.b 1 0,.b 2 0,.n] [(19,.agg #[.int .i64 x6.1.1,.int .i64 x6.1.2,.int .i64 x6.2.1.1,.int .i64 x6.2.1.2]),(22,.agg #[.int .i64 a1.1,.int .i64 a1.2,.int .i64 a2.1,.int .i64 a2.2])] ?_
  refine A.AL.val rfl (fun a w hf hh=>eqagg_eql89 (x:=((x6.1.1,x6.1.2),(x6.2.1.1,x6.2.1.2))) (y:=((a1.1,a1.2),(a2.1,a2.2))) (hf.eval rfl) (hf.eval rfl)) ?_
  refine A.dx 1 ?_
  refine A.AX.cnd rfl hF (fun hb hF=>?_) (fun hb hF=>?_)
  ·refine A.xl 1 ?_
   refine A.q0 [93] [] [.n,.b 0 4] [(25,.slice A9 ((x6.2.2).length) c10)] ?_
   obtain⟨r14,hv15,hF⟩:=A.bd_some hF
   refine A.AL.call 94 [] (first:=[]) (cap:=[]) cf53 (slices_Clone_api_Sum_api_Sum_ok x6.2.2 A9 c10 r14 hv15) (.l 92 .nil) ?_
   rintro _ _ ⟨A16,c17,rfl,rfl⟩
   refine⟨by kernel_rfl,?_⟩
   refine A.q0 [] [] [.n] [(6,.slice A16 ((r14).length) c17)] ?_
   refine A.dx 1 ?_
   obtain rfl:=Option.some.inj hF
   exact A.rt1 [(0,94)] ⟨A16,c17,rfl,rfl⟩
  refine A.xl 3 ?_
  obtain⟨hc18,hF⟩:=A.gd_some hF
  refine A.q [] [] [.n,.n] [Z.R64 (y3+1)] [(11,.int .i64 (y3+1))] hc18 ?_
  refine A.AL.done ?_
  exact A.j ⟨_,Nat.lt_succ_self _,⟨(y3+1),rfl,rfl,(Z.i64_has hc18),hF⟩⟩
 refine A.xl 3 ?_
 refine A.q0 [] [] [.n] [(6,.slice none 0 0)] ?_
 refine A.dx 1 ?_
 obtain rfl:=Option.some.inj hF
 refine A.nil 134 T44 45 ?_
 exact A.rt1 [(0,134)] ⟨none,0,rfl,rfl⟩
def F.graph_named_l1 (a0:ByteArray):Nat→Nat→Option Bool
 |0,_=>none
 |f+1,p2=>if p2<a0.size then(if(bif decide ((97:Int)≤((Utf8.decode a0 p2).1:Int))then decide (((Utf8.decode a0 p2).1:Int)≤122)else false)=true then((F.graph_named_l1 a0 f) (p2+(Utf8.decode a0 p2).2))else(if(!(bif decide ((65:Int)≤((Utf8.decode a0 p2).1:Int))then decide (((Utf8.decode a0 p2).1:Int)≤90)else false))=true then(if(bif bif decide ((p2:Int)=0)then true else decide (((Utf8.decode a0 p2).1:Int)<48)then true else decide ((57:Int)<((Utf8.decode a0 p2).1:Int)))=true then(some false)else((F.graph_named_l1 a0 f) (p2+(Utf8.decode a0 p2).2)))else((F.graph_named_l1 a0 f) (p2+(Utf8.decode a0 p2).2))))else(some (bif decide (a0≠(ByteArray.mk #[]))then decide ((a0.size:Int)≤16)else false))
def F.graph_named (a0:ByteArray):Option Bool:=F.graph_named_l1 a0 A.FU 0
theorem graph_named_ok (a0:ByteArray)(h0_:a0.size≤maxLen)(r:Bool)(hF:F.graph_named a0=some r):
    A.Ct Tryz.prog 135 [.string a0] [] [] (fun v H'=>v=.bool r∧H'=[]):=by
 refine A.Ct.enter Tryz.func135 rfl Tryz.ntmps135 rfl fun w0 F0=>?_
 rw[F.graph_named]at hF
 refine A.xl 1 ?_
 refine A.q0 [] [] [.n] [] ?_
 refine A.dl 3 ?_
 refine A.q0 [] [] [.n] [(6,.string a0)] ?_
 refine A.AL.rgs 0 fun g1=>?_
 refine A.dx 2 ?_
 refine A.lp_ [0,7] [] (fun f nl nh=>∃(p2:Nat),nl=[]∧nh=[(0,.si g1 a0 p2)]∧F.graph_named_l1 a0 f p2=some r) ⟨0,rfl,rfl,hF⟩ ?_
 rintro f3 _ _ ⟨p2,rfl,rfl,hF⟩
 rcases f3 with _|f3
 ·exact A.no0 hF
 rw[F.graph_named_l1]at hF
 refine A.xl 1 ?_
 refine A.AL.nxs 0 [] hF (fun hb4 hF=>?_) (fun hb hF=>?_)
 ·refine A.q0 [] [] [.n] [(9,.bool true)] ?_
  refine A.dx 2 ?_
  refine A.AX.cnt rfl ?_
  refine A.xl 4 ?_
  refine A.q0 [] [] [.n,.n,.n,.n] [(3,.int .i64 (p2:Int)),(4,.int .i32 ((Utf8.decode a0 p2).1:Int))] ?_
  refine A.dl 2 ?_
  refine A.q0 [] [] [.n,.n,.n,.sy .n,.sy .n,.pk,.n] [(18,.bool (bif decide ((97:Int)≤((Utf8.decode a0 p2).1:Int))then decide (((Utf8.decode a0 p2).1:Int)≤122)else false))] ?_
  refine A.AL.cnd (j:=18) rfl hF (fun hF=>?_) (fun hF=>?_)
  ·refine A.q0 [] [] [.off,.off,.off,.off,.off,.off,.n,.n] [(5,.bool true)] ?_
   refine A.dl 2 ?_
   refine A.q0 [] [] [.n,.n,.n,.off,.off,.off,.off,.off,.off,.off,.off,.off,.off,.n] [(39,.bool false)] ?_
   refine A.dx 1 ?_
   refine A.AX.cnf rfl ?_
   refine A.xe 2 ?_
   exact A.j ⟨_,Nat.lt_succ_self _,⟨(p2+(Utf8.decode a0 p2).2),rfl,rfl,hF⟩⟩
  refine A.q0 [] [] [.on .n,.on .n,.on .n,.sy .n,.sy .n,.on .pk,.n,.n] [(5,.bool (bif decide ((65:Int)≤((Utf8.decode a0 p2).1:Int))then decide (((Utf8.decode a0 p2).1:Int)≤90)else false))] ?_
  refine A.dl 2 ?_
  refine A.q0 [] [] [.n,.n,.n] [(28,.bool (!(bif decide ((65:Int)≤((Utf8.decode a0 p2).1:Int))then decide (((Utf8.decode a0 p2).1:Int)≤90)else false)))] ?_
  refine A.AL.cnd (j:=28) rfl hF (fun hF=>?_) (fun hF=>?_)
  ·refine A.q0 [] [] [.on .n,.on .n,.on .n,.sy .n,.sy .n,.on .pk,.on .n,.sy .n,.sy .n,.on .pk,.n] [(39,.bool (bif bif decide ((p2:Int)=0)then true else decide (((Utf8.decode a0 p2).1:Int)<48)then true else decide ((57:Int)<((Utf8.decode a0 p2).1:Int))))] ?_
   refine A.dx 1 ?_
   refine A.AX.cnb rfl hF (fun hb hF=>?_) (fun hb hF=>?_)
   ·refine A.xl 1 ?_
    refine A.q0 [] [] [.n] [(2,.bool false)] ?_
    refine A.dx 1 ?_
    obtain rfl:=Option.some.inj hF
    exact A.rt1 [] ⟨rfl,rfl⟩
   refine A.xe 2 ?_
   exact A.j ⟨_,Nat.lt_succ_self _,⟨(p2+(Utf8.decode a0 p2).2),rfl,rfl,hF⟩⟩
  refine A.q0 [] [] [.off,.off,.off,.off,.off,.off,.off,.off,.off,.off,.n] [(39,.bool false)] ?_
  refine A.dx 1 ?_
  refine A.AX.cnf rfl ?_
  refine A.xe 2 ?_
  exact A.j ⟨_,Nat.lt_succ_self _,⟨(p2+(Utf8.decode a0 p2).2),rfl,rfl,hF⟩⟩
 refine A.q0 [] [] [.n] [(9,.bool false)] ?_
 refine A.dx 2 ?_
 refine A.AX.cnf rfl ?_
 refine A.xl 3 ?_
 refine A.q0 [] [] [.n,.n,.n,.sy .n,.sy .n,.sy .n,.pk,.n] [(2,.bool (bif decide (a0≠(ByteArray.mk #[]))then decide ((a0.size:Int)≤16)else false))] ?_
 refine A.dx 1 ?_
 obtain rfl:=Option.some.inj hF
 exact A.rt1 [] ⟨rfl,rfl⟩
def F.graph_Ins (a0:Int):Option Int:=if(bif decide (a0<1)then true else decide ((16:Int)<a0))=true then(some (-1))else(if a0=1 then(some 0)else(if(bif decide (a0=5)then true else decide (a0=9))=true then(some 2)else(some 1)))
theorem graph_Ins_ok (a0:Int)(h0_:IntKind.i64.has a0)(r:Int)(hF:F.graph_Ins a0=some r):
    A.Ct Tryz.prog 134 [.int .i64 a0] [] [] (fun v H'=>v=.int .i64 r∧H'=[]∧IntKind.i64.has r):=by
 refine A.Ct.enter Tryz.func134 rfl Tryz.ntmps134 rfl fun w0 F0=>?_
 rw[F.graph_Ins]at hF
 refine A.xl 1 ?_
 refine A.q0 [] [] [.n] [] ?_
 refine A.dl 4 ?_
 refine A.q0 [] [] [.n,.n,.n,.sy .n,.sy .n,.pk,.n] [(3,.bool (bif decide (a0<1)then true else decide ((16:Int)<a0)))] ?_
 refine A.dx 1 ?_
 refine A.AX.cnb rfl hF (fun hb hF=>?_) (fun hb hF=>?_)
 ·refine A.xl 1 ?_
  refine A.q0 [] [] [.n] [(2,.int .i64 (-1))] ?_
  refine A.dx 1 ?_
  obtain rfl:=Option.some.inj hF
  exact A.rt1 [] ⟨rfl,rfl,(A.hasl .i64 (-1) rfl)⟩
 refine A.xl 1 ?_
 refine A.q0 [] [] [.n,.n,.n] [(10,.bool (decide (a0=1)))] ?_
 refine A.dx 1 ?_
 refine A.AX.cnd rfl hF (fun hb hF=>?_) (fun hb hF=>?_)
 ·refine A.xl 1 ?_
  refine A.q0 [] [] [.n] [(2,.int .i64 0)] ?_
  refine A.dx 1 ?_
  obtain rfl:=Option.some.inj hF
  exact A.rt1 [] ⟨rfl,rfl,(A.hasl .i64 (0) rfl)⟩
 refine A.xl 1 ?_
 refine A.q0 [] [] [.n,.n,.n,.sy .n,.sy .n,.pk,.n] [(13,.bool (bif decide (a0=5)then true else decide (a0=9)))] ?_
 refine A.dx 1 ?_
 refine A.AX.cnb rfl hF (fun hb hF=>?_) (fun hb hF=>?_)
 ·refine A.xl 1 ?_
  refine A.q0 [] [] [.n] [(2,.int .i64 2)] ?_
  refine A.dx 1 ?_
  obtain rfl:=Option.some.inj hF
  exact A.rt1 [] ⟨rfl,rfl,(A.hasl .i64 (2) rfl)⟩
 refine A.xl 4 ?_
 refine A.q0 [] [] [.n] [(2,.int .i64 1)] ?_
 refine A.dx 1 ?_
 obtain rfl:=Option.some.inj hF
 exact A.rt1 [] ⟨rfl,rfl,(A.hasl .i64 (1) rfl)⟩
def F.graph_outside (a0:Int):Option Bool:=some (bif decide (a0=1)then true else decide (a0=15))
theorem graph_outside_ok (a0:Int)(h0_:IntKind.i64.has a0)(r:Bool)(hF:F.graph_outside a0=some r):
    A.Ct Tryz.prog 95 [.int .i64 a0] [] [] (fun v H'=>v=.bool r∧H'=[]):=by
 refine A.Ct.enter Tryz.func95 rfl Tryz.ntmps95 rfl fun w0 F0=>?_
 rw[F.graph_outside]at hF
 refine A.xl 1 ?_
 refine A.q0 [] [] [.n] [] ?_
 refine A.dl 2 ?_
 refine A.q0 [] [] [.n,.n,.n,.sy .n,.sy .n,.pk,.n] [(2,.bool (bif decide (a0=1)then true else decide (a0=15)))] ?_
 refine A.dx 1 ?_
 obtain rfl:=Option.some.inj hF
 exact A.rt1 [] ⟨rfl,rfl⟩
def F.graph_own_j1:Option Bool:=some false
def F.graph_own_j2 (a0:D83)(y2:Bool):Option Bool:=if y2=true then(F.graph_own_j1)else(if a0.2.1=14 then(if(bif bif bif decide (a0.2.2.2.2.2.1<1)then true else decide ((8:Int)<a0.2.2.2.2.2.1)then true else decide (a0.2.2.2.2.2.2<1)then true else decide ((4:Int)<a0.2.2.2.2.2.2))=true then(some false)else(if(!(decide (a0.2.1=14)))=true then(if(bif decide (a0.2.2.2.2.2.1≠0)then true else decide (a0.2.2.2.2.2.2≠0))=true then(some false)else((F.graph_outside a0.2.1).bind fun r3=>(if r3=true then((F.graph_named a0.2.2.2.2.1).bind fun r5=>(some r5))else(some (decide (a0.2.2.2.2.1=(ByteArray.mk #[])))))))else((F.graph_outside a0.2.1).bind fun r7=>(if r7=true then((F.graph_named a0.2.2.2.2.1).bind fun r9=>(some r9))else(some (decide (a0.2.2.2.2.1=(ByteArray.mk #[]))))))))else(if(!(decide (a0.2.1=14)))=true then(if(bif decide (a0.2.2.2.2.2.1≠0)then true else decide (a0.2.2.2.2.2.2≠0))=true then(some false)else((F.graph_outside a0.2.1).bind fun r11=>(if r11=true then((F.graph_named a0.2.2.2.2.1).bind fun r13=>(some r13))else(some (decide (a0.2.2.2.2.1=(ByteArray.mk #[])))))))else((F.graph_outside a0.2.1).bind fun r15=>(if r15=true then((F.graph_named a0.2.2.2.2.1).bind fun r17=>(some r17))else(some (decide (a0.2.2.2.2.1=(ByteArray.mk #[]))))))))
def F.graph_own (a0:D83):Option Bool:=if(bif decide (a0.1<1)then true else decide ((255:Int)<a0.1))=true then(F.graph_own_j1)else((F.graph_Ins a0.2.1).bind fun r19=>(if r19<0 then(F.graph_own_j2 a0 true)else((F.graph_Ins a0.2.1).bind fun r22=>(F.graph_own_j2 a0 (decide (((a0.2.2.1).length:Int)≠r22))))))
theorem graph_own_ok (a0:D83)(A2_:Option Addr)(c3_:Nat)(h0_:IntKind.i64.has a0.1)(h1_:IntKind.i64.has a0.2.1)(h4_:IntKind.i64.has a0.2.2.2.1.1)(h5_:IntKind.i64.has a0.2.2.2.1.2.1)(h6_:a0.2.2.2.1.2.2.size≤maxLen)(h7_:a0.2.2.2.2.1.size≤maxLen)(h8_:IntKind.i64.has a0.2.2.2.2.2.1)(h9_:IntKind.i64.has a0.2.2.2.2.2.2)(r:Bool)(hF:F.graph_own a0=some r):
    A.Ct Tryz.prog 98 [.agg #[.int .i64 a0.1,.int .i64 a0.2.1,.slice A2_ ((a0.2.2.1).length) c3_,.int .i64 a0.2.2.2.1.1,.int .i64 a0.2.2.2.1.2.1,.string a0.2.2.2.1.2.2,.string a0.2.2.2.2.1,.int .i64 a0.2.2.2.2.2.1,.int .i64 a0.2.2.2.2.2.2]] [(0,.sh (.slice (Z.Ty.int .i64)) [.slice A2_ (a0.2.2.1).length c3_] a0.2.2.1)] [] (fun v H'=>v=.bool r∧H'=[]):=by
 refine A.Ct.enter Tryz.func98 rfl Tryz.ntmps98 rfl fun w0 F0=>?_
 rw[F.graph_own]at hF
 refine A.xl 1 ?_
 refine A.AL.box 1 (cs:=[.int .i64 a0.1,.int .i64 a0.2.1,.slice A2_ ((a0.2.2.1).length) c3_,.int .i64 a0.2.2.2.1.1,.int .i64 a0.2.2.2.1.2.1,.string a0.2.2.2.1.2.2,.string a0.2.2.2.2.1,.int .i64 a0.2.2.2.2.2.1,.int .i64 a0.2.2.2.2.2.2]) fun g1=>?_
 refine A.q0 [] [] [.n] [] ?_
 refine A.dx 3 ?_
 refine A.AX.join [] [] (fun nl nh=>nl=[]∧nh=[]∧F.graph_own_j1=some r) ?_ ?_
 ·refine A.xl 5 ?_
  refine A.q0 [1] [] [.n,.b 0 0,.n,.n,.sy .n,.sy (.b 0 0),.sy .n,.pk,.n] [(4,.bool (bif decide (a0.1<1)then true else decide ((255:Int)<a0.1)))] ?_
  refine A.dx 1 ?_
  refine A.AX.cnb rfl hF (fun hb hF=>?_) (fun hb hF=>?_)
  ·refine A.xe 2 ?_
   exact A.j ⟨rfl,rfl,hF⟩
  refine A.xx 2 ?_
  refine A.AX.join [1] [0,1] (fun nl nh=>∃(y2:Bool),nl=[(13,.bool y2)]∧nh=[]∧F.graph_own_j2 a0 y2=some r) ?_ ?_
  ·refine A.AX.dr mixed 14 14 (A.mb 14 0) ?_
   refine A.hq A.pb [] [0,1] [1] [] (A.mb 14 3) 12 [(0,.n),(1,.b 0 1)] [(15,.int .i64 a0.2.1)] ?_
   refine A.AH.one 2 ?_
   obtain⟨r19,hv20,hF⟩:=A.bd_some hF
   refine A.AL.call 2 [] (first:=[]) (cap:=[]) cf134 (graph_Ins_ok a0.2.1 h1_ r19 hv20) .nil ?_
   rintro _ _ ⟨rfl,rfl,hr21⟩
   refine⟨by kernel_rfl,?_⟩
   refine A.AH.nx (A.mb 14 7) [0,1] ?_
   refine A.hq A.pb [0,1] [0,1] [] [] (A.mb 14 31) 9 [(3,.n),(4,.n)] [(18,.bool (decide (r19<0)))] ?_
   refine A.AH.cnp (j:=18) rfl hF (fun hb hF=>?_) (fun hb hF=>?_)
   ·refine A.hq A.pb [0,1] [0,1] [] [] (A.mb 14 16383) 0 [(5,.off),(8,.off),(6,.off),(9,.off),(7,.off),(10,.off),(11,.off),(12,.n),(13,.n)] [(13,.bool true)] ?_
    refine A.AH.done ?_
    exact A.j ⟨true,rfl,rfl,hF⟩
   refine A.hq A.pb [0,1] [0,1] [1] [] (A.mb 14 1023) 4 [(5,.on .n),(8,.on .n),(6,.on (.b 0 2)),(9,.on (.b 0 1)),(7,.on .n)] [(23,.int .i64 a0.2.1),(21,.int .i64 ((a0.2.2.1).length:Int))] ?_
   refine A.AH.one 10 ?_
   refine A.AL.on (dj:=18) rfl rfl ?_
   obtain⟨r22,hv23,hF⟩:=A.bd_some hF
   refine A.AL.call 42 [] (first:=[]) (cap:=[]) cf134 (graph_Ins_ok a0.2.1 h1_ r22 hv23) .nil ?_
   rintro _ _ ⟨rfl,rfl,hr24⟩
   refine⟨by kernel_rfl,?_⟩
   refine A.AH.nx (A.mb 14 2047) [0,1] ?_
   refine A.hq A.pb [0,1] [0,1] [] [] (A.mb 14 16383) 0 [(11,.on .n),(12,.n),(13,.n)] [(13,.bool (decide (((a0.2.2.1).length:Int)≠r22)))] ?_
   refine A.AH.done ?_
   exact A.j ⟨(decide (((a0.2.2.1).length:Int)≠r22)),rfl,rfl,hF⟩
  rintro _ _ ⟨y2,rfl,rfl,hF⟩
  rw[F.graph_own_j2]at hF
  refine A.AX.cnb rfl hF (fun hb hF=>?_) (fun hb hF=>?_)
  ·refine A.xe 1 ?_
   exact A.j ⟨rfl,rfl,hF⟩
  refine A.xl 5 ?_
  refine A.q0 [1] [] [.n,.b 0 1,.n,.n] [(3,.bool (decide (a0.2.1=14)))] ?_
  refine A.dl 3 ?_
  refine A.q0 [] [] [.n,.n] [(31,.bool (decide (a0.2.1=14)))] ?_
  refine A.AL.cnp (j:=31) rfl hF (fun hb hF=>?_) (fun hb hF=>?_)
  ·refine A.q0 [1] [] [.on .n,.on (.b 0 7),.on .n,.on .n,.sy .n,.sy (.b 0 7),.sy .n,.on .pk,.on .n,.sy .n,.sy (.b 0 8),.sy .n,.on .pk,.on .n,.sy .n,.sy (.b 0 8),.sy .n,.on .pk,.n,.n] [(51,.bool (bif bif bif decide (a0.2.2.2.2.2.1<1)then true else decide ((8:Int)<a0.2.2.2.2.2.1)then true else decide (a0.2.2.2.2.2.2<1)then true else decide ((4:Int)<a0.2.2.2.2.2.2)))] ?_
   refine A.AL.cnd (j:=51) rfl hF (fun hF=>?_) (fun hF=>?_)
   ·refine A.q0 [] [] [.off,.off,.off,.off,.off,.off,.off,.off,.off,.off,.off,.off,.n] [(64,.bool true)] ?_
    refine A.dx 1 ?_
    refine A.AX.cnt rfl ?_
    refine A.xl 1 ?_
    refine A.q0 [] [] [.n] [(2,.bool false)] ?_
    refine A.dx 1 ?_
    obtain rfl:=Option.some.inj hF
    exact A.rt1 [] ⟨rfl,rfl⟩
   refine A.q0 [] [] [.on .n,.on .n,.on .n] [(54,.bool (!(decide (a0.2.1=14))))] ?_
   refine A.AL.cnd (j:=54) rfl hF (fun hF=>?_) (fun hF=>?_)
   ·refine A.q0 [1] [] [.on .n,.on (.b 0 7),.on .n,.on .n,.sy .n,.sy (.b 0 8),.sy .n,.on .pk,.on .n,.n] [(64,.bool (bif decide (a0.2.2.2.2.2.1≠0)then true else decide (a0.2.2.2.2.2.2≠0)))] ?_
    refine A.dx 1 ?_
    refine A.AX.cnb rfl hF (fun hb hF=>?_) (fun hb hF=>?_)
    ·refine A.xl 1 ?_
     refine A.q0 [] [] [.n] [(2,.bool false)] ?_
     refine A.dx 1 ?_
     obtain rfl:=Option.some.inj hF
     exact A.rt1 [] ⟨rfl,rfl⟩
    refine A.xl 4 ?_
    refine A.q0 [1] [] [.n,.b 0 1] [(66,.int .i64 a0.2.1)] ?_
    obtain⟨r3,hv4,hF⟩:=A.bd_some hF
    refine A.AL.call 82 [] (first:=[]) (cap:=[]) cf95 (graph_outside_ok a0.2.1 h1_ r3 hv4) .nil ?_
    rintro _ _ ⟨rfl,rfl⟩
    refine⟨by kernel_rfl,?_⟩
    refine A.dx 1 ?_
    refine A.AX.cnb rfl hF (fun hb hF=>?_) (fun hb hF=>?_)
    ·refine A.xl 1 ?_
     refine A.q0 [1] [] [.n,.b 0 6] [(69,.string a0.2.2.2.2.1)] ?_
     obtain⟨r5,hv6,hF⟩:=A.bd_some hF
     refine A.AL.call 122 [] (first:=[]) (cap:=[]) cf135 (graph_named_ok a0.2.2.2.2.1 h7_ r5 hv6) .nil ?_
     rintro _ _ ⟨rfl,rfl⟩
     refine⟨by kernel_rfl,?_⟩
     refine A.q0 [] [] [.n] [(2,.bool r5)] ?_
     refine A.dx 1 ?_
     obtain rfl:=Option.some.inj hF
     exact A.rt1 [] ⟨rfl,rfl⟩
    refine A.xl 3 ?_
    refine A.q0 [1] [] [.n,.b 0 6,.n,.n] [(2,.bool (decide (a0.2.2.2.2.1=(ByteArray.mk #[]))))] ?_
    refine A.dx 1 ?_
    obtain rfl:=Option.some.inj hF
    exact A.rt1 [] ⟨rfl,rfl⟩
   refine A.q0 [] [] [.off,.off,.off,.off,.off,.off,.off,.off,.on .n,.n] [(64,.bool false)] ?_
   refine A.dx 1 ?_
   refine A.AX.cnf rfl ?_
   refine A.xl 4 ?_
   refine A.q0 [1] [] [.n,.b 0 1] [(66,.int .i64 a0.2.1)] ?_
   obtain⟨r7,hv8,hF⟩:=A.bd_some hF
   refine A.AL.call 162 [] (first:=[]) (cap:=[]) cf95 (graph_outside_ok a0.2.1 h1_ r7 hv8) .nil ?_
   rintro _ _ ⟨rfl,rfl⟩
   refine⟨by kernel_rfl,?_⟩
   refine A.dx 1 ?_
   refine A.AX.cnb rfl hF (fun hb hF=>?_) (fun hb hF=>?_)
   ·refine A.xl 1 ?_
    refine A.q0 [1] [] [.n,.b 0 6] [(69,.string a0.2.2.2.2.1)] ?_
    obtain⟨r9,hv10,hF⟩:=A.bd_some hF
    refine A.AL.call 202 [] (first:=[]) (cap:=[]) cf135 (graph_named_ok a0.2.2.2.2.1 h7_ r9 hv10) .nil ?_
    rintro _ _ ⟨rfl,rfl⟩
    refine⟨by kernel_rfl,?_⟩
    refine A.q0 [] [] [.n] [(2,.bool r9)] ?_
    refine A.dx 1 ?_
    obtain rfl:=Option.some.inj hF
    exact A.rt1 [] ⟨rfl,rfl⟩
   refine A.xl 3 ?_
   refine A.q0 [1] [] [.n,.b 0 6,.n,.n] [(2,.bool (decide (a0.2.2.2.2.1=(ByteArray.mk #[]))))] ?_
   refine A.dx 1 ?_
   obtain rfl:=Option.some.inj hF
   exact A.rt1 [] ⟨rfl,rfl⟩
  refine A.q0 [] [] [.off,.off,.off,.off,.off,.off,.off,.off,.off,.off,.off,.off,.off,.off,.off,.off,.off,.off,.n,.n,.on .n,.on .n,.on .n] [(51,.bool false),(54,.bool (!(decide (a0.2.1=14))))] ?_
  refine A.AL.cnd (j:=54) rfl hF (fun hF=>?_) (fun hF=>?_)
  ·refine A.q0 [1] [] [.on .n,.on (.b 0 7),.on .n,.on .n,.sy .n,.sy (.b 0 8),.sy .n,.on .pk,.on .n,.n] [(64,.bool (bif decide (a0.2.2.2.2.2.1≠0)then true else decide (a0.2.2.2.2.2.2≠0)))] ?_
   refine A.dx 1 ?_
   refine A.AX.cnb rfl hF (fun hb hF=>?_) (fun hb hF=>?_)
   ·refine A.xl 1 ?_
    refine A.q0 [] [] [.n] [(2,.bool false)] ?_
    refine A.dx 1 ?_
    obtain rfl:=Option.some.inj hF
    exact A.rt1 [] ⟨rfl,rfl⟩
   refine A.xl 4 ?_
   refine A.q0 [1] [] [.n,.b 0 1] [(66,.int .i64 a0.2.1)] ?_
   obtain⟨r11,hv12,hF⟩:=A.bd_some hF
   refine A.AL.call 242 [] (first:=[]) (cap:=[]) cf95 (graph_outside_ok a0.2.1 h1_ r11 hv12) .nil ?_
   rintro _ _ ⟨rfl,rfl⟩
   refine⟨by kernel_rfl,?_⟩
   refine A.dx 1 ?_
   refine A.AX.cnb rfl hF (fun hb hF=>?_) (fun hb hF=>?_)
   ·refine A.xl 1 ?_
    refine A.q0 [1] [] [.n,.b 0 6] [(69,.string a0.2.2.2.2.1)] ?_
    obtain⟨r13,hv14,hF⟩:=A.bd_some hF
    refine A.AL.call 282 [] (first:=[]) (cap:=[]) cf135 (graph_named_ok a0.2.2.2.2.1 h7_ r13 hv14) .nil ?_
    rintro _ _ ⟨rfl,rfl⟩
    refine⟨by kernel_rfl,?_⟩
    refine A.q0 [] [] [.n] [(2,.bool r13)] ?_
    refine A.dx 1 ?_
    obtain rfl:=Option.some.inj hF
    exact A.rt1 [] ⟨rfl,rfl⟩
   refine A.xl 3 ?_
   refine A.q0 [1] [] [.n,.b 0 6,.n,.n] [(2,.bool (decide (a0.2.2.2.2.1=(ByteArray.mk #[]))))] ?_
   refine A.dx 1 ?_
   obtain rfl:=Option.some.inj hF
   exact A.rt1 [] ⟨rfl,rfl⟩
  refine A.q0 [] [] [.off,.off,.off,.off,.off,.off,.off,.off,.on .n,.n] [(64,.bool false)] ?_
  refine A.dx 1 ?_
  refine A.AX.cnf rfl ?_
  refine A.xl 4 ?_
  refine A.q0 [1] [] [.n,.b 0 1] [(66,.int .i64 a0.2.1)] ?_
  obtain⟨r15,hv16,hF⟩:=A.bd_some hF
  refine A.AL.call 322 [] (first:=[]) (cap:=[]) cf95 (graph_outside_ok a0.2.1 h1_ r15 hv16) .nil ?_
  rintro _ _ ⟨rfl,rfl⟩
  refine⟨by kernel_rfl,?_⟩
  refine A.dx 1 ?_
  refine A.AX.cnb rfl hF (fun hb hF=>?_) (fun hb hF=>?_)
  ·refine A.xl 1 ?_
   refine A.q0 [1] [] [.n,.b 0 6] [(69,.string a0.2.2.2.2.1)] ?_
   obtain⟨r17,hv18,hF⟩:=A.bd_some hF
   refine A.AL.call 362 [] (first:=[]) (cap:=[]) cf135 (graph_named_ok a0.2.2.2.2.1 h7_ r17 hv18) .nil ?_
   rintro _ _ ⟨rfl,rfl⟩
   refine⟨by kernel_rfl,?_⟩
   refine A.q0 [] [] [.n] [(2,.bool r17)] ?_
   refine A.dx 1 ?_
   obtain rfl:=Option.some.inj hF
   exact A.rt1 [] ⟨rfl,rfl⟩
  refine A.xl 3 ?_
  refine A.q0 [1] [] [.n,.b 0 6,.n,.n] [(2,.bool (decide (a0.2.2.2.2.1=(ByteArray.mk #[]))))] ?_
  refine A.dx 1 ?_
  obtain rfl:=Option.some.inj hF
  exact A.rt1 [] ⟨rfl,rfl⟩
 rintro _ _ ⟨rfl,rfl,hF⟩
 rw[F.graph_own_j1]at hF
 refine A.xl 2 ?_
 refine A.q0 [] [] [.n] [(2,.bool false)] ?_
 refine A.dx 1 ?_
 obtain rfl:=Option.some.inj hF
 exact A.rt1 [] ⟨rfl,rfl⟩
def F.fn_uses (a0:Int):Option (Int×Int):=if a0=2 then(some (1,8))else(if a0=3 then(some (11,13))else(if a0=4 then(some (21,22))else(if a0=8 then(some (31,34))else(if a0=11 then(some (41,42))else(some (0,-1))))))
theorem fn_uses_ok (a0:Int)(h0_:IntKind.i64.has a0)(r:Int×Int)(hF:F.fn_uses a0=some r):
    A.Ct Tryz.prog 136 [.int .i64 a0] [] [] (fun v H'=>v=.tuple #[.int .i64 r.1,.int .i64 r.2]∧H'=[]∧IntKind.i64.has r.1∧IntKind.i64.has r.2):=by
 refine A.Ct.enter Tryz.func136 rfl Tryz.ntmps136 rfl fun w0 F0=>?_
 rw[F.fn_uses]at hF
 refine A.xl 1 ?_
 refine A.q0 [] [] [.n,.n] [] ?_
 refine A.dl 3 ?_
 refine A.q0 [] [] [.n] [(4,.int .i64 a0)] ?_
 refine A.dl 3 ?_
 refine A.q0 [] [] [.n,.n] [(5,.bool (decide (a0=2)))] ?_
 refine A.dx 1 ?_
 refine A.AX.cnd rfl hF (fun hb hF=>?_) (fun hb hF=>?_)
 ·refine A.xl 1 ?_
  refine A.q0 [] [] [.n,.n] [(2,.int .i64 1),(3,.int .i64 8)] ?_
  refine A.dx 1 ?_
  obtain rfl:=Option.some.inj hF
  exact A.rt2 [] ⟨rfl,rfl,(A.hasl .i64 (1) rfl),(A.hasl .i64 (8) rfl)⟩
 refine A.xl 1 ?_
 refine A.q0 [] [] [.n,.n] [(7,.bool (decide (a0=3)))] ?_
 refine A.dx 1 ?_
 refine A.AX.cnd rfl hF (fun hb hF=>?_) (fun hb hF=>?_)
 ·refine A.xl 1 ?_
  refine A.q0 [] [] [.n,.n] [(2,.int .i64 11),(3,.int .i64 13)] ?_
  refine A.dx 1 ?_
  obtain rfl:=Option.some.inj hF
  exact A.rt2 [] ⟨rfl,rfl,(A.hasl .i64 (11) rfl),(A.hasl .i64 (13) rfl)⟩
 refine A.xl 1 ?_
 refine A.q0 [] [] [.n,.n] [(9,.bool (decide (a0=4)))] ?_
 refine A.dx 1 ?_
 refine A.AX.cnd rfl hF (fun hb hF=>?_) (fun hb hF=>?_)
 ·refine A.xl 1 ?_
  refine A.q0 [] [] [.n,.n] [(2,.int .i64 21),(3,.int .i64 22)] ?_
  refine A.dx 1 ?_
  obtain rfl:=Option.some.inj hF
  exact A.rt2 [] ⟨rfl,rfl,(A.hasl .i64 (21) rfl),(A.hasl .i64 (22) rfl)⟩
 refine A.xl 1 ?_
 refine A.q0 [] [] [.n,.n] [(11,.bool (decide (a0=8)))] ?_
 refine A.dx 1 ?_
 refine A.AX.cnd rfl hF (fun hb hF=>?_) (fun hb hF=>?_)
 ·refine A.xl 1 ?_
  refine A.q0 [] [] [.n,.n] [(2,.int .i64 31),(3,.int .i64 34)] ?_
  refine A.dx 1 ?_
  obtain rfl:=Option.some.inj hF
  exact A.rt2 [] ⟨rfl,rfl,(A.hasl .i64 (31) rfl),(A.hasl .i64 (34) rfl)⟩
 refine A.xl 1 ?_
 refine A.q0 [] [] [.n,.n] [(13,.bool (decide (a0=11)))] ?_
 refine A.dx 1 ?_
 refine A.AX.cnd rfl hF (fun hb hF=>?_) (fun hb hF=>?_)
 ·refine A.xl 1 ?_
  refine A.q0 [] [] [.n,.n] [(2,.int .i64 41),(3,.int .i64 42)] ?_
  refine A.dx 1 ?_
  obtain rfl:=Option.some.inj hF
  exact A.rt2 [] ⟨rfl,rfl,(A.hasl .i64 (41) rfl),(A.hasl .i64 (42) rfl)⟩
 refine A.xl 4 ?_
 refine A.q0 [] [] [.n,.n] [(2,.int .i64 0),(3,.int .i64 (-1))] ?_
 refine A.dx 1 ?_
 obtain rfl:=Option.some.inj hF
 exact A.rt2 [] ⟨rfl,rfl,(A.hasl .i64 (0) rfl),(A.hasl .i64 (-1) rfl)⟩
def F.fn_Uses (a0:Int):Option (Int×Int):=(F.fn_uses a0).bind fun r1=>(some (r1.1,r1.2))
theorem fn_Uses_ok (a0:Int)(h0_:IntKind.i64.has a0)(r:(Int×Int))(hF:F.fn_Uses a0=some r):
    A.Ct Tryz.prog 137 [.int .i64 a0] [] [] (fun v H'=>∃(g0':Nat) (g1':Nat),v=.func (.func 164) #[] #[.pointer (some ⟨g0',0,none⟩),.pointer (some ⟨g1',0,none⟩)]∧H'=[(0,.blk g0' 3 [.int .i64 r.1]),(1,.blk g1' 3 [.int .i64 r.2])]∧IntKind.i64.has r.1∧IntKind.i64.has r.2):=by
 refine A.Ct.enter Tryz.func137 rfl Tryz.ntmps137 rfl fun w0 F0=>?_
 rw[F.fn_Uses]at hF
 refine A.xl 1 ?_
 refine A.q0 [] [] [.n] [] ?_
 refine A.dl 2 ?_
 refine A.q0 [] [] [.n] [(6,.int .i64 a0)] ?_
 obtain⟨r1,hv2,hF⟩:=A.bd_some hF
 refine A.AL.call 0 [] (first:=[]) (cap:=[]) cf136 (fn_uses_ok a0 h0_ r1 hv2) .nil ?_
 rintro _ _ ⟨rfl,rfl,hr3,hr4⟩
 refine⟨by kernel_rfl,?_⟩
 refine A.q0 [] [] [.n,.n,.n] [(8,.int .i64 r1.1),(9,.int .i64 r1.2)] ?_
 refine A.AL.alloc 40 (cs:=[.int .i64 0]) Tryz.zeroValue3 fun g5=>?_
 refine A.AL.alloc 41 (cs:=[.int .i64 0]) Tryz.zeroValue3 fun g6=>?_
 refine A.sw 40 [] [.int .i64 r1.1] ?_
 refine A.sw 41 [] [.int .i64 r1.2] ?_
 refine A.dl 2 ?_
 refine A.q0 [] [] [.n,.n] [(2,.func (.func 164) #[] #[.pointer (some ⟨g5,0,none⟩),.pointer (some ⟨g6,0,none⟩)])] ?_
 refine A.dx 1 ?_
 obtain rfl:=Option.some.inj hF
 exact A.rt1 [(0,40),(1,41)] ⟨g5,g6,rfl,rfl,hr3,hr4⟩
end Go.Proofs.YtlbnpmfggfbdoaaGreatDoor
end
section
set_option linter.unusedVariables false
set_option linter.unusedSimpArgs false
set_option maxRecDepth 20000
set_option maxHeartbeats 8000000
set_option synthInstance.maxSize 1000000
set_option synthInstance.maxHeartbeats 400000
namespace Go.Proofs.YtlbnpmfggfbdoaaGreatDoor
open Go.RowKit
def F.fn_number_j1 (a0:D81)(y3:Bool):Option Bool:=if y3=true then(some (bif decide ((1:Int)≤a0.2.1)then decide (a0.2.1≤1048576)else false))else(some (decide (a0.2.1=0)))
def F.fn_number_j2 (a0:D81)(y2:Bool):Option Bool:=if y2=true then(some (bif decide ((0:Int)≤a0.2.1)then decide (a0.2.1≤64)else false))else(if a0.1=6 then(F.fn_number_j1 a0 (decide (a0.1=6)))else(F.fn_number_j1 a0 (decide (a0.1=11))))
def F.fn_number (a0:D81):Option Bool:=if a0.1=3 then(F.fn_number_j2 a0 (decide (a0.1=3)))else(F.fn_number_j2 a0 (decide (a0.1=13)))
theorem fn_number_ok (a0:D81)(h0_:IntKind.i64.has a0.1)(h1_:IntKind.i64.has a0.2.1)(h2_:a0.2.2.size≤maxLen)(r:Bool)(hF:F.fn_number a0=some r):
    A.Ct Tryz.prog 138 [.agg #[.int .i64 a0.1,.int .i64 a0.2.1,.string a0.2.2]] [] [] (fun v H'=>v=.bool r∧H'=[]):=by
 refine A.Ct.enter Tryz.func138 rfl Tryz.ntmps138 rfl fun w0 F0=>?_
 rw[F.fn_number]at hF
 refine A.xl 1 ?_
 refine A.AL.box 0 (cs:=[.int .i64 a0.1,.int .i64 a0.2.1,.string a0.2.2]) fun g1=>?_
 refine A.q0 [] [] [.n] [] ?_
 refine A.dl 3 ?_
 refine A.q0 [0] [] [.n,.b 0 0] [(4,.int .i64 a0.1)] ?_
 refine A.dx 2 ?_
 refine A.AX.join [1,4] [0] (fun nl nh=>∃(y2:Bool),nl=[(5,.bool y2)]∧nh=[]∧F.fn_number_j2 a0 y2=some r) ?_ ?_
 ·refine A.xl 1 ?_
  refine A.q0 [] [] [.n,.n] [(5,.bool (decide (a0.1=3)))] ?_
  refine A.dx 1 ?_
  refine A.AX.cnd rfl hF (fun hb hF=>?_) (fun hb hF=>?_)
  ·refine A.xe 1 ?_
   exact A.j ⟨(decide (a0.1=3)),rfl,rfl,hF⟩
  refine A.xl 0 ?_
  refine A.q0 [] [] [.n,.n] [(5,.bool (decide (a0.1=13)))] ?_
  refine A.AL.done ?_
  exact A.j ⟨(decide (a0.1=13)),rfl,rfl,hF⟩
 rintro _ _ ⟨y2,rfl,rfl,hF⟩
 rw[F.fn_number_j2]at hF
 refine A.AX.cnb rfl hF (fun hb hF=>?_) (fun hb hF=>?_)
 ·refine A.xl 1 ?_
  refine A.q0 [0] [] [.n,.b 0 1,.n,.n,.sy .n,.sy (.b 0 1),.sy .n,.pk,.n] [(2,.bool (bif decide ((0:Int)≤a0.2.1)then decide (a0.2.1≤64)else false))] ?_
  refine A.dx 1 ?_
  obtain rfl:=Option.some.inj hF
  exact A.rt1 [] ⟨rfl,rfl⟩
 refine A.AX.join [1] [0] (fun nl nh=>∃(y3:Bool),nl=[(16,.bool y3)]∧nh=[]∧F.fn_number_j1 a0 y3=some r) ?_ ?_
 ·refine A.xl 1 ?_
  refine A.q0 [] [] [.n,.n] [(16,.bool (decide (a0.1=6)))] ?_
  refine A.dx 1 ?_
  refine A.AX.cnd rfl hF (fun hb hF=>?_) (fun hb hF=>?_)
  ·refine A.xe 1 ?_
   exact A.j ⟨(decide (a0.1=6)),rfl,rfl,hF⟩
  refine A.xl 0 ?_
  refine A.q0 [] [] [.n,.n] [(16,.bool (decide (a0.1=11)))] ?_
  refine A.AL.done ?_
  exact A.j ⟨(decide (a0.1=11)),rfl,rfl,hF⟩
 rintro _ _ ⟨y3,rfl,rfl,hF⟩
 rw[F.fn_number_j1]at hF
 refine A.AX.cnb rfl hF (fun hb hF=>?_) (fun hb hF=>?_)
 ·refine A.xl 1 ?_
  refine A.q0 [0] [] [.n,.b 0 1,.n,.n,.sy .n,.sy (.b 0 1),.sy .n,.pk,.n] [(2,.bool (bif decide ((1:Int)≤a0.2.1)then decide (a0.2.1≤1048576)else false))] ?_
  refine A.dx 1 ?_
  obtain rfl:=Option.some.inj hF
  exact A.rt1 [] ⟨rfl,rfl⟩
 refine A.xl 4 ?_
 refine A.q0 [0] [] [.n,.b 0 1,.n,.n] [(2,.bool (decide (a0.2.1=0)))] ?_
 refine A.dx 1 ?_
 obtain rfl:=Option.some.inj hF
 exact A.rt1 [] ⟨rfl,rfl⟩
def F.fn_single_j1 (y8:Bool):Option Bool:=some y8
def F.fn_single_l2 (a0:ByteArray):Nat→Nat→Int→Option Bool
 |0,_,_=>none
 |f+1,p2,y3=>if p2<a0.size then(A.gd (Z.R64 (y3+1)) ((F.fn_single_l2 a0 f) (p2+(Utf8.decode a0 p2).2) (y3+1)))else(if y3=1 then((F.utf8_ValidString a0).bind fun r9=>(F.fn_single_j1 r9))else(F.fn_single_j1 false))
def F.fn_single (a0:ByteArray):Option Bool:=F.fn_single_l2 a0 A.FU 0 0
theorem fn_single_ok (a0:ByteArray)(h0_:a0.size≤maxLen)(r:Bool)(hF:F.fn_single a0=some r):
    A.Ct Tryz.prog 166 [.string a0] [(0,.el none 0 0 A.tabF),(1,.el none 1 0 A.tabA)] [] (fun v H'=>v=.bool r∧H'=[]):=by
 refine A.Ct.enter Tryz.func166 rfl Tryz.ntmps166 rfl fun w0 F0=>?_
 rw[F.fn_single]at hF
 refine A.xl 1 ?_
 refine A.q0 [] [] [.n] [] ?_
 refine A.dl 2 ?_
 refine A.q0 [] [] [.n] [(3,.int .i64 0)] ?_
 refine A.dl 3 ?_
 refine A.q0 [] [] [.n] [(4,.string a0)] ?_
 refine A.AL.rgs 2 fun g1=>?_
 refine A.dx 2 ?_
 refine A.lp_ [0,5] [0,1] (fun f nl nh=>∃(p2:Nat),∃(y3:Int),nl=[(3,.int .i64 y3)]∧nh=[(2,.si g1 a0 p2)]∧IntKind.i64.has y3∧F.fn_single_l2 a0 f p2 y3=some r) ⟨0,0,rfl,rfl,(A.hasl .i64 (0) rfl),hF⟩ ?_
 rintro f5 _ _ ⟨p2,y3,rfl,rfl,hy4,hF⟩
 rcases f5 with _|f5
 ·exact A.no0 hF
 rw[F.fn_single_l2]at hF
 refine A.xl 1 ?_
 refine A.AL.nxs 2 [] hF (fun hb6 hF=>?_) (fun hb hF=>?_)
 ·refine A.q0 [] [] [.n] [(7,.bool true)] ?_
  refine A.dx 2 ?_
  refine A.AX.cnt rfl ?_
  refine A.xl 3 ?_
  obtain⟨hc7,hF⟩:=A.gd_some hF
  refine A.q [] [] [.n,.n,.n] [Z.R64 (y3+1)] [(3,.int .i64 (y3+1))] hc7 ?_
  refine A.de 1 ?_
  exact A.j ⟨_,Nat.lt_succ_self _,⟨(p2+(Utf8.decode a0 p2).2),(y3+1),rfl,rfl,(Z.i64_has hc7),hF⟩⟩
 refine A.q0 [] [] [.n] [(7,.bool false)] ?_
 refine A.dx 2 ?_
 refine A.AX.cnf rfl ?_
 refine A.xx 2 ?_
 refine A.AX.join [] [0,1] (fun nl nh=>∃(y8:Bool),nl=[(2,.bool y8)]∧nh=[]∧F.fn_single_j1 y8=some r) ?_ ?_
 ·refine A.xl 0 ?_
  refine A.q0 [] [] [.n,.n,.n] [(12,.bool (decide (y3=1)))] ?_
  refine A.AL.cnp (j:=12) rfl hF (fun hb hF=>?_) (fun hb hF=>?_)
  ·refine A.q0 [] [] [.on .n] [(13,.string a0)] ?_
   refine A.AL.on (dj:=12) rfl rfl ?_
   obtain⟨r9,hv10,hF⟩:=A.bd_some hF
   refine A.AL.call 83 [] (first:=[]) (cap:=[]) cf165 (utf8_ValidString_ok a0 h0_ r9 hv10) (.s 0 (.s 1 .nil)) ?_
   rintro _ _ ⟨rfl,rfl⟩
   refine⟨by kernel_rfl,?_⟩
   refine A.q0 [] [] [.n,.n] [(2,.bool r9)] ?_
   refine A.AL.done ?_
   exact A.j ⟨r9,rfl,rfl,hF⟩
  refine A.q0 [] [] [.off,.off,.n,.n] [(2,.bool false)] ?_
  refine A.AL.done ?_
  exact A.j ⟨false,rfl,rfl,hF⟩
 rintro _ _ ⟨y8,rfl,rfl,hF⟩
 rw[F.fn_single_j1]at hF
 obtain rfl:=Option.some.inj hF
 exact A.rt1 [] ⟨rfl,rfl⟩
def F.fn_text_j1 (y2:Bool):Option Bool:=some y2
def F.fn_text_j2 (a0:D81)(y5:Bool):Option Bool:=if y5=true then((F.fn_single a0.2.2).bind fun r6=>(some r6))else(some (decide (a0.2.2=(ByteArray.mk #[]))))
def F.fn_text (a0:D81):Option Bool:=if a0.1=5 then(if(bif decide (a0.2.2≠(ByteArray.mk #[]))then decide ((a0.2.2.size:Int)≤16)else false)=true then((F.utf8_ValidString a0.2.2).bind fun r3=>(F.fn_text_j1 r3))else(F.fn_text_j1 false))else(if a0.1=12 then(F.fn_text_j2 a0 (decide (a0.1=12)))else(F.fn_text_j2 a0 (decide (a0.1=22))))
theorem fn_text_ok (a0:D81)(h0_:IntKind.i64.has a0.1)(h1_:IntKind.i64.has a0.2.1)(h2_:a0.2.2.size≤maxLen)(r:Bool)(hF:F.fn_text a0=some r):
    A.Ct Tryz.prog 139 [.agg #[.int .i64 a0.1,.int .i64 a0.2.1,.string a0.2.2]] [(0,.el none 0 0 A.tabF),(1,.el none 1 0 A.tabA)] [] (fun v H'=>v=.bool r∧H'=[]):=by
 refine A.Ct.enter Tryz.func139 rfl Tryz.ntmps139 rfl fun w0 F0=>?_
 rw[F.fn_text]at hF
 refine A.xl 1 ?_
 refine A.AL.box 2 (cs:=[.int .i64 a0.1,.int .i64 a0.2.1,.string a0.2.2]) fun g1=>?_
 refine A.q0 [] [] [.n] [] ?_
 refine A.dl 3 ?_
 refine A.q0 [2] [] [.n,.b 0 0] [(4,.int .i64 a0.1)] ?_
 refine A.dl 3 ?_
 refine A.q0 [] [] [.n,.n] [(5,.bool (decide (a0.1=5)))] ?_
 refine A.dx 1 ?_
 refine A.AX.cnd rfl hF (fun hb hF=>?_) (fun hb hF=>?_)
 ·refine A.AX.join [] [0,1] (fun nl nh=>∃(y2:Bool),nl=[(2,.bool y2)]∧nh=[]∧F.fn_text_j1 y2=some r) ?_ ?_
  ·refine A.xl 0 ?_
   refine A.q0 [2] [] [.n,.b 0 2,.n,.n,.sy .n,.sy (.b 0 2),.sy .n,.sy .n,.pk,.n] [(16,.bool (bif decide (a0.2.2≠(ByteArray.mk #[]))then decide ((a0.2.2.size:Int)≤16)else false))] ?_
   refine A.AL.cnd (j:=16) rfl hF (fun hF=>?_) (fun hF=>?_)
   ·refine A.q0 [2] [] [.on .n,.on (.b 0 2)] [(18,.string a0.2.2)] ?_
    refine A.AL.on (dj:=16) rfl rfl ?_
    obtain⟨r3,hv4,hF⟩:=A.bd_some hF
    refine A.AL.call 3 [] (first:=[]) (cap:=[]) cf165 (utf8_ValidString_ok a0.2.2 h2_ r3 hv4) (.s 0 (.s 1 .nil)) ?_
    rintro _ _ ⟨rfl,rfl⟩
    refine⟨by kernel_rfl,?_⟩
    refine A.q0 [] [] [.n,.n] [(2,.bool r3)] ?_
    refine A.AL.done ?_
    exact A.j ⟨r3,rfl,rfl,hF⟩
   refine A.q0 [] [] [.off,.off,.off,.n,.n] [(2,.bool false)] ?_
   refine A.AL.done ?_
   exact A.j ⟨false,rfl,rfl,hF⟩
  rintro _ _ ⟨y2,rfl,rfl,hF⟩
  rw[F.fn_text_j1]at hF
  obtain rfl:=Option.some.inj hF
  exact A.rt1 [] ⟨rfl,rfl⟩
 refine A.AX.join [1] [0,1,2] (fun nl nh=>∃(y5:Bool),nl=[(21,.bool y5)]∧nh=[]∧F.fn_text_j2 a0 y5=some r) ?_ ?_
 ·refine A.xl 1 ?_
  refine A.q0 [] [] [.n,.n] [(21,.bool (decide (a0.1=12)))] ?_
  refine A.dx 1 ?_
  refine A.AX.cnd rfl hF (fun hb hF=>?_) (fun hb hF=>?_)
  ·refine A.xe 1 ?_
   exact A.j ⟨(decide (a0.1=12)),rfl,rfl,hF⟩
  refine A.xl 0 ?_
  refine A.q0 [] [] [.n,.n] [(21,.bool (decide (a0.1=22)))] ?_
  refine A.AL.done ?_
  exact A.j ⟨(decide (a0.1=22)),rfl,rfl,hF⟩
 rintro _ _ ⟨y5,rfl,rfl,hF⟩
 rw[F.fn_text_j2]at hF
 refine A.AX.cnb rfl hF (fun hb hF=>?_) (fun hb hF=>?_)
 ·refine A.xl 1 ?_
  refine A.q0 [2] [] [.n,.b 0 2] [(25,.string a0.2.2)] ?_
  obtain⟨r6,hv7,hF⟩:=A.bd_some hF
  refine A.AL.call 43 [] (first:=[]) (cap:=[]) cf166 (fn_single_ok a0.2.2 h2_ r6 hv7) (.s 0 (.s 1 .nil)) ?_
  rintro _ _ ⟨rfl,rfl⟩
  refine⟨by kernel_rfl,?_⟩
  refine A.q0 [] [] [.n] [(2,.bool r6)] ?_
  refine A.dx 1 ?_
  obtain rfl:=Option.some.inj hF
  exact A.rt1 [] ⟨rfl,rfl⟩
 refine A.xl 4 ?_
 refine A.q0 [2] [] [.n,.b 0 2,.n,.n] [(2,.bool (decide (a0.2.2=(ByteArray.mk #[]))))] ?_
 refine A.dx 1 ?_
 obtain rfl:=Option.some.inj hF
 exact A.rt1 [] ⟨rfl,rfl⟩
def F.fn_Uses_1_it_l1 (b1:Int):Nat→Int→Option (List Int)
 |0,_=>none
 |f+1,y1=>if y1≤b1 then(A.cns y1 (A.gd (Z.R64 (y1+1)) ((F.fn_Uses_1_it_l1 b1 f) (y1+1))))else(some [])
def F.fn_Uses_1_it (b0:Int)(b1:Int):Option (List Int):=F.fn_Uses_1_it_l1 b1 A.FU b0
theorem fn_Uses_1_it_sq (b0:Int)(b1:Int)(g0_:Nat)(g2_:Nat)(h1_:IntKind.i64.has b0)(h3_:IntKind.i64.has b1)(xs:List Int)(hF:F.fn_Uses_1_it b0 b1=some xs):
    A.Sq Tryz.prog 164 [.pointer (some ⟨g0_,0,none⟩),.pointer (some ⟨g2_,0,none⟩)] [(0,.el none g0_ 0 [.int .i64 b0]),(1,.el none g2_ 0 [.int .i64 b1])] (Z.Ty.int .i64) (fun cs=>[Z.vof false cs]) xs:=by
 refine A.Sq.enter Tryz.func164 rfl Tryz.ntmps164 rfl fun lid w0 J Jx Φ hY hJ0=>?_
 obtain⟨rs0,hrs⟩: ∃rs0,rs0=xs:=⟨_,rfl⟩
 have hR0:A.Rem xs 0 rs0:=hrs▸A.Rem.zero xs
 rw[F.fn_Uses_1_it,←hrs]at hF
 clear hrs
 refine A.xl 1 ?_
 refine A.q0 [] [0] [.e 0 0,.n] [(4,.int .i64 b0)] ?_
 refine A.dx 2 ?_
 refine A.AX.loopC (A.CY 15 Φ) (0,w0) [0,2] [1] [1] (fun f i nl nh=>∃(y1:Int),∃(rs:List Int),nl=[(4,.int .i64 y1)]∧nh=[]∧IntKind.i64.has y1∧J i.1 i.2∧A.Rem xs i.1 rs∧F.fn_Uses_1_it_l1 b1 f y1=some rs) A.FU [(4,.int .i64 b0)] [] ⟨b0,_,rfl,rfl,h1_,hJ0,hR0,hF⟩ ?_
 rintro f3 ⟨k4,w5⟩ _ _ ⟨y1,rs8,rfl,rfl,hy2,hJ6,hR7,hF⟩
 rcases f3 with _|f3
 ·exact A.no0 hF
 rw[F.fn_Uses_1_it_l1]at hF
 refine A.xl 2 ?_
 refine A.q0 [] [1] [.n,.e 0 0,.n] [(8,.bool (decide (y1≤b1)))] ?_
 refine A.dx 1 ?_
 refine A.AX.cnd rfl hF (fun hb hF=>?_) (fun hb hF=>?_)
 ·refine A.xl 5 ?_
  refine A.q0 [] [] [.n,.n] [(11,.func (.yield lid) #[] #[]),(12,.int .i64 y1)] ?_
  obtain⟨rs9,hqrs9,hF⟩:=A.cns_some hF
  refine A.AL.yield hY hJ6 (hqrs9▸hR7) [.int .i64 y1] ⟨rfl,hy2⟩ (fun w10 hJ11 hR12=>?_) (fun w10 hX13=>?_)
  ·refine A.q0 [] [] [.n] [(14,.bool false)] ?_
   refine A.dx 1 ?_
   refine A.AX.cnf rfl ?_
   refine A.xl 3 ?_
   obtain⟨hc14,hF⟩:=A.gd_some hF
   refine A.q [] [] [.n,.n,.n] [Z.R64 (y1+1)] [(4,.int .i64 (y1+1))] hc14 ?_
   refine A.AL.done ?_
   exact A.AE.jC (k4+1,w10) [1] [(4,.int .i64 (y1+1))] [] ⟨_,Nat.lt_succ_self _,⟨(y1+1),_,rfl,rfl,(Z.i64_has hc14),hJ11,hR12,hF⟩⟩
  refine A.q0 [] [] [.n] [(14,.bool true)] ?_
  refine A.dx 1 ?_
  refine A.AX.cnt rfl ?_
  exact A.AX.rtX hY hX13
 refine A.xe 1 ?_
 obtain rfl:=Option.some.inj hF
 exact A.AE.rtY hY hJ6 hR7
def F.fn_Check_j1 (k1:Option Int)(y25:Bool):Option Int:=if y25=true then(some 0)else(k1)
def F.fn_Check_l2 (a1:D81):List Int→Option Int
 | []=>some 60
 |y22::f=>if y22=a1.1 then((F.fn_number (a1.1,a1.2.1,a1.2.2)).bind fun r26=>(if r26=true then((F.fn_text (a1.1,a1.2.1,a1.2.2)).bind fun r28=>(F.fn_Check_j1 (F.fn_Check_l2 a1 f) r28))else(F.fn_Check_j1 (F.fn_Check_l2 a1 f) false)))else(F.fn_Check_j1 (F.fn_Check_l2 a1 f) false)
def F.fn_Check (a0:Int)(a1:D81):Option Int:=(F.fn_uses a0).bind fun r3=>(if r3.2<0 then(if(a1.1,a1.2.1,a1.2.2)≠(0,0,ByteArray.mk #[])then(some 60)else(some 0))else((F.fn_Uses a0).bind fun r7=>((F.fn_Uses_1_it r7.1 r7.2).bind fun xs13=>F.fn_Check_l2 a1 xs13)))
theorem fn_Check_ok (a0:Int)(a1:D81)(h0_:IntKind.i64.has a0)(h1_:IntKind.i64.has a1.1)(h2_:IntKind.i64.has a1.2.1)(h3_:a1.2.2.size≤maxLen)(r:Int)(hF:F.fn_Check a0 a1=some r):
    A.Ct Tryz.prog 99 [.int .i64 a0,.agg #[.int .i64 a1.1,.int .i64 a1.2.1,.string a1.2.2]] [(0,.el none 0 0 A.tabF),(1,.el none 1 0 A.tabA)] [] (fun v H'=>v=.int .i64 r∧H'=[]∧IntKind.i64.has r):=by
 refine A.Ct.enterM Tryz.func99 rfl Tryz.ntmps99 rfl fun w0 F0=>?_
 rw[F.fn_Check]at hF
 refine A.xl 1 ?_
 refine A.AL.box 2 (cs:=[.int .i64 a1.1,.int .i64 a1.2.1,.string a1.2.2]) fun g1=>?_
 refine A.AL.alloc 3 (cs:=[.int .i64 0]) Tryz.zeroValue28 fun g2=>?_
 refine A.dl 3 ?_
 refine A.q0 [] [] [.n] [(9,.int .i64 a0)] ?_
 obtain⟨r3,hv4,hF⟩:=A.bd_some hF
 refine A.AL.call 4 [] (first:=[]) (cap:=[]) cf136 (fn_uses_ok a0 h0_ r3 hv4) .nil ?_
 rintro _ _ ⟨rfl,rfl,hr5,hr6⟩
 refine⟨by kernel_rfl,?_⟩
 refine A.q0 [] [] [.n,.n,.n,.n,.n] [(6,.int .i64 r3.2)] ?_
 refine A.dl 2 ?_
 refine A.q0 [] [] [.n,.n] [(14,.bool (decide (r3.2<0)))] ?_
 refine A.dx 1 ?_
 refine A.AX.cnd rfl hF (fun hb hF=>?_) (fun hb hF=>?_)
 ·refine A.xl 2 ?_
  refine A.q0 [2] [] [.b 0 0,.n] [(15,.agg #[.int .i64 a1.1,.int .i64 a1.2.1,.string a1.2.2]),(16,.agg #[.int .i64 0,.int .i64 0,.string (ByteArray.mk #[])])] ?_
  refine A.AL.val rfl (fun a w hf hh=>eqagg_neq82 (x:=(a1.1,a1.2.1,a1.2.2)) (y:=(0,0,ByteArray.mk #[])) (hf.eval rfl) (hf.eval rfl)) ?_
  refine A.dx 1 ?_
  refine A.AX.cnd rfl hF (fun hb hF=>?_) (fun hb hF=>?_)
  ·refine A.xl 1 ?_
   refine A.sw 3 [] [.int .i64 60] ?_
   refine A.dx 1 ?_
   obtain rfl:=Option.some.inj hF
   exact A.AX.rtM (Ds:=[]) [] [] (.int .i64 60) (trivial) (fun a w hf hh=>Z.resv1 rfl (Z.rv_1 hf rfl Tryz.isAgg28 (A.Hp.blk hh 3))) (⟨rfl,rfl,(A.hasl .i64 (60) rfl)⟩)
  refine A.xl 3 ?_
  refine A.sw 3 [] [.int .i64 0] ?_
  refine A.dx 1 ?_
  obtain rfl:=Option.some.inj hF
  exact A.AX.rtM (Ds:=[]) [] [] (.int .i64 0) (trivial) (fun a w hf hh=>Z.resv1 rfl (Z.rv_1 hf rfl Tryz.isAgg28 (A.Hp.blk hh 3))) (⟨rfl,rfl,(A.hasl .i64 (0) rfl)⟩)
 refine A.xl 4 ?_
 refine A.q0 [] [] [.n] [(18,.int .i64 a0)] ?_
 obtain⟨r7,hv8,hF⟩:=A.bd_some hF
 refine A.AL.call 44 [] (first:=[]) (cap:=[]) cf137 (fn_Uses_ok a0 h0_ r7 hv8) .nil ?_
 rintro _ _ ⟨g9,g11,rfl,rfl,hr10,hr12⟩
 refine⟨by kernel_rfl,?_⟩
 refine A.dx 2 ?_
 obtain⟨xs13,hv14,hF⟩:=A.bd_some hF
 refine A.AX.rgf 84 85 86 [0,1,2,3,44,45] [0,1,2,3,44,45] [85,84,0,1,2,3,44,45] (fun k nh=>nh=[]∧F.fn_Check_l2 a1 (List.drop k xs13)=some r) [] cf164 (fn_Uses_1_it_sq r7.1 r7.2 g9 g11 hr10 hr12 xs13 hv14) (fun _=>rfl) ⟨rfl,hF⟩ ?_ ?_ ?_
 ·rintro k21 _ D15 L16 ⟨rfl,hF⟩
  exact⟨⟨_,(.b 44 (.b 45 .nil))⟩,rfl,fun o=>rfl⟩
 ·rintro k21 _ y22 D15 L16 w20 o17 ⟨rfl,hF⟩ hx23 hxo24 hh19
  rw[A.drop_at hx23,F.fn_Check_l2]at hF
  refine A.xl 0 ?_
  refine A.q0 [] [] [.n] [(7,.int .i64 y22)] ?_
  refine A.AL.done ?_
  refine A.AE.flip 84 85 fun o18=>?_
  refine A.xx 1 ?_
  refine A.AX.join [3,4] [0,1,2,3,44,45,84,85] (fun nl nh=>∃(y25:Bool),nl=[(32,.bool y25)]∧nh=[]∧F.fn_Check_j1 (F.fn_Check_l2 a1 (List.drop (k21+1) xs13)) y25=some r) ?_ ?_
  ·refine A.xl 0 ?_
   refine A.q0 [2] [] [.n,.n,.b 0 0,.n,.n] [(25,.bool (decide (y22=a1.1)))] ?_
   refine A.AL.cnp (j:=25) rfl hF (fun hb hF=>?_) (fun hb hF=>?_)
   ·refine A.q0 [2] [] [.on (.b 0 0)] [(26,.agg #[.int .i64 a1.1,.int .i64 a1.2.1,.string a1.2.2])] ?_
    refine A.AL.on (dj:=25) rfl rfl ?_
    obtain⟨r26,hv27,hF⟩:=A.bd_some hF
    refine A.AL.call 167 [] (first:=[]) (cap:=[]) cf138 (fn_number_ok (a1.1,a1.2.1,a1.2.2) h1_ h2_ h3_ r26 hv27) .nil ?_
    rintro _ _ ⟨rfl,rfl⟩
    refine⟨by kernel_rfl,?_⟩
    refine A.q0 [] [] [.n,.n] [(29,.bool r26)] ?_
    refine A.AL.cnd (j:=29) rfl hF (fun hF=>?_) (fun hF=>?_)
    ·refine A.q0 [2] [] [.on (.b 0 0)] [(30,.agg #[.int .i64 a1.1,.int .i64 a1.2.1,.string a1.2.2])] ?_
     refine A.AL.on (dj:=29) rfl rfl ?_
     obtain⟨r28,hv29,hF⟩:=A.bd_some hF
     refine A.AL.call 207 [] (first:=[]) (cap:=[]) cf139 (fn_text_ok (a1.1,a1.2.1,a1.2.2) h1_ h2_ h3_ r28 hv29) (.s 0 (.s 1 .nil)) ?_
     rintro _ _ ⟨rfl,rfl⟩
     refine⟨by kernel_rfl,?_⟩
     refine A.q0 [] [] [.n] [(32,.bool r28)] ?_
     refine A.AL.done ?_
     exact A.j ⟨r28,rfl,rfl,hF⟩
    refine A.q0 [] [] [.off,.off,.n] [(32,.bool false)] ?_
    refine A.AL.done ?_
    exact A.j ⟨false,rfl,rfl,hF⟩
   refine A.q0 [] [] [.off,.off,.n,.n,.off,.off,.n] [(32,.bool false)] ?_
   refine A.AL.done ?_
   exact A.j ⟨false,rfl,rfl,hF⟩
  rintro _ _ ⟨y25,rfl,rfl,hF⟩
  rw[F.fn_Check_j1]at hF
  refine A.AX.cnb rfl hF (fun hb hF=>?_) (fun hb hF=>?_)
  ·refine A.xl 1 ?_
   refine A.sw 3 [] [.int .i64 0] ?_
   refine A.dx 1 ?_
   refine A.AX.bret hh19 [85,2,3,44,45,84] 100000 [(85,100085),(2,100002),(3,100003),(44,100044),(45,100045),(84,100084),(0,0),(1,1)] [(2,.blk g1 82 [.int .i64 a1.1,.int .i64 a1.2.1,.string a1.2.2]),(3,.blk g2 28 [.int .i64 0]),(44,.blk g9 3 [.int .i64 r7.1]),(45,.blk g11 3 [.int .i64 r7.2]),(84,.ob D15 A.dfT),(0,.el none 0 0 A.tabF),(1,.el none 1 0 A.tabA)] ?_ rfl rfl
   obtain rfl:=Option.some.inj hF
   exact A.AE.rtM (Ds:=[D15]) [84] [] (.int .i64 0) (⟨rfl,trivial⟩) (fun a w hf hh=>Z.resv1 rfl (Z.rv_1 hf rfl Tryz.isAgg28 (A.Hp.blk hh 3))) (⟨rfl,rfl,(A.hasl .i64 (0) rfl)⟩)
  refine A.xe 2 ?_
  exact A.AE.bn hh19 [85,84,2,3,44,45] 100000 [(85,100085),(84,100084),(0,0),(1,1),(2,100002),(3,100003),(44,100044),(45,100045)] [] ⟨rfl,hF⟩ rfl rfl
 rintro _ D15 L16 ⟨rfl,hF⟩
 rw[List.drop_length,F.fn_Check_l2]at hF
 refine A.el 3 ?_
 refine A.sw 3 [] [.int .i64 60] ?_
 refine A.dx 1 ?_
 obtain rfl:=Option.some.inj hF
 exact A.AX.rtM (Ds:=[D15]) [84] [] (.int .i64 60) (⟨rfl,trivial⟩) (fun a w hf hh=>Z.resv1 rfl (Z.rv_1 hf rfl Tryz.isAgg28 (A.Hp.blk hh 3))) (⟨rfl,rfl,(A.hasl .i64 (60) rfl)⟩)
end Go.Proofs.YtlbnpmfggfbdoaaGreatDoor
end
section
set_option linter.unusedVariables false
set_option linter.unusedSimpArgs false
set_option maxRecDepth 20000
set_option maxHeartbeats 8000000
set_option synthInstance.maxSize 1000000
set_option synthInstance.maxHeartbeats 400000
namespace Go.Proofs.YtlbnpmfggfbdoaaGreatDoor
open Go.RowKit
def F.graph_plan_sort_j1 (k29:(List Int)→(List (Int×Bool))→Int→Option (Bool×((List (Int×D83))×(List Int)×(List (Int×Int)))))(y7:Int)(xs12:List Int)(m14:List (Int×Bool)):Option (Bool×((List (Int×D83))×(List Int)×(List (Int×Int)))):=A.gd (Z.R64 (y7+1)) (k29 xs12 m14 (y7+1))
def F.graph_plan_sort_j2 (k41:Int→Option (Bool×((List (Int×D83))×(List Int)×(List (Int×Int)))))(y16:Int):Option (Bool×((List (Int×D83))×(List Int)×(List (Int×Int)))):=A.gd (Z.R64 (y16+1)) (k41 (y16+1))
def F.graph_plan_sort_l3 (k29:(List Int)→(List (Int×Bool))→Int→Option (Bool×((List (Int×D83))×(List Int)×(List (Int×Int)))))(k41:Int→Option (Bool×((List (Int×D83))×(List Int)×(List (Int×Int)))))(xs5:List Int)(m6:List (Int×Bool))(y7:Int)(y16:Int)(x20:D83):Nat→Int→Option (Bool×((List (Int×D83))×(List Int)×(List (Int×Int))))
 |0,_=>none
 |f+1,y31=>if y31<((x20.2.2.1).length:Int)then((A.ix x20.2.2.1 y31).bind fun x34=>(A.lt (Z.mget (false:Bool) m6 x34) fun x39=>(if(bif !x39 then decide (x20.2.1≠14)else false)=true then(F.graph_plan_sort_j2 k41 y16)else(A.gd (Z.R64 (y31+1)) ((F.graph_plan_sort_l3 k29 k41 xs5 m6 y7 y16 x20 f) (y31+1))))))else(A.gd ((List.length (α:=Int) xs5+List.length (α:=Int) [x20.1])*8≤140737488355328) (F.graph_plan_sort_j1 k29 y7 (xs5++[x20.1]) (Z.mins m6 x20.1 true)))
def F.graph_plan_sort_l4 (k29:(List Int)→(List (Int×Bool))→Int→Option (Bool×((List (Int×D83))×(List Int)×(List (Int×Int)))))(a1:D23)(xs5:List Int)(m6:List (Int×Bool))(y7:Int):Nat→Int→Option (Bool×((List (Int×D83))×(List Int)×(List (Int×Int))))
 |0,_=>none
 |f+1,y16=>if y16<((a1).length:Int)then((A.ix a1 y16).bind fun x20=>(A.lt (Z.mget (false:Bool) m6 x20.1) fun x28=>(if x28=true then(F.graph_plan_sort_j2 (F.graph_plan_sort_l4 k29 a1 xs5 m6 y7 f) y16)else(F.graph_plan_sort_l3 k29 (F.graph_plan_sort_l4 k29 a1 xs5 m6 y7 f) xs5 m6 y7 y16 x20 A.FU 0))))else(F.graph_plan_sort_j1 k29 y7 xs5 m6)
def F.graph_plan_sort_l5 (a0:((List (Int×D83))×(List Int)×(List (Int×Int))))(a1:D23):Nat→(List Int)→(List (Int×Bool))→Int→Option (Bool×((List (Int×D83))×(List Int)×(List (Int×Int))))
 |0,_,_,_=>none
 |f+1,xs5,m6,y7=>if y7<((a1).length:Int)then(F.graph_plan_sort_l4 (F.graph_plan_sort_l5 a0 a1 f) a1 xs5 m6 y7 A.FU 0)else(some (decide (((xs5).length:Int)=((a1).length:Int)),(a0.1,xs5,a0.2.2)))
def F.graph_plan_sort (a0:((List (Int×D83))×(List Int)×(List (Int×Int))))(a1:D23):Option (Bool×((List (Int×D83))×(List Int)×(List (Int×Int)))):=F.graph_plan_sort_l5 a0 a1 A.FU a0.2.1 [] 0
theorem graph_plan_sort_ok (a0:((List (Int×D83))×(List Int)×(List (Int×Int))))(a1:D23)(g0_:Nat)(b1_:Nat)(A2_:Option Addr)(c3_:Nat)(b4_:Nat)(A5_:Option Addr)(c6_:Nat)(r:Bool×((List (Int×D83))×(List Int)×(List (Int×Int))))(hF:F.graph_plan_sort a0 a1=some r):
    A.Ct Tryz.prog 100 [.pointer (some ⟨g0_,0,none⟩),.agg #[.slice A5_ ((a1).length) c6_]] [(0,.blk g0_ 149 [.map (some b1_),.slice A2_ ((a0.2.1).length) c3_,.map (some b4_)]),(1,.mp Int (fun i:Int=>.int .i64 i) T83 true b1_ a0.1),(2,.own (Z.Ty.int .i64) 3 A2_ c3_ a0.2.1),(3,.mp Int (fun i:Int=>.int .i64 i) (Z.Ty.int .i64) false b4_ a0.2.2),(4,.sh (.slice T83) [.slice A5_ (a1).length c6_] a1)] ([g0_]++([b1_]++(Z.obl A2_++([b4_]++[])))) (fun v H'=>∃(b0':Nat) (A1':Option Addr) (c2':Nat) (b3':Nat),v=.bool r.1∧H'=[(0,.blk g0_ 149 [.map (some b0'),.slice A1' ((r.2.2.1).length) c2',.map (some b3')]),(1,.mp Int (fun i:Int=>.int .i64 i) T83 true b0' r.2.1),(2,.own (Z.Ty.int .i64) 3 A1' c2' r.2.2.1),(3,.mp Int (fun i:Int=>.int .i64 i) (Z.Ty.int .i64) false b3' r.2.2.2)]):=by
 refine A.Ct.enter Tryz.func100 rfl Tryz.ntmps100 rfl fun w0 F0=>?_
 rw[F.graph_plan_sort]at hF
 refine A.xl 1 ?_
 refine A.AL.box 5 (cs:=[.slice A5_ ((a1).length) c6_]) fun g1=>?_
 refine A.q0 [] [] [.n] [] ?_
 refine A.dl 2 ?_
 refine A.AL.mkm 6 Int (fun i:Int=>.int .i64 i) Z.Ty.bool false fun b2=>?_
 refine A.q0 [] [] [.n] [(5,.map (some b2))] ?_
 refine A.dl 3 ?_
 refine A.q0 [5] [] [.n,.b 0 0,.n,.n] [(13,.int .i64 ((a1).length:Int)),(14,.int .i64 0)] ?_
 refine A.dx 2 ?_
 refine A.lp_ [0,3,5,13] [1,3,4,5] (fun f nl nh=>∃(xs5:List Int),∃(m6:List (Int×Bool)),∃(y7:Int),∃(A3:Option Addr),∃(c4:Nat),nl=[(14,.int .i64 y7)]∧nh=[(0,.blk g0_ 149 [.map (some b1_),.slice A3 ((xs5).length) c4,.map (some b4_)]),(2,.own (Z.Ty.int .i64) 3 A3 c4 xs5),(6,.mp Int (fun i:Int=>.int .i64 i) Z.Ty.bool false b2 m6)]∧IntKind.i64.has y7∧F.graph_plan_sort_l5 a0 a1 f xs5 m6 y7=some r) ⟨a0.2.1,[],0,A2_,c3_,rfl,rfl,(A.hasl .i64 (0) rfl),hF⟩ ?_
 rintro f9 _ _ ⟨xs5,m6,y7,A3,c4,rfl,rfl,hy8,hF⟩
 rcases f9 with _|f9
 ·exact A.no0 hF
 rw[F.graph_plan_sort_l5]at hF
 refine A.xl 1 ?_
 refine A.q0 [] [] [.n] [(15,.bool (decide (y7<((a1).length:Int))))] ?_
 refine A.dx 2 ?_
 refine A.AX.cnd rfl hF (fun hb hF=>?_) (fun hb hF=>?_)
 ·refine A.xx 2 ?_
  refine A.AX.join [0,3,5,13,14] [1,3,4,5] (fun nl nh=>∃(xs12:List Int),∃(m14:List (Int×Bool)),∃(A10:Option Addr),∃(c11:Nat),nl=[]∧nh=[(0,.blk g0_ 149 [.map (some b1_),.slice A10 ((xs12).length) c11,.map (some b4_)]),(2,.own (Z.Ty.int .i64) 3 A10 c11 xs12),(6,.mp Int (fun i:Int=>.int .i64 i) Z.Ty.bool false b2 m14)]∧F.graph_plan_sort_j1 (F.graph_plan_sort_l5 a0 a1 f9) y7 xs12 m14=some r) ?_ ?_
  ·refine A.xx 1 ?_
   refine A.AX.scope ?_
   refine A.xl 4 ?_
   refine A.q0 [5] [] [.n,.b 0 0,.n,.n] [(17,.slice A5_ ((a1).length) c6_),(18,.int .i64 ((a1).length:Int)),(19,.int .i64 0)] ?_
   refine A.dx 2 ?_
   refine A.lp_ [0,3,5,13,14,17,18] [0,1,2,3,4,5,6] (fun f nl nh=>∃(y16:Int),nl=[(19,.int .i64 y16)]∧nh=[]∧IntKind.i64.has y16∧F.graph_plan_sort_l4 (F.graph_plan_sort_l5 a0 a1 f9) a1 xs5 m6 y7 f y16=some r) ⟨0,rfl,rfl,(A.hasl .i64 (0) rfl),hF⟩ ?_
   rintro f18 _ _ ⟨y16,rfl,rfl,hy17,hF⟩
   rcases f18 with _|f18
   ·exact A.no0 hF
   rw[F.graph_plan_sort_l4]at hF
   refine A.xl 1 ?_
   refine A.q0 [] [] [.n] [(20,.bool (decide (y16<((a1).length:Int))))] ?_
   refine A.dx 2 ?_
   refine A.AX.cnd rfl hF (fun hb hF=>?_) (fun hb hF=>?_)
   ·refine A.xx 2 ?_
    refine A.AX.join [0,3,5,13,14,17,18,19] [0,1,2,3,4,5,6] (fun nl nh=>nl=[]∧nh=[]∧F.graph_plan_sort_j2 (F.graph_plan_sort_l4 (F.graph_plan_sort_l5 a0 a1 f9) a1 xs5 m6 y7 f18) y16=some r) ?_ ?_
    ·refine A.xl 2 ?_
     obtain⟨x20,hv21,hF⟩:=A.bd_some hF
     refine A.AL.ixs 4 111 hv21 fun ho22=>?_
     intro A23 c24 b25 o26
     refine A.q0 [] [111] [.e 0 0] [(22,.agg #[.int .i64 x20.1,.int .i64 x20.2.1,.slice A23 ((x20.2.2.1).length) c24,.int .i64 x20.2.2.2.1.1,.int .i64 x20.2.2.2.1.2.1,.string x20.2.2.2.1.2.2,.string x20.2.2.2.2.1,.int .i64 x20.2.2.2.2.2.1,.int .i64 x20.2.2.2.2.2.2])] ?_
     refine A.AL.alloc 113 (cs:=[.int .i64 0,.int .i64 0,.slice none 0 0,.int .i64 0,.int .i64 0,.string (ByteArray.mk #[]),.string (ByteArray.mk #[]),.int .i64 0,.int .i64 0]) Tryz.zeroValue84 fun g27=>?_
     refine A.sw 113 [] [.int .i64 x20.1,.int .i64 x20.2.1,.slice A23 ((x20.2.2.1).length) c24,.int .i64 x20.2.2.2.1.1,.int .i64 x20.2.2.2.1.2.1,.string x20.2.2.2.1.2.2,.string x20.2.2.2.2.1,.int .i64 x20.2.2.2.2.2.1,.int .i64 x20.2.2.2.2.2.2] ?_
     refine A.dl 3 ?_
     refine A.q0 [113] [] [.n,.n,.b 0 0] [(23,.map (some b2)),(25,.int .i64 x20.1)] ?_
     obtain⟨x28,hv29,hF⟩:=A.lt_some hF
     refine A.AL.lku (t:=Z.Ty.bool) 6 114 (z:=(false:Bool)) (zs:=[.bool false]) ky3 x20.1 Tryz.zeroValue4 rfl hv29 fun ho30=>?_
     refine A.dx 1 ?_
     refine A.AX.cnb rfl hF (fun hb hF=>?_) (fun hb hF=>?_)
     ·refine A.xe 1 ?_
      exact A.j ⟨rfl,rfl,hF⟩
     refine A.xl 4 ?_
     refine A.q0 [113] [] [.n,.b 0 2,.n,.n] [(28,.slice A23 ((x20.2.2.1).length) c24),(29,.int .i64 ((x20.2.2.1).length:Int)),(30,.int .i64 0)] ?_
     refine A.dx 2 ?_
     refine A.lp_ [0,3,5,7,13,14,17,18,19,28,29] [0,1,2,3,4,5,6,112,113] (fun f nl nh=>∃(y31:Int),nl=[(30,.int .i64 y31)]∧nh=[]∧IntKind.i64.has y31∧F.graph_plan_sort_l3 (F.graph_plan_sort_l5 a0 a1 f9) (F.graph_plan_sort_l4 (F.graph_plan_sort_l5 a0 a1 f9) a1 xs5 m6 y7 f18) xs5 m6 y7 y16 x20 f y31=some r) ⟨0,rfl,rfl,(A.hasl .i64 (0) rfl),hF⟩ ?_
     rintro f33 _ _ ⟨y31,rfl,rfl,hy32,hF⟩
     rcases f33 with _|f33
     ·exact A.no0 hF
     rw[F.graph_plan_sort_l3]at hF
     refine A.xl 1 ?_
     refine A.q0 [] [] [.n] [(31,.bool (decide (y31<((x20.2.2.1).length:Int))))] ?_
     refine A.dx 2 ?_
     refine A.AX.cnd rfl hF (fun hb hF=>?_) (fun hb hF=>?_)
     ·refine A.xl 5 ?_
      obtain⟨x34,hv35,hF⟩:=A.bd_some hF
      refine A.AL.ixs 112 121 hv35 fun ho36=>?_
      intro b37 o38
      refine A.q0 [] [121] [.e 0 0,.n] [(9,.int .i64 x34)] ?_
      refine A.dl 2 ?_
      refine A.q0 [] [] [.n,.n] [(34,.map (some b2)),(35,.int .i64 x34)] ?_
      obtain⟨x39,hv40,hF⟩:=A.lt_some hF
      refine A.AL.lku (t:=Z.Ty.bool) 6 122 (z:=(false:Bool)) (zs:=[.bool false]) ky3 x34 Tryz.zeroValue4 rfl hv40 fun ho41=>?_
      refine A.q0 [113] [] [.n,.n,.sy .n,.sy (.b 0 1),.sy .n,.pk] [(42,.bool (bif !x39 then decide (x20.2.1≠14)else false))] ?_
      refine A.dx 1 ?_
      refine A.AX.cnb rfl hF (fun hb hF=>?_) (fun hb hF=>?_)
      ·refine A.xe 1 ?_
       exact A.j ⟨rfl,rfl,hF⟩
      refine A.xl 3 ?_
      obtain⟨hc42,hF⟩:=A.gd_some hF
      refine A.q [] [] [.n,.n] [Z.R64 (y31+1)] [(30,.int .i64 (y31+1))] hc42 ?_
      refine A.AL.done ?_
      exact A.j ⟨_,Nat.lt_succ_self _,⟨(y31+1),rfl,rfl,(Z.i64_has hc42),hF⟩⟩
     refine A.xl 3 ?_
     refine A.q0 [113] [] [.n,.n,.b 0 0] [(44,.map (some b2)),(46,.int .i64 x20.1)] ?_
     refine A.AL.mup (t:=Z.Ty.bool) 6 [] (cs:=[.bool true]) (u:=true) ky3 x20.1 rfl ?_
     refine A.dx 2 ?_
     refine A.AX.dr mixed 11 12 (A.mb 12 0) ?_
     refine A.hq A.pb [] [0,1,3,4,5,6,112,113] [113,0] [] (A.mb 12 127) 5 [(0,.n),(1,.n),(5,.n),(2,.n),(6,.b 0 0),(3,.n),(4,.b 1 1)] [(47,.pointer (some ⟨g0_,0,none⟩)),(53,.int .i64 x20.1),(51,.slice A3 ((xs5).length) c4)] ?_
     refine A.AH.one 7 ?_
     refine A.AL.bsl 123 (ty:=(Z.Ty.int .i64)) (cs:=[.int .i64 x20.1]) [x20.1] ⟨⟨rfl,ho22.1⟩,rfl⟩ (fun g43=>?_) Tryz.zeroValue3 Tryz.sizeOf3
     refine A.AH.nx (A.mb 12 255) [0,1,3,4,5,6,112,113] ?_
     refine A.AH.one 8 ?_
     obtain⟨hl46,hF⟩:=A.gd_some hF
     refine A.AL.app (k:=2) [] (A.rowO (k:=123) rfl) inf3 hl46 fun A44 c45=>?_
     refine A.AH.nx (A.mb 12 511) [0,1,3,4,5,6,112,113] ?_
     refine A.hq A.pb [0,1,3,4,5,6,112,113] [0,1,2,3,4,5,6,112,113,123] [] [] (A.mb 12 2047) 1 [(9,.n),(10,.n)] [(57,.pointer (some ⟨g0_,1,none⟩))] ?_
     refine A.AH.one 11 ?_
     refine A.AL.store 0 [] (new:=[.slice A44 ((xs5++[x20.1]).length) c45]) (cs':=[.map (some b1_),.slice A44 ((xs5++[x20.1]).length) c45,.map (some b4_)]) ?_
     refine A.AH.nm (A.mb 12 4095) ?_
     refine A.AH.done ?_
     refine A.ee 4 ?_
     exact A.j ⟨(xs5++[x20.1]),(Z.mins m6 x20.1 true),A44,c45,rfl,rfl,hF⟩
    rintro _ _ ⟨rfl,rfl,hF⟩
    rw[F.graph_plan_sort_j2]at hF
    refine A.xl 0 ?_
    obtain⟨hc19,hF⟩:=A.gd_some hF
    refine A.q [] [] [.n,.n] [Z.R64 (y16+1)] [(19,.int .i64 (y16+1))] hc19 ?_
    refine A.AL.done ?_
    exact A.j ⟨_,Nat.lt_succ_self _,⟨(y16+1),rfl,rfl,(Z.i64_has hc19),hF⟩⟩
   refine A.xe 3 ?_
   exact A.j ⟨xs5,m6,A3,c4,rfl,rfl,hF⟩
  rintro _ _ ⟨xs12,m14,A10,c11,rfl,rfl,hF⟩
  rw[F.graph_plan_sort_j1]at hF
  refine A.xl 0 ?_
  obtain⟨hc15,hF⟩:=A.gd_some hF
  refine A.q [] [] [.n,.n] [Z.R64 (y7+1)] [(14,.int .i64 (y7+1))] hc15 ?_
  refine A.AL.done ?_
  exact A.j ⟨_,Nat.lt_succ_self _,⟨xs12,m14,(y7+1),A10,c11,rfl,rfl,(Z.i64_has hc15),hF⟩⟩
 refine A.xx 3 ?_
 refine A.AX.dr mixed 10 10 (A.mb 10 0) ?_
 refine A.hq A.pb [] [0,1,2,3,4,5,6] [5,0] [] (A.mb 10 1023) 0 [(0,.n),(5,.n),(1,.n),(6,.b 0 0),(2,.n),(7,.n),(3,.b 1 1),(4,.n),(8,.n),(9,.n)] [(4,.bool (decide (((xs5).length:Int)=((a1).length:Int))))] ?_
 refine A.AH.done ?_
 refine A.ex 1 ?_
 obtain rfl:=Option.some.inj hF
 exact A.rt1 [(0,0),(1,1),(2,2),(3,3)] ⟨b1_,A3,c4,b4_,rfl,rfl⟩
def F.graph_plan_out_j1 (y12:Int):Option (Int×Bool):=some (y12,bif decide ((0:Int)≤y12)then decide (y12≤4)else false)
def F.graph_plan_out_j2 (x8:Int):Option (Int×Bool):=some (x8,decide (x8=0))
def F.graph_plan_out_j3 (a1:D83)(x8:Int)(y11:Bool):Option (Int×Bool):=if y11=true then(some (0,false))else(if a1.2.1=12 then(A.gd (Z.R64 (x8+1)) (F.graph_plan_out_j1 (x8+1)))else(if a1.2.1=13 then(A.gd (Z.R64 (x8-1)) (F.graph_plan_out_j1 (x8-1)))else(if a1.2.1=11 then(F.graph_plan_out_j2 x8)else(if a1.2.1=16 then(F.graph_plan_out_j2 x8)else(if a1.2.1=15 then(F.graph_plan_out_j2 x8)else(F.graph_plan_out_j1 x8))))))
def F.graph_plan_out (a0:((List (Int×D83))×(List Int)×(List (Int×Int))))(a1:D83):Option (Int×Bool):=if a1.2.1=1 then(some (0,true))else(if a1.2.1=14 then(some (a1.2.2.2.2.2.2,true))else((A.ix a1.2.2.1 0).bind fun x2=>(A.lt (Z.mget (0:Int) a0.2.2 x2) fun x8=>(if(1:Int)<((a1.2.2.1).length:Int)then((A.ix a1.2.2.1 1).bind fun x16=>(A.lt (Z.mget (0:Int) a0.2.2 x16) fun x22=>(F.graph_plan_out_j3 a1 x8 (decide (x22≠x8)))))else(F.graph_plan_out_j3 a1 x8 false)))))
theorem graph_plan_out_ok (a0:((List (Int×D83))×(List Int)×(List (Int×Int))))(a1:D83)(g0_:Nat)(b1_:Nat)(A2_:Option Addr)(c3_:Nat)(b4_:Nat)(A7_:Option Addr)(c8_:Nat)(h5_:IntKind.i64.has a1.1)(h6_:IntKind.i64.has a1.2.1)(h9_:IntKind.i64.has a1.2.2.2.1.1)(h10_:IntKind.i64.has a1.2.2.2.1.2.1)(h11_:a1.2.2.2.1.2.2.size≤maxLen)(h12_:a1.2.2.2.2.1.size≤maxLen)(h13_:IntKind.i64.has a1.2.2.2.2.2.1)(h14_:IntKind.i64.has a1.2.2.2.2.2.2)(r:Int×Bool)(hF:F.graph_plan_out a0 a1=some r):
    A.Ct Tryz.prog 140 [.pointer (some ⟨g0_,0,none⟩),.agg #[.int .i64 a1.1,.int .i64 a1.2.1,.slice A7_ ((a1.2.2.1).length) c8_,.int .i64 a1.2.2.2.1.1,.int .i64 a1.2.2.2.1.2.1,.string a1.2.2.2.1.2.2,.string a1.2.2.2.2.1,.int .i64 a1.2.2.2.2.2.1,.int .i64 a1.2.2.2.2.2.2]] [(0,.blk g0_ 149 [.map (some b1_),.slice A2_ ((a0.2.1).length) c3_,.map (some b4_)]),(1,.mp Int (fun i:Int=>.int .i64 i) T83 true b1_ a0.1),(2,.own (Z.Ty.int .i64) 3 A2_ c3_ a0.2.1),(3,.mp Int (fun i:Int=>.int .i64 i) (Z.Ty.int .i64) false b4_ a0.2.2),(4,.sh (.slice (Z.Ty.int .i64)) [.slice A7_ (a1.2.2.1).length c8_] a1.2.2.1)] ([g0_]++([b1_]++(Z.obl A2_++([b4_]++[])))) (fun v H'=>v=.tuple #[.int .i64 r.1,.bool r.2]∧H'=[(0,.blk g0_ 149 [.map (some b1_),.slice A2_ ((a0.2.1).length) c3_,.map (some b4_)]),(1,.mp Int (fun i:Int=>.int .i64 i) T83 true b1_ a0.1),(2,.own (Z.Ty.int .i64) 3 A2_ c3_ a0.2.1),(3,.mp Int (fun i:Int=>.int .i64 i) (Z.Ty.int .i64) false b4_ a0.2.2)]∧IntKind.i64.has r.1):=by
 refine A.Ct.enter Tryz.func140 rfl Tryz.ntmps140 rfl fun w0 F0=>?_
 rw[F.graph_plan_out]at hF
 refine A.xl 1 ?_
 refine A.AL.box 5 (cs:=[.int .i64 a1.1,.int .i64 a1.2.1,.slice A7_ ((a1.2.2.1).length) c8_,.int .i64 a1.2.2.2.1.1,.int .i64 a1.2.2.2.1.2.1,.string a1.2.2.2.1.2.2,.string a1.2.2.2.2.1,.int .i64 a1.2.2.2.2.2.1,.int .i64 a1.2.2.2.2.2.2]) fun g1=>?_
 refine A.q0 [] [] [.n,.n] [] ?_
 refine A.dl 3 ?_
 refine A.q0 [5] [] [.n,.b 0 1] [(8,.int .i64 a1.2.1)] ?_
 refine A.dl 3 ?_
 refine A.q0 [] [] [.n,.n] [(9,.bool (decide (a1.2.1=1)))] ?_
 refine A.dx 1 ?_
 refine A.AX.cnd rfl hF (fun hb hF=>?_) (fun hb hF=>?_)
 ·refine A.xl 1 ?_
  refine A.q0 [] [] [.n,.n] [(4,.int .i64 0),(5,.bool true)] ?_
  refine A.dx 1 ?_
  obtain rfl:=Option.some.inj hF
  exact A.rt2 [(0,0),(1,1),(2,2),(3,3)] ⟨rfl,rfl,(A.hasl .i64 (0) rfl)⟩
 refine A.xl 1 ?_
 refine A.q0 [] [] [.n,.n] [(11,.bool (decide (a1.2.1=14)))] ?_
 refine A.dx 1 ?_
 refine A.AX.cnd rfl hF (fun hb hF=>?_) (fun hb hF=>?_)
 ·refine A.xl 1 ?_
  refine A.q0 [5] [] [.n,.b 0 8,.n,.n] [(4,.int .i64 a1.2.2.2.2.2.2),(5,.bool true)] ?_
  refine A.dx 1 ?_
  obtain rfl:=Option.some.inj hF
  exact A.rt2 [(0,0),(1,1),(2,2),(3,3)] ⟨rfl,rfl,h14_⟩
 refine A.xx 4 ?_
 refine A.AX.dr mixed 10 10 (A.mb 10 0) ?_
 refine A.hq A.pb [] [0,1,2,3,4,5] [5,0] [] (A.mb 10 63) 4 [(0,.n),(4,.n),(1,.n),(5,.b 0 2),(2,.n),(3,.b 1 2)] [(20,.slice A7_ ((a1.2.2.1).length) c8_),(18,.map (some b4_))] ?_
 obtain⟨x2,hv3,hF⟩:=A.bd_some hF
 refine A.AH.pks 4 6 hv3 fun ho4=>?_
 intro b6 o7 hA5
 refine A.AH.v A.pb [0,1,2,3,4,5] [0,1,2,3,4,5,6] 6 (A.mb 10 127) rfl (fun a w hf hh=>A.r_ixa (t:=(Z.Ty.int .i64)) hv3 hA5 hf) ?_
 refine A.hq A.pb [0,1,2,3,4,5,6] [0,1,2,3,4,5,6] [] [6] (A.mb 10 255) 2 [(7,.e 0 0)] [(22,.int .i64 x2)] ?_
 obtain⟨x8,hv9,hF⟩:=A.lt_some hF
 refine A.okm (t:=(Z.Ty.int .i64)) 3 x2 (z:=(0:Int)) (zs:=[.int .i64 0]) ⟨rfl,by decide⟩ hv9 fun ho10=>?_
 refine A.AH.v A.pb [0,1,2,3,4,5,6] [0,1,2,3,4,5,6] 8 (A.mb 10 511) rfl (fun a w hf hh=>A.r_lkf (t:=(Z.Ty.int .i64)) (ok:=false) (z:=(0:Int)) (zs:=[.int .i64 0]) 3 ky3 x2 Tryz.zeroValue3 ⟨rfl,by decide⟩ hv9 rfl hf hh) ?_
 refine A.hq A.pb [0,1,2,3,4,5,6] [0,1,2,3,4,5,6] [] [] (A.mb 10 1023) 0 [(9,.n)] [(6,.int .i64 x8)] ?_
 refine A.AH.done ?_
 refine A.ex 2 ?_
 refine A.AX.join [3,6] [0,1,2,3,4,5] (fun nl nh=>∃(y11:Bool),nl=[(40,.bool y11)]∧nh=[]∧F.graph_plan_out_j3 a1 x8 y11=some r) ?_ ?_
 ·refine A.AX.dr mixed 17 17 (A.mb 17 0) ?_
  refine A.hq A.pb [] [0,1,2,3,4,5,6] [5] [] (A.mb 17 31) 12 [(0,.n),(1,.b 0 2),(2,.n),(3,.n),(4,.n)] [(28,.bool (decide ((1:Int)<((a1.2.2.1).length:Int))))] ?_
  refine A.AH.cnp (j:=28) rfl hF (fun hb hF=>?_) (fun hb hF=>?_)
  ·refine A.hq A.pb [0,1,2,3,4,5,6] [0,1,2,3,4,5,6] [5,0] [] (A.mb 17 18431) 5 [(5,.on .n),(9,.on .n),(14,.on .n),(6,.on .n),(10,.on (.b 0 2)),(7,.on .n),(8,.on (.b 1 2))] [(38,.int .i64 x8),(34,.slice A7_ ((a1.2.2.1).length) c8_),(32,.map (some b4_))] ?_
   obtain⟨x16,hv17,hF⟩:=A.bd_some hF
   refine A.AH.pks 4 7 hv17 fun ho18=>?_
   intro b20 o21 hA19
   refine A.AH.vg A.pb [0,1,2,3,4,5,6] [0,1,2,3,4,5,6,7] 11 (A.mb 17 20479) (dj:=28) rfl (fun a w hf hh=>A.r_ixa (t:=(Z.Ty.int .i64)) hv17 hA19 hf) ?_
   refine A.hq A.pb [0,1,2,3,4,5,6,7] [0,1,2,3,4,5,6,7] [] [7] (A.mb 17 24575) 3 [(12,.on (.e 0 0))] [(36,.int .i64 x16)] ?_
   obtain⟨x22,hv23,hF⟩:=A.lt_some hF
   refine A.okm (t:=(Z.Ty.int .i64)) 3 x16 (z:=(0:Int)) (zs:=[.int .i64 0]) ⟨rfl,by decide⟩ hv23 fun ho24=>?_
   refine A.AH.vg A.pb [0,1,2,3,4,5,6,7] [0,1,2,3,4,5,6,7] 13 (A.mb 17 32767) (dj:=28) rfl (fun a w hf hh=>A.r_lkf (t:=(Z.Ty.int .i64)) (ok:=false) (z:=(0:Int)) (zs:=[.int .i64 0]) 3 ky3 x16 Tryz.zeroValue3 ⟨rfl,by decide⟩ hv23 rfl hf hh) ?_
   refine A.hq A.pb [0,1,2,3,4,5,6,7] [0,1,2,3,4,5,6,7] [] [] (A.mb 17 131071) 0 [(15,.on .n),(16,.n)] [(40,.bool (decide (x22≠x8)))] ?_
   refine A.AH.done ?_
   exact A.j ⟨(decide (x22≠x8)),rfl,rfl,hF⟩
  refine A.hq A.pb [0,1,2,3,4,5,6] [0,1,2,3,4,5,6] [] [] (A.mb 17 131071) 0 [(5,.off),(9,.off),(14,.off),(6,.off),(10,.off),(7,.off),(11,.off),(8,.off),(12,.off),(13,.off),(15,.off),(16,.n)] [(40,.bool false)] ?_
  refine A.AH.done ?_
  exact A.j ⟨false,rfl,rfl,hF⟩
 rintro _ _ ⟨y11,rfl,rfl,hF⟩
 rw[F.graph_plan_out_j3]at hF
 refine A.AX.cnb rfl hF (fun hb hF=>?_) (fun hb hF=>?_)
 ·refine A.xl 1 ?_
  refine A.q0 [] [] [.n,.n] [(4,.int .i64 0),(5,.bool false)] ?_
  refine A.dx 1 ?_
  obtain rfl:=Option.some.inj hF
  exact A.rt2 [(0,0),(1,1),(2,2),(3,3)] ⟨rfl,rfl,(A.hasl .i64 (0) rfl)⟩
 refine A.xx 2 ?_
 refine A.AX.join [] [0,1,2,3] (fun nl nh=>∃(y12:Int),nl=[(6,.int .i64 y12)]∧nh=[]∧IntKind.i64.has y12∧F.graph_plan_out_j1 y12=some r) ?_ ?_
 ·refine A.xl 1 ?_
  refine A.q0 [5] [] [.n,.b 0 1] [(42,.int .i64 a1.2.1)] ?_
  refine A.dx 2 ?_
  refine A.AX.join [6] [0,1,2,3] (fun nl nh=>nl=[]∧nh=[]∧F.graph_plan_out_j2 x8=some r) ?_ ?_
  ·refine A.xl 10 ?_
   refine A.q0 [] [] [.n,.n] [(43,.bool (decide (a1.2.1=12)))] ?_
   refine A.dx 1 ?_
   refine A.AX.cnd rfl hF (fun hb hF=>?_) (fun hb hF=>?_)
   ·refine A.xl 3 ?_
    obtain⟨hc14,hF⟩:=A.gd_some hF
    refine A.q [] [] [.n,.n,.n] [Z.R64 (x8+1)] [(6,.int .i64 (x8+1))] hc14 ?_
    refine A.de 2 ?_
    exact A.j ⟨(x8+1),rfl,rfl,(Z.i64_has hc14),hF⟩
   refine A.xl 4 ?_
   refine A.q0 [] [] [.n,.n] [(45,.bool (decide (a1.2.1=13)))] ?_
   refine A.dx 1 ?_
   refine A.AX.cnd rfl hF (fun hb hF=>?_) (fun hb hF=>?_)
   ·refine A.xl 3 ?_
    obtain⟨hc15,hF⟩:=A.gd_some hF
    refine A.q [] [] [.n,.n,.n] [Z.R64 (x8-1)] [(6,.int .i64 (x8-1))] hc15 ?_
    refine A.de 2 ?_
    exact A.j ⟨(x8-1),rfl,rfl,(Z.i64_has hc15),hF⟩
   refine A.xl 4 ?_
   refine A.q0 [] [] [.n,.n] [(47,.bool (decide (a1.2.1=11)))] ?_
   refine A.dx 1 ?_
   refine A.AX.cnd rfl hF (fun hb hF=>?_) (fun hb hF=>?_)
   ·refine A.xe 3 ?_
    exact A.j ⟨rfl,rfl,hF⟩
   refine A.xl 4 ?_
   refine A.q0 [] [] [.n,.n] [(49,.bool (decide (a1.2.1=16)))] ?_
   refine A.dx 1 ?_
   refine A.AX.cnd rfl hF (fun hb hF=>?_) (fun hb hF=>?_)
   ·refine A.xe 2 ?_
    exact A.j ⟨rfl,rfl,hF⟩
   refine A.xl 3 ?_
   refine A.q0 [] [] [.n,.n] [(51,.bool (decide (a1.2.1=15)))] ?_
   refine A.dx 1 ?_
   refine A.AX.cnd rfl hF (fun hb hF=>?_) (fun hb hF=>?_)
   ·refine A.xe 1 ?_
    exact A.j ⟨rfl,rfl,hF⟩
   refine A.xe 3 ?_
   exact A.j ⟨x8,rfl,rfl,ho10,hF⟩
  rintro _ _ ⟨rfl,rfl,hF⟩
  rw[F.graph_plan_out_j2]at hF
  refine A.xl 2 ?_
  refine A.q0 [] [] [.n,.n,.n,.n,.n] [(4,.int .i64 x8),(5,.bool (decide (x8=0)))] ?_
  refine A.dx 1 ?_
  obtain rfl:=Option.some.inj hF
  exact A.rt2 [(0,0),(1,1),(2,2),(3,3)] ⟨rfl,rfl,ho10⟩
 rintro _ _ ⟨y12,rfl,rfl,hy13,hF⟩
 rw[F.graph_plan_out_j1]at hF
 refine A.xl 1 ?_
 refine A.q0 [] [] [.n,.n,.n,.n,.sy .n,.sy .n,.pk,.n,.n] [(4,.int .i64 y12),(5,.bool (bif decide ((0:Int)≤y12)then decide (y12≤4)else false))] ?_
 refine A.dx 1 ?_
 obtain rfl:=Option.some.inj hF
 exact A.rt2 [(0,0),(1,1),(2,2),(3,3)] ⟨rfl,rfl,hy13⟩
end Go.Proofs.YtlbnpmfggfbdoaaGreatDoor
end
section
set_option linter.unusedVariables false
set_option linter.unusedSimpArgs false
set_option maxRecDepth 20000
set_option maxHeartbeats 8000000
set_option synthInstance.maxSize 1000000
set_option synthInstance.maxHeartbeats 400000
namespace Go.Proofs.YtlbnpmfggfbdoaaGreatDoor
open Go.RowKit
def F.graph_plan_depths_j1 (a0:((List (Int×D83))×(List Int)×(List (Int×Int))))(m1:List (Int×Int))(y32:Bool):Option (Option (Bool×((List (Int×D83))×(List Int)×(List (Int×Int))))):=if y32=true then(some (some (false,(a0.1,a0.2.1,m1))))else(some none)
def F.graph_plan_depths_b2 (a0:((List (Int×D83))×(List Int)×(List (Int×Int))))(m1:List (Int×Int))(p23:Int×D83):Option (Option (Bool×((List (Int×D83))×(List Int)×(List (Int×Int))))):=if p23.2.2.1=14 then((A.ix p23.2.2.2.1 0).bind fun x33=>(A.lt (Z.mget (0:Int) m1 x33) fun x39=>(F.graph_plan_depths_j1 a0 m1 (decide (x39≠p23.2.2.2.2.2.2.2)))))else(F.graph_plan_depths_j1 a0 m1 false)
def F.graph_plan_depths_l3 (a0:((List (Int×D83))×(List Int)×(List (Int×Int)))):Nat→(List (Int×Int))→Int→Option (Bool×((List (Int×D83))×(List Int)×(List (Int×Int))))
 |0,_,_=>none
 |f+1,m1,y2=>if y2<((a0.2.1).length:Int)then((A.ix a0.2.1 y2).bind fun x5=>(A.lt (Z.mget ((0,0,[],(0,0,(ByteArray.mk #[])),(ByteArray.mk #[]),0,0):D83) a0.1 x5) fun x10=>((F.graph_plan_out (a0.1,a0.2.1,m1) (x10.1,x10.2.1,x10.2.2.1,(x10.2.2.2.1.1,x10.2.2.2.1.2.1,x10.2.2.2.1.2.2),x10.2.2.2.2.1,x10.2.2.2.2.2.1,x10.2.2.2.2.2.2)).bind fun r15=>(if(!r15.2)=true then(some (false,(a0.1,a0.2.1,m1)))else(A.gd (Z.R64 (y2+1)) ((F.graph_plan_depths_l3 a0 f) (Z.mins m1 x5 r15.1) (y2+1)))))))else(A.mrg (F.graph_plan_depths_b2 a0 m1) (some (true,(a0.1,a0.2.1,m1))) a0.1)
def F.graph_plan_depths (a0:((List (Int×D83))×(List Int)×(List (Int×Int)))):Option (Bool×((List (Int×D83))×(List Int)×(List (Int×Int)))):=F.graph_plan_depths_l3 a0 A.FU a0.2.2 0
theorem graph_plan_depths_ok (a0:((List (Int×D83))×(List Int)×(List (Int×Int))))(g0_:Nat)(b1_:Nat)(A2_:Option Addr)(c3_:Nat)(b4_:Nat)(r:Bool×((List (Int×D83))×(List Int)×(List (Int×Int))))(hF:F.graph_plan_depths a0=some r):
    A.Ct Tryz.prog 101 [.pointer (some ⟨g0_,0,none⟩)] [(0,.blk g0_ 149 [.map (some b1_),.slice A2_ ((a0.2.1).length) c3_,.map (some b4_)]),(1,.mp Int (fun i:Int=>.int .i64 i) T83 true b1_ a0.1),(2,.own (Z.Ty.int .i64) 3 A2_ c3_ a0.2.1),(3,.mp Int (fun i:Int=>.int .i64 i) (Z.Ty.int .i64) false b4_ a0.2.2)] ([g0_]++([b1_]++(Z.obl A2_++([b4_]++[])))) (fun v H'=>∃(b0':Nat) (A1':Option Addr) (c2':Nat) (b3':Nat),v=.bool r.1∧H'=[(0,.blk g0_ 149 [.map (some b0'),.slice A1' ((r.2.2.1).length) c2',.map (some b3')]),(1,.mp Int (fun i:Int=>.int .i64 i) T83 true b0' r.2.1),(2,.own (Z.Ty.int .i64) 3 A1' c2' r.2.2.1),(3,.mp Int (fun i:Int=>.int .i64 i) (Z.Ty.int .i64) false b3' r.2.2.2)]):=by
 refine A.Ct.enter Tryz.func101 rfl Tryz.ntmps101 rfl fun w0 F0=>?_
 rw[F.graph_plan_depths]at hF
 refine A.xl 1 ?_
 refine A.q0 [] [] [.n] [] ?_
 refine A.dl 3 ?_
 refine A.q0 [0] [] [.n,.n,.n,.b 0 1,.n,.n] [(12,.slice A2_ ((a0.2.1).length) c3_),(13,.int .i64 ((a0.2.1).length:Int)),(14,.int .i64 0)] ?_
 refine A.dx 2 ?_
 refine A.lp_ [0,12,13] [0,1,2] (fun f nl nh=>∃(m1:List (Int×Int)),∃(y2:Int),nl=[(14,.int .i64 y2)]∧nh=[(3,.mp Int (fun i:Int=>.int .i64 i) (Z.Ty.int .i64) false b4_ m1)]∧IntKind.i64.has y2∧F.graph_plan_depths_l3 a0 f m1 y2=some r) ⟨a0.2.2,0,rfl,rfl,(A.hasl .i64 (0) rfl),hF⟩ ?_
 rintro f4 _ _ ⟨m1,y2,rfl,rfl,hy3,hF⟩
 rcases f4 with _|f4
 ·exact A.no0 hF
 rw[F.graph_plan_depths_l3]at hF
 refine A.xl 1 ?_
 refine A.q0 [] [] [.n] [(15,.bool (decide (y2<((a0.2.1).length:Int))))] ?_
 refine A.dx 2 ?_
 refine A.AX.cnd rfl hF (fun hb hF=>?_) (fun hb hF=>?_)
 ·refine A.xl 5 ?_
  obtain⟨x5,hv6,hF⟩:=A.bd_some hF
  refine A.AL.ixo 2 96 hv6 fun ho7=>?_
  intro g8 hA9
  refine A.q0 [] [96] [.e 0 0,.n] [(4,.int .i64 x5)] ?_
  refine A.dl 2 ?_
  refine A.q0 [0] [] [.n,.n,.n,.n,.b 0 0,.n] [(19,.pointer (some ⟨g0_,0,none⟩)),(23,.map (some b1_)),(24,.int .i64 x5)] ?_
  obtain⟨x10,hv11,hF⟩:=A.lt_some hF
  refine A.AL.lku (t:=T83) 1 97 (z:=((0,0,[],(0,0,(ByteArray.mk #[])),(ByteArray.mk #[]),0,0):D83)) (zs:=[.int .i64 0,.int .i64 0,.slice none 0 0,.int .i64 0,.int .i64 0,.string (ByteArray.mk #[]),.string (ByteArray.mk #[]),.int .i64 0,.int .i64 0]) ky3 x5 Tryz.zeroValue84 ⟨⟨rfl,by decide⟩,⟨rfl,by decide⟩,(.inr ⟨rfl,rfl⟩),⟨⟨rfl,by decide⟩,⟨rfl,by decide⟩,⟨rfl,by decide⟩⟩,⟨rfl,by decide⟩,⟨rfl,by decide⟩,⟨rfl,by decide⟩⟩ hv11 fun ho12=>?_
  intro A13 c14
  obtain⟨r15,hv16,hF⟩:=A.bd_some hF
  refine A.AL.call 98 [96] (first:=[]) (cap:=[]) cf140 (graph_plan_out_ok (a0.1,a0.2.1,m1) (x10.1,x10.2.1,x10.2.2.1,(x10.2.2.2.1.1,x10.2.2.2.1.2.1,x10.2.2.2.1.2.2),x10.2.2.2.2.1,x10.2.2.2.2.2.1,x10.2.2.2.2.2.2) g0_ b1_ A2_ c3_ b4_ A13 c14 ho12.1 ho12.2.1 ho12.2.2.2.1.1 ho12.2.2.2.1.2.1 ho12.2.2.2.1.2.2 ho12.2.2.2.2.1 ho12.2.2.2.2.2.1 ho12.2.2.2.2.2.2 r15 hv16) (.m 0 (.m 1 (.m 2 (.m 3 (.s 97 .nil))))) ?_
  rintro _ _ ⟨rfl,rfl,hr17⟩
  refine⟨by kernel_rfl,?_⟩
  refine A.mvd 98 0 [] ?_
  refine A.mvd 99 1 [] ?_
  refine A.mvd 100 2 [] ?_
  refine A.mvd 101 3 [] ?_
  refine A.q0 [] [] [.n,.n,.n,.n,.n] [(5,.int .i64 r15.1),(6,.bool r15.2)] ?_
  refine A.dl 3 ?_
  refine A.q0 [] [] [.n,.n] [(30,.bool (!r15.2))] ?_
  refine A.dx 1 ?_
  refine A.AX.cnb rfl hF (fun hb hF=>?_) (fun hb hF=>?_)
  ·refine A.xl 1 ?_
   refine A.q0 [] [] [.n] [(2,.bool false)] ?_
   refine A.dx 1 ?_
   obtain rfl:=Option.some.inj hF
   exact A.rt1 [(0,0),(1,1),(2,2),(3,3)] ⟨b1_,A2_,c3_,b4_,rfl,rfl⟩
  refine A.xl 2 ?_
  refine A.q0 [0] [] [.n,.n,.n,.b 0 2,.n,.n] [(34,.map (some b4_)),(35,.int .i64 x5),(36,.int .i64 r15.1)] ?_
  refine A.AL.mup (t:=(Z.Ty.int .i64)) 3 [] (cs:=[.int .i64 r15.1]) (u:=r15.1) ky3 x5 ⟨rfl,hr17⟩ ?_
  refine A.dl 2 ?_
  obtain⟨hc18,hF⟩:=A.gd_some hF
  refine A.q [] [] [.n,.n] [Z.R64 (y2+1)] [(14,.int .i64 (y2+1))] hc18 ?_
  refine A.AL.done ?_
  exact A.j ⟨_,Nat.lt_succ_self _,⟨(Z.mins m1 x5 r15.1),(y2+1),rfl,rfl,(Z.i64_has hc18),hF⟩⟩
 refine A.xl 4 ?_
 refine A.q0 [0] [] [.n,.n,.n,.b 0 0] [(41,.map (some b1_))] ?_
 refine A.AL.rgm 1 138 fun g19=>?_
 refine A.dx 2 ?_
 obtain⟨hev,hend⟩:=A.mrg_all hF
 refine A.AX.loop [0,42] [0,1,2,3] [138,0,1,2,3] (fun f nl nh=>∃(sn:List Nat) (la:Option (Value×Value)),nl=[]∧nh=[(138,.mit 1 g19 b1_ (a0.1).length sn la)]∧sn.Nodup∧(∀i∈sn,i<(a0.1).length)∧(∀i∈sn,∀p,(a0.1)[i]?=some p→F.graph_plan_depths_b2 a0 m1 p=some none)∧f+sn.length=(a0.1).length+1) ((a0.1).length+1) [] [(138,.mit 1 g19 b1_ (a0.1).length [] none)] ⟨[],none,rfl,rfl,List.nodup_nil,by simp,by simp,rfl⟩ ?_
 rintro f22 _ _ ⟨sn20,la21,rfl,rfl,hnd,hbd,hse,hff⟩
 refine A.xl 1 ?_
 refine A.AL.nxm 1 138 139 (fun hall=>?_) (fun i24 p23 hp25 hs26 ho27=>?_)
 ·replace hF:=hend (A.seen_all hse hall)
  refine A.q0 [] [] [.n] [(44,.bool false)] ?_
  refine A.dx 2 ?_
  refine A.AX.cnf rfl ?_
  refine A.xl 3 ?_
  refine A.q0 [] [] [.n] [(2,.bool true)] ?_
  refine A.dx 1 ?_
  obtain rfl:=Option.some.inj hF
  exact A.rt1 [(0,0),(1,1),(2,2),(3,3)] ⟨b1_,A2_,c3_,b4_,rfl,rfl⟩
 intro A28 c29
 obtain⟨q,hB,hq⟩:=hev p23 (List.mem_of_getElem? hp25)
 have hF:=hB
 rw[F.graph_plan_depths_b2]at hF
 refine A.q0 [] [] [.n] [(44,.bool true)] ?_
 refine A.dx 2 ?_
 refine A.AX.cnt rfl ?_
 refine A.xl 4 ?_
 refine A.AL.ent 138 ?_
 refine A.q0 [] [] [.n] [(46,.agg #[.int .i64 p23.2.1,.int .i64 p23.2.2.1,.slice A28 ((p23.2.2.2.1).length) c29,.int .i64 p23.2.2.2.2.1.1,.int .i64 p23.2.2.2.2.1.2.1,.string p23.2.2.2.2.1.2.2,.string p23.2.2.2.2.2.1,.int .i64 p23.2.2.2.2.2.2.1,.int .i64 p23.2.2.2.2.2.2.2])] ?_
 refine A.AL.alloc 140 (cs:=[.int .i64 0,.int .i64 0,.slice none 0 0,.int .i64 0,.int .i64 0,.string (ByteArray.mk #[]),.string (ByteArray.mk #[]),.int .i64 0,.int .i64 0]) Tryz.zeroValue84 fun g31=>?_
 refine A.sw 140 [] [.int .i64 p23.2.1,.int .i64 p23.2.2.1,.slice A28 ((p23.2.2.2.1).length) c29,.int .i64 p23.2.2.2.2.1.1,.int .i64 p23.2.2.2.2.1.2.1,.string p23.2.2.2.2.1.2.2,.string p23.2.2.2.2.2.1,.int .i64 p23.2.2.2.2.2.2.1,.int .i64 p23.2.2.2.2.2.2.2] ?_
 refine A.dx 1 ?_
 refine A.AX.join [0,42] [0,1,2,3,138] (fun nl nh=>∃(y32:Bool),nl=[(63,.bool y32)]∧nh=[]∧F.graph_plan_depths_j1 a0 m1 y32=some q) ?_ ?_
 ·refine A.AX.dr mixed 17 17 (A.mb 17 0) ?_
  refine A.hq A.pb [] [0,1,2,3,138,139,140] [140] [] (A.mb 17 15) 13 [(0,.n),(1,.b 0 1),(2,.n),(3,.n)] [(50,.bool (decide (p23.2.2.1=14)))] ?_
  refine A.AH.cnp (j:=50) rfl hF (fun hb hF=>?_) (fun hb hF=>?_)
  ·refine A.hq A.pb [0,1,2,3,138,139,140] [0,1,2,3,138,139,140] [140,0] [] (A.mb 17 25599) 5 [(4,.on .n),(8,.on .n),(13,.on .n),(5,.on .n),(9,.on (.b 0 2)),(14,.on (.b 0 8)),(6,.on .n),(7,.on (.b 1 2))] [(56,.slice A28 ((p23.2.2.2.1).length) c29),(61,.int .i64 p23.2.2.2.2.2.2.2),(54,.map (some b4_))] ?_
   obtain⟨x33,hv34,hF⟩:=A.bd_some hF
   refine A.AH.pks 139 141 hv34 fun ho35=>?_
   intro b37 o38 hA36
   refine A.AH.vg A.pb [0,1,2,3,138,139,140] [0,1,2,3,138,139,140,141] 10 (A.mb 17 26623) (dj:=50) rfl (fun a w hf hh=>A.r_ixa (t:=(Z.Ty.int .i64)) hv34 hA36 hf) ?_
   refine A.hq A.pb [0,1,2,3,138,139,140,141] [0,1,2,3,138,139,140,141] [] [141] (A.mb 17 28671) 3 [(11,.on (.e 0 0))] [(58,.int .i64 x33)] ?_
   obtain⟨x39,hv40,hF⟩:=A.lt_some hF
   refine A.okm (t:=(Z.Ty.int .i64)) 3 x33 (z:=(0:Int)) (zs:=[.int .i64 0]) ⟨rfl,by decide⟩ hv40 fun ho41=>?_
   refine A.AH.vg A.pb [0,1,2,3,138,139,140,141] [0,1,2,3,138,139,140,141] 12 (A.mb 17 32767) (dj:=50) rfl (fun a w hf hh=>A.r_lkf (t:=(Z.Ty.int .i64)) (ok:=false) (z:=(0:Int)) (zs:=[.int .i64 0]) 3 ky3 x33 Tryz.zeroValue3 ⟨rfl,by decide⟩ hv40 rfl hf hh) ?_
   refine A.hq A.pb [0,1,2,3,138,139,140,141] [0,1,2,3,138,139,140,141] [] [] (A.mb 17 131071) 0 [(15,.on .n),(16,.n)] [(63,.bool (decide (x39≠p23.2.2.2.2.2.2.2)))] ?_
   refine A.AH.done ?_
   exact A.j ⟨(decide (x39≠p23.2.2.2.2.2.2.2)),rfl,rfl,hF⟩
  refine A.hq A.pb [0,1,2,3,138,139,140] [0,1,2,3,138,139,140] [] [] (A.mb 17 131071) 0 [(4,.off),(8,.off),(13,.off),(5,.off),(9,.off),(14,.off),(6,.off),(10,.off),(7,.off),(11,.off),(12,.off),(15,.off),(16,.n)] [(63,.bool false)] ?_
  refine A.AH.done ?_
  exact A.j ⟨false,rfl,rfl,hF⟩
 rintro _ _ ⟨y32,rfl,rfl,hF⟩
 rw[F.graph_plan_depths_j1]at hF
 refine A.AX.cnb rfl hF (fun hb hF=>?_) (fun hb hF=>?_)
 ·refine A.xl 1 ?_
  refine A.q0 [] [] [.n] [(2,.bool false)] ?_
  refine A.dx 1 ?_
  obtain rfl:=Option.some.inj hF
  obtain rfl:=Option.some.inj (hq.resolve_left (by intro h;cases h))
  exact A.rt1 [(0,0),(1,1),(2,2),(3,3)] ⟨b1_,A2_,c3_,b4_,rfl,rfl⟩
 refine A.xe 2 ?_
 obtain rfl:=Option.some.inj hF
 exact A.AE.j [138,0,1,2,3] [] [(138,.mit 1 g19 b1_ (a0.1).length (i24::sn20) (some (.int .i64 p23.1,.agg #[.int .i64 p23.2.1,.int .i64 p23.2.2.1,.slice A28 ((p23.2.2.2.1).length) c29,.int .i64 p23.2.2.2.2.1.1,.int .i64 p23.2.2.2.2.1.2.1,.string p23.2.2.2.2.1.2.2,.string p23.2.2.2.2.2.1,.int .i64 p23.2.2.2.2.2.2.1,.int .i64 p23.2.2.2.2.2.2.2])))] ⟨_,(A.seen_f hnd (A.seen_bd hbd hp25) hs26 hff).1,_,_,rfl,rfl,List.nodup_cons.2 ⟨hs26,hnd⟩,A.seen_bd hbd hp25,A.seen_cons hse hp25 hB,(A.seen_f hnd (A.seen_bd hbd hp25) hs26 hff).2⟩
def F.graph_plan_spots_j1 (k8:(List D41)→Int→Option (List D41))(y5:Int)(xs10:List D41):Option (List D41):=A.gd (Z.R64 (y5+1)) (k8 xs10 (y5+1))
def F.graph_plan_spots_l2 (k8:(List D41)→Int→Option (List D41))(a0:((List (Int×D83))×(List Int)×(List (Int×Int))))(y5:Int)(x12:D83):Nat→(List D41)→Int→Option (List D41)
 |0,_,_=>none
 |f+1,xs22,y23=>if y23<((x12.2.2.1).length:Int)then((A.ix x12.2.2.1 y23).bind fun x26=>(A.lt (Z.mget (0:Int) a0.2.2 x26) fun x31=>(A.gd ((List.length (α:=D41) xs22+List.length (α:=D41) [((x12.1,y23),x31)])*24≤140737488355328) (A.gd (Z.R64 (y23+1)) ((F.graph_plan_spots_l2 k8 a0 y5 x12 f) (xs22++[((x12.1,y23),x31)]) (y23+1))))))else(if x12.2.1≠15 then(A.lt (Z.mget (0:Int) a0.2.2 x12.1) fun x39=>(A.gd ((List.length (α:=D41) xs22+List.length (α:=D41) [((x12.1,2),x39)])*24≤140737488355328) (F.graph_plan_spots_j1 k8 y5 (xs22++[((x12.1,2),x39)]))))else(F.graph_plan_spots_j1 k8 y5 xs22))
def F.graph_plan_spots_l3 (a0:((List (Int×D83))×(List Int)×(List (Int×Int))))(a1:D23):Nat→(List D41)→Int→Option (List D41)
 |0,_,_=>none
 |f+1,xs4,y5=>if y5<((a1).length:Int)then((A.ix a1 y5).bind fun x12=>(F.graph_plan_spots_l2 (F.graph_plan_spots_l3 a0 a1 f) a0 y5 x12 A.FU xs4 0))else(some xs4)
def F.graph_plan_spots (a0:((List (Int×D83))×(List Int)×(List (Int×Int))))(a1:D23):Option (List D41):=F.graph_plan_spots_l3 a0 a1 A.FU [] 0
theorem graph_plan_spots_ok (a0:((List (Int×D83))×(List Int)×(List (Int×Int))))(a1:D23)(g0_:Nat)(b1_:Nat)(A2_:Option Addr)(c3_:Nat)(b4_:Nat)(A5_:Option Addr)(c6_:Nat)(r:(List D41))(hF:F.graph_plan_spots a0 a1=some r):
    A.Ct Tryz.prog 69 [.pointer (some ⟨g0_,0,none⟩),.agg #[.slice A5_ ((a1).length) c6_]] [(0,.blk g0_ 149 [.map (some b1_),.slice A2_ ((a0.2.1).length) c3_,.map (some b4_)]),(1,.mp Int (fun i:Int=>.int .i64 i) T83 true b1_ a0.1),(2,.own (Z.Ty.int .i64) 3 A2_ c3_ a0.2.1),(3,.mp Int (fun i:Int=>.int .i64 i) (Z.Ty.int .i64) false b4_ a0.2.2),(4,.sh (.slice T83) [.slice A5_ (a1).length c6_] a1)] ([g0_]++([b1_]++(Z.obl A2_++([b4_]++[])))) (fun v H'=>∃(A0':Option Addr) (c1':Nat),v=.slice A0' ((r).length) c1'∧H'=[(0,.own T41 42 A0' c1' r),(1,.blk g0_ 149 [.map (some b1_),.slice A2_ ((a0.2.1).length) c3_,.map (some b4_)]),(2,.mp Int (fun i:Int=>.int .i64 i) T83 true b1_ a0.1),(3,.own (Z.Ty.int .i64) 3 A2_ c3_ a0.2.1),(4,.mp Int (fun i:Int=>.int .i64 i) (Z.Ty.int .i64) false b4_ a0.2.2)]):=by
 refine A.Ct.enter Tryz.func69 rfl Tryz.ntmps69 rfl fun w0 F0=>?_
 rw[F.graph_plan_spots]at hF
 refine A.xl 1 ?_
 refine A.AL.box 5 (cs:=[.slice A5_ ((a1).length) c6_]) fun g1=>?_
 refine A.q0 [] [] [.n] [] ?_
 refine A.dl 2 ?_
 refine A.q0 [] [] [.n] [(5,.slice none 0 0)] ?_
 refine A.dl 3 ?_
 refine A.q0 [5] [] [.n,.b 0 0,.n,.n] [(11,.slice A5_ ((a1).length) c6_),(12,.int .i64 ((a1).length:Int)),(13,.int .i64 0)] ?_
 refine A.dx 2 ?_
 refine A.nil 38 T41 42 ?_
 refine A.lp_ [0,11,12] [0,1,2,3,4] (fun f nl nh=>∃(xs4:List D41),∃(y5:Int),∃(A2:Option Addr),∃(c3:Nat),nl=[(5,.slice A2 ((xs4).length) c3),(13,.int .i64 y5)]∧nh=[(38,.own T41 42 A2 c3 xs4)]∧IntKind.i64.has y5∧F.graph_plan_spots_l3 a0 a1 f xs4 y5=some r) ⟨[],0,none,0,rfl,rfl,(A.hasl .i64 (0) rfl),hF⟩ ?_
 rintro f7 _ _ ⟨xs4,y5,A2,c3,rfl,rfl,hy6,hF⟩
 rcases f7 with _|f7
 ·exact A.no0 hF
 rw[F.graph_plan_spots_l3]at hF
 refine A.xl 1 ?_
 refine A.q0 [] [] [.n] [(14,.bool (decide (y5<((a1).length:Int))))] ?_
 refine A.dx 2 ?_
 refine A.AX.cnd rfl hF (fun hb hF=>?_) (fun hb hF=>?_)
 ·refine A.xx 2 ?_
  refine A.AX.join [0,11,12,13] [0,1,2,3,4] (fun nl nh=>∃(xs10:List D41),∃(A8:Option Addr),∃(c9:Nat),nl=[(5,.slice A8 ((xs10).length) c9)]∧nh=[(38,.own T41 42 A8 c9 xs10)]∧F.graph_plan_spots_j1 (F.graph_plan_spots_l3 a0 a1 f7) y5 xs10=some r) ?_ ?_
  ·refine A.xl 2 ?_
   obtain⟨x12,hv13,hF⟩:=A.bd_some hF
   refine A.AL.ixs 4 63 hv13 fun ho14=>?_
   intro A15 c16 b17 o18
   refine A.q0 [] [63] [.e 0 0] [(16,.agg #[.int .i64 x12.1,.int .i64 x12.2.1,.slice A15 ((x12.2.2.1).length) c16,.int .i64 x12.2.2.2.1.1,.int .i64 x12.2.2.2.1.2.1,.string x12.2.2.2.1.2.2,.string x12.2.2.2.2.1,.int .i64 x12.2.2.2.2.2.1,.int .i64 x12.2.2.2.2.2.2])] ?_
   refine A.AL.alloc 65 (cs:=[.int .i64 0,.int .i64 0,.slice none 0 0,.int .i64 0,.int .i64 0,.string (ByteArray.mk #[]),.string (ByteArray.mk #[]),.int .i64 0,.int .i64 0]) Tryz.zeroValue84 fun g19=>?_
   refine A.sw 65 [] [.int .i64 x12.1,.int .i64 x12.2.1,.slice A15 ((x12.2.2.1).length) c16,.int .i64 x12.2.2.2.1.1,.int .i64 x12.2.2.2.1.2.1,.string x12.2.2.2.1.2.2,.string x12.2.2.2.2.1,.int .i64 x12.2.2.2.2.2.1,.int .i64 x12.2.2.2.2.2.2] ?_
   refine A.dl 3 ?_
   refine A.q0 [65] [] [.n,.b 0 2,.n,.n] [(18,.slice A15 ((x12.2.2.1).length) c16),(19,.int .i64 ((x12.2.2.1).length:Int)),(20,.int .i64 0)] ?_
   refine A.dx 2 ?_
   refine A.lp_ [0,7,11,12,13,18,19] [0,1,2,3,4,64,65] (fun f nl nh=>∃(xs22:List D41),∃(y23:Int),∃(A20:Option Addr),∃(c21:Nat),nl=[(5,.slice A20 ((xs22).length) c21),(20,.int .i64 y23)]∧nh=[(38,.own T41 42 A20 c21 xs22)]∧IntKind.i64.has y23∧F.graph_plan_spots_l2 (F.graph_plan_spots_l3 a0 a1 f7) a0 y5 x12 f xs22 y23=some r) ⟨xs4,0,A2,c3,rfl,rfl,(A.hasl .i64 (0) rfl),hF⟩ ?_
   rintro f25 _ _ ⟨xs22,y23,A20,c21,rfl,rfl,hy24,hF⟩
   rcases f25 with _|f25
   ·exact A.no0 hF
   rw[F.graph_plan_spots_l2]at hF
   refine A.xl 1 ?_
   refine A.q0 [] [] [.n] [(21,.bool (decide (y23<((x12.2.2.1).length:Int))))] ?_
   refine A.dx 2 ?_
   refine A.AX.cnd rfl hF (fun hb hF=>?_) (fun hb hF=>?_)
   ·refine A.xl 5 ?_
    refine A.q0 [] [] [.n] [(22,.int .i64 y23)] ?_
    obtain⟨x26,hv27,hF⟩:=A.bd_some hF
    refine A.AL.ixs 64 72 hv27 fun ho28=>?_
    intro b29 o30
    refine A.q0 [] [72] [.e 0 0,.n,.n] [(8,.int .i64 y23),(9,.int .i64 x26)] ?_
    refine A.dx 1 ?_
    refine A.AX.dr mixed 15 15 (A.mb 15 0) ?_
    refine A.hq A.pb [] [0,1,2,3,4,64,65,72] [65,0] [] (A.mb 15 1023) 5 [(0,.n),(1,.n),(3,.n),(5,.n),(9,.n),(2,.b 0 0),(6,.n),(4,.n),(7,.n),(8,.b 1 2)] [(25,.slice A20 ((xs22).length) c21),(34,.int .i64 x26),(29,.agg #[.int .i64 x12.1,.int .i64 y23]),(33,.map (some b4_))] ?_
    obtain⟨x31,hv32,hF⟩:=A.lt_some hF
    refine A.okm (t:=(Z.Ty.int .i64)) 3 x26 (z:=(0:Int)) (zs:=[.int .i64 0]) ⟨rfl,by decide⟩ hv32 fun ho33=>?_
    refine A.AH.v A.pb [0,1,2,3,4,64,65,72] [0,1,2,3,4,64,65,72] 10 (A.mb 15 2047) rfl (fun a w hf hh=>A.r_lkf (t:=(Z.Ty.int .i64)) (ok:=false) (z:=(0:Int)) (zs:=[.int .i64 0]) 3 ky3 x26 Tryz.zeroValue3 ⟨rfl,by decide⟩ hv32 rfl hf hh) ?_
    refine A.hq A.pb [0,1,2,3,4,64,65,72] [0,1,2,3,4,64,65,72] [] [] (A.mb 15 4095) 3 [(11,.n)] [(36,.agg #[.int .i64 x12.1,.int .i64 y23,.int .i64 x31])] ?_
    refine A.AH.one 12 ?_
    refine A.AL.bsl 73 (ty:=T41) (cs:=[.int .i64 x12.1,.int .i64 y23,.int .i64 x31]) [((x12.1,y23),x31)] ⟨⟨⟨⟨rfl,ho14.1⟩,⟨rfl,hy24⟩⟩,⟨rfl,ho33⟩⟩,rfl⟩ (fun g34=>?_) Tryz.zeroValue42 Tryz.sizeOf42
    refine A.AH.nx (A.mb 15 8191) [0,1,2,3,4,64,65,72] ?_
    refine A.AH.one 13 ?_
    obtain⟨hl37,hF⟩:=A.gd_some hF
    refine A.AL.app (k:=38) [] (A.rowO (k:=73) rfl) inf42 hl37 fun A35 c36=>?_
    refine A.AH.nx (A.mb 15 16383) [0,1,2,3,4,64,65,72] ?_
    refine A.hq A.pb [0,1,2,3,4,64,65,72] [0,1,2,3,4,38,64,65,72,73] [] [] (A.mb 15 32767) 0 [(14,.n)] [(5,.slice A35 ((xs22++[((x12.1,y23),x31)]).length) c36)] ?_
    refine A.AH.done ?_
    refine A.el 2 ?_
    obtain⟨hc38,hF⟩:=A.gd_some hF
    refine A.q [] [] [.n,.n] [Z.R64 (y23+1)] [(20,.int .i64 (y23+1))] hc38 ?_
    refine A.AL.done ?_
    exact A.j ⟨_,Nat.lt_succ_self _,⟨(xs22++[((x12.1,y23),x31)]),(y23+1),A35,c36,rfl,rfl,(Z.i64_has hc38),hF⟩⟩
   refine A.xl 3 ?_
   refine A.q0 [65] [] [.n,.b 0 1,.n] [(42,.bool (decide (x12.2.1≠15)))] ?_
   refine A.dx 1 ?_
   refine A.AX.cnd rfl hF (fun hb hF=>?_) (fun hb hF=>?_)
   ·refine A.AX.dr mixed 15 15 (A.mb 15 0) ?_
    refine A.hq A.pb [] [0,1,2,3,4,64,65] [65,0] [] (A.mb 15 1023) 5 [(0,.n),(1,.n),(4,.n),(8,.n),(2,.b 0 0),(5,.n),(9,.b 0 0),(3,.n),(6,.n),(7,.b 1 2)] [(43,.slice A20 ((xs22).length) c21),(52,.int .i64 x12.1),(46,.agg #[.int .i64 x12.1,.int .i64 2]),(50,.map (some b4_))] ?_
    obtain⟨x39,hv40,hF⟩:=A.lt_some hF
    refine A.okm (t:=(Z.Ty.int .i64)) 3 x12.1 (z:=(0:Int)) (zs:=[.int .i64 0]) ⟨rfl,by decide⟩ hv40 fun ho41=>?_
    refine A.AH.v A.pb [0,1,2,3,4,64,65] [0,1,2,3,4,64,65] 10 (A.mb 15 2047) rfl (fun a w hf hh=>A.r_lkf (t:=(Z.Ty.int .i64)) (ok:=false) (z:=(0:Int)) (zs:=[.int .i64 0]) 3 ky3 x12.1 Tryz.zeroValue3 ⟨rfl,by decide⟩ hv40 rfl hf hh) ?_
    refine A.hq A.pb [0,1,2,3,4,64,65] [0,1,2,3,4,64,65] [] [] (A.mb 15 4095) 3 [(11,.n)] [(54,.agg #[.int .i64 x12.1,.int .i64 2,.int .i64 x39])] ?_
    refine A.AH.one 12 ?_
    refine A.AL.bsl 74 (ty:=T41) (cs:=[.int .i64 x12.1,.int .i64 2,.int .i64 x39]) [((x12.1,2),x39)] ⟨⟨⟨⟨rfl,ho14.1⟩,⟨rfl,(A.hasl .i64 (2) rfl)⟩⟩,⟨rfl,ho41⟩⟩,rfl⟩ (fun g42=>?_) Tryz.zeroValue42 Tryz.sizeOf42
    refine A.AH.nx (A.mb 15 8191) [0,1,2,3,4,64,65] ?_
    refine A.AH.one 13 ?_
    obtain⟨hl45,hF⟩:=A.gd_some hF
    refine A.AL.app (k:=38) [] (A.rowO (k:=74) rfl) inf42 hl45 fun A43 c44=>?_
    refine A.AH.nx (A.mb 15 16383) [0,1,2,3,4,64,65] ?_
    refine A.hq A.pb [0,1,2,3,4,64,65] [0,1,2,3,4,38,64,65,74] [] [] (A.mb 15 32767) 0 [(14,.n)] [(5,.slice A43 ((xs22++[((x12.1,2),x39)]).length) c44)] ?_
    refine A.AH.done ?_
    refine A.ee 1 ?_
    exact A.j ⟨(xs22++[((x12.1,2),x39)]),A43,c44,rfl,rfl,hF⟩
   refine A.xe 2 ?_
   exact A.j ⟨xs22,A20,c21,rfl,rfl,hF⟩
  rintro _ _ ⟨xs10,A8,c9,rfl,rfl,hF⟩
  rw[F.graph_plan_spots_j1]at hF
  refine A.xl 0 ?_
  obtain⟨hc11,hF⟩:=A.gd_some hF
  refine A.q [] [] [.n,.n] [Z.R64 (y5+1)] [(13,.int .i64 (y5+1))] hc11 ?_
  refine A.AL.done ?_
  exact A.j ⟨_,Nat.lt_succ_self _,⟨xs10,(y5+1),A8,c9,rfl,rfl,(Z.i64_has hc11),hF⟩⟩
 refine A.xl 3 ?_
 refine A.q0 [] [] [.n,.n] [(4,.slice A2 ((xs4).length) c3)] ?_
 refine A.dx 1 ?_
 obtain rfl:=Option.some.inj hF
 exact A.rt1 [(0,38),(1,0),(2,1),(3,2),(4,3)] ⟨A2,c3,rfl,rfl⟩
def F.slices_Values_api_Node_api_Node (a0:(List D83)):Option ((List D83)):=some a0
theorem slices_Values_api_Node_api_Node_ok (a0:(List D83))(A0_:Option Addr)(c1_:Nat)(r:((List D83)))(hF:F.slices_Values_api_Node_api_Node a0=some r):
    A.Ct Tryz.prog 145 [.slice A0_ ((a0).length) c1_] [(0,.sh (.slice T83) [.slice A0_ (a0).length c1_] a0)] [] (fun v H'=>∃(g0':Nat) (A1':Option Addr) (c2':Nat),v=.func (.func 167) #[] #[.pointer (some ⟨g0',0,none⟩)]∧H'=[(0,.blk g0' 22 [.slice A1' ((r).length) c2']),(1,.sh (.slice T83) [.slice A1' (r).length c2'] r)]):=by
 refine A.Ct.enter Tryz.func145 rfl Tryz.ntmps145 rfl fun w0 F0=>?_
 rw[F.slices_Values_api_Node_api_Node]at hF
 refine A.xl 1 ?_
 refine A.AL.box 1 (cs:=[.slice A0_ ((a0).length) c1_]) fun g1=>?_
 refine A.q0 [] [] [.n] [] ?_
 refine A.dl 2 ?_
 refine A.q0 [] [] [.n,.n] [(2,.func (.func 167) #[] #[.pointer (some ⟨g1,0,none⟩)])] ?_
 refine A.dx 1 ?_
 obtain rfl:=Option.some.inj hF
 exact A.rt1 [(0,1),(1,0)] ⟨g1,A0_,c1_,rfl,rfl⟩
end Go.Proofs.YtlbnpmfggfbdoaaGreatDoor
end
section
set_option linter.unusedVariables false
set_option linter.unusedSimpArgs false
set_option maxRecDepth 20000
set_option maxHeartbeats 8000000
set_option synthInstance.maxSize 1000000
set_option synthInstance.maxHeartbeats 400000
namespace Go.Proofs.YtlbnpmfggfbdoaaGreatDoor
open Go.RowKit
def F.slices_Values_api_Node_api_Node_1_it_l1 (b0:(List D83)):Nat→Int→Option (List D83)
 |0,_=>none
 |f+1,y1=>if y1<((b0).length:Int)then((A.ix b0 y1).bind fun x9=>(A.cns (x9.1,x9.2.1,x9.2.2.1,(x9.2.2.2.1.1,x9.2.2.2.1.2.1,x9.2.2.2.1.2.2),x9.2.2.2.2.1,x9.2.2.2.2.2.1,x9.2.2.2.2.2.2) (A.gd (Z.R64 (y1+1)) ((F.slices_Values_api_Node_api_Node_1_it_l1 b0 f) (y1+1)))))else(some [])
def F.slices_Values_api_Node_api_Node_1_it (b0:(List D83)):Option (List D83):=F.slices_Values_api_Node_api_Node_1_it_l1 b0 A.FU 0
theorem slices_Values_api_Node_api_Node_1_it_sq (b0:(List D83))(g0_:Nat)(A1_:Option Addr)(c2_:Nat)(xs:List D83)(hF:F.slices_Values_api_Node_api_Node_1_it b0=some xs):
    A.Sq Tryz.prog 167 [.pointer (some ⟨g0_,0,none⟩)] [(0,.el none g0_ 0 [.slice A1_ ((b0).length) c2_]),(1,.sh (.slice T83) [.slice A1_ (b0).length c2_] b0)] T83 (fun cs=>[Z.vof true cs]) xs:=by
 refine A.Sq.enter Tryz.func167 rfl Tryz.ntmps167 rfl fun lid w0 J Jx Φ hY hJ0=>?_
 obtain⟨rs0,hrs⟩: ∃rs0,rs0=xs:=⟨_,rfl⟩
 have hR0:A.Rem xs 0 rs0:=hrs▸A.Rem.zero xs
 rw[F.slices_Values_api_Node_api_Node_1_it,←hrs]at hF
 clear hrs
 refine A.xl 1 ?_
 refine A.q0 [] [0] [.e 0 0,.n,.n] [(5,.slice A1_ ((b0).length) c2_),(6,.int .i64 ((b0).length:Int)),(7,.int .i64 0)] ?_
 refine A.dx 2 ?_
 refine A.AX.loopC (A.CY 16 Φ) (0,w0) [0,5,6] [1] [1] (fun f i nl nh=>∃(y1:Int),∃(rs:List D83),nl=[(7,.int .i64 y1)]∧nh=[]∧IntKind.i64.has y1∧J i.1 i.2∧A.Rem xs i.1 rs∧F.slices_Values_api_Node_api_Node_1_it_l1 b0 f y1=some rs) A.FU [(7,.int .i64 0)] [] ⟨0,_,rfl,rfl,(A.hasl .i64 (0) rfl),hJ0,hR0,hF⟩ ?_
 rintro f3 ⟨k4,w5⟩ _ _ ⟨y1,rs8,rfl,rfl,hy2,hJ6,hR7,hF⟩
 rcases f3 with _|f3
 ·exact A.no0 hF
 rw[F.slices_Values_api_Node_api_Node_1_it_l1]at hF
 refine A.xl 1 ?_
 refine A.q0 [] [] [.n] [(8,.bool (decide (y1<((b0).length:Int))))] ?_
 refine A.dx 2 ?_
 refine A.AX.cnd rfl hF (fun hb hF=>?_) (fun hb hF=>?_)
 ·refine A.xl 5 ?_
  obtain⟨x9,hv10,hF⟩:=A.bd_some hF
  refine A.AL.ixs 1 8 hv10 fun ho11=>?_
  intro A12 c13 b14 o15
  refine A.q0 [] [8] [.e 0 0] [(10,.agg #[.int .i64 x9.1,.int .i64 x9.2.1,.slice A12 ((x9.2.2.1).length) c13,.int .i64 x9.2.2.2.1.1,.int .i64 x9.2.2.2.1.2.1,.string x9.2.2.2.1.2.2,.string x9.2.2.2.2.1,.int .i64 x9.2.2.2.2.2.1,.int .i64 x9.2.2.2.2.2.2])] ?_
  refine A.AL.alloc 10 (cs:=[.int .i64 0,.int .i64 0,.slice none 0 0,.int .i64 0,.int .i64 0,.string (ByteArray.mk #[]),.string (ByteArray.mk #[]),.int .i64 0,.int .i64 0]) Tryz.zeroValue84 fun g16=>?_
  refine A.sw 10 [] [.int .i64 x9.1,.int .i64 x9.2.1,.slice A12 ((x9.2.2.1).length) c13,.int .i64 x9.2.2.2.1.1,.int .i64 x9.2.2.2.1.2.1,.string x9.2.2.2.1.2.2,.string x9.2.2.2.2.1,.int .i64 x9.2.2.2.2.2.1,.int .i64 x9.2.2.2.2.2.2] ?_
  refine A.dl 2 ?_
  refine A.q0 [10] [] [.n,.b 0 0] [(11,.func (.yield lid) #[] #[]),(12,.agg #[.int .i64 x9.1,.int .i64 x9.2.1,.slice A12 ((x9.2.2.1).length) c13,.int .i64 x9.2.2.2.1.1,.int .i64 x9.2.2.2.1.2.1,.string x9.2.2.2.1.2.2,.string x9.2.2.2.2.1,.int .i64 x9.2.2.2.2.2.1,.int .i64 x9.2.2.2.2.2.2])] ?_
  obtain⟨rs17,hqrs17,hF⟩:=A.cns_some hF
  refine A.AL.yield hY hJ6 (hqrs17▸hR7) [.int .i64 x9.1,.int .i64 x9.2.1,.slice A12 ((x9.2.2.1).length) c13,.int .i64 x9.2.2.2.1.1,.int .i64 x9.2.2.2.1.2.1,.string x9.2.2.2.1.2.2,.string x9.2.2.2.2.1,.int .i64 x9.2.2.2.2.2.1,.int .i64 x9.2.2.2.2.2.2] ⟨⟨rfl,ho11.1⟩,⟨rfl,ho11.2.1⟩,.inl ⟨9,rfl⟩,⟨⟨rfl,ho11.2.2.2.1.1⟩,⟨rfl,ho11.2.2.2.1.2.1⟩,⟨rfl,ho11.2.2.2.1.2.2⟩⟩,⟨rfl,ho11.2.2.2.2.1⟩,⟨rfl,ho11.2.2.2.2.2.1⟩,⟨rfl,ho11.2.2.2.2.2.2⟩⟩ (fun w18 hJ19 hR20=>?_) (fun w18 hX21=>?_)
  ·refine A.q0 [] [] [.n] [(14,.bool false)] ?_
   refine A.dx 1 ?_
   refine A.AX.cnf rfl ?_
   refine A.xl 3 ?_
   obtain⟨hc22,hF⟩:=A.gd_some hF
   refine A.q [] [] [.n,.n] [Z.R64 (y1+1)] [(7,.int .i64 (y1+1))] hc22 ?_
   refine A.AL.done ?_
   exact A.AE.jC (k4+1,w18) [1] [(7,.int .i64 (y1+1))] [] ⟨_,Nat.lt_succ_self _,⟨(y1+1),_,rfl,rfl,(Z.i64_has hc22),hJ19,hR20,hF⟩⟩
  refine A.q0 [] [] [.n] [(14,.bool true)] ?_
  refine A.dx 1 ?_
  refine A.AX.cnt rfl ?_
  exact A.AX.rtX hY hX21
 refine A.xe 1 ?_
 obtain rfl:=Option.some.inj hF
 exact A.AE.rtY hY hJ6 hR7
def F.graph_users_j1 (k5:(List D39)→Int→Option (List D39))(y44:Int)(xs49:List D39):Option (List D39):=A.gd (Z.R64 (y44+1)) (k5 xs49 (y44+1))
def F.graph_users_l2 (k4:(List D39)→Option (List D39))(a1:Int)(y32:D83):Nat→(List D39)→Int→Option (List D39)
 |0,_,_=>none
 |f+1,xs43,y44=>if y44<((y32.2.2.1).length:Int)then((A.ix y32.2.2.1 y44).bind fun x51=>(if x51=a1 then(A.gd ((List.length (α:=D39) xs43+List.length (α:=D39) [(y32.1,y44)])*16≤140737488355328) (F.graph_users_j1 (F.graph_users_l2 k4 a1 y32 f) y44 (xs43++[(y32.1,y44)])))else(F.graph_users_j1 (F.graph_users_l2 k4 a1 y32 f) y44 xs43)))else(k4 xs43)
def F.graph_users_l3 (a1:Int):List D83→(List D39)→Option (List D39)
 | [],xs39=>some xs39
 |y32::f,xs39=>F.graph_users_l2 (F.graph_users_l3 a1 f) a1 y32 A.FU xs39 0
def F.graph_users (a0:D23)(a1:Int):Option (List D39):=(F.slices_Values_api_Node_api_Node a0).bind fun r4=>((F.slices_Values_api_Node_api_Node_1_it r4).bind fun xs23=>F.graph_users_l3 a1 xs23 [])
theorem graph_users_ok (a0:D23)(a1:Int)(A0_:Option Addr)(c1_:Nat)(h2_:IntKind.i64.has a1)(r:(List D39))(hF:F.graph_users a0 a1=some r):
    A.Ct Tryz.prog 104 [.agg #[.slice A0_ ((a0).length) c1_],.int .i64 a1] [(0,.sh (.slice T83) [.slice A0_ (a0).length c1_] a0)] [] (fun v H'=>∃(A0':Option Addr) (c1':Nat),v=.slice A0' ((r).length) c1'∧H'=[(0,.own T39 40 A0' c1' r)]):=by
 refine A.Ct.enterM Tryz.func104 rfl Tryz.ntmps104 rfl fun w0 F0=>?_
 rw[F.graph_users]at hF
 refine A.xl 1 ?_
 refine A.AL.box 1 (cs:=[.slice A0_ ((a0).length) c1_]) fun g1=>?_
 refine A.AL.box 2 (cs:=[.int .i64 a1]) fun g2=>?_
 refine A.q0 [] [] [.n] [] ?_
 refine A.dl 2 ?_
 refine A.AL.alloc 3 (cs:=[.slice none 0 0]) Tryz.zeroValue72 fun g3=>?_
 refine A.dl 3 ?_
 refine A.q0 [1] [] [.n,.b 0 0] [(10,.slice A0_ ((a0).length) c1_)] ?_
 obtain⟨r4,hv5,hF⟩:=A.bd_some hF
 refine A.AL.call 4 [] (first:=[]) (cap:=[]) cf145 (slices_Values_api_Node_api_Node_ok a0 A0_ c1_ r4 hv5) (.s 0 .nil) ?_
 rintro _ _ ⟨g6,A7,c8,rfl,rfl⟩
 refine⟨by kernel_rfl,?_⟩
 refine A.dx 2 ?_
 refine A.nil 61 T39 40 ?_
 obtain⟨xs23,hv24,hF⟩:=A.bd_some hF
 refine A.AX.rgf 62 63 64 [2,4,5] [3,61,2,4,5] [63,62,3,61,2,4,5] (fun k nh=>∃(xs39:List D39),∃(A37:Option Addr),∃(c38:Nat),nh=[(3,.blk g3 72 [.slice A37 ((xs39).length) c38]),(61,.own T39 40 A37 c38 xs39)]∧F.graph_users_l3 a1 (List.drop k xs23) xs39=some r) [(3,.blk g3 72 [.slice none 0 0]),(61,.own T39 40 none 0 [])] cf167 (slices_Values_api_Node_api_Node_1_it_sq r4 g6 A7 c8 xs23 hv24) (fun _=>rfl) ⟨[],none,0,rfl,hF⟩ ?_ ?_ ?_
 ·rintro k31 _ D25 L26 ⟨xs39,A37,c38,rfl,hF⟩
  exact⟨⟨_,(.b 4 (.s 5 .nil))⟩,rfl,fun o=>rfl⟩
 ·rintro k31 _ y32 D25 L26 w30 o27 ⟨xs39,A37,c38,rfl,hF⟩ hx35 hxo36 hh29
  intro A33 c34
  rw[A.drop_at hx35,F.graph_users_l3]at hF
  refine A.xl 0 ?_
  refine A.AL.alloc 79 (cs:=[.int .i64 0,.int .i64 0,.slice none 0 0,.int .i64 0,.int .i64 0,.string (ByteArray.mk #[]),.string (ByteArray.mk #[]),.int .i64 0,.int .i64 0]) Tryz.zeroValue84 fun g40=>?_
  refine A.sw 79 [] [.int .i64 y32.1,.int .i64 y32.2.1,.slice A33 ((y32.2.2.1).length) c34,.int .i64 y32.2.2.2.1.1,.int .i64 y32.2.2.2.1.2.1,.string y32.2.2.2.1.2.2,.string y32.2.2.2.2.1,.int .i64 y32.2.2.2.2.2.1,.int .i64 y32.2.2.2.2.2.2] ?_
  refine A.AL.done ?_
  refine A.AE.flip 62 63 fun o28=>?_
  refine A.xl 2 ?_
  refine A.q0 [79] [] [.n,.b 0 2,.n,.n] [(14,.slice A33 ((y32.2.2.1).length) c34),(15,.int .i64 ((y32.2.2.1).length:Int)),(16,.int .i64 0)] ?_
  refine A.dx 2 ?_
  refine A.lp_ [3,5,6,14,15] [2,4,5,62,63,64,79] (fun f nl nh=>∃(xs43:List D39),∃(y44:Int),∃(A41:Option Addr),∃(c42:Nat),nl=[(16,.int .i64 y44)]∧nh=[(3,.blk g3 72 [.slice A41 ((xs43).length) c42]),(61,.own T39 40 A41 c42 xs43)]∧IntKind.i64.has y44∧F.graph_users_l2 (F.graph_users_l3 a1 (List.drop (k31+1) xs23)) a1 y32 f xs43 y44=some r) ⟨xs39,0,A37,c38,rfl,rfl,(A.hasl .i64 (0) rfl),hF⟩ ?_
  rintro f46 _ _ ⟨xs43,y44,A41,c42,rfl,rfl,hy45,hF⟩
  rcases f46 with _|f46
  ·exact A.no0 hF
  rw[F.graph_users_l2]at hF
  refine A.xl 1 ?_
  refine A.q0 [] [] [.n] [(17,.bool (decide (y44<((y32.2.2.1).length:Int))))] ?_
  refine A.dx 2 ?_
  refine A.AX.cnd rfl hF (fun hb hF=>?_) (fun hb hF=>?_)
  ·refine A.xx 2 ?_
   refine A.AX.join [3,5,6,14,15,16] [2,4,5,62,63,64,79] (fun nl nh=>∃(xs49:List D39),∃(A47:Option Addr),∃(c48:Nat),nl=[]∧nh=[(3,.blk g3 72 [.slice A47 ((xs49).length) c48]),(61,.own T39 40 A47 c48 xs49)]∧F.graph_users_j1 (F.graph_users_l2 (F.graph_users_l3 a1 (List.drop (k31+1) xs23)) a1 y32 f46) y44 xs49=some r) ?_ ?_
   ·refine A.xl 2 ?_
    refine A.q0 [] [] [.n] [(18,.int .i64 y44)] ?_
    obtain⟨x51,hv52,hF⟩:=A.bd_some hF
    refine A.AL.ixs 64 84 hv52 fun ho53=>?_
    intro b54 o55
    refine A.q0 [] [84] [.e 0 0,.n,.n] [(7,.int .i64 y44),(8,.int .i64 x51)] ?_
    refine A.dl 2 ?_
    refine A.q0 [2] [] [.n,.b 0 0,.n] [(23,.bool (decide (x51=a1)))] ?_
    refine A.dx 1 ?_
    refine A.AX.cnd rfl hF (fun hb hF=>?_) (fun hb hF=>?_)
    ·refine A.xl 0 ?_
     refine A.q0 [3,79] [] [.b 0 0,.n,.b 1 0,.n,.n] [(24,.slice A41 ((xs43).length) c42),(28,.agg #[.int .i64 y32.1,.int .i64 y44])] ?_
     refine A.AL.bsl 85 (ty:=T39) (cs:=[.int .i64 y32.1,.int .i64 y44]) [(y32.1,y44)] ⟨⟨⟨rfl,hxo36.1⟩,⟨rfl,hy45⟩⟩,rfl⟩ (fun g56=>?_) Tryz.zeroValue40 Tryz.sizeOf40
     obtain⟨hl59,hF⟩:=A.gd_some hF
     refine A.AL.app (k:=61) [] (A.rowO (k:=85) rfl) inf40 hl59 fun A57 c58=>?_
     refine A.sw 3 [] [.slice A57 ((xs43++[(y32.1,y44)]).length) c58] ?_
     refine A.de 1 ?_
     exact A.j ⟨(xs43++[(y32.1,y44)]),A57,c58,rfl,rfl,hF⟩
    refine A.xe 2 ?_
    exact A.j ⟨xs43,A41,c42,rfl,rfl,hF⟩
   rintro _ _ ⟨xs49,A47,c48,rfl,rfl,hF⟩
   rw[F.graph_users_j1]at hF
   refine A.xl 0 ?_
   obtain⟨hc50,hF⟩:=A.gd_some hF
   refine A.q [] [] [.n,.n] [Z.R64 (y44+1)] [(16,.int .i64 (y44+1))] hc50 ?_
   refine A.AL.done ?_
   exact A.j ⟨_,Nat.lt_succ_self _,⟨xs49,(y44+1),A47,c48,rfl,rfl,(Z.i64_has hc50),hF⟩⟩
  refine A.xe 2 ?_
  exact A.AE.bn hh29 [63,62,3,61,2,4,5] 100000 [(63,100063),(62,100062),(3,100003),(61,100061),(2,100002),(4,100004),(5,100005)] [(3,.blk g3 72 [.slice A41 ((xs43).length) c42]),(61,.own T39 40 A41 c42 xs43)] ⟨xs43,A41,c42,rfl,hF⟩ rfl rfl
 rintro _ D25 L26 ⟨xs39,A37,c38,rfl,hF⟩
 rw[List.drop_length,F.graph_users_l3]at hF
 refine A.el 3 ?_
 refine A.q0 [3] [] [.b 0 0,.n] [(4,.slice A37 ((xs39).length) c38)] ?_
 refine A.dx 1 ?_
 obtain rfl:=Option.some.inj hF
 exact A.AX.rtM (Ds:=[D25]) [62] [(0,61)] (.slice A37 ((xs39).length) c38) (⟨rfl,trivial⟩) (fun a w hf hh=>Z.resv1 rfl (Z.rv_t hf rfl)) (⟨A37,c38,rfl,rfl⟩)
def F.summ_step (a0:Int)(a1:Int)(a2:Int)(a3:D44):Option (D44×Int):=if(bif decide (a0<a1)then true else decide (a2<a0))=true then(some ((0,0,0,0,(0,0,0,0)),11))else(some ((a0,a3.2.1,a3.2.2.1,a3.2.2.2.1,(a3.2.2.2.2.1,a3.2.2.2.2.2.1,a3.2.2.2.2.2.2.1,a3.2.2.2.2.2.2.2)),0))
theorem summ_step_ok (a0:Int)(a1:Int)(a2:Int)(a3:D44)(h0_:IntKind.i64.has a0)(h1_:IntKind.i64.has a1)(h2_:IntKind.i64.has a2)(h3_:IntKind.i64.has a3.1)(h4_:IntKind.i64.has a3.2.1)(h5_:IntKind.i64.has a3.2.2.1)(h6_:IntKind.i64.has a3.2.2.2.1)(h7_:IntKind.i64.has a3.2.2.2.2.1)(h8_:IntKind.i64.has a3.2.2.2.2.2.1)(h9_:IntKind.i64.has a3.2.2.2.2.2.2.1)(h10_:IntKind.i64.has a3.2.2.2.2.2.2.2)(r:D44×Int)(hF:F.summ_step a0 a1 a2 a3=some r):
    A.Ct Tryz.prog 74 [.int .i64 a0,.int .i64 a1,.int .i64 a2,.agg #[.int .i64 a3.1,.int .i64 a3.2.1,.int .i64 a3.2.2.1,.int .i64 a3.2.2.2.1,.int .i64 a3.2.2.2.2.1,.int .i64 a3.2.2.2.2.2.1,.int .i64 a3.2.2.2.2.2.2.1,.int .i64 a3.2.2.2.2.2.2.2]] [] [] (fun v H'=>v=.tuple #[.agg #[.int .i64 r.1.1,.int .i64 r.1.2.1,.int .i64 r.1.2.2.1,.int .i64 r.1.2.2.2.1,.int .i64 r.1.2.2.2.2.1,.int .i64 r.1.2.2.2.2.2.1,.int .i64 r.1.2.2.2.2.2.2.1,.int .i64 r.1.2.2.2.2.2.2.2],.int .i64 r.2]∧H'=[]∧IntKind.i64.has r.1.1∧IntKind.i64.has r.1.2.1∧IntKind.i64.has r.1.2.2.1∧IntKind.i64.has r.1.2.2.2.1∧IntKind.i64.has r.1.2.2.2.2.1∧IntKind.i64.has r.1.2.2.2.2.2.1∧IntKind.i64.has r.1.2.2.2.2.2.2.1∧IntKind.i64.has r.1.2.2.2.2.2.2.2∧IntKind.i64.has r.2):=by
 refine A.Ct.enter Tryz.func74 rfl Tryz.ntmps74 rfl fun w0 F0=>?_
 rw[F.summ_step]at hF
 refine A.xl 1 ?_
 refine A.AL.box 0 (cs:=[.int .i64 a3.1,.int .i64 a3.2.1,.int .i64 a3.2.2.1,.int .i64 a3.2.2.2.1,.int .i64 a3.2.2.2.2.1,.int .i64 a3.2.2.2.2.2.1,.int .i64 a3.2.2.2.2.2.2.1,.int .i64 a3.2.2.2.2.2.2.2]) fun g1=>?_
 refine A.AL.alloc 1 (cs:=[.int .i64 0,.int .i64 0,.int .i64 0,.int .i64 0,.int .i64 0,.int .i64 0,.int .i64 0,.int .i64 0]) Tryz.zeroValue45 fun g2=>?_
 refine A.q0 [] [] [.n] [] ?_
 refine A.dl 3 ?_
 refine A.q0 [] [] [.n,.n,.n,.n,.sy .n,.sy .n,.sy .n,.pk] [(17,.bool (bif decide (a0<a1)then true else decide (a2<a0)))] ?_
 refine A.dx 1 ?_
 refine A.AX.cnb rfl hF (fun hb hF=>?_) (fun hb hF=>?_)
 ·refine A.xl 1 ?_
  refine A.q0 [] [] [.n] [(18,.agg #[.int .i64 0,.int .i64 0,.int .i64 0,.int .i64 0,.int .i64 0,.int .i64 0,.int .i64 0,.int .i64 0])] ?_
  refine A.sw 1 [] [.int .i64 0,.int .i64 0,.int .i64 0,.int .i64 0,.int .i64 0,.int .i64 0,.int .i64 0,.int .i64 0] ?_
  refine A.q0 [] [] [.n] [(9,.int .i64 11)] ?_
  refine A.dx 1 ?_
  obtain rfl:=Option.some.inj hF
  exact A.AX.ret [] (.tuple #[.agg #[.int .i64 0,.int .i64 0,.int .i64 0,.int .i64 0,.int .i64 0,.int .i64 0,.int .i64 0,.int .i64 0],.int .i64 11]) (fun a w hf hh=>Z.resv2 rfl (Z.rv_n hf rfl Tryz.isAgg45 Tryz.sizeOf45 (A.Hp.blk hh 1) rfl) (Z.rv_t hf rfl)) (⟨rfl,rfl,(A.hasl .i64 (0) rfl),(A.hasl .i64 (0) rfl),(A.hasl .i64 (0) rfl),(A.hasl .i64 (0) rfl),(A.hasl .i64 (0) rfl),(A.hasl .i64 (0) rfl),(A.hasl .i64 (0) rfl),(A.hasl .i64 (0) rfl),(A.hasl .i64 (11) rfl)⟩)
 refine A.xl 3 ?_
 refine A.q0 [] [] [.n,.n] [(19,.int .i64 a0),(20,.pointer (some ⟨g1,0,none⟩))] ?_
 refine A.AL.store 0 [] (new:=[.int .i64 a0]) (cs':=[.int .i64 a0,.int .i64 a3.2.1,.int .i64 a3.2.2.1,.int .i64 a3.2.2.2.1,.int .i64 a3.2.2.2.2.1,.int .i64 a3.2.2.2.2.2.1,.int .i64 a3.2.2.2.2.2.2.1,.int .i64 a3.2.2.2.2.2.2.2]) ?_
 refine A.dl 2 ?_
 refine A.q0 [0] [] [.b 0 0] [(21,.agg #[.int .i64 a0,.int .i64 a3.2.1,.int .i64 a3.2.2.1,.int .i64 a3.2.2.2.1,.int .i64 a3.2.2.2.2.1,.int .i64 a3.2.2.2.2.2.1,.int .i64 a3.2.2.2.2.2.2.1,.int .i64 a3.2.2.2.2.2.2.2])] ?_
 refine A.sw 1 [] [.int .i64 a0,.int .i64 a3.2.1,.int .i64 a3.2.2.1,.int .i64 a3.2.2.2.1,.int .i64 a3.2.2.2.2.1,.int .i64 a3.2.2.2.2.2.1,.int .i64 a3.2.2.2.2.2.2.1,.int .i64 a3.2.2.2.2.2.2.2] ?_
 refine A.q0 [] [] [.n] [(9,.int .i64 0)] ?_
 refine A.dx 1 ?_
 obtain rfl:=Option.some.inj hF
 exact A.AX.ret [] (.tuple #[.agg #[.int .i64 a0,.int .i64 a3.2.1,.int .i64 a3.2.2.1,.int .i64 a3.2.2.2.1,.int .i64 a3.2.2.2.2.1,.int .i64 a3.2.2.2.2.2.1,.int .i64 a3.2.2.2.2.2.2.1,.int .i64 a3.2.2.2.2.2.2.2],.int .i64 0]) (fun a w hf hh=>Z.resv2 rfl (Z.rv_n hf rfl Tryz.isAgg45 Tryz.sizeOf45 (A.Hp.blk hh 1) rfl) (Z.rv_t hf rfl)) (⟨rfl,rfl,h0_,h4_,h5_,h6_,h7_,h8_,h9_,h10_,(A.hasl .i64 (0) rfl)⟩)
def F.summ_Id (a0:Int):Option (D44×Int):=(F.summ_step a0 0 4 (0,a0,0,0,(0,0,0,0))).bind fun r2=>(some ((r2.1.1,r2.1.2.1,r2.1.2.2.1,r2.1.2.2.2.1,(r2.1.2.2.2.2.1,r2.1.2.2.2.2.2.1,r2.1.2.2.2.2.2.2.1,r2.1.2.2.2.2.2.2.2)),r2.2))
theorem summ_Id_ok (a0:Int)(h0_:IntKind.i64.has a0)(r:D44×Int)(hF:F.summ_Id a0=some r):
    A.Ct Tryz.prog 39 [.int .i64 a0] [] [] (fun v H'=>v=.tuple #[.agg #[.int .i64 r.1.1,.int .i64 r.1.2.1,.int .i64 r.1.2.2.1,.int .i64 r.1.2.2.2.1,.int .i64 r.1.2.2.2.2.1,.int .i64 r.1.2.2.2.2.2.1,.int .i64 r.1.2.2.2.2.2.2.1,.int .i64 r.1.2.2.2.2.2.2.2],.int .i64 r.2]∧H'=[]∧IntKind.i64.has r.1.1∧IntKind.i64.has r.1.2.1∧IntKind.i64.has r.1.2.2.1∧IntKind.i64.has r.1.2.2.2.1∧IntKind.i64.has r.1.2.2.2.2.1∧IntKind.i64.has r.1.2.2.2.2.2.1∧IntKind.i64.has r.1.2.2.2.2.2.2.1∧IntKind.i64.has r.1.2.2.2.2.2.2.2∧IntKind.i64.has r.2):=by
 refine A.Ct.enter Tryz.func39 rfl Tryz.ntmps39 rfl fun w0 F0=>?_
 rw[F.summ_Id]at hF
 refine A.xl 1 ?_
 refine A.AL.alloc 0 (cs:=[.int .i64 0,.int .i64 0,.int .i64 0,.int .i64 0,.int .i64 0,.int .i64 0,.int .i64 0,.int .i64 0]) Tryz.zeroValue45 fun g1=>?_
 refine A.q0 [] [] [.n] [] ?_
 refine A.dl 2 ?_
 refine A.q0 [] [] [.n,.n,.n] [(4,.int .i64 a0),(6,.agg #[.int .i64 0,.int .i64 a0,.int .i64 0,.int .i64 0,.int .i64 0,.int .i64 0,.int .i64 0,.int .i64 0])] ?_
 obtain⟨r2,hv3,hF⟩:=A.bd_some hF
 refine A.AL.call 1 [] (first:=[]) (cap:=[]) cf74 (summ_step_ok a0 0 4 (0,a0,0,0,(0,0,0,0)) h0_ (A.hasl .i64 (0) rfl) (A.hasl .i64 (4) rfl) (A.hasl .i64 (0) rfl) h0_ (A.hasl .i64 (0) rfl) (A.hasl .i64 (0) rfl) (A.hasl .i64 (0) rfl) (A.hasl .i64 (0) rfl) (A.hasl .i64 (0) rfl) (A.hasl .i64 (0) rfl) r2 hv3) .nil ?_
 rintro _ _ ⟨rfl,rfl,hr4,hr5,hr6,hr7,hr8,hr9,hr10,hr11,hr12⟩
 refine⟨by kernel_rfl,?_⟩
 refine A.q0 [] [] [.n,.n] [(8,.agg #[.int .i64 r2.1.1,.int .i64 r2.1.2.1,.int .i64 r2.1.2.2.1,.int .i64 r2.1.2.2.2.1,.int .i64 r2.1.2.2.2.2.1,.int .i64 r2.1.2.2.2.2.2.1,.int .i64 r2.1.2.2.2.2.2.2.1,.int .i64 r2.1.2.2.2.2.2.2.2]),(9,.int .i64 r2.2)] ?_
 refine A.sw 0 [] [.int .i64 r2.1.1,.int .i64 r2.1.2.1,.int .i64 r2.1.2.2.1,.int .i64 r2.1.2.2.2.1,.int .i64 r2.1.2.2.2.2.1,.int .i64 r2.1.2.2.2.2.2.1,.int .i64 r2.1.2.2.2.2.2.2.1,.int .i64 r2.1.2.2.2.2.2.2.2] ?_
 refine A.q0 [] [] [.n] [(3,.int .i64 r2.2)] ?_
 refine A.dx 1 ?_
 obtain rfl:=Option.some.inj hF
 exact A.AX.ret [] (.tuple #[.agg #[.int .i64 r2.1.1,.int .i64 r2.1.2.1,.int .i64 r2.1.2.2.1,.int .i64 r2.1.2.2.2.1,.int .i64 r2.1.2.2.2.2.1,.int .i64 r2.1.2.2.2.2.2.1,.int .i64 r2.1.2.2.2.2.2.2.1,.int .i64 r2.1.2.2.2.2.2.2.2],.int .i64 r2.2]) (fun a w hf hh=>Z.resv2 rfl (Z.rv_n hf rfl Tryz.isAgg45 Tryz.sizeOf45 (A.Hp.blk hh 0) rfl) (Z.rv_t hf rfl)) (⟨rfl,rfl,hr4,hr5,hr6,hr7,hr8,hr9,hr10,hr11,hr12⟩)
def F.summ_Next (a0:Int):Option (D44×Int):=(F.summ_step a0 1 4 (0,a0,1,0,(0,0,0,0))).bind fun r2=>(some ((r2.1.1,r2.1.2.1,r2.1.2.2.1,r2.1.2.2.2.1,(r2.1.2.2.2.2.1,r2.1.2.2.2.2.2.1,r2.1.2.2.2.2.2.2.1,r2.1.2.2.2.2.2.2.2)),r2.2))
theorem summ_Next_ok (a0:Int)(h0_:IntKind.i64.has a0)(r:D44×Int)(hF:F.summ_Next a0=some r):
    A.Ct Tryz.prog 144 [.int .i64 a0] [] [] (fun v H'=>v=.tuple #[.agg #[.int .i64 r.1.1,.int .i64 r.1.2.1,.int .i64 r.1.2.2.1,.int .i64 r.1.2.2.2.1,.int .i64 r.1.2.2.2.2.1,.int .i64 r.1.2.2.2.2.2.1,.int .i64 r.1.2.2.2.2.2.2.1,.int .i64 r.1.2.2.2.2.2.2.2],.int .i64 r.2]∧H'=[]∧IntKind.i64.has r.1.1∧IntKind.i64.has r.1.2.1∧IntKind.i64.has r.1.2.2.1∧IntKind.i64.has r.1.2.2.2.1∧IntKind.i64.has r.1.2.2.2.2.1∧IntKind.i64.has r.1.2.2.2.2.2.1∧IntKind.i64.has r.1.2.2.2.2.2.2.1∧IntKind.i64.has r.1.2.2.2.2.2.2.2∧IntKind.i64.has r.2):=by
 refine A.Ct.enter Tryz.func144 rfl Tryz.ntmps144 rfl fun w0 F0=>?_
 rw[F.summ_Next]at hF
 refine A.xl 1 ?_
 refine A.AL.alloc 0 (cs:=[.int .i64 0,.int .i64 0,.int .i64 0,.int .i64 0,.int .i64 0,.int .i64 0,.int .i64 0,.int .i64 0]) Tryz.zeroValue45 fun g1=>?_
 refine A.q0 [] [] [.n] [] ?_
 refine A.dl 2 ?_
 refine A.q0 [] [] [.n,.n,.n] [(4,.int .i64 a0),(6,.agg #[.int .i64 0,.int .i64 a0,.int .i64 1,.int .i64 0,.int .i64 0,.int .i64 0,.int .i64 0,.int .i64 0])] ?_
 obtain⟨r2,hv3,hF⟩:=A.bd_some hF
 refine A.AL.call 1 [] (first:=[]) (cap:=[]) cf74 (summ_step_ok a0 1 4 (0,a0,1,0,(0,0,0,0)) h0_ (A.hasl .i64 (1) rfl) (A.hasl .i64 (4) rfl) (A.hasl .i64 (0) rfl) h0_ (A.hasl .i64 (1) rfl) (A.hasl .i64 (0) rfl) (A.hasl .i64 (0) rfl) (A.hasl .i64 (0) rfl) (A.hasl .i64 (0) rfl) (A.hasl .i64 (0) rfl) r2 hv3) .nil ?_
 rintro _ _ ⟨rfl,rfl,hr4,hr5,hr6,hr7,hr8,hr9,hr10,hr11,hr12⟩
 refine⟨by kernel_rfl,?_⟩
 refine A.q0 [] [] [.n,.n] [(8,.agg #[.int .i64 r2.1.1,.int .i64 r2.1.2.1,.int .i64 r2.1.2.2.1,.int .i64 r2.1.2.2.2.1,.int .i64 r2.1.2.2.2.2.1,.int .i64 r2.1.2.2.2.2.2.1,.int .i64 r2.1.2.2.2.2.2.2.1,.int .i64 r2.1.2.2.2.2.2.2.2]),(9,.int .i64 r2.2)] ?_
 refine A.sw 0 [] [.int .i64 r2.1.1,.int .i64 r2.1.2.1,.int .i64 r2.1.2.2.1,.int .i64 r2.1.2.2.2.1,.int .i64 r2.1.2.2.2.2.1,.int .i64 r2.1.2.2.2.2.2.1,.int .i64 r2.1.2.2.2.2.2.2.1,.int .i64 r2.1.2.2.2.2.2.2.2] ?_
 refine A.q0 [] [] [.n] [(3,.int .i64 r2.2)] ?_
 refine A.dx 1 ?_
 obtain rfl:=Option.some.inj hF
 exact A.AX.ret [] (.tuple #[.agg #[.int .i64 r2.1.1,.int .i64 r2.1.2.1,.int .i64 r2.1.2.2.1,.int .i64 r2.1.2.2.2.1,.int .i64 r2.1.2.2.2.2.1,.int .i64 r2.1.2.2.2.2.2.1,.int .i64 r2.1.2.2.2.2.2.2.1,.int .i64 r2.1.2.2.2.2.2.2.2],.int .i64 r2.2]) (fun a w hf hh=>Z.resv2 rfl (Z.rv_n hf rfl Tryz.isAgg45 Tryz.sizeOf45 (A.Hp.blk hh 0) rfl) (Z.rv_t hf rfl)) (⟨rfl,rfl,hr4,hr5,hr6,hr7,hr8,hr9,hr10,hr11,hr12⟩)
def F.summ_Enter (a0:Int):Option (D44×Int):=(F.summ_step a0 0 3 (0,a0,0,1,(0,0,0,0))).bind fun r2=>(some ((r2.1.1,r2.1.2.1,r2.1.2.2.1,r2.1.2.2.2.1,(r2.1.2.2.2.2.1,r2.1.2.2.2.2.2.1,r2.1.2.2.2.2.2.2.1,r2.1.2.2.2.2.2.2.2)),r2.2))
theorem summ_Enter_ok (a0:Int)(h0_:IntKind.i64.has a0)(r:D44×Int)(hF:F.summ_Enter a0=some r):
    A.Ct Tryz.prog 142 [.int .i64 a0] [] [] (fun v H'=>v=.tuple #[.agg #[.int .i64 r.1.1,.int .i64 r.1.2.1,.int .i64 r.1.2.2.1,.int .i64 r.1.2.2.2.1,.int .i64 r.1.2.2.2.2.1,.int .i64 r.1.2.2.2.2.2.1,.int .i64 r.1.2.2.2.2.2.2.1,.int .i64 r.1.2.2.2.2.2.2.2],.int .i64 r.2]∧H'=[]∧IntKind.i64.has r.1.1∧IntKind.i64.has r.1.2.1∧IntKind.i64.has r.1.2.2.1∧IntKind.i64.has r.1.2.2.2.1∧IntKind.i64.has r.1.2.2.2.2.1∧IntKind.i64.has r.1.2.2.2.2.2.1∧IntKind.i64.has r.1.2.2.2.2.2.2.1∧IntKind.i64.has r.1.2.2.2.2.2.2.2∧IntKind.i64.has r.2):=by
 refine A.Ct.enter Tryz.func142 rfl Tryz.ntmps142 rfl fun w0 F0=>?_
 rw[F.summ_Enter]at hF
 refine A.xl 1 ?_
 refine A.AL.alloc 0 (cs:=[.int .i64 0,.int .i64 0,.int .i64 0,.int .i64 0,.int .i64 0,.int .i64 0,.int .i64 0,.int .i64 0]) Tryz.zeroValue45 fun g1=>?_
 refine A.q0 [] [] [.n] [] ?_
 refine A.dl 2 ?_
 refine A.q0 [] [] [.n,.n,.n] [(4,.int .i64 a0),(6,.agg #[.int .i64 0,.int .i64 a0,.int .i64 0,.int .i64 1,.int .i64 0,.int .i64 0,.int .i64 0,.int .i64 0])] ?_
 obtain⟨r2,hv3,hF⟩:=A.bd_some hF
 refine A.AL.call 1 [] (first:=[]) (cap:=[]) cf74 (summ_step_ok a0 0 3 (0,a0,0,1,(0,0,0,0)) h0_ (A.hasl .i64 (0) rfl) (A.hasl .i64 (3) rfl) (A.hasl .i64 (0) rfl) h0_ (A.hasl .i64 (0) rfl) (A.hasl .i64 (1) rfl) (A.hasl .i64 (0) rfl) (A.hasl .i64 (0) rfl) (A.hasl .i64 (0) rfl) (A.hasl .i64 (0) rfl) r2 hv3) .nil ?_
 rintro _ _ ⟨rfl,rfl,hr4,hr5,hr6,hr7,hr8,hr9,hr10,hr11,hr12⟩
 refine⟨by kernel_rfl,?_⟩
 refine A.q0 [] [] [.n,.n] [(8,.agg #[.int .i64 r2.1.1,.int .i64 r2.1.2.1,.int .i64 r2.1.2.2.1,.int .i64 r2.1.2.2.2.1,.int .i64 r2.1.2.2.2.2.1,.int .i64 r2.1.2.2.2.2.2.1,.int .i64 r2.1.2.2.2.2.2.2.1,.int .i64 r2.1.2.2.2.2.2.2.2]),(9,.int .i64 r2.2)] ?_
 refine A.sw 0 [] [.int .i64 r2.1.1,.int .i64 r2.1.2.1,.int .i64 r2.1.2.2.1,.int .i64 r2.1.2.2.2.1,.int .i64 r2.1.2.2.2.2.1,.int .i64 r2.1.2.2.2.2.2.1,.int .i64 r2.1.2.2.2.2.2.2.1,.int .i64 r2.1.2.2.2.2.2.2.2] ?_
 refine A.q0 [] [] [.n] [(3,.int .i64 r2.2)] ?_
 refine A.dx 1 ?_
 obtain rfl:=Option.some.inj hF
 exact A.AX.ret [] (.tuple #[.agg #[.int .i64 r2.1.1,.int .i64 r2.1.2.1,.int .i64 r2.1.2.2.1,.int .i64 r2.1.2.2.2.1,.int .i64 r2.1.2.2.2.2.1,.int .i64 r2.1.2.2.2.2.2.1,.int .i64 r2.1.2.2.2.2.2.2.1,.int .i64 r2.1.2.2.2.2.2.2.2],.int .i64 r2.2]) (fun a w hf hh=>Z.resv2 rfl (Z.rv_n hf rfl Tryz.isAgg45 Tryz.sizeOf45 (A.Hp.blk hh 0) rfl) (Z.rv_t hf rfl)) (⟨rfl,rfl,hr4,hr5,hr6,hr7,hr8,hr9,hr10,hr11,hr12⟩)
def F.summ_Leave (a0:Int):Option (D44×Int):=A.gd (Z.R64 (a0-1)) ((F.summ_step a0 1 4 (0,a0-1,0,0,(0,0,0,0))).bind fun r3=>(some ((r3.1.1,r3.1.2.1,r3.1.2.2.1,r3.1.2.2.2.1,(r3.1.2.2.2.2.1,r3.1.2.2.2.2.2.1,r3.1.2.2.2.2.2.2.1,r3.1.2.2.2.2.2.2.2)),r3.2)))
theorem summ_Leave_ok (a0:Int)(h0_:IntKind.i64.has a0)(r:D44×Int)(hF:F.summ_Leave a0=some r):
    A.Ct Tryz.prog 143 [.int .i64 a0] [] [] (fun v H'=>v=.tuple #[.agg #[.int .i64 r.1.1,.int .i64 r.1.2.1,.int .i64 r.1.2.2.1,.int .i64 r.1.2.2.2.1,.int .i64 r.1.2.2.2.2.1,.int .i64 r.1.2.2.2.2.2.1,.int .i64 r.1.2.2.2.2.2.2.1,.int .i64 r.1.2.2.2.2.2.2.2],.int .i64 r.2]∧H'=[]∧IntKind.i64.has r.1.1∧IntKind.i64.has r.1.2.1∧IntKind.i64.has r.1.2.2.1∧IntKind.i64.has r.1.2.2.2.1∧IntKind.i64.has r.1.2.2.2.2.1∧IntKind.i64.has r.1.2.2.2.2.2.1∧IntKind.i64.has r.1.2.2.2.2.2.2.1∧IntKind.i64.has r.1.2.2.2.2.2.2.2∧IntKind.i64.has r.2):=by
 refine A.Ct.enter Tryz.func143 rfl Tryz.ntmps143 rfl fun w0 F0=>?_
 rw[F.summ_Leave]at hF
 refine A.xl 1 ?_
 refine A.AL.alloc 0 (cs:=[.int .i64 0,.int .i64 0,.int .i64 0,.int .i64 0,.int .i64 0,.int .i64 0,.int .i64 0,.int .i64 0]) Tryz.zeroValue45 fun g1=>?_
 refine A.q0 [] [] [.n] [] ?_
 refine A.dl 2 ?_
 obtain⟨hc2,hF⟩:=A.gd_some hF
 refine A.q [] [] [.n,.n,.n,.n] [Z.R64 (a0-1)] [(4,.int .i64 a0),(7,.agg #[.int .i64 0,.int .i64 (a0-1),.int .i64 0,.int .i64 0,.int .i64 0,.int .i64 0,.int .i64 0,.int .i64 0])] hc2 ?_
 obtain⟨r3,hv4,hF⟩:=A.bd_some hF
 refine A.AL.call 1 [] (first:=[]) (cap:=[]) cf74 (summ_step_ok a0 1 4 (0,a0-1,0,0,(0,0,0,0)) h0_ (A.hasl .i64 (1) rfl) (A.hasl .i64 (4) rfl) (A.hasl .i64 (0) rfl) (Z.i64_has hc2) (A.hasl .i64 (0) rfl) (A.hasl .i64 (0) rfl) (A.hasl .i64 (0) rfl) (A.hasl .i64 (0) rfl) (A.hasl .i64 (0) rfl) (A.hasl .i64 (0) rfl) r3 hv4) .nil ?_
 rintro _ _ ⟨rfl,rfl,hr5,hr6,hr7,hr8,hr9,hr10,hr11,hr12,hr13⟩
 refine⟨by kernel_rfl,?_⟩
 refine A.q0 [] [] [.n,.n] [(9,.agg #[.int .i64 r3.1.1,.int .i64 r3.1.2.1,.int .i64 r3.1.2.2.1,.int .i64 r3.1.2.2.2.1,.int .i64 r3.1.2.2.2.2.1,.int .i64 r3.1.2.2.2.2.2.1,.int .i64 r3.1.2.2.2.2.2.2.1,.int .i64 r3.1.2.2.2.2.2.2.2]),(10,.int .i64 r3.2)] ?_
 refine A.sw 0 [] [.int .i64 r3.1.1,.int .i64 r3.1.2.1,.int .i64 r3.1.2.2.1,.int .i64 r3.1.2.2.2.1,.int .i64 r3.1.2.2.2.2.1,.int .i64 r3.1.2.2.2.2.2.1,.int .i64 r3.1.2.2.2.2.2.2.1,.int .i64 r3.1.2.2.2.2.2.2.2] ?_
 refine A.q0 [] [] [.n] [(3,.int .i64 r3.2)] ?_
 refine A.dx 1 ?_
 obtain rfl:=Option.some.inj hF
 exact A.AX.ret [] (.tuple #[.agg #[.int .i64 r3.1.1,.int .i64 r3.1.2.1,.int .i64 r3.1.2.2.1,.int .i64 r3.1.2.2.2.1,.int .i64 r3.1.2.2.2.2.1,.int .i64 r3.1.2.2.2.2.2.1,.int .i64 r3.1.2.2.2.2.2.2.1,.int .i64 r3.1.2.2.2.2.2.2.2],.int .i64 r3.2]) (fun a w hf hh=>Z.resv2 rfl (Z.rv_n hf rfl Tryz.isAgg45 Tryz.sizeOf45 (A.Hp.blk hh 0) rfl) (Z.rv_t hf rfl)) (⟨rfl,rfl,hr5,hr6,hr7,hr8,hr9,hr10,hr11,hr12,hr13⟩)
end Go.Proofs.YtlbnpmfggfbdoaaGreatDoor
end
section
set_option linter.unusedVariables false
set_option linter.unusedSimpArgs false
set_option maxRecDepth 20000
set_option maxHeartbeats 8000000
set_option synthInstance.maxSize 1000000
set_option synthInstance.maxHeartbeats 400000
namespace Go.Proofs.YtlbnpmfggfbdoaaGreatDoor
open Go.RowKit
def F.graph_within_j1 (y4:Int)(y6:Int)(y8:Int)(y10:Int)(y12:Int)(y14:Int)(y16:Int)(y18:Int):Option D44:=some (y4,y6,y8,y10,(y12,y14,y16,y18))
def F.graph_within (a0:D83)(a1:Int):Option D44:=if a0.2.1=12 then((F.summ_Enter a1).bind fun r20=>(F.graph_within_j1 r20.1.1 r20.1.2.1 r20.1.2.2.1 r20.1.2.2.2.1 r20.1.2.2.2.2.1 r20.1.2.2.2.2.2.1 r20.1.2.2.2.2.2.2.1 r20.1.2.2.2.2.2.2.2))else(if a0.2.1=13 then((F.summ_Leave a1).bind fun r31=>(F.graph_within_j1 r31.1.1 r31.1.2.1 r31.1.2.2.1 r31.1.2.2.2.1 r31.1.2.2.2.2.1 r31.1.2.2.2.2.2.1 r31.1.2.2.2.2.2.2.1 r31.1.2.2.2.2.2.2.2))else(if a0.2.1=14 then((F.summ_Next a1).bind fun r42=>(F.graph_within_j1 r42.1.1 r42.1.2.1 r42.1.2.2.1 r42.1.2.2.2.1 r42.1.2.2.2.2.1 r42.1.2.2.2.2.2.1 r42.1.2.2.2.2.2.2.1 r42.1.2.2.2.2.2.2.2))else((F.summ_Id a1).bind fun r53=>(F.graph_within_j1 r53.1.1 r53.1.2.1 r53.1.2.2.1 r53.1.2.2.2.1 r53.1.2.2.2.2.1 r53.1.2.2.2.2.2.1 r53.1.2.2.2.2.2.2.1 r53.1.2.2.2.2.2.2.2))))
theorem graph_within_ok (a0:D83)(a1:Int)(A2_:Option Addr)(c3_:Nat)(h0_:IntKind.i64.has a0.1)(h1_:IntKind.i64.has a0.2.1)(h4_:IntKind.i64.has a0.2.2.2.1.1)(h5_:IntKind.i64.has a0.2.2.2.1.2.1)(h6_:a0.2.2.2.1.2.2.size≤maxLen)(h7_:a0.2.2.2.2.1.size≤maxLen)(h8_:IntKind.i64.has a0.2.2.2.2.2.1)(h9_:IntKind.i64.has a0.2.2.2.2.2.2)(h10_:IntKind.i64.has a1)(r:D44)(hF:F.graph_within a0 a1=some r):
    A.Ct Tryz.prog 103 [.agg #[.int .i64 a0.1,.int .i64 a0.2.1,.slice A2_ ((a0.2.2.1).length) c3_,.int .i64 a0.2.2.2.1.1,.int .i64 a0.2.2.2.1.2.1,.string a0.2.2.2.1.2.2,.string a0.2.2.2.2.1,.int .i64 a0.2.2.2.2.2.1,.int .i64 a0.2.2.2.2.2.2],.int .i64 a1] [(0,.sh (.slice (Z.Ty.int .i64)) [.slice A2_ (a0.2.2.1).length c3_] a0.2.2.1)] [] (fun v H'=>v=.agg #[.int .i64 r.1,.int .i64 r.2.1,.int .i64 r.2.2.1,.int .i64 r.2.2.2.1,.int .i64 r.2.2.2.2.1,.int .i64 r.2.2.2.2.2.1,.int .i64 r.2.2.2.2.2.2.1,.int .i64 r.2.2.2.2.2.2.2]∧H'=[]∧IntKind.i64.has r.1∧IntKind.i64.has r.2.1∧IntKind.i64.has r.2.2.1∧IntKind.i64.has r.2.2.2.1∧IntKind.i64.has r.2.2.2.2.1∧IntKind.i64.has r.2.2.2.2.2.1∧IntKind.i64.has r.2.2.2.2.2.2.1∧IntKind.i64.has r.2.2.2.2.2.2.2):=by
 refine A.Ct.enter Tryz.func103 rfl Tryz.ntmps103 rfl fun w0 F0=>?_
 rw[F.graph_within]at hF
 refine A.xl 1 ?_
 refine A.AL.box 1 (cs:=[.int .i64 a0.1,.int .i64 a0.2.1,.slice A2_ ((a0.2.2.1).length) c3_,.int .i64 a0.2.2.2.1.1,.int .i64 a0.2.2.2.1.2.1,.string a0.2.2.2.1.2.2,.string a0.2.2.2.2.1,.int .i64 a0.2.2.2.2.2.1,.int .i64 a0.2.2.2.2.2.2]) fun g1=>?_
 refine A.AL.alloc 2 (cs:=[.int .i64 0,.int .i64 0,.int .i64 0,.int .i64 0,.int .i64 0,.int .i64 0,.int .i64 0,.int .i64 0]) Tryz.zeroValue45 fun g2=>?_
 refine A.dl 2 ?_
 refine A.AL.alloc 3 (cs:=[.int .i64 0,.int .i64 0,.int .i64 0,.int .i64 0,.int .i64 0,.int .i64 0,.int .i64 0,.int .i64 0]) Tryz.zeroValue45 fun g3=>?_
 refine A.dx 1 ?_
 refine A.AX.join [4,5] [2] (fun nl nh=>∃(y4:Int),∃(y6:Int),∃(y8:Int),∃(y10:Int),∃(y12:Int),∃(y14:Int),∃(y16:Int),∃(y18:Int),nl=[]∧nh=[(3,.blk g3 45 [.int .i64 y4,.int .i64 y6,.int .i64 y8,.int .i64 y10,.int .i64 y12,.int .i64 y14,.int .i64 y16,.int .i64 y18])]∧IntKind.i64.has y4∧IntKind.i64.has y6∧IntKind.i64.has y8∧IntKind.i64.has y10∧IntKind.i64.has y12∧IntKind.i64.has y14∧IntKind.i64.has y16∧IntKind.i64.has y18∧F.graph_within_j1 y4 y6 y8 y10 y12 y14 y16 y18=some r) ?_ ?_
 ·refine A.xl 1 ?_
  refine A.q0 [1] [] [.n,.b 0 1] [(7,.int .i64 a0.2.1)] ?_
  refine A.dl 3 ?_
  refine A.q0 [] [] [.n,.n] [(13,.bool (decide (a0.2.1=12)))] ?_
  refine A.dx 1 ?_
  refine A.AX.cnd rfl hF (fun hb hF=>?_) (fun hb hF=>?_)
  ·refine A.xl 0 ?_
   refine A.q0 [] [] [.n] [(16,.int .i64 a1)] ?_
   obtain⟨r20,hv21,hF⟩:=A.bd_some hF
   refine A.AL.call 4 [] (first:=[]) (cap:=[]) cf142 (summ_Enter_ok a1 h10_ r20 hv21) .nil ?_
   rintro _ _ ⟨rfl,rfl,hr22,hr23,hr24,hr25,hr26,hr27,hr28,hr29,hr30⟩
   refine⟨by kernel_rfl,?_⟩
   refine A.q0 [] [] [.n,.n,.n] [(18,.agg #[.int .i64 r20.1.1,.int .i64 r20.1.2.1,.int .i64 r20.1.2.2.1,.int .i64 r20.1.2.2.2.1,.int .i64 r20.1.2.2.2.2.1,.int .i64 r20.1.2.2.2.2.2.1,.int .i64 r20.1.2.2.2.2.2.2.1,.int .i64 r20.1.2.2.2.2.2.2.2])] ?_
   refine A.sw 3 [] [.int .i64 r20.1.1,.int .i64 r20.1.2.1,.int .i64 r20.1.2.2.1,.int .i64 r20.1.2.2.2.1,.int .i64 r20.1.2.2.2.2.1,.int .i64 r20.1.2.2.2.2.2.1,.int .i64 r20.1.2.2.2.2.2.2.1,.int .i64 r20.1.2.2.2.2.2.2.2] ?_
   refine A.de 1 ?_
   exact A.j ⟨r20.1.1,r20.1.2.1,r20.1.2.2.1,r20.1.2.2.2.1,r20.1.2.2.2.2.1,r20.1.2.2.2.2.2.1,r20.1.2.2.2.2.2.2.1,r20.1.2.2.2.2.2.2.2,rfl,rfl,hr22,hr23,hr24,hr25,hr26,hr27,hr28,hr29,hF⟩
  refine A.xl 1 ?_
  refine A.q0 [] [] [.n,.n] [(20,.bool (decide (a0.2.1=13)))] ?_
  refine A.dx 1 ?_
  refine A.AX.cnd rfl hF (fun hb hF=>?_) (fun hb hF=>?_)
  ·refine A.xl 0 ?_
   refine A.q0 [] [] [.n] [(23,.int .i64 a1)] ?_
   obtain⟨r31,hv32,hF⟩:=A.bd_some hF
   refine A.AL.call 44 [] (first:=[]) (cap:=[]) cf143 (summ_Leave_ok a1 h10_ r31 hv32) .nil ?_
   rintro _ _ ⟨rfl,rfl,hr33,hr34,hr35,hr36,hr37,hr38,hr39,hr40,hr41⟩
   refine⟨by kernel_rfl,?_⟩
   refine A.q0 [] [] [.n,.n,.n] [(25,.agg #[.int .i64 r31.1.1,.int .i64 r31.1.2.1,.int .i64 r31.1.2.2.1,.int .i64 r31.1.2.2.2.1,.int .i64 r31.1.2.2.2.2.1,.int .i64 r31.1.2.2.2.2.2.1,.int .i64 r31.1.2.2.2.2.2.2.1,.int .i64 r31.1.2.2.2.2.2.2.2])] ?_
   refine A.sw 3 [] [.int .i64 r31.1.1,.int .i64 r31.1.2.1,.int .i64 r31.1.2.2.1,.int .i64 r31.1.2.2.2.1,.int .i64 r31.1.2.2.2.2.1,.int .i64 r31.1.2.2.2.2.2.1,.int .i64 r31.1.2.2.2.2.2.2.1,.int .i64 r31.1.2.2.2.2.2.2.2] ?_
   refine A.de 1 ?_
   exact A.j ⟨r31.1.1,r31.1.2.1,r31.1.2.2.1,r31.1.2.2.2.1,r31.1.2.2.2.2.1,r31.1.2.2.2.2.2.1,r31.1.2.2.2.2.2.2.1,r31.1.2.2.2.2.2.2.2,rfl,rfl,hr33,hr34,hr35,hr36,hr37,hr38,hr39,hr40,hF⟩
  refine A.xl 1 ?_
  refine A.q0 [] [] [.n,.n] [(27,.bool (decide (a0.2.1=14)))] ?_
  refine A.dx 1 ?_
  refine A.AX.cnd rfl hF (fun hb hF=>?_) (fun hb hF=>?_)
  ·refine A.xl 0 ?_
   refine A.q0 [] [] [.n] [(30,.int .i64 a1)] ?_
   obtain⟨r42,hv43,hF⟩:=A.bd_some hF
   refine A.AL.call 84 [] (first:=[]) (cap:=[]) cf144 (summ_Next_ok a1 h10_ r42 hv43) .nil ?_
   rintro _ _ ⟨rfl,rfl,hr44,hr45,hr46,hr47,hr48,hr49,hr50,hr51,hr52⟩
   refine⟨by kernel_rfl,?_⟩
   refine A.q0 [] [] [.n,.n,.n] [(32,.agg #[.int .i64 r42.1.1,.int .i64 r42.1.2.1,.int .i64 r42.1.2.2.1,.int .i64 r42.1.2.2.2.1,.int .i64 r42.1.2.2.2.2.1,.int .i64 r42.1.2.2.2.2.2.1,.int .i64 r42.1.2.2.2.2.2.2.1,.int .i64 r42.1.2.2.2.2.2.2.2])] ?_
   refine A.sw 3 [] [.int .i64 r42.1.1,.int .i64 r42.1.2.1,.int .i64 r42.1.2.2.1,.int .i64 r42.1.2.2.2.1,.int .i64 r42.1.2.2.2.2.1,.int .i64 r42.1.2.2.2.2.2.1,.int .i64 r42.1.2.2.2.2.2.2.1,.int .i64 r42.1.2.2.2.2.2.2.2] ?_
   refine A.de 1 ?_
   exact A.j ⟨r42.1.1,r42.1.2.1,r42.1.2.2.1,r42.1.2.2.2.1,r42.1.2.2.2.2.1,r42.1.2.2.2.2.2.1,r42.1.2.2.2.2.2.2.1,r42.1.2.2.2.2.2.2.2,rfl,rfl,hr44,hr45,hr46,hr47,hr48,hr49,hr50,hr51,hF⟩
  refine A.xl 0 ?_
  refine A.q0 [] [] [.n] [(9,.int .i64 a1)] ?_
  obtain⟨r53,hv54,hF⟩:=A.bd_some hF
  refine A.AL.call 124 [] (first:=[]) (cap:=[]) cf39 (summ_Id_ok a1 h10_ r53 hv54) .nil ?_
  rintro _ _ ⟨rfl,rfl,hr55,hr56,hr57,hr58,hr59,hr60,hr61,hr62,hr63⟩
  refine⟨by kernel_rfl,?_⟩
  refine A.q0 [] [] [.n,.n,.n] [(11,.agg #[.int .i64 r53.1.1,.int .i64 r53.1.2.1,.int .i64 r53.1.2.2.1,.int .i64 r53.1.2.2.2.1,.int .i64 r53.1.2.2.2.2.1,.int .i64 r53.1.2.2.2.2.2.1,.int .i64 r53.1.2.2.2.2.2.2.1,.int .i64 r53.1.2.2.2.2.2.2.2])] ?_
  refine A.sw 3 [] [.int .i64 r53.1.1,.int .i64 r53.1.2.1,.int .i64 r53.1.2.2.1,.int .i64 r53.1.2.2.2.1,.int .i64 r53.1.2.2.2.2.1,.int .i64 r53.1.2.2.2.2.2.1,.int .i64 r53.1.2.2.2.2.2.2.1,.int .i64 r53.1.2.2.2.2.2.2.2] ?_
  refine A.de 1 ?_
  exact A.j ⟨r53.1.1,r53.1.2.1,r53.1.2.2.1,r53.1.2.2.2.1,r53.1.2.2.2.2.1,r53.1.2.2.2.2.2.1,r53.1.2.2.2.2.2.2.1,r53.1.2.2.2.2.2.2.2,rfl,rfl,hr55,hr56,hr57,hr58,hr59,hr60,hr61,hr62,hF⟩
 rintro _ _ ⟨y4,y6,y8,y10,y12,y14,y16,y18,rfl,rfl,hy5,hy7,hy9,hy11,hy13,hy15,hy17,hy19,hF⟩
 rw[F.graph_within_j1]at hF
 refine A.xl 1 ?_
 refine A.q0 [3] [] [.b 0 0] [(34,.agg #[.int .i64 y4,.int .i64 y6,.int .i64 y8,.int .i64 y10,.int .i64 y12,.int .i64 y14,.int .i64 y16,.int .i64 y18])] ?_
 refine A.sw 2 [] [.int .i64 y4,.int .i64 y6,.int .i64 y8,.int .i64 y10,.int .i64 y12,.int .i64 y14,.int .i64 y16,.int .i64 y18] ?_
 refine A.dx 1 ?_
 obtain rfl:=Option.some.inj hF
 exact A.AX.ret [] (.agg #[.int .i64 y4,.int .i64 y6,.int .i64 y8,.int .i64 y10,.int .i64 y12,.int .i64 y14,.int .i64 y16,.int .i64 y18]) (fun a w hf hh=>Z.resv1 rfl (Z.rv_n hf rfl Tryz.isAgg45 Tryz.sizeOf45 (A.Hp.blk hh 2) rfl)) (⟨rfl,rfl,hy5,hy7,hy9,hy11,hy13,hy15,hy17,hy19⟩)
end Go.Proofs.YtlbnpmfggfbdoaaGreatDoor
end
section
set_option linter.unusedVariables false
set_option linter.unusedSimpArgs false
set_option maxRecDepth 20000
set_option maxHeartbeats 8000000
set_option synthInstance.maxSize 1000000
set_option synthInstance.maxHeartbeats 400000
namespace Go.Proofs.YtlbnpmfggfbdoaaGreatDoor
open Go.RowKit
def F.graph_plan_edges_j1 (k30:(List D53)→Int→Option (List D53))(y5:Int)(xs10:List D53):Option (List D53):=A.gd (Z.R64 (y5+1)) (k30 xs10 (y5+1))
def F.graph_plan_edges_l2 (k30:(List D53)→Int→Option (List D53))(y5:Int)(x12:D83)(y50:Int)(y52:Int)(y54:Int)(y56:Int)(y58:Int)(y60:Int)(y62:Int)(y64:Int)(r67:(List D39)):Nat→(List D53)→Int→Option (List D53)
 |0,_,_=>none
 |f+1,xs73,y74=>if y74<((r67).length:Int)then((A.ix r67 y74).bind fun x77=>(A.gd ((List.length (α:=D53) xs73+List.length (α:=D53) [((x12.1,2),(x77.1,x77.2),(y50,y52,y54,y56,(y58,y60,y62,y64)))])*96≤140737488355328) (A.gd (Z.R64 (y74+1)) ((F.graph_plan_edges_l2 k30 y5 x12 y50 y52 y54 y56 y58 y60 y62 y64 r67 f) (xs73++[((x12.1,2),(x77.1,x77.2),(y50,y52,y54,y56,(y58,y60,y62,y64)))]) (y74+1)))))else(F.graph_plan_edges_j1 k30 y5 xs73)
def F.graph_plan_edges_j3 (k30:(List D53)→Int→Option (List D53))(a1:D23)(y5:Int)(x12:D83)(xs23:List D53)(y50:Int)(y52:Int)(y54:Int)(y56:Int)(y58:Int)(y60:Int)(y62:Int)(y64:Int):Option (List D53):=(F.graph_users a1 x12.1).bind fun r67=>(F.graph_plan_edges_l2 k30 y5 x12 y50 y52 y54 y56 y58 y60 y62 y64 r67 A.FU xs23 0)
def F.graph_plan_edges_l4 (k30:(List D53)→Int→Option (List D53))(a0:((List (Int×D83))×(List Int)×(List (Int×Int))))(a1:D23)(y5:Int)(x12:D83):Nat→(List D53)→Int→Option (List D53)
 |0,_,_=>none
 |f+1,xs23,y24=>if y24<((x12.2.2.1).length:Int)then((A.ix x12.2.2.1 y24).bind fun x27=>(A.lt (Z.mget (0:Int) a0.2.2 x27) fun x32=>((F.graph_within (x12.1,x12.2.1,x12.2.2.1,(x12.2.2.2.1.1,x12.2.2.2.1.2.1,x12.2.2.2.1.2.2),x12.2.2.2.2.1,x12.2.2.2.2.2.1,x12.2.2.2.2.2.2) x32).bind fun r35=>(A.gd ((List.length (α:=D53) xs23+List.length (α:=D53) [((x12.1,y24),(x12.1,2),(r35.1,r35.2.1,r35.2.2.1,r35.2.2.2.1,(r35.2.2.2.2.1,r35.2.2.2.2.2.1,r35.2.2.2.2.2.2.1,r35.2.2.2.2.2.2.2)))])*96≤140737488355328) (A.gd (Z.R64 (y24+1)) ((F.graph_plan_edges_l4 k30 a0 a1 y5 x12 f) (xs23++[((x12.1,y24),(x12.1,2),(r35.1,r35.2.1,r35.2.2.1,r35.2.2.2.1,(r35.2.2.2.2.1,r35.2.2.2.2.2.1,r35.2.2.2.2.2.2.1,r35.2.2.2.2.2.2.2)))]) (y24+1)))))))else(A.lt (Z.mget (0:Int) a0.2.2 x12.1) fun x88=>((F.summ_Id x88).bind fun r511=>(F.graph_plan_edges_j3 k30 a1 y5 x12 xs23 r511.1.1 r511.1.2.1 r511.1.2.2.1 r511.1.2.2.2.1 r511.1.2.2.2.2.1 r511.1.2.2.2.2.2.1 r511.1.2.2.2.2.2.2.1 r511.1.2.2.2.2.2.2.2)))
def F.graph_plan_edges_l5 (a0:((List (Int×D83))×(List Int)×(List (Int×Int))))(a1:D23):Nat→(List D53)→Int→Option (List D53)
 |0,_,_=>none
 |f+1,xs4,y5=>if y5<((a1).length:Int)then((A.ix a1 y5).bind fun x12=>(if x12.2.1=15 then(F.graph_plan_edges_j1 (F.graph_plan_edges_l5 a0 a1 f) y5 xs4)else(F.graph_plan_edges_l4 (F.graph_plan_edges_l5 a0 a1 f) a0 a1 y5 x12 A.FU xs4 0)))else(some xs4)
def F.graph_plan_edges (a0:((List (Int×D83))×(List Int)×(List (Int×Int))))(a1:D23):Option (List D53):=F.graph_plan_edges_l5 a0 a1 A.FU [] 0
theorem graph_plan_edges_ok (a0:((List (Int×D83))×(List Int)×(List (Int×Int))))(a1:D23)(g0_:Nat)(b1_:Nat)(A2_:Option Addr)(c3_:Nat)(b4_:Nat)(A5_:Option Addr)(c6_:Nat)(r:(List D53))(hF:F.graph_plan_edges a0 a1=some r):
    A.Ct Tryz.prog 70 [.pointer (some ⟨g0_,0,none⟩),.agg #[.slice A5_ ((a1).length) c6_]] [(0,.blk g0_ 149 [.map (some b1_),.slice A2_ ((a0.2.1).length) c3_,.map (some b4_)]),(1,.mp Int (fun i:Int=>.int .i64 i) T83 true b1_ a0.1),(2,.own (Z.Ty.int .i64) 3 A2_ c3_ a0.2.1),(3,.mp Int (fun i:Int=>.int .i64 i) (Z.Ty.int .i64) false b4_ a0.2.2),(4,.sh (.slice T83) [.slice A5_ (a1).length c6_] a1)] ([g0_]++([b1_]++(Z.obl A2_++([b4_]++[])))) (fun v H'=>∃(A0':Option Addr) (c1':Nat),v=.slice A0' ((r).length) c1'∧H'=[(0,.own T53 54 A0' c1' r),(1,.blk g0_ 149 [.map (some b1_),.slice A2_ ((a0.2.1).length) c3_,.map (some b4_)]),(2,.mp Int (fun i:Int=>.int .i64 i) T83 true b1_ a0.1),(3,.own (Z.Ty.int .i64) 3 A2_ c3_ a0.2.1),(4,.mp Int (fun i:Int=>.int .i64 i) (Z.Ty.int .i64) false b4_ a0.2.2)]):=by
 refine A.Ct.enter Tryz.func70 rfl Tryz.ntmps70 rfl fun w0 F0=>?_
 rw[F.graph_plan_edges]at hF
 refine A.xl 1 ?_
 refine A.AL.box 5 (cs:=[.slice A5_ ((a1).length) c6_]) fun g1=>?_
 refine A.q0 [] [] [.n] [] ?_
 refine A.dl 2 ?_
 refine A.q0 [] [] [.n] [(5,.slice none 0 0)] ?_
 refine A.dl 3 ?_
 refine A.q0 [5] [] [.n,.b 0 0,.n,.n] [(16,.slice A5_ ((a1).length) c6_),(17,.int .i64 ((a1).length:Int)),(18,.int .i64 0)] ?_
 refine A.dx 2 ?_
 refine A.nil 3600 T53 54 ?_
 refine A.lp_ [0,3,16,17] [0,1,2,3,4,5] (fun f nl nh=>∃(xs4:List D53),∃(y5:Int),∃(A2:Option Addr),∃(c3:Nat),nl=[(5,.slice A2 ((xs4).length) c3),(18,.int .i64 y5)]∧nh=[(3600,.own T53 54 A2 c3 xs4)]∧IntKind.i64.has y5∧F.graph_plan_edges_l5 a0 a1 f xs4 y5=some r) ⟨[],0,none,0,rfl,rfl,(A.hasl .i64 (0) rfl),hF⟩ ?_
 rintro f7 _ _ ⟨xs4,y5,A2,c3,rfl,rfl,hy6,hF⟩
 rcases f7 with _|f7
 ·exact A.no0 hF
 rw[F.graph_plan_edges_l5]at hF
 refine A.xl 1 ?_
 refine A.q0 [] [] [.n] [(19,.bool (decide (y5<((a1).length:Int))))] ?_
 refine A.dx 2 ?_
 refine A.AX.cnd rfl hF (fun hb hF=>?_) (fun hb hF=>?_)
 ·refine A.xx 2 ?_
  refine A.AX.join [0,3,16,17,18] [0,1,2,3,4,5] (fun nl nh=>∃(xs10:List D53),∃(A8:Option Addr),∃(c9:Nat),nl=[(5,.slice A8 ((xs10).length) c9)]∧nh=[(3600,.own T53 54 A8 c9 xs10)]∧F.graph_plan_edges_j1 (F.graph_plan_edges_l5 a0 a1 f7) y5 xs10=some r) ?_ ?_
  ·refine A.xl 2 ?_
   obtain⟨x12,hv13,hF⟩:=A.bd_some hF
   refine A.AL.ixs 4 6675 hv13 fun ho14=>?_
   intro A15 c16 b17 o18
   refine A.q0 [] [6675] [.e 0 0] [(21,.agg #[.int .i64 x12.1,.int .i64 x12.2.1,.slice A15 ((x12.2.2.1).length) c16,.int .i64 x12.2.2.2.1.1,.int .i64 x12.2.2.2.1.2.1,.string x12.2.2.2.1.2.2,.string x12.2.2.2.2.1,.int .i64 x12.2.2.2.2.2.1,.int .i64 x12.2.2.2.2.2.2])] ?_
   refine A.AL.alloc 6677 (cs:=[.int .i64 0,.int .i64 0,.slice none 0 0,.int .i64 0,.int .i64 0,.string (ByteArray.mk #[]),.string (ByteArray.mk #[]),.int .i64 0,.int .i64 0]) Tryz.zeroValue84 fun g19=>?_
   refine A.sw 6677 [] [.int .i64 x12.1,.int .i64 x12.2.1,.slice A15 ((x12.2.2.1).length) c16,.int .i64 x12.2.2.2.1.1,.int .i64 x12.2.2.2.1.2.1,.string x12.2.2.2.1.2.2,.string x12.2.2.2.2.1,.int .i64 x12.2.2.2.2.2.1,.int .i64 x12.2.2.2.2.2.2] ?_
   refine A.dl 3 ?_
   refine A.q0 [6677] [] [.n,.b 0 1,.n] [(24,.bool (decide (x12.2.1=15)))] ?_
   refine A.dx 1 ?_
   refine A.AX.cnd rfl hF (fun hb hF=>?_) (fun hb hF=>?_)
   ·refine A.xe 1 ?_
    exact A.j ⟨xs4,A2,c3,rfl,rfl,hF⟩
   refine A.xl 3 ?_
   refine A.q0 [6677] [] [.n,.b 0 0,.n] [(27,.agg #[.int .i64 x12.1,.int .i64 2])] ?_
   refine A.AL.alloc 6678 (cs:=[.int .i64 0,.int .i64 0]) Tryz.zeroValue40 fun g20=>?_
   refine A.sw 6678 [] [.int .i64 x12.1,.int .i64 2] ?_
   refine A.dl 3 ?_
   refine A.q0 [6677] [] [.n,.b 0 2,.n,.n] [(29,.slice A15 ((x12.2.2.1).length) c16),(30,.int .i64 ((x12.2.2.1).length:Int)),(31,.int .i64 0)] ?_
   refine A.dx 2 ?_
   refine A.lp_ [0,3,7,8,16,17,18,29,30] [0,1,2,3,4,5,6676,6677,6678] (fun f nl nh=>∃(xs23:List D53),∃(y24:Int),∃(A21:Option Addr),∃(c22:Nat),nl=[(5,.slice A21 ((xs23).length) c22),(31,.int .i64 y24)]∧nh=[(3600,.own T53 54 A21 c22 xs23)]∧IntKind.i64.has y24∧F.graph_plan_edges_l4 (F.graph_plan_edges_l5 a0 a1 f7) a0 a1 y5 x12 f xs23 y24=some r) ⟨xs4,0,A2,c3,rfl,rfl,(A.hasl .i64 (0) rfl),hF⟩ ?_
   rintro f26 _ _ ⟨xs23,y24,A21,c22,rfl,rfl,hy25,hF⟩
   rcases f26 with _|f26
   ·exact A.no0 hF
   rw[F.graph_plan_edges_l4]at hF
   refine A.xl 1 ?_
   refine A.q0 [] [] [.n] [(32,.bool (decide (y24<((x12.2.2.1).length:Int))))] ?_
   refine A.dx 2 ?_
   refine A.AX.cnd rfl hF (fun hb hF=>?_) (fun hb hF=>?_)
   ·refine A.xl 5 ?_
    refine A.q0 [] [] [.n] [(33,.int .i64 y24)] ?_
    obtain⟨x27,hv28,hF⟩:=A.bd_some hF
    refine A.AL.ixs 6676 7701 hv28 fun ho29=>?_
    intro b30 o31
    refine A.q0 [] [7701] [.e 0 0,.n,.n] [(9,.int .i64 y24),(10,.int .i64 x27)] ?_
    refine A.dx 1 ?_
    refine A.AX.dr mixed 18 18 (A.mb 18 0) ?_
    refine A.hq A.pb [] [0,1,2,3,4,5,6676,6677,6678,7701] [6678,6677,0] [] (A.mb 18 4095) 6 [(0,.n),(1,.n),(3,.n),(5,.b 0 0),(6,.b 1 0),(7,.n),(11,.n),(2,.b 1 0),(8,.n),(4,.n),(9,.n),(10,.b 2 2)] [(36,.slice A21 ((xs23).length) c22),(41,.agg #[.int .i64 x12.1,.int .i64 2]),(42,.agg #[.int .i64 x12.1,.int .i64 x12.2.1,.slice A15 ((x12.2.2.1).length) c16,.int .i64 x12.2.2.2.1.1,.int .i64 x12.2.2.2.1.2.1,.string x12.2.2.2.1.2.2,.string x12.2.2.2.2.1,.int .i64 x12.2.2.2.2.2.1,.int .i64 x12.2.2.2.2.2.2]),(47,.int .i64 x27),(40,.agg #[.int .i64 x12.1,.int .i64 y24]),(46,.map (some b4_))] ?_
    obtain⟨x32,hv33,hF⟩:=A.lt_some hF
    refine A.okm (t:=(Z.Ty.int .i64)) 3 x27 (z:=(0:Int)) (zs:=[.int .i64 0]) ⟨rfl,by decide⟩ hv33 fun ho34=>?_
    refine A.AH.v A.pb [0,1,2,3,4,5,6676,6677,6678,7701] [0,1,2,3,4,5,6676,6677,6678,7701] 12 (A.mb 18 8191) rfl (fun a w hf hh=>A.r_lkf (t:=(Z.Ty.int .i64)) (ok:=false) (z:=(0:Int)) (zs:=[.int .i64 0]) 3 ky3 x27 Tryz.zeroValue3 ⟨rfl,by decide⟩ hv33 rfl hf hh) ?_
    refine A.AH.one 13 ?_
    obtain⟨r35,hv36,hF⟩:=A.bd_some hF
    refine A.AL.call 7702 [] (first:=[]) (cap:=[]) cf103 (graph_within_ok (x12.1,x12.2.1,x12.2.2.1,(x12.2.2.2.1.1,x12.2.2.2.1.2.1,x12.2.2.2.1.2.2),x12.2.2.2.2.1,x12.2.2.2.2.2.1,x12.2.2.2.2.2.2) x32 A15 c16 ho14.1 ho14.2.1 ho14.2.2.2.1.1 ho14.2.2.2.1.2.1 ho14.2.2.2.1.2.2 ho14.2.2.2.2.1 ho14.2.2.2.2.2.1 ho14.2.2.2.2.2.2 ho34 r35 hv36) (.s 6676 .nil) ?_
    rintro _ _ ⟨rfl,rfl,hr37,hr38,hr39,hr40,hr41,hr42,hr43,hr44⟩
    refine⟨by kernel_rfl,?_⟩
    refine A.AH.nx (A.mb 18 16383) [0,1,2,3,4,5,6676,6677,6678,7701] ?_
    refine A.hq A.pb [0,1,2,3,4,5,6676,6677,6678,7701] [0,1,2,3,4,5,6676,6677,6678,7701] [] [] (A.mb 18 32767) 3 [(14,.n)] [(50,.agg #[.int .i64 x12.1,.int .i64 y24,.int .i64 x12.1,.int .i64 2,.int .i64 r35.1,.int .i64 r35.2.1,.int .i64 r35.2.2.1,.int .i64 r35.2.2.2.1,.int .i64 r35.2.2.2.2.1,.int .i64 r35.2.2.2.2.2.1,.int .i64 r35.2.2.2.2.2.2.1,.int .i64 r35.2.2.2.2.2.2.2])] ?_
    refine A.AH.one 15 ?_
    refine A.AL.bsl 7742 (ty:=T53) (cs:=[.int .i64 x12.1,.int .i64 y24,.int .i64 x12.1,.int .i64 2,.int .i64 r35.1,.int .i64 r35.2.1,.int .i64 r35.2.2.1,.int .i64 r35.2.2.2.1,.int .i64 r35.2.2.2.2.1,.int .i64 r35.2.2.2.2.2.1,.int .i64 r35.2.2.2.2.2.2.1,.int .i64 r35.2.2.2.2.2.2.2]) [((x12.1,y24),(x12.1,2),(r35.1,r35.2.1,r35.2.2.1,r35.2.2.2.1,(r35.2.2.2.2.1,r35.2.2.2.2.2.1,r35.2.2.2.2.2.2.1,r35.2.2.2.2.2.2.2)))] ⟨⟨⟨⟨rfl,ho14.1⟩,⟨rfl,hy25⟩⟩,⟨⟨rfl,ho14.1⟩,⟨rfl,(A.hasl .i64 (2) rfl)⟩⟩,⟨⟨rfl,hr37⟩,⟨rfl,hr38⟩,⟨rfl,hr39⟩,⟨rfl,hr40⟩,⟨⟨rfl,hr41⟩,⟨rfl,hr42⟩,⟨rfl,hr43⟩,⟨rfl,hr44⟩⟩⟩⟩,rfl⟩ (fun g45=>?_) Tryz.zeroValue54 Tryz.sizeOf54
    refine A.AH.nx (A.mb 18 65535) [0,1,2,3,4,5,6676,6677,6678,7701] ?_
    refine A.AH.one 16 ?_
    obtain⟨hl48,hF⟩:=A.gd_some hF
    refine A.AL.app (k:=3600) [] (A.rowO (k:=7742) rfl) inf54 hl48 fun A46 c47=>?_
    refine A.AH.nx (A.mb 18 131071) [0,1,2,3,4,5,6676,6677,6678,7701] ?_
    refine A.hq A.pb [0,1,2,3,4,5,6676,6677,6678,7701] [0,1,2,3,4,5,3600,6676,6677,6678,7701,7742] [] [] (A.mb 18 262143) 0 [(17,.n)] [(5,.slice A46 ((xs23++[((x12.1,y24),(x12.1,2),(r35.1,r35.2.1,r35.2.2.1,r35.2.2.2.1,(r35.2.2.2.2.1,r35.2.2.2.2.2.1,r35.2.2.2.2.2.2.1,r35.2.2.2.2.2.2.2)))]).length) c47)] ?_
    refine A.AH.done ?_
    refine A.el 2 ?_
    obtain⟨hc49,hF⟩:=A.gd_some hF
    refine A.q [] [] [.n,.n] [Z.R64 (y24+1)] [(31,.int .i64 (y24+1))] hc49 ?_
    refine A.AL.done ?_
    exact A.j ⟨_,Nat.lt_succ_self _,⟨(xs23++[((x12.1,y24),(x12.1,2),(r35.1,r35.2.1,r35.2.2.1,r35.2.2.2.1,(r35.2.2.2.2.1,r35.2.2.2.2.2.1,r35.2.2.2.2.2.2.1,r35.2.2.2.2.2.2.2)))]),(y24+1),A46,c47,rfl,rfl,(Z.i64_has hc49),hF⟩⟩
   refine A.xx 2 ?_
   refine A.AX.join [0,3,5,7,8,16,17,18] [0,1,2,3,4,5,3600,6676,6677,6678] (fun nl nh=>∃(y50:Int),∃(y52:Int),∃(y54:Int),∃(y56:Int),∃(y58:Int),∃(y60:Int),∃(y62:Int),∃(y64:Int),∃(g66:Nat),nl=[(11,.pointer (some ⟨g66,0,none⟩))]∧nh=[(8073,.blk g66 45 [.int .i64 y50,.int .i64 y52,.int .i64 y54,.int .i64 y56,.int .i64 y58,.int .i64 y60,.int .i64 y62,.int .i64 y64])]∧IntKind.i64.has y50∧IntKind.i64.has y52∧IntKind.i64.has y54∧IntKind.i64.has y56∧IntKind.i64.has y58∧IntKind.i64.has y60∧IntKind.i64.has y62∧IntKind.i64.has y64∧F.graph_plan_edges_j3 (F.graph_plan_edges_l5 a0 a1 f7) a1 y5 x12 xs23 y50 y52 y54 y56 y58 y60 y62 y64=some r) ?_ ?_
   ·refine A.AX.dr mixed 14 14 (A.mb 14 0) ?_
    refine A.hq A.pb [] [0,1,2,3,4,5,3600,6676,6677,6678] [6677,0] [] (A.mb 14 63) 8 [(0,.n),(4,.n),(1,.n),(5,.b 0 0),(2,.n),(3,.b 1 2)] [(60,.int .i64 x12.1),(58,.map (some b4_))] ?_
    obtain⟨x88,hv89,hF⟩:=A.lt_some hF
    refine A.okm (t:=(Z.Ty.int .i64)) 3 x12.1 (z:=(0:Int)) (zs:=[.int .i64 0]) ⟨rfl,by decide⟩ hv89 fun ho90=>?_
    refine A.AH.v A.pb [0,1,2,3,4,5,3600,6676,6677,6678] [0,1,2,3,4,5,3600,6676,6677,6678] 6 (A.mb 14 127) rfl (fun a w hf hh=>A.r_lkf (t:=(Z.Ty.int .i64)) (ok:=false) (z:=(0:Int)) (zs:=[.int .i64 0]) 3 ky3 x12.1 Tryz.zeroValue3 ⟨rfl,by decide⟩ hv89 rfl hf hh) ?_
    refine A.AH.two 7 11 ?_ ?_
    ·obtain⟨r511,hv512,hF⟩:=A.bd_some hF
     refine A.AL.call 7953 [] (first:=[]) (cap:=[]) cf39 (summ_Id_ok x88 ho90 r511 hv512) .nil ?_
     rintro _ _ ⟨rfl,rfl,hr513,hr514,hr515,hr516,hr517,hr518,hr519,hr520,hr521⟩
     refine⟨by kernel_rfl,?_⟩
     refine A.AH.nx (A.mb 14 255) [0,1,2,3,4,5,3600,6676,6677,6678] ?_
     refine A.hq A.pb [0,1,2,3,4,5,3600,6676,6677,6678] [0,1,2,3,4,5,3600,6676,6677,6678] [] [] (A.mb 14 2047) 3 [(8,.n),(9,.n),(10,.n)] [(63,.agg #[.int .i64 r511.1.1,.int .i64 r511.1.2.1,.int .i64 r511.1.2.2.1,.int .i64 r511.1.2.2.2.1,.int .i64 r511.1.2.2.2.2.1,.int .i64 r511.1.2.2.2.2.2.1,.int .i64 r511.1.2.2.2.2.2.2.1,.int .i64 r511.1.2.2.2.2.2.2.2]),(64,.int .i64 r511.2)] ?_
     refine A.AH.one 11 ?_
     refine A.AL.alloc 8073 (cs:=[.int .i64 0,.int .i64 0,.int .i64 0,.int .i64 0,.int .i64 0,.int .i64 0,.int .i64 0,.int .i64 0]) Tryz.zeroValue45 fun g751=>?_
     refine A.AH.nx (A.mb 14 4095) [0,1,2,3,4,5,3600,6676,6677,6678] ?_
     refine A.AH.one 12 ?_
     refine A.sw 8073 [] [.int .i64 r511.1.1,.int .i64 r511.1.2.1,.int .i64 r511.1.2.2.1,.int .i64 r511.1.2.2.2.1,.int .i64 r511.1.2.2.2.2.1,.int .i64 r511.1.2.2.2.2.2.1,.int .i64 r511.1.2.2.2.2.2.2.1,.int .i64 r511.1.2.2.2.2.2.2.2] ?_
     refine A.AH.nx (A.mb 14 8191) [0,1,2,3,4,5,3600,6676,6677,6678] ?_
     refine A.hq A.pb [0,1,2,3,4,5,3600,6676,6677,6678] [0,1,2,3,4,5,3600,6676,6677,6678,8073] [] [] (A.mb 14 16383) 0 [(13,.n)] [] ?_
     refine A.AH.done ?_
     exact A.j ⟨r511.1.1,r511.1.2.1,r511.1.2.2.1,r511.1.2.2.2.1,r511.1.2.2.2.2.1,r511.1.2.2.2.2.2.1,r511.1.2.2.2.2.2.2.1,r511.1.2.2.2.2.2.2.2,g751,rfl,rfl,hr513,hr514,hr515,hr516,hr517,hr518,hr519,hr520,hF⟩
    refine A.AL.alloc 8073 (cs:=[.int .i64 0,.int .i64 0,.int .i64 0,.int .i64 0,.int .i64 0,.int .i64 0,.int .i64 0,.int .i64 0]) Tryz.zeroValue45 fun g751=>?_
    refine A.AH.nx (A.mb 14 2175) [0,1,2,3,4,5,3600,6676,6677,6678] ?_
    refine A.AH.one 7 ?_
    obtain⟨r511,hv512,hF⟩:=A.bd_some hF
    refine A.AL.call 7953 [] (first:=[]) (cap:=[]) cf39 (summ_Id_ok x88 ho90 r511 hv512) .nil ?_
    rintro _ _ ⟨rfl,rfl,hr513,hr514,hr515,hr516,hr517,hr518,hr519,hr520,hr521⟩
    refine⟨by kernel_rfl,?_⟩
    refine A.AH.nx (A.mb 14 2303) [0,1,2,3,4,5,3600,6676,6677,6678] ?_
    refine A.hq A.pb [0,1,2,3,4,5,3600,6676,6677,6678] [0,1,2,3,4,5,3600,6676,6677,6678] [] [] (A.mb 14 4095) 2 [(8,.n),(9,.n),(10,.n)] [(63,.agg #[.int .i64 r511.1.1,.int .i64 r511.1.2.1,.int .i64 r511.1.2.2.1,.int .i64 r511.1.2.2.2.1,.int .i64 r511.1.2.2.2.2.1,.int .i64 r511.1.2.2.2.2.2.1,.int .i64 r511.1.2.2.2.2.2.2.1,.int .i64 r511.1.2.2.2.2.2.2.2]),(64,.int .i64 r511.2)] ?_
    refine A.AH.one 12 ?_
    refine A.sw 8073 [] [.int .i64 r511.1.1,.int .i64 r511.1.2.1,.int .i64 r511.1.2.2.1,.int .i64 r511.1.2.2.2.1,.int .i64 r511.1.2.2.2.2.1,.int .i64 r511.1.2.2.2.2.2.1,.int .i64 r511.1.2.2.2.2.2.2.1,.int .i64 r511.1.2.2.2.2.2.2.2] ?_
    refine A.AH.nx (A.mb 14 8191) [0,1,2,3,4,5,3600,6676,6677,6678] ?_
    refine A.hq A.pb [0,1,2,3,4,5,3600,6676,6677,6678] [0,1,2,3,4,5,3600,6676,6677,6678,8073] [] [] (A.mb 14 16383) 0 [(13,.n)] [] ?_
    refine A.AH.done ?_
    exact A.j ⟨r511.1.1,r511.1.2.1,r511.1.2.2.1,r511.1.2.2.2.1,r511.1.2.2.2.2.1,r511.1.2.2.2.2.2.1,r511.1.2.2.2.2.2.2.1,r511.1.2.2.2.2.2.2.2,g751,rfl,rfl,hr513,hr514,hr515,hr516,hr517,hr518,hr519,hr520,hF⟩
   rintro _ _ ⟨y50,y52,y54,y56,y58,y60,y62,y64,g66,rfl,rfl,hy51,hy53,hy55,hy57,hy59,hy61,hy63,hy65,hF⟩
   rw[F.graph_plan_edges_j3]at hF
   refine A.xl 1 ?_
   refine A.q0 [5,6677] [] [.b 0 0,.n,.b 1 0] [(65,.agg #[.slice A5_ ((a1).length) c6_]),(67,.int .i64 x12.1)] ?_
   obtain⟨r67,hv68,hF⟩:=A.bd_some hF
   refine A.AL.call 8163 [] (first:=[]) (cap:=[]) cf104 (graph_users_ok a1 x12.1 A5_ c6_ ho14.1 r67 hv68) (.s 4 .nil) ?_
   rintro _ _ ⟨A69,c70,rfl,rfl⟩
   refine⟨by kernel_rfl,?_⟩
   refine A.q0 [] [] [.n,.n] [(69,.int .i64 ((r67).length:Int)),(70,.int .i64 0)] ?_
   refine A.dx 2 ?_
   refine A.lp_ [0,3,8,11,16,17,18,68,69] [0,1,2,3,4,5,6678,8073,8163] (fun f nl nh=>∃(xs73:List D53),∃(y74:Int),∃(A71:Option Addr),∃(c72:Nat),nl=[(5,.slice A71 ((xs73).length) c72),(70,.int .i64 y74)]∧nh=[(3600,.own T53 54 A71 c72 xs73)]∧IntKind.i64.has y74∧F.graph_plan_edges_l2 (F.graph_plan_edges_l5 a0 a1 f7) y5 x12 y50 y52 y54 y56 y58 y60 y62 y64 r67 f xs73 y74=some r) ⟨xs23,0,A21,c22,rfl,rfl,(A.hasl .i64 (0) rfl),hF⟩ ?_
   rintro f76 _ _ ⟨xs73,y74,A71,c72,rfl,rfl,hy75,hF⟩
   rcases f76 with _|f76
   ·exact A.no0 hF
   rw[F.graph_plan_edges_l2]at hF
   refine A.xl 1 ?_
   refine A.q0 [] [] [.n] [(71,.bool (decide (y74<((r67).length:Int))))] ?_
   refine A.dx 2 ?_
   refine A.AX.cnd rfl hF (fun hb hF=>?_) (fun hb hF=>?_)
   ·refine A.xl 5 ?_
    obtain⟨x77,hv78,hF⟩:=A.bd_some hF
    refine A.AL.ixo 8163 8209 hv78 fun ho79=>?_
    intro g80 hA81
    refine A.q0 [] [8209] [.e 0 0] [(73,.agg #[.int .i64 x77.1,.int .i64 x77.2])] ?_
    refine A.AL.alloc 8210 (cs:=[.int .i64 0,.int .i64 0]) Tryz.zeroValue40 fun g82=>?_
    refine A.sw 8210 [] [.int .i64 x77.1,.int .i64 x77.2] ?_
    refine A.dl 1 ?_
    refine A.q0 [6678,8210,8073] [] [.n,.b 0 0,.b 1 0,.b 2 0,.n] [(74,.slice A71 ((xs73).length) c72),(78,.agg #[.int .i64 x12.1,.int .i64 2,.int .i64 x77.1,.int .i64 x77.2,.int .i64 y50,.int .i64 y52,.int .i64 y54,.int .i64 y56,.int .i64 y58,.int .i64 y60,.int .i64 y62,.int .i64 y64])] ?_
    refine A.AL.bsl 8211 (ty:=T53) (cs:=[.int .i64 x12.1,.int .i64 2,.int .i64 x77.1,.int .i64 x77.2,.int .i64 y50,.int .i64 y52,.int .i64 y54,.int .i64 y56,.int .i64 y58,.int .i64 y60,.int .i64 y62,.int .i64 y64]) [((x12.1,2),(x77.1,x77.2),(y50,y52,y54,y56,(y58,y60,y62,y64)))] ⟨⟨⟨⟨rfl,ho14.1⟩,⟨rfl,(A.hasl .i64 (2) rfl)⟩⟩,⟨⟨rfl,ho79.1⟩,⟨rfl,ho79.2⟩⟩,⟨⟨rfl,hy51⟩,⟨rfl,hy53⟩,⟨rfl,hy55⟩,⟨rfl,hy57⟩,⟨⟨rfl,hy59⟩,⟨rfl,hy61⟩,⟨rfl,hy63⟩,⟨rfl,hy65⟩⟩⟩⟩,rfl⟩ (fun g83=>?_) Tryz.zeroValue54 Tryz.sizeOf54
    obtain⟨hl86,hF⟩:=A.gd_some hF
    refine A.AL.app (k:=3600) [] (A.rowO (k:=8211) rfl) inf54 hl86 fun A84 c85=>?_
    refine A.q0 [] [] [.n] [(5,.slice A84 ((xs73++[((x12.1,2),(x77.1,x77.2),(y50,y52,y54,y56,(y58,y60,y62,y64)))]).length) c85)] ?_
    refine A.dl 2 ?_
    obtain⟨hc87,hF⟩:=A.gd_some hF
    refine A.q [] [] [.n,.n] [Z.R64 (y74+1)] [(70,.int .i64 (y74+1))] hc87 ?_
    refine A.AL.done ?_
    exact A.j ⟨_,Nat.lt_succ_self _,⟨(xs73++[((x12.1,2),(x77.1,x77.2),(y50,y52,y54,y56,(y58,y60,y62,y64)))]),(y74+1),A84,c85,rfl,rfl,(Z.i64_has hc87),hF⟩⟩
   refine A.xe 2 ?_
   exact A.j ⟨xs73,A71,c72,rfl,rfl,hF⟩
  rintro _ _ ⟨xs10,A8,c9,rfl,rfl,hF⟩
  rw[F.graph_plan_edges_j1]at hF
  refine A.xl 0 ?_
  obtain⟨hc11,hF⟩:=A.gd_some hF
  refine A.q [] [] [.n,.n] [Z.R64 (y5+1)] [(18,.int .i64 (y5+1))] hc11 ?_
  refine A.AL.done ?_
  exact A.j ⟨_,Nat.lt_succ_self _,⟨xs10,(y5+1),A8,c9,rfl,rfl,(Z.i64_has hc11),hF⟩⟩
 refine A.xl 3 ?_
 refine A.q0 [] [] [.n,.n] [(4,.slice A2 ((xs4).length) c3)] ?_
 refine A.dx 1 ?_
 obtain rfl:=Option.some.inj hF
 exact A.rt1 [(0,3600),(1,0),(2,1),(3,2),(4,3)] ⟨A2,c3,rfl,rfl⟩
end Go.Proofs.YtlbnpmfggfbdoaaGreatDoor
end
section
set_option linter.unusedVariables false
set_option linter.unusedSimpArgs false
set_option maxRecDepth 20000
set_option maxHeartbeats 8000000
set_option synthInstance.maxSize 1000000
set_option synthInstance.maxHeartbeats 400000
namespace Go.Proofs.YtlbnpmfggfbdoaaGreatDoor
open Go.RowKit
def F.graph_plan_reaches_j1 (k4:(List (D39×Bool))→(List D39)→Int→Option Bool)(y49:Int)(m53:List (D39×Bool))(xs56:List D39):Option Bool:=A.gd (Z.R64 (y49+1)) (k4 m53 xs56 (y49+1))
def F.graph_plan_reaches_j2 (k4:(List (D39×Bool))→(List D39)→Int→Option Bool)(m45:List (D39×Bool))(xs48:List D39)(y49:Int)(x58:D39)(y64:Bool):Option Bool:=if y64=true then(A.gd ((List.length (α:=D39) xs48+List.length (α:=D39) [(x58.1,x58.2)])*16≤140737488355328) (F.graph_plan_reaches_j1 k4 y49 (Z.mins m45 (x58.1,x58.2) true) (xs48++[(x58.1,x58.2)])))else(F.graph_plan_reaches_j1 k4 y49 m45 xs48)
def F.graph_plan_reaches_l3 (k3:(List (D39×Bool))→(List D39)→Option Bool)(a2:(List (D39×Int)))(a3:D39)(a4:Int)(x40:(List D39)):Nat→(List (D39×Bool))→(List D39)→Int→Option Bool
 |0,_,_,_=>none
 |f+1,m45,xs48,y49=>if y49<((x40).length:Int)then((A.ix x40 y49).bind fun x58=>(if(x58.1,x58.2)=(a3.1,a3.2)then(some true)else(A.lt (Z.mget (0:Int) a2 (x58.1,x58.2)) fun x69=>(if a4≤x69 then(A.lt (Z.mget (false:Bool) m45 (x58.1,x58.2)) fun x72=>(F.graph_plan_reaches_j2 (F.graph_plan_reaches_l3 k3 a2 a3 a4 x40 f) m45 xs48 y49 x58 (!x72)))else(F.graph_plan_reaches_j2 (F.graph_plan_reaches_l3 k3 a2 a3 a4 x40 f) m45 xs48 y49 x58 false)))))else(k3 m45 xs48)
def F.graph_plan_reaches_j4 (k3:(List (D39×Bool))→(List D39)→Option Bool)(a1:(List (D39×(List D39))))(a2:(List (D39×Int)))(a3:D39)(a4:Int)(m4:List (D39×Bool))(xs7:List D39)(x10:D39)(xs22:List Int)(y23:Int)(y25:Int)(y27:Int)(y29:Int)(y31:ByteArray)(y33:ByteArray)(y35:Int)(y37:Int):Option Bool:=if(bif decide (y25=14)then decide (y37=a4)else false)=true then(k3 m4 (List.take ((((xs7).length:Int)-1).toNat) xs7))else(A.lt (Z.mget ([]:(List D39)) a1 (x10.1,x10.2)) fun x40=>(F.graph_plan_reaches_l3 k3 a2 a3 a4 x40 A.FU m4 (List.take ((((xs7).length:Int)-1).toNat) xs7) 0))
def F.graph_plan_reaches_l5 (a0:((List (Int×D83))×(List Int)×(List (Int×Int))))(a1:(List (D39×(List D39))))(a2:(List (D39×Int)))(a3:D39)(a4:Int):Nat→(List (D39×Bool))→(List D39)→Option Bool
 |0,_,_=>none
 |f+1,m4,xs7=>if(0:Int)<((xs7).length:Int)then(A.gd (Z.R64 (((xs7).length:Int)-1)) ((A.ix xs7 (((xs7).length:Int)-1)).bind fun x10=>(A.gd (Z.R64 (((xs7).length:Int)-1)) (A.gd (0≤((xs7).length:Int)-1∧(((xs7).length:Int)-1).toNat≤(xs7).length) (A.lt (Z.mget ((0,0,[],(0,0,(ByteArray.mk #[])),(ByteArray.mk #[]),0,0):D83) a0.1 x10.1) fun x435=>(F.graph_plan_reaches_j4 (F.graph_plan_reaches_l5 a0 a1 a2 a3 a4 f) a1 a2 a3 a4 m4 xs7 x10 x435.2.2.1 x435.1 x435.2.1 x435.2.2.2.1.1 x435.2.2.2.1.2.1 x435.2.2.2.1.2.2 x435.2.2.2.2.1 x435.2.2.2.2.2.1 x435.2.2.2.2.2.2))))))else(some false)
def F.graph_plan_reaches (a0:((List (Int×D83))×(List Int)×(List (Int×Int))))(a1:(List (D39×(List D39))))(a2:(List (D39×Int)))(a3:D39)(a4:Int):Option Bool:=F.graph_plan_reaches_l5 a0 a1 a2 a3 a4 A.FU [] [(a3.1,a3.2)]
theorem graph_plan_reaches_ok (a0:((List (Int×D83))×(List Int)×(List (Int×Int))))(a1:(List (D39×(List D39))))(a2:(List (D39×Int)))(a3:D39)(a4:Int)(g0_:Nat)(b1_:Nat)(A2_:Option Addr)(c3_:Nat)(b4_:Nat)(b5_:Nat)(b6_:Nat)(h7_:IntKind.i64.has a3.1)(h8_:IntKind.i64.has a3.2)(h9_:IntKind.i64.has a4)(r:Bool)(hF:F.graph_plan_reaches a0 a1 a2 a3 a4=some r):
    A.Ct Tryz.prog 141 [.pointer (some ⟨g0_,0,none⟩),.map (some b5_),.map (some b6_),.agg #[.int .i64 a3.1,.int .i64 a3.2],.int .i64 a4] [(0,.blk g0_ 149 [.map (some b1_),.slice A2_ ((a0.2.1).length) c3_,.map (some b4_)]),(1,.mp Int (fun i:Int=>.int .i64 i) T83 true b1_ a0.1),(2,.own (Z.Ty.int .i64) 3 A2_ c3_ a0.2.1),(3,.mp Int (fun i:Int=>.int .i64 i) (Z.Ty.int .i64) false b4_ a0.2.2),(4,.lmp D39 (fun x:D39=>.agg #[.int .i64 x.1,.int .i64 x.2]) (Z.Ty.slice T39) false b5_ a1),(5,.lmp D39 (fun x:D39=>.agg #[.int .i64 x.1,.int .i64 x.2]) (Z.Ty.int .i64) false b6_ a2)] ([g0_]++([b1_]++(Z.obl A2_++([b4_]++[])))) (fun v H'=>v=.bool r∧H'=[(0,.blk g0_ 149 [.map (some b1_),.slice A2_ ((a0.2.1).length) c3_,.map (some b4_)]),(1,.mp Int (fun i:Int=>.int .i64 i) T83 true b1_ a0.1),(2,.own (Z.Ty.int .i64) 3 A2_ c3_ a0.2.1),(3,.mp Int (fun i:Int=>.int .i64 i) (Z.Ty.int .i64) false b4_ a0.2.2)]):=by
 refine A.Ct.enter Tryz.func141 rfl Tryz.ntmps141 rfl fun w0 F0=>?_
 rw[F.graph_plan_reaches]at hF
 refine A.xl 1 ?_
 refine A.AL.box 6 (cs:=[.int .i64 a3.1,.int .i64 a3.2]) fun g1=>?_
 refine A.q0 [] [] [.n] [] ?_
 refine A.dl 2 ?_
 refine A.AL.mkm 7 D39 (fun x:D39=>.agg #[.int .i64 x.1,.int .i64 x.2]) Z.Ty.bool false fun b2=>?_
 refine A.q0 [] [] [.n] [(11,.map (some b2))] ?_
 refine A.dl 2 ?_
 refine A.q0 [6] [] [.b 0 0] [(18,.agg #[.int .i64 a3.1,.int .i64 a3.2])] ?_
 refine A.AL.bsl 8 (ty:=T39) (cs:=[.int .i64 a3.1,.int .i64 a3.2]) [(a3.1,a3.2)] ⟨⟨⟨rfl,h7_⟩,⟨rfl,h8_⟩⟩,rfl⟩ (fun g3=>?_) Tryz.zeroValue40 Tryz.sizeOf40
 refine A.q0 [] [] [.n] [(12,.slice (some ⟨g3,0,none⟩) 1 1)] ?_
 refine A.dx 3 ?_
 refine A.lp_ [0,1,2,4,8,11] [0,1,2,3,4,5,6] (fun f nl nh=>∃(m4:List (D39×Bool)),∃(xs7:List D39),∃(A5:Option Addr),∃(c6:Nat),nl=[(12,.slice A5 ((xs7).length) c6)]∧nh=[(7,.mp D39 (fun x:D39=>.agg #[.int .i64 x.1,.int .i64 x.2]) Z.Ty.bool false b2 m4),(8,.own T39 40 A5 c6 xs7)]∧F.graph_plan_reaches_l5 a0 a1 a2 a3 a4 f m4 xs7=some r) ⟨[],[(a3.1,a3.2)],(some ⟨g3,0,none⟩),1,rfl,rfl,hF⟩ ?_
 rintro f8 _ _ ⟨m4,xs7,A5,c6,rfl,rfl,hF⟩
 rcases f8 with _|f8
 ·exact A.no0 hF
 rw[F.graph_plan_reaches_l5]at hF
 refine A.xl 2 ?_
 refine A.q0 [] [] [.n,.n,.n] [(22,.bool (decide ((0:Int)<((xs7).length:Int))))] ?_
 refine A.dx 1 ?_
 refine A.AX.cnd rfl hF (fun hb hF=>?_) (fun hb hF=>?_)
 ·refine A.xl 4 ?_
  obtain⟨hc9,hF⟩:=A.gd_some hF
  refine A.q [] [] [.n,.n,.n,.n] [Z.R64 (((xs7).length:Int)-1)] [(23,.slice A5 ((xs7).length) c6),(26,.int .i64 (((xs7).length:Int)-1))] hc9 ?_
  obtain⟨x10,hv11,hF⟩:=A.bd_some hF
  refine A.AL.ixo 8 587 hv11 fun ho12=>?_
  intro g13 hA14
  refine A.q0 [] [587] [.e 0 0] [(28,.agg #[.int .i64 x10.1,.int .i64 x10.2])] ?_
  refine A.AL.alloc 588 (cs:=[.int .i64 0,.int .i64 0]) Tryz.zeroValue40 fun g15=>?_
  refine A.sw 588 [] [.int .i64 x10.1,.int .i64 x10.2] ?_
  refine A.dl 2 ?_
  obtain⟨hc16,hF⟩:=A.gd_some hF
  refine A.q [] [] [.n,.n,.n,.n] [Z.R64 (((xs7).length:Int)-1)] [(29,.slice A5 ((xs7).length) c6),(32,.int .i64 (((xs7).length:Int)-1))] hc16 ?_
  obtain⟨hc17,hF⟩:=A.gd_some hF
  refine A.AL.cuto 8 [587] (v:=(((xs7).length:Int)-1).toNat) (Int.toNat_of_nonneg hc17.1).symm hc17.2 ?_
  refine A.q0 [] [] [.n] [(12,.slice A5 ((List.take ((((xs7).length:Int)-1).toNat) xs7).length) c6)] ?_
  refine A.dx 2 ?_
  refine A.AX.join [0,1,2,4,8,11,12,13] [0,1,2,3,4,5,6,7,8,588] (fun nl nh=>∃(xs22:List Int),∃(y23:Int),∃(y25:Int),∃(y27:Int),∃(y29:Int),∃(y31:ByteArray),∃(y33:ByteArray),∃(y35:Int),∃(y37:Int),∃(A20:Option Addr),∃(c21:Nat),∃(g39:Nat),nl=[(14,.pointer (some ⟨g39,0,none⟩))]∧nh=[(770,.sh (.slice (Z.Ty.int .i64)) [.slice A20 (xs22).length c21] xs22),(800,.blk g39 84 [.int .i64 y23,.int .i64 y25,.slice A20 ((xs22).length) c21,.int .i64 y27,.int .i64 y29,.string y31,.string y33,.int .i64 y35,.int .i64 y37])]∧IntKind.i64.has y23∧IntKind.i64.has y25∧IntKind.i64.has y27∧IntKind.i64.has y29∧y31.size≤maxLen∧y33.size≤maxLen∧IntKind.i64.has y35∧IntKind.i64.has y37∧F.graph_plan_reaches_j4 (F.graph_plan_reaches_l5 a0 a1 a2 a3 a4 f8) a1 a2 a3 a4 m4 xs7 x10 xs22 y23 y25 y27 y29 y31 y33 y35 y37=some r) ?_ ?_
  ·refine A.AX.dr mixed 8 9 (A.mb 9 0) ?_
   refine A.hq A.pb [] [0,1,2,3,4,5,6,7,8,588] [588,0] [] (A.mb 9 63) 3 [(0,.n),(4,.n),(1,.n),(5,.b 0 0),(2,.n),(3,.b 1 0)] [(39,.int .i64 x10.1),(37,.map (some b1_))] ?_
   refine A.AH.two 6 7 ?_ ?_
   ·obtain⟨x435,hv436,hF⟩:=A.lt_some hF
    refine A.AL.lku (t:=T83) 1 770 (z:=((0,0,[],(0,0,(ByteArray.mk #[])),(ByteArray.mk #[]),0,0):D83)) (zs:=[.int .i64 0,.int .i64 0,.slice none 0 0,.int .i64 0,.int .i64 0,.string (ByteArray.mk #[]),.string (ByteArray.mk #[]),.int .i64 0,.int .i64 0]) ky3 x10.1 Tryz.zeroValue84 ⟨⟨rfl,by decide⟩,⟨rfl,by decide⟩,(.inr ⟨rfl,rfl⟩),⟨⟨rfl,by decide⟩,⟨rfl,by decide⟩,⟨rfl,by decide⟩⟩,⟨rfl,by decide⟩,⟨rfl,by decide⟩,⟨rfl,by decide⟩⟩ hv436 fun ho437=>?_
    intro A438 c439
    refine A.AH.nx (A.mb 9 127) [0,1,2,3,4,5,6,7,8,588] ?_
    refine A.AH.one 7 ?_
    refine A.AL.alloc 800 (cs:=[.int .i64 0,.int .i64 0,.slice none 0 0,.int .i64 0,.int .i64 0,.string (ByteArray.mk #[]),.string (ByteArray.mk #[]),.int .i64 0,.int .i64 0]) Tryz.zeroValue84 fun g495=>?_
    refine A.AH.nx (A.mb 9 255) [0,1,2,3,4,5,6,7,8,588] ?_
    refine A.AH.one 8 ?_
    refine A.sw 800 [] [.int .i64 x435.1,.int .i64 x435.2.1,.slice A438 ((x435.2.2.1).length) c439,.int .i64 x435.2.2.2.1.1,.int .i64 x435.2.2.2.1.2.1,.string x435.2.2.2.1.2.2,.string x435.2.2.2.2.1,.int .i64 x435.2.2.2.2.2.1,.int .i64 x435.2.2.2.2.2.2] ?_
    refine A.AH.nm (A.mb 9 511) ?_
    refine A.AH.done ?_
    exact A.j ⟨x435.2.2.1,x435.1,x435.2.1,x435.2.2.2.1.1,x435.2.2.2.1.2.1,x435.2.2.2.1.2.2,x435.2.2.2.2.1,x435.2.2.2.2.2.1,x435.2.2.2.2.2.2,A438,c439,g495,rfl,rfl,ho437.1,ho437.2.1,ho437.2.2.2.1.1,ho437.2.2.2.1.2.1,ho437.2.2.2.1.2.2,ho437.2.2.2.2.1,ho437.2.2.2.2.2.1,ho437.2.2.2.2.2.2,hF⟩
   refine A.AL.alloc 800 (cs:=[.int .i64 0,.int .i64 0,.slice none 0 0,.int .i64 0,.int .i64 0,.string (ByteArray.mk #[]),.string (ByteArray.mk #[]),.int .i64 0,.int .i64 0]) Tryz.zeroValue84 fun g495=>?_
   refine A.AH.nx (A.mb 9 191) [0,1,2,3,4,5,6,7,8,588] ?_
   refine A.AH.one 6 ?_
   obtain⟨x435,hv436,hF⟩:=A.lt_some hF
   refine A.AL.lku (t:=T83) 1 770 (z:=((0,0,[],(0,0,(ByteArray.mk #[])),(ByteArray.mk #[]),0,0):D83)) (zs:=[.int .i64 0,.int .i64 0,.slice none 0 0,.int .i64 0,.int .i64 0,.string (ByteArray.mk #[]),.string (ByteArray.mk #[]),.int .i64 0,.int .i64 0]) ky3 x10.1 Tryz.zeroValue84 ⟨⟨rfl,by decide⟩,⟨rfl,by decide⟩,(.inr ⟨rfl,rfl⟩),⟨⟨rfl,by decide⟩,⟨rfl,by decide⟩,⟨rfl,by decide⟩⟩,⟨rfl,by decide⟩,⟨rfl,by decide⟩,⟨rfl,by decide⟩⟩ hv436 fun ho437=>?_
   intro A438 c439
   refine A.AH.nx (A.mb 9 255) [0,1,2,3,4,5,6,7,8,588] ?_
   refine A.AH.one 8 ?_
   refine A.sw 800 [] [.int .i64 x435.1,.int .i64 x435.2.1,.slice A438 ((x435.2.2.1).length) c439,.int .i64 x435.2.2.2.1.1,.int .i64 x435.2.2.2.1.2.1,.string x435.2.2.2.1.2.2,.string x435.2.2.2.2.1,.int .i64 x435.2.2.2.2.2.1,.int .i64 x435.2.2.2.2.2.2] ?_
   refine A.AH.nm (A.mb 9 511) ?_
   refine A.AH.done ?_
   exact A.j ⟨x435.2.2.1,x435.1,x435.2.1,x435.2.2.2.1.1,x435.2.2.2.1.2.1,x435.2.2.2.1.2.2,x435.2.2.2.2.1,x435.2.2.2.2.2.1,x435.2.2.2.2.2.2,A438,c439,g495,rfl,rfl,ho437.1,ho437.2.1,ho437.2.2.2.1.1,ho437.2.2.2.1.2.1,ho437.2.2.2.1.2.2,ho437.2.2.2.2.1,ho437.2.2.2.2.2.1,ho437.2.2.2.2.2.2,hF⟩
  rintro _ _ ⟨xs22,y23,y25,y27,y29,y31,y33,y35,y37,A20,c21,g39,rfl,rfl,hy24,hy26,hy28,hy30,hy32,hy34,hy36,hy38,hF⟩
  rw[F.graph_plan_reaches_j4]at hF
  refine A.xl 1 ?_
  refine A.q0 [800] [] [.n,.b 0 1,.n,.n,.sy .n,.sy (.b 0 8),.sy .n,.sy .n,.pk] [(49,.bool (bif decide (y25=14)then decide (y37=a4)else false))] ?_
  refine A.dx 1 ?_
  refine A.AX.cnb rfl hF (fun hb hF=>?_) (fun hb hF=>?_)
  ·refine A.xe 1 ?_
   exact A.j ⟨_,Nat.lt_succ_self _,⟨m4,(List.take ((((xs7).length:Int)-1).toNat) xs7),A5,c6,rfl,rfl,hF⟩⟩
  refine A.xl 3 ?_
  refine A.q0 [588] [] [.n,.b 0 0] [(50,.map (some b5_)),(51,.agg #[.int .i64 x10.1,.int .i64 x10.2])] ?_
  obtain⟨x40,hv41,hF⟩:=A.lt_some hF
  refine A.AL.lku (t:=(Z.Ty.slice T39)) 4 860 (z:=([]:(List D39))) (zs:=[.slice none 0 0]) ky40 (x10.1,x10.2) Tryz.zeroValue72 (.inr ⟨rfl,rfl⟩) hv41 fun ho42=>?_
  intro A43 c44
  refine A.q0 [] [] [.n,.n] [(53,.int .i64 ((x40).length:Int)),(54,.int .i64 0)] ?_
  refine A.dx 2 ?_
  refine A.lp_ [0,1,2,4,8,11,52,53] [0,1,2,3,4,5,6,860] (fun f nl nh=>∃(m45:List (D39×Bool)),∃(xs48:List D39),∃(y49:Int),∃(A46:Option Addr),∃(c47:Nat),nl=[(12,.slice A46 ((xs48).length) c47),(54,.int .i64 y49)]∧nh=[(7,.mp D39 (fun x:D39=>.agg #[.int .i64 x.1,.int .i64 x.2]) Z.Ty.bool false b2 m45),(8,.own T39 40 A46 c47 xs48)]∧IntKind.i64.has y49∧F.graph_plan_reaches_l3 (F.graph_plan_reaches_l5 a0 a1 a2 a3 a4 f8) a2 a3 a4 x40 f m45 xs48 y49=some r) ⟨m4,(List.take ((((xs7).length:Int)-1).toNat) xs7),0,A5,c6,rfl,rfl,(A.hasl .i64 (0) rfl),hF⟩ ?_
  rintro f51 _ _ ⟨m45,xs48,y49,A46,c47,rfl,rfl,hy50,hF⟩
  rcases f51 with _|f51
  ·exact A.no0 hF
  rw[F.graph_plan_reaches_l3]at hF
  refine A.xl 1 ?_
  refine A.q0 [] [] [.n] [(55,.bool (decide (y49<((x40).length:Int))))] ?_
  refine A.dx 2 ?_
  refine A.AX.cnd rfl hF (fun hb hF=>?_) (fun hb hF=>?_)
  ·refine A.xx 2 ?_
   refine A.AX.join [0,1,2,4,8,11,52,53,54] [0,1,2,3,4,5,6,860] (fun nl nh=>∃(m53:List (D39×Bool)),∃(xs56:List D39),∃(A54:Option Addr),∃(c55:Nat),nl=[(12,.slice A54 ((xs56).length) c55)]∧nh=[(7,.mp D39 (fun x:D39=>.agg #[.int .i64 x.1,.int .i64 x.2]) Z.Ty.bool false b2 m53),(8,.own T39 40 A54 c55 xs56)]∧F.graph_plan_reaches_j1 (F.graph_plan_reaches_l3 (F.graph_plan_reaches_l5 a0 a1 a2 a3 a4 f8) a2 a3 a4 x40 f51) y49 m53 xs56=some r) ?_ ?_
   ·refine A.xl 2 ?_
    obtain⟨x58,hv59,hF⟩:=A.bd_some hF
    refine A.AL.ixs 860 871 hv59 fun ho60=>?_
    intro b61 o62
    refine A.q0 [] [871] [.e 0 0] [(57,.agg #[.int .i64 x58.1,.int .i64 x58.2])] ?_
    refine A.AL.alloc 872 (cs:=[.int .i64 0,.int .i64 0]) Tryz.zeroValue40 fun g63=>?_
    refine A.sw 872 [] [.int .i64 x58.1,.int .i64 x58.2] ?_
    refine A.dl 3 ?_
    refine A.q0 [872,6] [] [.b 0 0,.b 1 0] [(58,.agg #[.int .i64 x58.1,.int .i64 x58.2]),(59,.agg #[.int .i64 a3.1,.int .i64 a3.2])] ?_
    refine A.AL.val rfl (fun a w hf hh=>eqagg_eql40 (x:=(x58.1,x58.2)) (y:=(a3.1,a3.2)) (hf.eval rfl) (hf.eval rfl)) ?_
    refine A.dx 1 ?_
    refine A.AX.cnd rfl hF (fun hb hF=>?_) (fun hb hF=>?_)
    ·refine A.xl 1 ?_
     refine A.q0 [] [] [.n] [(10,.bool true)] ?_
     refine A.dx 1 ?_
     obtain rfl:=Option.some.inj hF
     exact A.rt1 [(0,0),(1,1),(2,2),(3,3)] ⟨rfl,rfl⟩
    refine A.xx 2 ?_
    refine A.AX.join [0,1,2,4,8,11,12,16,52,53,54] [0,1,2,3,4,5,6,7,8,860,872] (fun nl nh=>∃(y64:Bool),nl=[(71,.bool y64)]∧nh=[]∧F.graph_plan_reaches_j2 (F.graph_plan_reaches_l3 (F.graph_plan_reaches_l5 a0 a1 a2 a3 a4 f8) a2 a3 a4 x40 f51) m45 xs48 y49 x58 y64=some r) ?_ ?_
    ·refine A.xl 0 ?_
     refine A.q0 [872] [] [.n,.b 0 0] [(61,.map (some b6_)),(62,.agg #[.int .i64 x58.1,.int .i64 x58.2])] ?_
     obtain⟨x69,hv70,hF⟩:=A.lt_some hF
     refine A.AL.lku (t:=(Z.Ty.int .i64)) 5 873 (z:=(0:Int)) (zs:=[.int .i64 0]) ky40 (x58.1,x58.2) Tryz.zeroValue3 ⟨rfl,by decide⟩ hv70 fun ho71=>?_
     refine A.q0 [] [] [.n,.n,.n] [(66,.bool (decide (a4≤x69)))] ?_
     refine A.AL.cnp (j:=66) rfl hF (fun hb hF=>?_) (fun hb hF=>?_)
     ·refine A.q0 [872] [] [.on .n,.on (.b 0 0)] [(67,.map (some b2)),(68,.agg #[.int .i64 x58.1,.int .i64 x58.2])] ?_
      refine A.AL.on (dj:=66) rfl rfl ?_
      obtain⟨x72,hv73,hF⟩:=A.lt_some hF
      refine A.AL.lku (t:=Z.Ty.bool) 7 874 (z:=(false:Bool)) (zs:=[.bool false]) ky40 (x58.1,x58.2) Tryz.zeroValue4 rfl hv73 fun ho74=>?_
      refine A.q0 [] [] [.on .n,.n] [(71,.bool (!x72))] ?_
      refine A.AL.done ?_
      exact A.j ⟨(!x72),rfl,rfl,hF⟩
     refine A.q0 [] [] [.off,.off,.off,.off,.n] [(71,.bool false)] ?_
     refine A.AL.done ?_
     exact A.j ⟨false,rfl,rfl,hF⟩
    rintro _ _ ⟨y64,rfl,rfl,hF⟩
    rw[F.graph_plan_reaches_j2]at hF
    refine A.AX.cnb rfl hF (fun hb hF=>?_) (fun hb hF=>?_)
    ·refine A.xl 1 ?_
     refine A.q0 [872] [] [.n,.b 0 0] [(72,.map (some b2)),(73,.agg #[.int .i64 x58.1,.int .i64 x58.2])] ?_
     refine A.AL.mup (t:=Z.Ty.bool) 7 [] (cs:=[.bool true]) (u:=true) ky40 (x58.1,x58.2) rfl ?_
     refine A.dl 1 ?_
     refine A.q0 [872] [] [.n,.b 0 0] [(74,.slice A46 ((xs48).length) c47),(75,.agg #[.int .i64 x58.1,.int .i64 x58.2])] ?_
     refine A.AL.bsl 875 (ty:=T39) (cs:=[.int .i64 x58.1,.int .i64 x58.2]) [(x58.1,x58.2)] ⟨⟨⟨rfl,ho60.1⟩,⟨rfl,ho60.2⟩⟩,rfl⟩ (fun g65=>?_) Tryz.zeroValue40 Tryz.sizeOf40
     obtain⟨hl68,hF⟩:=A.gd_some hF
     refine A.AL.app (k:=8) [] (A.rowO (k:=875) rfl) inf40 hl68 fun A66 c67=>?_
     refine A.q0 [] [] [.n] [(12,.slice A66 ((xs48++[(x58.1,x58.2)]).length) c67)] ?_
     refine A.de 1 ?_
     exact A.j ⟨(Z.mins m45 (x58.1,x58.2) true),(xs48++[(x58.1,x58.2)]),A66,c67,rfl,rfl,hF⟩
    refine A.xe 2 ?_
    exact A.j ⟨m45,xs48,A46,c47,rfl,rfl,hF⟩
   rintro _ _ ⟨m53,xs56,A54,c55,rfl,rfl,hF⟩
   rw[F.graph_plan_reaches_j1]at hF
   refine A.xl 0 ?_
   obtain⟨hc57,hF⟩:=A.gd_some hF
   refine A.q [] [] [.n,.n] [Z.R64 (y49+1)] [(54,.int .i64 (y49+1))] hc57 ?_
   refine A.AL.done ?_
   exact A.j ⟨_,Nat.lt_succ_self _,⟨m53,xs56,(y49+1),A54,c55,rfl,rfl,(Z.i64_has hc57),hF⟩⟩
  refine A.xe 2 ?_
  exact A.j ⟨_,Nat.lt_succ_self _,⟨m45,xs48,A46,c47,rfl,rfl,hF⟩⟩
 refine A.xl 3 ?_
 refine A.q0 [] [] [.n] [(10,.bool false)] ?_
 refine A.dx 1 ?_
 obtain rfl:=Option.some.inj hF
 exact A.rt1 [(0,0),(1,1),(2,2),(3,3)] ⟨rfl,rfl⟩
end Go.Proofs.YtlbnpmfggfbdoaaGreatDoor
end
section
set_option linter.unusedVariables false
set_option linter.unusedSimpArgs false
set_option maxRecDepth 20000
set_option maxHeartbeats 8000000
set_option synthInstance.maxSize 1000000
set_option synthInstance.maxHeartbeats 400000
namespace Go.Proofs.YtlbnpmfggfbdoaaGreatDoor
open Go.RowKit
def F.graph_plan_turns_b1 (a0:((List (Int×D83))×(List Int)×(List (Int×Int))))(m7:List (D39×Int))(m24:List (D39×(List D39)))(p46:D39×Int):Option (Option Bool):=A.gd (decide (IntKind.i64.has p46.1.1)=true∧decide (IntKind.i64.has p46.1.2)=true) ((F.graph_plan_reaches (a0.1,a0.2.1,a0.2.2) m24 m7 (p46.1.1,p46.1.2) p46.2).bind fun r53=>(if r53=true then(some (some true))else(some none)))
def F.graph_plan_turns_l2 (a0:((List (Int×D83))×(List Int)×(List (Int×Int))))(m7:List (D39×Int))(r19:(List D53)):Nat→(List (D39×(List D39)))→Int→Option Bool
 |0,_,_=>none
 |f+1,m24,y25=>if y25<((r19).length:Int)then((A.ix r19 y25).bind fun x28=>(A.gd (((Z.mget ([]:List D39) m24 (x28.1.1,x28.1.2)).length+List.length (α:=D39) [(x28.2.1.1,x28.2.1.2)])*16≤140737488355328) (A.gd (Z.R64 (y25+1)) ((F.graph_plan_turns_l2 a0 m7 r19 f) (Z.mins m24 (x28.1.1,x28.1.2) (Z.mget ([]:List D39) m24 (x28.1.1,x28.1.2)++[(x28.2.1.1,x28.2.1.2)])) (y25+1)))))else(A.mrg (F.graph_plan_turns_b1 a0 m7 m24) (some false) m7)
def F.graph_plan_turns_l3 (a0:((List (Int×D83))×(List Int)×(List (Int×Int))))(a1:D23)(r3:(List D41)):Nat→(List (D39×Int))→Int→Option Bool
 |0,_,_=>none
 |f+1,m7,y8=>if y8<((r3).length:Int)then((A.ix r3 y8).bind fun x11=>(A.gd (Z.R64 (y8+1)) ((F.graph_plan_turns_l3 a0 a1 r3 f) (Z.mins m7 (x11.1.1,x11.1.2) x11.2) (y8+1))))else((F.graph_plan_edges (a0.1,a0.2.1,a0.2.2) a1).bind fun r19=>(F.graph_plan_turns_l2 a0 m7 r19 A.FU [] 0))
def F.graph_plan_turns (a0:((List (Int×D83))×(List Int)×(List (Int×Int))))(a1:D23):Option Bool:=(F.graph_plan_spots (a0.1,a0.2.1,a0.2.2) a1).bind fun r3=>(F.graph_plan_turns_l3 a0 a1 r3 A.FU [] 0)
theorem graph_plan_turns_ok (a0:((List (Int×D83))×(List Int)×(List (Int×Int))))(a1:D23)(g0_:Nat)(b1_:Nat)(A2_:Option Addr)(c3_:Nat)(b4_:Nat)(A5_:Option Addr)(c6_:Nat)(r:Bool)(hF:F.graph_plan_turns a0 a1=some r):
    A.Ct Tryz.prog 102 [.pointer (some ⟨g0_,0,none⟩),.agg #[.slice A5_ ((a1).length) c6_]] [(0,.blk g0_ 149 [.map (some b1_),.slice A2_ ((a0.2.1).length) c3_,.map (some b4_)]),(1,.mp Int (fun i:Int=>.int .i64 i) T83 true b1_ a0.1),(2,.own (Z.Ty.int .i64) 3 A2_ c3_ a0.2.1),(3,.mp Int (fun i:Int=>.int .i64 i) (Z.Ty.int .i64) false b4_ a0.2.2),(4,.sh (.slice T83) [.slice A5_ (a1).length c6_] a1)] ([g0_]++([b1_]++(Z.obl A2_++([b4_]++[])))) (fun v H'=>v=.bool r∧H'=[(0,.blk g0_ 149 [.map (some b1_),.slice A2_ ((a0.2.1).length) c3_,.map (some b4_)]),(1,.mp Int (fun i:Int=>.int .i64 i) T83 true b1_ a0.1),(2,.own (Z.Ty.int .i64) 3 A2_ c3_ a0.2.1),(3,.mp Int (fun i:Int=>.int .i64 i) (Z.Ty.int .i64) false b4_ a0.2.2)]):=by
 refine A.Ct.enter Tryz.func102 rfl Tryz.ntmps102 rfl fun w0 F0=>?_
 rw[F.graph_plan_turns]at hF
 refine A.xl 1 ?_
 refine A.AL.box 5 (cs:=[.slice A5_ ((a1).length) c6_]) fun g1=>?_
 refine A.q0 [] [] [.n] [] ?_
 refine A.dl 2 ?_
 refine A.AL.mkm 6 D39 (fun x:D39=>.agg #[.int .i64 x.1,.int .i64 x.2]) (Z.Ty.int .i64) false fun b2=>?_
 refine A.q0 [] [] [.n] [(5,.map (some b2))] ?_
 refine A.dl 3 ?_
 refine A.q0 [5] [] [.n,.b 0 0] [(14,.pointer (some ⟨g0_,0,none⟩)),(15,.agg #[.slice A5_ ((a1).length) c6_])] ?_
 obtain⟨r3,hv4,hF⟩:=A.bd_some hF
 refine A.AL.call 7 [] (first:=[]) (cap:=[]) cf69 (graph_plan_spots_ok (a0.1,a0.2.1,a0.2.2) a1 g0_ b1_ A2_ c3_ b4_ A5_ c6_ r3 hv4) (.m 0 (.m 1 (.m 2 (.m 3 (.s 4 .nil))))) ?_
 rintro _ _ ⟨A5,c6,rfl,rfl⟩
 refine⟨by kernel_rfl,?_⟩
 refine A.mvd 8 0 [] ?_
 refine A.mvd 9 1 [] ?_
 refine A.mvd 10 2 [] ?_
 refine A.mvd 11 3 [] ?_
 refine A.q0 [] [] [.n,.n] [(17,.int .i64 ((r3).length:Int)),(18,.int .i64 0)] ?_
 refine A.dx 2 ?_
 refine A.lp_ [0,3,5,16,17] [0,1,2,3,4,5,7] (fun f nl nh=>∃(m7:List (D39×Int)),∃(y8:Int),nl=[(18,.int .i64 y8)]∧nh=[(6,.mp D39 (fun x:D39=>.agg #[.int .i64 x.1,.int .i64 x.2]) (Z.Ty.int .i64) false b2 m7)]∧IntKind.i64.has y8∧F.graph_plan_turns_l3 a0 a1 r3 f m7 y8=some r) ⟨[],0,rfl,rfl,(A.hasl .i64 (0) rfl),hF⟩ ?_
 rintro f10 _ _ ⟨m7,y8,rfl,rfl,hy9,hF⟩
 rcases f10 with _|f10
 ·exact A.no0 hF
 rw[F.graph_plan_turns_l3]at hF
 refine A.xl 1 ?_
 refine A.q0 [] [] [.n] [(19,.bool (decide (y8<((r3).length:Int))))] ?_
 refine A.dx 2 ?_
 refine A.AX.cnd rfl hF (fun hb hF=>?_) (fun hb hF=>?_)
 ·refine A.xl 5 ?_
  obtain⟨x11,hv12,hF⟩:=A.bd_some hF
  refine A.AL.ixo 7 409 hv12 fun ho13=>?_
  intro g14 hA15
  refine A.q0 [] [409] [.e 0 0] [(21,.agg #[.int .i64 x11.1.1,.int .i64 x11.1.2,.int .i64 x11.2])] ?_
  refine A.AL.alloc 410 (cs:=[.int .i64 0,.int .i64 0,.int .i64 0]) Tryz.zeroValue42 fun g16=>?_
  refine A.sw 410 [] [.int .i64 x11.1.1,.int .i64 x11.1.2,.int .i64 x11.2] ?_
  refine A.dl 1 ?_
  refine A.q0 [410] [] [.n,.n,.b 0 0,.n,.b 0 2] [(22,.map (some b2)),(24,.agg #[.int .i64 x11.1.1,.int .i64 x11.1.2]),(26,.int .i64 x11.2)] ?_
  refine A.AL.mup (t:=(Z.Ty.int .i64)) 6 [] (cs:=[.int .i64 x11.2]) (u:=x11.2) ky40 (x11.1.1,x11.1.2) ⟨rfl,ho13.2⟩ ?_
  refine A.dl 2 ?_
  obtain⟨hc17,hF⟩:=A.gd_some hF
  refine A.q [] [] [.n,.n] [Z.R64 (y8+1)] [(18,.int .i64 (y8+1))] hc17 ?_
  refine A.AL.done ?_
  exact A.j ⟨_,Nat.lt_succ_self _,⟨(Z.mins m7 (x11.1.1,x11.1.2) x11.2),(y8+1),rfl,rfl,(Z.i64_has hc17),hF⟩⟩
 refine A.xl 3 ?_
 refine A.AL.mkmr 411 D39 (fun x:D39=>.agg #[.int .i64 x.1,.int .i64 x.2]) T39 40 fun b18=>?_
 refine A.q0 [] [] [.n] [(8,.map (some b18))] ?_
 refine A.dl 3 ?_
 refine A.q0 [5] [] [.n,.b 0 0] [(29,.pointer (some ⟨g0_,0,none⟩)),(30,.agg #[.slice A5_ ((a1).length) c6_])] ?_
 obtain⟨r19,hv20,hF⟩:=A.bd_some hF
 refine A.AL.call 412 [] (first:=[]) (cap:=[]) cf70 (graph_plan_edges_ok (a0.1,a0.2.1,a0.2.2) a1 g0_ b1_ A2_ c3_ b4_ A5_ c6_ r19 hv20) (.m 0 (.m 1 (.m 2 (.m 3 (.s 4 .nil))))) ?_
 rintro _ _ ⟨A21,c22,rfl,rfl⟩
 refine⟨by kernel_rfl,?_⟩
 refine A.mvd 413 0 [] ?_
 refine A.mvd 414 1 [] ?_
 refine A.mvd 415 2 [] ?_
 refine A.mvd 416 3 [] ?_
 refine A.q0 [] [] [.n,.n] [(32,.int .i64 ((r19).length:Int)),(33,.int .i64 0)] ?_
 refine A.dx 2 ?_
 refine A.lp_ [0,5,8,31,32] [0,1,2,3,6,412] (fun f nl nh=>∃(m24:List (D39×(List D39))),∃(y25:Int),∃(As23:List (Option Addr×Nat)),nl=[(33,.int .i64 y25)]∧nh=[(411,.mr D39 (fun x:D39=>.agg #[.int .i64 x.1,.int .i64 x.2]) T39 40 b18 As23 m24)]∧IntKind.i64.has y25∧F.graph_plan_turns_l2 a0 m7 r19 f m24 y25=some r) ⟨[],0,[],rfl,rfl,(A.hasl .i64 (0) rfl),hF⟩ ?_
 rintro f27 _ _ ⟨m24,y25,As23,rfl,rfl,hy26,hF⟩
 rcases f27 with _|f27
 ·exact A.no0 hF
 rw[F.graph_plan_turns_l2]at hF
 refine A.xl 1 ?_
 refine A.q0 [] [] [.n] [(34,.bool (decide (y25<((r19).length:Int))))] ?_
 refine A.dx 2 ?_
 refine A.AX.cnd rfl hF (fun hb hF=>?_) (fun hb hF=>?_)
 ·refine A.xl 5 ?_
  obtain⟨x28,hv29,hF⟩:=A.bd_some hF
  refine A.AL.ixo 412 544 hv29 fun ho30=>?_
  intro g31 hA32
  refine A.q0 [] [544] [.e 0 0] [(36,.agg #[.int .i64 x28.1.1,.int .i64 x28.1.2,.int .i64 x28.2.1.1,.int .i64 x28.2.1.2,.int .i64 x28.2.2.1,.int .i64 x28.2.2.2.1,.int .i64 x28.2.2.2.2.1,.int .i64 x28.2.2.2.2.2.1,.int .i64 x28.2.2.2.2.2.2.1,.int .i64 x28.2.2.2.2.2.2.2.1,.int .i64 x28.2.2.2.2.2.2.2.2.1,.int .i64 x28.2.2.2.2.2.2.2.2.2])] ?_
  refine A.AL.alloc 545 (cs:=[.int .i64 0,.int .i64 0,.int .i64 0,.int .i64 0,.int .i64 0,.int .i64 0,.int .i64 0,.int .i64 0,.int .i64 0,.int .i64 0,.int .i64 0,.int .i64 0]) Tryz.zeroValue54 fun g33=>?_
  refine A.sw 545 [] [.int .i64 x28.1.1,.int .i64 x28.1.2,.int .i64 x28.2.1.1,.int .i64 x28.2.1.2,.int .i64 x28.2.2.1,.int .i64 x28.2.2.2.1,.int .i64 x28.2.2.2.2.1,.int .i64 x28.2.2.2.2.2.1,.int .i64 x28.2.2.2.2.2.2.1,.int .i64 x28.2.2.2.2.2.2.2.1,.int .i64 x28.2.2.2.2.2.2.2.2.1,.int .i64 x28.2.2.2.2.2.2.2.2.2] ?_
  refine A.dl 1 ?_
  refine A.q0 [545] [] [.n,.n,.b 0 0,.n,.b 0 2] [(37,.map (some b18)),(39,.agg #[.int .i64 x28.1.1,.int .i64 x28.1.2]),(42,.agg #[.int .i64 x28.2.1.1,.int .i64 x28.2.1.2])] ?_
  refine A.AL.bsl 546 (ty:=T39) (cs:=[.int .i64 x28.2.1.1,.int .i64 x28.2.1.2]) [(x28.2.1.1,x28.2.1.2)] ⟨⟨⟨rfl,ho30.2.1.1⟩,⟨rfl,ho30.2.1.2⟩⟩,rfl⟩ (fun g34=>?_) Tryz.zeroValue40 Tryz.sizeOf40
  obtain⟨hl35,hF⟩:=A.gd_some hF
  refine A.AL.mapp (t:=T39) (ys:=[(x28.2.1.1,x28.2.1.2)]) 411 546 [] ky40 (x28.1.1,x28.1.2) Tryz.zeroValue72 inf40 hl35 fun As36 v37 v38 v39 v40=>?_
  refine A.dl 2 ?_
  obtain⟨hc41,hF⟩:=A.gd_some hF
  refine A.q [] [] [.n,.n] [Z.R64 (y25+1)] [(33,.int .i64 (y25+1))] hc41 ?_
  refine A.AL.done ?_
  exact A.j ⟨_,Nat.lt_succ_self _,⟨(Z.mins m24 (x28.1.1,x28.1.2) (Z.mget ([]:List D39) m24 (x28.1.1,x28.1.2)++[(x28.2.1.1,x28.2.1.2)])),(y25+1),As36,rfl,rfl,(Z.i64_has hc41),hF⟩⟩
 refine A.xl 4 ?_
 refine A.q0 [] [] [.n] [(48,.map (some b2))] ?_
 refine A.AL.rgm 6 547 fun g42=>?_
 refine A.dx 2 ?_
 refine A.frzM 411 [] ?_
 obtain⟨hev,hend⟩:=A.mrg_all hF
 refine A.AX.loop [0,5,8,49] [0,1,2,3,6,411] [547,0,1,2,3,6,411] (fun f nl nh=>∃(sn:List Nat) (la:Option (Value×Value)),nl=[]∧nh=[(547,.mit 6 g42 b2 (m7).length sn la)]∧sn.Nodup∧(∀i∈sn,i<(m7).length)∧(∀i∈sn,∀p,(m7)[i]?=some p→F.graph_plan_turns_b1 a0 m7 m24 p=some none)∧f+sn.length=(m7).length+1) ((m7).length+1) [] [(547,.mit 6 g42 b2 (m7).length [] none)] ⟨[],none,rfl,rfl,List.nodup_nil,by simp,by simp,rfl⟩ ?_
 rintro f45 _ _ ⟨sn43,la44,rfl,rfl,hnd,hbd,hse,hff⟩
 refine A.xl 1 ?_
 refine A.AL.nxm 6 547 548 (fun hall=>?_) (fun i47 p46 hp48 hs49 ho50=>?_)
 ·replace hF:=hend (A.seen_all hse hall)
  refine A.q0 [] [] [.n] [(51,.bool false)] ?_
  refine A.dx 2 ?_
  refine A.AX.cnf rfl ?_
  refine A.xl 3 ?_
  refine A.q0 [] [] [.n] [(4,.bool false)] ?_
  refine A.dx 1 ?_
  obtain rfl:=Option.some.inj hF
  exact A.rt1 [(0,0),(1,1),(2,2),(3,3)] ⟨rfl,rfl⟩
 obtain⟨q,hB,hq⟩:=hev p46 (List.mem_of_getElem? hp48)
 have hF:=hB
 rw[F.graph_plan_turns_b1]at hF
 obtain⟨hkc51,hF⟩:=A.gd_some hF
 refine A.q0 [] [] [.n] [(51,.bool true)] ?_
 refine A.dx 2 ?_
 refine A.AX.cnt rfl ?_
 refine A.xl 4 ?_
 refine A.AL.ent 547 ?_
 refine A.q0 [] [] [.n,.n] [(53,.agg #[.int .i64 p46.1.1,.int .i64 p46.1.2]),(54,.int .i64 p46.2)] ?_
 refine A.AL.alloc 549 (cs:=[.int .i64 0,.int .i64 0]) Tryz.zeroValue40 fun g52=>?_
 refine A.sw 549 [] [.int .i64 p46.1.1,.int .i64 p46.1.2] ?_
 refine A.q0 [] [] [.n] [(12,.int .i64 p46.2)] ?_
 refine A.dl 2 ?_
 refine A.q0 [549] [] [.n,.n,.n,.b 0 0,.n] [(55,.pointer (some ⟨g0_,0,none⟩)),(56,.map (some b18)),(57,.map (some b2)),(58,.agg #[.int .i64 p46.1.1,.int .i64 p46.1.2]),(59,.int .i64 p46.2)] ?_
 obtain⟨r53,hv54,hF⟩:=A.bd_some hF
 refine A.AL.call 550 [] (first:=[]) (cap:=[]) cf141 (graph_plan_reaches_ok (a0.1,a0.2.1,a0.2.2) m24 m7 (p46.1.1,p46.1.2) p46.2 g0_ b1_ A2_ c3_ b4_ b18 b2 (of_decide_eq_true hkc51.1) (of_decide_eq_true hkc51.2) ho50 r53 hv54) (.m 0 (.m 1 (.m 2 (.m 3 (.lm 411 (.lm 6 .nil)))))) ?_
 rintro _ _ ⟨rfl,rfl⟩
 refine⟨by kernel_rfl,?_⟩
 refine A.mvd 550 0 [] ?_
 refine A.mvd 551 1 [] ?_
 refine A.mvd 552 2 [] ?_
 refine A.mvd 553 3 [] ?_
 refine A.dx 1 ?_
 refine A.AX.cnb rfl hF (fun hb hF=>?_) (fun hb hF=>?_)
 ·refine A.xl 1 ?_
  refine A.q0 [] [] [.n] [(4,.bool true)] ?_
  refine A.dx 1 ?_
  obtain rfl:=Option.some.inj hF
  obtain rfl:=Option.some.inj (hq.resolve_left (by intro h;cases h))
  exact A.rt1 [(0,0),(1,1),(2,2),(3,3)] ⟨rfl,rfl⟩
 refine A.xe 2 ?_
 obtain rfl:=Option.some.inj hF
 exact A.AE.j [547,0,1,2,3,6,411] [] [(547,.mit 6 g42 b2 (m7).length (i47::sn43) (some (.agg #[.int .i64 p46.1.1,.int .i64 p46.1.2],.int .i64 p46.2)))] ⟨_,(A.seen_f hnd (A.seen_bd hbd hp48) hs49 hff).1,_,_,rfl,rfl,List.nodup_cons.2 ⟨hs49,hnd⟩,A.seen_bd hbd hp48,A.seen_cons hse hp48 hB,(A.seen_f hnd (A.seen_bd hbd hp48) hs49 hff).2⟩
end Go.Proofs.YtlbnpmfggfbdoaaGreatDoor
end
