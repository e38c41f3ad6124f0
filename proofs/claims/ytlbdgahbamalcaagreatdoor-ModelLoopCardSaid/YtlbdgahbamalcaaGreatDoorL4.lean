import Derived.Test.YtlbdgahbamalcaaGreatDoorL3
import Derived.Calls
import GoSem.Step
import Derived.Shelf.SlSortCmp.NoneTotal
import Derived.Shelf.SortM.Plain
import Derived.Shelf.SortM.SortNone
import Derived.Lib.TrimU
import Derived.Shelf.Small.Strs
import Derived.Shelf.Spec.SlicesGrow
import Derived.WalkSmall
import Derived.Laws.IdiomStrings
import Derived.Laws.Cover4
set_option linter.unusedVariables false
set_option linter.unusedSimpArgs false
set_option maxRecDepth 20000
set_option maxHeartbeats 8000000
set_option synthInstance.maxSize 1000000
set_option synthInstance.maxHeartbeats 400000
set_option linter.unusedSectionVars false
section
set_option linter.tactic.unusedName false
namespace Go.Dr
open Go
def R {α:Type}(n:Nat):Result α->Prop
 | .ok _ w=>n<=w.drawn
 | .halt _ w=>n<=w.drawn
theorem ask {α:Type}: ∀(a:Ask α) (w:World),w.drawn<=(w.ask a).2.drawn
 | .done a,w=>Qo _
 | .ask what range k,w=>by
  unfold World.ask
  dsimp only
  split
  ·exact ask _ w
  ·exact Wd (Nat.le_succ _) (ask _ {w with drawn:=w.drawn+1})
theorem sys (w:World)(c:Sys):w.drawn<=(w.sys c).2.drawn:=by
 unfold World.sys
 have h:=ask (Kernel.perform c w.os) w
 split
 ·exact Qo _
 ·rename_i e;rw[e]at h;exact h
def EP {ε α:Type}(P:α->Prop)(x:Except ε α):Prop:=∀a,x=.ok a->P a
theorem eb {ε α β:Type}{P:β->Prop}{x:Except ε α}{f:α->Except ε β}(h: ∀a,EP P (f a)):EP P (x >>= f):=fun b hb=>by
 cases x with
 |error e=>cases hb
 |ok a=>exact h a b hb
theorem et {α:Type}{P:α->Prop}{e:String}:EP P (MonadExcept.throw e:Except String α):=fun _ h=>by cases h
theorem ep {ε α:Type}{P:α->Prop}{a:α}(h:P a):EP P (pure a:Except ε α):=fun b hb=>by injection hb with hb;subst hb;exact h
theorem vs0 (w:World)(p:Program)(at_:Addr)(u:TypeId)(a:Addr)(v:Value)(b:Bool):EP (fun r=>r.1.drawn=w.drawn) (w.viewStore p at_ u a v b):=by
 unfold World.viewStore
 dsimp only
 repeat' first|exact et|exact ep rfl|(refine eb fun _=>?_)|split|dsimp only
theorem vs {w w':World}{p:Program}{at_:Addr}{u:TypeId}{a:Addr}{v:Value}{b:Bool}{l:List Addr}(h:w.viewStore p at_ u a v b=.ok (w',l)):w'.drawn=w.drawn:=vs0 w p at_ u a v b _ h
theorem fs {w w':World}{p:Program}{a:Addr}{v:Value}{b:Bool}{l:List Addr}(h:w.farStore p a v b=.ok (w',l)):w'.drawn=w.drawn:=by
 unfold World.farStore at h
 split at h
 ·split at h
  ·rename_i e;injection h with h;subst h;exact vs e
  ·cases h
 ·cases h
theorem run {α:Type}(p:Program)(n:Nat): ∀(s:Sem α) (w:World),n<=w.drawn->R n (s.run p w):=by
 intro s
 induction s with
 |pure a=>intro w h;exact h
 |load m a k ih=>
  intro w h;unfold Sem.run
  split
  ·exact ih _ w h
  ·(split)
   ·exact ih _ w h
   ·exact h
 |store m a v k ih=>
  intro w h
  cases v
  all_goals
   unfold Sem.run
   first|exact h|skip
  all_goals
   split
   ·(split)
    ·exact h
    ·exact ih _ h
   ·(split)
    ·rename_i e;exact ih _ (by rw[fs e];exact h)
    ·exact h
 |choose q k ih=>
  intro w h;unfold Sem.run
  split
  ·exact ih _ w h
  ·exact ih _ _ (Xn h)
 |sys c k ih=>intro w h;unfold Sem.run;exact ih _ _ (Wd h (sys w c))
 |new o k ih=>intro w h;unfold Sem.run;exact ih _ _ h
 |shape r k ih=>intro w h;unfold Sem.run;exact ih _ _ h
 |freeze a n k ih=>intro w h;unfold Sem.run;refine ih _ ?_;unfold World.freeze;((repeat' split)<;>(exact h))
 |frozen a k ih=>intro w h;unfold Sem.run;exact ih _ _ h
 |getObj r k ih=>intro w h;unfold Sem.run;((repeat' split)<;>(first|exact h|exact ih _ _ h))
 |setObj r o k ih=>intro w h;unfold Sem.run;((repeat' split)<;>(first|exact h|exact ih _ h))
 |program k ih=>intro w h;unfold Sem.run;exact ih _ _ h
 |mark m k ih=>intro w h;unfold Sem.run;exact ih _ h
 |halt x=>intro w h;exact h
theorem runT {α:Type}(p:Program)(n:Nat)(s:Sem α)(w:World)(es:Array Event)(h:n<=w.drawn):R n (s.runT p w es).1:=by
 induction s generalizing w es with
 |pure a=>exact h
 |halt x=>exact h
 |choose q k ih=>
  unfold Sem.runT
  split
  ·exact ih _ w _ h
  ·exact ih _ _ _ (Xn h)
 |sys c k ih=>unfold Sem.runT;exact ih _ _ _ (Wd h (sys w c))
 |freeze a n k ih=>unfold Sem.runT;refine ih _ _ ?_;unfold World.freeze;((repeat' split)<;>(exact h))
 |store m a v k ih=>
  cases v
  all_goals
   unfold Sem.runT
   first|exact h|skip
  all_goals
   split
   ·(split)
    ·exact h
    ·exact ih _ _ h
   ·(split)
    ·rename_i e;exact ih _ _ (by rw[fs e];exact h)
    ·exact h
 |_=>
  unfold Sem.runT
  repeat' split
  all_goals first|exact h|(rename_i ih;exact ih _ _ _ h)|(rename_i ih;exact ih _ _ h)|(rename_i ih _;exact ih _ _ _ h)|(rename_i ih _;exact ih _ _ h)|(rename_i ih _ _;exact ih _ _ _ h)|(rename_i ih _ _;exact ih _ _ h)|(rename_i ih _ _ _;exact ih _ _ _ h)|(rename_i ih _ _ _;exact ih _ _ h)|(rename_i ih _ _ _ _;exact ih _ _ _ h)|(rename_i ih _ _ _ _;exact ih _ _ h)|(rename_i ih _ _ _ _ _;exact ih _ _ _ h)|(rename_i ih _ _ _ _ _ _;exact ih _ _ _ h)
def G (n:Nat):GStep->Prop
 | .go _ w _| .comm _ _ _ _ w _| .spawn _ _ w _| .count _ w _| .timer _ _ w _| .alone _ _ w _| .newcoro _ _ _ w _| .coroswitch _ _ _ w _| .collect _ w _| .watch _ w _=>n<=w.drawn
 | .ended _ _ _=>True
theorem after {n:Nat}{es:Array Event}{g:GStep}(h:G n g):G n (g.after es):=by cases g<;>exact h
variable {p:Program}{n:Nat}{w:World}
theorem ro {α:Type}{s:Sem α}{v:α}{w':World}(e:s.run p w=.ok v w')(h:n<=w.drawn):n<=w'.drawn:=by have:=run p n s w h;rw[e]at this;exact this
theorem rh {α:Type}{s:Sem α}{v:Halt}{w':World}(e:s.run p w=.halt v w')(h:n<=w.drawn):n<=w'.drawn:=by have:=run p n s w h;rw[e]at this;exact this
theorem gi {c:Prop}[Decidable c]{a b:GStep}(ha:G n a)(hb:G n b):G n (if c then a else b):=by split<;>assumption
theorem rto {α:Type}{s:Sem α}{v:α}{w':World}{es es':Array Event}(e:s.runT p w es=(.ok v w',es'))(h:n<=w.drawn):n<=w'.drawn:=by have:=runT p n s w es h;rw[e]at this;exact this
theorem rtr {α:Type}{s:Sem α}{r:Result α}{es es':Array Event}(e:s.runT p w es=(r,es'))(h:n<=w.drawn):R n r:=by have:=runT p n s w es h;rw[e]at this;exact this
theorem rth {α:Type}{s:Sem α}{v:Halt}{w':World}{es es':Array Event}(e:s.runT p w es=(.halt v w',es'))(h:n<=w.drawn):n<=w'.drawn:=by have:=runT p n s w es h;rw[e]at this;exact this
theorem endThrow (fr:Frame)(m:String)(h:n<=w.drawn):G n (Go.endThrow fr m w):=h
theorem endPrinting (fr:Frame)(v:Value)(h:n<=w.drawn):G n (Go.endPrinting p fr v w):=by
 unfold Go.endPrinting;dsimp only;split
 ·exact h
 ·trivial
theorem endWith (fd:Nat)(t:ByteArray)(o:Outcome):G n (Go.endWith w fd t o):=by
 unfold Go.endWith;dsimp only;((repeat' split)<;>(trivial))
theorem endFatal (fr:Frame)(cs:List Frame)(d:Option Dying)(m:String)(h:n<=w.drawn):G n (Go.endFatal p fr cs d m w):=by
 unfold Go.endFatal;extract_lets
 split
 ·rename_i e;exact ro e h
 ·trivial
 ·trivial
theorem writeOn (fr:Frame)(d:Dying)(f:Fatal)(h:n<=w.drawn):G n (Go.writeOn p fr d f w):=by
 unfold Go.writeOn;extract_lets
 split
 ·trivial
 ·extract_lets
  split
  all_goals first|trivial|(rename_i e;exact rto e h)|(rename_i e;exact rth e h)
theorem die (fr:Frame)(d:Dying)(h:n<=w.drawn):G n (Go.die p fr d w):=by
 unfold Go.die
 split
 ·exact writeOn _ _ _ h
 ·(split)
  ·(split)
   ·exact h
   ·exact endWith _ _ _
  ·extract_lets d2
   split
   ·exact h
   ·(split)
    ·rename_i e;exact ro e h
    ·trivial
   ·rename_i t recv name _
    have hr:=runT p n (invoke (.fn (.method name) #[]) #[.iface t recv]) w #[] h
    split
    rename_i r es e
    rw[e]at hr
    refine after ?_
    split
    all_goals first|trivial|exact hr|exact endPrinting _ _ hr
   ·trivial
theorem doReturn (main:Bool)(fr:Frame)(cs:List Frame)(d:Option Dying)(v:Value)(h:n<=w.drawn):G n (Go.doReturn p main fr cs d v w):=by
 unfold Go.doReturn
 repeat' split
 all_goals first|trivial|exact h
theorem callDeferred (fr:Frame)(cs:List Frame)(dy:Option Dying)(d:Deferred)(h:n<=w.drawn):G n (Go.callDeferred p fr cs dy d w):=by
 unfold Go.callDeferred
 refine gi trivial ?_
 ·have hr:=runT p n (invoke d.target d.args) w #[] h
  split
  rename_i r es e
  rw[e]at hr
  extract_lets
  refine after ?_
  split
  all_goals first|trivial|exact hr|exact endFatal _ _ _ _ hr|exact endThrow _ _ hr|(split<;>first|trivial|exact hr)
theorem unwind (main:Bool)(fr:Frame)(cs:List Frame)(dy:Option Dying)(h:n<=w.drawn):G n (Go.unwind p main fr cs dy w):=by
 unfold Go.unwind
 split
 ·rename_i block _ _ _
  have hr:=runT p n (Instr.takeDeferred block) w #[] h
  split
  rename_i r es e
  rw[e]at hr
  refine after ?_
  split
  ·exact hr
  ·trivial
 ·exact callDeferred _ _ _ _ h
 ·(split)
  ·trivial
  ·(split)
   ·trivial
   ·(split)
    ·exact h
    ·(split)
     ·(split)
      ·exact h
      ·(split)
       ·rename_i e;exact ro e h
       ·trivial
       ·trivial
     ·(split)
      ·exact endPrinting _ _ h
      ·trivial
  ·(split)
   ·exact doReturn _ _ _ _ _ h
   ·rename_i fn _
    have hr:=runT p n (results fn fr.tmps) w #[] h
    split
    rename_i r es e
    rw[e]at hr
    refine after ?_
    split
    ·exact doReturn _ _ _ _ _ hr
    ·trivial
    ·trivial
theorem early (fr:Frame)(cs:List Frame)(dy:Option Dying)(g:Nat)(h:n<=w.drawn):G n (Go.early p fr cs dy g w):=by
 unfold Go.early;extract_lets refuse notYet
 have hn: ∀w:World,n<=w.drawn->G n (notYet w):=fun w h=>by
  show G n (match w.heap[g]? with|some (.pending c elem)=>_|_=>_)
  split
  ·exact h
  ·trivial
 split
 ·exact hn w h
 ·(split)
  ·trivial
  ·extract_lets there
   have ht: ∀w:World,n<=w.drawn->G n (there w):=fun w h=>h
   repeat' split
   all_goals first|trivial|exact hn w h|exact ht w h|(rename_i e;exact hn _ (ro e h))|(rename_i e;exact ht _ (ro e h))|(rename_i e _;exact ht _ (ro e h))|(rename_i _ e;exact ht _ (ro e h))
theorem oe {α:Type}{o:Option α}{a:GStep}{f:α->GStep}(ha:G n a)(hf: ∀x,G n (f x)):G n (o.elim a f):=by cases o with
 |none=>exact ha
 |some x=>exact hf x
theorem app (listen:Bool)(fr:Frame)(cs:List Frame)(dy:Option Dying)(s:Sem Next)(h:n<=w.drawn):G n (Go.stepG.apply p listen fr cs dy s w):=by
 unfold Go.stepG.apply
 extract_lets
 have hr:R n (if listen=true then s.runT p w #[]else(s.run p w,#[])).1:=by
  split
  ·exact runT p n s w #[] h
  ·exact run p n s w h
 split
 rename_i r es e
 rw[e]at hr
 extract_lets
 refine after ?_
 split
 all_goals first|trivial|exact hr|exact endFatal _ _ _ _ hr|exact endThrow _ _ hr|exact early _ _ _ _ hr|(split<;>first|trivial|exact hr|(exact gi (endThrow _ _ hr) hr))|exact gi (endThrow _ _ hr) hr
theorem oper (listen:Bool)(fr:Frame)(cs:List Frame)(dy:Option Dying)(h:n<=w.drawn):G n (Go.stepG.oper p listen fr cs dy w):=by
 unfold Go.stepG.oper
 repeat' split
 all_goals first|trivial|exact app _ _ _ _ _ h
theorem exec (main listen:Bool)(fr:Frame)(cs:List Frame)(dy:Option Dying)(h:n<=w.drawn):G n (Go.stepG.exec p main listen fr cs dy w):=by
 unfold Go.stepG.exec
 extract_lets go tgo lost leave
 have hgo: ∀fr w,n<=w.drawn->G n (go fr w):=fun _ _ h=>h
 have hto: ∀k,G n (tgo k):=fun k=>h
 have hlost: ∀k,G n (lost k):=fun k=>trivial
 have hleave: ∀j,G n (leave j):=fun j=>by
  unfold leave
  split
  ·refine gi h trivial
  ·(split)
   rename_i r es e
   have hr:=rtr e h
   refine after ?_
   split
   ·exact doReturn _ _ _ _ _ hr
   ·trivial
 split
 case h_1=>exact hleave none
 case h_2=>exact hleave (some .ret)
 case h_13=>exact oe (hleave (some (.exit _))) hto
 case h_14=>exact oe (hleave (some (.goto _))) hto
 all_goals first
  |exact hto _|trivial|exact app _ _ _ _ _ h|exact hlost _
  |(split<;>first|exact hto _|exact hlost _)
  |(refine gi (hto _) ?_;split<;>first|trivial|(rename_i e;exact ro e h))
  |(refine gi (oper _ _ _ _ h) ?_;exact h)
  |exact oe (hlost _) fun _=>app _ _ _ _ _ h
  |(split;rename_i r es e;have hr:=rtr e h;refine after ?_;split<;>first|trivial|exact hr|exact app _ _ _ _ _ hr)
theorem stepG (main listen:Bool)(g:Goroutine)(h:n<=w.drawn):G n (Go.stepG p main g w listen):=by
 unfold Go.stepG
 split
 split
 ·exact die _ _ h
 ·exact exec _ _ _ _ _ h
 ·exact unwind _ _ _ _ h
def S (n:Nat):Stepped->Prop
 | .next m=>n<=m.world.drawn
 | .ended _ _=>True
theorem si {c:Prop}[Decidable c]{a b:Stepped}(ha:S n a)(hb:S n b):S n (if c then a else b):=by split<;>assumption
theorem si1 {α:Type}{c:Prop}[Decidable c]{a b:Stepped×α}(ha:S n a.1)(hb:S n b.1):S n (if c then a else b).1:=by split<;>assumption
theorem waitingAt {rest:Rest}{cs:Array CommCase}{w w':World}(h:Go.waitingAt rest cs w=some w'):w'.drawn=w.drawn:=by
 unfold Go.waitingAt at h
 split at h
 ·split at h
  ·injection h with h;subst h;rfl
  ·cases h
 ·injection h with h;subst h;rfl
theorem comm (rest:Rest)(gs:Array Goroutine)(i:Nat)(g:Goroutine)(cases:Array CommCase)(b:Bool)(sh:CommShape)(h:n<=w.drawn):S n (communicate p rest gs i g cases b sh w).1:=by
 unfold communicate
 extract_lets put
 refine si1 trivial ?_
 extract_lets ready
 refine si1 ?_ ?_
 ·refine si1 ?_ h
  split
  ·rename_i e;show n<=World.drawn _;rw[waitingAt e];exact h
  ·trivial
 ·extract_lets pick
  split
  ·trivial
  ·rename_i e
   have h2:=ro e h
   extract_lets r
   split
   ·(split)
    ·rename_i e2;exact rh e2 h2
    ·trivial
   ·exact h2
   ·exact h2
   ·extract_lets v buf
    split
    ·exact h2
    ·(split)
     ·rename_i e3;have h4:=ro e3 h2;exact h4
     ·trivial
   ·exact h2
   ·exact h2
   ·trivial
theorem look (gs:Array Goroutine)(rest:Rest)(h:n<=w.drawn):S n (Go.look p gs rest w):=by
 unfold Go.look
 split
 ·(split)
  extract_lets
  refine si trivial ?_
  extract_lets
  split
  ·trivial
  ·extract_lets
   split
   ·rename_i e;have h4:=ro e h;exact h4
   ·trivial
   ·trivial
 ·trivial
theorem drain (w:World)(c:Nat):(Go.drain w c).2.drawn=w.drawn:=by
 unfold Go.drain;split<;>rfl
theorem retime (m:Machine)(k:Nat)(t:Timer)(a b:Nat):(Go.retime m k t a b).2.world.drawn=m.world.drawn:=by
 unfold Go.retime
 split
 rename_i e
 split at e
 ·rename_i c _
  have:=drain m.world c
  rw[e]at this;exact this
 ·injection e with _ e;subst e;rfl
theorem named (m:Machine)(v:Addr)(f:Nat->Timer->Value×Machine){d:Nat}(hf: ∀k t,(f k t).2.world.drawn=d){r:Value×Machine}(e:timerOp.named m v f=.ok r):r.2.world.drawn=d:=by
 unfold timerOp.named at e
 split at e
 ·injection e with e;subst e;exact hf _ _
 ·cases e
theorem opened {m m':Machine}{v:Addr}(e:timerOp.opened m v=some m'):m'.world.drawn=m.world.drawn:=by
 unfold timerOp.opened at e
 split at e
 ·split at e
  ·injection e with e;subst e;rfl
  ·cases e
 ·injection e with e;subst e;rfl
theorem timer (m:Machine)(op:TimerOp){r:Value×Machine}(e:timerOp m op=.ok r):r.2.world.drawn=m.world.drawn:=by
 unfold timerOp at e
 split at e
 ·split at e
  ·injection e with e;subst e;rfl
  ·split at e
   ·split at e
    ·cases e
    ·injection e with e;subst e;rfl
   ·cases e
 ·exact named _ _ _ (fun _ _=>retime _ _ _ _ _) e
 ·split at e
  ·rename_i m1 e1
   exact(named _ _ _ (fun _ _=>retime _ _ _ _ _) e).trans (opened e1)
  ·cases e
 ·injection e with e;subst e;rfl
theorem commr {rest:Rest}{gs:Array Goroutine}{i:Nat}{g:Goroutine}{cases:Array CommCase}{b:Bool}{sh:CommShape}{r:Stepped}{ops:Array MemOp}(e:communicate p rest gs i g cases b sh w=(r,ops))(h:n<=w.drawn):S n r:=by have:=comm (p:=p) rest gs i g cases b sh h;rw[e]at this;exact this
theorem et1 {fr:Frame}{m:String}{g:GStep}(e:Go.endThrow fr m w=g)(h:n<=w.drawn):G n g:=e▸endThrow fr m h
theorem runM (m:Machine)(i:Nat)(listen:Bool)(h:n<=m.world.drawn):S n (Go.runT p m i listen).1:=by
 unfold Go.runT
 extract_lets rest world
 split
 extract_lets wake fn pos s ops done
 have hd: ∀r,(done r).1=r:=fun _=>rfl
 have hs:G n s:=stepG _ _ _ h
 clear_value s
 split
 ·trivial
 ·(split)
  rename_i e
  exact commr e hs
 all_goals first|exact hs|exact si trivial hs|exact look _ _ hs|skip
 ·rw[hd]
  split
  ·exact hs
  ·(split)
   ·rename_i e;exact et1 e hs
   ·trivial
  ·trivial
 ·rw[hd]
  split
  ·rename_i e;have h2:=timer _ _ e;exact Wd hs (Nat.le_of_eq h2.symm)
  ·(split)
   ·rename_i e;exact et1 e hs
   ·trivial
  ·trivial
  ·trivial
theorem serve (m:Machine)(k:Nat)(h:n<=m.world.drawn):S n (Go.serve p m k):=by
 unfold Go.serve
 split
 ·trivial
 ·exact h
 ·extract_lets
  split
  ·trivial
  ·exact h
def M (n:Nat):Move->Prop
 | .goroutine m _=>n<=m.world.drawn
 | .machine s _=>S n s
theorem askOn (m:Machine)(h:n<=m.world.drawn):M n (Go.askOn p m):=by
 unfold Go.askOn
 extract_lets mono rs ds pick
 have hp: ∀m:Machine,n<=m.world.drawn->M n (pick m):=fun m h=>by
  simp only[pick]
  split
  ·trivial
  ·rename_i e;have h2:=ro e h
   split
   ·exact h2
   ·(split)
    ·trivial
    ·rename_i e2;exact ro e2 h2
 clear_value pick
 split
 ·trivial
 ·rename_i e;have h2:=ro e h
  extract_lets m2
  clear_value rs
  split
  ·exact serve _ _ h2
  ·cases rs with
   |nil=>
    dsimp only
    split
    ·exact h2
    ·(split)
     ·exact h2
     ·split<;>trivial
   |cons a l=>
    dsimp only
    split
    ·exact hp _ h2
    ·(split)
     ·trivial
     ·rename_i e3;exact hp _ (ro e3 h2)
     ·rename_i e3;have h4:=ro e3 h2;exact h4
     ·rename_i e3;have h4:=ro e3 h2;exact hp _ h4
theorem ask2 (m:Machine)(h:n<=m.world.drawn):M n (Go.ask p m):=by
 unfold Go.ask
 split
 ·(split)
  ·trivial
  ·rename_i e;have h2:=look (p:=p) m.gs m.rest (ro e h)
   split
   ·rename_i e2;rw[e2]at h2;exact askOn _ h2
   ·exact h2
  ·rename_i e;exact askOn _ (ro e h)
 ·exact askOn _ h
theorem move (m:Machine)(h:n<=m.world.drawn):M n (Go.move p m):=by
 unfold Go.move
 split
 ·(split)
  ·exact h
  ·trivial
 ·(split)
  ·(split)
   ·exact h
   ·exact ask2 _ h
  ·exact ask2 _ h
theorem step (m:Machine)(h:n<=m.world.drawn):S n (Go.step p m):=by
 unfold Go.step stepT
 have:=move (p:=p) m h
 split
 ·rename_i e;rw[e]at this;exact runM _ _ _ this
 ·rename_i e;rw[e]at this;exact this
theorem runN: ∀(k:Nat) (m m':Machine),Go.runN p k m=.next m'->n<=m.world.drawn->n<=m'.world.drawn
 |0,m,m',e,h=>by injection e with e;subst e;exact h
 |k+1,m,m',e,h=>by
  have h1:=step (p:=p) m h
  unfold Go.runN at e
  split at e
  ·rename_i e1;rw[e1]at h1;exact runN k _ _ e h1
  ·rename_i h2;exact absurd e (h2 _)
theorem steps {m m':Machine}(h:Steps p m m'):m.world.drawn<=m'.world.drawn:=by
 obtain⟨k,hk⟩:=h
 exact runN k m m' hk (Qo _)
theorem calls {f:FuncId}{args:Array Value}{w:World}{Q:Ending->World->Prop}(h:Calls p f args w Q):Calls p f args w fun e w'=>Q e w'/\∀v,e=.returned v->w.drawn<=w'.drawn:=fun cs=>by
 obtain⟨e,w',fr,hq,hc,hf,hl⟩:=h cs
 refine⟨e,w',fr,⟨hq,fun v hv=>?_⟩,hc,hf,hl⟩
 subst hv
 exact steps hc
end Go.Dr
end
section
namespace Go.A
open Go.RowKit Go.Z Go.Shelf Go.Proofs Go.Sort
section
variable {α:Type}
def cl0 (cmp:α->α->Option Int)(x y:α):Bool:=match cmp x y with
 |some c=>decide (c<0)
 |none=>false
def srtI (lt:α->α->Bool)(x:α):List α->List α
 | []=>[x]
 |y::l=>bif lt y x then y::srtI lt x l else x::y::l
def srtL (lt:α->α->Bool):List α->List α
 | []=>[]
 |x::l=>srtI lt x (srtL lt l)
def ordB [DecidableEq α](cmp:α->α->Option Int)(xs:List α):Bool:=xs.all fun x=>xs.all fun y=>(cmp x y).isSome&&(bif cl0 cmp x y then !cl0 cmp y x else cl0 cmp y x||decide (x=y))&&xs.all fun z=> !(cl0 cmp x y&&cl0 cmp y z)||cl0 cmp x z
def srtF [DecidableEq α](cmp:α->α->Option Int)(xs:List α):Option (List α):=if ordB cmp xs=true then some (srtL (cl0 cmp) xs)else none
structure OrdOn (lt:α->α->Bool) (X:List α):Prop where
 asym: ∀x∈X,∀y∈X,lt x y=true->lt y x=false
 tri: ∀x∈X,∀y∈X,lt x y=false->lt y x=false->x=y
 trans: ∀x∈X,∀y∈X,∀z∈X,lt x y=true->lt y z=true->lt x z=true
theorem OrdOn.nt {lt:α->α->Bool}{X:List α}(O:OrdOn lt X){x y z:α}(hx:x∈X)(hy:y∈X)(hz:z∈X)(h1:lt x y=false)(h2:lt y z=false):lt x z=false:=by
 cases h3:lt x z with
 |false=>rfl
 |true=>
  cases h4:lt y x with
  |true=>rw[O.trans y hy x hx z hz h4 h3]at h2;cases h2
  |false=>
   have:=O.tri x hx y hy h1 h4
   subst this;rw[h3]at h2;cases h2
theorem ordB_on [DecidableEq α]{cmp:α->α->Option Int}{xs:List α}(h:ordB cmp xs=true):OrdOn (cl0 cmp) xs/\∀x∈xs,∀y∈xs,∃c,cmp x y=some c:=by
 unfold ordB at h
 have key: ∀x∈xs,∀y∈xs,((cmp x y).isSome=true/\(bif cl0 cmp x y then !cl0 cmp y x else cl0 cmp y x||decide (x=y))=true)/\∀z∈xs,(!(cl0 cmp x y&&cl0 cmp y z)||cl0 cmp x z)=true:=fun x hx y hy=>by
  have:=Qx.1 (Qx.1 h x hx) y hy
  rw[Qe,Qe,Qx]at this
  exact this
 refine⟨⟨fun x hx y hy h1=>?_,fun x hx y hy h1 h2=>?_,fun x hx y hy z hz h1 h2=>?_⟩,fun x hx y hy=>Xg.1 (key x hx y hy).1.1⟩
 ·have:=(key x hx y hy).1.2
  rw[h1,cond_true,Xt]at this;exact this
 ·have:=(key x hx y hy).1.2
  rw[h1,h2,cond_false,Jr,X5]at this;exact this
 ·have:=(key x hx y hy).2 z hz
  rw[h1,h2]at this;exact this
theorem Qdy (lt:α->α->Bool)(x:α): ∀l:List α,(srtI lt x l).Perm (x::l)
 | []=>List.Perm.refl _
 |y::l=>by
  unfold srtI
  cases lt y x with
  |true=>exact((Qdy lt x l).cons y).trans (List.Perm.swap x y l)
  |false=>exact List.Perm.refl _
theorem Qbf (lt:α->α->Bool): ∀l:List α,(srtL lt l).Perm l
 | []=>List.Perm.refl _
 |x::l=>(Qdy lt x _).trans ((Qbf lt l).cons x)
theorem srtI_pw {lt:α->α->Bool}{X:List α}(O:OrdOn lt X){x:α}(hx:x∈X): ∀l:List α,(∀a∈l,a∈X)->l.Pairwise (fun a b=>lt b a=false)->(srtI lt x l).Pairwise (fun a b=>lt b a=false)
 | [],_,_=>Xr ..
 |y::l,hl,hp=>by
  have hy:=hl y (Qg ..)
  have hl2: ∀a∈l,a∈X:=fun a ha=>hl a (Qf _ ha)
  rw[Wi]at hp
  unfold srtI
  cases h:lt y x with
  |true=>
   refine Wi.2 ⟨fun b hb=>?_,srtI_pw O hx l hl2 hp.2⟩
   rcases Qk.1 ((Qdy lt x l).mem_iff.1 hb)with rfl|hb
   ·exact O.asym y hy b hx h
   ·exact hp.1 b hb
  |false=>
   refine Wi.2 ⟨fun b hb=>?_,Wi.2 hp⟩
   rcases Qk.1 hb with rfl|hb
   ·exact h
   ·exact O.nt (hl2 b hb) hy hx (hp.1 b hb) h
theorem srtL_pw {lt:α->α->Bool}{X:List α}(O:OrdOn lt X): ∀l:List α,(∀a∈l,a∈X)->(srtL lt l).Pairwise (fun a b=>lt b a=false)
 | [],_=>List.Pairwise.nil
 |x::l,hl=>srtI_pw O (hl x (Qg ..)) _ (fun a ha=>hl a (Qf _ ((Qbf lt l).mem_iff.1 ha))) (srtL_pw O l fun a ha=>hl a (Qf _ ha))
theorem srt_uniq {lt:α->α->Bool}{xs ys:List α}(O:OrdOn lt xs)(hp:ys.Perm xs)(hs:ys.Pairwise (fun a b=>lt b a=false)):ys=srtL lt xs:=
 List.Perm.eq_of_pairwise (le:=fun a b=>lt b a=false) (fun a b ha hb h1 h2=>O.tri a (hp.mem_iff.1 ha) b ((Qbf lt xs).mem_iff.1 hb) h2 h1) hs (srtL_pw O xs fun a h=>h) (hp.trans (Qbf lt xs).symm)
end
theorem Qik: ∀{t:Ty},t.flat=true->lv t=0
 | .int _,_=>rfl
 | .byte,_=>rfl
 | .bool,_=>rfl
 | .str,_=>rfl
 | .slice _,h=>by cases h
 | .pair a b,h=>by
  simp only[Ty.flat,Qe]at h
  show lv a+lv b=0
  rw[Qik h.1,Qik h.2]
theorem cl_len: ∀{t:Ty} (x:t.den) (ps:Lf),t.flat=true->(cl t x ps).length=t.size
 | .int _,_,_,_=>rfl
 | .byte,_,_,_=>rfl
 | .bool,_,_,_=>rfl
 | .str,_,_,_=>rfl
 | .slice _,_,_,h=>by cases h
 | .pair a b,x,ps,h=>by
  simp only[Ty.flat,Qe]at h
  show(cl a x.1 _++cl b x.2 _).length=a.size+b.size
  rw[Wg,cl_len x.1 _ h.1,cl_len x.2 _ h.2]
theorem cl_one: ∀{t:Ty} (x:t.den) (ps:Lf),t.flat=true->∀v∈cl t x ps,v.oneCell'=true
 | .int _,_,_,_,v,hv=>by obtain rfl:=Qm.1 hv;rfl
 | .byte,_,_,_,v,hv=>by obtain rfl:=Qm.1 hv;rfl
 | .bool,_,_,_,v,hv=>by obtain rfl:=Qm.1 hv;rfl
 | .str,_,_,_,v,hv=>by obtain rfl:=Qm.1 hv;rfl
 | .slice _,_,_,h,_,_=>by cases h
 | .pair a b,x,ps,h,v,hv=>by
  simp only[Ty.flat,Qe]at h
  rcases Q0.1 (show v∈cl a x.1 _++cl b x.2 _ from hv)with hv|hv
  ·exact cl_one x.1 _ h.1 v hv
  ·exact cl_one x.2 _ h.2 v hv
theorem rep_cl0 {t:Ty}(ht:t.flat=true){w:World}{F:Nat->Prop}{cs:List Value}{x:t.den}(h:t.rep w F cs x):cs=cl t x []:=by
 obtain⟨ps,hp,hc,_⟩:=rep_cl (B:=fun _ _=>False) t h
 rw[Qik ht]at hp
 obtain rfl:=Wj hp
 exact hc
theorem ch_grow {W w':World}(h:Ch [] W w')(hd:W.drawn<=w'.drawn): ∃q os',w'=grow (W.drewN q) os':=by
 refine⟨w'.drawn-W.drawn,w'.heap.extract W.heap.size w'.heap.size,?_⟩
 obtain⟨h1,h2,h3,h4,h5⟩:=h
 obtain⟨heap',tape',drawn',os',output'⟩:=w'
 obtain⟨heap,tape,drawn,os,output⟩:=W
 simp only at h1 h2 h3 h4 h5 hd
 subst h1;subst h2;subst h3
 have e:heap'=heap++heap'.extract heap.size heap'.size:=by
  refine Array.ext_getElem? fun i=>?_
  by_cases hi:i<heap.size
  ·rw[h5 i hi (by simp),Wt hi]
  ·rw[Array.getElem?_append_right (by omega),Array.getElem?_extract]
   split
   ·congr 1;omega
   ·rw[X9 (by omega)]
 show World.mk heap' tape' drawn' os' output'=World.mk (heap++heap'.extract heap.size heap'.size) tape' (drawn+(drawn'-drawn)) os' output'
 rw[<-e,Nat.add_sub_cancel' hd]
theorem Hp.none (W:World)(F:Nat->Prop):Hp ⟨0,[],W,[],F⟩ [] W:=⟨Ch.refl _,fun k r h=>(by cases h),fun k b ⟨_,h,_⟩=>(by cases h),fun k k' b ⟨_,h,_⟩=>(by cases h),fun k r j h=>(by cases h)⟩
theorem Ct.cmp {P:Program}{g:Nat}{vs:List Value}{c:Int}{R:Value->List (Nat×Res)->Prop}(h:Ct P g vs [] [] R)(hR: ∀v H',R v H'->v=.int .i64 c)(W:World):Calls P g vs.toArray W fun e w'=>e=.returned (.int .i64 c)/\∃q os',w'=grow (W.drewN q) os':=
 (Dr.calls (h W (fun _=>False) (Hp.none W _))).mono fun e w' ⟨⟨v,H',he,hr,hh⟩,hd⟩=>⟨by rw[he,hR v H' hr],ch_grow hh.ch (hd v he)⟩
theorem Qdp {α:Type}[Inhabited α](enc:α->List Value)(k:Nat)(d:Array α){i j:Nat}{x:α}(hx:d[i]?=some x)(hj:j<k):i*k+j<d.size*k/\(flatK enc k d)[i*k+j]! =(enc x)[j]! :=by
 obtain⟨hi,he⟩:=Qp.1 hx
 have lt:i*k+j<d.size*k:=by
  have:=Q5 k (show i+1<=d.size from hi);rw[W6,X7]at this;omega
 have e1:(i*k+j) / k=i:=(blk_iff k i _ (by omega)).1 ⟨by omega,by omega⟩
 have e2:(i*k+j)%k=j:=by rw[Nat.mod_eq_sub_div_mul,e1];omega
 refine⟨lt,?_⟩
 rw[get_flatK _ _ _ _ lt,e1,e2,getElem!_pos d i hi,he]
theorem lgetb {l:List Value}{j:Nat}(h:j<l.length):l[j]?=some l[j]! :=by rw[Qh h,getElem!_pos l j h]
theorem put_id (d:Array Value)(c:Array Value)(j:Nat):(putCells id 0 d c)[j]?=(c[j]?).map fun x=>if j<d.size then d[j]! else x:=by
 unfold putCells
 rw[Array.getElem?_mapIdx]
 congr 1;funext x
 simp
theorem Ct.sortF {P:Program}{ρ:Ren}{f:Nat}(L:SlLaysF0.n6 P ρ)(hf:ρ.f 6=f){t:Ty}[DecidableEq t.den]{e:TypeId}(ht:t.flat=true)
  (aE: ∀w,(isAgg (ρ.t 24)).run P w=.ok true w) (zE: ∀w,(Go.sizeOf (ρ.t 24)).run P w=.ok t.size w) (A:Option Addr) (c:Nat) (g:Nat) (cmp:t.den->t.den->Option Int)
  (eg: ∀args w,(callFunc g args).run P w=.ok (.enter g args) w)
  (hc: ∀x y r,t.ok x->t.ok y->cmp x y=some r->∃R,Ct P g [.agg (cl t x []).toArray,.agg (cl t y []).toArray] [] [] R/\∀v H',R v H'->v=.int .i64 r)
  (xs r:List t.den) (hm:xs.length<4611686018427387904) (hr:srtF cmp xs=some r):
  Ct P f [.slice A xs.length c,.func (.func g) #[] #[]] [(0,.own t e A c xs)] (obl A) (fun v H'=>v=.tuple #[]/\H'=[(0,.own t e A c r)]/\r.length=xs.length):=fun w F hh=>by
 subst hf
 obtain⟨hord,hr⟩:ordB cmp xs=true/\srtL (cl0 cmp) xs=r:=by
  unfold srtF at hr
  split at hr
  ·rename_i h;exact⟨h,Ws hr⟩
  ·cases hr
 obtain⟨O,tot⟩:=ordB_on hord
 have hlen:r.length=xs.length:=by rw[<-hr];exact(Qbf (cl0 cmp) xs).length_eq
 obtain⟨cells,hrow,h1,h2⟩:Own t e 0 w (Fh ⟨0,[],w,obl A,F⟩ [(0,.own t e A c xs)]) A c xs:=hh.hold 0 _ rfl
 have hok: ∀x∈xs,t.ok x:=fun x hx=>by
  obtain⟨i,hi⟩:=Yx hx
  exact rep_ok t (h2 i x hi)
 by_cases hx0:xs=[]
 ·subst hx0
  obtain rfl:r=[]:=by rw[<-hr];rfl
  refine(AnyF.slices_SortFunc_none L A c _ w).mono ?_
  rintro e' w' ⟨rfl,rfl⟩
  exact⟨_,_,rfl,⟨rfl,rfl,rfl⟩,hh⟩
 rcases hrow.2 with⟨hv,hn⟩|⟨b,cap,cur,hv,hb,hg,hnc,hcm,hcs,htake⟩
 ·exact absurd (Wj hn) hx0
 injection hv with hA _ hcap
 subst hA;subst hcap
 have hglt:b<w.heap.size:=(Qp.1 hg).1
 have hk:=Qan t
 have hbound: ∀{n i j:Nat},i<n->j<t.size->i*t.size+j<n*t.size:=fun {n i j} hi hj=>by
  have:=Q5 t.size (show i+1<=n from hi);rw[W6,X7]at this;omega
 have hcell: ∀i x,xs[i]?=some x->∀j,j<t.size->cur[i*t.size+j]?=(cl t x [])[j]?:=fun i x hx j hj=>by
  have h3:=rep_cl0 ht (h2 i x hx)
  have hi:=(Qb.1 hx).1
  rw[<-h3,Q6 hj,Q8,<-htake,Wq,Qj (hbound hi hj)]
  simp
 haveI:Inhabited {x // x∈xs}:=⟨⟨xs.head hx0,List.head_mem hx0⟩⟩
 let enc:{x // x∈xs}->List Value:=fun x=>cl t x.1 []
 have he: ∀x,(enc x).length=t.size:=fun x=>cl_len x.1 [] ht
 let cf:{x // x∈xs}->{x // x∈xs}->Int:=fun x y=>(cmp x.1 y.1).getD 0
 have hlt: ∀x y,ltOf cf x y=cl0 cmp x.1 y.1:=fun x y=>by
  obtain⟨c0,h0⟩:=tot x.1 x.2 y.1 y.2
  show decide ((cmp x.1 y.1).getD 0<0)=_
  unfold cl0;rw[h0];rfl
 have hO:SWO (ltOf cf):=by
  refine⟨fun x=>?_,fun x y z h3 h4=>?_,fun x y z h3 h4=>?_⟩
  ·rw[hlt]
   cases h3:cl0 cmp x.1 x.1 with
   |false=>rfl
   |true=>rw[O.asym _ x.2 _ x.2 h3]at h3;cases h3
  ·rw[hlt]at h3 h4 ⊢;exact O.trans _ x.2 _ y.2 _ z.2 h3 h4
  ·rw[hlt]at h3 h4 ⊢;exact O.nt x.2 y.2 z.2 h3 h4
 obtain⟨d,hd⟩: ∃d:Array {x // x∈xs},d=xs.attach.toArray:=⟨_,rfl⟩
 have hds:d.size=xs.length:=by rw[hd];simp
 have hdg: ∀(i:Nat) (x:{x // x∈xs}),d[i]?=some x->xs[i]?=some x.1:=fun i x hx=>by
  rw[hd,W9]at hx
  have:=Qv (Option.map Subtype.val) hx
  rw[<-Qs,Ya]at this;exact this
 have hH:HoldsK enc t.size w b 0 d:=fun j hj=>by
  rw[size_flatK]at hj
  have hi:j / t.size<d.size:=Yf (by rwa[Jg]at hj)
  have hu:=Ja j hk
  have hje:j / t.size*t.size+j%t.size=j:=Jp j t.size
  have hx:d[j / t.size]?=some d[j / t.size]:=Q3 hi
  obtain⟨_,h4⟩:=Qdp enc t.size d hx hu
  rw[hje]at h4
  have h5:=hcell _ _ (hdg _ _ hx) _ hu
  rw[hje]at h5
  refine⟨?_,by simp[World.frozen?,hg]⟩
  rw[Wm,cell_of_row w b j cur e (0,0) hg,h5,h4]
  have hl:j%t.size<(enc d[j / t.size]).length:=by rw[he];exact hu
  have e9:(enc d[j / t.size])[j%t.size]?=some ((enc d[j / t.size])[j%t.size]!):=lgetb hl
  exact e9
 have hcl:CmpLays P g #[] enc t.size cf b 0 d.size w:=fun m os dk _ x y=>by
  obtain⟨c0,h0⟩:=tot x.1 x.2 y.1 y.2
  obtain⟨R,h3,h4⟩:=hc x.1 y.1 c0 (hok _ x.2) (hok _ y.2) h0
  have:cf x y=c0:=by show(cmp x.1 y.1).getD 0=c0;rw[h0];rfl
  rw[this]
  exact Ct.cmp h3 h4 _
 have key:=AnyQ.slices_SortFunc L t.size aE zE enc he (fun x v hv=>cl_one x.1 [] ht v hv) cf hO g #[] b 0 c d w eg hcl hH hglt (by rw[hds];exact hm)
 rw[hds]at key
 refine key.mono ?_
 rintro e' w' ⟨rfl,d',n,os,hp,hs,rfl⟩
 clear key
 obtain⟨hsz,_,hperm⟩:=hp
 have hsz2:d'.size=xs.length:=hsz.trans hds
 have hys:d'.toList.map Subtype.val=r:=by
  rw[<-hr]
  refine srt_uniq O ?_ ?_
  ·have h3:d'.toList.Perm d.toList:=by
    have e1:d'.extract 0 xs.length=d':=by rw[<-hsz2];exact Jc
    have e2:d.extract 0 xs.length=d:=by rw[<-hds];exact Jc
    rw[e1,e2]at hperm;exact hperm
   have h4:=h3.map Subtype.val
   rw[hd]at h4
   have h5:xs.attach.toArray.toList.map Subtype.val=xs:=Ya xs
   rw[h5]at h4;exact h4
  ·refine Y7.2 fun i j hi hj hij=>?_
   rw[Wb,Xh]at hi hj
   have h3:=hs i j (Xl _) hij (by omega)
   rw[hlt,getElem!_pos d' j (by omega),getElem!_pos d' i (by omega)]at h3
   simpa using h3
 have hrg: ∀(i:Nat) (x:t.den),r[i]?=some x->∃y,d'[i]?=some y/\y.1=x:=fun i x hx=>by
  rw[<-hys,Qs,Wh]at hx
  obtain⟨y,h3,h4⟩:=Je.1 hx
  exact⟨y,h3,h4⟩
 generalize hcd:putCells id 0 (flatK enc t.size d') cur=cur'
 have hheap:(sortWorldK enc t.size w b 0 n d' os).heap[b]?=some (.cells cur' e (0,0)):=by
  show((w.heap.modify b (onCells (putCells id 0 (flatK enc t.size d'))))++os)[b]?=_
  rw[Wt (by simpa using hglt),X3,Qj rfl,hg]
  simp only[Q7,onCells,hcd]
 have hch:Ch [b] w (sortWorldK enc t.size w b 0 n d' os):=by
  refine⟨rfl,rfl,rfl,?_,fun k hk hn2=>?_⟩
  ·show w.heap.size<=((w.heap.modify b (onCells (putCells id 0 (flatK enc t.size d'))))++os).size
   simp
  ·show((w.heap.modify b (onCells (putCells id 0 (flatK enc t.size d'))))++os)[k]?=_
   rw[Wt (by simpa using hk),X3,Qd (fun e=>hn2 (Qm.2 e.symm))]
 have hcs':cur'.size=cur.size:=by rw[<-hcd];simp[putCells]
 have hnk:xs.length*t.size<=cur.size:=by rw[hcs];exact Q5 _ hnc
 have hget: ∀(i:Nat) (y:{x // x∈xs}),d'[i]?=some y->∀j,j<t.size->cur'[i*t.size+j]?=(cl t y.1 [])[j]?:=fun i y hy j hj=>by
  have hi:=(Qp.1 hy).1
  obtain⟨h3,h4⟩:=Qdp enc t.size d' hy hj
  have hb2:i*t.size+j<cur.size:=Qq (hbound (by omega) hj) hnk
  rw[<-hcd,put_id,Q3 hb2,Q7,Qj (by rw[size_flatK];exact h3),h4]
  have hl:j<(enc y).length:=by rw[he];exact hj
  show some (enc y)[j]! =(enc y)[j]?
  exact(lgetb hl).symm
 have hown: ∀F':Nat->Prop,Own t e 0 (sortWorldK enc t.size w b 0 n d' os) F' (some ⟨b,0,none⟩) c r:=fun F'=>by
  refine⟨cur'.toList.take (r.length*t.size),⟨?_,.inr ⟨b,c,cur',rfl,Xl _,hheap,by omega,hcm,by rw[hcs',hcs],rfl⟩⟩,fun u hu=>?_,fun i x hx=>?_⟩
  ·rw[Qw,Xh (xs:=cur'),hlen,hcs'];omega
  ·obtain⟨j,hj,rfl⟩:=Xe hu
   rw[Qw]at hj
   have hj2:j<r.length*t.size:=by omega
   have hje:j / t.size*t.size+j%t.size=j:=Jp j t.size
   have hi:j / t.size<d'.size:=by rw[hsz2,<-hlen];exact Yf (by rwa[Jg]at hj2)
   have h3:=hget _ _ (Q3 hi) _ (Ja j hk)
   rw[hje]at h3
   rw[List.getElem_take]
   have hjc:j<cur'.size:=by have:=hj;rw[Xh (xs:=cur')]at this;omega
   rw[Q3 hjc]at h3
   rw[Array.getElem_toList]
   exact cl_one _ [] ht _ (Qt h3.symm)
  ·obtain⟨y,hy,rfl⟩:=hrg i x hx
   have hi:=(Qb.1 hx).1
   have e1:((cur'.toList.take (r.length*t.size)).drop (i*t.size)).take t.size=cl t y.1 []:=by
    refine Wp fun j=>?_
    by_cases hj:j<t.size
    ·rw[Q6 hj,Q8,Wq,Qj (hbound hi hj),Wh]
     exact hget i y hy j hj
    ·rw[Q9 (by rw[Qw];omega),Q9 (by rw[cl_len _ _ ht];omega)]
   rw[e1]
   obtain⟨i0,hi0⟩:=Yx y.2
   have h3:=h2 i0 y.1 hi0
   rw[rep_cl0 ht h3]at h3
   exact rep_flat t ht (rep_to (F':=no) (rep_flat (F':=no) t ht h3) hch (fun _ h _=>h.elim))
 refine⟨_,[(0,.own t e (some ⟨b,0,none⟩) c r)],rfl,⟨rfl,rfl,hlen⟩,?_⟩
 have h3:=Hp.ren (Hp.upd (k:=0) (r':=.own t e (some ⟨b,0,none⟩) c r) hh hch (fun k hb2=>⟨_,rfl,hb2⟩) (fun k hb2=>.inl ⟨_,rfl,hb2⟩) (fun j hj=>by cases hj) fun F' B _ _ _ _ _=>hown _) [(0,0)] rfl rfl
 exact⟨h3.ch,h3.hold,h3.bnd,h3.dis,h3.ref⟩
abbrev srt64 (xs:List Int):List Int:=xs.mergeSort fun x y=>decide (x<=y)
theorem srt64_len (xs:List Int):(srt64 xs).length=xs.length:=List.length_mergeSort ..
theorem put_get64 (enc:Int->Value)(d:Array Int)(c:Array Value)(j:Nat):(putCells enc 0 d c)[j]?=(c[j]?).map fun x=>if j<d.size then enc d[j]! else x:=by
 unfold putCells
 rw[Array.getElem?_mapIdx]
 congr 1;funext x
 simp
theorem Ct.sortI {P:Program}{ρ:Ren}{f:Nat}(L:SlLaysM.n5 P ρ)(hf:ρ.f 5=f){e:TypeId}(A:Option Addr)(c:Nat)(xs r:List Int)(hm:xs.length<4611686018427387904)(hr:some (srt64 xs)=some r):
  Ct P f [.slice A xs.length c] [(0,.own (.int .i64) e A c xs)] (obl A) (fun v H'=>v=.tuple #[]/\H'=[(0,.own (.int .i64) e A c r)]/\r.length=xs.length):=fun w F hh=>by
 subst hf
 have hr:=Ws hr
 subst hr
 obtain⟨cells,hrow,h1,h2⟩:Own (.int .i64) e 0 w (Fh ⟨0,[],w,obl A,F⟩ [(0,.own (.int .i64) e A c xs)]) A c xs:=hh.hold 0 _ rfl
 have hl:cells.length=xs.length:=by have:=hrow.1;rwa[show(Ty.int .i64).size=1 from rfl,Ym]at this
 have hel: ∀(i:Nat) (x:Int),xs[i]?=some x->cells[i]?=some (.int .i64 x)/\IntKind.i64.has x:=fun i x hx=>by
  obtain⟨h3,h4⟩:(cells.drop (i*1)).take 1=[.int .i64 x]/\IntKind.i64.has x:=h2 i x hx
  rw[Ym]at h3
  have:=Qv List.head? h3
  rw[List.head?_take,Qd (by decide),List.head?_drop]at this
  exact⟨this,h4⟩
 rcases hrow.2 with⟨hv,hn⟩|⟨g,cap,cur,hv,hb,hg,hnc,hcm,hcs,htake⟩
 ·have hx:xs=[]:=Wj hn
  subst hx
  refine(AnyM.slices_Sort_int_none L A c w).mono ?_
  rintro e' w' ⟨rfl,rfl⟩
  exact⟨_,_,rfl,⟨rfl,by simp[srt64],by simp[srt64]⟩,hh⟩
 ·injection hv with hA _ hc
  subst hA;subst hc
  rw[show(Ty.int .i64).size=1 from rfl,Ym]at hcs htake
  have hglt:g<w.heap.size:=(Qp.1 hg).1
  have hcur: ∀(i:Nat) (x:Int),xs[i]?=some x->cur[i]?=some (.int .i64 x):=fun i x hx=>by
   have h3:=(hel i x hx).1
   rw[<-htake,Wq]at h3
   split at h3
   ·simpa using h3
   ·cases h3
  have hH:Holds (Value.int .i64) w g 0 xs.toArray:=fun j hj=>by
   have hj':j<xs.length:=by simpa using hj
   refine⟨?_,by simp[World.frozen?,hg]⟩
   rw[Wm,cell_of_row w g j cur e (0,0) hg,hcur j xs[j] (Qh hj')]
   simp[hj']
  refine(AnyM.slices_Sort_int L g 0 c xs w hH hglt hm).mono ?_
  rintro e' w' ⟨rfl,n,os,rfl⟩
  have hsl:=srt64_len xs
  have hmem: ∀x,x∈srt64 xs->x∈xs:=fun x hx=>List.mem_mergeSort.1 hx
  generalize hcd:putCells (Value.int .i64) 0 (srt64 xs).toArray cur=cur'
  have hheap:(grow (putRow (Value.int .i64) (Sort.ahead w n) g 0 (srt64 xs).toArray) os).heap[g]?=some (.cells cur' e (0,0)):=by
   show((w.heap.modify g (onCells (putCells (Value.int .i64) 0 (srt64 xs).toArray)))++os)[g]?=_
   rw[Wt (by simpa using hglt),X3,Qj rfl,hg]
   simp only[Q7,onCells,hcd]
  have hch:Ch [g] w (grow (putRow (Value.int .i64) (Sort.ahead w n) g 0 (srt64 xs).toArray) os):=by
   refine⟨rfl,rfl,rfl,?_,fun k hk hn2=>?_⟩
   ·show w.heap.size<=((w.heap.modify g (onCells (putCells (Value.int .i64) 0 (srt64 xs).toArray)))++os).size
    simp
   ·show((w.heap.modify g (onCells (putCells (Value.int .i64) 0 (srt64 xs).toArray)))++os)[k]?=_
    rw[Wt (by simpa using hk),X3,Qd (fun e=>hn2 (Qm.2 e.symm))]
  have hcs':cur'.size=cur.size:=by rw[<-hcd];simp[putCells]
  have hget: ∀j,j<xs.length->cur'[j]?=((srt64 xs)[j]?).map (.int .i64 ·):=fun j hj=>by
   have hj2:j<(srt64 xs).length:=by omega
   rw[<-hcd,put_get64,hcur j xs[j] (Qh hj),Q7,Xs,Qj hj2,Qh hj2,show(srt64 xs).toArray[j]! =(srt64 xs)[j]from by rw[getElem!_pos _ j (by simpa using hj2)];rfl]
   rfl
  have hown: ∀F':Nat->Prop,Own (.int .i64) e 0 (grow (putRow (Value.int .i64) (Sort.ahead w n) g 0 (srt64 xs).toArray) os) F' (some ⟨g,0,none⟩) c (srt64 xs):=fun F'=>by
   have htl:cur'.toList.take (srt64 xs).length=(srt64 xs).map (.int .i64 ·):=by
    refine Wp fun j=>?_
    rw[Wq,Qs]
    split
    ·have:=hget j (by omega)
     rw[<-this];simp
    ·rw[Q9 (by omega)];rfl
   refine⟨(srt64 xs).map (.int .i64 ·),⟨by rw[show(Ty.int .i64).size=1 from rfl,Ym,Wb],.inr ⟨g,c,cur',rfl,Xl _,hheap,by omega,hcm,by rw[show(Ty.int .i64).size=1 from rfl,Ym];omega,by rw[show(Ty.int .i64).size=1 from rfl,Ym];exact htl⟩⟩,fun u hu=>?_,fun i x hx=>?_⟩
   ·obtain⟨x,_,rfl⟩:=Wx.1 hu;rfl
   ·have hi:=(Qb.1 hx).1
    have hx2:=hmem x (Qt hx)
    obtain⟨k,hk⟩:=Yx hx2
    refine⟨?_,(hel k x hk).2⟩
    show(((srt64 xs).map (Value.int .i64 ·)).drop (i*1)).take 1=[.int .i64 x]
    rw[Ym]
    have hm2:((srt64 xs).map (Value.int .i64 ·))[i]?=some (.int .i64 x):=by rw[Qs,hx];rfl
    rw[X2 (by rw[Wb];exact hi)]
    rw[Qh (by rw[Wb];exact hi)]at hm2
    injection hm2 with hm2
    rw[hm2];rfl
  refine⟨_,[(0,.own (.int .i64) e (some ⟨g,0,none⟩) c (srt64 xs))],rfl,⟨rfl,rfl,hsl⟩,?_⟩
  have h3:=Hp.ren (Hp.upd (k:=0) (r':=.own (.int .i64) e (some ⟨g,0,none⟩) c (srt64 xs)) hh hch (fun b hb2=>⟨_,rfl,hb2⟩) (fun b hb2=>.inl ⟨_,rfl,hb2⟩) (fun j hj=>by cases hj) fun F' B _ _ _ _ _=>hown _) [(0,0)] rfl rfl
  exact⟨h3.ch,h3.hold,h3.bnd,h3.dis,h3.ref⟩
end Go.A
end
section
namespace Go.Proofs.YtlbdgahbamalcaaGreatDoor
open Go.RowKit Go.Shelf Go.Lib
abbrev l4a:List Value:=[A.i 0,A.i 0,.slice none 0 0,A.i 0,A.i 0,.string (ByteArray.mk #[]),.string (ByteArray.mk #[]),A.i 0,A.i 0]
abbrev l4b:List Value:=A.zz8
abbrev l4c:List Nat:=[0,1,2,3,4,5,6]
abbrev l4d:List Nat:=[0,1,2,3,138,139,140,141]
abbrev l4e:List Nat:=[0,1,2,3,4,64,65,72]
abbrev l4f:List Nat:=[0,1,2,3,4,64,65]
abbrev l4g:List Nat:=[0,1,2,3,138,139,140]
abbrev l4h:List Nat:=[0,1,2,3,4,5,6,7]
abbrev l4i:List Nat:=[0,1,3,4,5,6,112,113]
abbrev l4j:List Nat:=[0,1,102,198]
abbrev l4k:List Value:=[A.i 0]
abbrev l4l:List Nat:=[0,1,240]
abbrev l4m:List Nat:=[0,1]
variable(A0_ A1_ A2_ A4_ A5_ A6_ A7_ A8_ A13_:Option Addr)(b0_ g0_ b1_ c1_ b2_ c2_ g2_ b3_ c3_ b4_ g4_ b5_ c5_ b6_ c6_ g6_ c7_ c8_ c9_ g10_ c14_:Nat)
def Tryz.laysSort35_ren:Go.Shelf.Ren:=⟨fun|5=>35|8=>53|7=>52|19=>76|20=>77|10=>67|11=>68|12=>69|13=>70|14=>71|15=>72|16=>73|17=>74|18=>75|30=>111|31=>112|32=>113|33=>114|34=>115|35=>116|40=>136|n=>n,fun|23=>58|25=>2|3=>3|32=>120|22=>58|0=>0|44=>149|46=>151|4=>4|36=>141|35=>140|41=>146|5=>5|9=>9|53=>180|57=>184|63=>221|64=>187|n=>n,fun|n=>n⟩
theorem Tryz.laysSort35:Go.Proofs.SlLaysM.n5 Tryz.prog Tryz.laysSort35_ren where
 mixed:=by kernel_rfl
 f5:=⟨"slices.Sort[[]int64,int64]",by decide,Tryz.func35.trans (Qv some (by kernel_rfl))⟩
 f7:=⟨"slices.pdqsortOrdered[int64]",by decide,Tryz.func52.trans (Qv some (by kernel_rfl))⟩
 f8:=Tryz.func53.trans (Qv some (by kernel_rfl))
 f10:=⟨"slices.insertionSortOrdered[int64]",by decide,Tryz.func67.trans (Qv some (by kernel_rfl))⟩
 f11:=⟨"slices.heapSortOrdered[int64]",by decide,Tryz.func68.trans (Qv some (by kernel_rfl))⟩
 f12:=⟨"slices.breakPatternsOrdered[int64]",by decide,Tryz.func69.trans (Qv some (by kernel_rfl))⟩
 f13:=⟨"slices.choosePivotOrdered[int64]",by decide,Tryz.func70.trans (Qv some (by kernel_rfl))⟩
 f14:=⟨"slices.reverseRangeOrdered[int64]",by decide,Tryz.func71.trans (Qv some (by kernel_rfl))⟩
 f15:=⟨"slices.partialInsertionSortOrdered[int64]",by decide,Tryz.func72.trans (Qv some (by kernel_rfl))⟩
 f16:=⟨"cmp.Less[int64]",by decide,Tryz.func73.trans (Qv some (by kernel_rfl))⟩
 f17:=⟨"slices.partitionEqualOrdered[int64]",by decide,Tryz.func74.trans (Qv some (by kernel_rfl))⟩
 f18:=⟨"slices.partitionOrdered[int64]",by decide,Tryz.func75.trans (Qv some (by kernel_rfl))⟩
 f19:=Tryz.func76.trans (Qv some (by kernel_rfl))
 f20:=Tryz.func77.trans (Qv some (by kernel_rfl))
 f30:=⟨"slices.siftDownOrdered[int64]",by decide,Tryz.func111.trans (Qv some (by kernel_rfl))⟩
 f31:=Tryz.func112.trans (Qv some (by kernel_rfl))
 f32:=Tryz.func113.trans (Qv some (by kernel_rfl))
 f33:=⟨"slices.medianAdjacentOrdered[int64]",by decide,Tryz.func114.trans (Qv some (by kernel_rfl))⟩
 f34:=⟨"slices.medianOrdered[int64]",by decide,Tryz.func115.trans (Qv some (by kernel_rfl))⟩
 f35:=⟨"cmp.isNaN[int64]",by decide,Tryz.func116.trans (Qv some (by kernel_rfl))⟩
 f40:=⟨"slices.order2Ordered[int64]",by decide,Tryz.func136.trans (Qv some (by kernel_rfl))⟩
 t0:=Tryz.underlying0
 a0:=Tryz.isAgg0
 z0:=Tryz.sizeOf0
 v0:=Tryz.zeroValue0
 t3:=Tryz.underlying3
 a3:=Tryz.isAgg3
 z3:=Tryz.sizeOf3
 v3:=Tryz.zeroValue3
 t4:=Tryz.underlying4
 a4:=Tryz.isAgg4
 z4:=Tryz.sizeOf4
 v4:=Tryz.zeroValue4
 t5:=Tryz.underlying5
 a5:=Tryz.isAgg5
 z5:=Tryz.sizeOf5
 v5:=Tryz.zeroValue5
 t9:=Tryz.underlying9
 a9:=Tryz.isAgg9
 z9:=Tryz.sizeOf9
 v9:=Tryz.zeroValue9
 t22:=Tryz.underlying58
 a22:=Tryz.isAgg58
 z22:=Tryz.sizeOf58
 v22:=Tryz.zeroValue58
 t23:=Tryz.underlying58
 a23:=Tryz.isAgg58
 z23:=Tryz.sizeOf58
 v23:=Tryz.zeroValue58
 t25:=Tryz.underlying2
 a25:=Tryz.isAgg2
 z25:=Tryz.sizeOf2
 v25:=Tryz.zeroValue2
 t32:=Tryz.underlying120
 a32:=Tryz.isAgg120
 z32:=Tryz.sizeOf120
 v32:=Tryz.zeroValue120
 t35:=Tryz.underlying140
 a35:=Tryz.isAgg140
 z35:=Tryz.sizeOf140
 v35:=Tryz.zeroValue140
 t36:=Tryz.underlying141
 a36:=Tryz.isAgg141
 z36:=Tryz.sizeOf141
 v36:=Tryz.zeroValue141
 t41:=Tryz.underlying146
 a41:=Tryz.isAgg146
 z41:=Tryz.sizeOf146
 v41:=Tryz.zeroValue146
 t44:=Tryz.underlying149
 a44:=Tryz.isAgg149
 z44:=Tryz.sizeOf149
 v44:=Tryz.zeroValue149
 t46:=Tryz.underlying151
 a46:=Tryz.isAgg151
 z46:=Tryz.sizeOf151
 v46:=Tryz.zeroValue151
 t53:=Tryz.underlying180
 a53:=Tryz.isAgg180
 z53:=Tryz.sizeOf180
 v53:=Tryz.zeroValue180
 t57:=Tryz.underlying184
 a57:=Tryz.isAgg184
 z57:=Tryz.sizeOf184
 v57:=Tryz.zeroValue184
 t63:=Tryz.underlying221
 a63:=Tryz.isAgg221
 z63:=Tryz.sizeOf221
 v63:=Tryz.zeroValue221
 t64:=Tryz.underlying187
 a64:=Tryz.isAgg187
 z64:=Tryz.sizeOf187
 v64:=Tryz.zeroValue187
def F.aJ (o:List Int):Option (List Int):=A.gd (o.length<4611686018427387904) (some (A.srt64 o))
theorem o_aj(o:List Int)(r:List Int)(s:F.aJ o=some r):
  A.Ct Tryz.prog 35 [.slice A0_ o.length c1_] [(0,.own A.ti 2 A0_ c1_ o)] (Z.obl A0_++[]) (fun v H'=>v=.tuple #[]/\H'=[(0,.own A.ti 2 A0_ c1_ r)]/\r.length=o.length):=by
 have⟨hc,s⟩:=Vs s;rw[W8]
 exact A.Ct.sortI Tryz.laysSort35 rfl A0_ c1_ o r hc s
end Go.Proofs.YtlbdgahbamalcaaGreatDoor
end
section
namespace Go.A
open Go.RowKit Go.Z Go.Shelf Go.Proofs
theorem cmpb_has: ∀a b:List UInt8,IntKind.i64.has (Lib.compareBytes a b)
 | [],[]=>by unfold Lib.compareBytes;decide
 | [],_::_=>by unfold Lib.compareBytes;decide
 |_::_,[]=>by unfold Lib.compareBytes;decide
 |x::a,y::b=>by
  unfold Lib.compareBytes
  have:=cmpb_has a b
  repeat' split
  all_goals first|assumption|decide
theorem Hem.bh {r:Option Nat}{P:Program}{ops:Array Oper}{Q:Exit->Act->World->Prop}{S S':World->Prop}{m m':Nat}: ∀(f:Nat) (li:Array Bool) (a:Act) (w:World),gn ops li m=true->Hem r P ops Q S' m' f li a w->Hem r P ops Q S m f li a w
 |0,_,_,_,_,h=>h
 |f+1,li,a,w,hg,h=>⟨h.1,fun i hi=>wpOpIn_mono (fun a' w' h'=>by
   have hg':gn ops (li.setIfInBounds i true) m=true:=by
    cases hq:gn ops (li.setIfInBounds i true) m with
    |true=>rfl
    |false=>rw[Qfq hq]at hg;cases hg
   exact⟨fun hm=>(by rw[hg']at hm;cases hm),Hem.bh f _ a' w' hg' h'.2⟩) (h.2 i hi)⟩
theorem AH.bh {r:Option Nat}{P:Program}{ops:Array Oper}{Q:Exit->Act->World->Prop}{Hq:List (Nat×Res)}{m f:Nat}{li:List Bool}{C:Cx}{l:List (Nat×Value)}{H:List (Nat×Res)}(m':Nat)(h:AH r P ops Q [] m' f li C l H)(hg:gn ops li.toArray m=true:=by kernel_rfl):AH r P ops Q Hq m f li C l H:=fun a w hf hh=>
 Hem.bh _ _ a w hg (h a w hf hh)
theorem Ct.scmp {P:Program}{ρ:Ren}{f:Nat}(L:Lays.n106 P ρ)(hf:ρ.f 106=f)(a b:ByteArray)(r:Int)(hr:some (Lib.compareBytes a.data.toList b.data.toList)=some r):
  Ct P f [.string a,.string b] [] [] (fun v H'=>v=.int .i64 r/\H'=[]/\IntKind.i64.has r):=fun w F hh=>by
 subst hf
 have hr:=Ws hr
 subst hr
 refine(Any.strings_Compare L a b w).mono ?_
 rintro e w' ⟨rfl,rfl⟩
 exact⟨_,[],rfl,⟨rfl,rfl,cmpb_has _ _⟩,Ch.refl _,fun k r h=>(by cases h),fun k b ⟨_,h,_⟩=>(by cases h),fun k k' b ⟨_,h,_⟩=>(by cases h),fun k r j h=>(by cases h)⟩
def dem {α β:Type}[DecidableEq β](m:List α)(sn:List Nat)(e:Option β)(g:Nat->α->Option β):Option β:=
 match(List.range m.length).filter (fun i=> !(sn.contains i))with
 | []=>e
 |i::js=>(m[i]?).bind fun p=>if(js.all fun j=>decide (((m[j]?).bind fun q=>g j q)=g i p))=true then g i p else none
theorem dem_some {α β:Type}[DecidableEq β]{m:List α}{sn:List Nat}{e:Option β}{g:Nat->α->Option β}{r:β}(h:dem m sn e g=some r):
  ((∀i,i<m.length->i∈sn)->e=some r)/\∀i p,m[i]?=some p->i∉sn->g i p=some r:=by
 have hmem: ∀i,i∈(List.range m.length).filter (fun i=> !(sn.contains i))↔i<m.length/\i∉sn:=fun i=>by
  rw[List.mem_filter,Yw];simp
 unfold dem at h
 split at h
 ·rename_i hl
  rw[hl]at hmem
  exact⟨fun _=>h,fun i p hp hn=>absurd ((hmem i).2 ⟨(Qb.1 hp).1,hn⟩) (by simp)⟩
 ·rename_i i js hl
  rw[hl]at hmem
  have hi:=(hmem i).1 (Qg ..)
  refine⟨fun hall=>absurd (hall i hi.1) hi.2,fun j q hq hn=>?_⟩
  rw[Qh hi.1,Qa]at h
  split at h
  ·rename_i hall
   rcases Qk.1 ((hmem j).2 ⟨(Qb.1 hq).1,hn⟩)with rfl|hj
   ·rw[Qh hi.1]at hq
    obtain rfl:=Ws hq
    exact h
   ·have:=Wf (Qx.1 hall j hj)
    rw[hq,Qa]at this
    rw[this];exact h
  ·cases h
section
variable {r:Option Nat}{P:Program}{Q:Exit->Act->World->Prop}{C:Cx}{l:List (Nat×Value)}{H:List (Nat×Res)}{ops:Array Oper}{rest:List Oper}{T:TypeId}{pos:String}{af:Array Edge}{d:Nat}
end
end Go.A
end
section
namespace Go.Proofs.YtlbdgahbamalcaaGreatDoor
open Go.RowKit Go.Shelf Go.Lib
def Tryz.laysSortFunc49_ren:Go.Shelf.Ren:=⟨fun|6=>49|15=>53|14=>65|28=>76|29=>77|20=>103|21=>104|22=>105|23=>106|24=>107|25=>108|26=>109|27=>110|46=>133|47=>112|48=>113|49=>134|50=>135|57=>164|n=>n,fun|22=>41|24=>49|25=>117|3=>3|39=>120|0=>0|53=>149|55=>151|4=>4|46=>141|45=>140|50=>146|5=>5|9=>9|66=>180|70=>184|76=>221|77=>187|n=>n,fun|n=>n⟩
theorem Tryz.laysSortFunc49:Go.Proofs.SlLaysF0.n6 Tryz.prog Tryz.laysSortFunc49_ren where
 mixed:=by kernel_rfl
 f6:=⟨"slices.SortFunc[[]rivulet/api.Sheet,rivulet/api.Sheet]",by decide,Tryz.func49.trans (Qv some (by kernel_rfl))⟩
 f14:=⟨"slices.pdqsortCmpFunc[rivulet/api.Sheet]",by decide,Tryz.func65.trans (Qv some (by kernel_rfl))⟩
 f15:=Tryz.func53.trans (Qv some (by kernel_rfl))
 f20:=⟨"slices.insertionSortCmpFunc[rivulet/api.Sheet]",by decide,Tryz.func103.trans (Qv some (by kernel_rfl))⟩
 f21:=⟨"slices.heapSortCmpFunc[rivulet/api.Sheet]",by decide,Tryz.func104.trans (Qv some (by kernel_rfl))⟩
 f22:=⟨"slices.breakPatternsCmpFunc[rivulet/api.Sheet]",by decide,Tryz.func105.trans (Qv some (by kernel_rfl))⟩
 f23:=⟨"slices.choosePivotCmpFunc[rivulet/api.Sheet]",by decide,Tryz.func106.trans (Qv some (by kernel_rfl))⟩
 f24:=⟨"slices.reverseRangeCmpFunc[rivulet/api.Sheet]",by decide,Tryz.func107.trans (Qv some (by kernel_rfl))⟩
 f25:=⟨"slices.partialInsertionSortCmpFunc[rivulet/api.Sheet]",by decide,Tryz.func108.trans (Qv some (by kernel_rfl))⟩
 f26:=⟨"slices.partitionEqualCmpFunc[rivulet/api.Sheet]",by decide,Tryz.func109.trans (Qv some (by kernel_rfl))⟩
 f27:=⟨"slices.partitionCmpFunc[rivulet/api.Sheet]",by decide,Tryz.func110.trans (Qv some (by kernel_rfl))⟩
 f28:=Tryz.func76.trans (Qv some (by kernel_rfl))
 f29:=Tryz.func77.trans (Qv some (by kernel_rfl))
 f46:=⟨"slices.siftDownCmpFunc[rivulet/api.Sheet]",by decide,Tryz.func133.trans (Qv some (by kernel_rfl))⟩
 f47:=Tryz.func112.trans (Qv some (by kernel_rfl))
 f48:=Tryz.func113.trans (Qv some (by kernel_rfl))
 f49:=⟨"slices.medianAdjacentCmpFunc[rivulet/api.Sheet]",by decide,Tryz.func134.trans (Qv some (by kernel_rfl))⟩
 f50:=⟨"slices.medianCmpFunc[rivulet/api.Sheet]",by decide,Tryz.func135.trans (Qv some (by kernel_rfl))⟩
 f57:=⟨"slices.order2CmpFunc[rivulet/api.Sheet]",by decide,Tryz.func164.trans (Qv some (by kernel_rfl))⟩
 t0:=Tryz.underlying0
 a0:=Tryz.isAgg0
 z0:=Tryz.sizeOf0
 v0:=Tryz.zeroValue0
 t3:=Tryz.underlying3
 a3:=Tryz.isAgg3
 z3:=Tryz.sizeOf3
 v3:=Tryz.zeroValue3
 t4:=Tryz.underlying4
 a4:=Tryz.isAgg4
 z4:=Tryz.sizeOf4
 v4:=Tryz.zeroValue4
 t5:=Tryz.underlying5
 a5:=Tryz.isAgg5
 z5:=Tryz.sizeOf5
 v5:=Tryz.zeroValue5
 t9:=Tryz.underlying9
 a9:=Tryz.isAgg9
 z9:=Tryz.sizeOf9
 v9:=Tryz.zeroValue9
 t22:=Tryz.underlying41
 a22:=Tryz.isAgg41
 z22:=Tryz.sizeOf41
 v22:=Tryz.zeroValue41
 t25:=Tryz.underlying117
 a25:=Tryz.isAgg117
 z25:=Tryz.sizeOf117
 v25:=Tryz.zeroValue117
 t39:=Tryz.underlying120
 a39:=Tryz.isAgg120
 z39:=Tryz.sizeOf120
 v39:=Tryz.zeroValue120
 t45:=Tryz.underlying140
 a45:=Tryz.isAgg140
 z45:=Tryz.sizeOf140
 v45:=Tryz.zeroValue140
 t46:=Tryz.underlying141
 a46:=Tryz.isAgg141
 z46:=Tryz.sizeOf141
 v46:=Tryz.zeroValue141
 t50:=Tryz.underlying146
 a50:=Tryz.isAgg146
 z50:=Tryz.sizeOf146
 v50:=Tryz.zeroValue146
 t53:=Tryz.underlying149
 a53:=Tryz.isAgg149
 z53:=Tryz.sizeOf149
 v53:=Tryz.zeroValue149
 t55:=Tryz.underlying151
 a55:=Tryz.isAgg151
 z55:=Tryz.sizeOf151
 v55:=Tryz.zeroValue151
 t66:=Tryz.underlying180
 a66:=Tryz.isAgg180
 z66:=Tryz.sizeOf180
 v66:=Tryz.zeroValue180
 t70:=Tryz.underlying184
 a70:=Tryz.isAgg184
 z70:=Tryz.sizeOf184
 v70:=Tryz.zeroValue184
 t76:=Tryz.underlying221
 a76:=Tryz.isAgg221
 z76:=Tryz.sizeOf221
 v76:=Tryz.zeroValue221
 t77:=Tryz.underlying187
 a77:=Tryz.isAgg187
 z77:=Tryz.sizeOf187
 v77:=Tryz.zeroValue187
def Tryz.laysSortFunc100_ren:Go.Shelf.Ren:=⟨fun|6=>100|15=>53|14=>132|28=>76|29=>77|20=>156|21=>157|22=>158|23=>159|24=>160|25=>161|26=>162|27=>163|46=>188|47=>112|48=>113|49=>189|50=>190|57=>213|n=>n,fun|22=>23|24=>46|25=>174|3=>3|39=>120|0=>0|53=>149|55=>151|4=>4|46=>141|45=>140|50=>146|5=>5|9=>9|66=>180|70=>184|76=>221|77=>187|n=>n,fun|n=>n⟩
theorem Tryz.laysSortFunc100:Go.Proofs.SlLaysF0.n6 Tryz.prog Tryz.laysSortFunc100_ren where
 mixed:=by kernel_rfl
 f6:=⟨"slices.SortFunc[[]rivulet/api.Many,rivulet/api.Many]",by decide,Tryz.func100.trans (Qv some (by kernel_rfl))⟩
 f14:=⟨"slices.pdqsortCmpFunc[rivulet/api.Many]",by decide,Tryz.func132.trans (Qv some (by kernel_rfl))⟩
 f15:=Tryz.func53.trans (Qv some (by kernel_rfl))
 f20:=⟨"slices.insertionSortCmpFunc[rivulet/api.Many]",by decide,Tryz.func156.trans (Qv some (by kernel_rfl))⟩
 f21:=⟨"slices.heapSortCmpFunc[rivulet/api.Many]",by decide,Tryz.func157.trans (Qv some (by kernel_rfl))⟩
 f22:=⟨"slices.breakPatternsCmpFunc[rivulet/api.Many]",by decide,Tryz.func158.trans (Qv some (by kernel_rfl))⟩
 f23:=⟨"slices.choosePivotCmpFunc[rivulet/api.Many]",by decide,Tryz.func159.trans (Qv some (by kernel_rfl))⟩
 f24:=⟨"slices.reverseRangeCmpFunc[rivulet/api.Many]",by decide,Tryz.func160.trans (Qv some (by kernel_rfl))⟩
 f25:=⟨"slices.partialInsertionSortCmpFunc[rivulet/api.Many]",by decide,Tryz.func161.trans (Qv some (by kernel_rfl))⟩
 f26:=⟨"slices.partitionEqualCmpFunc[rivulet/api.Many]",by decide,Tryz.func162.trans (Qv some (by kernel_rfl))⟩
 f27:=⟨"slices.partitionCmpFunc[rivulet/api.Many]",by decide,Tryz.func163.trans (Qv some (by kernel_rfl))⟩
 f28:=Tryz.func76.trans (Qv some (by kernel_rfl))
 f29:=Tryz.func77.trans (Qv some (by kernel_rfl))
 f46:=⟨"slices.siftDownCmpFunc[rivulet/api.Many]",by decide,Tryz.func188.trans (Qv some (by kernel_rfl))⟩
 f47:=Tryz.func112.trans (Qv some (by kernel_rfl))
 f48:=Tryz.func113.trans (Qv some (by kernel_rfl))
 f49:=⟨"slices.medianAdjacentCmpFunc[rivulet/api.Many]",by decide,Tryz.func189.trans (Qv some (by kernel_rfl))⟩
 f50:=⟨"slices.medianCmpFunc[rivulet/api.Many]",by decide,Tryz.func190.trans (Qv some (by kernel_rfl))⟩
 f57:=⟨"slices.order2CmpFunc[rivulet/api.Many]",by decide,Tryz.func213.trans (Qv some (by kernel_rfl))⟩
 t0:=Tryz.underlying0
 a0:=Tryz.isAgg0
 z0:=Tryz.sizeOf0
 v0:=Tryz.zeroValue0
 t3:=Tryz.underlying3
 a3:=Tryz.isAgg3
 z3:=Tryz.sizeOf3
 v3:=Tryz.zeroValue3
 t4:=Tryz.underlying4
 a4:=Tryz.isAgg4
 z4:=Tryz.sizeOf4
 v4:=Tryz.zeroValue4
 t5:=Tryz.underlying5
 a5:=Tryz.isAgg5
 z5:=Tryz.sizeOf5
 v5:=Tryz.zeroValue5
 t9:=Tryz.underlying9
 a9:=Tryz.isAgg9
 z9:=Tryz.sizeOf9
 v9:=Tryz.zeroValue9
 t22:=Tryz.underlying23
 a22:=Tryz.isAgg23
 z22:=Tryz.sizeOf23
 v22:=Tryz.zeroValue23
 t25:=Tryz.underlying174
 a25:=Tryz.isAgg174
 z25:=Tryz.sizeOf174
 v25:=Tryz.zeroValue174
 t39:=Tryz.underlying120
 a39:=Tryz.isAgg120
 z39:=Tryz.sizeOf120
 v39:=Tryz.zeroValue120
 t45:=Tryz.underlying140
 a45:=Tryz.isAgg140
 z45:=Tryz.sizeOf140
 v45:=Tryz.zeroValue140
 t46:=Tryz.underlying141
 a46:=Tryz.isAgg141
 z46:=Tryz.sizeOf141
 v46:=Tryz.zeroValue141
 t50:=Tryz.underlying146
 a50:=Tryz.isAgg146
 z50:=Tryz.sizeOf146
 v50:=Tryz.zeroValue146
 t53:=Tryz.underlying149
 a53:=Tryz.isAgg149
 z53:=Tryz.sizeOf149
 v53:=Tryz.zeroValue149
 t55:=Tryz.underlying151
 a55:=Tryz.isAgg151
 z55:=Tryz.sizeOf151
 v55:=Tryz.zeroValue151
 t66:=Tryz.underlying180
 a66:=Tryz.isAgg180
 z66:=Tryz.sizeOf180
 v66:=Tryz.zeroValue180
 t70:=Tryz.underlying184
 a70:=Tryz.isAgg184
 z70:=Tryz.sizeOf184
 v70:=Tryz.zeroValue184
 t76:=Tryz.underlying221
 a76:=Tryz.isAgg221
 z76:=Tryz.sizeOf221
 v76:=Tryz.zeroValue221
 t77:=Tryz.underlying187
 a77:=Tryz.isAgg187
 z77:=Tryz.sizeOf187
 v77:=Tryz.zeroValue187
def Tryz.laysCompare_ren:Go.Shelf.Ren:=⟨fun|106=>92|213=>127|265=>142|n=>n,fun|9=>9|3=>3|n=>n,fun|n=>n⟩
theorem Tryz.laysCompare:Go.Proofs.Lays.n106 Tryz.prog Tryz.laysCompare_ren where
 mixed:=by kernel_rfl
 f106:=Tryz.func92.trans (Qv some (by kernel_rfl))
 f213:=Tryz.func127.trans (Qv some (by kernel_rfl))
 f265:=Tryz.func142.trans (Qv some (by kernel_rfl))
 t3:=Tryz.underlying3
 a3:=Tryz.isAgg3
 z3:=Tryz.sizeOf3
 v3:=Tryz.zeroValue3
 t9:=Tryz.underlying9
 a9:=Tryz.isAgg9
 z9:=Tryz.sizeOf9
 v9:=Tryz.zeroValue9
def F.bP (o s:ByteArray):Option Int:=some (Lib.compareBytes o.data.toList s.data.toList)
theorem o_aT (o s:ByteArray)(h0:o.size<=maxLen)(h1:s.size<=maxLen)(r:Int)(u:F.bP o s=some r):
  A.Ct Tryz.prog 92 [.string o,.string s] [] [] (fun v H'=>v=A.i r/\H'=[]/\A.h6 r):=
 A.Ct.scmp Tryz.laysCompare rfl o s r u
end Go.Proofs.YtlbdgahbamalcaaGreatDoor
end
section
namespace Go.Proofs.YtlbdgahbamalcaaGreatDoor
open Go.RowKit
variable(A0_ A1_ A2_ A4_ A5_ A6_ A7_ A8_ A13_:Option Addr)(b0_ g0_ b1_ c1_ b2_ c2_ g2_ b3_ c3_ b4_ g4_ b5_ c5_ b6_ c6_ g6_ c7_ c8_ c9_ g10_ c14_:Nat)
def F.bq (o:UInt8):Option Bool:=some (bif decide ((128:Int)<=(o.toNat:Int))then decide ((o.toNat:Int)<=191)else false)
theorem o_p (o:UInt8)(r:Bool)(s:F.bq o=some r):
    A.Ct Tryz.prog 78 [.int .u8 (o.toNat:Int)] [] [] (fun v H'=>v=.bool r/\H'=[]):=by
 refine Jv Tryz.func78 rfl Tryz.ntmps78 rfl fun w0 u=>?_;rw[F.bq]at s;refine J0 1 ?_;refine J7 1 [] 2 ?_;refine Vw [] [] [.n,.n,.n,.sy .n,.sy .n,.pk,.n] [(2,.bool (bif decide ((128:Int)<=(o.toNat:Int))then decide ((o.toNat:Int)<=191)else false))] 1 ?_;exact A.ke s (Vh ⟨rfl,rfl⟩)
def F.aQ (o:UInt8)(s:UInt8)(u:Bool):Option Int:=if u=true then(if(bif decide ((o.toNat:Int)=240)then decide ((s.toNat:Int)<144)else false)=true then(some 0)else(if(bif decide ((o.toNat:Int)=244)then decide ((143:Int)<(s.toNat:Int))else false)=true then(some 0)else(some 4)))else(some 0)
def F.a8 (y:ByteArray)(u:Int)(o:UInt8)(s:UInt8)(z:Bool):Option Int:=if z=true then(if(bif decide ((o.toNat:Int)=224)then decide ((s.toNat:Int)<160)else false)=true then(some 0)else(if(bif decide ((o.toNat:Int)=237)then decide ((159:Int)<(s.toNat:Int))else false)=true then(some 0)else(some 3)))else(if(bif bif decide ((240:Int)<=(o.toNat:Int))then decide ((o.toNat:Int)<=244)else false then decide ((4:Int)<=(y.size:Int)-u)else false)=true then((F.bq s).bind fun B=>(if B=true then(A.gd (Z.R64 (u+2)) ((A.ix y.data.toList (u+2)).bind fun J=>((F.bq J).bind fun L=>(if L=true then(A.gd (Z.R64 (u+3)) ((A.ix y.data.toList (u+3)).bind fun N=>((F.bq N).bind fun U=>(F.aQ o s U))))else(F.aQ o s false)))))else(F.aQ o s false)))else(F.aQ o s false))
def F.bv (s:ByteArray)(o:Int)(u:UInt8)(y:UInt8)(z:Bool):Option Int:=if z=true then(some 2)else(if(bif bif decide ((224:Int)<=(u.toNat:Int))then decide ((u.toNat:Int)<=239)else false then decide ((3:Int)<=(s.size:Int)-o)else false)=true then((F.bq y).bind fun B=>(if B=true then(A.gd (Z.R64 (o+2)) ((A.ix s.data.toList (o+2)).bind fun J=>((F.bq J).bind fun L=>(F.a8 s o u y L))))else(F.a8 s o u y false)))else(F.a8 s o u y false))
def F.bw (s:ByteArray)(u:Int)(o:UInt8)(y:UInt8):Option Int:=if(o.toNat:Int)<128 then(some 1)else(if(bif bif decide ((194:Int)<=(o.toNat:Int))then decide ((o.toNat:Int)<=223)else false then decide ((2:Int)<=(s.size:Int)-u)else false)=true then((F.bq y).bind fun z=>(F.bv s u o y z))else(F.bv s u o y false))
def F.cu (s:ByteArray)(o:Int):Option Int:=A.gd (Z.R64 ((s.size:Int)-o)) ((A.ix s.data.toList o).bind fun u=>(if(1:Int)<(s.size:Int)-o then(A.gd (Z.R64 (o+1)) ((A.ix s.data.toList (o+1)).bind fun y=>(F.bw s o u y)))else(F.bw s o u (0:UInt8))))
theorem o_bZ (u:ByteArray)(s:Int)(an:u.size<=maxLen)(ao:A.h6 s)(r:Int)(o:F.cu u s=some r):
    A.Ct Tryz.prog 55 [.string u,A.i s] [] [] (fun v H'=>v=A.i r/\H'=[]/\A.h6 r):=by
 refine Jv Tryz.func55 rfl Tryz.ntmps55 rfl fun w0 F0=>?_;rw[F.cu]at o;refine J0 1 ?_;refine J7 1 [] 2 ?_;have⟨a5,o⟩:=Vs o;refine Uf 5 [Z.R64 ((u.size:Int)-s)] [(5,A.i ((u.size:Int)-s))] a5 (Vk 2 ?_);refine V9 2 [(12,.string u),(13,A.i s)] ?_;have⟨y,a6,o⟩:=V6 o;refine A.AL.ixt a6 ?_;refine J7 1 [(6,.int .u8 (y.toNat:Int))] 2 ?_;refine Vc 1 [(7,.int .u8 0)] 1 ?_;refine J4 [0,1,5,6] [] (fun B J=>∃(z:UInt8),B=[(7,.int .u8 (z.toNat:Int))]/\J=[]/\F.bw u s y z=some r) ?_ ?_
 ·refine Vl 1 2 [(16,.bool (decide ((1:Int)<(u.size:Int)-s)))] 1 o ?_ ?_<;>intro L o
  ·refine J0 0 ?_;have⟨a7,o⟩:=Vs o;refine Uf 3 [Z.R64 (s+1)] [(17,.string u),(19,A.i (s+1))] a7 ?_;have⟨Y,a9,o⟩:=V6 o;refine A.AL.ixt a9 ?_;refine V9 1 [(7,.int .u8 (Y.toNat:Int))] (Ju ?_);exact Vn ⟨Y,rfl,rfl,o⟩
  refine V1 1 ?_;exact Vn ⟨(0:UInt8),rfl,rfl,o⟩
 rintro _ _ ⟨z,rfl,rfl,o⟩;rw[F.bw]at o;refine Vl 2 3 [(21,.bool (decide ((y.toNat:Int)<128)))] 1 o ?_ ?_<;>intro L o
 ·refine Va 1 1 [(4,A.i 1)] 1 ?_;exact A.ke o (Vh ⟨rfl,rfl,(Vp 1)⟩)
 refine J4 [0,1,5,6,7] [] (fun B J=>∃(N:Bool),B=[(24,.bool N)]/\J=[]/\F.bv u s y z N=some r) ?_ ?_
 ·refine Vy 0 [] [] [.n,.n,.n,.sy .n,.sy .n,.pk,.n,.sy .n,.sy .n,.pk,.n] [(35,.bool (bif bif decide ((194:Int)<=(y.toNat:Int))then decide ((y.toNat:Int)<=223)else false then decide ((2:Int)<=(u.size:Int)-s)else false))] ?_;refine V2 (j:=35) rfl o (fun o=>?_) (fun o=>?_)
  ·refine J5 [] [] [.on .n] [(36,.int .u8 (z.toNat:Int))] (Vu (dj:=35) rfl rfl ?_);refine Vx 0 [] o (o_p z) .nil ?_;rintro a2 - o _ _ ⟨rfl,rfl⟩;refine J9 (V9 2 [(24,.bool a2)] (Ju ?_));exact Vn ⟨a2,rfl,rfl,o⟩
  refine J5 [] [] [.off,.off,.n,.n] [(24,.bool false)] (Ju ?_);exact Vn ⟨false,rfl,rfl,o⟩
 rintro _ _ ⟨N,rfl,rfl,o⟩;rw[F.bv]at o;refine Uk o ?_ ?_<;>intro L o
 ·refine Va 1 1 [(4,A.i 2)] 1 ?_;exact A.ke o (Vh ⟨rfl,rfl,(Vp 2)⟩)
 refine J4 [0,1,5,6,7] [] (fun B J=>∃(U:Bool),B=[(39,.bool U)]/\J=[]/\F.a8 u s y z U=some r) ?_ ?_
 ·refine Vy 0 [] [] [.n,.n,.n,.sy .n,.sy .n,.pk,.n,.sy .n,.sy .n,.pk,.n] [(50,.bool (bif bif decide ((224:Int)<=(y.toNat:Int))then decide ((y.toNat:Int)<=239)else false then decide ((3:Int)<=(u.size:Int)-s)else false))] ?_;refine V2 (j:=50) rfl o (fun o=>?_) (fun o=>?_)
  ·refine J5 [] [] [.on .n] [(51,.int .u8 (z.toNat:Int))] (Vu (dj:=50) rfl rfl ?_);refine Vx 40 [] o (o_p z) .nil ?_;rintro aa - o _ _ ⟨rfl,rfl⟩;refine J9 (V9 2 [(54,.bool aa)] (V2 (j:=54) rfl o (fun o=>?_) (fun o=>?_)))
   ·have⟨ab,o⟩:=Vs o;refine A.q [] [] [.on .n,.on .n,.on .n] [Z.R64 (s+2)] [(55,.string u),(57,A.i (s+2))] ab (Vu (dj:=54) rfl rfl ?_);have⟨ac,ad,o⟩:=V6 o;refine A.AL.ixt ad ?_;refine Vu (dj:=54) rfl rfl ?_;refine Vx 80 [] o (o_p ac) .nil ?_;rintro a3 - o _ _ ⟨rfl,rfl⟩;refine J9 (V9 2 [(39,.bool a3)] (Ju ?_));exact Vn ⟨a3,rfl,rfl,o⟩
   refine J5 [] [] [.off,.off,.off,.off,.off,.n,.n] [(39,.bool false)] (Ju ?_);exact Vn ⟨false,rfl,rfl,o⟩
  refine J5 [] [] [.off,.off,.n,.n,.off,.off,.off,.off,.off,.n,.n] [(39,.bool false)] (Ju ?_);exact Vn ⟨false,rfl,rfl,o⟩
 rintro _ _ ⟨U,rfl,rfl,o⟩;rw[F.a8]at o;refine Uk o ?_ ?_<;>intro L o
 ·refine Vy 2 [] [] [.n,.n,.n,.sy .n,.sy .n,.pk,.n] [(67,.bool (bif decide ((y.toNat:Int)=224)then decide ((z.toNat:Int)<160)else false))] ?_;refine V2 (j:=67) rfl o (fun o=>?_) (fun o=>?_)
  ·refine Vw [] [] [.off,.off,.off,.off,.off,.off,.n] [(74,.bool true)] 1 ?_;refine Ua rfl ?_;refine Va 1 1 [(4,A.i 0)] 1 ?_;exact A.ke o (Vh ⟨rfl,rfl,J3⟩)
  refine Vw [] [] [.on .n,.on .n,.on .n,.sy .n,.sy .n,.on .pk,.n] [(74,.bool (bif decide ((y.toNat:Int)=237)then decide ((159:Int)<(z.toNat:Int))else false))] 1 ?_;refine Uk o ?_ ?_<;>intro L o
  ·refine Va 1 1 [(4,A.i 0)] 1 ?_;exact A.ke o (Vh ⟨rfl,rfl,J3⟩)
  refine Va 3 1 [(4,A.i 3)] 1 ?_;exact A.ke o (Vh ⟨rfl,rfl,(Vp 3)⟩)
 refine J4 [6,7] [] (fun B J=>∃(W:Bool),B=[(75,.bool W)]/\J=[]/\F.aQ y z W=some r) ?_ ?_
 ·refine Vy 0 [] [] [.n,.n,.n,.sy .n,.sy .n,.pk,.n,.sy .n,.sy .n,.pk,.n] [(86,.bool (bif bif decide ((240:Int)<=(y.toNat:Int))then decide ((y.toNat:Int)<=244)else false then decide ((4:Int)<=(u.size:Int)-s)else false))] ?_;refine V2 (j:=86) rfl o (fun o=>?_) (fun o=>?_)
  ·refine J5 [] [] [.on .n] [(87,.int .u8 (z.toNat:Int))] (Vu (dj:=86) rfl rfl ?_);refine Vx 120 [] o (o_p z) .nil ?_;rintro r8 - o _ _ ⟨rfl,rfl⟩;refine J9 (V9 2 [(90,.bool r8)] (V2 (j:=90) rfl o (fun o=>?_) (fun o=>?_)))
   ·have⟨ae,o⟩:=Vs o;refine A.q [] [] [.on .n,.on .n,.on .n] [Z.R64 (s+2)] [(91,.string u),(93,A.i (s+2))] ae (Vu (dj:=90) rfl rfl ?_);have⟨ag,ah,o⟩:=V6 o;refine A.AL.ixt ah ?_;refine Vu (dj:=90) rfl rfl ?_;refine Vx 160 [] o (o_p ag) .nil ?_;rintro aj - o _ _ ⟨rfl,rfl⟩;refine J9 (V9 2 [(97,.bool aj)] (V2 (j:=97) rfl o (fun o=>?_) (fun o=>?_)))
    ·have⟨ak,o⟩:=Vs o;refine A.q [] [] [.on .n,.on .n,.on .n] [Z.R64 (s+3)] [(98,.string u),(100,A.i (s+3))] ak (Vu (dj:=97) rfl rfl ?_);have⟨al,am,o⟩:=V6 o;refine A.AL.ixt am ?_;refine Vu (dj:=97) rfl rfl ?_;refine Vx 200 [] o (o_p al) .nil ?_;rintro a4 - o _ _ ⟨rfl,rfl⟩;refine J9 (V9 2 [(75,.bool a4)] (Ju ?_));exact Vn ⟨a4,rfl,rfl,o⟩
    refine J5 [] [] [.off,.off,.off,.off,.off,.n,.n] [(75,.bool false)] (Ju ?_);exact Vn ⟨false,rfl,rfl,o⟩
   refine J5 [] [] [.off,.off,.off,.off,.off,.n,.n,.off,.off,.off,.off,.off,.n,.n] [(75,.bool false)] (Ju ?_);exact Vn ⟨false,rfl,rfl,o⟩
  refine J5 [] [] [.off,.off,.n,.n,.off,.off,.off,.off,.off,.n,.n,.off,.off,.off,.off,.off,.n,.n] [(75,.bool false)] (Ju ?_);exact Vn ⟨false,rfl,rfl,o⟩
 rintro _ _ ⟨W,rfl,rfl,o⟩;rw[F.aQ]at o;refine Uk o ?_ ?_<;>intro L o
 ·refine Vy 2 [] [] [.n,.n,.n,.sy .n,.sy .n,.pk,.n] [(110,.bool (bif decide ((y.toNat:Int)=240)then decide ((z.toNat:Int)<144)else false))] ?_;refine V2 (j:=110) rfl o (fun o=>?_) (fun o=>?_)
  ·refine Vw [] [] [.off,.off,.off,.off,.off,.off,.n] [(117,.bool true)] 1 ?_;refine Ua rfl ?_;refine Va 1 1 [(4,A.i 0)] 1 ?_;exact A.ke o (Vh ⟨rfl,rfl,J3⟩)
  refine Vw [] [] [.on .n,.on .n,.on .n,.sy .n,.sy .n,.on .pk,.n] [(117,.bool (bif decide ((y.toNat:Int)=244)then decide ((143:Int)<(z.toNat:Int))else false))] 1 ?_;refine Uk o ?_ ?_<;>intro L o
  ·refine Va 1 1 [(4,A.i 0)] 1 ?_;exact A.ke o (Vh ⟨rfl,rfl,J3⟩)
  refine Va 3 1 [(4,A.i 4)] 1 ?_;exact A.ke o (Vh ⟨rfl,rfl,(Vp 4)⟩)
 refine Va 1 1 [(4,A.i 0)] 1 ?_;exact A.ke o (Vh ⟨rfl,rfl,J3⟩)
def F.a9 (s:ByteArray):Nat->Int->Option Bool
 |0,_=>none
 |f+1,o=>if o<(s.size:Int)then((F.cu s o).bind fun u=>(if u=0 then(some false)else(A.gd (Z.R64 (o+u)) ((F.a9 s f) (o+u)))))else(some true)
def F.cD (o:ByteArray):Option Bool:=F.a9 o A.FU 0
theorem o_b0 (u:ByteArray)(J:u.size<=maxLen)(r:Bool)(o:F.cD u=some r):
    A.Ct Tryz.prog 41 [.string u] [] [] (fun v H'=>v=.bool r/\H'=[]):=by
 refine Jv Tryz.func41 rfl Tryz.ntmps41 rfl fun w0 Y=>?_;rw[F.cD]at o;refine J0 1 ?_;refine J7 1 [] 3 ?_;refine Vc 1 [(3,A.i 0)] 2 ?_;refine Vo [0] [] (fun f L N=>∃(s:Int),L=[(3,A.i s)]/\N=[]/\A.h6 s/\F.a9 u f s=some r) ⟨0,rfl,rfl,J3,o⟩ ?_;rintro z _ _ ⟨s,rfl,rfl,U,o⟩;rcases z with _|z
 ·exact Vb o
 rw[F.a9]at o;refine Vl 2 4 [(8,.bool (decide (s<(u.size:Int))))] 1 o ?_ ?_<;>intro W o
 ·refine Ub 4 2 [(9,.string u),(10,A.i s)] ?_;refine Vx 80 [] o (o_bZ u s J U) .nil ?_;rintro y - o _ _ ⟨rfl,rfl,hr6⟩;refine J9 (J7 1 [(4,A.i y)] 3 ?_);refine Vc 2 [(13,.bool (decide (y=0)))] 1 ?_;refine Uv o ?_ ?_<;>intro W o
  ·refine Va 1 1 [(2,.bool false)] 1 ?_;exact A.ke o (Vh ⟨rfl,rfl⟩)
  refine J0 2 ?_;have⟨B,o⟩:=Vs o;refine Uf 4 [Z.R64 (s+y)] [(3,A.i (s+y))] B (U4 1 ?_);exact Vn ⟨_,Qn _,⟨(s+y),rfl,rfl,(Jw B),o⟩⟩
 refine Va 3 1 [(2,.bool true)] 1 ?_;exact A.ke o (Vh ⟨rfl,rfl⟩)
def F.bx (o:Bool):Option Int:=if o=true then(some 50)else(some 0)
def F.cc (o:D27):Option Int:=if(64:Int)<(o.2.size:Int)then(F.bx true)else((F.cD o.2).bind fun s=>(F.bx (!s)))
theorem o_b1 (s:D27)(N:A.h6 s.1)(z:s.2.size<=maxLen)(r:Int)(o:F.cc s=some r):
    A.Ct Tryz.prog 20 [(A.rar s)] [] [] (fun v H'=>v=A.i r/\H'=[]/\A.h6 r):=by
 refine Jv Tryz.func20 rfl Tryz.ntmps20 rfl fun w0 U=>?_;rw[F.cc]at o;refine J0 1 ?_;refine J1 0 (cs:=(A.ral s)) fun W=>?_;refine Vc 1 [] 2 ?_;refine J4 [] [] (fun B J=>∃(u:Bool),B=[(12,.bool u)]/\J=[]/\F.bx u=some r) ?_ ?_
 ·refine Vy 0 [0] [] [.n,.b 0 1,.n,.n,.n] [(7,.bool (decide ((64:Int)<(s.2.size:Int))))] ?_;refine Up (j:=7) rfl o ?_ ?_<;>intro L o
  ·refine J5 [] [] [.off,.off,.off,.off,.n] [(12,.bool true)] (Ju ?_);exact Vn ⟨true,rfl,rfl,o⟩
  refine J5 [0] [] [.on .n,.on (.b 0 1)] [(9,.string s.2)] (Vu (dj:=7) rfl rfl ?_);refine Vx 1 [] o (o_b0 s.2 z) .nil ?_;rintro y - o _ _ ⟨rfl,rfl⟩;refine J9 (J5 [] [] [.on .n,.n] [(12,.bool (!y))] (Ju ?_));exact Vn ⟨(!y),rfl,rfl,o⟩
 rintro _ _ ⟨u,rfl,rfl,o⟩;rw[F.bx]at o;refine Uk o ?_ ?_<;>intro L o
 ·refine Va 1 1 [(2,A.i 50)] 1 ?_;exact A.ke o (Vh ⟨rfl,rfl,(Vp 50)⟩)
 refine Va 3 1 [(2,A.i 0)] 1 ?_;exact A.ke o (Vh ⟨rfl,rfl,J3⟩)
def F.bK (o:D27)(s:D27):Option Int:=if o.1<s.1 then(some (-1))else(if s.1<o.1 then(some 1)else(if(Op.bytesLess o.2.toList s.2.toList)=true then(some (-1))else(if(!(Op.bytesLess o.2.toList s.2.toList||o.2.toList==s.2.toList))=true then(some 1)else(some 0))))
theorem o_bv (s:D27)(u:D27)(z:A.h6 s.1)(B:s.2.size<=maxLen)(J:A.h6 u.1)(L:u.2.size<=maxLen)(r:Int)(o:F.bK s u=some r):
    A.Ct Tryz.prog 42 [(A.rar s),(A.rar u)] [] [] (fun v H'=>v=A.i r/\H'=[]/\A.h6 r):=by
 refine Jv Tryz.func42 rfl Tryz.ntmps42 rfl fun w0 N=>?_;rw[F.bK]at o;refine J0 1 ?_;refine J1 0 (cs:=(A.ral s)) fun U=>?_;refine J1 1 (cs:=(A.ral u)) fun W=>?_;refine J7 1 [] 3 ?_;refine Vw [0,1] [] [.n,.b 0 0,.n,.b 1 0,.n,.n] [(5,.bool (decide (s.1<u.1)))] 1 ?_;refine Uv o ?_ ?_<;>intro y o
 ·refine Va 1 1 [(4,A.i (-1))] 1 ?_;exact A.ke o (Vh ⟨rfl,rfl,(Vp (-1))⟩)
 refine Uh 1 [0,1] [] [.n,.b 0 0,.n,.b 1 0,.n,.n] [(11,.bool (decide (u.1<s.1)))] 1 ?_;refine Uv o ?_ ?_<;>intro y o
 ·refine Va 1 1 [(4,A.i 1)] 1 ?_;exact A.ke o (Vh ⟨rfl,rfl,(Vp 1)⟩)
 refine Uh 1 [0,1] [] [.n,.b 0 1,.n,.b 1 1,.n,.n] [(17,.bool (Op.bytesLess s.2.toList u.2.toList))] 1 ?_;refine Uk o ?_ ?_<;>intro y o
 ·refine Va 1 1 [(4,A.i (-1))] 1 ?_;exact A.ke o (Vh ⟨rfl,rfl,(Vp (-1))⟩)
 refine Uh 1 [0,1] [] [.n,.b 0 1,.n,.b 1 1,.n,.n] [(23,.bool (!(Op.bytesLess s.2.toList u.2.toList||s.2.toList==u.2.toList)))] 1 ?_;refine Uk o ?_ ?_<;>intro y o
 ·refine Va 1 1 [(4,A.i 1)] 1 ?_;exact A.ke o (Vh ⟨rfl,rfl,(Vp 1)⟩)
 refine Va 1 1 [(4,A.i 0)] 1 ?_;exact A.ke o (Vh ⟨rfl,rfl,J3⟩)
def F.bT (s:(List D45)->Bool->Int->Option (List D45))(o:Int)(u:List D45)(y:Bool):Option (List D45):=A.gd (Z.R64 (o+1)) (s u y (o+1))
def F.bF (z:(List D45)->Bool->Int->Option (List D45))(B:(List D45))(J:D27)(u:Int)(o:Int)(N:Int)(s:List D45)(U:Bool):Option (List D45):=if N=0 then((A.ix B o).bind fun y=>(A.gd (Z.R64 (y.2+u)) (A.gd ((List.length (α:=D45) s+List.length (α:=D45) [(J,y.2+u)])*32<=140737488355328) (F.bT z o (s++[(J,y.2+u)]) true))))else((A.ix B o).bind fun L=>(A.gd ((List.length (α:=D45) s+List.length (α:=D45) [L])*32<=140737488355328) (F.bT z o (s++[L]) U)))
def F.bU (o:List D45):Option (List D45):=some o
def F.ar (u:(List D45))(o:D27)(s:Int):Nat->(List D45)->Bool->Int->Option (List D45)
 |0,_,_,_=>none
 |f+1,y,B,z=>if z<(u.length:Int)then((A.ix u z).bind fun L=>((F.bK o L.1).bind fun J=>(if(bif !B then decide (J<0)else false)=true then(A.gd ((List.length (α:=D45) y+List.length (α:=D45) [(o,s)])*32<=140737488355328) (F.bF (F.ar u o s f) u o s z J (y++[(o,s)]) true))else(F.bF (F.ar u o s f) u o s z J y B))))else(if(!B)=true then(A.gd ((List.length (α:=D45) y+List.length (α:=D45) [(o,s)])*32<=140737488355328) (F.bU (y++[(o,s)])))else(F.bU y))
def F.cq (o:(List D45))(s:D27)(u:Int):Option (List D45):=F.ar o s u A.FU [] false 0
theorem o_cl(B:(List D45))(s:D27)(u:Int)(ab:A.h6 s.1)(ac:s.2.size<=maxLen)(ak:A.h6 u)(r:(List D45))(o:F.cq B s u=some r):
    A.Ct Tryz.prog 21 [.slice A0_ B.length c1_,(A.rar s),A.i u] [(0,.ln T45 A0_ c1_ B)] [] (fun v H'=>∃(A0':Option Addr) (c1':Nat),v=.slice A0' r.length c1'/\H'=[(0,.own T45 46 A0' c1' r)]):=by
 refine Jv Tryz.func21 rfl Tryz.ntmps21 rfl fun w0 F0=>?_;rw[F.cq]at o;refine J0 1 ?_;refine J1 1 (cs:=(A.ral s)) fun g1=>?_;refine J7 1 [] 2 ?_;refine J7 1 [(7,.slice none 0 0)] 2 ?_;refine J7 1 [(8,.bool false)] 3 ?_;refine Vc 1 [(9,A.i 0)] 2 ?_;refine Ul 102 T45 46 ?_;refine Vo [0,2,4] l4m (fun f L N=>∃(z:List D45)(Y:Bool)(y:Int)(U:Option Addr)(W:Nat),L=[(7,.slice U z.length W),(8,.bool Y),(9,A.i y)]/\N=[(102,.own T45 46 U W z)]/\A.h6 y/\F.ar B s u f z Y y=some r) ⟨[],false,0,none,0,rfl,rfl,J3,o⟩ ?_;rintro f8 _ _ ⟨z,Y,y,U,W,rfl,rfl,b5,o⟩;rcases f8 with _|f8
 ·exact Vb o
 rw[F.ar]at o;refine Vl 2 4 [(14,.bool (decide (y<(B.length:Int))))] 1 o ?_ ?_<;>intro hb o
 ·refine Um 2 ?_;refine J4 [0,2,4,9] l4m (fun L N=>∃(a4:List D45)(ad:Bool)(A9:Option Addr)(ae:Nat),L=[(7,.slice A9 a4.length ae),(8,.bool ad)]/\N=[(102,.own T45 46 A9 ae a4)]/\F.bT (F.ar B s u f8) y a4 ad=some r) ?_ ?_
  ·refine Um 2 ?_;refine Vj mixed 8 8 (A.mb 8 0) ?_;refine Vm Vd [] [0,1,102] [1] [] (A.mb 8 7) 5 [(0,.b 0 0),(1,.n),(2,.n)] [(17,(A.rar s)),(18,.slice A0_ B.length c1_),(19,A.i y)] ?_;have⟨al,am,o⟩:=V6 o;refine A.AH.pkl 0 198 am fun an=>?_;intro b6 b7 b2;refine V0 Vd [0,1,102] l4j 3 (A.mb 8 15) rfl (fun a w hf hh=>Un (t:=T45) am b2 hf) ?_;refine Vm Vd l4j l4j [] [198] (A.mb 8 63) 2 [(4,.n),(5,.e 0 0)] [(22,(A.rar al.1))] (Jz 6 ?_);refine Vx 199 [] o (o_bv s al.1 ab ac an.1.1 an.1.2) .nil ?_;rintro ag - o _ _ ⟨rfl,rfl,hr22⟩;refine J9 (J2 (A.mb 8 127) l4j ?_);refine Vm Vd l4j l4j [] [] (A.mb 8 255) 0 [(7,.n)] [(10,A.i ag)] (J6 ?_);refine A.ex 1 ?_;refine J4 [0,2,4,9,10] l4m (fun L N=>∃(J:List D45)(ah:Bool)(a5:Option Addr)(a6:Nat),L=[(7,.slice a5 J.length a6),(8,.bool ah)]/\N=[(102,.own T45 46 a5 a6 J)]/\F.bF (F.ar B s u f8) B s u y ag J ah=some r) ?_ ?_
   ·refine Uh 1 [] [] [.n,.n,.n,.sy .n,.sy .n,.pk] [(29,.bool (bif !Y then decide (ag<0)else false))] 1 ?_;refine Uk o ?_ ?_<;>intro hb o
    ·refine Vy 1 [1] [] [.n,.b 0 0,.n,.n] [(30,.slice U z.length W),(33,.agg #[A.i s.1,.string s.2,A.i u])] ?_;refine Ve 239 (ty:=T45) (cs:=[A.i s.1,.string s.2,A.i u]) [(s,u)] ⟨⟨⟨⟨rfl,ab⟩,⟨rfl,ac⟩⟩,⟨rfl,ak⟩⟩,rfl⟩ (fun b9=>?_) Tryz.zeroValue46 Tryz.sizeOf46
     have⟨hl50,o⟩:=Vs o;refine Vt (k:=102) [] (Uc (k:=239) rfl) Qil hl50 fun ao ap=>?_;refine J7 1 [(7,.slice ao ((z++[(s,u)]).length) ap)] 1 ?_;refine V9 1 [(8,.bool true)] (Ju ?_);exact Vn ⟨(z++[(s,u)]),true,ao,ap,rfl,rfl,o⟩
    refine V1 1 ?_;exact Vn ⟨z,Y,U,W,rfl,rfl,o⟩
   rintro _ _ ⟨J,ah,a5,a6,rfl,rfl,o⟩;rw[F.bF]at o;refine Vl 1 2 [(37,.bool (decide (ag=0)))] 1 o ?_ ?_<;>intro hb o
   ·refine Um 1 ?_;refine Vj mixed 13 13 (A.mb 13 0) ?_;refine Vm Vd [] l4m [1] [] (A.mb 13 143) 8 [(0,.n),(1,.b 0 0),(2,.n),(3,.n),(7,.n)] [(38,.slice a5 J.length a6),(39,(A.rar s)),(40,.slice A0_ B.length c1_),(41,A.i y),(45,A.i u)] ?_;have⟨a3,aq,o⟩:=V6 o;refine A.AH.pkl 0 240 aq fun bb=>?_;intro bc be b3;refine V0 Vd l4m l4l 4 (A.mb 13 159) rfl (fun a w hf hh=>Un (t:=T45) aq b3 hf) ?_;have⟨au,o⟩:=Vs o;refine A.AH.q Vd l4l l4l [] [240] (A.mb 13 1023) 3 [(5,.n),(6,.e 0 2),(8,.n),(9,.n)] [47] [Z.R64 (a3.2+u)] [(47,.agg #[A.i s.1,.string s.2,A.i (a3.2+u)])] au ?_;refine Jz 10 ?_;refine Ve 241 (ty:=T45) (cs:=[A.i s.1,.string s.2,A.i (a3.2+u)]) [(s,a3.2+u)] ⟨⟨⟨⟨rfl,ab⟩,⟨rfl,ac⟩⟩,⟨rfl,(Jw au)⟩⟩,rfl⟩ (fun bg=>?_) Tryz.zeroValue46 Tryz.sizeOf46
    refine J2 (A.mb 13 2047) l4l ?_;refine Jz 11 ?_;have⟨hl37,o⟩:=Vs o;refine Vt (k:=102) [] (Uc (k:=241) rfl) Qil hl37 fun av aw=>?_;refine J2 (A.mb 13 4095) l4l ?_;refine Vm Vd l4l [0,1,102,240,241] [] [] (A.mb 13 8191) 0 [(12,.n)] [(7,.slice av ((J++[(s,a3.2+u)]).length) aw)] (J6 ?_);refine U1 1 ?_;refine V9 1 [(8,.bool true)] (U4 1 ?_);exact Vn ⟨(J++[(s,a3.2+u)]),true,av,aw,rfl,rfl,o⟩
   refine Ub 0 3 [(50,.slice a5 J.length a6),(51,.slice A0_ B.length c1_),(52,A.i y)] ?_;have⟨a7,b4,o⟩:=V6 o;refine Vz 0 242 b4 fun aj=>?_;intro bh bi;refine J5 [] [242] [.e 0 0] [(54,(A.ras a7))] (Ve 243 (ty:=T45) (cs:=(A.ram a7)) [a7] ⟨⟨⟨⟨rfl,aj.1.1⟩,⟨rfl,aj.1.2⟩⟩,⟨rfl,aj.2⟩⟩,rfl⟩ (fun bj=>?_) Tryz.zeroValue46 Tryz.sizeOf46)
   have⟨hl46,o⟩:=Vs o;refine Vt (k:=102) [] (Uc (k:=243) rfl) Qil hl46 fun ax ay=>?_;refine V9 1 [(7,.slice ax ((J++[a7]).length) ay)] (U4 1 ?_);exact Vn ⟨(J++[a7]),ah,ax,ay,rfl,rfl,o⟩
  rintro _ _ ⟨a4,ad,A9,ae,rfl,rfl,o⟩;rw[F.bT]at o;refine J0 0 ?_;have⟨az,o⟩:=Vs o;refine Uf 3 [Z.R64 (y+1)] [(9,A.i (y+1))] az (Ju ?_);exact Vn ⟨_,Qn _,⟨a4,ad,(y+1),A9,ae,rfl,rfl,(Jw az),o⟩⟩
 refine Um 2 ?_;refine J4 [] [] (fun L N=>∃(a8:List D45)(a9:Option Addr)(aa:Nat),L=[(7,.slice a9 a8.length aa)]/\N=[(102,.own T45 46 a9 aa a8)]/\F.bU a8=some r) ?_ ?_
 ·refine Va 1 2 [(58,.bool (!Y))] 1 ?_;refine Uk o ?_ ?_<;>intro hb o
  ·refine Vy 0 [1] [] [.n,.b 0 0,.n,.n] [(59,.slice U z.length W),(62,.agg #[A.i s.1,.string s.2,A.i u])] ?_;refine Ve 244 (ty:=T45) (cs:=[A.i s.1,.string s.2,A.i u]) [(s,u)] ⟨⟨⟨⟨rfl,ab⟩,⟨rfl,ac⟩⟩,⟨rfl,ak⟩⟩,rfl⟩ (fun bk=>?_) Tryz.zeroValue46 Tryz.sizeOf46
   have⟨hl57,o⟩:=Vs o;refine Vt (k:=102) [] (Uc (k:=244) rfl) Qil hl57 fun b0 b1=>?_;refine V9 1 [(7,.slice b0 ((z++[(s,u)]).length) b1)] (Ju ?_);exact Vn ⟨(z++[(s,u)]),b0,b1,rfl,rfl,o⟩
  refine V1 1 ?_;exact Vn ⟨z,U,W,rfl,rfl,o⟩
 rintro _ _ ⟨a8,a9,aa,rfl,rfl,o⟩;rw[F.bU]at o;refine Va 1 2 [(6,.slice a9 a8.length aa)] 1 ?_;obtain rfl:=Vf o;exact V7 [(0,102)] ⟨a9,aa,rfl,rfl⟩
def F.br (s:(List D45)):Nat->Int->Option Int
 |0,_=>none
 |f+1,o=>if o<(s.length:Int)then((A.ix s o).bind fun u=>(if(1048576:Int)<u.2 then(some 51)else(A.gd (Z.R64 (o+1)) ((F.br s f) (o+1)))))else(some 0)
def F.cz (o:(List D45)):Option Int:=F.br o A.FU 0
theorem o_b7(u:(List D45))(r:Int)(o:F.cz u=some r):
    A.Ct Tryz.prog 22 [.slice A0_ u.length c1_] [(0,.ln T45 A0_ c1_ u)] [] (fun v H'=>v=A.i r/\H'=[]/\A.h6 r):=by
 refine Jv Tryz.func22 rfl Tryz.ntmps22 rfl fun w0 W=>?_;rw[F.cz]at o;refine J0 1 ?_;refine J7 1 [] 3 ?_;refine Vc 1 [(3,A.i 0)] 2 ?_;refine Vo [0] [0] (fun f B J=>∃(s:Int),B=[(3,A.i s)]/\J=[]/\A.h6 s/\F.br u f s=some r) ⟨0,rfl,rfl,J3,o⟩ ?_;rintro y _ _ ⟨s,rfl,rfl,Y,o⟩;rcases y with _|y
 ·exact Vb o
 rw[F.br]at o;refine Vl 2 4 [(7,.bool (decide (s<(u.length:Int))))] 1 o ?_ ?_<;>intro L o
 ·refine Ub 5 2 [(10,.slice A0_ u.length c1_),(11,A.i s)] ?_;have⟨N,U,o⟩:=V6 o;refine Vz 0 3 U fun a1=>?_;intro b7 o8;refine Vw [] [3] [.n,.e 0 2,.n] [(15,.bool (decide ((1048576:Int)<N.2)))] 1 ?_;refine Uv o ?_ ?_<;>intro L o
  ·refine Va 1 1 [(2,A.i 51)] 1 ?_;exact A.ke o (Vh ⟨rfl,rfl,(Vp 51)⟩)
  refine J0 3 ?_;have⟨z,o⟩:=Vs o;refine Uf 3 [Z.R64 (s+1)] [(3,A.i (s+1))] z (Ju ?_);exact Vn ⟨_,Qn _,⟨(s+1),rfl,rfl,(Jw z),o⟩⟩
 refine Va 3 1 [(2,A.i 0)] 1 ?_;exact A.ke o (Vh ⟨rfl,rfl,J3⟩)
def F.aO (s:(List D27)):Nat->(List D45)->Int->Option ((List D45)×Int)
 |0,_,_=>none
 |f+1,u,o=>if o<(s.length:Int)then((A.ix s o).bind fun z=>((F.cq u z 1).bind fun B=>(A.gd (Z.R64 (o+1)) ((F.aO s f) B (o+1)))))else((F.cz u).bind fun y=>(if y≠0 then(some ([],y))else(some (u,0))))
def F.bj (o:(List D27)):Nat->Int->Option ((List D45)×Int)
 |0,_=>none
 |f+1,s=>if s<(o.length:Int)then((A.ix o s).bind fun y=>((F.cc y).bind fun u=>(if u≠0 then(some ([],u))else(A.gd (Z.R64 (s+1)) ((F.bj o f) (s+1))))))else(F.aO o A.FU [] 0)
def F.cI (o:(List D27)):Option ((List D45)×Int):=F.bj o A.FU 0
theorem o_cm(u:(List D27))(r:(List D45)×Int)(s:F.cI u=some r):
    A.Ct Tryz.prog 5 [.slice A0_ u.length c1_] [(0,.ln T27 A0_ c1_ u)] [] (fun v H'=>∃(A0':Option Addr) (c1':Nat),v=.tuple #[.slice A0' r.1.length c1',A.i r.2]/\H'=[(0,.own T45 46 A0' c1' r.1)]/\A.h6 r.2):=by
 refine Jv Tryz.func5 rfl Tryz.ntmps5 rfl fun w0 F0=>?_;rw[F.cI]at s;refine J0 1 ?_;refine J7 2 [] 3 ?_;refine Vc 1 [(4,A.i 0)] 2 ?_;refine Vo [0] [0] (fun f N U=>∃(y:Int),N=[(4,A.i y)]/\U=[]/\A.h6 y/\F.bj u f y=some r) ⟨0,rfl,rfl,J3,s⟩ ?_;rintro f3 _ _ ⟨y,rfl,rfl,ad,s⟩;rcases f3 with _|f3
 ·exact Vb s
 rw[F.bj]at s;refine Vl 2 4 [(12,.bool (decide (y<(u.length:Int))))] 1 s ?_ ?_<;>intro W s
 ·refine Ub 5 2 [(15,.slice A0_ u.length c1_),(16,A.i y)] ?_;have⟨x4,ab,s⟩:=V6 s;refine Vz 0 751 ab fun a2=>?_;intro b7 o8;refine J5 [] [751] [.e 0 0] [(18,(A.rar x4))] (Vx 752 [] s (o_b1 x4 a2.1 a2.2) .nil ?_);rintro Y - s _ _ ⟨rfl,rfl,hr11⟩;refine J9 (J7 1 [(5,A.i Y)] 2 ?_);refine Vc 2 [(21,.bool (decide (Y≠0)))] 1 ?_;refine Uv s ?_ ?_<;>intro W s
  ·refine Va 1 3 [(2,.slice none 0 0),(3,A.i Y)] 1 ?_;obtain rfl:=Vf s;refine Ul 792 T45 46 ?_;exact Ue [(0,792)] ⟨none,0,rfl,rfl,hr11⟩
  refine J0 3 ?_;have⟨a3,s⟩:=Vs s;refine Uf 3 [Z.R64 (y+1)] [(4,A.i (y+1))] a3 (Ju ?_);exact Vn ⟨_,Qn _,⟨(y+1),rfl,rfl,(Jw a3),s⟩⟩
 refine J0 3 ?_;refine J7 1 [(6,.slice none 0 0)] 3 ?_;refine Vc 1 [(7,A.i 0)] 2 ?_;refine Ul 876 T45 46 ?_;refine Vo [0] [0] (fun f N U=>∃(z:List D45)(B:Int)(J:Option Addr)(L:Nat),N=[(6,.slice J z.length L),(7,A.i B)]/\U=[(876,.own T45 46 J L z)]/\A.h6 B/\F.aO u f z B=some r) ⟨[],0,none,0,rfl,rfl,J3,s⟩ ?_;rintro a4 _ _ ⟨z,B,J,L,rfl,rfl,ae,s⟩;rcases a4 with _|a4
 ·exact Vb s
 rw[F.aO]at s;refine Vl 2 4 [(26,.bool (decide (B<(u.length:Int))))] 1 s ?_ ?_<;>intro W s
 ·refine Ub 4 3 [(29,.slice J z.length L),(30,.slice A0_ u.length c1_),(31,A.i B)] ?_;have⟨a5,ac,s⟩:=V6 s;refine Vz 0 1043 ac fun a6=>?_;intro ag ah;refine J5 [] [1043] [.e 0 0] [(33,(A.rar a5))] (Vx 1044 [] s (o_cl J L z a5 1 a6.1 a6.2 (Vp 1)) (.o 876 .nil) ?_);rintro a7 - s _ _ ⟨a8,a9,rfl,rfl⟩;refine J9 (J7 1 [(6,.slice a8 a7.length a9)] 2 ?_);have⟨aa,s⟩:=Vs s;refine Uf 3 [Z.R64 (B+1)] [(7,A.i (B+1))] aa (Ju ?_);refine A.mv 876 1084 [] ?_;refine J8 1044 876 [] ?_;exact Vn ⟨_,Qn _,⟨a7,(B+1),a8,a9,rfl,rfl,(Jw aa),s⟩⟩
 refine Ub 4 1 [(35,.slice J z.length L)] ?_;refine Vx 1085 [] s (o_b7 J L z) (.o 876 .nil) ?_;rintro a1 - s _ _ ⟨rfl,rfl,hr31⟩;refine J9 (J7 1 [(8,A.i a1)] 2 ?_);refine Vc 2 [(38,.bool (decide (a1≠0)))] 1 ?_;refine Uv s ?_ ?_<;>intro W s
 ·refine Va 1 3 [(2,.slice none 0 0),(3,A.i a1)] 1 ?_;obtain rfl:=Vf s;refine Ul 1125 T45 46 ?_;exact Ue [(0,1125)] ⟨none,0,rfl,rfl,hr31⟩
 refine Va 3 3 [(2,.slice J z.length L),(3,A.i 0)] 1 ?_;obtain rfl:=Vf s;exact Ue [(0,876)] ⟨J,L,rfl,rfl,J3⟩
def F.ak (o:(List Int)):Option ((List Int)):=some o
theorem o_ag(o:(List Int))(r:((List Int)))(s:F.ak o=some r):
    A.Ct Tryz.prog 36 [.slice A0_ o.length c1_] [(0,.sh A.TI [.slice A0_ o.length c1_] o)] [] (fun v H'=>∃(g0':Nat) (A1':Option Addr) (c2':Nat),v=.func (.func 54) #[] #[.pointer (some ⟨g0',0,none⟩)]/\H'=[(0,.blk g0' 58 [.slice A1' r.length c2']),(1,.sh A.TI [.slice A1' r.length c2'] r)]):=by
 refine Jv Tryz.func36 rfl Tryz.ntmps36 rfl fun w0 y=>?_;rw[F.ak]at s;refine J0 1 ?_;refine J1 1 (cs:=[.slice A0_ o.length c1_]) fun u=>?_;refine J7 1 [] 2 ?_;refine Vc 2 [(2,.func (.func 54) #[] #[.pointer (some ⟨u,0,none⟩)])] 1 ?_;obtain rfl:=Vf s;exact V7 [(0,1),(1,0)] ⟨u,A0_,c1_,rfl,rfl⟩
end Go.Proofs.YtlbdgahbamalcaaGreatDoor
end
section
namespace Go.A
open Go.RowKit Go.Z
def sm {α β:Type}(r:Int ⊕ α)(k:α->Option (Int ⊕ β)):Option (Int ⊕ β):=match r with
 | .inl e=>some (.inl e)
 | .inr x=>k x
section
variable {α β:Type}{r:Int ⊕ α}{k:α->Option (Int ⊕ β)}{r0:Int ⊕ β}{x:α}{e:Int}
end
section
variable {r:Option Nat}{P:Program}{K:List Kx}{l:List (Nat×Value)}{H:List (Nat×Res)}{pv:Int->Value}{E:Int->Prop}
end
section
variable {r:Option Nat}{P:Program}{ops:Array Oper}{Q:Exit->Act->World->Prop}{rest:List Oper}{C:Cx}{l:List (Nat×Value)}{H:List (Nat×Res)}{d:Nat}{T:TypeId}{pos:String}{af:Array Edge}{pv:Int->Value}
end
section
variable {C:Cx}{l:List (Nat×Value)}{H:List (Nat×Res)}{X:Act->World->Prop}
end
section
variable {r:Option Nat}{P:Program}{ops:Array Oper}{Q:Exit->Act->World->Prop}{rest lst:List Oper}{C:Cx}{l:List (Nat×Value)}{H:List (Nat×Res)}{d:Nat}{T:TypeId}{pos:String}{af:Array Edge}
end
def b8 (x:Int):UInt8:=UInt8.ofNat (x%256).toNat
def Fz (fz:Nat×Nat)(n:Nat):Prop:=∀j,j<n->¬(fz.1<=j/\j<fz.2)
def Bs (e:TypeId)(c:Nat)(xs:List UInt8):Obj->Prop:=fun o=>∃(cur:Array Value) (fz:Nat×Nat),o=.cells cur e fz/\Fz fz c/\cur.size=c/\c<=maxLen/\xs.length<=c/\∀(j:Nat) (b:UInt8),xs[j]?=some b->cur[j]?=some (.int .u8 (b.toNat:Int))
theorem Bs.cell {w:World}{g:Nat}{e:TypeId}{c:Nat}{xs:List UInt8}{o:Obj}(ho:w.heap[g]?=some o)(h:Bs e c xs o){j:Nat}{b:UInt8}(hj:xs[j]?=some b):w.cell? ⟨g,j,none⟩=some (.int .u8 (b.toNat:Int)):=by
 obtain⟨cur,fz,rfl,_,_,_,_,h5⟩:=h
 rw[cell_of_row w g j cur e _ ho]
 exact h5 j b hj
section
variable {r:Option Nat}{P:Program}{ops:Array Oper}{Q:Exit->Act->World->Prop}{rest:List Oper}{C:Cx}{l:List (Nat×Value)}{H:List (Nat×Res)}{d:Nat}{T:TypeId}{pos:String}{af:Array Edge}
end
end Go.A
end
section
namespace Go.Z
open Go.RowKit Go.Lib
section
variable {P:Program}{a:Act}{w:World}{d:Option Tmp}{T:TypeId}{pos:String}{af:Array Edge}{gd:Option (Nat×Bool)}
end
end Go.Z
namespace Go.A
open Go.RowKit Go.Z
theorem arr4 {τ:Type}{a b c d y:τ}{i:Int}{Q:Int->Prop}(h:ix [a,b,c,d] i=some y)(h0:Q 0)(h1:Q 1)(h2:Q 2)(h3:Q 3):Q i:=by
 obtain⟨p,q⟩:=o_ci h
 simp only[Qu,Ww]at q
 have:i=0\/i=1\/i=2\/i=3:=by omega
 rcases this with rfl|rfl|rfl|rfl<;>assumption
theorem ite_has {k:IntKind}{p:Prop}[Decidable p]{x y:Int}(hx:k.has x)(hy:k.has y):k.has (if p then x else y):=by split<;>assumption
section
variable {r:Option Nat}{P:Program}{ops:Array Oper}{Q:Exit->Act->World->Prop}{rest lst:List Oper}{C:Cx}{l:List (Nat×Value)}{H:List (Nat×Res)}{d:Nat}{T:TypeId}{pos:String}{af:Array Edge}
theorem AL.stb (k:Nat)(js:List Nat){τ:Type}{vals:List τ}{v0:τ}{t bt:TypeId}{x y:Operand}{g o:Nat}{i:Int}{cs cs':List Value}{v:Value}(hi:ix vals i=some v0)(hc:cs'=cs.set (o+i.toNat*1) v)
  (h:AL r P ops Q rest C l ((k,.blk g bt cs')::ded js H))
  (hb:hk H k=some (.blk g bt cs):=by rfl) (hx:ev l x=some (.pointer (some ⟨g,o+i.toNat*1,none⟩)):=by rfl) (hy:ev l y=some v:=by rfl) (hS:szB P t=some 1:=by kernel_rfl)
  (hv:v.cells=[v].toArray:=by rfl) (ho:Nat.ble (o+vals.length) cs.length=true:=by rfl) (h1:v.oneCell'=true:=by rfl) (hj:hng [k] js H=true:=by kernel_rfl):
  AL r P ops Q (⟨none,.store t x y,T,pos,af,none⟩::rest) C l H:=fun a w hf hh=>by
 obtain⟨p,q⟩:=o_ci hi
 have ho:=Qi ho
 have hlt:o+i.toNat*1<cs.length:=by omega
 refine Z.st_store (new:=[v]) (cs':=cs') hf (hh.hold k _ hb) hx hy (Qah hS) hv rfl (Yr hlt) (fun u hu=>by simp at hu;subst hu;exact h1) ?_ fun w' a' hs hb' hch hf'=>
  h a' w' hf' (Hp.dd (hh.upd hch (fun b hb2=>⟨_,hb,hb2⟩) (fun b hb2=>.inl ⟨_,hb,hb2⟩) (fun j hj=>by cases hj) fun _ _ _ _ _ _ _=>hb') hj)
 rw[hc,List.set_eq_take_append_cons_drop,Qj hlt,Ys];rfl
theorem AL.cutv (k:Nat){t:Ty}{tt e e':TypeId}{x lo:Operand}{A:Option Addr}{c u:Nat}{xs:List t.den}{k1:IntKind}{p:Int}(hp:p=(u:Int))(h1:u<=xs.length)
  (h:AL r P ops Q rest C ((d,.slice (cutA A c u t.size) (xs.length-u) (c-u))::l) H)
  (hk1:hk H k=some (.own t e' A c xs):=by rfl) (hx:ev l x=some (.slice A xs.length c):=by rfl) (hlo:ev l lo=some (.int k1 p):=by rfl) (hS:szB P e=some t.size:=by kernel_rfl)
  (ht:P.underlying tt=some (.slice e):=by rfl) (hd:Nat.ble (d+1) C.n=true:=by rfl):AL r P ops Q (⟨some d,.slice tt x (some lo) none none,T,pos,af,none⟩::rest) C l H:=fun a w hf hh=>
 Z.val hf hd (Qhd ht (Qah hS) (hf.eval hx) (hf.eval hlo) hp h1) fun a' hf'=>h a' w hf' hh
theorem Row.drop {t:Ty}{w:World}{F G:Nat->Prop}{A:Option Addr}{c u:Nat}{xs:List t.den}(h:Row t w F G A c xs)(hu:u<=xs.length):Row t w F G (cutA A c u t.size) (c-u) (xs.drop u):=by
 obtain⟨h2,h3,cells,h4,h5,h6⟩:=h
 refine⟨by rw[Wy];omega,by omega,cells.drop (u*t.size),by rw[Wy,Wy,h4,Nat.sub_mul],?_,fun i x hi=>?_⟩
 ·rw[Wy]
  by_cases hz:xs.length-u=0
  ·exact .inl hz
  ·rcases h5 with h5|⟨b,o,rfl,hb,hc⟩
   ·omega
   ·refine .inr ⟨b,o+u*t.size,by unfold cutA;rw[Qd (by omega),Q7,Addr.add_lit],hb,fun j v hv=>?_⟩
    rw[Q8]at hv
    rw[Xb];exact hc _ v hv
 ·rw[Q8]at hi
  rw[Xo,<-W6]
  exact h6 _ x hi
theorem AL.ixw (k kn:Nat){t:Ty}{e':TypeId}{A:Option Addr}{c u n2:Nat}{xs:List t.den}{x y:Operand}{i:Int}{kd:IntKind}{v:t.den}{e tt:TypeId}(hi:ix (xs.drop u) i=some v)(hu:u<=xs.length)(hlen:n2-u=xs.length-u)
  (h:t.ok v->tele (lv t) fun ps=>∀b o,AL r P ops Q rest C ((d,.pointer (some ⟨b,o+i.toNat*t.size,none⟩))::l) (hcat (kx (kn+1) (rs t v ps)) ((kn,.el (some k) b (o+i.toNat*t.size) (cl t v ps))::H)))
  (hk1:hk H k=some (.own t e' A c xs):=by rfl) (hx:ev l x=some (.slice (cutA A c u t.size) (n2-u) (c-u)):=by rfl) (hy:ev l y=some (.int kd i):=by rfl) (ht:P.underlying tt=some (.slice e):=by rfl) (hs:szB P e=some t.size:=by kernel_rfl)
  (hd:Nat.ble (d+1) C.n=true:=by rfl) (hn:nok H kn (1+lv t)=true:=by kernel_rfl):AL r P ops Q (⟨some d,.indexAddr tt x y,T,pos,af,none⟩::rest) C l H:=
 AL.ixc (ko:=some k) (fun w hh=>by
  obtain⟨G,hR,hG⟩:=rowO hk1 w hh
  exact⟨G,hR.drop hu,hG⟩) (fun j h r hr=>by injection h with h;subst h;rw[hk1]at hr;injection hr with hr;subst hr;rfl) (by rw[hx,hlen,Wy]) hy hi ht hs (fun ho=>Qcl (fun ps h b o _=>h b o) (h ho)) hd fun ps hl=>by rw[Qcb t v ps hl];exact hn
end
section
variable {C:Cx}{l:List (Nat×Value)}{H:List (Nat×Res)}{P:Program}
theorem vw {x:Operand}{A:Option Addr}{c n2 u:Nat}{α:Type}{xs:List α}(hx:ev l x=some (.slice A (n2-u) c))(h:n2-u=xs.length-u):ev l x=some (.slice A (xs.drop u).length c):=by rw[hx,h,Wy]
theorem pkw {X:Act->World->Prop}(k kn:Nat){t:Ty}{e:TypeId}{A:Option Addr}{c u:Nat}{xs:List t.den}{i:Int}{v:t.den}(hi:ix (xs.drop u) i=some v)(hu:u<=xs.length)
  (h:t.ok v->tele (lv t) fun ps=>∀b o,cutA A c u t.size=some ⟨b,o,none⟩->∀a w,Fr a C.n C.ds l->Hp C (hcat (kx (kn+1) (rs t v ps)) ((kn,.el (some k) b (o+i.toNat*t.size) (cl t v ps))::H)) w->X a w)
  (hk1:hk H k=some (.own t e A c xs):=by rfl) (hn:nok H kn (1+lv t)=true:=by kernel_rfl): ∀a w,Fr a C.n C.ds l->Hp C H w->X a w:=fun a w hf hh=>by
 obtain⟨k',rfl,hv⟩:=Qaz hi
 obtain⟨G,hR,hG⟩:=rowO hk1 w hh
 obtain⟨b,o,es,hA,hb,hbl,hc,hr⟩:=(hR.drop hu).at hv
 obtain⟨ps,hl,rfl,hrs⟩:=rep_cl (B:=Bk H) t (Qac t hr)
 have hnk:hk H kn=none:=Qbn hn (Qo _) (by omega)
 have h1:Hp C ((kn,.el (some k) b (o+k'*t.size) (cl t v ps))::H) w:=hh.add hnk rfl (fun j hj r hr=>by injection hj with hj;subst hj;rw[hk1]at hr;injection hr with hr;subst hr;rfl) ⟨hc,hbl,hG b hb⟩
 have hn2:nok H (kn+1) (rs t v ps).length=true:=by
  rw[Qcb t v ps hl]
  rw[Ye 1]at hn
  simp only[nok,Qe]at hn;exact hn.2
 have hnn: ∀n k2,nok H k2 n=true->(∀j,k2<=j->j<k2+n->j≠kn)->nok ((kn,.el (some k) b (o+k'*t.size) (cl t v ps))::H) k2 n=true:=by
  intro n
  induction n with
  |zero=>intro _ _ _;rfl
  |succ n ih=>
   intro k2 h2 h3
   simp only[nok,Qe]at h2 ⊢
   refine⟨?_,ih (k2+1) h2.2 fun j h4 h5=>h3 j (by omega) (by omega)⟩
   rw[Qab,Qd (Ne.symm (h3 k2 (Qo _) (by omega)))];exact h2.1
 have h2:Hp C (hcat (kx (kn+1) (rs t v ps)) ((kn,.el (some k) b (o+k'*t.size) (cl t v ps))::H)) w:=by
  refine h1.adds (hnn _ _ hn2 fun j h4 _=>by omega) fun r2 h4=>?_
  obtain⟨h5,h6,h7⟩:=hrs r2 h4
  have hbk: ∀j b',Bk ((kn,.el (some k) b (o+k'*t.size) (cl t v ps))::H) j b'↔Bk H j b':=fun j b'=>by
   by_cases hj:j=kn
   ·subst hj
    rw[Bk.cons_eq]
    exact⟨fun h=>by simp[Res.bl]at h,fun⟨_,h8,_⟩=>by rw[hnk]at h8;cases h8⟩
   ·exact Bk.cons_ne hj
  exact⟨h6,h7,Res.to h5 (S:=[]) (Ch.refl w) (fun b' hF _=>⟨by simp,⟨fun j hj=>hF.1.1 j ((hbk j b').1 hj),hF.1.2⟩,hF.2⟩) (fun b' hB _=>⟨by simp,fun j hj=>hB j ((hbk j b').1 hj)⟩) (fun i b' _ hB=>⟨by simp,(hbk i b').2 hB⟩) (by simp)⟩
 exact Qau (h (rep_ok t hr)) ps hl b o hA a w hf (by rw[Xm];exact h2)
end
end Go.A
end
section
namespace Go.A
open Go.RowKit Go.Z
structure In1 (T t:Ty) where
 get:T.den->List t.den
 set:T.den->List t.den->T.den
 pos:Nat
 hlt:pos<T.size
 hcl: ∀x ys p q,cl T (set x ys) [q]=(cl T x [p]).set pos (.slice q.1 ys.length q.2)
 hgs: ∀x ys,get (set x ys)=ys
 hss: ∀x a b,set (set x a) b=set x b
 hsg: ∀x,set x (get x)=x
 hrep: ∀(w:World) (F:Nat->Prop) x ys p q,T.rep w F (cl T x [p]) x->(Ty.slice t).rep w F [.slice q.1 ys.length q.2] ys->T.rep w F (cl T (set x ys) [q]) (set x ys)
def rblx (h:Option Nat)(As:Lf):List Nat:=match h with
 |none=>rbl As
 |some i=>rbl (As.set i (none,0))
def NR {T t:Ty}(I:In1 T t)(e ei:TypeId)(A:Option Addr)(c:Nat)(xs:List T.den)(As:Lf)(h:Option Nat)(w:World)(F:Nat->Prop):Prop:=
 ∃cells:List Value,w.ownsRow 0 e T.size (.slice A xs.length c) xs.length cells/\(∀u∈cells,u.oneCell'=true)/\As.length=xs.length/\(obl A++rblx h As).Nodup/\(∀b,b∈obl A++rblx h As->b<w.heap.size)/\
  ∀(i:Nat) (x:T.den) (a:Option Addr×Nat),xs[i]?=some x->As[i]?=some a->(cells.drop (i*T.size)).take T.size=cl T x [a]/\T.rep w F (cl T (I.set x []) [(none,0)]) (I.set x [])/\(h≠some i->Own t ei 0 w F a.1 a.2 (I.get x))
section
variable {T t:Ty}{I:In1 T t}{e ei:TypeId}{A:Option Addr}{c:Nat}{xs:List T.den}{As:Lf}{h:Option Nat}
theorem NR.rep {w:World}{F:Nat->Prop}(hn:NR I e ei A c xs As none w F){F':Nat->Prop}(hF: ∀b,F b->F' b)(hB: ∀b,b∈rbl As->F' b):Own T e 0 w F' A c xs:=by
 obtain⟨cells,h1,h2,h3,h4,h5,h6⟩:=hn
 refine⟨cells,h1,h2,fun i x hx=>?_⟩
 have hi:=(Qb.1 hx).1
 have ha:As[i]?=some As[i]:=Qh (by omega)
 obtain⟨h7,h8,h9⟩:=h6 i x _ hx ha
 have h10:=Own.rep (h9 (by simp)) hF fun b hb=>hB b (Qat ha hb)
 have h11:=I.hrep w F' (I.set x []) (I.get x) (none,0) As[i] (Qds hF T h8) h10
 rw[I.hss,I.hsg]at h11
 rw[h7];exact h11
end
section
variable {C:Cx}{l:List (Nat×Value)}{H:List (Nat×Res)}{X:Act->World->Prop}{T t:Ty}{e ei:TypeId}{A:Option Addr}{c:Nat}{xs:List T.den}{As:Lf}
end
section
variable {r:Option Nat}{P:Program}{ops:Array Oper}{Q:Exit->Act->World->Prop}{rest lst:List Oper}{C:Cx}{l:List (Nat×Value)}{H:List (Nat×Res)}{d:Nat}{T0:TypeId}{pos:String}{af:Array Edge}{T t:Ty}{e ei:TypeId}{A:Option Addr}{c:Nat}{xs ys:List T.den}{As Bs:Lf}
end
section
variable {r:Option Nat}{P:Program}{ops:Array Oper}{Q:Exit->Act->World->Prop}{C:Cx}{l:List (Nat×Value)}{H Hq:List (Nat×Res)}{m f:Nat}{li:List Bool}
end
end Go.A
end
section
namespace Go.Z
open Go.RowKit Go.Lib
section
variable {P:Program}{a:Act}{w:World}{d:Option Tmp}{T:TypeId}{pos:String}{af:Array Edge}{gd:Option (Nat×Bool)}
end
end Go.Z
namespace Go.A
open Go.RowKit Go.Z
theorem hp_ch0 {C:Cx}{H:List (Nat×Res)}{w w':World}(h:Hp C H w)(hc:Ch [] w w'):Hp C H w':=
 ⟨⟨hc.os.trans h.ch.os,hc.tape.trans h.ch.tape,hc.output.trans h.ch.output,Wd h.ch.size hc.size,fun b hb hn=>by rw[hc.block b (Qq hb h.ch.size) (by simp)];exact h.ch.block b hb hn⟩,
  fun k r hk=>Res.to (h.hold k r hk) hc (fun b hb _=>⟨by simp,hb⟩) (fun b hb _=>⟨by simp,hb⟩) (fun i b _ hB=>⟨by simp,hB⟩) (by simp),
  fun k b hb=>⟨(h.bnd k b hb).1,Qq (h.bnd k b hb).2 hc.size⟩,h.dis,h.ref⟩
section
variable {C:Cx}{H:List (Nat×Res)}{w:World}
end
section
variable {r:Option Nat}{P:Program}{ops:Array Oper}{Q:Exit->Act->World->Prop}{rest lst:List Oper}{C:Cx}{l:List (Nat×Value)}{H:List (Nat×Res)}{d:Nat}{T:TypeId}{pos:String}{af:Array Edge}
end
section
variable {r:Option Nat}{P:Program}{ops:Array Oper}{Q:Exit->Act->World->Prop}{C:Cx}{l:List (Nat×Value)}{H Hq:List (Nat×Res)}{m f:Nat}{li:List Bool}
end
section
variable {r:Option Nat}{P:Program}{ops:Array Oper}{Q:Exit->Act->World->Prop}{rest lst:List Oper}{C:Cx}{l:List (Nat×Value)}{H:List (Nat×Res)}{d:Nat}{T:TypeId}{pos:String}{af:Array Edge}
end
end Go.A
end
section
namespace Go.A
open Go.RowKit Go.Z
section
variable {r:Option Nat}{P:Program}{K:List Kx}{C:Cx}{l:List (Nat×Value)}{H:List (Nat×Res)}{fn:Func}{R:Ending->World->Prop}
end
section
variable {P:Program}{fn:Func}{n:Nat}{ds:List Deferred}{w0:World}{S:List Nat}{F:Nat->Prop}{l:List (Nat×Value)}{H:List (Nat×Res)}{pv:Int->Value}
end
section
variable {P:Program}{fn:Func}{n:Nat}{ds:List Deferred}{w0:World}{S0:List Nat}{F:Nat->Prop}{l:List (Nat×Value)}{H:List (Nat×Res)}
end
section
variable {r:Option Nat}{P:Program}{ops:Array Oper}{Q:Exit->Act->World->Prop}{rest:List Oper}{C:Cx}{l:List (Nat×Value)}{H:List (Nat×Res)}{d:Option Tmp}{T:TypeId}{pos:String}{af:Array Edge}
theorem AL.dfr {f:FuncId}{xs:List Operand}{vs:List Value}{ts:Array TypeId}(h:AL none P ops Q rest ⟨C.n,{target:=.fn (.func f) #[],args:=vs.toArray}::C.ds,C.w0,C.S,C.F⟩ l H)(hx:evs l xs=some vs:=by rfl):
  AL none P ops Q (⟨none,.defer {callee:=.value (.func f),args:=xs.toArray,argTypes:=ts},T,pos,af,none⟩::rest) C l H:=fun a w hf hh=>
 Z.defer hf (Z.r_defer hf hx) fun a' hf'=>h a' w hf' ⟨hh.ch,hh.hold,hh.bnd,hh.dis,hh.ref⟩
end
section
variable {P:Program}{pv:Int->Value}{x:Int}{f:FuncId}{fn:Func}{c:Code}{vs:List Value}{H:List (Nat×Res)}{m id d:Nat}{T:TypeId}{pos:String}{af:Array Edge}{S:List Nat}{R:Value->List (Nat×Res)->Prop}
end
section
variable {P:Program}{fn:Func}{n:Nat}{ds:List Deferred}{w0:World}{S0:List Nat}{F:Nat->Prop}{l:List (Nat×Value)}{H:List (Nat×Res)}{pv:Int->Value}
end
section
variable {P:Program}{l:List (Nat×Value)}{a:Act}{w:World}{d:Option Tmp}{T:TypeId}{pos:String}{af:Array Edge}{gd:Option (Nat×Bool)}{n:Nat}{ds:List Deferred}{x:Operand}{v:Value}{t t0:TypeId}
end
theorem hp_nil {w:World}{F:Nat->Prop}:Hp ⟨0,[],w,[],F⟩ [] w:=by
 refine⟨Ch.refl w |>.mono (by simp),fun k r h=>?_,fun k b ⟨r,h,hb⟩=>?_,fun k k' b ⟨r,h,_⟩ ⟨r',h',_⟩=>?_,fun k r j h hr=>?_⟩
 ·cases h
 ·cases h
 ·cases h
 ·cases h
section
variable {P:Program}{fn:Func}{n:Nat}{ds:List Deferred}{w0:World}{S0:List Nat}{F:Nat->Prop}{l:List (Nat×Value)}{H:List (Nat×Res)}
end
end Go.A
end
section
namespace Go.Z
open Go.RowKit
section
variable {P:Program}{w:World}
theorem enterRecI {k:Nat}{f:FuncId}{fn:Func}{c:Code}{vs:List Value}{m id d:Nat}{T:TypeId}{pos:String}{af:Array Edge}{R:Ending->World->Prop}(hf:P.funcs[f]?=some fn)
  (hb:fn.body=some (Code.seq (.region id #[⟨some d,.call {callee:=.builtin .recover,args:=#[],argTypes:=#[]},T,pos,af,none⟩] false) c)) (hn:fn.ntmps=m) (hm:vs.length<=m) (hd:Nat.ble (d+1) m=true)
  (h: ∀a,Fr a m [] ((d,.nilIface)::argl vs 0)->c.wpIn (FW none) k P (bodyPost P fn R) a w):CallsDIn (FW none) k P f vs.toArray .returning w fun e u2 w'=>u2=.returning/\R e w':=by
 refine callsDIn_of_wpSIn hf hb trivial fun c₀ cs hu=>wpSIn_seq (wpSIn_region ?_)
 have hx: ∀a':Act,(execOp a'.eval ⟨some d,.call {callee:=.builtin .recover,args:=#[],argTypes:=#[]},T,pos,af,none⟩).run P w=.ok .recover w:=fun a'=>by
  simp[execOp,resolve,invoke,builtin]
 have hl:List.range (Array.size #[(⟨some d,.call {callee:=.builtin .recover,args:=#[],argTypes:=#[]},T,pos,af,none⟩:Oper)])=[0]:=rfl
 have h0:Fr (a:={tmps:=vs.toArray++Array.replicate (fn.ntmps-vs.toArray.size) undef,defers:=[]}) m [] (argl vs 0):=by subst hn;exact Fr.entry vs _ hm
 have hq:=h _ (h0.put (Qi hd) .nilIface)
 rw[hl]
 simp only[wpOpsSIn,W9,Wl,Region.wanted,X6,hx]
 have hrec:recoverD (c₀::cs)=none:=by simp[recoverD,hu]
 simp only[hrec,Exit.thenS]
 have hc:c₀={c₀ with mode:=.returning}:=by rw[<-hu]
 refine⟨fun _ _=>trivial,wpSIn_of_wpIn rfl (wpIn_mono hq fun e a w hq=>?_)⟩
 rw[hc];exact Qfd e a w hq
end
end Go.Z
namespace Go.A
open Go.RowKit Go.Z
def CtNI (P:Program)(f:FuncId)(vs:List Value)(H:List (Nat×Res))(S:List Nat)(R:Value->List (Nat×Res)->Prop):Prop:=
 ∀(w:World) (F:Nat->Prop),Hp ⟨0,[],w,S,F⟩ H w->CallsDIn (FW none) 0 P f vs.toArray .returning w fun e u' w'=>u'=.returning/\∃v H',e=.returned v/\R v H'/\Hp ⟨0,[],w,S,F⟩ H' w'
theorem CtNI.enter {P:Program}{f:FuncId}{fn:Func}{c:Code}{vs:List Value}{H:List (Nat×Res)}{m id d:Nat}{T:TypeId}{pos:String}{af:Array Edge}{S:List Nat}{R:Value->List (Nat×Res)->Prop}(hf:P.funcs[f]?=some fn)(hb:fn.body=some (Code.seq (.region id #[⟨some d,.call {callee:=.builtin .recover,args:=#[],argTypes:=#[]},T,pos,af,none⟩] false) c))(hn:fn.ntmps=m)(hm:Nat.ble vs.length m=true)(hd:Nat.ble (d+1) m=true)
  (h: ∀w F,AX none P (bodyPost P fn fun e w'=>∃v H',e=.returned v/\R v H'/\Hp ⟨0,[],w,S,F⟩ H' w') [] c ⟨m,[],w,S,F⟩ ((d,.nilIface)::argl vs 0) H):CtNI P f vs H S R:=fun w F hh=>
 Z.enterRecI hf hb hn (Qi hm) hd fun a hfr=>h w F a w hfr ⟨hh.ch,hh.hold,hh.bnd,hh.dis,hh.ref⟩
def LM (P:Program)(fn:Func)(R:Ending->World->Prop)(C:Cx)(l:List (Nat×Value))(H:List (Nat×Res)):Prop:=∀a w,Fr a C.n C.ds l->Hp C H w->LeavesInM (FW none) 0 P fn a.tmps R a.defers .returning w
theorem Ct.enterDM {P:Program}{f:FuncId}{fn:Func}{c:Code}{vs:List Value}{H:List (Nat×Res)}{n:Nat}{S:List Nat}{R:Value->List (Nat×Res)->Prop}(hf:P.funcs[f]?=some fn)(hb:fn.body=some c)(hn:fn.ntmps=n)(hm:Nat.ble vs.length n=true)
  (h: ∀w F,AX none P (bodyPostM (FW none) 0 P fn fun e w'=>∃v H',e=.returned v/\R v H'/\Hp ⟨0,[],w,S,F⟩ H' w') [] c ⟨n,[],w,S,F⟩ (argl vs 0) H):Ct P f vs H S R:=fun w F hh=>
 Z.enterM hf hb hn (Qi hm) fun a hfr=>h w F a w hfr hh.nds
section
variable {r:Option Nat}{P:Program}{K:List Kx}{C:Cx}{l:List (Nat×Value)}{H:List (Nat×Res)}{fn:Func}{R:Ending->World->Prop}
theorem AX.retLM (h:LM P fn R C l H):AX r P (bodyPostM (FW none) 0 P fn R) K .ret C l H:=AX.ret0 fun a w hf hh=>h a w hf hh
end
section
variable {P:Program}{fn:Func}{n:Nat}{ds:List Deferred}{w0:World}{S:List Nat}{F:Nat->Prop}{l:List (Nat×Value)}{H:List (Nat×Res)}
theorem LM.nil {R:Value->List (Nat×Res)->Prop}(ps:List (Nat×Nat))(v:Value)(hres: ∀a w,Fr a n [] l->Hp ⟨n,[],w0,S,F⟩ H w->(results fn a.tmps).run P w=.ok v w)(hR:R v (A.ren H ps))(h1:nod (ps.map (·.1))=true:=by rfl)(h2:nod (ps.map (·.2))=true:=by rfl):
  LM P fn (fun e w'=>∃v H',e=.returned v/\R v H'/\Hp ⟨0,[],w0,S,F⟩ H' w') ⟨n,[],w0,S,F⟩ l H:=fun a w hf hh=>by
 have h3:=hh.ren ps h1 h2
 rw[show a.defers=[]from hf.defs]
 exact⟨v,hres a w hf hh,v,_,rfl,hR,⟨h3.ch,h3.hold,h3.bnd,h3.dis,h3.ref⟩⟩
theorem LM.nn {f:FuncId}{vs:List Value}{R:Ending->World->Prop}(hcf: ∀args w,(callFunc f args).run P w=.ok (.enter f args) w)
  (hct:CtNI P f vs [] [] fun v H'=>v=.tuple #[]/\H'=[]) (h:LM P fn R ⟨n,ds,w0,S,F⟩ l H):LM P fn R ⟨n,{target:=.fn (.func f) #[],args:=vs.toArray}::ds,w0,S,F⟩ l H:=fun a w hf hh=>by
 rw[show a.defers={target:=.fn (.func f) #[],args:=vs.toArray}::ds from hf.defs]
 refine⟨by simp,.inr ⟨(fun h=>by cases h),.func f,#[],f,vs.toArray,rfl,by simp[invoke,hcf],fun _ _=>trivial,?_⟩⟩
 refine(hct w (fun _=>False) hp_nil).mono fun e u2 w' ⟨h1,v,H',h2,⟨_,h3⟩,hh'⟩=>?_
 subst h1;subst h2;subst h3
 exact h {a with defers:=ds} w' ⟨hf.size,rfl,hf.get⟩ (hp_ch0 (⟨hh.ch,hh.hold,hh.bnd,hh.dis,hh.ref⟩:Hp ⟨n,ds,w0,S,F⟩ H w) hh'.ch)
theorem LM.mark {D:Nat}{R:Ending->World->Prop}(k:Nat)(h:LM P fn R ⟨n,ds,w0,S,F⟩ l ((k,.dead)::ded [] H))(hk1:hk H k=some (.ob D dfT):=by rfl)(hj:hng [k] [] H=true:=by kernel_rfl):LM P fn R ⟨n,mkD D::ds,w0,S,F⟩ l H:=fun a w hf hh=>by
 rw[show a.defers=mkD D::ds from hf.defs]
 obtain⟨d,hd,e2⟩: ∃d,w.heap[D]?=some d/\d=.deferred (some []):=hh.hold k _ hk1
 subst e2
 have hh:Hp ⟨n,ds,w0,S,F⟩ H w:=⟨hh.ch,hh.hold,hh.bnd,hh.dis,hh.ref⟩
 refine⟨by simp,.inl ⟨D,_,rfl,run_takeDeferred hd,?_⟩⟩
 exact h {a with defers:=ds} _ ⟨hf.size,rfl,hf.get⟩ (Hp.dd (hh.upd (k:=k) (r':=.dead) (Ch.putObj w D _) (fun x hx=>⟨_,hk1,by simpa[Res.bl] using hx⟩) (fun x hx=>(by cases hx)) (fun j hj=>(by cases hj)) fun F B _ _ _ _ _=>trivial) hj)
end
end Go.A
end
section
namespace Go.Proofs.YtlbdgahbamalcaaGreatDoor
open Go.RowKit
variable(A0_ A1_ A2_ A4_ A5_ A6_ A7_ A8_ A13_:Option Addr)(b0_ g0_ b1_ c1_ b2_ c2_ g2_ b3_ c3_ b4_ g4_ b5_ c5_ b6_ c6_ g6_ c7_ c8_ c9_ g10_ c14_:Nat)
def F.s (u:(List Int)->Int->Int->Option (List Int))(o:Int)(y:List Int)(z:Int):Option (List Int):=A.gd (Z.R64 (o+1)) (u y z (o+1))
def F.c (B:(List Int))(y:Int):Nat->(List Int)->Int->Int->Option (List Int)
 |0,_,_,_=>none
 |f+1,o,u,z=>if z<((B.length -y.toNat:Nat):Int)then(A.gd (Z.R64 (z-1)) (A.gd (y.toNat<=o.length) ((A.ix (List.drop y.toNat o) z).bind fun J=>(A.gd (y.toNat<=o.length) ((A.ix (List.drop y.toNat o) (z-1)).bind fun L=>(if J≠L then(A.gd (y.toNat<=o.length) ((A.ix (List.drop y.toNat o) z).bind fun N=>((A.ix o u).bind fun U=>(A.gd (Z.R64 (u+1)) (F.s (F.c B y f) z (o.set u.toNat N) (u+1))))))else(F.s (F.c B y f) z o u)))))))else(A.gd (0<=u/\u.toNat<=o.length) (A.gd (0<=u/\u.toNat<=(List.take u.toNat o++List.replicate (o.length -u.toNat) (0:Int)).length) (some (List.take u.toNat (List.take u.toNat o++List.replicate (o.length -u.toNat) (0:Int))))))
def F.g (s:(List Int)):Nat->Int->Option (List Int)
 |0,_=>none
 |f+1,o=>if o<(s.length:Int)then(A.gd (Z.R64 (o-1)) ((A.ix s o).bind fun u=>((A.ix s (o-1)).bind fun y=>(if u=y then(A.gd (0<=o/\o.toNat<=s.length) (F.c s o A.FU s o 1))else(A.gd (Z.R64 (o+1)) ((F.g s f) (o+1)))))))else(some s)
def F.ab (o:(List Int)):Option (List Int):=if(o.length:Int)<2 then(some o)else(F.g o A.FU 1)
theorem o_ad(J:(List Int))(r:(List Int))(y:F.ab J=some r):
    A.Ct Tryz.prog 37 [.slice A0_ J.length c1_] [(0,.own A.ti 2 A0_ c1_ J)] (Z.obl A0_++[]) (fun v H'=>∃(A0':Option Addr) (c1':Nat),v=.slice A0' r.length c1'/\H'=[(0,.sh A.TI [.slice A0' r.length c1'] r)]):=by
 refine Jv Tryz.func37 rfl Tryz.ntmps37 rfl fun w0 F0=>?_;rw[F.ab]at y;refine J0 1 ?_;refine J7 1 [] 3 ?_;refine Vc 3 [(8,.bool (decide ((J.length:Int)<2)))] 1 ?_;refine Uv y ?_ ?_<;>intro hb y
 ·refine Va 1 2 [(2,.slice A0_ J.length c1_)] 1 ?_;obtain rfl:=Vf y;refine U3 0 [] ?_;exact V7 [(0,0)] ⟨A0_,c1_,rfl,rfl⟩
 refine Va 4 1 [(3,A.i 1)] 2 ?_;refine Vo [0] [0] (fun f W Y=>∃(B:Int),W=[(3,A.i B)]/\Y=[]/\A.h6 B/\F.g J f B=some r) ⟨1,rfl,rfl,(Vp 1),y⟩ ?_;rintro f3 _ _ ⟨B,rfl,rfl,ak,y⟩;rcases f3 with _|f3
 ·exact Vb y
 rw[F.g]at y;refine Vl 2 4 [(13,.bool (decide (B<(J.length:Int))))] 1 y ?_ ?_<;>intro hb y
 ·refine Um 5 ?_;refine Vj mixed 10 10 (A.mb 10 0) ?_;have⟨al,y⟩:=Vs y;refine A.AH.q Vd [] [0] [] [] (A.mb 10 115) 5 [(0,.n),(1,.n),(4,.n),(5,.n),(6,.n)] [16,17,20,22] [Z.R64 (B-1)] [(16,.slice A0_ J.length c1_),(17,A.i B),(20,.slice A0_ J.length c1_),(22,A.i (B-1))] al ?_;have⟨x5,a5,y⟩:=V6 y;refine A.AH.pko 0 35 a5 fun b1=>?_;intro g9 am;refine V0 Vd [0] [0,35] 2 (A.mb 10 119) rfl (fun a w hf hh=>A.r_ixo (t:=A.ti) a5 am hf) ?_;refine Vm Vd [0,35] [0,35] [] [35] (A.mb 10 127) 3 [(3,.e 0 0)] [(19,A.i x5)] ?_;have⟨an,a6,y⟩:=V6 y;refine A.AH.pko 0 36 a6 fun b2=>?_;intro b3 ao;refine V0 Vd [0,35] [0,35,36] 7 (A.mb 10 255) rfl (fun a w hf hh=>A.r_ixo (t:=A.ti) a6 ao hf) ?_;refine Vm Vd [0,35,36] [0,35,36] [] [36] (A.mb 10 1023) 0 [(8,.e 0 0),(9,.n)] [(25,.bool (decide (x5=an)))] (J6 ?_);refine A.ex 1 ?_;refine Uv y ?_ ?_<;>intro hb y
  ·refine Ub 1 2 [(26,.slice A0_ J.length c1_),(27,A.i B)] ?_;have⟨a7,y⟩:=Vs y;refine A.AL.cutv 0 (u:=B.toNat) (Xk a7.1).symm a7.2 ?_;refine J7 1 [(4,.slice (Z.cutA A0_ c1_ B.toNat (A.ti).size) (J.length-B.toNat) (c1_-B.toNat))] 3 ?_;refine Vc 1 [(5,A.i 1)] 2 ?_;refine Vo [0,4] [] (fun f W Y=>∃(U:List Int)(L:Int)(N:Int),W=[(3,A.i L),(5,A.i N)]/\Y=[(0,.own A.ti 2 A0_ c1_ U)]/\J.length=U.length/\A.h6 L/\A.h6 N/\F.c J B f U L N=some r) ⟨J,B,1,rfl,rfl,rfl,ak,(Vp 1),y⟩ ?_;rintro a4 _ _ ⟨U,L,N,rfl,rfl,hn19,ap,b4,y⟩;rcases a4 with _|a4
   ·exact Vb y
   rw[F.c]at y;refine Vl 2 4 [(32,.bool (decide (N<((J.length -B.toNat:Nat):Int))))] 1 y ?_ ?_<;>intro hb y
   ·refine Um 2 ?_;refine J4 [0,4,5] [] (fun W Y=>∃(a1:List Int)(a2:Int),W=[(3,A.i a2)]/\Y=[(0,.own A.ti 2 A0_ c1_ a1)]/\J.length=a1.length/\A.h6 a2/\F.s (F.c J B a4) N a1 a2=some r) ?_ ?_
    ·refine Um 2 ?_;refine Vj mixed 10 10 (A.mb 10 0) ?_;have⟨aq,y⟩:=Vs y;refine A.AH.q Vd [] [0] [] [] (A.mb 10 115) 5 [(0,.n),(1,.n),(4,.n),(5,.n),(6,.n)] [35,36,39,41] [Z.R64 (N-1)] [(35,.slice (Z.cutA A0_ c1_ B.toNat (A.ti).size) (J.length-B.toNat) (c1_-B.toNat)),(36,A.i N),(39,.slice (Z.cutA A0_ c1_ B.toNat (A.ti).size) (J.length-B.toNat) (c1_-B.toNat)),(41,A.i (N-1))] aq ?_;have⟨hu37,y⟩:=Vs y;have⟨a8,a9,y⟩:=V6 y;refine A.pkw 0 47 a9 hu37 fun b5=>?_;intro b6 b7 ar;refine V0 Vd [0] [0,47] 2 (A.mb 10 119) rfl (fun a w hf hh=>Un (t:=A.ti) a9 ar hf (A.vw rfl (Qv (fun z=>z-B.toNat) hn19))) ?_;refine Vm Vd [0,47] [0,47] [] [47] (A.mb 10 127) 3 [(3,.e 0 0)] [(38,A.i a8)] ?_;have⟨hu44,y⟩:=Vs y;have⟨au,aa,y⟩:=V6 y;refine A.pkw 0 48 aa hu44 fun b9=>?_;intro bb bc av;refine V0 Vd [0,47] [0,47,48] 7 (A.mb 10 255) rfl (fun a w hf hh=>Un (t:=A.ti) aa av hf (A.vw rfl (Qv (fun z=>z-B.toNat) hn19))) ?_;refine Vm Vd [0,47,48] [0,47,48] [] [48] (A.mb 10 1023) 0 [(8,.e 0 0),(9,.n)] [(44,.bool (decide (a8≠au)))] (J6 ?_);refine A.ex 1 ?_;refine Uv y ?_ ?_<;>intro hb y
     ·refine Ub 1 4 [(45,.slice A0_ J.length c1_),(46,A.i L),(47,.slice (Z.cutA A0_ c1_ B.toNat (A.ti).size) (J.length-B.toNat) (c1_-B.toNat)),(48,A.i N)] ?_;have⟨hu52,y⟩:=Vs y;have⟨a3,aw,y⟩:=V6 y;refine A.AL.ixw 0 49 aw hu52 (Qv (fun z=>z-B.toNat) hn19) fun ax=>?_;intro be bg;refine J5 [] [49] [.e 0 0] [(50,A.i a3)] (A.cst 45 (Ud (show J.length=U.length from hn19)) ?_);have⟨ay,ac,y⟩:=V6 y;refine Uq 0 50 ac fun bh=>?_;intro bi az;refine A.AL.setel 0 50 [47,48,49,50] (o:=0) (m:=1) (t:=A.ti) (new:=[A.i a3]) (es:=[A.i ay]) a3 ac az ⟨rfl,ax⟩ ?_;refine Vk 1 ?_;have⟨ad,y⟩:=Vs y;refine Uf 3 [Z.R64 (L+1)] [(3,A.i (L+1))] ad (U4 1 ?_);exact Vn ⟨(U.set L.toNat a3),(L+1),rfl,rfl,(by rw[X0];exact hn19),(Jw ad),y⟩
     refine V1 2 ?_;exact Vn ⟨U,L,rfl,rfl,hn19,ap,y⟩
    rintro _ _ ⟨a1,a2,rfl,rfl,hn28,b0,y⟩;rw[F.s]at y;refine J0 0 ?_;have⟨ae,y⟩:=Vs y;refine Uf 3 [Z.R64 (N+1)] [(5,A.i (N+1))] ae (Ju ?_);exact Vn ⟨_,Qn _,⟨a1,a2,(N+1),rfl,rfl,hn28,b0,(Jw ae),y⟩⟩
   refine Ub 3 2 [(54,.slice A0_ J.length c1_),(55,A.i L)] ?_;refine A.cst 54 (Ud (show J.length=U.length from hn19)) ?_;have⟨ag,y⟩:=Vs y;refine A.AL.clr 0 [] (t:=A.ti) (u:=L.toNat) (zs:=l4k) (0:Int) (Xk ag.1).symm ag.2 Tryz.zeroValue2 ⟨rfl,by decide⟩ ?_ Tryz.sizeOf2
   refine Vk 2 ?_;refine V9 2 [(57,.slice A0_ J.length c1_),(58,A.i L)] (A.cst 57 (Ud (show J.length=(List.take L.toNat U++List.replicate (U.length -L.toNat) (0:Int)).length from(Eq.trans hn19 (by rw[Wg,Qw,Jl];omega)))) ?_);have⟨ah,y⟩:=Vs y;refine A.AL.cuto 0 [] (v:=L.toNat) (Xk ah.1).symm ah.2 ?_;refine Vc 1 [(2,.slice A0_ ((List.take L.toNat (List.take L.toNat U++List.replicate (U.length -L.toNat) (0:Int))).length) c1_)] 1 ?_;obtain rfl:=Vf y;refine U3 0 [] ?_;exact V7 [(0,0)] ⟨A0_,c1_,rfl,rfl⟩
  refine J0 3 ?_;have⟨aj,y⟩:=Vs y;refine Uf 3 [Z.R64 (B+1)] [(3,A.i (B+1))] aj (Ju ?_);exact Vn ⟨_,Qn _,⟨(B+1),rfl,rfl,(Jw aj),y⟩⟩
 refine Va 3 2 [(2,.slice A0_ J.length c1_)] 1 ?_;obtain rfl:=Vf y;refine U3 0 [] ?_;exact V7 [(0,0)] ⟨A0_,c1_,rfl,rfl⟩
def F.aD (s:(List D39)):Nat->(List Int)->Int->Option ((List Int))
 |0,_,_=>none
 |f+1,u,o=>if o<(s.length:Int)then((A.ix s o).bind fun y=>(A.gd ((List.length (α:=Int) u+List.length (α:=Int) [y.2.1])*8<=140737488355328) (A.gd (Z.R64 (o+1)) ((F.aD s f) (u++[y.2.1]) (o+1)))))else((F.aJ u).bind fun z=>((F.ab z).bind fun B=>((F.ak B).bind fun J=>(some J))))
def F.bz (o:(List D39)):Option ((List Int)):=F.aD o A.FU [] 0
theorem o_ax(J:(List D39))(r:((List Int)))(o:F.bz J=some r):
    A.Ct Tryz.prog 17 [.slice A0_ J.length c1_] [(0,.ln T39 A0_ c1_ J)] [] (fun v H'=>∃(g0':Nat) (A1':Option Addr) (c2':Nat),v=.func (.func 54) #[] #[.pointer (some ⟨g0',0,none⟩)]/\H'=[(0,.blk g0' 58 [.slice A1' r.length c2']),(1,.sh A.TI [.slice A1' r.length c2'] r)]):=by
 refine Jv Tryz.func17 rfl Tryz.ntmps17 rfl fun w0 F0=>?_;rw[F.bz]at o;refine J0 1 ?_;refine J7 1 [] 2 ?_;refine J7 1 [(3,.slice none 0 0)] 3 ?_;refine Vc 3 [(6,.slice A0_ J.length c1_),(7,A.i (J.length:Int)),(8,A.i 0)] 2 ?_;refine Ul 127 A.ti 2 ?_;refine Vo [6,7] [0] (fun f nl nh=>∃(u:List Int)(y:Int)(z:Option Addr)(B:Nat),nl=[(3,.slice z u.length B),(8,A.i y)]/\nh=[(127,.own A.ti 2 z B u)]/\A.h6 y/\F.aD J f u y=some r) ⟨[],0,none,0,rfl,rfl,J3,o⟩ ?_;rintro N _ _ ⟨u,y,z,B,rfl,rfl,aa,o⟩;rcases N with _|N
 ·exact Vb o
 rw[F.aD]at o;refine Vl 1 1 [(9,.bool (decide (y<(J.length:Int))))] 2 o ?_ ?_<;>intro hb o
 ·refine J0 5 ?_;have⟨L,a3,o⟩:=V6 o;refine Vz 0 374 a3 fun a4=>?_;intro ab ac;refine J5 [] [374] [.e 0 0] [(11,(A.ran L))] (Jy 375 (cs:=[A.i 0,A.i 0,A.i 0,.string (ByteArray.mk #[])]) Tryz.zeroValue40 fun ad=>?_);refine Vg 375 [] (A.rah L) ?_;refine Vk 1 ?_;refine J5 [375] [] [.n,.n,.b 0 1] [(12,.slice z u.length B),(14,A.i L.2.1)] (Ve 376 (ty:=A.ti) (cs:=[A.i L.2.1]) [L.2.1] ⟨⟨rfl,a4.2.1⟩,rfl⟩ (fun ae=>?_) Tryz.zeroValue2 Tryz.sizeOf2)
  have⟨hl16,o⟩:=Vs o;refine Vt (k:=127) [] (Uc (k:=376) rfl) inf2 hl16 fun U W=>?_;refine J7 1 [(3,.slice U ((u++[L.2.1]).length) W)] 2 ?_;have⟨Y,o⟩:=Vs o;refine Uf 2 [Z.R64 (y+1)] [(8,A.i (y+1))] Y (Ju ?_);exact Vn ⟨_,Qn _,⟨(u++[L.2.1]),(y+1),U,W,rfl,rfl,(Jw Y),o⟩⟩
 refine Ub 3 1 [(18,.slice z u.length B)] ?_;refine Vx 377 [] o (o_aj z B u) (.m 127 .nil) ?_;rintro a1 - o _ _ ⟨rfl,rfl,hr20⟩;refine J9 (J8 377 127 [] ?_);refine Vk 2 ?_;refine V9 1 [(20,.slice z u.length B)] (A.cst 20 (Ud (show u.length=a1.length from(Eq.symm hr20))) ?_);refine Vx 417 [] o (o_ad z B a1) (.m 127 .nil) ?_;rintro a5 - o _ _ ⟨a6,a7,rfl,rfl⟩;refine J9 (Vx 457 [] o (o_ag a6 a7 a5) (.s 417 .nil) ?_);rintro ag - o _ _ ⟨a2,a8,a9,rfl,rfl⟩;refine J9 (Vc 1 [(2,.func (.func 54) #[] #[.pointer (some ⟨a2,0,none⟩)])] 1 ?_);obtain rfl:=Vf o;exact V7 [(0,457),(1,458)] ⟨a2,a8,a9,rfl,rfl⟩
theorem Qbd (g0_ g1_ g2_:Nat):A.CtNI Tryz.prog 25 [.pointer (some ⟨g0_,0,none⟩),.pointer (some ⟨g1_,0,none⟩),.pointer (some ⟨g2_,0,none⟩)] [] [] (fun v H'=>v=.tuple #[]/\H'=[]):=by
 refine A.CtNI.enter Tryz.func25 rfl Tryz.ntmps25 rfl rfl fun w0 F0=>?_
 refine J0 2 ?_
 refine Uy rfl (fun a w hf hh=>Z.r_eqif_nil Tryz.underlying20 (hf.eval rfl)) ?_
 refine V4 1 ?_
 refine Ua rfl ?_
 refine J0 0 ?_
 refine J5 [] [] [.n] [] ?_
 refine U4 1 ?_
 exact Ui [] (.tuple #[]) (fun a w hf hh=>Uw rfl w) (⟨rfl,rfl⟩)
def F.aW (o:Int):Option Bool:=some (bif decide (o=1)then true else decide (o=15))
theorem o_l (o:Int)(u:A.h6 o)(r:Bool)(s:F.aW o=some r):
    A.Ct Tryz.prog 79 [A.i o] [] [] (fun v H'=>v=.bool r/\H'=[]):=by
 refine Jv Tryz.func79 rfl Tryz.ntmps79 rfl fun w0 y=>?_;rw[F.aW]at s;refine J0 1 ?_;refine J7 1 [] 2 ?_;refine Vw [] [] [.n,.n,.n,.sy .n,.sy .n,.pk,.n] [(2,.bool (bif decide (o=1)then true else decide (o=15)))] 1 ?_;exact A.ke s (Vh ⟨rfl,rfl⟩)
def F.cE (o:Int):Option Int:=if(bif decide (o<1)then true else decide ((16:Int)<o))=true then(some (-1))else(if o=1 then(some 0)else(if(bif decide (o=5)then true else decide (o=9))=true then(some 2)else(some 1)))
theorem o_aU (s:Int)(y:A.h6 s)(r:Int)(o:F.cE s=some r):
    A.Ct Tryz.prog 117 [A.i s] [] [] (fun v H'=>v=A.i r/\H'=[]/\A.h6 r):=by
 refine Jv Tryz.func117 rfl Tryz.ntmps117 rfl fun w0 z=>?_;rw[F.cE]at o;refine J0 1 ?_;refine J7 1 [] 4 ?_;refine Vw [] [] [.n,.n,.n,.sy .n,.sy .n,.pk,.n] [(3,.bool (bif decide (s<1)then true else decide ((16:Int)<s)))] 1 ?_;refine Uk o ?_ ?_<;>intro u o
 ·refine Va 1 1 [(2,A.i (-1))] 1 ?_;exact A.ke o (Vh ⟨rfl,rfl,(Vp (-1))⟩)
 refine Vl 1 3 [(10,.bool (decide (s=1)))] 1 o ?_ ?_<;>intro u o
 ·refine Va 1 1 [(2,A.i 0)] 1 ?_;exact A.ke o (Vh ⟨rfl,rfl,J3⟩)
 refine Uh 1 [] [] [.n,.n,.n,.sy .n,.sy .n,.pk,.n] [(13,.bool (bif decide (s=5)then true else decide (s=9)))] 1 ?_;refine Uk o ?_ ?_<;>intro u o
 ·refine Va 1 1 [(2,A.i 2)] 1 ?_;exact A.ke o (Vh ⟨rfl,rfl,(Vp 2)⟩)
 refine Va 4 1 [(2,A.i 1)] 1 ?_;exact A.ke o (Vh ⟨rfl,rfl,(Vp 1)⟩)
def F.a5 (o:ByteArray):Nat->Nat->Option Bool
 |0,_=>none
 |f+1,s=>if s<o.size then(if(bif decide ((97:Int)<=((Utf8.decode o s).1:Int))then decide (((Utf8.decode o s).1:Int)<=122)else false)=true then((F.a5 o f) (s+(Utf8.decode o s).2))else(if(!(bif decide ((65:Int)<=((Utf8.decode o s).1:Int))then decide (((Utf8.decode o s).1:Int)<=90)else false))=true then(if(bif bif decide ((s:Int)=0)then true else decide (((Utf8.decode o s).1:Int)<48)then true else decide ((57:Int)<((Utf8.decode o s).1:Int)))=true then(some false)else((F.a5 o f) (s+(Utf8.decode o s).2)))else((F.a5 o f) (s+(Utf8.decode o s).2))))else(some (bif decide (o≠(ByteArray.mk #[]))then decide ((o.size:Int)<=16)else false))
def F.bL (o:ByteArray):Option Bool:=F.a5 o A.FU 0
theorem o_s (s:ByteArray)(N:s.size<=maxLen)(r:Bool)(o:F.bL s=some r):
    A.Ct Tryz.prog 118 [.string s] [] [] (fun v H'=>v=.bool r/\H'=[]):=by
 refine Jv Tryz.func118 rfl Tryz.ntmps118 rfl fun w0 U=>?_;rw[F.bL]at o;refine J0 1 ?_;refine J7 1 [] 3 ?_;refine V9 1 [(6,.string s)] (A.AL.rgs 0 fun z=>?_);refine V4 2 ?_;refine Vo [0,7] [] (fun f B J=>∃(u:Nat),B=[]/\J=[(0,.si z s u)]/\F.a5 s f u=some r) ⟨0,rfl,rfl,o⟩ ?_;rintro y _ _ ⟨u,rfl,rfl,o⟩;rcases y with _|y
 ·exact Vb o
 rw[F.a5]at o;refine J0 1 ?_;refine A.AL.nxs 0 [] o (fun hb4 o=>?_) (fun L o=>?_)
 ·refine Vc 1 [(9,.bool true)] 2 ?_;refine Ua rfl ?_;refine J0 4 ?_;refine J7 4 [(3,A.i (u:Int)),(4,.int .i32 ((Utf8.decode s u).1:Int))] 2 ?_;refine J5 [] [] [.n,.n,.n,.sy .n,.sy .n,.pk,.n] [(18,.bool (bif decide ((97:Int)<=((Utf8.decode s u).1:Int))then decide (((Utf8.decode s u).1:Int)<=122)else false))] (V2 (j:=18) rfl o (fun o=>?_) (fun o=>?_))
  ·refine J5 [] [] [.off,.off,.off,.off,.off,.off,.n,.n] [(5,.bool true)] (Vk 2 ?_);refine Vw [] [] [.n,.n,.n,.off,.off,.off,.off,.off,.off,.off,.off,.off,.off,.n] [(39,.bool false)] 1 ?_;refine V5 rfl ?_;refine V1 2 ?_;exact Vn ⟨_,Qn _,⟨(u+(Utf8.decode s u).2),rfl,rfl,o⟩⟩
  refine J5 [] [] [.on .n,.on .n,.on .n,.sy .n,.sy .n,.on .pk,.n,.n] [(5,.bool (bif decide ((65:Int)<=((Utf8.decode s u).1:Int))then decide (((Utf8.decode s u).1:Int)<=90)else false))] (Vk 2 ?_);refine V9 3 [(28,.bool (!(bif decide ((65:Int)<=((Utf8.decode s u).1:Int))then decide (((Utf8.decode s u).1:Int)<=90)else false)))] (V2 (j:=28) rfl o (fun o=>?_) (fun o=>?_))
  ·refine Vw [] [] [.on .n,.on .n,.on .n,.sy .n,.sy .n,.on .pk,.on .n,.sy .n,.sy .n,.on .pk,.n] [(39,.bool (bif bif decide ((u:Int)=0)then true else decide (((Utf8.decode s u).1:Int)<48)then true else decide ((57:Int)<((Utf8.decode s u).1:Int))))] 1 ?_;refine Uk o ?_ ?_<;>intro L o
   ·refine Va 1 1 [(2,.bool false)] 1 ?_;exact A.ke o (Vh ⟨rfl,rfl⟩)
   refine V1 2 ?_;exact Vn ⟨_,Qn _,⟨(u+(Utf8.decode s u).2),rfl,rfl,o⟩⟩
  refine Vw [] [] [.off,.off,.off,.off,.off,.off,.off,.off,.off,.off,.n] [(39,.bool false)] 1 ?_;refine V5 rfl ?_;refine V1 2 ?_;exact Vn ⟨_,Qn _,⟨(u+(Utf8.decode s u).2),rfl,rfl,o⟩⟩
 refine Vc 1 [(9,.bool false)] 2 ?_;refine V5 rfl ?_;refine Uh 3 [] [] [.n,.n,.n,.sy .n,.sy .n,.sy .n,.pk,.n] [(2,.bool (bif decide (s≠(ByteArray.mk #[]))then decide ((s.size:Int)<=16)else false))] 1 ?_;exact A.ke o (Vh ⟨rfl,rfl⟩)
def F.ce:Option Bool:=some false
def F.cf (o:D33)(s:Bool):Option Bool:=if s=true then(F.ce)else(if o.2.1=14 then(if(bif bif bif decide (o.2.2.2.2.2.1<1)then true else decide ((8:Int)<o.2.2.2.2.2.1)then true else decide (o.2.2.2.2.2.2<1)then true else decide ((4:Int)<o.2.2.2.2.2.2))=true then(some false)else(if(!(decide (o.2.1=14)))=true then(if(bif decide (o.2.2.2.2.2.1≠0)then true else decide (o.2.2.2.2.2.2≠0))=true then(some false)else((F.aW o.2.1).bind fun u=>(if u=true then((F.bL o.2.2.2.2.1).bind fun y=>(some y))else(some (decide (o.2.2.2.2.1=(ByteArray.mk #[])))))))else((F.aW o.2.1).bind fun z=>(if z=true then((F.bL o.2.2.2.2.1).bind fun B=>(some B))else(some (decide (o.2.2.2.2.1=(ByteArray.mk #[]))))))))else(if(!(decide (o.2.1=14)))=true then(if(bif decide (o.2.2.2.2.2.1≠0)then true else decide (o.2.2.2.2.2.2≠0))=true then(some false)else((F.aW o.2.1).bind fun J=>(if J=true then((F.bL o.2.2.2.2.1).bind fun L=>(some L))else(some (decide (o.2.2.2.2.1=(ByteArray.mk #[])))))))else((F.aW o.2.1).bind fun N=>(if N=true then((F.bL o.2.2.2.2.1).bind fun U=>(some U))else(some (decide (o.2.2.2.2.1=(ByteArray.mk #[]))))))))
def F.cL (o:D33):Option Bool:=if(bif decide (o.1<1)then true else decide ((255:Int)<o.1))=true then(F.ce)else((F.cE o.2.1).bind fun s=>(if s<0 then(F.cf o true)else((F.cE o.2.1).bind fun u=>(F.cf o (decide ((o.2.2.1.length:Int)≠u))))))
theorem o_b2(s:D33)(a3:A.h6 s.1)(y:A.h6 s.2.1)(a4:A.h6 s.2.2.2.1.1)(a5:A.h6 s.2.2.2.1.2.1)(a6:s.2.2.2.1.2.2.size<=maxLen)(z:s.2.2.2.2.1.size<=maxLen)(a7:A.h6 s.2.2.2.2.2.1)(a8:A.h6 s.2.2.2.2.2.2)(r:Bool)(o:F.cL s=some r):
    A.Ct Tryz.prog 82 [(A.rao s A2_ c3_)] [(0,.sh A.TI [.slice A2_ s.2.2.1.length c3_] s.2.2.1)] [] (fun v H'=>v=.bool r/\H'=[]):=by
 refine Jv Tryz.func82 rfl Tryz.ntmps82 rfl fun w0 F0=>?_;rw[F.cL]at o;refine J0 1 ?_;refine J1 1 (cs:=(A.rai s A2_ c3_)) fun g1=>?_;refine Vc 1 [] 3 ?_;refine J4 [] [] (fun B J=>B=[]/\J=[]/\F.ce=some r) ?_ ?_
 ·refine Uh 5 [1] [] [.n,.b 0 0,.n,.n,.sy .n,.sy (.b 0 0),.sy .n,.pk,.n] [(4,.bool (bif decide (s.1<1)then true else decide ((255:Int)<s.1)))] 1 ?_;refine Uk o ?_ ?_<;>intro u o
  ·refine V1 2 ?_;exact Vn ⟨rfl,rfl,o⟩
  refine Um 2 ?_;refine J4 [1] l4m (fun B J=>∃(L:Bool),B=[(13,.bool L)]/\J=[]/\F.cf s L=some r) ?_ ?_
  ·refine Vj mixed 14 14 (A.mb 14 0) ?_;refine Vm Vd [] l4m [1] [] (A.mb 14 3) 12 [(0,.n),(1,.b 0 1)] [(15,A.i s.2.1)] (Jz 2 ?_);refine Vx 2 [] o (o_aU s.2.1 y) .nil ?_;rintro U - o _ _ ⟨rfl,rfl,hr21⟩;refine J9 (J2 (A.mb 14 7) l4m ?_);refine Vm Vd l4m l4m [] [] (A.mb 14 31) 9 [(3,.n),(4,.n)] [(18,.bool (decide (U<0)))] (A.AH.cnp (j:=18) rfl o ?_ ?_)<;>intro u o
   ·refine Vm Vd l4m l4m [] [] (A.mb 14 16383) 0 [(5,.off),(8,.off),(6,.off),(9,.off),(7,.off),(10,.off),(11,.off),(12,.n),(13,.n)] [(13,.bool true)] (J6 ?_);exact Vn ⟨true,rfl,rfl,o⟩
   refine Vm Vd l4m l4m [1] [] (A.mb 14 1023) 4 [(5,.on .n),(8,.on .n),(6,.on (.b 0 2)),(9,.on (.b 0 1)),(7,.on .n)] [(23,A.i s.2.1),(21,A.i (s.2.2.1.length:Int))] (Jz 10 ?_);refine Vu (dj:=18) rfl rfl ?_;refine Vx 42 [] o (o_aU s.2.1 y) .nil ?_;rintro N - o _ _ ⟨rfl,rfl,hr24⟩;refine J9 (J2 (A.mb 14 2047) l4m ?_);refine Vm Vd l4m l4m [] [] (A.mb 14 16383) 0 [(11,.on .n),(12,.n),(13,.n)] [(13,.bool (decide ((s.2.2.1.length:Int)≠N)))] (J6 ?_);exact Vn ⟨(decide ((s.2.2.1.length:Int)≠N)),rfl,rfl,o⟩
  rintro _ _ ⟨L,rfl,rfl,o⟩;rw[F.cf]at o;refine Uk o ?_ ?_<;>intro u o
  ·refine V1 1 ?_;exact Vn ⟨rfl,rfl,o⟩
  refine Vy 5 [1] [] [.n,.b 0 1,.n,.n] [(3,.bool (decide (s.2.1=14)))] ?_;refine Vk 3 ?_;refine V9 2 [(31,.bool (decide (s.2.1=14)))] (Up (j:=31) rfl o ?_ ?_)<;>intro u o
  ·refine J5 [1] [] [.on .n,.on (.b 0 7),.on .n,.on .n,.sy .n,.sy (.b 0 7),.sy .n,.on .pk,.on .n,.sy .n,.sy (.b 0 8),.sy .n,.on .pk,.on .n,.sy .n,.sy (.b 0 8),.sy .n,.on .pk,.n,.n] [(51,.bool (bif bif bif decide (s.2.2.2.2.2.1<1)then true else decide ((8:Int)<s.2.2.2.2.2.1)then true else decide (s.2.2.2.2.2.2<1)then true else decide ((4:Int)<s.2.2.2.2.2.2)))] (V2 (j:=51) rfl o (fun o=>?_) (fun o=>?_))
   ·refine Vw [] [] [.off,.off,.off,.off,.off,.off,.off,.off,.off,.off,.off,.off,.n] [(64,.bool true)] 1 ?_;refine Ua rfl ?_;refine Va 1 1 [(2,.bool false)] 1 ?_;exact A.ke o (Vh ⟨rfl,rfl⟩)
   refine J5 [] [] [.on .n,.on .n,.on .n] [(54,.bool (!(decide (s.2.1=14))))] (V2 (j:=54) rfl o (fun o=>?_) (fun o=>?_))
   ·refine Vw [1] [] [.on .n,.on (.b 0 7),.on .n,.on .n,.sy .n,.sy (.b 0 8),.sy .n,.on .pk,.on .n,.n] [(64,.bool (bif decide (s.2.2.2.2.2.1≠0)then true else decide (s.2.2.2.2.2.2≠0)))] 1 ?_;refine Uk o ?_ ?_<;>intro u o
    ·refine Va 1 1 [(2,.bool false)] 1 ?_;exact A.ke o (Vh ⟨rfl,rfl⟩)
    refine Vy 4 [1] [] [.n,.b 0 1] [(66,A.i s.2.1)] ?_;refine Vx 82 [] o (o_l s.2.1 y) .nil ?_;rintro r3 - o _ _ ⟨rfl,rfl⟩;refine J9 (V4 1 ?_);refine Uk o ?_ ?_<;>intro u o
    ·refine Vy 1 [1] [] [.n,.b 0 6] [(69,.string s.2.2.2.2.1)] ?_;refine Vx 122 [] o (o_s s.2.2.2.2.1 z) .nil ?_;rintro W - o _ _ ⟨rfl,rfl⟩;refine J9 (Vc 1 [(2,.bool W)] 1 ?_);exact A.ke o (Vh ⟨rfl,rfl⟩)
    refine Uh 3 [1] [] [.n,.b 0 6,.n,.n] [(2,.bool (decide (s.2.2.2.2.1=(ByteArray.mk #[]))))] 1 ?_;exact A.ke o (Vh ⟨rfl,rfl⟩)
   refine Vw [] [] [.off,.off,.off,.off,.off,.off,.off,.off,.on .n,.n] [(64,.bool false)] 1 ?_;refine V5 rfl ?_;refine Vy 4 [1] [] [.n,.b 0 1] [(66,A.i s.2.1)] ?_;refine Vx 162 [] o (o_l s.2.1 y) .nil ?_;rintro r7 - o _ _ ⟨rfl,rfl⟩;refine J9 (V4 1 ?_);refine Uk o ?_ ?_<;>intro u o
   ·refine Vy 1 [1] [] [.n,.b 0 6] [(69,.string s.2.2.2.2.1)] ?_;refine Vx 202 [] o (o_s s.2.2.2.2.1 z) .nil ?_;rintro Y - o _ _ ⟨rfl,rfl⟩;refine J9 (Vc 1 [(2,.bool Y)] 1 ?_);exact A.ke o (Vh ⟨rfl,rfl⟩)
   refine Uh 3 [1] [] [.n,.b 0 6,.n,.n] [(2,.bool (decide (s.2.2.2.2.1=(ByteArray.mk #[]))))] 1 ?_;exact A.ke o (Vh ⟨rfl,rfl⟩)
  refine J5 [] [] [.off,.off,.off,.off,.off,.off,.off,.off,.off,.off,.off,.off,.off,.off,.off,.off,.off,.off,.n,.n,.on .n,.on .n,.on .n] [(51,.bool false),(54,.bool (!(decide (s.2.1=14))))] (V2 (j:=54) rfl o (fun o=>?_) (fun o=>?_))
  ·refine Vw [1] [] [.on .n,.on (.b 0 7),.on .n,.on .n,.sy .n,.sy (.b 0 8),.sy .n,.on .pk,.on .n,.n] [(64,.bool (bif decide (s.2.2.2.2.2.1≠0)then true else decide (s.2.2.2.2.2.2≠0)))] 1 ?_;refine Uk o ?_ ?_<;>intro u o
   ·refine Va 1 1 [(2,.bool false)] 1 ?_;exact A.ke o (Vh ⟨rfl,rfl⟩)
   refine Vy 4 [1] [] [.n,.b 0 1] [(66,A.i s.2.1)] ?_;refine Vx 242 [] o (o_l s.2.1 y) .nil ?_;rintro a9 - o _ _ ⟨rfl,rfl⟩;refine J9 (V4 1 ?_);refine Uk o ?_ ?_<;>intro u o
   ·refine Vy 1 [1] [] [.n,.b 0 6] [(69,.string s.2.2.2.2.1)] ?_;refine Vx 282 [] o (o_s s.2.2.2.2.1 z) .nil ?_;rintro a1 - o _ _ ⟨rfl,rfl⟩;refine J9 (Vc 1 [(2,.bool a1)] 1 ?_);exact A.ke o (Vh ⟨rfl,rfl⟩)
   refine Uh 3 [1] [] [.n,.b 0 6,.n,.n] [(2,.bool (decide (s.2.2.2.2.1=(ByteArray.mk #[]))))] 1 ?_;exact A.ke o (Vh ⟨rfl,rfl⟩)
  refine Vw [] [] [.off,.off,.off,.off,.off,.off,.off,.off,.on .n,.n] [(64,.bool false)] 1 ?_;refine V5 rfl ?_;refine Vy 4 [1] [] [.n,.b 0 1] [(66,A.i s.2.1)] ?_;refine Vx 322 [] o (o_l s.2.1 y) .nil ?_;rintro aa - o _ _ ⟨rfl,rfl⟩;refine J9 (V4 1 ?_);refine Uk o ?_ ?_<;>intro u o
  ·refine Vy 1 [1] [] [.n,.b 0 6] [(69,.string s.2.2.2.2.1)] ?_;refine Vx 362 [] o (o_s s.2.2.2.2.1 z) .nil ?_;rintro a2 - o _ _ ⟨rfl,rfl⟩;refine J9 (Vc 1 [(2,.bool a2)] 1 ?_);exact A.ke o (Vh ⟨rfl,rfl⟩)
  refine Uh 3 [1] [] [.n,.b 0 6,.n,.n] [(2,.bool (decide (s.2.2.2.2.1=(ByteArray.mk #[]))))] 1 ?_;exact A.ke o (Vh ⟨rfl,rfl⟩)
 rintro _ _ ⟨rfl,rfl,o⟩;rw[F.ce]at o;refine Va 2 1 [(2,.bool false)] 1 ?_;exact A.ke o (Vh ⟨rfl,rfl⟩)
def F.cP (o:Int):Option (Int×Int):=if o=2 then(some (1,8))else(if o=3 then(some (11,13))else(if o=4 then(some (21,22))else(if o=8 then(some (31,34))else(if o=11 then(some (41,42))else(some (0,-1))))))
theorem o_bk (s:Int)(y:A.h6 s)(r:Int×Int)(o:F.cP s=some r):
    A.Ct Tryz.prog 119 [A.i s] [] [] (fun v H'=>v=.tuple #[A.i r.1,A.i r.2]/\H'=[]/\A.h6 r.1/\A.h6 r.2):=by
 refine Jv Tryz.func119 rfl Tryz.ntmps119 rfl fun w0 z=>?_;rw[F.cP]at o;refine J0 1 ?_;refine J7 2 [] 3 ?_;refine J7 1 [(4,A.i s)] 3 ?_;refine Vc 2 [(5,.bool (decide (s=2)))] 1 ?_;refine Uv o ?_ ?_<;>intro u o
 ·refine Va 1 2 [(2,A.i 1),(3,A.i 8)] 1 ?_;obtain rfl:=Vf o;exact Ue [] ⟨rfl,rfl,(Vp 1),(Vp 8)⟩
 refine Vl 1 2 [(7,.bool (decide (s=3)))] 1 o ?_ ?_<;>intro u o
 ·refine Va 1 2 [(2,A.i 11),(3,A.i 13)] 1 ?_;obtain rfl:=Vf o;exact Ue [] ⟨rfl,rfl,(Vp 11),(Vp 13)⟩
 refine Vl 1 2 [(9,.bool (decide (s=4)))] 1 o ?_ ?_<;>intro u o
 ·refine Va 1 2 [(2,A.i 21),(3,A.i 22)] 1 ?_;obtain rfl:=Vf o;exact Ue [] ⟨rfl,rfl,(Vp 21),(Vp 22)⟩
 refine Vl 1 2 [(11,.bool (decide (s=8)))] 1 o ?_ ?_<;>intro u o
 ·refine Va 1 2 [(2,A.i 31),(3,A.i 34)] 1 ?_;obtain rfl:=Vf o;exact Ue [] ⟨rfl,rfl,(Vp 31),(Vp 34)⟩
 refine Vl 1 2 [(13,.bool (decide (s=11)))] 1 o ?_ ?_<;>intro u o
 ·refine Va 1 2 [(2,A.i 41),(3,A.i 42)] 1 ?_;obtain rfl:=Vf o;exact Ue [] ⟨rfl,rfl,(Vp 41),(Vp 42)⟩
 refine Va 4 2 [(2,A.i 0),(3,A.i (-1))] 1 ?_;obtain rfl:=Vf o;exact Ue [] ⟨rfl,rfl,J3,(Vp (-1))⟩
def F.cS (o:Int):Option (Int×Int):=(F.cP o).bind fun s=>(some s)
theorem o_cn (o:Int)(B:A.h6 o)(r:(Int×Int))(s:F.cS o=some r):
    A.Ct Tryz.prog 120 [A.i o] [] [] (fun v H'=>∃(g0':Nat) (g1':Nat),v=.func (.func 137) #[] #[.pointer (some ⟨g0',0,none⟩),.pointer (some ⟨g1',0,none⟩)]/\H'=[(0,.blk g0' 3 [A.i r.1]),(1,.blk g1' 3 [A.i r.2])]/\A.h6 r.1/\A.h6 r.2):=by
 refine Jv Tryz.func120 rfl Tryz.ntmps120 rfl fun w0 J=>?_;rw[F.cS]at s;refine J0 1 ?_;refine J7 1 [] 2 ?_;refine V9 1 [(6,A.i o)] (Vx 0 [] s (o_bk o B) .nil ?_);rintro u - s _ _ ⟨rfl,rfl,hr3,hr4⟩;refine J9 (V9 3 [(8,A.i u.1),(9,A.i u.2)] (Jy 40 (cs:=l4k) Tryz.zeroValue3 fun y=>?_));refine Jy 41 (cs:=l4k) Tryz.zeroValue3 fun z=>?_;refine Vg 40 [] [A.i u.1] ?_;refine Vg 41 [] [A.i u.2] ?_;refine Vk 2 ?_;refine Vc 2 [(2,.func (.func 137) #[] #[.pointer (some ⟨y,0,none⟩),.pointer (some ⟨z,0,none⟩)])] 1 ?_;obtain rfl:=Vf s;exact V7 [(0,40),(1,41)] ⟨y,z,rfl,rfl,hr3,hr4⟩
def F.cg (o:D31)(s:Bool):Option Bool:=if s=true then(some (bif decide ((1:Int)<=o.2.1)then decide (o.2.1<=1048576)else false))else(some (decide (o.2.1=0)))
def F.ch (o:D31)(s:Bool):Option Bool:=if s=true then(some (bif decide ((0:Int)<=o.2.1)then decide (o.2.1<=64)else false))else(if o.1=6 then(F.cg o (decide (o.1=6)))else(F.cg o (decide (o.1=11))))
def F.cM (o:D31):Option Bool:=if o.1=3 then(F.ch o (decide (o.1=3)))else(F.ch o (decide (o.1=13)))
theorem o_b3 (o:D31)(L:A.h6 o.1)(N:A.h6 o.2.1)(U:o.2.2.size<=maxLen)(r:Bool)(s:F.cM o=some r):
    A.Ct Tryz.prog 121 [(A.rap o)] [] [] (fun v H'=>v=.bool r/\H'=[]):=by
 refine Jv Tryz.func121 rfl Tryz.ntmps121 rfl fun w0 W=>?_;rw[F.cM]at s;refine J0 1 ?_;refine J1 0 (cs:=(A.raj o)) fun Y=>?_;refine J7 1 [] 3 ?_;refine Vw [0] [] [.n,.b 0 0] [(4,A.i o.1)] 2 ?_;refine J4 [1,4] [0] (fun u y=>∃(z:Bool),u=[(5,.bool z)]/\y=[]/\F.ch o z=some r) ?_ ?_
 ·refine Vl 1 2 [(5,.bool (decide (o.1=3)))] 1 s ?_ ?_<;>intro B s
  ·refine V1 1 ?_;exact Vn ⟨(decide (o.1=3)),rfl,rfl,s⟩
  refine Ub 0 2 [(5,.bool (decide (o.1=13)))] ?_;refine Ju ?_;exact Vn ⟨(decide (o.1=13)),rfl,rfl,s⟩
 rintro _ _ ⟨z,rfl,rfl,s⟩;rw[F.ch]at s;refine Uk s ?_ ?_<;>intro B s
 ·refine Uh 1 [0] [] [.n,.b 0 1,.n,.n,.sy .n,.sy (.b 0 1),.sy .n,.pk,.n] [(2,.bool (bif decide ((0:Int)<=o.2.1)then decide (o.2.1<=64)else false))] 1 ?_;exact A.ke s (Vh ⟨rfl,rfl⟩)
 refine J4 [1] [0] (fun u y=>∃(J:Bool),u=[(16,.bool J)]/\y=[]/\F.cg o J=some r) ?_ ?_
 ·refine Vl 1 2 [(16,.bool (decide (o.1=6)))] 1 s ?_ ?_<;>intro B s
  ·refine V1 1 ?_;exact Vn ⟨(decide (o.1=6)),rfl,rfl,s⟩
  refine Ub 0 2 [(16,.bool (decide (o.1=11)))] ?_;refine Ju ?_;exact Vn ⟨(decide (o.1=11)),rfl,rfl,s⟩
 rintro _ _ ⟨J,rfl,rfl,s⟩;rw[F.cg]at s;refine Uk s ?_ ?_<;>intro B s
 ·refine Uh 1 [0] [] [.n,.b 0 1,.n,.n,.sy .n,.sy (.b 0 1),.sy .n,.pk,.n] [(2,.bool (bif decide ((1:Int)<=o.2.1)then decide (o.2.1<=1048576)else false))] 1 ?_;exact A.ke s (Vh ⟨rfl,rfl⟩)
 refine Uh 4 [0] [] [.n,.b 0 1,.n,.n] [(2,.bool (decide (o.2.1=0)))] 1 ?_;exact A.ke s (Vh ⟨rfl,rfl⟩)
def F.ci (o:Bool):Option Bool:=some o
def F.cj (o:ByteArray):Nat->Nat->Int->Option Bool
 |0,_,_=>none
 |f+1,s,u=>if s<o.size then(A.gd (Z.R64 (u+1)) ((F.cj o f) (s+(Utf8.decode o s).2) (u+1)))else(if u=1 then((F.a7 o).bind fun y=>(F.ci y))else(F.ci false))
def F.cN (o:ByteArray):Option Bool:=F.cj o A.FU 0 0
theorem o_b4 (u:ByteArray)(Y:u.size<=maxLen)(r:Bool)(o:F.cN u=some r):
    A.Ct Tryz.prog 138 [.string u] [(0,.el none 0 0 A.tabF),(1,.el none 1 0 A.tabA)] [] (fun v H'=>v=.bool r/\H'=[]):=by
 refine Jv Tryz.func138 rfl Tryz.ntmps138 rfl fun w0 F0=>?_;rw[F.cN]at o;refine J0 1 ?_;refine J7 1 [] 2 ?_;refine J7 1 [(3,A.i 0)] 3 ?_;refine V9 1 [(4,.string u)] (A.AL.rgs 2 fun g1=>?_);refine V4 2 ?_;refine Vo [0,5] l4m (fun f B J=>∃(z:Nat)(y:Int),B=[(3,A.i y)]/\J=[(2,.si g1 u z)]/\A.h6 y/\F.cj u f z y=some r) ⟨0,0,rfl,rfl,J3,o⟩ ?_;rintro N _ _ ⟨z,y,rfl,rfl,a1,o⟩;rcases N with _|N
 ·exact Vb o
 rw[F.cj]at o;refine J0 1 ?_;refine A.AL.nxs 2 [] o (fun hb6 o=>?_) (fun hb o=>?_)
 ·refine Vc 1 [(7,.bool true)] 2 ?_;refine Ua rfl ?_;refine J0 3 ?_;have⟨U,o⟩:=Vs o;refine Uf 3 [Z.R64 (y+1)] [(3,A.i (y+1))] U (U4 1 ?_);exact Vn ⟨_,Qn _,⟨(z+(Utf8.decode u z).2),(y+1),rfl,rfl,(Jw U),o⟩⟩
 refine Vc 1 [(7,.bool false)] 2 ?_;refine V5 rfl ?_;refine Um 2 ?_;refine J4 [] l4m (fun B J=>∃(L:Bool),B=[(2,.bool L)]/\J=[]/\F.ci L=some r) ?_ ?_
 ·refine Ub 0 3 [(12,.bool (decide (y=1)))] ?_;refine Up (j:=12) rfl o ?_ ?_<;>intro hb o
  ·refine J5 [] [] [.on .n] [(13,.string u)] (Vu (dj:=12) rfl rfl ?_);refine Vx 83 [] o (o_q u Y) (.s 0 (.s 1 .nil)) ?_;rintro W - o _ _ ⟨rfl,rfl⟩;refine J9 (V9 2 [(2,.bool W)] (Ju ?_));exact Vn ⟨W,rfl,rfl,o⟩
  refine J5 [] [] [.off,.off,.n,.n] [(2,.bool false)] (Ju ?_);exact Vn ⟨false,rfl,rfl,o⟩
 rintro _ _ ⟨L,rfl,rfl,o⟩;rw[F.ci]at o;exact A.ke o (Vh ⟨rfl,rfl⟩)
def F.cw (o:Bool):Option Bool:=some o
def F.cx (o:D31)(s:Bool):Option Bool:=if s=true then((F.cN o.2.2).bind fun u=>(some u))else(some (decide (o.2.2=(ByteArray.mk #[]))))
def F.cT (o:D31):Option Bool:=if o.1=5 then(if(bif decide (o.2.2≠(ByteArray.mk #[]))then decide ((o.2.2.size:Int)<=16)else false)=true then((F.a7 o.2.2).bind fun s=>(F.cw s))else(F.cw false))else(if o.1=12 then(F.cx o (decide (o.1=12)))else(F.cx o (decide (o.1=22))))
theorem o_co (u:D31)(Y:A.h6 u.1)(a1:A.h6 u.2.1)(L:u.2.2.size<=maxLen)(r:Bool)(o:F.cT u=some r):
    A.Ct Tryz.prog 122 [(A.rap u)] [(0,.el none 0 0 A.tabF),(1,.el none 1 0 A.tabA)] [] (fun v H'=>v=.bool r/\H'=[]):=by
 refine Jv Tryz.func122 rfl Tryz.ntmps122 rfl fun w0 F0=>?_;rw[F.cT]at o;refine J0 1 ?_;refine J1 2 (cs:=(A.raj u)) fun g1=>?_;refine J7 1 [] 3 ?_;refine J5 [2] [] [.n,.b 0 0] [(4,A.i u.1)] (Vk 3 ?_);refine Vc 2 [(5,.bool (decide (u.1=5)))] 1 ?_;refine Uv o ?_ ?_<;>intro N o
 ·refine J4 [] l4m (fun y z=>∃(B:Bool),y=[(2,.bool B)]/\z=[]/\F.cw B=some r) ?_ ?_
  ·refine Vy 0 [2] [] [.n,.b 0 2,.n,.n,.sy .n,.sy (.b 0 2),.sy .n,.sy .n,.pk,.n] [(16,.bool (bif decide (u.2.2≠(ByteArray.mk #[]))then decide ((u.2.2.size:Int)<=16)else false))] ?_;refine V2 (j:=16) rfl o (fun o=>?_) (fun o=>?_)
   ·refine J5 [2] [] [.on .n,.on (.b 0 2)] [(18,.string u.2.2)] (Vu (dj:=16) rfl rfl ?_);refine Vx 3 [] o (o_q u.2.2 L) (.s 0 (.s 1 .nil)) ?_;rintro U - o _ _ ⟨rfl,rfl⟩;refine J9 (V9 2 [(2,.bool U)] (Ju ?_));exact Vn ⟨U,rfl,rfl,o⟩
   refine J5 [] [] [.off,.off,.off,.n,.n] [(2,.bool false)] (Ju ?_);exact Vn ⟨false,rfl,rfl,o⟩
  rintro _ _ ⟨B,rfl,rfl,o⟩;rw[F.cw]at o;exact A.ke o (Vh ⟨rfl,rfl⟩)
 refine J4 [1] [0,1,2] (fun y z=>∃(J:Bool),y=[(21,.bool J)]/\z=[]/\F.cx u J=some r) ?_ ?_
 ·refine Vl 1 2 [(21,.bool (decide (u.1=12)))] 1 o ?_ ?_<;>intro N o
  ·refine V1 1 ?_;exact Vn ⟨(decide (u.1=12)),rfl,rfl,o⟩
  refine Ub 0 2 [(21,.bool (decide (u.1=22)))] ?_;refine Ju ?_;exact Vn ⟨(decide (u.1=22)),rfl,rfl,o⟩
 rintro _ _ ⟨J,rfl,rfl,o⟩;rw[F.cx]at o;refine Uk o ?_ ?_<;>intro N o
 ·refine Vy 1 [2] [] [.n,.b 0 2] [(25,.string u.2.2)] ?_;refine Vx 43 [] o (o_b4 u.2.2 L) (.s 0 (.s 1 .nil)) ?_;rintro W - o _ _ ⟨rfl,rfl⟩;refine J9 (Vc 1 [(2,.bool W)] 1 ?_);exact A.ke o (Vh ⟨rfl,rfl⟩)
 refine Uh 4 [2] [] [.n,.b 0 2,.n,.n] [(2,.bool (decide (u.2.2=(ByteArray.mk #[]))))] 1 ?_;exact A.ke o (Vh ⟨rfl,rfl⟩)
def F.bQ (s:Int):Nat->Int->Option (List Int)
 |0,_=>none
 |f+1,o=>if o<=s then(A.cns o (A.gd (Z.R64 (o+1)) ((F.bQ s f) (o+1))))else(some [])
def F.cA (o:Int)(s:Int):Option (List Int):=F.bQ s A.FU o
theorem o_bl(u:Int)(y:Int)(N:A.h6 u)(a1:A.h6 y)(xs:List Int)(o:F.cA u y=some xs):
    A.Sq Tryz.prog 137 [.pointer (some ⟨g0_,0,none⟩),.pointer (some ⟨g2_,0,none⟩)] [(0,.el none g0_ 0 [A.i u]),(1,.el none g2_ 0 [A.i y])] A.ti (fun cs=>[Z.vof false cs]) xs:=by
 refine A.Sq.enter Tryz.func137 rfl Tryz.ntmps137 rfl fun lid w0 J Jx Φ hY hJ0=>?_;obtain⟨rs0,hrs⟩: ∃rs0,rs0=xs:=⟨_,rfl⟩
 have hR0:A.Rem xs 0 rs0:=hrs▸A.Rem.zero xs
 rw[F.cA,<-hrs]at o
 clear hrs
 refine Uh 1 [] [0] [.e 0 0,.n] [(4,A.i u)] 2 ?_;refine A.AX.loopC (A.CY 15 Φ) (0,w0) [0,2] [1] [1] (fun f i U W=>∃(s:Int)(rs:List Int),U=[(4,A.i s)]/\W=[]/\A.h6 s/\J i.1 i.2/\A.Rem xs i.1 rs/\F.bQ y f s=some rs) A.FU [(4,A.i u)] [] ⟨u,_,rfl,rfl,N,hJ0,hR0,o⟩ ?_;rintro z ⟨Y,w5⟩ _ _ ⟨s,rs8,rfl,rfl,a0,hJ6,hR7,o⟩;rcases z with _|z
 ·exact Vb o
 rw[F.bQ]at o;refine Uh 2 [] [1] [.n,.e 0 0,.n] [(8,.bool (decide (s<=y)))] 1 ?_;refine Uv o ?_ ?_<;>intro hb o
 ·refine Ub 5 2 [(11,.func (.yield lid) #[] #[]),(12,A.i s)] ?_;obtain⟨rs9,hqrs9,o⟩:=A.cns_some o;refine A.AL.yield hY hJ6 (hqrs9▸hR7) [A.i s] ⟨rfl,a0⟩ (fun B hJ11 hR12=>?_) (fun B hX13=>?_)
  ·refine Vc 1 [(14,.bool false)] 1 ?_;refine V5 rfl ?_;refine J0 3 ?_;have⟨L,o⟩:=Vs o;refine Uf 3 [Z.R64 (s+1)] [(4,A.i (s+1))] L (Ju ?_);exact A.AE.jC (Y+1,B) [1] [(4,A.i (s+1))] [] ⟨_,Qn _,⟨(s+1),_,rfl,rfl,(Jw L),hJ11,hR12,o⟩⟩
  refine Vc 1 [(14,.bool true)] 1 ?_;refine Ua rfl ?_;exact A.AX.rtX hY hX13
 refine V1 1 ?_;obtain rfl:=Vf o;exact A.AE.rtY hY hJ6 hR7
def F.b4 (o:Option Int)(s:Bool):Option Int:=if s=true then(some 0)else(o)
def F.a4 (o:D31):List Int->Option Int
 | []=>some 60
 |s::f=>if s=o.1 then((F.cM o).bind fun u=>(if u=true then((F.cT o).bind fun y=>(F.b4 (F.a4 o f) y))else(F.b4 (F.a4 o f) false)))else(F.b4 (F.a4 o f) false)
def F.cR (o:Int)(s:D31):Option Int:=(F.cP o).bind fun y=>(if y.2<0 then(if s≠(0,0,ByteArray.mk #[])then(some 60)else(some 0))else((F.cS o).bind fun u=>((F.cA u.1 u.2).bind fun z=>F.a4 s z)))
theorem o_b8 (B:Int)(z:D31)(Y:A.h6 B)(a2:A.h6 z.1)(a3:A.h6 z.2.1)(a5:z.2.2.size<=maxLen)(r:Int)(u:F.cR B z=some r):
    A.Ct Tryz.prog 83 [A.i B,(A.rap z)] [(0,.el none 0 0 A.tabF),(1,.el none 1 0 A.tabA)] [] (fun v H'=>v=A.i r/\H'=[]/\A.h6 r):=by
 refine A.Ct.enterM Tryz.func83 rfl Tryz.ntmps83 rfl fun w0 F0=>?_;rw[F.cR]at u;refine J0 1 ?_;refine J1 2 (cs:=(A.raj z)) fun g1=>?_;refine Jy 3 (cs:=l4k) Tryz.zeroValue24 fun g2=>?_;refine Vk 3 ?_;refine V9 1 [(9,A.i B)] (Vx 4 [] u (o_bk B Y) .nil ?_);rintro r3 - u _ _ ⟨rfl,rfl,hr5,hr6⟩;refine J9 (J7 5 [(6,A.i r3.2)] 2 ?_);refine Vc 2 [(14,.bool (decide (r3.2<0)))] 1 ?_;refine Uv u ?_ ?_<;>intro L u
 ·refine Vy 2 [2] [] [.b 0 0,.n] [(15,(A.rap z)),(16,.agg #[A.i 0,A.i 0,.string (ByteArray.mk #[])])] ?_;refine Uy rfl (fun a w hf hh=>eqagg_neq32 (x:=z) (y:=(0,0,ByteArray.mk #[])) (hf.eval rfl) (hf.eval rfl)) ?_;refine V4 1 ?_;refine Uv u ?_ ?_<;>intro L u
  ·refine J0 1 ?_;refine Vg 3 [] [A.i 60] ?_;refine V4 1 ?_;obtain rfl:=Vf u;exact A.AX.rtM (Ds:=[]) [] [] (A.i 60) (trivial) (fun a w hf hh=>Uo rfl (Ur hf rfl Tryz.isAgg24 (Vq hh 3))) (⟨rfl,rfl,(Vp 60)⟩)
  refine J0 3 ?_;refine Vg 3 [] [A.i 0] ?_;refine V4 1 ?_;obtain rfl:=Vf u;exact A.AX.rtM (Ds:=[]) [] [] (A.i 0) (trivial) (fun a w hf hh=>Uo rfl (Ur hf rfl Tryz.isAgg24 (Vq hh 3))) (⟨rfl,rfl,J3⟩)
 refine Ub 4 1 [(18,A.i B)] ?_;refine Vx 44 [] u (o_cn B Y) .nil ?_;rintro J - u _ _ ⟨g9,a6,rfl,rfl,hr10,hr12⟩;refine J9 (V4 2 ?_);have⟨N,ab,u⟩:=V6 u;refine A.AX.rgf 84 85 86 [0,1,2,3,44,45] [0,1,2,3,44,45] [85,84,0,1,2,3,44,45] (fun k U=>U=[]/\F.a4 z (List.drop k N)=some r) [] cf137 (o_bl g9 a6 J.1 J.2 hr10 hr12 N ab) (fun _=>rfl) ⟨rfl,u⟩ ?_ ?_ ?_
 ·rintro a7 _ D15 L16 ⟨rfl,u⟩;exact⟨⟨_,(.b 44 (.b 45 .nil))⟩,rfl,fun o=>rfl⟩
 ·rintro a7 _ a8 D15 L16 ad ae ⟨rfl,u⟩ hx23 hxo24 a9;rw[A.drop_at hx23,F.a4]at u
  refine Ub 0 1 [(7,A.i a8)] ?_;refine Ju ?_;refine A.AE.flip 84 85 fun ag=>?_;refine Um 1 ?_;refine J4 [3,4] [0,1,2,3,44,45,84,85] (fun nl U=>∃(W:Bool),nl=[(32,.bool W)]/\U=[]/\F.b4 (F.a4 z (List.drop (a7+1) N)) W=some r) ?_ ?_
  ·refine Vy 0 [2] [] [.n,.n,.b 0 0,.n,.n] [(25,.bool (decide (a8=z.1)))] ?_;refine Up (j:=25) rfl u ?_ ?_<;>intro L u
   ·refine J5 [2] [] [.on (.b 0 0)] [(26,(A.rap z))] (Vu (dj:=25) rfl rfl ?_);refine Vx 167 [] u (o_b3 z a2 a3 a5) .nil ?_;rintro ac - u _ _ ⟨rfl,rfl⟩;refine J9 (V9 2 [(29,.bool ac)] (V2 (j:=29) rfl u (fun u=>?_) (fun u=>?_)))
    ·refine J5 [2] [] [.on (.b 0 0)] [(30,(A.rap z))] (Vu (dj:=29) rfl rfl ?_);refine Vx 207 [] u (o_co z a2 a3 a5) (.s 0 (.s 1 .nil)) ?_;rintro aa - u _ _ ⟨rfl,rfl⟩;refine J9 (V9 1 [(32,.bool aa)] (Ju ?_));exact Vn ⟨aa,rfl,rfl,u⟩
    refine J5 [] [] [.off,.off,.n] [(32,.bool false)] (Ju ?_);exact Vn ⟨false,rfl,rfl,u⟩
   refine J5 [] [] [.off,.off,.n,.n,.off,.off,.n] [(32,.bool false)] (Ju ?_);exact Vn ⟨false,rfl,rfl,u⟩
  rintro _ _ ⟨W,rfl,rfl,u⟩;rw[F.b4]at u;refine Uk u ?_ ?_<;>intro L u
  ·refine J0 1 ?_;refine Vg 3 [] [A.i 0] ?_;refine V4 1 ?_;refine A.AX.bret a9 [85,2,3,44,45,84] 100000 [(85,100085),(2,100002),(3,100003),(44,100044),(45,100045),(84,100084),(0,0),(1,1)] [(2,.blk g1 32 (A.raj z)),(3,.blk g2 24 [A.i 0]),(44,.blk g9 3 [A.i J.1]),(45,.blk a6 3 [A.i J.2]),(84,.ob D15 A.dfT),(0,.el none 0 0 A.tabF),(1,.el none 1 0 A.tabA)] ?_ rfl rfl
   obtain rfl:=Vf u;exact A.AE.rtM (Ds:=[D15]) [84] [] (A.i 0) (⟨rfl,trivial⟩) (fun a w hf hh=>Uo rfl (Ur hf rfl Tryz.isAgg24 (Vq hh 3))) (⟨rfl,rfl,J3⟩)
  refine V1 2 ?_;exact A.AE.bn a9 [85,84,2,3,44,45] 100000 [(85,100085),(84,100084),(0,0),(1,1),(2,100002),(3,100003),(44,100044),(45,100045)] [] ⟨rfl,u⟩ rfl rfl
 rintro _ D15 L16 ⟨rfl,u⟩;rw[List.drop_length,F.a4]at u
 refine U1 3 ?_;refine Vg 3 [] [A.i 60] ?_;refine V4 1 ?_;obtain rfl:=Vf u;exact A.AX.rtM (Ds:=[D15]) [84] [] (A.i 60) (⟨rfl,trivial⟩) (fun a w hf hh=>Uo rfl (Ur hf rfl Tryz.isAgg24 (Vq hh 3))) (⟨rfl,rfl,(Vp 60)⟩)
def F.bk (s:(List Int)->(List (Int×Bool))->Int->Option (Bool×((List (Int×D33))×(List Int)×(List (Int×Int)))))(o:Int)(u:List Int)(y:List (Int×Bool)):Option (Bool×((List (Int×D33))×(List Int)×(List (Int×Int)))):=A.gd (Z.R64 (o+1)) (s u y (o+1))
def F.bl (s:Int->Option (Bool×((List (Int×D33))×(List Int)×(List (Int×Int)))))(o:Int):Option (Bool×((List (Int×D33))×(List Int)×(List (Int×Int)))):=A.gd (Z.R64 (o+1)) (s (o+1))
def F.bm (z:(List Int)->(List (Int×Bool))->Int->Option (Bool×((List (Int×D33))×(List Int)×(List (Int×Int)))))(B:Int->Option (Bool×((List (Int×D33))×(List Int)×(List (Int×Int)))))(u:List Int)(y:List (Int×Bool))(J:Int)(L:Int)(o:D33):Nat->Int->Option (Bool×((List (Int×D33))×(List Int)×(List (Int×Int))))
 |0,_=>none
 |f+1,s=>if s<(o.2.2.1.length:Int)then((A.ix o.2.2.1 s).bind fun N=>(A.lt (Z.mget (false:Bool) y N) fun U=>(if(bif !U then decide (o.2.1≠14)else false)=true then(F.bl B L)else(A.gd (Z.R64 (s+1)) ((F.bm z B u y J L o f) (s+1))))))else(A.gd ((List.length (α:=Int) u+List.length (α:=Int) [o.1])*8<=140737488355328) (F.bk z J (u++[o.1]) (Z.mins y o.1 true)))
def F.am (s:(List Int)->(List (Int×Bool))->Int->Option (Bool×((List (Int×D33))×(List Int)×(List (Int×Int)))))(u:D36)(y:List Int)(o:List (Int×Bool))(z:Int):Nat->Int->Option (Bool×((List (Int×D33))×(List Int)×(List (Int×Int))))
 |0,_=>none
 |f+1,B=>if B<(u.length:Int)then((A.ix u B).bind fun J=>(A.lt (Z.mget (false:Bool) o J.1) fun L=>(if L=true then(F.bl (F.am s u y o z f) B)else(F.bm s (F.am s u y o z f) y o z B J A.FU 0))))else(F.bk s z y o)
def F.ad (s:((List (Int×D33))×(List Int)×(List (Int×Int))))(o:D36):Nat->(List Int)->(List (Int×Bool))->Int->Option (Bool×((List (Int×D33))×(List Int)×(List (Int×Int))))
 |0,_,_,_=>none
 |f+1,u,z,y=>if y<(o.length:Int)then(F.am (F.ad s o f) o u z y A.FU 0)else(some (decide ((u.length:Int)=(o.length:Int)),(s.1,u,s.2.2)))
def F.ck (o:((List (Int×D33))×(List Int)×(List (Int×Int))))(s:D36):Option (Bool×((List (Int×D33))×(List Int)×(List (Int×Int)))):=F.ad o s A.FU o.2.1 [] 0
theorem o_aV(L:((List (Int×D33))×(List Int)×(List (Int×Int))))(s:D36)(r:Bool×((List (Int×D33))×(List Int)×(List (Int×Int))))(o:F.ck L s=some r):
    A.Ct Tryz.prog 84 [.pointer (some ⟨g0_,0,none⟩),.agg #[.slice A5_ s.length c6_]] [(0,.blk g0_ 155 [.map (some b1_),.slice A2_ L.2.1.length c3_,.map (some b4_)]),(1,.mp Int (fun i:Int=>A.i i) T33 true b1_ L.1),(2,.own A.ti 3 A2_ c3_ L.2.1),(3,.mp Int (fun i:Int=>A.i i) A.ti false b4_ L.2.2),(4,.sh (.slice T33) [.slice A5_ s.length c6_] s)] ([g0_]++([b1_]++(Z.obl A2_++([b4_]++[])))) (fun v H'=>∃(b0':Nat) (A1':Option Addr) (c2':Nat) (b3':Nat),v=.bool r.1/\H'=[(0,.blk g0_ 155 [.map (some b0'),.slice A1' r.2.2.1.length c2',.map (some b3')]),(1,.mp Int (fun i:Int=>A.i i) T33 true b0' r.2.1),(2,.own A.ti 3 A1' c2' r.2.2.1),(3,.mp Int (fun i:Int=>A.i i) A.ti false b3' r.2.2.2)]):=by
 refine Jv Tryz.func84 rfl Tryz.ntmps84 rfl fun w0 F0=>?_;rw[F.ck]at o;refine J0 1 ?_;refine J1 5 (cs:=[.slice A5_ s.length c6_]) fun g1=>?_;refine J7 1 [] 2 ?_;refine Uj 6 Int (fun i:Int=>A.i i) Z.Ty.bool false fun b2=>?_;refine J7 1 [(5,.map (some b2))] 3 ?_;refine Vw [5] [] [.n,.b 0 0,.n,.n] [(13,A.i (s.length:Int)),(14,A.i 0)] 2 ?_;refine Vo [0,3,5,13] [1,3,4,5] (fun f U W=>∃(B:List Int)(Y:List (Int×Bool))(J:Int)(A3:Option Addr)(c4:Nat),U=[(14,A.i J)]/\W=[(0,.blk g0_ 155 [.map (some b1_),.slice A3 B.length c4,.map (some b4_)]),(2,.own A.ti 3 A3 c4 B),(6,.mp Int (fun i:Int=>A.i i) Z.Ty.bool false b2 Y)]/\A.h6 J/\F.ad L s f B Y J=some r) ⟨L.2.1,[],0,A2_,c3_,rfl,rfl,J3,o⟩ ?_;rintro f9 _ _ ⟨B,Y,J,A3,c4,rfl,rfl,ar,o⟩;rcases f9 with _|f9
 ·exact Vb o
 rw[F.ad]at o;refine Vl 1 1 [(15,.bool (decide (J<(s.length:Int))))] 2 o ?_ ?_<;>intro hb o
 ·refine Um 2 ?_;refine J4 [0,3,5,13,14] [1,3,4,5] (fun U W=>∃(a3:List Int)(a4:List (Int×Bool))(a5:Option Addr)(a6:Nat),U=[]/\W=[(0,.blk g0_ 155 [.map (some b1_),.slice a5 a3.length a6,.map (some b4_)]),(2,.own A.ti 3 a5 a6 a3),(6,.mp Int (fun i:Int=>A.i i) Z.Ty.bool false b2 a4)]/\F.bk (F.ad L s f9) J a3 a4=some r) ?_ ?_
  ·refine Um 1 ?_;refine A.AX.scope ?_;refine Uh 4 [5] [] [.n,.b 0 0,.n,.n] [(17,.slice A5_ s.length c6_),(18,A.i (s.length:Int)),(19,A.i 0)] 2 ?_;refine Vo [0,3,5,13,14,17,18] l4c (fun f U W=>∃(N:Int),U=[(19,A.i N)]/\W=[]/\A.h6 N/\F.am (F.ad L s f9) s B Y J f N=some r) ⟨0,rfl,rfl,J3,o⟩ ?_;rintro a7 _ _ ⟨N,rfl,rfl,au,o⟩;rcases a7 with _|a7
   ·exact Vb o
   rw[F.am]at o;refine Vl 1 1 [(20,.bool (decide (N<(s.length:Int))))] 2 o ?_ ?_<;>intro hb o
   ·refine Um 2 ?_;refine J4 [0,3,5,13,14,17,18,19] l4c (fun U W=>U=[]/\W=[]/\F.bl (F.am (F.ad L s f9) s B Y J a7) N=some r) ?_ ?_
    ·refine J0 2 ?_;have⟨y,ak,o⟩:=V6 o;refine Vr 4 111 ak fun al=>?_;intro a8 a9 av aw;refine J5 [] [111] [.e 0 0] [(22,(A.rao y a8 a9))] (Jy 113 (cs:=l4a) Tryz.zeroValue34 fun ax=>?_);refine Vg 113 [] (A.rai y a8 a9) ?_;refine Vk 3 ?_;refine J5 [113] [] [.n,.n,.b 0 0] [(23,.map (some b2)),(25,A.i y.1)] ?_;obtain⟨ay,an,o⟩:=Vi o;refine V8 (t:=Z.Ty.bool) 6 114 (z:=(false:Bool)) (zs:=[.bool false]) ky3 y.1 Tryz.zeroValue4 rfl an fun az=>?_;refine V4 1 ?_;refine Uk o ?_ ?_<;>intro hb o
     ·refine V1 1 ?_;exact Vn ⟨rfl,rfl,o⟩
     refine Uh 4 [113] [] [.n,.b 0 2,.n,.n] [(28,.slice a8 y.2.2.1.length a9),(29,A.i (y.2.2.1.length:Int)),(30,A.i 0)] 2 ?_;refine Vo [0,3,5,7,13,14,17,18,19,28,29] [0,1,2,3,4,5,6,112,113] (fun f U W=>∃(a2:Int),U=[(30,A.i a2)]/\W=[]/\A.h6 a2/\F.bm (F.ad L s f9) (F.am (F.ad L s f9) s B Y J a7) B Y J N y f a2=some r) ⟨0,rfl,rfl,J3,o⟩ ?_;rintro ae _ _ ⟨a2,rfl,rfl,b0,o⟩;rcases ae with _|ae
     ·exact Vb o
     rw[F.bm]at o;refine Vl 1 1 [(31,.bool (decide (a2<(y.2.2.1.length:Int))))] 2 o ?_ ?_<;>intro hb o
     ·refine J0 5 ?_;have⟨aa,ao,o⟩:=V6 o;refine Vr 112 121 ao fun b1=>?_;intro b3 b4;refine J5 [] [121] [.e 0 0,.n] [(9,A.i aa)] (Vk 2 ?_);refine V9 2 [(34,.map (some b2)),(35,A.i aa)] ?_;obtain⟨ap,aq,o⟩:=Vi o;refine V8 (t:=Z.Ty.bool) 6 122 (z:=(false:Bool)) (zs:=[.bool false]) ky3 aa Tryz.zeroValue4 rfl aq fun b5=>?_;refine Vw [113] [] [.n,.n,.sy .n,.sy (.b 0 1),.sy .n,.pk] [(42,.bool (bif !ap then decide (y.2.1≠14)else false))] 1 ?_;refine Uk o ?_ ?_<;>intro hb o
      ·refine V1 1 ?_;exact Vn ⟨rfl,rfl,o⟩
      refine J0 3 ?_;have⟨ag,o⟩:=Vs o;refine Uf 2 [Z.R64 (a2+1)] [(30,A.i (a2+1))] ag (Ju ?_);exact Vn ⟨_,Qn _,⟨(a2+1),rfl,rfl,(Jw ag),o⟩⟩
     refine Vy 3 [113] [] [.n,.n,.b 0 0] [(44,.map (some b2)),(46,A.i y.1)] ?_;refine Uz (t:=Z.Ty.bool) 6 [] (cs:=[.bool true]) (u:=true) ky3 y.1 rfl ?_;refine V4 2 ?_;refine Vj mixed 11 12 (A.mb 12 0) ?_;refine Vm Vd [] l4i [113,0] [] (A.mb 12 127) 5 [(0,.n),(1,.n),(5,.n),(2,.n),(6,.b 0 0),(3,.n),(4,.b 1 1)] [(47,.pointer (some ⟨g0_,0,none⟩)),(53,A.i y.1),(51,.slice A3 B.length c4)] (Jz 7 ?_);refine Ve 123 (ty:=A.ti) (cs:=[A.i y.1]) [y.1] ⟨⟨rfl,al.1⟩,rfl⟩ (fun b6=>?_) Tryz.zeroValue3 Tryz.sizeOf3
     refine J2 (A.mb 12 255) l4i ?_;refine Jz 8 ?_;have⟨hl46,o⟩:=Vs o;refine Vt (k:=2) [] (Uc (k:=123) rfl) inf3 hl46 fun ab ac=>?_;refine J2 (A.mb 12 511) l4i ?_;refine Vm Vd l4i [0,1,2,3,4,5,6,112,113,123] [] [] (A.mb 12 2047) 1 [(9,.n),(10,.n)] [(57,.pointer (some ⟨g0_,1,none⟩))] (Jz 11 ?_);refine Us 0 [] (new:=[.slice ab ((B++[y.1]).length) ac]) (cs':=[.map (some b1_),.slice ab ((B++[y.1]).length) ac,.map (some b4_)]) ?_;refine Vv (A.mb 12 4095) ?_;refine J6 ?_;refine A.ee 4 ?_;exact Vn ⟨(B++[y.1]),(Z.mins Y y.1 true),ab,ac,rfl,rfl,o⟩
    rintro _ _ ⟨rfl,rfl,o⟩;rw[F.bl]at o;refine J0 0 ?_;have⟨ah,o⟩:=Vs o;refine Uf 2 [Z.R64 (N+1)] [(19,A.i (N+1))] ah (Ju ?_);exact Vn ⟨_,Qn _,⟨(N+1),rfl,rfl,(Jw ah),o⟩⟩
   refine V1 3 ?_;exact Vn ⟨B,Y,A3,c4,rfl,rfl,o⟩
  rintro _ _ ⟨a3,a4,a5,a6,rfl,rfl,o⟩;rw[F.bk]at o;refine J0 0 ?_;have⟨aj,o⟩:=Vs o;refine Uf 2 [Z.R64 (J+1)] [(14,A.i (J+1))] aj (Ju ?_);exact Vn ⟨_,Qn _,⟨a3,a4,(J+1),a5,a6,rfl,rfl,(Jw aj),o⟩⟩
 refine Um 3 ?_;refine Vj mixed 10 10 (A.mb 10 0) ?_;refine Vm Vd [] l4c [5,0] [] (A.mb 10 1023) 0 [(0,.n),(5,.n),(1,.n),(6,.b 0 0),(2,.n),(7,.n),(3,.b 1 1),(4,.n),(8,.n),(9,.n)] [(4,.bool (decide ((B.length:Int)=(s.length:Int))))] (J6 ?_);refine A.ex 1 ?_;obtain rfl:=Vf o;exact V7 [(0,0),(1,1),(2,2),(3,3)] ⟨b1_,A3,c4,b4_,rfl,rfl⟩
def F.aY (o:Int):Option (Int×Bool):=some (o,bif decide ((0:Int)<=o)then decide (o<=4)else false)
def F.aZ (o:Int):Option (Int×Bool):=some (o,decide (o=0))
def F.bs (s:D33)(o:Int)(u:Bool):Option (Int×Bool):=if u=true then(some (0,false))else(if s.2.1=12 then(A.gd (Z.R64 (o+1)) (F.aY (o+1)))else(if s.2.1=13 then(A.gd (Z.R64 (o-1)) (F.aY (o-1)))else(if s.2.1=11 then(F.aZ o)else(if s.2.1=16 then(F.aZ o)else(if s.2.1=15 then(F.aZ o)else(F.aY o))))))
def F.cr (u:((List (Int×D33))×(List Int)×(List (Int×Int))))(o:D33):Option (Int×Bool):=if o.2.1=1 then(some (0,true))else(if o.2.1=14 then(some (o.2.2.2.2.2.2,true))else((A.ix o.2.2.1 0).bind fun y=>(A.lt (Z.mget (0:Int) u.2.2 y) fun s=>(if(1:Int)<(o.2.2.1.length:Int)then((A.ix o.2.2.1 1).bind fun z=>(A.lt (Z.mget (0:Int) u.2.2 z) fun B=>(F.bs o s (decide (B≠s)))))else(F.bs o s false)))))
theorem o_a1(y:((List (Int×D33))×(List Int)×(List (Int×Int))))(s:D33)(ae:A.h6 s.1)(ag:A.h6 s.2.1)(ah:A.h6 s.2.2.2.1.1)(aj:A.h6 s.2.2.2.1.2.1)(ak:s.2.2.2.1.2.2.size<=maxLen)(al:s.2.2.2.2.1.size<=maxLen)(am:A.h6 s.2.2.2.2.2.1)(aa:A.h6 s.2.2.2.2.2.2)(r:Int×Bool)(o:F.cr y s=some r):
    A.Ct Tryz.prog 123 [.pointer (some ⟨g0_,0,none⟩),(A.rao s A7_ c8_)] [(0,.blk g0_ 155 [.map (some b1_),.slice A2_ y.2.1.length c3_,.map (some b4_)]),(1,.mp Int (fun i:Int=>A.i i) T33 true b1_ y.1),(2,.own A.ti 3 A2_ c3_ y.2.1),(3,.mp Int (fun i:Int=>A.i i) A.ti false b4_ y.2.2),(4,.sh A.TI [.slice A7_ s.2.2.1.length c8_] s.2.2.1)] ([g0_]++([b1_]++(Z.obl A2_++([b4_]++[])))) (fun v H'=>v=.tuple #[A.i r.1,.bool r.2]/\H'=[(0,.blk g0_ 155 [.map (some b1_),.slice A2_ y.2.1.length c3_,.map (some b4_)]),(1,.mp Int (fun i:Int=>A.i i) T33 true b1_ y.1),(2,.own A.ti 3 A2_ c3_ y.2.1),(3,.mp Int (fun i:Int=>A.i i) A.ti false b4_ y.2.2)]/\A.h6 r.1):=by
 refine Jv Tryz.func123 rfl Tryz.ntmps123 rfl fun w0 F0=>?_;rw[F.cr]at o;refine J0 1 ?_;refine J1 5 (cs:=(A.rai s A7_ c8_)) fun g1=>?_;refine J7 2 [] 3 ?_;refine J5 [5] [] [.n,.b 0 1] [(8,A.i s.2.1)] (Vk 3 ?_);refine Vc 2 [(9,.bool (decide (s.2.1=1)))] 1 ?_;refine Uv o ?_ ?_<;>intro B o
 ·refine Va 1 2 [(4,A.i 0),(5,.bool true)] 1 ?_;obtain rfl:=Vf o;exact Ue [(0,0),(1,1),(2,2),(3,3)] ⟨rfl,rfl,J3⟩
 refine Vl 1 2 [(11,.bool (decide (s.2.1=14)))] 1 o ?_ ?_<;>intro B o
 ·refine Uh 1 [5] [] [.n,.b 0 8,.n,.n] [(4,A.i s.2.2.2.2.2.2),(5,.bool true)] 1 ?_;obtain rfl:=Vf o;exact Ue [(0,0),(1,1),(2,2),(3,3)] ⟨rfl,rfl,aa⟩
 refine Um 4 ?_;refine Vj mixed 10 10 (A.mb 10 0) ?_;refine Vm Vd [] [0,1,2,3,4,5] [5,0] [] (A.mb 10 63) 4 [(0,.n),(4,.n),(1,.n),(5,.b 0 2),(2,.n),(3,.b 1 2)] [(20,.slice A7_ s.2.2.1.length c8_),(18,.map (some b4_))] ?_;have⟨U,a2,o⟩:=V6 o;refine A.AH.pks 4 6 a2 fun an=>?_;intro b6 o7 ab;refine V0 Vd [0,1,2,3,4,5] l4c 6 (A.mb 10 127) rfl (fun a w hf hh=>Un (t:=A.ti) a2 ab hf) ?_;refine Vm Vd l4c l4c [] [6] (A.mb 10 255) 2 [(7,.e 0 0)] [(22,A.i U)] ?_;obtain⟨u,a3,o⟩:=Vi o;refine A.okm (t:=A.ti) 3 U (z:=(0:Int)) (zs:=l4k) ⟨rfl,by decide⟩ a3 fun a4=>?_;refine V0 Vd l4c l4c 8 (A.mb 10 511) rfl (fun a w hf hh=>A.r_lkf (t:=A.ti) (ok:=false) (z:=(0:Int)) (zs:=l4k) 3 ky3 U Tryz.zeroValue3 ⟨rfl,by decide⟩ a3 rfl hf hh) ?_;refine Vm Vd l4c l4c [] [] (A.mb 10 1023) 0 [(9,.n)] [(6,A.i u)] (J6 ?_);refine A.ex 2 ?_;refine J4 [3,6] [0,1,2,3,4,5] (fun L N=>∃(W:Bool),L=[(40,.bool W)]/\N=[]/\F.bs s u W=some r) ?_ ?_
 ·refine Vj mixed 17 17 (A.mb 17 0) ?_;refine Vm Vd [] l4c [5] [] (A.mb 17 31) 12 [(0,.n),(1,.b 0 2),(2,.n),(3,.n),(4,.n)] [(28,.bool (decide ((1:Int)<(s.2.2.1.length:Int))))] (A.AH.cnp (j:=28) rfl o ?_ ?_)<;>intro B o
  ·refine Vm Vd l4c l4c [5,0] [] (A.mb 17 18431) 5 [(5,.on .n),(9,.on .n),(14,.on .n),(6,.on .n),(10,.on (.b 0 2)),(7,.on .n),(8,.on (.b 1 2))] [(38,A.i u),(34,.slice A7_ s.2.2.1.length c8_),(32,.map (some b4_))] ?_;have⟨Y,a5,o⟩:=V6 o;refine A.AH.pks 4 7 a5 fun ao=>?_;intro ap aq ac;refine A.AH.vg Vd l4c l4h 11 (A.mb 17 20479) (dj:=28) rfl (fun a w hf hh=>Un (t:=A.ti) a5 ac hf) ?_;refine Vm Vd l4h l4h [] [7] (A.mb 17 24575) 3 [(12,.on (.e 0 0))] [(36,A.i Y)] ?_;obtain⟨a6,a7,o⟩:=Vi o;refine A.okm (t:=A.ti) 3 Y (z:=(0:Int)) (zs:=l4k) ⟨rfl,by decide⟩ a7 fun ar=>?_;refine A.AH.vg Vd l4h l4h 13 (A.mb 17 32767) (dj:=28) rfl (fun a w hf hh=>A.r_lkf (t:=A.ti) (ok:=false) (z:=(0:Int)) (zs:=l4k) 3 ky3 Y Tryz.zeroValue3 ⟨rfl,by decide⟩ a7 rfl hf hh) ?_;refine Vm Vd l4h l4h [] [] (A.mb 17 131071) 0 [(15,.on .n),(16,.n)] [(40,.bool (decide (a6≠u)))] (J6 ?_);exact Vn ⟨(decide (a6≠u)),rfl,rfl,o⟩
  refine Vm Vd l4c l4c [] [] (A.mb 17 131071) 0 [(5,.off),(9,.off),(14,.off),(6,.off),(10,.off),(7,.off),(11,.off),(8,.off),(12,.off),(13,.off),(15,.off),(16,.n)] [(40,.bool false)] (J6 ?_);exact Vn ⟨false,rfl,rfl,o⟩
 rintro _ _ ⟨W,rfl,rfl,o⟩;rw[F.bs]at o;refine Uk o ?_ ?_<;>intro B o
 ·refine Va 1 2 [(4,A.i 0),(5,.bool false)] 1 ?_;obtain rfl:=Vf o;exact Ue [(0,0),(1,1),(2,2),(3,3)] ⟨rfl,rfl,J3⟩
 refine Um 2 ?_;refine J4 [] [0,1,2,3] (fun L N=>∃(J:Int),L=[(6,A.i J)]/\N=[]/\A.h6 J/\F.aY J=some r) ?_ ?_
 ·refine Uh 1 [5] [] [.n,.b 0 1] [(42,A.i s.2.1)] 2 ?_;refine J4 [6] [0,1,2,3] (fun L N=>L=[]/\N=[]/\F.aZ u=some r) ?_ ?_
  ·refine Vl 10 2 [(43,.bool (decide (s.2.1=12)))] 1 o ?_ ?_<;>intro B o
   ·refine J0 3 ?_;have⟨a8,o⟩:=Vs o;refine Uf 3 [Z.R64 (u+1)] [(6,A.i (u+1))] a8 (U4 2 ?_);exact Vn ⟨(u+1),rfl,rfl,(Jw a8),o⟩
   refine Vl 4 2 [(45,.bool (decide (s.2.1=13)))] 1 o ?_ ?_<;>intro B o
   ·refine J0 3 ?_;have⟨a9,o⟩:=Vs o;refine Uf 3 [Z.R64 (u-1)] [(6,A.i (u-1))] a9 (U4 2 ?_);exact Vn ⟨(u-1),rfl,rfl,(Jw a9),o⟩
   refine Vl 4 2 [(47,.bool (decide (s.2.1=11)))] 1 o ?_ ?_<;>intro B o
   ·refine V1 3 ?_;exact Vn ⟨rfl,rfl,o⟩
   refine Vl 4 2 [(49,.bool (decide (s.2.1=16)))] 1 o ?_ ?_<;>intro B o
   ·refine V1 2 ?_;exact Vn ⟨rfl,rfl,o⟩
   refine Vl 3 2 [(51,.bool (decide (s.2.1=15)))] 1 o ?_ ?_<;>intro B o
   ·refine V1 1 ?_;exact Vn ⟨rfl,rfl,o⟩
   refine V1 3 ?_;exact Vn ⟨u,rfl,rfl,a4,o⟩
  rintro _ _ ⟨rfl,rfl,o⟩;rw[F.aZ]at o;refine Va 2 5 [(4,A.i u),(5,.bool (decide (u=0)))] 1 ?_;obtain rfl:=Vf o;exact Ue [(0,0),(1,1),(2,2),(3,3)] ⟨rfl,rfl,a4⟩
 rintro _ _ ⟨J,rfl,rfl,ad,o⟩;rw[F.aY]at o;refine Uh 1 [] [] [.n,.n,.n,.n,.sy .n,.sy .n,.pk,.n,.n] [(4,A.i J),(5,.bool (bif decide ((0:Int)<=J)then decide (J<=4)else false))] 1 ?_;obtain rfl:=Vf o;exact Ue [(0,0),(1,1),(2,2),(3,3)] ⟨rfl,rfl,ad⟩
def F.a2 (o:((List (Int×D33))×(List Int)×(List (Int×Int))))(s:List (Int×Int))(u:Bool):Option (Option (Bool×((List (Int×D33))×(List Int)×(List (Int×Int))))):=if u=true then(some (some (false,(o.1,o.2.1,s))))else(some none)
def F.bG (u:((List (Int×D33))×(List Int)×(List (Int×Int))))(o:List (Int×Int))(s:Int×D33):Option (Option (Bool×((List (Int×D33))×(List Int)×(List (Int×Int))))):=if s.2.2.1=14 then((A.ix s.2.2.2.1 0).bind fun y=>(A.lt (Z.mget (0:Int) o y) fun z=>(F.a2 u o (decide (z≠s.2.2.2.2.2.2.2)))))else(F.a2 u o false)
def F.a3 (o:((List (Int×D33))×(List Int)×(List (Int×Int)))):Nat->(List (Int×Int))->Int->Option (Bool×((List (Int×D33))×(List Int)×(List (Int×Int))))
 |0,_,_=>none
 |f+1,s,u=>if u<(o.2.1.length:Int)then((A.ix o.2.1 u).bind fun y=>(A.lt (Z.mget ((0,0,[],(0,0,(ByteArray.mk #[])),(ByteArray.mk #[]),0,0):D33) o.1 y) fun B=>((F.cr (o.1,o.2.1,s) B).bind fun z=>(if(!z.2)=true then(some (false,(o.1,o.2.1,s)))else(A.gd (Z.R64 (u+1)) ((F.a3 o f) (Z.mins s y z.1) (u+1)))))))else(A.mrg (F.bG o s) (some (true,(o.1,o.2.1,s))) o.1)
def F.b2 (o:((List (Int×D33))×(List Int)×(List (Int×Int)))):Option (Bool×((List (Int×D33))×(List Int)×(List (Int×Int)))):=F.a3 o A.FU o.2.2 0
theorem o_aI(y:((List (Int×D33))×(List Int)×(List (Int×Int))))(r:Bool×((List (Int×D33))×(List Int)×(List (Int×Int))))(o:F.b2 y=some r):
    A.Ct Tryz.prog 85 [.pointer (some ⟨g0_,0,none⟩)] [(0,.blk g0_ 155 [.map (some b1_),.slice A2_ y.2.1.length c3_,.map (some b4_)]),(1,.mp Int (fun i:Int=>A.i i) T33 true b1_ y.1),(2,.own A.ti 3 A2_ c3_ y.2.1),(3,.mp Int (fun i:Int=>A.i i) A.ti false b4_ y.2.2)] ([g0_]++([b1_]++(Z.obl A2_++([b4_]++[])))) (fun v H'=>∃(b0':Nat) (A1':Option Addr) (c2':Nat) (b3':Nat),v=.bool r.1/\H'=[(0,.blk g0_ 155 [.map (some b0'),.slice A1' r.2.2.1.length c2',.map (some b3')]),(1,.mp Int (fun i:Int=>A.i i) T33 true b0' r.2.1),(2,.own A.ti 3 A1' c2' r.2.2.1),(3,.mp Int (fun i:Int=>A.i i) A.ti false b3' r.2.2.2)]):=by
 refine Jv Tryz.func85 rfl Tryz.ntmps85 rfl fun w0 F0=>?_;rw[F.b2]at o;refine J0 1 ?_;refine J7 1 [] 3 ?_;refine Vw [0] [] [.n,.n,.n,.b 0 1,.n,.n] [(12,.slice A2_ y.2.1.length c3_),(13,A.i (y.2.1.length:Int)),(14,A.i 0)] 2 ?_;refine Vo [0,12,13] [0,1,2] (fun f Y nh=>∃(N:List (Int×Int))(J:Int),Y=[(14,A.i J)]/\nh=[(3,.mp Int (fun i:Int=>A.i i) A.ti false b4_ N)]/\A.h6 J/\F.a3 y f N J=some r) ⟨y.2.2,0,rfl,rfl,J3,o⟩ ?_;rintro f4 _ _ ⟨N,J,rfl,rfl,am,o⟩;rcases f4 with _|f4
 ·exact Vb o
 rw[F.a3]at o;refine Vl 1 1 [(15,.bool (decide (J<(y.2.1.length:Int))))] 2 o ?_ ?_<;>intro hb o
 ·refine J0 5 ?_;have⟨W,ac,o⟩:=V6 o;refine Uq 2 96 ac fun an=>?_;intro g8 ao;refine J5 [] [96] [.e 0 0,.n] [(4,A.i W)] (Vk 2 ?_);refine J5 [0] [] [.n,.n,.n,.n,.b 0 0,.n] [(19,.pointer (some ⟨g0_,0,none⟩)),(23,.map (some b1_)),(24,A.i W)] ?_;obtain⟨ad,ae,o⟩:=Vi o;refine V8 (t:=T33) 1 97 (z:=((0,0,[],(0,0,(ByteArray.mk #[])),(ByteArray.mk #[]),0,0):D33)) (zs:=l4a) ky3 W Tryz.zeroValue34 ⟨⟨rfl,by decide⟩,⟨rfl,by decide⟩,(.inr ⟨rfl,rfl⟩),⟨⟨rfl,by decide⟩,⟨rfl,by decide⟩,⟨rfl,by decide⟩⟩,⟨rfl,by decide⟩,⟨rfl,by decide⟩,⟨rfl,by decide⟩⟩ ae fun L=>?_;intro ag ah;refine Vx 98 [96] o (o_a1 A2_ ag g0_ b1_ c3_ b4_ ah (y.1,y.2.1,N) ad L.1 L.2.1 L.2.2.2.1.1 L.2.2.2.1.2.1 L.2.2.2.1.2.2 L.2.2.2.2.1 L.2.2.2.2.2.1 L.2.2.2.2.2.2) (.m 0 (.m 1 (.m 2 (.m 3 (.s 97 .nil))))) ?_;rintro U - o _ _ ⟨rfl,rfl,hr17⟩;refine J9 (J8 98 0 [] ?_);refine J8 99 1 [] ?_;refine J8 100 2 [] ?_;refine J8 101 3 [] ?_;refine J7 5 [(5,A.i U.1),(6,.bool U.2)] 3 ?_;refine Vc 2 [(30,.bool (!U.2))] 1 ?_;refine Uk o ?_ ?_<;>intro hb o
  ·refine Va 1 1 [(2,.bool false)] 1 ?_;obtain rfl:=Vf o;exact V7 [(0,0),(1,1),(2,2),(3,3)] ⟨b1_,A2_,c3_,b4_,rfl,rfl⟩
  refine Vy 2 [0] [] [.n,.n,.n,.b 0 2,.n,.n] [(34,.map (some b4_)),(35,A.i W),(36,A.i U.1)] ?_;refine Uz (t:=A.ti) 3 [] (cs:=[A.i U.1]) (u:=U.1) ky3 W ⟨rfl,hr17⟩ ?_;refine Vk 2 ?_;have⟨a8,o⟩:=Vs o;refine Uf 2 [Z.R64 (J+1)] [(14,A.i (J+1))] a8 (Ju ?_);exact Vn ⟨_,Qn _,⟨(Z.mins N W U.1),(J+1),rfl,rfl,(Jw a8),o⟩⟩
 refine Vy 4 [0] [] [.n,.n,.n,.b 0 0] [(41,.map (some b1_))] ?_;refine A.AL.rgm 1 138 fun a5=>?_;refine V4 2 ?_;obtain⟨hev,hend⟩:=A.mrg_all o;refine A.AX.loop [0,42] [0,1,2,3] [138,0,1,2,3] (fun f Y nh=>∃(sn:List Nat) (la:Option (Value×Value)),Y=[]/\nh=[(138,.mit 1 a5 b1_ y.1.length sn la)]/\sn.Nodup/\(∀i∈sn,i<y.1.length)/\(∀i∈sn,∀p,(y.1)[i]?=some p->F.bG y N p=some none)/\f+sn.length=y.1.length+1) (y.1.length+1) [] [(138,.mit 1 a5 b1_ y.1.length [] none)] ⟨[],none,rfl,rfl,Ji,by simp,by simp,rfl⟩ ?_;rintro ap _ _ ⟨aj,la21,rfl,rfl,hnd,hbd,hse,hff⟩;refine J0 1 ?_;refine A.AL.nxm 1 138 139 (fun hall=>?_) (fun ak B hp25 hs26 aq=>?_)
 ·replace o:=hend (A.seen_all hse hall)
  refine Vc 1 [(44,.bool false)] 2 ?_;refine V5 rfl ?_;refine Va 3 1 [(2,.bool true)] 1 ?_;obtain rfl:=Vf o;exact V7 [(0,0),(1,1),(2,2),(3,3)] ⟨b1_,A2_,c3_,b4_,rfl,rfl⟩
 intro a1 a4;obtain⟨q,hB,hq⟩:=hev B (Qt hp25)
 have o:=hB
 rw[F.bG]at o;refine Vc 1 [(44,.bool true)] 2 ?_;refine Ua rfl ?_;refine J0 4 ?_;refine A.AL.ent 138 ?_;refine V9 1 [(46,(A.rao B.2 a1 a4))] (Jy 140 (cs:=l4a) Tryz.zeroValue34 fun ar=>?_);refine Vg 140 [] (A.rai B.2 a1 a4) ?_;refine V4 1 ?_;refine J4 [0,42] [0,1,2,3,138] (fun Y nh=>∃(a6:Bool),Y=[(63,.bool a6)]/\nh=[]/\F.a2 y N a6=some q) ?_ ?_
 ·refine Vj mixed 17 17 (A.mb 17 0) ?_;refine Vm Vd [] l4g [140] [] (A.mb 17 15) 13 [(0,.n),(1,.b 0 1),(2,.n),(3,.n)] [(50,.bool (decide (B.2.2.1=14)))] (A.AH.cnp (j:=50) rfl o ?_ ?_)<;>intro hb o
  ·refine Vm Vd l4g l4g [140,0] [] (A.mb 17 25599) 5 [(4,.on .n),(8,.on .n),(13,.on .n),(5,.on .n),(9,.on (.b 0 2)),(14,.on (.b 0 8)),(6,.on .n),(7,.on (.b 1 2))] [(56,.slice a1 B.2.2.2.1.length a4),(61,A.i B.2.2.2.2.2.2.2),(54,.map (some b4_))] ?_;have⟨a7,a9,o⟩:=V6 o;refine A.AH.pks 139 141 a9 fun au=>?_;intro av aw al;refine A.AH.vg Vd l4g l4d 10 (A.mb 17 26623) (dj:=50) rfl (fun a w hf hh=>Un (t:=A.ti) a9 al hf) ?_;refine Vm Vd l4d l4d [] [141] (A.mb 17 28671) 3 [(11,.on (.e 0 0))] [(58,A.i a7)] ?_;obtain⟨aa,ab,o⟩:=Vi o;refine A.okm (t:=A.ti) 3 a7 (z:=(0:Int)) (zs:=l4k) ⟨rfl,by decide⟩ ab fun ax=>?_;refine A.AH.vg Vd l4d l4d 12 (A.mb 17 32767) (dj:=50) rfl (fun a w hf hh=>A.r_lkf (t:=A.ti) (ok:=false) (z:=(0:Int)) (zs:=l4k) 3 ky3 a7 Tryz.zeroValue3 ⟨rfl,by decide⟩ ab rfl hf hh) ?_;refine Vm Vd l4d l4d [] [] (A.mb 17 131071) 0 [(15,.on .n),(16,.n)] [(63,.bool (decide (aa≠B.2.2.2.2.2.2.2)))] (J6 ?_);exact Vn ⟨(decide (aa≠B.2.2.2.2.2.2.2)),rfl,rfl,o⟩
  refine Vm Vd l4g l4g [] [] (A.mb 17 131071) 0 [(4,.off),(8,.off),(13,.off),(5,.off),(9,.off),(14,.off),(6,.off),(10,.off),(7,.off),(11,.off),(12,.off),(15,.off),(16,.n)] [(63,.bool false)] (J6 ?_);exact Vn ⟨false,rfl,rfl,o⟩
 rintro _ _ ⟨a6,rfl,rfl,o⟩;rw[F.a2]at o;refine Uk o ?_ ?_<;>intro hb o
 ·refine Va 1 1 [(2,.bool false)] 1 ?_;obtain rfl:=Vf o;obtain rfl:=Ws (hq.resolve_left (by intro h;cases h))
  exact V7 [(0,0),(1,1),(2,2),(3,3)] ⟨b1_,A2_,c3_,b4_,rfl,rfl⟩
 refine V1 2 ?_;obtain rfl:=Vf o;exact A.AE.j [138,0,1,2,3] [] [(138,.mit 1 a5 b1_ y.1.length (ak::aj) (some (A.i B.1,(A.rao B.2 a1 a4))))] ⟨_,(A.seen_f hnd (U0 hbd hp25) hs26 hff).1,_,_,rfl,rfl,Wv.2 ⟨hs26,hnd⟩,U0 hbd hp25,A.seen_cons hse hp25 hB,(A.seen_f hnd (U0 hbd hp25) hs26 hff).2⟩
def F.bc (s:(List D200)->Int->Option (List D200))(o:Int)(u:List D200):Option (List D200):=A.gd (Z.R64 (o+1)) (s u (o+1))
def F.bd (y:(List D200)->Int->Option (List D200))(z:((List (Int×D33))×(List Int)×(List (Int×Int))))(B:Int)(o:D33):Nat->(List D200)->Int->Option (List D200)
 |0,_,_=>none
 |f+1,u,s=>if s<(o.2.2.1.length:Int)then((A.ix o.2.2.1 s).bind fun N=>(A.lt (Z.mget (0:Int) z.2.2 N) fun J=>(A.gd ((List.length (α:=D200) u+List.length (α:=D200) [((o.1,s),J)])*24<=140737488355328) (A.gd (Z.R64 (s+1)) ((F.bd y z B o f) (u++[((o.1,s),J)]) (s+1))))))else(if o.2.1≠15 then(A.lt (Z.mget (0:Int) z.2.2 o.1) fun L=>(A.gd ((List.length (α:=D200) u+List.length (α:=D200) [((o.1,2),L)])*24<=140737488355328) (F.bc y B (u++[((o.1,2),L)]))))else(F.bc y B u))
def F.av (u:((List (Int×D33))×(List Int)×(List (Int×Int))))(o:D36):Nat->(List D200)->Int->Option (List D200)
 |0,_,_=>none
 |f+1,y,s=>if s<(o.length:Int)then((A.ix o s).bind fun z=>(F.bd (F.av u o f) u s z A.FU y 0))else(some y)
def F.b9 (o:((List (Int×D33))×(List Int)×(List (Int×Int))))(s:D36):Option (List D200):=F.av o s A.FU [] 0
theorem o_aN(y:((List (Int×D33))×(List Int)×(List (Int×Int))))(B:D36)(r:(List D200))(o:F.b9 y B=some r):
    A.Ct Tryz.prog 124 [.pointer (some ⟨g0_,0,none⟩),.agg #[.slice A5_ B.length c6_]] [(0,.blk g0_ 155 [.map (some b1_),.slice A2_ y.2.1.length c3_,.map (some b4_)]),(1,.mp Int (fun i:Int=>A.i i) T33 true b1_ y.1),(2,.own A.ti 3 A2_ c3_ y.2.1),(3,.mp Int (fun i:Int=>A.i i) A.ti false b4_ y.2.2),(4,.sh (.slice T33) [.slice A5_ B.length c6_] B)] ([g0_]++([b1_]++(Z.obl A2_++([b4_]++[])))) (fun v H'=>∃(A0':Option Addr) (c1':Nat),v=.slice A0' r.length c1'/\H'=[(0,.own T200 201 A0' c1' r),(1,.blk g0_ 155 [.map (some b1_),.slice A2_ y.2.1.length c3_,.map (some b4_)]),(2,.mp Int (fun i:Int=>A.i i) T33 true b1_ y.1),(3,.own A.ti 3 A2_ c3_ y.2.1),(4,.mp Int (fun i:Int=>A.i i) A.ti false b4_ y.2.2)]):=by
 refine Jv Tryz.func124 rfl Tryz.ntmps124 rfl fun w0 F0=>?_;rw[F.b9]at o;refine J0 1 ?_;refine J1 5 (cs:=[.slice A5_ B.length c6_]) fun g1=>?_;refine J7 1 [] 2 ?_;refine J7 1 [(5,.slice none 0 0)] 3 ?_;refine Vw [5] [] [.n,.b 0 0,.n,.n] [(11,.slice A5_ B.length c6_),(12,A.i (B.length:Int)),(13,A.i 0)] 2 ?_;refine Ul 38 T200 201 ?_;refine Vo [0,11,12] [0,1,2,3,4] (fun f nl nh=>∃(N:List D200)(L:Int)(U:Option Addr)(W:Nat),nl=[(5,.slice U N.length W),(13,A.i L)]/\nh=[(38,.own T200 201 U W N)]/\A.h6 L/\F.av y B f N L=some r) ⟨[],0,none,0,rfl,rfl,J3,o⟩ ?_;rintro f7 _ _ ⟨N,L,U,W,rfl,rfl,aq,o⟩;rcases f7 with _|f7
 ·exact Vb o
 rw[F.av]at o;refine Vl 1 1 [(14,.bool (decide (L<(B.length:Int))))] 2 o ?_ ?_<;>intro hb o
 ·refine Um 2 ?_;refine J4 [0,11,12,13] [0,1,2,3,4] (fun nl nh=>∃(a3:List D200)(A8:Option Addr)(c9:Nat),nl=[(5,.slice A8 a3.length c9)]/\nh=[(38,.own T200 201 A8 c9 a3)]/\F.bc (F.av y B f7) L a3=some r) ?_ ?_
  ·refine J0 2 ?_;have⟨s,al,o⟩:=V6 o;refine Vr 4 63 al fun a9=>?_;intro a7 a8 ar au;refine J5 [] [63] [.e 0 0] [(16,(A.rao s a7 a8))] (Jy 65 (cs:=l4a) Tryz.zeroValue34 fun aw=>?_);refine Vg 65 [] (A.rai s a7 a8) ?_;refine Vk 3 ?_;refine Vw [65] [] [.n,.b 0 2,.n,.n] [(18,.slice a7 s.2.2.1.length a8),(19,A.i (s.2.2.1.length:Int)),(20,A.i 0)] 2 ?_;refine Vo [0,7,11,12,13,18,19] l4f (fun f nl nh=>∃(J:List D200)(u:Int)(Y:Option Addr)(a2:Nat),nl=[(5,.slice Y J.length a2),(20,A.i u)]/\nh=[(38,.own T200 201 Y a2 J)]/\A.h6 u/\F.bd (F.av y B f7) y L s f J u=some r) ⟨N,0,U,W,rfl,rfl,J3,o⟩ ?_;rintro aa _ _ ⟨J,u,Y,a2,rfl,rfl,am,o⟩;rcases aa with _|aa
   ·exact Vb o
   rw[F.bd]at o;refine Vl 1 1 [(21,.bool (decide (u<(s.2.2.1.length:Int))))] 2 o ?_ ?_<;>intro hb o
   ·refine Ub 5 1 [(22,A.i u)] ?_;have⟨a6,an,o⟩:=V6 o;refine Vr 64 72 an fun ax=>?_;intro ay az;refine Vw [] [72] [.e 0 0,.n,.n] [(8,A.i u),(9,A.i a6)] 1 ?_;refine Vj mixed 15 15 (A.mb 15 0) ?_;refine Vm Vd [] l4e [65,0] [] (A.mb 15 1023) 5 [(0,.n),(1,.n),(3,.n),(5,.n),(9,.n),(2,.b 0 0),(6,.n),(4,.n),(7,.n),(8,.b 1 2)] [(25,.slice Y J.length a2),(34,A.i a6),(29,.agg #[A.i s.1,A.i u]),(33,.map (some b4_))] ?_;obtain⟨a4,ab,o⟩:=Vi o;refine A.okm (t:=A.ti) 3 a6 (z:=(0:Int)) (zs:=l4k) ⟨rfl,by decide⟩ ab fun ao=>?_;refine V0 Vd l4e l4e 10 (A.mb 15 2047) rfl (fun a w hf hh=>A.r_lkf (t:=A.ti) (ok:=false) (z:=(0:Int)) (zs:=l4k) 3 ky3 a6 Tryz.zeroValue3 ⟨rfl,by decide⟩ ab rfl hf hh) ?_;refine Vm Vd l4e l4e [] [] (A.mb 15 4095) 3 [(11,.n)] [(36,.agg #[A.i s.1,A.i u,A.i a4])] (Jz 12 ?_);refine Ve 73 (ty:=T200) (cs:=[A.i s.1,A.i u,A.i a4]) [((s.1,u),a4)] ⟨⟨⟨⟨rfl,a9.1⟩,⟨rfl,am⟩⟩,⟨rfl,ao⟩⟩,rfl⟩ (fun b0=>?_) Tryz.zeroValue201 Tryz.sizeOf201
    refine J2 (A.mb 15 8191) l4e ?_;refine Jz 13 ?_;have⟨hl37,o⟩:=Vs o;refine Vt (k:=38) [] (Uc (k:=73) rfl) inf201 hl37 fun ac ad=>?_;refine J2 (A.mb 15 16383) l4e ?_;refine Vm Vd l4e [0,1,2,3,4,38,64,65,72,73] [] [] (A.mb 15 32767) 0 [(14,.n)] [(5,.slice ac ((J++[((s.1,u),a4)]).length) ad)] (J6 ?_);refine U1 2 ?_;have⟨ae,o⟩:=Vs o;refine Uf 2 [Z.R64 (u+1)] [(20,A.i (u+1))] ae (Ju ?_);exact Vn ⟨_,Qn _,⟨(J++[((s.1,u),a4)]),(u+1),ac,ad,rfl,rfl,(Jw ae),o⟩⟩
   refine Uh 3 [65] [] [.n,.b 0 1,.n] [(42,.bool (decide (s.2.1≠15)))] 1 ?_;refine Uv o ?_ ?_<;>intro hb o
   ·refine Vj mixed 15 15 (A.mb 15 0) ?_;refine Vm Vd [] l4f [65,0] [] (A.mb 15 1023) 5 [(0,.n),(1,.n),(4,.n),(8,.n),(2,.b 0 0),(5,.n),(9,.b 0 0),(3,.n),(6,.n),(7,.b 1 2)] [(43,.slice Y J.length a2),(52,A.i s.1),(46,.agg #[A.i s.1,A.i 2]),(50,.map (some b4_))] ?_;obtain⟨a5,ag,o⟩:=Vi o;refine A.okm (t:=A.ti) 3 s.1 (z:=(0:Int)) (zs:=l4k) ⟨rfl,by decide⟩ ag fun ap=>?_;refine V0 Vd l4f l4f 10 (A.mb 15 2047) rfl (fun a w hf hh=>A.r_lkf (t:=A.ti) (ok:=false) (z:=(0:Int)) (zs:=l4k) 3 ky3 s.1 Tryz.zeroValue3 ⟨rfl,by decide⟩ ag rfl hf hh) ?_;refine Vm Vd l4f l4f [] [] (A.mb 15 4095) 3 [(11,.n)] [(54,.agg #[A.i s.1,A.i 2,A.i a5])] (Jz 12 ?_);refine Ve 74 (ty:=T200) (cs:=[A.i s.1,A.i 2,A.i a5]) [((s.1,2),a5)] ⟨⟨⟨⟨rfl,a9.1⟩,⟨rfl,(Vp 2)⟩⟩,⟨rfl,ap⟩⟩,rfl⟩ (fun b1=>?_) Tryz.zeroValue201 Tryz.sizeOf201
    refine J2 (A.mb 15 8191) l4f ?_;refine Jz 13 ?_;have⟨hl45,o⟩:=Vs o;refine Vt (k:=38) [] (Uc (k:=74) rfl) inf201 hl45 fun ah aj=>?_;refine J2 (A.mb 15 16383) l4f ?_;refine Vm Vd l4f [0,1,2,3,4,38,64,65,74] [] [] (A.mb 15 32767) 0 [(14,.n)] [(5,.slice ah ((J++[((s.1,2),a5)]).length) aj)] (J6 ?_);refine A.ee 1 ?_;exact Vn ⟨(J++[((s.1,2),a5)]),ah,aj,rfl,rfl,o⟩
   refine V1 2 ?_;exact Vn ⟨J,Y,a2,rfl,rfl,o⟩
  rintro _ _ ⟨a3,A8,c9,rfl,rfl,o⟩;rw[F.bc]at o;refine J0 0 ?_;have⟨ak,o⟩:=Vs o;refine Uf 2 [Z.R64 (L+1)] [(13,A.i (L+1))] ak (Ju ?_);exact Vn ⟨_,Qn _,⟨a3,(L+1),A8,c9,rfl,rfl,(Jw ak),o⟩⟩
 refine Va 3 2 [(4,.slice U N.length W)] 1 ?_;obtain rfl:=Vf o;exact V7 [(0,38),(1,0),(2,1),(3,2),(4,3)] ⟨U,W,rfl,rfl⟩
def F.cd (s:Int)(u:Int)(y:Int)(o:D205):Option (D205×Int):=if(bif decide (s<u)then true else decide (y<s))=true then(some ((0,0,0,0,(0,0,0,0)),11))else(some ((s,o.2.1,o.2.2.1,o.2.2.2.1,o.2.2.2.2),0))
theorem o_ac (s:Int)(y:Int)(z:Int)(o:D205)(B:A.h6 s)(a5:A.h6 y)(a6:A.h6 z)(a7:A.h6 o.1)(J:A.h6 o.2.1)(L:A.h6 o.2.2.1)(N:A.h6 o.2.2.2.1)(U:A.h6 o.2.2.2.2.1)(W:A.h6 o.2.2.2.2.2.1)(Y:A.h6 o.2.2.2.2.2.2.1)(a4:A.h6 o.2.2.2.2.2.2.2)(r:D205×Int)(u:F.cd s y z o=some r):
    A.Ct Tryz.prog 168 [A.i s,A.i y,A.i z,(A.rag o)] [] [] (fun v H'=>v=.tuple #[(A.rag r.1),A.i r.2]/\H'=[]/\A.h6 r.1.1/\A.h6 r.1.2.1/\A.h6 r.1.2.2.1/\A.h6 r.1.2.2.2.1/\A.h6 r.1.2.2.2.2.1/\A.h6 r.1.2.2.2.2.2.1/\A.h6 r.1.2.2.2.2.2.2.1/\A.h6 r.1.2.2.2.2.2.2.2/\A.h6 r.2):=by
 refine Jv Tryz.func168 rfl Tryz.ntmps168 rfl fun w0 F0=>?_;rw[F.cd]at u;refine J0 1 ?_;refine J1 0 (cs:=(A.rac o)) fun g1=>?_;refine Jy 1 (cs:=l4b) Tryz.zeroValue206 fun g2=>?_;refine J7 1 [] 3 ?_;refine Vw [] [] [.n,.n,.n,.n,.sy .n,.sy .n,.sy .n,.pk] [(17,.bool (bif decide (s<y)then true else decide (z<s)))] 1 ?_;refine Uk u ?_ ?_<;>intro hb u
 ·refine Ub 1 1 [(18,.agg #[A.i 0,A.i 0,A.i 0,A.i 0,A.i 0,A.i 0,A.i 0,A.i 0])] ?_;refine Vg 1 [] A.zz8 ?_;refine Vc 1 [(9,A.i 11)] 1 ?_;obtain rfl:=Vf u;exact Ug [] (.tuple #[.agg #[A.i 0,A.i 0,A.i 0,A.i 0,A.i 0,A.i 0,A.i 0,A.i 0],A.i 11]) (fun a w hf hh=>U2 rfl (Ut hf rfl Tryz.isAgg206 Tryz.sizeOf206 (Vq hh 1) rfl) (Ux hf rfl)) (⟨rfl,rfl,J3,J3,J3,J3,J3,J3,J3,J3,(Vp 11)⟩)
 refine Ub 3 2 [(19,A.i s),(20,.pointer (some ⟨g1,0,none⟩))] ?_;refine Us 0 [] (new:=[A.i s]) (cs':=[A.i s,A.i o.2.1,A.i o.2.2.1,A.i o.2.2.2.1,A.i o.2.2.2.2.1,A.i o.2.2.2.2.2.1,A.i o.2.2.2.2.2.2.1,A.i o.2.2.2.2.2.2.2]) ?_;refine Vk 2 ?_;refine J5 [0] [] [.b 0 0] [(21,.agg #[A.i s,A.i o.2.1,A.i o.2.2.1,A.i o.2.2.2.1,A.i o.2.2.2.2.1,A.i o.2.2.2.2.2.1,A.i o.2.2.2.2.2.2.1,A.i o.2.2.2.2.2.2.2])] (Vg 1 [] [A.i s,A.i o.2.1,A.i o.2.2.1,A.i o.2.2.2.1,A.i o.2.2.2.2.1,A.i o.2.2.2.2.2.1,A.i o.2.2.2.2.2.2.1,A.i o.2.2.2.2.2.2.2] ?_);refine Vc 1 [(9,A.i 0)] 1 ?_;obtain rfl:=Vf u;exact Ug [] (.tuple #[.agg #[A.i s,A.i o.2.1,A.i o.2.2.1,A.i o.2.2.2.1,A.i o.2.2.2.2.1,A.i o.2.2.2.2.2.1,A.i o.2.2.2.2.2.2.1,A.i o.2.2.2.2.2.2.2],A.i 0]) (fun a w hf hh=>U2 rfl (Ut hf rfl Tryz.isAgg206 Tryz.sizeOf206 (Vq hh 1) rfl) (Ux hf rfl)) (⟨rfl,rfl,B,J,L,N,U,W,Y,a4,J3⟩)
def F.cQ (o:Int):Option (D205×Int):=(F.cd o 0 4 (0,o,0,0,(0,0,0,0))).bind fun s=>(some s)
theorem o_aJ (o:Int)(y:A.h6 o)(r:D205×Int)(u:F.cQ o=some r):
    A.Ct Tryz.prog 140 [A.i o] [] [] (fun v H'=>v=.tuple #[(A.rag r.1),A.i r.2]/\H'=[]/\A.h6 r.1.1/\A.h6 r.1.2.1/\A.h6 r.1.2.2.1/\A.h6 r.1.2.2.2.1/\A.h6 r.1.2.2.2.2.1/\A.h6 r.1.2.2.2.2.2.1/\A.h6 r.1.2.2.2.2.2.2.1/\A.h6 r.1.2.2.2.2.2.2.2/\A.h6 r.2):=by
 refine Jv Tryz.func140 rfl Tryz.ntmps140 rfl fun w0 z=>?_;rw[F.cQ]at u;refine J0 1 ?_;refine Jy 0 (cs:=l4b) Tryz.zeroValue206 fun B=>?_;refine J7 1 [] 2 ?_;refine V9 3 [(4,A.i o),(6,.agg #[A.i 0,A.i o,A.i 0,A.i 0,A.i 0,A.i 0,A.i 0,A.i 0])] (Vx 1 [] u (o_ac o 0 4 (0,o,0,0,(0,0,0,0)) y J3 (Vp 4) J3 y J3 J3 J3 J3 J3 J3) .nil ?_);rintro s - u _ _ ⟨rfl,rfl,hr4,hr5,hr6,hr7,hr8,hr9,hr10,hr11,hr12⟩;refine J9 (V9 2 [(8,(A.rag s.1)),(9,A.i s.2)] (Vg 0 [] (A.rac s.1) ?_));refine Vc 1 [(3,A.i s.2)] 1 ?_;obtain rfl:=Vf u;exact Ug [] (.tuple #[(A.rag s.1),A.i s.2]) (fun a w hf hh=>U2 rfl (Ut hf rfl Tryz.isAgg206 Tryz.sizeOf206 (Vq hh 0) rfl) (Ux hf rfl)) (⟨rfl,rfl,hr4,hr5,hr6,hr7,hr8,hr9,hr10,hr11,hr12⟩)
def F.cJ (o:Int):Option (D205×Int):=(F.cd o 0 3 (0,o,0,1,(0,0,0,0))).bind fun s=>(some s)
theorem o_bH (o:Int)(y:A.h6 o)(r:D205×Int)(u:F.cJ o=some r):
    A.Ct Tryz.prog 165 [A.i o] [] [] (fun v H'=>v=.tuple #[(A.rag r.1),A.i r.2]/\H'=[]/\A.h6 r.1.1/\A.h6 r.1.2.1/\A.h6 r.1.2.2.1/\A.h6 r.1.2.2.2.1/\A.h6 r.1.2.2.2.2.1/\A.h6 r.1.2.2.2.2.2.1/\A.h6 r.1.2.2.2.2.2.2.1/\A.h6 r.1.2.2.2.2.2.2.2/\A.h6 r.2):=by
 refine Jv Tryz.func165 rfl Tryz.ntmps165 rfl fun w0 z=>?_;rw[F.cJ]at u;refine J0 1 ?_;refine Jy 0 (cs:=l4b) Tryz.zeroValue206 fun B=>?_;refine J7 1 [] 2 ?_;refine V9 3 [(4,A.i o),(6,.agg #[A.i 0,A.i o,A.i 0,A.i 1,A.i 0,A.i 0,A.i 0,A.i 0])] (Vx 1 [] u (o_ac o 0 3 (0,o,0,1,(0,0,0,0)) y J3 (Vp 3) J3 y J3 (Vp 1) J3 J3 J3 J3) .nil ?_);rintro s - u _ _ ⟨rfl,rfl,hr4,hr5,hr6,hr7,hr8,hr9,hr10,hr11,hr12⟩;refine J9 (V9 2 [(8,(A.rag s.1)),(9,A.i s.2)] (Vg 0 [] (A.rac s.1) ?_));refine Vc 1 [(3,A.i s.2)] 1 ?_;obtain rfl:=Vf u;exact Ug [] (.tuple #[(A.rag s.1),A.i s.2]) (fun a w hf hh=>U2 rfl (Ut hf rfl Tryz.isAgg206 Tryz.sizeOf206 (Vq hh 0) rfl) (Ux hf rfl)) (⟨rfl,rfl,hr4,hr5,hr6,hr7,hr8,hr9,hr10,hr11,hr12⟩)
def F.cK (o:Int):Option (D205×Int):=A.gd (Z.R64 (o-1)) ((F.cd o 1 4 (0,o-1,0,0,(0,0,0,0))).bind fun s=>(some s))
theorem o_bI (o:Int)(z:A.h6 o)(r:D205×Int)(s:F.cK o=some r):
    A.Ct Tryz.prog 166 [A.i o] [] [] (fun v H'=>v=.tuple #[(A.rag r.1),A.i r.2]/\H'=[]/\A.h6 r.1.1/\A.h6 r.1.2.1/\A.h6 r.1.2.2.1/\A.h6 r.1.2.2.2.1/\A.h6 r.1.2.2.2.2.1/\A.h6 r.1.2.2.2.2.2.1/\A.h6 r.1.2.2.2.2.2.2.1/\A.h6 r.1.2.2.2.2.2.2.2/\A.h6 r.2):=by
 refine Jv Tryz.func166 rfl Tryz.ntmps166 rfl fun w0 B=>?_;rw[F.cK]at s;refine J0 1 ?_;refine Jy 0 (cs:=l4b) Tryz.zeroValue206 fun J=>?_;refine J7 1 [] 2 ?_;have⟨y,s⟩:=Vs s;refine Uf 4 [Z.R64 (o-1)] [(4,A.i o),(7,.agg #[A.i 0,A.i (o-1),A.i 0,A.i 0,A.i 0,A.i 0,A.i 0,A.i 0])] y ?_;refine Vx 1 [] s (o_ac o 1 4 (0,o-1,0,0,(0,0,0,0)) z (Vp 1) (Vp 4) J3 (Jw y) J3 J3 J3 J3 J3 J3) .nil ?_;rintro u - s _ _ ⟨rfl,rfl,hr5,hr6,hr7,hr8,hr9,hr10,hr11,hr12,hr13⟩;refine J9 (V9 2 [(9,(A.rag u.1)),(10,A.i u.2)] (Vg 0 [] (A.rac u.1) ?_));refine Vc 1 [(3,A.i u.2)] 1 ?_;obtain rfl:=Vf s;exact Ug [] (.tuple #[(A.rag u.1),A.i u.2]) (fun a w hf hh=>U2 rfl (Ut hf rfl Tryz.isAgg206 Tryz.sizeOf206 (Vq hh 0) rfl) (Ux hf rfl)) (⟨rfl,rfl,hr5,hr6,hr7,hr8,hr9,hr10,hr11,hr12,hr13⟩)
def F.cO (o:Int):Option (D205×Int):=(F.cd o 1 4 (0,o,1,0,(0,0,0,0))).bind fun s=>(some s)
theorem o_b5 (o:Int)(y:A.h6 o)(r:D205×Int)(u:F.cO o=some r):
    A.Ct Tryz.prog 167 [A.i o] [] [] (fun v H'=>v=.tuple #[(A.rag r.1),A.i r.2]/\H'=[]/\A.h6 r.1.1/\A.h6 r.1.2.1/\A.h6 r.1.2.2.1/\A.h6 r.1.2.2.2.1/\A.h6 r.1.2.2.2.2.1/\A.h6 r.1.2.2.2.2.2.1/\A.h6 r.1.2.2.2.2.2.2.1/\A.h6 r.1.2.2.2.2.2.2.2/\A.h6 r.2):=by
 refine Jv Tryz.func167 rfl Tryz.ntmps167 rfl fun w0 z=>?_;rw[F.cO]at u;refine J0 1 ?_;refine Jy 0 (cs:=l4b) Tryz.zeroValue206 fun B=>?_;refine J7 1 [] 2 ?_;refine V9 3 [(4,A.i o),(6,.agg #[A.i 0,A.i o,A.i 1,A.i 0,A.i 0,A.i 0,A.i 0,A.i 0])] (Vx 1 [] u (o_ac o 1 4 (0,o,1,0,(0,0,0,0)) y (Vp 1) (Vp 4) J3 y (Vp 1) J3 J3 J3 J3 J3) .nil ?_);rintro s - u _ _ ⟨rfl,rfl,hr4,hr5,hr6,hr7,hr8,hr9,hr10,hr11,hr12⟩;refine J9 (V9 2 [(8,(A.rag s.1)),(9,A.i s.2)] (Vg 0 [] (A.rac s.1) ?_));refine Vc 1 [(3,A.i s.2)] 1 ?_;obtain rfl:=Vf u;exact Ug [] (.tuple #[(A.rag s.1),A.i s.2]) (fun a w hf hh=>U2 rfl (Ut hf rfl Tryz.isAgg206 Tryz.sizeOf206 (Vq hh 0) rfl) (Ux hf rfl)) (⟨rfl,rfl,hr4,hr5,hr6,hr7,hr8,hr9,hr10,hr11,hr12⟩)
end Go.Proofs.YtlbdgahbamalcaaGreatDoor
end
