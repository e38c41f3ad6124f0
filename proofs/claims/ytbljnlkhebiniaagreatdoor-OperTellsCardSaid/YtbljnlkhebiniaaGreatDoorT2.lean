/- A layer over the small logic, continued: pointers that may be none, as rows of at most one. No program in sight. * A call never takes back what it has drawn from the tape. No program in sight. * A layer over the small logic, continued: slices.SortFunc of a row of data without rows, by the library's contract. No program in sight. * A layer over the small logic, continued: numbers that stay in their range; strings in their order. No program in sight. * How slices.SortFunc lies in the program. * A layer over the small logic, continued: where a law's walk begins. No program in sight. * A layer over the small logic, continued: strings.Contains by the library's contract; a variable of the library that is never looked behind. No program in sight. * strings.Contains by the library's contract. * Functions on data, and that the code computes them. * A layer over the small logic, continued: texts put together, texts as bytes, bytes and runes as texts. No program in sight. * A layer over the small logic, continued: array variables as rows of their own. No program in sight. * A layer over the small logic, continued: arrays in memory: writes at an index that varies, slices of them, their bytes as a text. No program in sight. -/
import Derived.Test.YtbljnlkhebiniaaGreatDoorT1
import Derived.Calls
import GoSem.Step
import Derived.Shelf.SlSortCmp.NoneTotal
import Derived.Lib.TrimU
import Derived.Shelf.Small.Strs
import Derived.Test.YtbljnlkhebiniaaGreatDoorT0
import Derived.Shelf.Strings.Search3
import Derived.Laws.IdiomStrings
import Derived.Laws.Cover4
section
set_option linter.unusedVariables false
set_option linter.unusedSimpArgs false
namespace Go.Z
open Go.RowKit
section
variable {r:Option Nat}{P:Program}{ops:Array Oper}{Q:Exit→Act→World→Prop}{a:Act}{w:World}{rest:List Oper}{n:Nat}{ds:List Deferred}{l:List (Nat×Value)}{d:Nat}{T:TypeId}{pos:String}{af:Array Edge}
end
end Go.Z
namespace Go.A
open Go.RowKit Go.Z
section
variable {P:Program}{a:Act}{w:World}{d:Option Tmp}{T tt ty e:TypeId}{pos:String}{af:Array Edge}{n:Nat}{ds:List Deferred}{l:List (Nat×Value)}{x y:Operand}{A:Option Addr}
end
section
variable {C:Cx}{l:List (Nat×Value)}{H:List (Nat×Res)}{X:Act→World→Prop}
end
section
variable {r:Option Nat}{P:Program}{ops:Array Oper}{Q:Exit→Act→World→Prop}{rest lst:List Oper}{C:Cx}{l:List (Nat×Value)}{H:List (Nat×Res)}{d:Nat}{T:TypeId}{pos:String}{af:Array Edge}
end
section
variable {r:Option Nat}{P:Program}{ops:Array Oper}{Q:Exit→Act→World→Prop}{rest lst:List Oper}{C:Cx}{l:List (Nat×Value)}{H:List (Nat×Res)}{d:Nat}{T:TypeId}{pos:String}{af:Array Edge}
end
end Go.A
end
section
set_option linter.unusedVariables false
set_option linter.tactic.unusedName false
namespace Go.Dr
open Go
def R {α:Type}(n:Nat):Result α→Prop
 | .ok _ w=>n≤w.drawn
 | .halt _ w=>n≤w.drawn
theorem ask {α:Type}: ∀(a:Ask α) (w:World),w.drawn≤(w.ask a).2.drawn
 | .done a,w=>Nat.le_refl _
 | .ask what range k,w=>by
  unfold World.ask
  dsimp only
  split
  ·exact ask _ w
  ·exact Nat.le_trans (Nat.le_succ _) (ask _ {w with drawn:=w.drawn+1})
theorem sys (w:World)(c:Sys):w.drawn≤(w.sys c).2.drawn:=by
 unfold World.sys
 have h:=ask (Kernel.perform c w.os) w
 split
 ·exact Nat.le_refl _
 ·rename_i e;rw[e]at h;exact h
def EP {ε α:Type}(P:α→Prop)(x:Except ε α):Prop:=∀a,x=.ok a→P a
theorem eb {ε α β:Type}{P:β→Prop}{x:Except ε α}{f:α→Except ε β}(h: ∀a,EP P (f a)):EP P (x >>= f):=fun b hb=>by
 cases x with
 |error e=>cases hb
 |ok a=>exact h a b hb
theorem et {α:Type}{P:α→Prop}{e:String}:EP P (MonadExcept.throw e:Except String α):=fun _ h=>by cases h
theorem ep {ε α:Type}{P:α→Prop}{a:α}(h:P a):EP P (pure a:Except ε α):=fun b hb=>by injection hb with hb;subst hb;exact h
theorem vs0 (w:World)(p:Program)(at_:Addr)(u:TypeId)(a:Addr)(v:Value)(b:Bool):EP (fun r=>r.1.drawn=w.drawn) (w.viewStore p at_ u a v b):=by
 unfold World.viewStore
 dsimp only
 repeat' first|exact et|exact ep rfl|(refine eb fun _=>?_)|split|dsimp only
theorem vs {w w':World}{p:Program}{at_:Addr}{u:TypeId}{a:Addr}{v:Value}{b:Bool}{l:List Addr}(h:w.viewStore p at_ u a v b=.ok (w',l)):w'.drawn=w.drawn:=vs0 w p at_ u a v b _ h
theorem fs {w w':World}{p:Program}{a:Addr}{v:Value}{b:Bool}{l:List Addr}(h:w.farStore p a v b=.ok (w',l)):w'.drawn=w.drawn:=by
 unfold World.farStore at h
 split at h
 ·split at h
  ·rename_i e;injection h with h;subst h;exact vs e
  ·cases h
 ·cases h
theorem run {α:Type}(p:Program)(n:Nat): ∀(s:Sem α) (w:World),n≤w.drawn→R n (s.run p w):=by
 intro s
 induction s with
 |pure a=>intro w h;exact h
 |load m a k ih=>
  intro w h;unfold Sem.run
  split
  ·exact ih _ w h
  ·(split)
   ·exact ih _ w h
   ·exact h
 |store m a v k ih=>
  intro w h
  cases v
  all_goals
   unfold Sem.run
   first|exact h|skip
  all_goals
   split
   ·(split)
    ·exact h
    ·exact ih _ h
   ·(split)
    ·rename_i e;exact ih _ (by rw[fs e];exact h)
    ·exact h
 |choose q k ih=>
  intro w h;unfold Sem.run
  split
  ·exact ih _ w h
  ·exact ih _ _ (Nat.le_succ_of_le h)
 |sys c k ih=>intro w h;unfold Sem.run;exact ih _ _ (Nat.le_trans h (sys w c))
 |new o k ih=>intro w h;unfold Sem.run;exact ih _ _ h
 |shape r k ih=>intro w h;unfold Sem.run;exact ih _ _ h
 |freeze a n k ih=>intro w h;unfold Sem.run;refine ih _ ?_;unfold World.freeze;((repeat' split)<;>(exact h))
 |frozen a k ih=>intro w h;unfold Sem.run;exact ih _ _ h
 |getObj r k ih=>intro w h;unfold Sem.run;((repeat' split)<;>(first|exact h|exact ih _ _ h))
 |setObj r o k ih=>intro w h;unfold Sem.run;((repeat' split)<;>(first|exact h|exact ih _ h))
 |program k ih=>intro w h;unfold Sem.run;exact ih _ _ h
 |mark m k ih=>intro w h;unfold Sem.run;exact ih _ h
 |halt x=>intro w h;exact h
theorem runT {α:Type}(p:Program)(n:Nat)(s:Sem α)(w:World)(es:Array Event)(h:n≤w.drawn):R n (s.runT p w es).1:=by
 induction s generalizing w es with
 |pure a=>exact h
 |halt x=>exact h
 |choose q k ih=>
  unfold Sem.runT
  split
  ·exact ih _ w _ h
  ·exact ih _ _ _ (Nat.le_succ_of_le h)
 |sys c k ih=>unfold Sem.runT;exact ih _ _ _ (Nat.le_trans h (sys w c))
 |freeze a n k ih=>unfold Sem.runT;refine ih _ _ ?_;unfold World.freeze;((repeat' split)<;>(exact h))
 |store m a v k ih=>
  cases v
  all_goals
   unfold Sem.runT
   first|exact h|skip
  all_goals
   split
   ·(split)
    ·exact h
    ·exact ih _ _ h
   ·(split)
    ·rename_i e;exact ih _ _ (by rw[fs e];exact h)
    ·exact h
 |_=>
  unfold Sem.runT
  repeat' split
  all_goals first|exact h|(rename_i ih;exact ih _ _ _ h)|(rename_i ih;exact ih _ _ h)|(rename_i ih _;exact ih _ _ _ h)|(rename_i ih _;exact ih _ _ h)|(rename_i ih _ _;exact ih _ _ _ h)|(rename_i ih _ _;exact ih _ _ h)|(rename_i ih _ _ _;exact ih _ _ _ h)|(rename_i ih _ _ _;exact ih _ _ h)|(rename_i ih _ _ _ _;exact ih _ _ _ h)|(rename_i ih _ _ _ _;exact ih _ _ h)|(rename_i ih _ _ _ _ _;exact ih _ _ _ h)|(rename_i ih _ _ _ _ _ _;exact ih _ _ _ h)
def G (n:Nat):GStep→Prop
 | .go _ w _| .comm _ _ _ _ w _| .spawn _ _ w _| .count _ w _| .timer _ _ w _| .alone _ _ w _| .newcoro _ _ _ w _| .coroswitch _ _ _ w _| .collect _ w _| .watch _ w _=>n≤w.drawn
 | .ended _ _ _=>True
theorem after {n:Nat}{es:Array Event}{g:GStep}(h:G n g):G n (g.after es):=by cases g<;>exact h
variable {p:Program}{n:Nat}{w:World}
theorem ro {α:Type}{s:Sem α}{v:α}{w':World}(e:s.run p w=.ok v w')(h:n≤w.drawn):n≤w'.drawn:=by have:=run p n s w h;rw[e]at this;exact this
theorem rh {α:Type}{s:Sem α}{v:Halt}{w':World}(e:s.run p w=.halt v w')(h:n≤w.drawn):n≤w'.drawn:=by have:=run p n s w h;rw[e]at this;exact this
theorem gi {c:Prop}[Decidable c]{a b:GStep}(ha:G n a)(hb:G n b):G n (if c then a else b):=by split<;>assumption
theorem rto {α:Type}{s:Sem α}{v:α}{w':World}{es es':Array Event}(e:s.runT p w es=(.ok v w',es'))(h:n≤w.drawn):n≤w'.drawn:=by have:=runT p n s w es h;rw[e]at this;exact this
theorem rtr {α:Type}{s:Sem α}{r:Result α}{es es':Array Event}(e:s.runT p w es=(r,es'))(h:n≤w.drawn):R n r:=by have:=runT p n s w es h;rw[e]at this;exact this
theorem rth {α:Type}{s:Sem α}{v:Halt}{w':World}{es es':Array Event}(e:s.runT p w es=(.halt v w',es'))(h:n≤w.drawn):n≤w'.drawn:=by have:=runT p n s w es h;rw[e]at this;exact this
theorem endThrow (fr:Frame)(m:String)(h:n≤w.drawn):G n (Go.endThrow fr m w):=h
theorem endPrinting (fr:Frame)(v:Value)(h:n≤w.drawn):G n (Go.endPrinting p fr v w):=by
 unfold Go.endPrinting;dsimp only;split
 ·exact h
 ·trivial
theorem endWith (fd:Nat)(t:ByteArray)(o:Outcome):G n (Go.endWith w fd t o):=by
 unfold Go.endWith;dsimp only;((repeat' split)<;>(trivial))
theorem endFatal (fr:Frame)(cs:List Frame)(d:Option Dying)(m:String)(h:n≤w.drawn):G n (Go.endFatal p fr cs d m w):=by
 unfold Go.endFatal;extract_lets
 split
 ·rename_i e;exact ro e h
 ·trivial
 ·trivial
theorem writeOn (fr:Frame)(d:Dying)(f:Fatal)(h:n≤w.drawn):G n (Go.writeOn p fr d f w):=by
 unfold Go.writeOn;extract_lets
 split
 ·trivial
 ·extract_lets
  split
  all_goals first|trivial|(rename_i e;exact rto e h)|(rename_i e;exact rth e h)
theorem die (fr:Frame)(d:Dying)(h:n≤w.drawn):G n (Go.die p fr d w):=by
 unfold Go.die
 split
 ·exact writeOn _ _ _ h
 ·(split)
  ·(split)
   ·exact h
   ·exact endWith _ _ _
  ·extract_lets d2
   split
   ·exact h
   ·(split)
    ·rename_i e;exact ro e h
    ·trivial
   ·rename_i t recv name _
    have hr:=runT p n (invoke (.fn (.method name) #[]) #[.iface t recv]) w #[] h
    split
    rename_i r es e
    rw[e]at hr
    refine after ?_
    split
    all_goals first|trivial|exact hr|exact endPrinting _ _ hr
   ·trivial
theorem doReturn (main:Bool)(fr:Frame)(cs:List Frame)(d:Option Dying)(v:Value)(h:n≤w.drawn):G n (Go.doReturn p main fr cs d v w):=by
 unfold Go.doReturn
 repeat' split
 all_goals first|trivial|exact h
theorem callDeferred (fr:Frame)(cs:List Frame)(dy:Option Dying)(d:Deferred)(h:n≤w.drawn):G n (Go.callDeferred p fr cs dy d w):=by
 unfold Go.callDeferred
 refine gi trivial ?_
 ·have hr:=runT p n (invoke d.target d.args) w #[] h
  split
  rename_i r es e
  rw[e]at hr
  extract_lets
  refine after ?_
  split
  all_goals first|trivial|exact hr|exact endFatal _ _ _ _ hr|exact endThrow _ _ hr|(split<;>first|trivial|exact hr)
theorem unwind (main:Bool)(fr:Frame)(cs:List Frame)(dy:Option Dying)(h:n≤w.drawn):G n (Go.unwind p main fr cs dy w):=by
 unfold Go.unwind
 split
 ·rename_i block _ _ _
  have hr:=runT p n (Instr.takeDeferred block) w #[] h
  split
  rename_i r es e
  rw[e]at hr
  refine after ?_
  split
  ·exact hr
  ·trivial
 ·exact callDeferred _ _ _ _ h
 ·(split)
  ·trivial
  ·(split)
   ·trivial
   ·(split)
    ·exact h
    ·(split)
     ·(split)
      ·exact h
      ·(split)
       ·rename_i e;exact ro e h
       ·trivial
       ·trivial
     ·(split)
      ·exact endPrinting _ _ h
      ·trivial
  ·(split)
   ·exact doReturn _ _ _ _ _ h
   ·rename_i fn _
    have hr:=runT p n (results fn fr.tmps) w #[] h
    split
    rename_i r es e
    rw[e]at hr
    refine after ?_
    split
    ·exact doReturn _ _ _ _ _ hr
    ·trivial
    ·trivial
theorem early (fr:Frame)(cs:List Frame)(dy:Option Dying)(g:Nat)(h:n≤w.drawn):G n (Go.early p fr cs dy g w):=by
 unfold Go.early;extract_lets refuse notYet
 have hn: ∀w:World,n≤w.drawn→G n (notYet w):=fun w h=>by
  show G n (match w.heap[g]? with|some (.pending c elem)=>_|_=>_)
  split
  ·exact h
  ·trivial
 split
 ·exact hn w h
 ·(split)
  ·trivial
  ·extract_lets there
   have ht: ∀w:World,n≤w.drawn→G n (there w):=fun w h=>h
   repeat' split
   all_goals first|trivial|exact hn w h|exact ht w h|(rename_i e;exact hn _ (ro e h))|(rename_i e;exact ht _ (ro e h))|(rename_i e _;exact ht _ (ro e h))|(rename_i _ e;exact ht _ (ro e h))
theorem oe {α:Type}{o:Option α}{a:GStep}{f:α→GStep}(ha:G n a)(hf: ∀x,G n (f x)):G n (o.elim a f):=by cases o with
 |none=>exact ha
 |some x=>exact hf x
theorem app (listen:Bool)(fr:Frame)(cs:List Frame)(dy:Option Dying)(s:Sem Next)(h:n≤w.drawn):G n (Go.stepG.apply p listen fr cs dy s w):=by
 unfold Go.stepG.apply
 extract_lets
 have hr:R n (if listen=true then s.runT p w #[]else(s.run p w,#[])).1:=by
  split
  ·exact runT p n s w #[] h
  ·exact run p n s w h
 split
 rename_i r es e
 rw[e]at hr
 extract_lets
 refine after ?_
 split
 all_goals first|trivial|exact hr|exact endFatal _ _ _ _ hr|exact endThrow _ _ hr|exact early _ _ _ _ hr|(split<;>first|trivial|exact hr|(exact gi (endThrow _ _ hr) hr))|exact gi (endThrow _ _ hr) hr
theorem oper (listen:Bool)(fr:Frame)(cs:List Frame)(dy:Option Dying)(h:n≤w.drawn):G n (Go.stepG.oper p listen fr cs dy w):=by
 unfold Go.stepG.oper
 repeat' split
 all_goals first|trivial|exact app _ _ _ _ _ h
theorem exec (main listen:Bool)(fr:Frame)(cs:List Frame)(dy:Option Dying)(h:n≤w.drawn):G n (Go.stepG.exec p main listen fr cs dy w):=by
 unfold Go.stepG.exec
 extract_lets go tgo lost leave
 have hgo: ∀fr w,n≤w.drawn→G n (go fr w):=fun _ _ h=>h
 have hto: ∀k,G n (tgo k):=fun k=>h
 have hlost: ∀k,G n (lost k):=fun k=>trivial
 have hleave: ∀j,G n (leave j):=fun j=>by
  unfold leave
  split
  ·refine gi h trivial
  ·(split)
   rename_i r es e
   have hr:=rtr e h
   refine after ?_
   split
   ·exact doReturn _ _ _ _ _ hr
   ·trivial
 split
 case h_1=>exact hleave none
 case h_2=>exact hleave (some .ret)
 case h_13=>exact oe (hleave (some (.exit _))) hto
 case h_14=>exact oe (hleave (some (.goto _))) hto
 all_goals first
  |exact hto _|trivial|exact app _ _ _ _ _ h|exact hlost _
  |(split<;>first|exact hto _|exact hlost _)
  |(refine gi (hto _) ?_;split<;>first|trivial|(rename_i e;exact ro e h))
  |(refine gi (oper _ _ _ _ h) ?_;exact h)
  |exact oe (hlost _) fun _=>app _ _ _ _ _ h
  |(split;rename_i r es e;have hr:=rtr e h;refine after ?_;split<;>first|trivial|exact hr|exact app _ _ _ _ _ hr)
theorem stepG (main listen:Bool)(g:Goroutine)(h:n≤w.drawn):G n (Go.stepG p main g w listen):=by
 unfold Go.stepG
 split
 split
 ·exact die _ _ h
 ·exact exec _ _ _ _ _ h
 ·exact unwind _ _ _ _ h
def S (n:Nat):Stepped→Prop
 | .next m=>n≤m.world.drawn
 | .ended _ _=>True
theorem si {c:Prop}[Decidable c]{a b:Stepped}(ha:S n a)(hb:S n b):S n (if c then a else b):=by split<;>assumption
theorem si1 {α:Type}{c:Prop}[Decidable c]{a b:Stepped×α}(ha:S n a.1)(hb:S n b.1):S n (if c then a else b).1:=by split<;>assumption
theorem waitingAt {rest:Rest}{cs:Array CommCase}{w w':World}(h:Go.waitingAt rest cs w=some w'):w'.drawn=w.drawn:=by
 unfold Go.waitingAt at h
 split at h
 ·split at h
  ·injection h with h;subst h;rfl
  ·cases h
 ·injection h with h;subst h;rfl
theorem comm (rest:Rest)(gs:Array Goroutine)(i:Nat)(g:Goroutine)(cases:Array CommCase)(b:Bool)(sh:CommShape)(h:n≤w.drawn):S n (communicate p rest gs i g cases b sh w).1:=by
 unfold communicate
 extract_lets put
 refine si1 trivial ?_
 extract_lets ready
 refine si1 ?_ ?_
 ·refine si1 ?_ h
  split
  ·rename_i e;show n≤World.drawn _;rw[waitingAt e];exact h
  ·trivial
 ·extract_lets pick
  split
  ·trivial
  ·rename_i e
   have h2:=ro e h
   extract_lets r
   split
   ·(split)
    ·rename_i e2;exact rh e2 h2
    ·trivial
   ·exact h2
   ·exact h2
   ·extract_lets v buf
    split
    ·exact h2
    ·(split)
     ·rename_i e3;have h4:=ro e3 h2;exact h4
     ·trivial
   ·exact h2
   ·exact h2
   ·trivial
theorem look (gs:Array Goroutine)(rest:Rest)(h:n≤w.drawn):S n (Go.look p gs rest w):=by
 unfold Go.look
 split
 ·(split)
  extract_lets
  refine si trivial ?_
  extract_lets
  split
  ·trivial
  ·extract_lets
   split
   ·rename_i e;have h4:=ro e h;exact h4
   ·trivial
   ·trivial
 ·trivial
theorem drain (w:World)(c:Nat):(Go.drain w c).2.drawn=w.drawn:=by
 unfold Go.drain;split<;>rfl
theorem retime (m:Machine)(k:Nat)(t:Timer)(a b:Nat):(Go.retime m k t a b).2.world.drawn=m.world.drawn:=by
 unfold Go.retime
 split
 rename_i e
 split at e
 ·rename_i c _
  have:=drain m.world c
  rw[e]at this;exact this
 ·injection e with _ e;subst e;rfl
theorem named (m:Machine)(v:Addr)(f:Nat→Timer→Value×Machine){d:Nat}(hf: ∀k t,(f k t).2.world.drawn=d){r:Value×Machine}(e:timerOp.named m v f=.ok r):r.2.world.drawn=d:=by
 unfold timerOp.named at e
 split at e
 ·injection e with e;subst e;exact hf _ _
 ·cases e
theorem opened {m m':Machine}{v:Addr}(e:timerOp.opened m v=some m'):m'.world.drawn=m.world.drawn:=by
 unfold timerOp.opened at e
 split at e
 ·split at e
  ·injection e with e;subst e;rfl
  ·cases e
 ·injection e with e;subst e;rfl
theorem timer (m:Machine)(op:TimerOp){r:Value×Machine}(e:timerOp m op=.ok r):r.2.world.drawn=m.world.drawn:=by
 unfold timerOp at e
 split at e
 ·split at e
  ·injection e with e;subst e;rfl
  ·split at e
   ·split at e
    ·cases e
    ·injection e with e;subst e;rfl
   ·cases e
 ·exact named _ _ _ (fun _ _=>retime _ _ _ _ _) e
 ·split at e
  ·rename_i m1 e1
   exact(named _ _ _ (fun _ _=>retime _ _ _ _ _) e).trans (opened e1)
  ·cases e
 ·injection e with e;subst e;rfl
theorem commr {rest:Rest}{gs:Array Goroutine}{i:Nat}{g:Goroutine}{cases:Array CommCase}{b:Bool}{sh:CommShape}{r:Stepped}{ops:Array MemOp}(e:communicate p rest gs i g cases b sh w=(r,ops))(h:n≤w.drawn):S n r:=by have:=comm (p:=p) rest gs i g cases b sh h;rw[e]at this;exact this
theorem et1 {fr:Frame}{m:String}{g:GStep}(e:Go.endThrow fr m w=g)(h:n≤w.drawn):G n g:=e▸endThrow fr m h
theorem runM (m:Machine)(i:Nat)(listen:Bool)(h:n≤m.world.drawn):S n (Go.runT p m i listen).1:=by
 unfold Go.runT
 extract_lets rest world
 split
 extract_lets wake fn pos s ops done
 have hd: ∀r,(done r).1=r:=fun _=>rfl
 have hs:G n s:=stepG _ _ _ h
 clear_value s
 split
 ·trivial
 ·(split)
  rename_i e
  exact commr e hs
 all_goals first|exact hs|exact si trivial hs|exact look _ _ hs|skip
 ·rw[hd]
  split
  ·exact hs
  ·(split)
   ·rename_i e;exact et1 e hs
   ·trivial
  ·trivial
 ·rw[hd]
  split
  ·rename_i e;have h2:=timer _ _ e;exact Nat.le_trans hs (Nat.le_of_eq h2.symm)
  ·(split)
   ·rename_i e;exact et1 e hs
   ·trivial
  ·trivial
  ·trivial
theorem serve (m:Machine)(k:Nat)(h:n≤m.world.drawn):S n (Go.serve p m k):=by
 unfold Go.serve
 split
 ·trivial
 ·exact h
 ·extract_lets
  split
  ·trivial
  ·exact h
def M (n:Nat):Move→Prop
 | .goroutine m _=>n≤m.world.drawn
 | .machine s _=>S n s
theorem askOn (m:Machine)(h:n≤m.world.drawn):M n (Go.askOn p m):=by
 unfold Go.askOn
 extract_lets mono rs ds pick
 have hp: ∀m:Machine,n≤m.world.drawn→M n (pick m):=fun m h=>by
  simp only[pick]
  split
  ·trivial
  ·rename_i e;have h2:=ro e h
   split
   ·exact h2
   ·(split)
    ·trivial
    ·rename_i e2;exact ro e2 h2
 clear_value pick
 split
 ·trivial
 ·rename_i e;have h2:=ro e h
  extract_lets m2
  clear_value rs
  split
  ·exact serve _ _ h2
  ·cases rs with
   |nil=>
    dsimp only
    split
    ·exact h2
    ·(split)
     ·exact h2
     ·split<;>trivial
   |cons a l=>
    dsimp only
    split
    ·exact hp _ h2
    ·(split)
     ·trivial
     ·rename_i e3;exact hp _ (ro e3 h2)
     ·rename_i e3;have h4:=ro e3 h2;exact h4
     ·rename_i e3;have h4:=ro e3 h2;exact hp _ h4
theorem ask2 (m:Machine)(h:n≤m.world.drawn):M n (Go.ask p m):=by
 unfold Go.ask
 split
 ·(split)
  ·trivial
  ·rename_i e;have h2:=look (p:=p) m.gs m.rest (ro e h)
   split
   ·rename_i e2;rw[e2]at h2;exact askOn _ h2
   ·exact h2
  ·rename_i e;exact askOn _ (ro e h)
 ·exact askOn _ h
theorem move (m:Machine)(h:n≤m.world.drawn):M n (Go.move p m):=by
 unfold Go.move
 split
 ·(split)
  ·exact h
  ·trivial
 ·(split)
  ·(split)
   ·exact h
   ·exact ask2 _ h
  ·exact ask2 _ h
theorem step (m:Machine)(h:n≤m.world.drawn):S n (Go.step p m):=by
 unfold Go.step stepT
 have:=move (p:=p) m h
 split
 ·rename_i e;rw[e]at this;exact runM _ _ _ this
 ·rename_i e;rw[e]at this;exact this
theorem runN: ∀(k:Nat) (m m':Machine),Go.runN p k m=.next m'→n≤m.world.drawn→n≤m'.world.drawn
 |0,m,m',e,h=>by injection e with e;subst e;exact h
 |k+1,m,m',e,h=>by
  have h1:=step (p:=p) m h
  unfold Go.runN at e
  split at e
  ·rename_i e1;rw[e1]at h1;exact runN k _ _ e h1
  ·rename_i h2;exact absurd e (h2 _)
theorem steps {m m':Machine}(h:Steps p m m'):m.world.drawn≤m'.world.drawn:=by
 obtain⟨k,hk⟩:=h
 exact runN k m m' hk (Nat.le_refl _)
theorem calls {f:FuncId}{args:Array Value}{w:World}{Q:Ending→World→Prop}(h:Calls p f args w Q):Calls p f args w fun e w'=>Q e w'∧∀v,e=.returned v→w.drawn≤w'.drawn:=fun cs=>by
 obtain⟨e,w',fr,hq,hc,hf,hl⟩:=h cs
 refine⟨e,w',fr,⟨hq,fun v hv=>?_⟩,hc,hf,hl⟩
 subst hv
 exact steps hc
end Go.Dr
end
section
set_option linter.unusedVariables false
set_option linter.unusedSimpArgs false
namespace Go.A
open Go.RowKit Go.Z Go.Shelf Go.Proofs Go.Sort
section
variable {α:Type}
def cl0 (cmp:α→α→Option Int)(x y:α):Bool:=match cmp x y with
 |some c=>decide (c<0)
 |none=>false
def srtI (lt:α→α→Bool)(x:α):List α→List α
 | []=>[x]
 |y::l=>bif lt y x then y::srtI lt x l else x::y::l
def srtL (lt:α→α→Bool):List α→List α
 | []=>[]
 |x::l=>srtI lt x (srtL lt l)
def ordB [DecidableEq α](cmp:α→α→Option Int)(xs:List α):Bool:=xs.all fun x=>xs.all fun y=>(cmp x y).isSome&&(bif cl0 cmp x y then !cl0 cmp y x else cl0 cmp y x||decide (x=y))&&xs.all fun z=> !(cl0 cmp x y&&cl0 cmp y z)||cl0 cmp x z
def srtF [DecidableEq α](cmp:α→α→Option Int)(xs:List α):Option (List α):=if ordB cmp xs=true then some (srtL (cl0 cmp) xs)else none
structure OrdOn (lt:α→α→Bool) (X:List α):Prop where
 asym: ∀x∈X,∀y∈X,lt x y=true→lt y x=false
 tri: ∀x∈X,∀y∈X,lt x y=false→lt y x=false→x=y
 trans: ∀x∈X,∀y∈X,∀z∈X,lt x y=true→lt y z=true→lt x z=true
theorem OrdOn.nt {lt:α→α→Bool}{X:List α}(O:OrdOn lt X){x y z:α}(hx:x∈X)(hy:y∈X)(hz:z∈X)(h1:lt x y=false)(h2:lt y z=false):lt x z=false:=by
 cases h3:lt x z with
 |false=>rfl
 |true=>
  cases h4:lt y x with
  |true=>rw[O.trans y hy x hx z hz h4 h3]at h2;cases h2
  |false=>
   have:=O.tri x hx y hy h1 h4
   subst this;rw[h3]at h2;cases h2
theorem ordB_on [DecidableEq α]{cmp:α→α→Option Int}{xs:List α}(h:ordB cmp xs=true):OrdOn (cl0 cmp) xs∧∀x∈xs,∀y∈xs,∃c,cmp x y=some c:=by
 unfold ordB at h
 have key: ∀x∈xs,∀y∈xs,((cmp x y).isSome=true∧(bif cl0 cmp x y then !cl0 cmp y x else cl0 cmp y x||decide (x=y))=true)∧∀z∈xs,(!(cl0 cmp x y&&cl0 cmp y z)||cl0 cmp x z)=true:=fun x hx y hy=>by
  have:=List.all_eq_true.1 (List.all_eq_true.1 h x hx) y hy
  rw[Bool.and_eq_true,Bool.and_eq_true,List.all_eq_true]at this
  exact this
 refine⟨⟨fun x hx y hy h1=>?_,fun x hx y hy h1 h2=>?_,fun x hx y hy z hz h1 h2=>?_⟩,fun x hx y hy=>Option.isSome_iff_exists.1 (key x hx y hy).1.1⟩
 ·have:=(key x hx y hy).1.2
  rw[h1,cond_true,Bool.not_eq_true']at this;exact this
 ·have:=(key x hx y hy).1.2
  rw[h1,h2,cond_false,Bool.false_or,decide_eq_true_iff]at this;exact this
 ·have:=(key x hx y hy).2 z hz
  rw[h1,h2]at this;exact this
theorem srtI_perm (lt:α→α→Bool)(x:α): ∀l:List α,(srtI lt x l).Perm (x::l)
 | []=>List.Perm.refl _
 |y::l=>by
  unfold srtI
  cases lt y x with
  |true=>exact((srtI_perm lt x l).cons y).trans (List.Perm.swap x y l)
  |false=>exact List.Perm.refl _
theorem srtL_perm (lt:α→α→Bool): ∀l:List α,(srtL lt l).Perm l
 | []=>List.Perm.refl _
 |x::l=>(srtI_perm lt x _).trans ((srtL_perm lt l).cons x)
theorem srtI_pw {lt:α→α→Bool}{X:List α}(O:OrdOn lt X){x:α}(hx:x∈X): ∀l:List α,(∀a∈l,a∈X)→l.Pairwise (fun a b=>lt b a=false)→(srtI lt x l).Pairwise (fun a b=>lt b a=false)
 | [],_,_=>List.pairwise_singleton ..
 |y::l,hl,hp=>by
  have hy:=hl y (List.mem_cons_self ..)
  have hl2: ∀a∈l,a∈X:=fun a ha=>hl a (List.mem_cons_of_mem _ ha)
  rw[List.pairwise_cons]at hp
  unfold srtI
  cases h:lt y x with
  |true=>
   refine List.pairwise_cons.2 ⟨fun b hb=>?_,srtI_pw O hx l hl2 hp.2⟩
   rcases List.mem_cons.1 ((srtI_perm lt x l).mem_iff.1 hb)with rfl|hb
   ·exact O.asym y hy b hx h
   ·exact hp.1 b hb
  |false=>
   refine List.pairwise_cons.2 ⟨fun b hb=>?_,List.pairwise_cons.2 hp⟩
   rcases List.mem_cons.1 hb with rfl|hb
   ·exact h
   ·exact O.nt (hl2 b hb) hy hx (hp.1 b hb) h
theorem srtL_pw {lt:α→α→Bool}{X:List α}(O:OrdOn lt X): ∀l:List α,(∀a∈l,a∈X)→(srtL lt l).Pairwise (fun a b=>lt b a=false)
 | [],_=>List.Pairwise.nil
 |x::l,hl=>srtI_pw O (hl x (List.mem_cons_self ..)) _ (fun a ha=>hl a (List.mem_cons_of_mem _ ((srtL_perm lt l).mem_iff.1 ha))) (srtL_pw O l fun a ha=>hl a (List.mem_cons_of_mem _ ha))
theorem srt_uniq {lt:α→α→Bool}{xs ys:List α}(O:OrdOn lt xs)(hp:ys.Perm xs)(hs:ys.Pairwise (fun a b=>lt b a=false)):ys=srtL lt xs:=
 List.Perm.eq_of_pairwise (le:=fun a b=>lt b a=false) (fun a b ha hb h1 h2=>O.tri a (hp.mem_iff.1 ha) b ((srtL_perm lt xs).mem_iff.1 hb) h2 h1) hs (srtL_pw O xs fun a h=>h) (hp.trans (srtL_perm lt xs).symm)
end
theorem flat_lv: ∀{t:Ty},t.flat=true→lv t=0
 | .int _,_=>rfl
 | .byte,_=>rfl
 | .bool,_=>rfl
 | .str,_=>rfl
 | .slice _,h=>by cases h
 | .pair a b,h=>by
  simp only[Ty.flat,Bool.and_eq_true]at h
  show lv a+lv b=0
  rw[flat_lv h.1,flat_lv h.2]
theorem cl_len: ∀{t:Ty} (x:t.den) (ps:Lf),t.flat=true→(cl t x ps).length=t.size
 | .int _,_,_,_=>rfl
 | .byte,_,_,_=>rfl
 | .bool,_,_,_=>rfl
 | .str,_,_,_=>rfl
 | .slice _,_,_,h=>by cases h
 | .pair a b,x,ps,h=>by
  simp only[Ty.flat,Bool.and_eq_true]at h
  show(cl a x.1 _++cl b x.2 _).length=a.size+b.size
  rw[List.length_append,cl_len x.1 _ h.1,cl_len x.2 _ h.2]
theorem cl_one: ∀{t:Ty} (x:t.den) (ps:Lf),t.flat=true→∀v∈cl t x ps,v.oneCell'=true
 | .int _,_,_,_,v,hv=>by obtain rfl:=List.mem_singleton.1 hv;rfl
 | .byte,_,_,_,v,hv=>by obtain rfl:=List.mem_singleton.1 hv;rfl
 | .bool,_,_,_,v,hv=>by obtain rfl:=List.mem_singleton.1 hv;rfl
 | .str,_,_,_,v,hv=>by obtain rfl:=List.mem_singleton.1 hv;rfl
 | .slice _,_,_,h,_,_=>by cases h
 | .pair a b,x,ps,h,v,hv=>by
  simp only[Ty.flat,Bool.and_eq_true]at h
  rcases List.mem_append.1 (show v∈cl a x.1 _++cl b x.2 _ from hv)with hv|hv
  ·exact cl_one x.1 _ h.1 v hv
  ·exact cl_one x.2 _ h.2 v hv
theorem rep_cl0 {t:Ty}(ht:t.flat=true){w:World}{F:Nat→Prop}{cs:List Value}{x:t.den}(h:t.rep w F cs x):cs=cl t x []:=by
 obtain⟨ps,hp,hc,_⟩:=rep_cl (B:=fun _ _=>False) t h
 rw[flat_lv ht]at hp
 obtain rfl:=List.eq_nil_of_length_eq_zero hp
 exact hc
theorem ch_grow {W w':World}(h:Ch [] W w')(hd:W.drawn≤w'.drawn): ∃q os',w'=grow (W.drewN q) os':=by
 refine⟨w'.drawn-W.drawn,w'.heap.extract W.heap.size w'.heap.size,?_⟩
 obtain⟨h1,h2,h3,h4,h5⟩:=h
 obtain⟨heap',tape',drawn',os',output'⟩:=w'
 obtain⟨heap,tape,drawn,os,output⟩:=W
 simp only at h1 h2 h3 h4 h5 hd
 subst h1;subst h2;subst h3
 have e:heap'=heap++heap'.extract heap.size heap'.size:=by
  refine Array.ext_getElem? fun i=>?_
  by_cases hi:i<heap.size
  ·rw[h5 i hi (by simp),Array.getElem?_append_left hi]
  ·rw[Array.getElem?_append_right (by omega),Array.getElem?_extract]
   split
   ·congr 1;omega
   ·rw[Array.getElem?_eq_none (by omega)]
 show World.mk heap' tape' drawn' os' output'=World.mk (heap++heap'.extract heap.size heap'.size) tape' (drawn+(drawn'-drawn)) os' output'
 rw[←e,Nat.add_sub_cancel' hd]
theorem Hp.none (W:World)(F:Nat→Prop):Hp ⟨0,[],W,[],F⟩ [] W:=⟨Ch.refl _,fun k r h=>(by cases h),fun k b ⟨_,h,_⟩=>(by cases h),fun k k' b ⟨_,h,_⟩=>(by cases h),fun k r j h=>(by cases h)⟩
theorem Ct.cmp {P:Program}{g:Nat}{vs:List Value}{c:Int}{R:Value→List (Nat×Res)→Prop}(h:Ct P g vs [] [] R)(hR: ∀v H',R v H'→v=.int .i64 c)(W:World):Calls P g vs.toArray W fun e w'=>e=.returned (.int .i64 c)∧∃q os',w'=grow (W.drewN q) os':=
 (Dr.calls (h W (fun _=>False) (Hp.none W _))).mono fun e w' ⟨⟨v,H',he,hr,hh⟩,hd⟩=>⟨by rw[he,hR v H' hr],ch_grow hh.ch (hd v he)⟩
theorem flat_get {α:Type}[Inhabited α](enc:α→List Value)(k:Nat)(d:Array α){i j:Nat}{x:α}(hx:d[i]?=some x)(hj:j<k):i*k+j<d.size*k∧(flatK enc k d)[i*k+j]! =(enc x)[j]! :=by
 obtain⟨hi,he⟩:=Array.getElem?_eq_some_iff.1 hx
 have lt:i*k+j<d.size*k:=by
  have:=Nat.mul_le_mul_right k (show i+1≤d.size from hi);rw[Nat.add_mul,Nat.one_mul]at this;omega
 have e1:(i*k+j) / k=i:=(blk_iff k i _ (by omega)).1 ⟨by omega,by omega⟩
 have e2:(i*k+j)%k=j:=by rw[Nat.mod_eq_sub_div_mul,e1];omega
 refine⟨lt,?_⟩
 rw[get_flatK _ _ _ _ lt,e1,e2,getElem!_pos d i hi,he]
theorem lgetb {l:List Value}{j:Nat}(h:j<l.length):l[j]?=some l[j]! :=by rw[List.getElem?_eq_getElem h,getElem!_pos l j h]
theorem put_id (d:Array Value)(c:Array Value)(j:Nat):(putCells id 0 d c)[j]?=(c[j]?).map fun x=>if j<d.size then d[j]! else x:=by
 unfold putCells
 rw[Array.getElem?_mapIdx]
 congr 1;funext x
 simp
theorem Ct.sortF {P:Program}{ρ:Ren}{f:Nat}(L:SlLaysF0.n6 P ρ)(hf:ρ.f 6=f){t:Ty}[DecidableEq t.den]{e:TypeId}(ht:t.flat=true)
  (aE: ∀w,(isAgg (ρ.t 24)).run P w=.ok true w) (zE: ∀w,(Go.sizeOf (ρ.t 24)).run P w=.ok t.size w) (A:Option Addr) (c:Nat) (g:Nat) (cmp:t.den→t.den→Option Int)
  (eg: ∀args w,(callFunc g args).run P w=.ok (.enter g args) w)
  (hc: ∀x y r,t.ok x→t.ok y→cmp x y=some r→∃R,Ct P g [.agg (cl t x []).toArray,.agg (cl t y []).toArray] [] [] R∧∀v H',R v H'→v=.int .i64 r)
  (xs r:List t.den) (hm:xs.length<4611686018427387904) (hr:srtF cmp xs=some r):
  Ct P f [.slice A xs.length c,.func (.func g) #[] #[]] [(0,.own t e A c xs)] (obl A) (fun v H'=>v=.tuple #[]∧H'=[(0,.own t e A c r)]∧r.length=xs.length):=fun w F hh=>by
 subst hf
 obtain⟨hord,hr⟩:ordB cmp xs=true∧srtL (cl0 cmp) xs=r:=by
  unfold srtF at hr
  split at hr
  ·rename_i h;exact⟨h,Option.some.inj hr⟩
  ·cases hr
 obtain⟨O,tot⟩:=ordB_on hord
 have hlen:r.length=xs.length:=by rw[←hr];exact(srtL_perm (cl0 cmp) xs).length_eq
 obtain⟨cells,hrow,h1,h2⟩:Own t e 0 w (Fh ⟨0,[],w,obl A,F⟩ [(0,.own t e A c xs)]) A c xs:=hh.hold 0 _ rfl
 have hok: ∀x∈xs,t.ok x:=fun x hx=>by
  obtain⟨i,hi⟩:=List.getElem?_of_mem hx
  exact rep_ok t (h2 i x hi)
 by_cases hx0:xs=[]
 ·subst hx0
  obtain rfl:r=[]:=by rw[←hr];rfl
  refine(AnyF.slices_SortFunc_none L A c _ w).mono ?_
  rintro e' w' ⟨rfl,rfl⟩
  exact⟨_,_,rfl,⟨rfl,rfl,rfl⟩,hh⟩
 rcases hrow.2 with⟨hv,hn⟩|⟨b,cap,cur,hv,hb,hg,hnc,hcm,hcs,htake⟩
 ·exact absurd (List.eq_nil_of_length_eq_zero hn) hx0
 injection hv with hA _ hcap
 subst hA;subst hcap
 have hglt:b<w.heap.size:=(Array.getElem?_eq_some_iff.1 hg).1
 have hk:=pos_size t
 have hbound: ∀{n i j:Nat},i<n→j<t.size→i*t.size+j<n*t.size:=fun {n i j} hi hj=>by
  have:=Nat.mul_le_mul_right t.size (show i+1≤n from hi);rw[Nat.add_mul,Nat.one_mul]at this;omega
 have hcell: ∀i x,xs[i]?=some x→∀j,j<t.size→cur[i*t.size+j]?=(cl t x [])[j]?:=fun i x hx j hj=>by
  have h3:=rep_cl0 ht (h2 i x hx)
  have hi:=(List.getElem?_eq_some_iff.1 hx).1
  rw[←h3,List.getElem?_take_of_lt hj,List.getElem?_drop,←htake,List.getElem?_take,if_pos (hbound hi hj)]
  simp
 haveI:Inhabited {x // x∈xs}:=⟨⟨xs.head hx0,List.head_mem hx0⟩⟩
 let enc:{x // x∈xs}→List Value:=fun x=>cl t x.1 []
 have he: ∀x,(enc x).length=t.size:=fun x=>cl_len x.1 [] ht
 let cf:{x // x∈xs}→{x // x∈xs}→Int:=fun x y=>(cmp x.1 y.1).getD 0
 have hlt: ∀x y,ltOf cf x y=cl0 cmp x.1 y.1:=fun x y=>by
  obtain⟨c0,h0⟩:=tot x.1 x.2 y.1 y.2
  show decide ((cmp x.1 y.1).getD 0<0)=_
  unfold cl0;rw[h0];rfl
 have hO:SWO (ltOf cf):=by
  refine⟨fun x=>?_,fun x y z h3 h4=>?_,fun x y z h3 h4=>?_⟩
  ·rw[hlt]
   cases h3:cl0 cmp x.1 x.1 with
   |false=>rfl
   |true=>rw[O.asym _ x.2 _ x.2 h3]at h3;cases h3
  ·rw[hlt]at h3 h4 ⊢;exact O.trans _ x.2 _ y.2 _ z.2 h3 h4
  ·rw[hlt]at h3 h4 ⊢;exact O.nt x.2 y.2 z.2 h3 h4
 obtain⟨d,hd⟩: ∃d:Array {x // x∈xs},d=xs.attach.toArray:=⟨_,rfl⟩
 have hds:d.size=xs.length:=by rw[hd];simp
 have hdg: ∀(i:Nat) (x:{x // x∈xs}),d[i]?=some x→xs[i]?=some x.1:=fun i x hx=>by
  rw[hd,List.getElem?_toArray]at hx
  have:=congrArg (Option.map Subtype.val) hx
  rw[←List.getElem?_map,List.attach_map_subtype_val]at this;exact this
 have hH:HoldsK enc t.size w b 0 d:=fun j hj=>by
  rw[size_flatK]at hj
  have hi:j / t.size<d.size:=Nat.div_lt_of_lt_mul (by rwa[Nat.mul_comm]at hj)
  have hu:=Nat.mod_lt j hk
  have hje:j / t.size*t.size+j%t.size=j:=Nat.div_add_mod' j t.size
  have hx:d[j / t.size]?=some d[j / t.size]:=Array.getElem?_eq_getElem hi
  obtain⟨_,h4⟩:=flat_get enc t.size d hx hu
  rw[hje]at h4
  have h5:=hcell _ _ (hdg _ _ hx) _ hu
  rw[hje]at h5
  refine⟨?_,by simp[World.frozen?,hg]⟩
  rw[Nat.zero_add,cell_of_row w b j cur e (0,0) hg,h5,h4]
  have hl:j%t.size<(enc d[j / t.size]).length:=by rw[he];exact hu
  have e9:(enc d[j / t.size])[j%t.size]?=some ((enc d[j / t.size])[j%t.size]!):=lgetb hl
  exact e9
 have hcl:CmpLays P g #[] enc t.size cf b 0 d.size w:=fun m os dk _ x y=>by
  obtain⟨c0,h0⟩:=tot x.1 x.2 y.1 y.2
  obtain⟨R,h3,h4⟩:=hc x.1 y.1 c0 (hok _ x.2) (hok _ y.2) h0
  have:cf x y=c0:=by show(cmp x.1 y.1).getD 0=c0;rw[h0];rfl
  rw[this]
  exact Ct.cmp h3 h4 _
 have key:=AnyQ.slices_SortFunc L t.size aE zE enc he (fun x v hv=>cl_one x.1 [] ht v hv) cf hO g #[] b 0 c d w eg hcl hH hglt (by rw[hds];exact hm)
 rw[hds]at key
 refine key.mono ?_
 rintro e' w' ⟨rfl,d',n,os,hp,hs,rfl⟩
 clear key
 obtain⟨hsz,_,hperm⟩:=hp
 have hsz2:d'.size=xs.length:=hsz.trans hds
 have hys:d'.toList.map Subtype.val=r:=by
  rw[←hr]
  refine srt_uniq O ?_ ?_
  ·have h3:d'.toList.Perm d.toList:=by
    have e1:d'.extract 0 xs.length=d':=by rw[←hsz2];exact Array.extract_size
    have e2:d.extract 0 xs.length=d:=by rw[←hds];exact Array.extract_size
    rw[e1,e2]at hperm;exact hperm
   have h4:=h3.map Subtype.val
   rw[hd]at h4
   have h5:xs.attach.toArray.toList.map Subtype.val=xs:=List.attach_map_subtype_val xs
   rw[h5]at h4;exact h4
  ·refine List.pairwise_iff_getElem.2 fun i j hi hj hij=>?_
   rw[List.length_map,Array.length_toList]at hi hj
   have h3:=hs i j (Nat.zero_le _) hij (by omega)
   rw[hlt,getElem!_pos d' j (by omega),getElem!_pos d' i (by omega)]at h3
   simpa using h3
 have hrg: ∀(i:Nat) (x:t.den),r[i]?=some x→∃y,d'[i]?=some y∧y.1=x:=fun i x hx=>by
  rw[←hys,List.getElem?_map,Array.getElem?_toList]at hx
  obtain⟨y,h3,h4⟩:=Option.map_eq_some_iff.1 hx
  exact⟨y,h3,h4⟩
 generalize hcd:putCells id 0 (flatK enc t.size d') cur=cur'
 have hheap:(sortWorldK enc t.size w b 0 n d' os).heap[b]?=some (.cells cur' e (0,0)):=by
  show((w.heap.modify b (onCells (putCells id 0 (flatK enc t.size d'))))++os)[b]?=_
  rw[Array.getElem?_append_left (by simpa using hglt),Array.getElem?_modify,if_pos rfl,hg]
  simp only[Option.map_some,onCells,hcd]
 have hch:Ch [b] w (sortWorldK enc t.size w b 0 n d' os):=by
  refine⟨rfl,rfl,rfl,?_,fun k hk hn2=>?_⟩
  ·show w.heap.size≤((w.heap.modify b (onCells (putCells id 0 (flatK enc t.size d'))))++os).size
   simp
  ·show((w.heap.modify b (onCells (putCells id 0 (flatK enc t.size d'))))++os)[k]?=_
   rw[Array.getElem?_append_left (by simpa using hk),Array.getElem?_modify,if_neg (fun e=>hn2 (List.mem_singleton.2 e.symm))]
 have hcs':cur'.size=cur.size:=by rw[←hcd];simp[putCells]
 have hnk:xs.length*t.size≤cur.size:=by rw[hcs];exact Nat.mul_le_mul_right _ hnc
 have hget: ∀(i:Nat) (y:{x // x∈xs}),d'[i]?=some y→∀j,j<t.size→cur'[i*t.size+j]?=(cl t y.1 [])[j]?:=fun i y hy j hj=>by
  have hi:=(Array.getElem?_eq_some_iff.1 hy).1
  obtain⟨h3,h4⟩:=flat_get enc t.size d' hy hj
  have hb2:i*t.size+j<cur.size:=Nat.lt_of_lt_of_le (hbound (by omega) hj) hnk
  rw[←hcd,put_id,Array.getElem?_eq_getElem hb2,Option.map_some,if_pos (by rw[size_flatK];exact h3),h4]
  have hl:j<(enc y).length:=by rw[he];exact hj
  show some (enc y)[j]! =(enc y)[j]?
  exact(lgetb hl).symm
 have hown: ∀F':Nat→Prop,Own t e 0 (sortWorldK enc t.size w b 0 n d' os) F' (some ⟨b,0,none⟩) c r:=fun F'=>by
  refine⟨cur'.toList.take (r.length*t.size),⟨?_,.inr ⟨b,c,cur',rfl,Nat.zero_le _,hheap,by omega,hcm,by rw[hcs',hcs],rfl⟩⟩,fun u hu=>?_,fun i x hx=>?_⟩
  ·rw[List.length_take,Array.length_toList (xs:=cur'),hlen,hcs'];omega
  ·obtain⟨j,hj,rfl⟩:=List.getElem_of_mem hu
   rw[List.length_take]at hj
   have hj2:j<r.length*t.size:=by omega
   have hje:j / t.size*t.size+j%t.size=j:=Nat.div_add_mod' j t.size
   have hi:j / t.size<d'.size:=by rw[hsz2,←hlen];exact Nat.div_lt_of_lt_mul (by rwa[Nat.mul_comm]at hj2)
   have h3:=hget _ _ (Array.getElem?_eq_getElem hi) _ (Nat.mod_lt j hk)
   rw[hje]at h3
   rw[List.getElem_take]
   have hjc:j<cur'.size:=by have:=hj;rw[Array.length_toList (xs:=cur')]at this;omega
   rw[Array.getElem?_eq_getElem hjc]at h3
   rw[Array.getElem_toList]
   exact cl_one _ [] ht _ (List.mem_of_getElem? h3.symm)
  ·obtain⟨y,hy,rfl⟩:=hrg i x hx
   have hi:=(List.getElem?_eq_some_iff.1 hx).1
   have e1:((cur'.toList.take (r.length*t.size)).drop (i*t.size)).take t.size=cl t y.1 []:=by
    refine List.ext_getElem? fun j=>?_
    by_cases hj:j<t.size
    ·rw[List.getElem?_take_of_lt hj,List.getElem?_drop,List.getElem?_take,if_pos (hbound hi hj),Array.getElem?_toList]
     exact hget i y hy j hj
    ·rw[List.getElem?_eq_none (by rw[List.length_take];omega),List.getElem?_eq_none (by rw[cl_len _ _ ht];omega)]
   rw[e1]
   obtain⟨i0,hi0⟩:=List.getElem?_of_mem y.2
   have h3:=h2 i0 y.1 hi0
   rw[rep_cl0 ht h3]at h3
   exact rep_flat t ht (rep_to (F':=no) (rep_flat (F':=no) t ht h3) hch (fun _ h _=>h.elim))
 refine⟨_,[(0,.own t e (some ⟨b,0,none⟩) c r)],rfl,⟨rfl,rfl,hlen⟩,?_⟩
 have h3:=Hp.ren (Hp.upd (k:=0) (r':=.own t e (some ⟨b,0,none⟩) c r) hh hch (fun k hb2=>⟨_,rfl,hb2⟩) (fun k hb2=>.inl ⟨_,rfl,hb2⟩) (fun j hj=>by cases hj) fun F' B _ _ _ _ _=>hown _) [(0,0)] rfl rfl
 exact⟨h3.ch,h3.hold,h3.bnd,h3.dis,h3.ref⟩
end Go.A
end
section
set_option linter.unusedVariables false
set_option linter.unusedSimpArgs false
namespace Go.A
open Go.RowKit Go.Z Go.Shelf Go.Proofs
theorem dec_has {s:ByteArray}{p:Nat}:IntKind.i32.has ((Utf8.decode s p).1:Int):=by
 have h:=Lib.rune_le s p
 exact⟨by show(-2147483648:Int)≤_;omega,by show _≤(2147483647:Int);omega⟩
theorem cmpb_has: ∀a b:List UInt8,IntKind.i64.has (Lib.compareBytes a b)
 | [],[]=>by unfold Lib.compareBytes;decide
 | [],_::_=>by unfold Lib.compareBytes;decide
 |_::_,[]=>by unfold Lib.compareBytes;decide
 |x::a,y::b=>by
  unfold Lib.compareBytes
  have:=cmpb_has a b
  repeat' split
  all_goals first|assumption|decide
theorem Hem.bh {r:Option Nat}{P:Program}{ops:Array Oper}{Q:Exit→Act→World→Prop}{S S':World→Prop}{m m':Nat}: ∀(f:Nat) (li:Array Bool) (a:Act) (w:World),gn ops li m=true→Hem r P ops Q S' m' f li a w→Hem r P ops Q S m f li a w
 |0,_,_,_,_,h=>h
 |f+1,li,a,w,hg,h=>⟨h.1,fun i hi=>wpOpIn_mono (fun a' w' h'=>by
   have hg':gn ops (li.setIfInBounds i true) m=true:=by
    cases hq:gn ops (li.setIfInBounds i true) m with
    |true=>rfl
    |false=>rw[gn_mono hq]at hg;cases hg
   exact⟨fun hm=>(by rw[hg']at hm;cases hm),Hem.bh f _ a' w' hg' h'.2⟩) (h.2 i hi)⟩
theorem AH.bh {r:Option Nat}{P:Program}{ops:Array Oper}{Q:Exit→Act→World→Prop}{Hq:List (Nat×Res)}{m f:Nat}{li:List Bool}{C:Cx}{l:List (Nat×Value)}{H:List (Nat×Res)}(m':Nat)(h:AH r P ops Q [] m' f li C l H)(hg:gn ops li.toArray m=true:=by kernel_rfl):AH r P ops Q Hq m f li C l H:=fun a w hf hh=>
 Hem.bh _ _ a w hg (h a w hf hh)
theorem Ct.scmp {P:Program}{ρ:Ren}{f:Nat}(L:Lays.n106 P ρ)(hf:ρ.f 106=f)(a b:ByteArray)(r:Int)(hr:some (Lib.compareBytes a.data.toList b.data.toList)=some r):
  Ct P f [.string a,.string b] [] [] (fun v H'=>v=.int .i64 r∧H'=[]∧IntKind.i64.has r):=fun w F hh=>by
 subst hf
 have hr:=Option.some.inj hr
 subst hr
 refine(Any.strings_Compare L a b w).mono ?_
 rintro e w' ⟨rfl,rfl⟩
 exact⟨_,[],rfl,⟨rfl,rfl,cmpb_has _ _⟩,Ch.refl _,fun k r h=>(by cases h),fun k b ⟨_,h,_⟩=>(by cases h),fun k k' b ⟨_,h,_⟩=>(by cases h),fun k r j h=>(by cases h)⟩
def dem {α β:Type}[DecidableEq β](m:List α)(sn:List Nat)(e:Option β)(g:Nat→α→Option β):Option β:=
 match(List.range m.length).filter (fun i=> !(sn.contains i))with
 | []=>e
 |i::js=>(m[i]?).bind fun p=>if(js.all fun j=>decide (((m[j]?).bind fun q=>g j q)=g i p))=true then g i p else none
theorem dem_some {α β:Type}[DecidableEq β]{m:List α}{sn:List Nat}{e:Option β}{g:Nat→α→Option β}{r:β}(h:dem m sn e g=some r):
  ((∀i,i<m.length→i∈sn)→e=some r)∧∀i p,m[i]?=some p→i∉sn→g i p=some r:=by
 have hmem: ∀i,i∈(List.range m.length).filter (fun i=> !(sn.contains i))↔i<m.length∧i∉sn:=fun i=>by
  rw[List.mem_filter,List.mem_range];simp
 unfold dem at h
 split at h
 ·rename_i hl
  rw[hl]at hmem
  exact⟨fun _=>h,fun i p hp hn=>absurd ((hmem i).2 ⟨(List.getElem?_eq_some_iff.1 hp).1,hn⟩) (by simp)⟩
 ·rename_i i js hl
  rw[hl]at hmem
  have hi:=(hmem i).1 (List.mem_cons_self ..)
  refine⟨fun hall=>absurd (hall i hi.1) hi.2,fun j q hq hn=>?_⟩
  rw[List.getElem?_eq_getElem hi.1,Option.bind_some]at h
  split at h
  ·rename_i hall
   rcases List.mem_cons.1 ((hmem j).2 ⟨(List.getElem?_eq_some_iff.1 hq).1,hn⟩)with rfl|hj
   ·rw[List.getElem?_eq_getElem hi.1]at hq
    obtain rfl:=Option.some.inj hq
    exact h
   ·have:=of_decide_eq_true (List.all_eq_true.1 hall j hj)
    rw[hq,Option.bind_some]at this
    rw[this];exact h
  ·cases h
section
variable {r:Option Nat}{P:Program}{Q:Exit→Act→World→Prop}{C:Cx}{l:List (Nat×Value)}{H:List (Nat×Res)}{ops:Array Oper}{rest:List Oper}{T:TypeId}{pos:String}{af:Array Edge}{d:Nat}
theorem r_slh {a:Act}{w:World}{tt:TypeId}{x hi:Operand}{s:ByteArray}{k2:IntKind}{q:Int}(ht:P.underlying tt=some .string)(hx:a.eval x=.string s)(hhi:a.eval hi=.int k2 q)(h0:0≤q)(h1:q≤s.size):
  (execOp a.eval ⟨some d,.slice tt x none (some hi) none,T,pos,af,none⟩).run P w=.ok (.value (.string (s.extract 0 q.toNat))) w:=by
 simp[execOp,Instr.sliceAt,run_underlying ht,hx,hhi,run_slice_string_h w tt s ht k2 q h0 h1]
theorem AL.slh {tt:TypeId}{x hi:Operand}{s:ByteArray}{k2:IntKind}{q:Int}(hq:0≤q∧q≤s.size)(h:AL r P ops Q rest C ((d,.string (s.extract 0 q.toNat))::l) H)(hx:ev l x=some (.string s):=by rfl)(hhi:ev l hi=some (.int k2 q):=by rfl)(ht:P.underlying tt=some .string:=by rfl)(hd:Nat.ble (d+1) C.n=true:=by rfl):
  AL r P ops Q (⟨some d,.slice tt x none (some hi) none,T,pos,af,none⟩::rest) C l H:=
 AL.val hd (fun a w hf _=>r_slh ht (hf.eval hx) (hf.eval hhi) hq.1 hq.2) h
theorem r_slb {a:Act}{w:World}{tt:TypeId}{x lo hi:Operand}{s:ByteArray}{k1 k2:IntKind}{p q:Int}(ht:P.underlying tt=some .string)(hx:a.eval x=.string s)(hlo:a.eval lo=.int k1 p)(hhi:a.eval hi=.int k2 q)(h0:0≤p)(h1:p≤q)(h2:q≤s.size):
  (execOp a.eval ⟨some d,.slice tt x (some lo) (some hi) none,T,pos,af,none⟩).run P w=.ok (.value (.string (s.extract p.toNat q.toNat))) w:=by
 have:=run_slice_string tt s k1 k2 p q ht h0 h1 h2 (P:=P) (w:=w)
 simp[execOp,Instr.sliceAt,run_underlying ht,hx,hlo,hhi,this]
theorem AL.slb {tt:TypeId}{x lo hi:Operand}{s:ByteArray}{k1 k2:IntKind}{p q:Int}(hq:0≤p∧p≤q∧q≤s.size)(h:AL r P ops Q rest C ((d,.string (s.extract p.toNat q.toNat))::l) H)(hx:ev l x=some (.string s):=by rfl)(hlo:ev l lo=some (.int k1 p):=by rfl)(hhi:ev l hi=some (.int k2 q):=by rfl)(ht:P.underlying tt=some .string:=by rfl)(hd:Nat.ble (d+1) C.n=true:=by rfl):
  AL r P ops Q (⟨some d,.slice tt x (some lo) (some hi) none,T,pos,af,none⟩::rest) C l H:=
 AL.val hd (fun a w hf _=>r_slb ht (hf.eval hx) (hf.eval hlo) (hf.eval hhi) hq.1 hq.2.1 hq.2.2) h
theorem ext_le {s:ByteArray}{i j:Nat}(h:s.size≤maxLen):(s.extract i j).size≤maxLen:=by
 rw[ByteArray.size_extract];omega
end
end Go.A
end
section
set_option linter.unusedVariables false
set_option maxRecDepth 100000
namespace Go.Proofs.YtbljnlkhebiniaaGreatDoor
open Go.RowKit Go.Shelf Go.Lib
def Tryz.laysSortFunc34_ren:Go.Shelf.Ren:=⟨fun|6=>34|15=>65|14=>64|28=>112|29=>113|20=>104|21=>105|22=>106|23=>107|24=>108|25=>109|26=>110|27=>111|46=>138|47=>139|48=>140|49=>141|50=>142|57=>154|n=>n,fun|22=>37|24=>44|25=>82|3=>3|39=>113|0=>0|53=>157|55=>159|4=>4|46=>150|45=>149|50=>154|5=>5|9=>9|66=>179|70=>183|76=>195|77=>134|n=>n,fun|n=>n⟩
theorem Tryz.laysSortFunc34:Go.Proofs.SlLaysF0.n6 Tryz.prog Tryz.laysSortFunc34_ren where
 mixed:=by kernel_rfl
 f6:=⟨"slices.SortFunc[[]rivulet/api.Rec,rivulet/api.Rec]",by decide,Tryz.func34.trans (congrArg some (by kernel_rfl))⟩
 f14:=⟨"slices.pdqsortCmpFunc[rivulet/api.Rec]",by decide,Tryz.func64.trans (congrArg some (by kernel_rfl))⟩
 f15:=Tryz.func65.trans (congrArg some (by kernel_rfl))
 f20:=⟨"slices.insertionSortCmpFunc[rivulet/api.Rec]",by decide,Tryz.func104.trans (congrArg some (by kernel_rfl))⟩
 f21:=⟨"slices.heapSortCmpFunc[rivulet/api.Rec]",by decide,Tryz.func105.trans (congrArg some (by kernel_rfl))⟩
 f22:=⟨"slices.breakPatternsCmpFunc[rivulet/api.Rec]",by decide,Tryz.func106.trans (congrArg some (by kernel_rfl))⟩
 f23:=⟨"slices.choosePivotCmpFunc[rivulet/api.Rec]",by decide,Tryz.func107.trans (congrArg some (by kernel_rfl))⟩
 f24:=⟨"slices.reverseRangeCmpFunc[rivulet/api.Rec]",by decide,Tryz.func108.trans (congrArg some (by kernel_rfl))⟩
 f25:=⟨"slices.partialInsertionSortCmpFunc[rivulet/api.Rec]",by decide,Tryz.func109.trans (congrArg some (by kernel_rfl))⟩
 f26:=⟨"slices.partitionEqualCmpFunc[rivulet/api.Rec]",by decide,Tryz.func110.trans (congrArg some (by kernel_rfl))⟩
 f27:=⟨"slices.partitionCmpFunc[rivulet/api.Rec]",by decide,Tryz.func111.trans (congrArg some (by kernel_rfl))⟩
 f28:=Tryz.func112.trans (congrArg some (by kernel_rfl))
 f29:=Tryz.func113.trans (congrArg some (by kernel_rfl))
 f46:=⟨"slices.siftDownCmpFunc[rivulet/api.Rec]",by decide,Tryz.func138.trans (congrArg some (by kernel_rfl))⟩
 f47:=Tryz.func139.trans (congrArg some (by kernel_rfl))
 f48:=Tryz.func140.trans (congrArg some (by kernel_rfl))
 f49:=⟨"slices.medianAdjacentCmpFunc[rivulet/api.Rec]",by decide,Tryz.func141.trans (congrArg some (by kernel_rfl))⟩
 f50:=⟨"slices.medianCmpFunc[rivulet/api.Rec]",by decide,Tryz.func142.trans (congrArg some (by kernel_rfl))⟩
 f57:=⟨"slices.order2CmpFunc[rivulet/api.Rec]",by decide,Tryz.func154.trans (congrArg some (by kernel_rfl))⟩
 t0:=Tryz.underlying0
 a0:=Tryz.isAgg0
 z0:=Tryz.sizeOf0
 v0:=Tryz.zeroValue0
 t3:=Tryz.underlying3
 a3:=Tryz.isAgg3
 z3:=Tryz.sizeOf3
 v3:=Tryz.zeroValue3
 t4:=Tryz.underlying4
 a4:=Tryz.isAgg4
 z4:=Tryz.sizeOf4
 v4:=Tryz.zeroValue4
 t5:=Tryz.underlying5
 a5:=Tryz.isAgg5
 z5:=Tryz.sizeOf5
 v5:=Tryz.zeroValue5
 t9:=Tryz.underlying9
 a9:=Tryz.isAgg9
 z9:=Tryz.sizeOf9
 v9:=Tryz.zeroValue9
 t22:=Tryz.underlying37
 a22:=Tryz.isAgg37
 z22:=Tryz.sizeOf37
 v22:=Tryz.zeroValue37
 t25:=Tryz.underlying82
 a25:=Tryz.isAgg82
 z25:=Tryz.sizeOf82
 v25:=Tryz.zeroValue82
 t39:=Tryz.underlying113
 a39:=Tryz.isAgg113
 z39:=Tryz.sizeOf113
 v39:=Tryz.zeroValue113
 t45:=Tryz.underlying149
 a45:=Tryz.isAgg149
 z45:=Tryz.sizeOf149
 v45:=Tryz.zeroValue149
 t46:=Tryz.underlying150
 a46:=Tryz.isAgg150
 z46:=Tryz.sizeOf150
 v46:=Tryz.zeroValue150
 t50:=Tryz.underlying154
 a50:=Tryz.isAgg154
 z50:=Tryz.sizeOf154
 v50:=Tryz.zeroValue154
 t53:=Tryz.underlying157
 a53:=Tryz.isAgg157
 z53:=Tryz.sizeOf157
 v53:=Tryz.zeroValue157
 t55:=Tryz.underlying159
 a55:=Tryz.isAgg159
 z55:=Tryz.sizeOf159
 v55:=Tryz.zeroValue159
 t66:=Tryz.underlying179
 a66:=Tryz.isAgg179
 z66:=Tryz.sizeOf179
 v66:=Tryz.zeroValue179
 t70:=Tryz.underlying183
 a70:=Tryz.isAgg183
 z70:=Tryz.sizeOf183
 v70:=Tryz.zeroValue183
 t76:=Tryz.underlying195
 a76:=Tryz.isAgg195
 z76:=Tryz.sizeOf195
 v76:=Tryz.zeroValue195
 t77:=Tryz.underlying134
 a77:=Tryz.isAgg134
 z77:=Tryz.sizeOf134
 v77:=Tryz.zeroValue134
def Tryz.laysSortFunc69_ren:Go.Shelf.Ren:=⟨fun|6=>69|15=>65|14=>116|28=>112|29=>113|20=>144|21=>145|22=>146|23=>147|24=>148|25=>149|26=>150|27=>151|46=>155|47=>139|48=>140|49=>156|50=>157|57=>159|n=>n,fun|22=>31|24=>47|25=>118|3=>3|39=>113|0=>0|53=>157|55=>159|4=>4|46=>150|45=>149|50=>154|5=>5|9=>9|66=>179|70=>183|76=>195|77=>134|n=>n,fun|n=>n⟩
theorem Tryz.laysSortFunc69:Go.Proofs.SlLaysF0.n6 Tryz.prog Tryz.laysSortFunc69_ren where
 mixed:=by kernel_rfl
 f6:=⟨"slices.SortFunc[[]rivulet/api.Entry,rivulet/api.Entry]",by decide,Tryz.func69.trans (congrArg some (by kernel_rfl))⟩
 f14:=⟨"slices.pdqsortCmpFunc[rivulet/api.Entry]",by decide,Tryz.func116.trans (congrArg some (by kernel_rfl))⟩
 f15:=Tryz.func65.trans (congrArg some (by kernel_rfl))
 f20:=⟨"slices.insertionSortCmpFunc[rivulet/api.Entry]",by decide,Tryz.func144.trans (congrArg some (by kernel_rfl))⟩
 f21:=⟨"slices.heapSortCmpFunc[rivulet/api.Entry]",by decide,Tryz.func145.trans (congrArg some (by kernel_rfl))⟩
 f22:=⟨"slices.breakPatternsCmpFunc[rivulet/api.Entry]",by decide,Tryz.func146.trans (congrArg some (by kernel_rfl))⟩
 f23:=⟨"slices.choosePivotCmpFunc[rivulet/api.Entry]",by decide,Tryz.func147.trans (congrArg some (by kernel_rfl))⟩
 f24:=⟨"slices.reverseRangeCmpFunc[rivulet/api.Entry]",by decide,Tryz.func148.trans (congrArg some (by kernel_rfl))⟩
 f25:=⟨"slices.partialInsertionSortCmpFunc[rivulet/api.Entry]",by decide,Tryz.func149.trans (congrArg some (by kernel_rfl))⟩
 f26:=⟨"slices.partitionEqualCmpFunc[rivulet/api.Entry]",by decide,Tryz.func150.trans (congrArg some (by kernel_rfl))⟩
 f27:=⟨"slices.partitionCmpFunc[rivulet/api.Entry]",by decide,Tryz.func151.trans (congrArg some (by kernel_rfl))⟩
 f28:=Tryz.func112.trans (congrArg some (by kernel_rfl))
 f29:=Tryz.func113.trans (congrArg some (by kernel_rfl))
 f46:=⟨"slices.siftDownCmpFunc[rivulet/api.Entry]",by decide,Tryz.func155.trans (congrArg some (by kernel_rfl))⟩
 f47:=Tryz.func139.trans (congrArg some (by kernel_rfl))
 f48:=Tryz.func140.trans (congrArg some (by kernel_rfl))
 f49:=⟨"slices.medianAdjacentCmpFunc[rivulet/api.Entry]",by decide,Tryz.func156.trans (congrArg some (by kernel_rfl))⟩
 f50:=⟨"slices.medianCmpFunc[rivulet/api.Entry]",by decide,Tryz.func157.trans (congrArg some (by kernel_rfl))⟩
 f57:=⟨"slices.order2CmpFunc[rivulet/api.Entry]",by decide,Tryz.func159.trans (congrArg some (by kernel_rfl))⟩
 t0:=Tryz.underlying0
 a0:=Tryz.isAgg0
 z0:=Tryz.sizeOf0
 v0:=Tryz.zeroValue0
 t3:=Tryz.underlying3
 a3:=Tryz.isAgg3
 z3:=Tryz.sizeOf3
 v3:=Tryz.zeroValue3
 t4:=Tryz.underlying4
 a4:=Tryz.isAgg4
 z4:=Tryz.sizeOf4
 v4:=Tryz.zeroValue4
 t5:=Tryz.underlying5
 a5:=Tryz.isAgg5
 z5:=Tryz.sizeOf5
 v5:=Tryz.zeroValue5
 t9:=Tryz.underlying9
 a9:=Tryz.isAgg9
 z9:=Tryz.sizeOf9
 v9:=Tryz.zeroValue9
 t22:=Tryz.underlying31
 a22:=Tryz.isAgg31
 z22:=Tryz.sizeOf31
 v22:=Tryz.zeroValue31
 t25:=Tryz.underlying118
 a25:=Tryz.isAgg118
 z25:=Tryz.sizeOf118
 v25:=Tryz.zeroValue118
 t39:=Tryz.underlying113
 a39:=Tryz.isAgg113
 z39:=Tryz.sizeOf113
 v39:=Tryz.zeroValue113
 t45:=Tryz.underlying149
 a45:=Tryz.isAgg149
 z45:=Tryz.sizeOf149
 v45:=Tryz.zeroValue149
 t46:=Tryz.underlying150
 a46:=Tryz.isAgg150
 z46:=Tryz.sizeOf150
 v46:=Tryz.zeroValue150
 t50:=Tryz.underlying154
 a50:=Tryz.isAgg154
 z50:=Tryz.sizeOf154
 v50:=Tryz.zeroValue154
 t53:=Tryz.underlying157
 a53:=Tryz.isAgg157
 z53:=Tryz.sizeOf157
 v53:=Tryz.zeroValue157
 t55:=Tryz.underlying159
 a55:=Tryz.isAgg159
 z55:=Tryz.sizeOf159
 v55:=Tryz.zeroValue159
 t66:=Tryz.underlying179
 a66:=Tryz.isAgg179
 z66:=Tryz.sizeOf179
 v66:=Tryz.zeroValue179
 t70:=Tryz.underlying183
 a70:=Tryz.isAgg183
 z70:=Tryz.sizeOf183
 v70:=Tryz.zeroValue183
 t76:=Tryz.underlying195
 a76:=Tryz.isAgg195
 z76:=Tryz.sizeOf195
 v76:=Tryz.zeroValue195
 t77:=Tryz.underlying134
 a77:=Tryz.isAgg134
 z77:=Tryz.sizeOf134
 v77:=Tryz.zeroValue134
def Tryz.laysCompare_ren:Go.Shelf.Ren:=⟨fun|106=>68|213=>115|265=>143|n=>n,fun|9=>9|3=>3|n=>n,fun|n=>n⟩
theorem Tryz.laysCompare:Go.Proofs.Lays.n106 Tryz.prog Tryz.laysCompare_ren where
 mixed:=by kernel_rfl
 f106:=Tryz.func68.trans (congrArg some (by kernel_rfl))
 f213:=Tryz.func115.trans (congrArg some (by kernel_rfl))
 f265:=Tryz.func143.trans (congrArg some (by kernel_rfl))
 t3:=Tryz.underlying3
 a3:=Tryz.isAgg3
 z3:=Tryz.sizeOf3
 v3:=Tryz.zeroValue3
 t9:=Tryz.underlying9
 a9:=Tryz.isAgg9
 z9:=Tryz.sizeOf9
 v9:=Tryz.zeroValue9
def F.strings_Compare (a0 a1:ByteArray):Option Int:=some (Lib.compareBytes a0.data.toList a1.data.toList)
theorem strings_Compare_ok (a0 a1:ByteArray)(h0:a0.size≤maxLen)(h1:a1.size≤maxLen)(r:Int)(hF:F.strings_Compare a0 a1=some r):
  A.Ct Tryz.prog 68 [.string a0,.string a1] [] [] (fun v H'=>v=.int .i64 r∧H'=[]∧IntKind.i64.has r):=
 A.Ct.scmp Tryz.laysCompare rfl a0 a1 r hF
end Go.Proofs.YtbljnlkhebiniaaGreatDoor
end
section
set_option linter.unusedVariables false
namespace Go.A
open Go.RowKit Go.Z Go.Shelf Go.Proofs Go.Lib
def Hall (W:World):List (Nat×Res)→Prop
 | []=>True
 |p::H=>(p.2.bl=[]∧p.2.ref=none∧p.2.holds W (fun _=>True) (fun _ _=>False))∧Hall W H
theorem Hall.at {W:World}: ∀{H:List (Nat×Res)} {k:Nat} {r:Res},Hall W H→hk H k=some r→r.bl=[]∧r.ref=none∧r.holds W (fun _=>True) (fun _ _=>False)
 | [],_,_,_,h=>by cases h
 |(d,u)::H,k,r,ha,h=>by
  rw[hk_cons]at h
  split at h
  ·injection h with h;subst h;exact ha.1
  ·exact ha.2.at h
theorem Hp.start {W:World}{H:List (Nat×Res)}(h:Hall W H):Hp ⟨0,[],W,[],fun _=>True⟩ H W:=by
 have hb: ∀k b,¬Bk H k b:=fun k b ⟨r,h1,h2⟩=>by rw[(h.at h1).1]at h2;cases h2
 refine⟨Ch.refl W,fun k r hk=>?_,fun k b hB=>(hb k b hB).elim,fun k k' b hB=>(hb k b hB).elim,fun k r j hk hr=>?_⟩
 ·exact Res.to (S:=[]) (h.at hk).2.2 (Ch.refl W) (fun b _ _=>⟨by simp,fun k=>hb k b,.inl trivial⟩) (fun b _ _=>⟨by simp,fun k=>hb k b⟩) (fun i b _ hf=>hf.elim) (by simp)
 ·rw[(h.at hk).2.1]at hr;cases hr
theorem Hall.sh {W:World}{t:Ty}{cs:List Value}{x:t.den}{F:Nat→Prop}(h:t.rep W F cs x):(Res.sh t cs x).bl=[]∧(Res.sh t cs x).ref=none∧(Res.sh t cs x).holds W (fun _=>True) (fun _ _=>False):=
 ⟨rfl,rfl,rep_as h fun _ _ _=>trivial⟩
theorem Hall.ln {W:World}{t:Ty}{A:Option Addr}{c n:Nat}{xs:List t.den}{F:Nat→Prop}(h:(Ty.slice t).rep W F [.slice A xs.length c] xs):(Res.ln t A c xs).bl=[]∧(Res.ln t A c xs).ref=none∧(Res.ln t A c xs).holds W (fun _=>True) (fun _ _=>False):=
 ⟨rfl,rfl,Row.to (S:=[]) (Row.of h) (Ch.refl W) (fun _ _ _=>⟨by simp,trivial⟩) (fun _ _ _=>⟨by simp,fun _ h=>h⟩)⟩
def putCells (cs:List Value):Obj→Obj
 | .cells _ t frozen=>.cells cs.toArray t frozen
 |o=>o
theorem tab_cells {w:World}{g3 g4:Nat}(h:Lib.Utf8Tabs g3 g4 w):Cells w ⟨g3,0,none⟩ tabF∧Cells w ⟨g4,0,none⟩ tabA:=by
 constructor
 ·intro j u hu
  rw[Addr.add_lit,Nat.zero_add]
  have hj:j<256:=by have:=(List.getElem?_eq_some_iff.1 hu).1;simpa[tabF] using this
  have e:tabF[j]?=some (.int .u8 (firstT j)):=by simp[tabF,hj]
  rw[e]at hu;injection hu with hu;subst hu
  exact h.1 j hj
 ·intro j u hu
  rw[Addr.add_lit,Nat.zero_add]
  have hj:j<32:=by have:=(List.getElem?_eq_some_iff.1 hu).1;simpa[tabA] using this
  have e:tabA[j]?=some (.int .u8 (if j%2=0 then accLo (j / 2)else accHi (j / 2))):=by simp[tabA,hj]
  rw[e]at hu;injection hu with hu;subst hu
  have:=h.2 (j / 2) (by omega)
  by_cases he:j%2=0
  ·rw[if_pos he]
   have hj2:j=2*(j / 2):=by omega
   rw[hj2];simpa using this.1
  ·rw[if_neg he]
   have hj2:j=2*(j / 2)+1:=by omega
   have h3:(2*(j / 2)+1) / 2=j / 2:=by omega
   rw[hj2,h3];exact this.2
theorem Hall.tabs {w:World}{g3 g4 i j:Nat}(h:Lib.Utf8Tabs g3 g4 w):Hall w [(i,.el none g3 0 tabF),(j,.el none g4 0 tabA)]:=by
 obtain⟨h1,h2⟩:=tab_cells h
 exact⟨⟨rfl,rfl,h1,World.block_lt_of_cell? w _ (h1 0 (.int .u8 (firstT 0)) (by simp[tabF])),fun _ h=>h⟩,⟨rfl,rfl,h2,World.block_lt_of_cell? w _ (h2 0 (.int .u8 (accLo 0)) (by simp[tabA])),fun _ h=>h⟩,trivial⟩
end Go.A
end
section
set_option linter.unusedVariables false
namespace Go.A
open Go.RowKit Go.Z Go.Shelf Go.Proofs Go.Lib
theorem Ct.contains {P:Program}{ρ:Ren}{f g:Nat}(L:Lays.n144 P ρ)(hf:ρ.f 144=f)(hg:ρ.g 1=g)(s u:ByteArray)(m:Int)(r:Bool)(hr:gd (s.size<4294967281) (some (Lib.contains s.data.toList u.data.toList))=some r):
  Ct P f [.string s,.string u] [(0,.el none g 0 [.int .i64 m])] [] (fun v H'=>v=.bool r∧H'=[]):=fun w F hh=>by
 subst hf;subst hg
 obtain⟨hs,hr⟩:=gd_some hr
 have hr:=Option.some.inj hr
 subst hr
 have h1:Cells w ⟨ρ.g 1,0,none⟩ [.int .i64 m]:=(hh.hold 0 (.el none (ρ.g 1) 0 [.int .i64 m]) rfl).1
 have h2:=h1 0 (.int .i64 m) rfl
 rw[Addr.add_lit]at h2
 refine(Any.strings_Contains L s u m w hs h2).mono ?_
 rintro e w' ⟨rfl,rfl⟩
 exact⟨_,[],rfl,⟨rfl,rfl⟩,Ch.refl _,fun k r h=>(by cases h),fun k b ⟨_,h,_⟩=>(by cases h),fun k k' b ⟨_,h,_⟩=>(by cases h),fun k r j h=>(by cases h)⟩
end Go.A
end
section
set_option linter.unusedVariables false
set_option maxRecDepth 100000
namespace Go.Proofs.YtbljnlkhebiniaaGreatDoor
open Go.RowKit Go.Shelf Go.Lib
def F.strings_Contains (a0 a1:ByteArray):Option Bool:=A.gd (a0.size<4294967281) (some (Lib.contains a0.data.toList a1.data.toList))
end Go.Proofs.YtbljnlkhebiniaaGreatDoor
end
section
set_option linter.unusedVariables false
set_option linter.unusedSimpArgs false
set_option maxRecDepth 20000
set_option maxHeartbeats 8000000
set_option synthInstance.maxSize 1000000
set_option synthInstance.maxHeartbeats 400000
namespace Go.Proofs.YtbljnlkhebiniaaGreatDoor
open Go.RowKit
def F.cmp_Or_int_l1 (a0:(List Int)):Nat→Int→Option Int
 |0,_=>none
 |f+1,y1=>if y1<((a0).length:Int)then((A.ix a0 y1).bind fun x4=>(if x4≠0 then(some x4)else(A.gd (Z.R64 (y1+1)) ((F.cmp_Or_int_l1 a0 f) (y1+1)))))else(some 0)
def F.cmp_Or_int (a0:(List Int)):Option Int:=F.cmp_Or_int_l1 a0 A.FU 0
theorem cmp_Or_int_ok (a0:(List Int))(A0_:Option Addr)(c1_:Nat)(r:Int)(hF:F.cmp_Or_int a0=some r):
    A.Ct Tryz.prog 66 [.slice A0_ ((a0).length) c1_] [(0,.ln (Z.Ty.int .i64) A0_ c1_ a0)] [] (fun v H'=>v=.int .i64 r∧H'=[]∧IntKind.i64.has r):=by
 refine A.Ct.enter Tryz.func66 rfl Tryz.ntmps66 rfl fun w0 F0=>?_
 rw[F.cmp_Or_int]at hF
 refine A.xl 1 ?_
 refine A.q0 [] [] [.n] [] ?_
 refine A.dl 2 ?_
 refine A.q0 [] [] [.n] [(3,.int .i64 0)] ?_
 refine A.dl 3 ?_
 refine A.q0 [] [] [.n,.n,.n] [(6,.slice A0_ ((a0).length) c1_),(7,.int .i64 ((a0).length:Int)),(8,.int .i64 0)] ?_
 refine A.dx 2 ?_
 refine A.lp_ [3,6,7] [0] (fun f nl nh=>∃(y1:Int),nl=[(8,.int .i64 y1)]∧nh=[]∧IntKind.i64.has y1∧F.cmp_Or_int_l1 a0 f y1=some r) ⟨0,rfl,rfl,(A.hasl .i64 (0) rfl),hF⟩ ?_
 rintro f3 _ _ ⟨y1,rfl,rfl,hy2,hF⟩
 rcases f3 with _|f3
 ·exact A.no0 hF
 rw[F.cmp_Or_int_l1]at hF
 refine A.xl 1 ?_
 refine A.q0 [] [] [.n] [(9,.bool (decide (y1<((a0).length:Int))))] ?_
 refine A.dx 2 ?_
 refine A.AX.cnd rfl hF (fun hb hF=>?_) (fun hb hF=>?_)
 ·refine A.xl 5 ?_
  obtain⟨x4,hv5,hF⟩:=A.bd_some hF
  refine A.AL.ixl 0 3 hv5 fun ho6=>?_
  intro b7 o8
  refine A.q0 [] [3] [.e 0 0,.n] [(5,.int .i64 x4)] ?_
  refine A.dl 2 ?_
  refine A.q0 [] [] [.n,.n,.n] [(14,.bool (decide (x4≠0)))] ?_
  refine A.dx 1 ?_
  refine A.AX.cnd rfl hF (fun hb hF=>?_) (fun hb hF=>?_)
  ·refine A.xl 1 ?_
   refine A.q0 [] [] [.n,.n] [(2,.int .i64 x4)] ?_
   refine A.dx 1 ?_
   obtain rfl:=Option.some.inj hF
   exact A.rt1 [] ⟨rfl,rfl,ho6⟩
  refine A.xl 3 ?_
  obtain⟨hc9,hF⟩:=A.gd_some hF
  refine A.q [] [] [.n,.n] [Z.R64 (y1+1)] [(8,.int .i64 (y1+1))] hc9 ?_
  refine A.AL.done ?_
  exact A.j ⟨_,Nat.lt_succ_self _,⟨(y1+1),rfl,rfl,(Z.i64_has hc9),hF⟩⟩
 refine A.xl 3 ?_
 refine A.q0 [] [] [.n,.n] [(2,.int .i64 0)] ?_
 refine A.dx 1 ?_
 obtain rfl:=Option.some.inj hF
 exact A.rt1 [] ⟨rfl,rfl,(A.hasl .i64 (0) rfl)⟩
def F.cmp_isNaN_int64 (a0:Int):Option Bool:=some (decide (a0≠a0))
theorem cmp_isNaN_int64_ok (a0:Int)(h0_:IntKind.i64.has a0)(r:Bool)(hF:F.cmp_isNaN_int64 a0=some r):
    A.Ct Tryz.prog 114 [.int .i64 a0] [] [] (fun v H'=>v=.bool r∧H'=[]):=by
 refine A.Ct.enter Tryz.func114 rfl Tryz.ntmps114 rfl fun w0 F0=>?_
 rw[F.cmp_isNaN_int64]at hF
 refine A.xl 1 ?_
 refine A.q0 [] [] [.n] [] ?_
 refine A.dl 2 ?_
 refine A.q0 [] [] [.n,.n,.n,.n] [(2,.bool (decide (a0≠a0)))] ?_
 refine A.dx 1 ?_
 obtain rfl:=Option.some.inj hF
 exact A.rt1 [] ⟨rfl,rfl⟩
def F.cmp_Compare_int64 (a0:Int)(a1:Int):Option Int:=(F.cmp_isNaN_int64 a0).bind fun r1=>((F.cmp_isNaN_int64 a1).bind fun r3=>(if r1=true then(if r3=true then(some 0)else(some (-1)))else(if r3=true then(some 1)else(if a0<a1 then(some (-1))else(if a1<a0 then(some 1)else(some 0))))))
theorem cmp_Compare_int64_ok (a0:Int)(a1:Int)(h0_:IntKind.i64.has a0)(h1_:IntKind.i64.has a1)(r:Int)(hF:F.cmp_Compare_int64 a0 a1=some r):
    A.Ct Tryz.prog 67 [.int .i64 a0,.int .i64 a1] [] [] (fun v H'=>v=.int .i64 r∧H'=[]∧IntKind.i64.has r):=by
 refine A.Ct.enter Tryz.func67 rfl Tryz.ntmps67 rfl fun w0 F0=>?_
 rw[F.cmp_Compare_int64]at hF
 refine A.xl 1 ?_
 refine A.q0 [] [] [.n] [] ?_
 refine A.dl 2 ?_
 refine A.q0 [] [] [.n] [(7,.int .i64 a0)] ?_
 obtain⟨r1,hv2,hF⟩:=A.bd_some hF
 refine A.AL.call 0 [] (first:=[]) (cap:=[]) cf114 (cmp_isNaN_int64_ok a0 h0_ r1 hv2) .nil ?_
 rintro _ _ ⟨rfl,rfl⟩
 refine⟨by kernel_rfl,?_⟩
 refine A.q0 [] [] [.n] [(5,.bool r1)] ?_
 refine A.dl 2 ?_
 refine A.q0 [] [] [.n] [(9,.int .i64 a1)] ?_
 obtain⟨r3,hv4,hF⟩:=A.bd_some hF
 refine A.AL.call 40 [] (first:=[]) (cap:=[]) cf114 (cmp_isNaN_int64_ok a1 h1_ r3 hv4) .nil ?_
 rintro _ _ ⟨rfl,rfl⟩
 refine⟨by kernel_rfl,?_⟩
 refine A.q0 [] [] [.n] [(6,.bool r3)] ?_
 refine A.dl 3 ?_
 refine A.q0 [] [] [.n] [(11,.bool r1)] ?_
 refine A.dx 1 ?_
 refine A.AX.cnb rfl hF (fun hb hF=>?_) (fun hb hF=>?_)
 ·refine A.xl 2 ?_
  refine A.q0 [] [] [.n] [(12,.bool r3)] ?_
  refine A.dx 1 ?_
  refine A.AX.cnb rfl hF (fun hb hF=>?_) (fun hb hF=>?_)
  ·refine A.xl 1 ?_
   refine A.q0 [] [] [.n] [(4,.int .i64 0)] ?_
   refine A.dx 1 ?_
   obtain rfl:=Option.some.inj hF
   exact A.rt1 [] ⟨rfl,rfl,(A.hasl .i64 (0) rfl)⟩
  refine A.xl 3 ?_
  refine A.q0 [] [] [.n] [(4,.int .i64 (-1))] ?_
  refine A.dx 1 ?_
  obtain rfl:=Option.some.inj hF
  exact A.rt1 [] ⟨rfl,rfl,(A.hasl .i64 (-1) rfl)⟩
 refine A.xl 4 ?_
 refine A.q0 [] [] [.n] [(13,.bool r3)] ?_
 refine A.dx 1 ?_
 refine A.AX.cnb rfl hF (fun hb hF=>?_) (fun hb hF=>?_)
 ·refine A.xl 1 ?_
  refine A.q0 [] [] [.n] [(4,.int .i64 1)] ?_
  refine A.dx 1 ?_
  obtain rfl:=Option.some.inj hF
  exact A.rt1 [] ⟨rfl,rfl,(A.hasl .i64 (1) rfl)⟩
 refine A.xl 4 ?_
 refine A.q0 [] [] [.n,.n,.n] [(16,.bool (decide (a0<a1)))] ?_
 refine A.dx 1 ?_
 refine A.AX.cnd rfl hF (fun hb hF=>?_) (fun hb hF=>?_)
 ·refine A.xl 1 ?_
  refine A.q0 [] [] [.n] [(4,.int .i64 (-1))] ?_
  refine A.dx 1 ?_
  obtain rfl:=Option.some.inj hF
  exact A.rt1 [] ⟨rfl,rfl,(A.hasl .i64 (-1) rfl)⟩
 refine A.xl 4 ?_
 refine A.q0 [] [] [.n,.n,.n] [(19,.bool (decide (a1<a0)))] ?_
 refine A.dx 1 ?_
 refine A.AX.cnd rfl hF (fun hb hF=>?_) (fun hb hF=>?_)
 ·refine A.xl 1 ?_
  refine A.q0 [] [] [.n] [(4,.int .i64 1)] ?_
  refine A.dx 1 ?_
  obtain rfl:=Option.some.inj hF
  exact A.rt1 [] ⟨rfl,rfl,(A.hasl .i64 (1) rfl)⟩
 refine A.xl 3 ?_
 refine A.q0 [] [] [.n] [(4,.int .i64 0)] ?_
 refine A.dx 1 ?_
 obtain rfl:=Option.some.inj hF
 exact A.rt1 [] ⟨rfl,rfl,(A.hasl .i64 (0) rfl)⟩
def F.rec_Compare (a0:D43)(a1:D43):Option Int:=(F.cmp_Compare_int64 a0.1 a1.1).bind fun r3=>((F.strings_Compare a0.2 a1.2).bind fun r6=>((F.cmp_Or_int [r3,r6]).bind fun r10=>(some r10)))
theorem rec_Compare_ok (a0:D43)(a1:D43)(h0_:IntKind.i64.has a0.1)(h1_:a0.2.size≤maxLen)(h2_:IntKind.i64.has a1.1)(h3_:a1.2.size≤maxLen)(r:Int)(hF:F.rec_Compare a0 a1=some r):
    A.Ct Tryz.prog 35 [.agg #[.int .i64 a0.1,.string a0.2],.agg #[.int .i64 a1.1,.string a1.2]] [] [] (fun v H'=>v=.int .i64 r∧H'=[]∧IntKind.i64.has r):=by
 refine A.Ct.enter Tryz.func35 rfl Tryz.ntmps35 rfl fun w0 F0=>?_
 rw[F.rec_Compare]at hF
 refine A.xl 1 ?_
 refine A.AL.box 0 (cs:=[.int .i64 a0.1,.string a0.2]) fun g1=>?_
 refine A.AL.box 1 (cs:=[.int .i64 a1.1,.string a1.2]) fun g2=>?_
 refine A.q0 [] [] [.n] [] ?_
 refine A.dx 2 ?_
 refine A.AX.dr mixed 13 13 (A.mb 13 0) ?_
 refine A.hq A.pb [] [0,1] [0,1] [] (A.mb 13 495) 5 [(0,.n),(2,.n),(5,.n),(7,.n),(1,.b 0 0),(3,.b 1 0),(6,.b 0 1),(8,.b 1 1)] [(6,.int .i64 a0.1),(8,.int .i64 a1.1),(11,.string a0.2),(13,.string a1.2)] ?_
 refine A.AH.one 4 ?_
 obtain⟨r3,hv4,hF⟩:=A.bd_some hF
 refine A.AL.call 2 [] (first:=[]) (cap:=[]) cf67 (cmp_Compare_int64_ok a0.1 a1.1 h0_ h2_ r3 hv4) .nil ?_
 rintro _ _ ⟨rfl,rfl,hr5⟩
 refine⟨by kernel_rfl,?_⟩
 refine A.AH.nx (A.mb 13 511) [0,1] ?_
 refine A.AH.one 9 ?_
 obtain⟨r6,hv7,hF⟩:=A.bd_some hF
 refine A.AL.call 42 [] (first:=[]) (cap:=[]) cf68 (strings_Compare_ok a0.2 a1.2 h1_ h3_ r6 hv7) .nil ?_
 rintro _ _ ⟨rfl,rfl,hr8⟩
 refine⟨by kernel_rfl,?_⟩
 refine A.AH.nx (A.mb 13 1023) [0,1] ?_
 refine A.AH.one 10 ?_
 refine A.AL.bsl 82 (ty:=(Z.Ty.int .i64)) (cs:=[.int .i64 r3,.int .i64 r6]) [r3,r6] ⟨⟨rfl,hr5⟩,⟨⟨rfl,hr8⟩,rfl⟩⟩ (fun g9=>?_) Tryz.zeroValue3 Tryz.sizeOf3
 refine A.AH.nx (A.mb 13 2047) [0,1] ?_
 refine A.AH.one 11 ?_
 obtain⟨r10,hv11,hF⟩:=A.bd_some hF
 refine A.AL.call 83 [] (first:=[]) (cap:=[]) cf66 (cmp_Or_int_ok [r3,r6] (some ⟨g9,0,none⟩) 2 r10 hv11) (.o 82 .nil) ?_
 rintro _ _ ⟨rfl,rfl,hr12⟩
 refine⟨by kernel_rfl,?_⟩
 refine A.AH.nx (A.mb 13 4095) [0,1] ?_
 refine A.hq A.pb [0,1] [0,1,82] [] [] (A.mb 13 8191) 0 [(12,.n)] [(4,.int .i64 r10)] ?_
 refine A.AH.done ?_
 refine A.ex 1 ?_
 obtain rfl:=Option.some.inj hF
 exact A.rt1 [] ⟨rfl,rfl,hr12⟩
def F.rec_Check_j1 (y2:Bool):Option Int:=if y2=true then(some 50)else(some 0)
def F.rec_Check (a0:D43):Option Int:=if(64:Int)<(a0.2.size:Int)then(F.rec_Check_j1 true)else((F.utf8_ValidString a0.2).bind fun r3=>(F.rec_Check_j1 (!r3)))
theorem rec_Check_ok (a0:D43)(h0_:IntKind.i64.has a0.1)(h1_:a0.2.size≤maxLen)(r:Int)(hF:F.rec_Check a0=some r):
    A.Ct Tryz.prog 82 [.agg #[.int .i64 a0.1,.string a0.2]] [(0,.el none 1 0 A.tabF),(1,.el none 2 0 A.tabA)] [] (fun v H'=>v=.int .i64 r∧H'=[]∧IntKind.i64.has r):=by
 refine A.Ct.enter Tryz.func82 rfl Tryz.ntmps82 rfl fun w0 F0=>?_
 rw[F.rec_Check]at hF
 refine A.xl 1 ?_
 refine A.AL.box 2 (cs:=[.int .i64 a0.1,.string a0.2]) fun g1=>?_
 refine A.q0 [] [] [.n] [] ?_
 refine A.dx 2 ?_
 refine A.AX.join [] [0,1] (fun nl nh=>∃(y2:Bool),nl=[(12,.bool y2)]∧nh=[]∧F.rec_Check_j1 y2=some r) ?_ ?_
 ·refine A.xl 0 ?_
  refine A.q0 [2] [] [.n,.b 0 1,.n,.n,.n] [(7,.bool (decide ((64:Int)<(a0.2.size:Int))))] ?_
  refine A.AL.cnp (j:=7) rfl hF (fun hb hF=>?_) (fun hb hF=>?_)
  ·refine A.q0 [] [] [.off,.off,.off,.off,.n] [(12,.bool true)] ?_
   refine A.AL.done ?_
   exact A.j ⟨true,rfl,rfl,hF⟩
  refine A.q0 [2] [] [.on .n,.on (.b 0 1)] [(9,.string a0.2)] ?_
  refine A.AL.on (dj:=7) rfl rfl ?_
  obtain⟨r3,hv4,hF⟩:=A.bd_some hF
  refine A.AL.call 3 [] (first:=[]) (cap:=[]) cf122 (utf8_ValidString_ok a0.2 h1_ r3 hv4) (.s 0 (.s 1 .nil)) ?_
  rintro _ _ ⟨rfl,rfl⟩
  refine⟨by kernel_rfl,?_⟩
  refine A.q0 [] [] [.on .n,.n] [(12,.bool (!r3))] ?_
  refine A.AL.done ?_
  exact A.j ⟨(!r3),rfl,rfl,hF⟩
 rintro _ _ ⟨y2,rfl,rfl,hF⟩
 rw[F.rec_Check_j1]at hF
 refine A.AX.cnb rfl hF (fun hb hF=>?_) (fun hb hF=>?_)
 ·refine A.xl 1 ?_
  refine A.q0 [] [] [.n] [(2,.int .i64 50)] ?_
  refine A.dx 1 ?_
  obtain rfl:=Option.some.inj hF
  exact A.rt1 [] ⟨rfl,rfl,(A.hasl .i64 (50) rfl)⟩
 refine A.xl 3 ?_
 refine A.q0 [] [] [.n] [(2,.int .i64 0)] ?_
 refine A.dx 1 ?_
 obtain rfl:=Option.some.inj hF
 exact A.rt1 [] ⟨rfl,rfl,(A.hasl .i64 (0) rfl)⟩
def F.rec_CheckBag_1 (a0:D69):Option Bool:=(F.rec_Check (a0.1.1,a0.1.2)).bind fun r2=>(some (decide (r2≠0)))
theorem rec_CheckBag_1_ok (a0:D69)(h0_:IntKind.i64.has a0.1.1)(h1_:a0.1.2.size≤maxLen)(h2_:IntKind.i64.has a0.2)(r:Bool)(hF:F.rec_CheckBag_1 a0=some r):
    A.Ct Tryz.prog 84 [.agg #[.int .i64 a0.1.1,.string a0.1.2,.int .i64 a0.2]] [(0,.el none 1 0 A.tabF),(1,.el none 2 0 A.tabA)] [] (fun v H'=>v=.bool r∧H'=[]):=by
 refine A.Ct.enter Tryz.func84 rfl Tryz.ntmps84 rfl fun w0 F0=>?_
 rw[F.rec_CheckBag_1]at hF
 refine A.xl 1 ?_
 refine A.AL.box 2 (cs:=[.int .i64 a0.1.1,.string a0.1.2,.int .i64 a0.2]) fun g1=>?_
 refine A.q0 [] [] [.n] [] ?_
 refine A.dl 2 ?_
 refine A.q0 [2] [] [.n,.b 0 0] [(4,.agg #[.int .i64 a0.1.1,.string a0.1.2])] ?_
 obtain⟨r2,hv3,hF⟩:=A.bd_some hF
 refine A.AL.call 3 [] (first:=[]) (cap:=[]) cf82 (rec_Check_ok (a0.1.1,a0.1.2) h0_ h1_ r2 hv3) (.s 0 (.s 1 .nil)) ?_
 rintro _ _ ⟨rfl,rfl,hr4⟩
 refine⟨by kernel_rfl,?_⟩
 refine A.q0 [] [] [.n,.n] [(2,.bool (decide (r2≠0)))] ?_
 refine A.dx 1 ?_
 obtain rfl:=Option.some.inj hF
 exact A.rt1 [] ⟨rfl,rfl⟩
def F.slices_IndexFunc_api_Many_api_Many_rec_CheckBag_1_l1 (a0:(List D69)):Nat→Int→Option Int
 |0,_=>none
 |f+1,y1=>if y1<((a0).length:Int)then((A.ix a0 y1).bind fun x4=>((F.rec_CheckBag_1 ((x4.1.1,x4.1.2),x4.2)).bind fun r9=>(if r9=true then(some y1)else(A.gd (Z.R64 (y1+1)) ((F.slices_IndexFunc_api_Many_api_Many_rec_CheckBag_1_l1 a0 f) (y1+1))))))else(some (-1))
def F.slices_IndexFunc_api_Many_api_Many_rec_CheckBag_1 (a0:(List D69)):Option Int:=F.slices_IndexFunc_api_Many_api_Many_rec_CheckBag_1_l1 a0 A.FU 0
theorem slices_IndexFunc_api_Many_api_Many_rec_CheckBag_1_ok (a0:(List D69))(A0_:Option Addr)(c1_:Nat)(r:Int)(hF:F.slices_IndexFunc_api_Many_api_Many_rec_CheckBag_1 a0=some r):
    A.Ct Tryz.prog 123 [.slice A0_ ((a0).length) c1_,.func (.func 84) #[] #[]] [(0,.ln T69 A0_ c1_ a0),(1,.el none 1 0 A.tabF),(2,.el none 2 0 A.tabA)] [] (fun v H'=>v=.int .i64 r∧H'=[]∧IntKind.i64.has r):=by
 refine A.Ct.enter Tryz.func123 rfl Tryz.ntmps123 rfl fun w0 F0=>?_
 rw[F.slices_IndexFunc_api_Many_api_Many_rec_CheckBag_1]at hF
 refine A.xl 1 ?_
 refine A.q0 [] [] [.n] [] ?_
 refine A.dl 3 ?_
 refine A.q0 [] [] [.n,.n,.n] [(7,.int .i64 ((a0).length:Int)),(8,.int .i64 0)] ?_
 refine A.dx 2 ?_
 refine A.lp_ [0,1,7] [0,1,2] (fun f nl nh=>∃(y1:Int),nl=[(8,.int .i64 y1)]∧nh=[]∧IntKind.i64.has y1∧F.slices_IndexFunc_api_Many_api_Many_rec_CheckBag_1_l1 a0 f y1=some r) ⟨0,rfl,rfl,(A.hasl .i64 (0) rfl),hF⟩ ?_
 rintro f3 _ _ ⟨y1,rfl,rfl,hy2,hF⟩
 rcases f3 with _|f3
 ·exact A.no0 hF
 rw[F.slices_IndexFunc_api_Many_api_Many_rec_CheckBag_1_l1]at hF
 refine A.xl 1 ?_
 refine A.q0 [] [] [.n] [(9,.bool (decide (y1<((a0).length:Int))))] ?_
 refine A.dx 2 ?_
 refine A.AX.cnd rfl hF (fun hb hF=>?_) (fun hb hF=>?_)
 ·refine A.xl 5 ?_
  refine A.q0 [] [] [.n,.n] [(5,.int .i64 y1)] ?_
  refine A.dl 2 ?_
  refine A.q0 [] [] [.n,.n,.n] [(11,.func (.func 84) #[] #[]),(12,.slice A0_ ((a0).length) c1_),(13,.int .i64 y1)] ?_
  obtain⟨x4,hv5,hF⟩:=A.bd_some hF
  refine A.AL.ixl 0 85 hv5 fun ho6=>?_
  intro b7 o8
  refine A.q0 [] [85] [.e 0 0] [(15,.agg #[.int .i64 x4.1.1,.string x4.1.2,.int .i64 x4.2])] ?_
  obtain⟨r9,hv10,hF⟩:=A.bd_some hF
  refine A.AL.call 86 [] (first:=[]) (cap:=[]) cf84 (rec_CheckBag_1_ok ((x4.1.1,x4.1.2),x4.2) ho6.1.1 ho6.1.2 ho6.2 r9 hv10) (.s 1 (.s 2 .nil)) ?_
  rintro _ _ ⟨rfl,rfl⟩
  refine⟨by kernel_rfl,?_⟩
  refine A.dx 1 ?_
  refine A.AX.cnb rfl hF (fun hb hF=>?_) (fun hb hF=>?_)
  ·refine A.xl 1 ?_
   refine A.q0 [] [] [.n,.n] [(4,.int .i64 y1)] ?_
   refine A.dx 1 ?_
   obtain rfl:=Option.some.inj hF
   exact A.rt1 [] ⟨rfl,rfl,hy2⟩
  refine A.xl 3 ?_
  obtain⟨hc11,hF⟩:=A.gd_some hF
  refine A.q [] [] [.n,.n] [Z.R64 (y1+1)] [(8,.int .i64 (y1+1))] hc11 ?_
  refine A.AL.done ?_
  exact A.j ⟨_,Nat.lt_succ_self _,⟨(y1+1),rfl,rfl,(Z.i64_has hc11),hF⟩⟩
 refine A.xl 3 ?_
 refine A.q0 [] [] [.n] [(4,.int .i64 (-1))] ?_
 refine A.dx 1 ?_
 obtain rfl:=Option.some.inj hF
 exact A.rt1 [] ⟨rfl,rfl,(A.hasl .i64 (-1) rfl)⟩
def F.slices_ContainsFunc_api_Many_api_Many_rec_CheckBag_1 (a0:(List D69)):Option Bool:=(F.slices_IndexFunc_api_Many_api_Many_rec_CheckBag_1 a0).bind fun r1=>(some (decide ((0:Int)≤r1)))
theorem slices_ContainsFunc_api_Many_api_Many_rec_CheckBag_1_ok (a0:(List D69))(A0_:Option Addr)(c1_:Nat)(r:Bool)(hF:F.slices_ContainsFunc_api_Many_api_Many_rec_CheckBag_1 a0=some r):
    A.Ct Tryz.prog 83 [.slice A0_ ((a0).length) c1_,.func (.func 84) #[] #[]] [(0,.ln T69 A0_ c1_ a0),(1,.el none 1 0 A.tabF),(2,.el none 2 0 A.tabA)] [] (fun v H'=>v=.bool r∧H'=[]):=by
 refine A.Ct.enter Tryz.func83 rfl Tryz.ntmps83 rfl fun w0 F0=>?_
 rw[F.slices_ContainsFunc_api_Many_api_Many_rec_CheckBag_1]at hF
 refine A.xl 1 ?_
 refine A.q0 [] [] [.n] [] ?_
 refine A.dl 2 ?_
 refine A.q0 [] [] [.n,.n] [(5,.slice A0_ ((a0).length) c1_),(6,.func (.func 84) #[] #[])] ?_
 obtain⟨r1,hv2,hF⟩:=A.bd_some hF
 refine A.AL.call 3 [] (first:=[]) (cap:=[]) cf123 (slices_IndexFunc_api_Many_api_Many_rec_CheckBag_1_ok a0 A0_ c1_ r1 hv2) (.s 0 (.s 1 (.s 2 .nil))) ?_
 rintro _ _ ⟨rfl,rfl,hr3⟩
 refine⟨by kernel_rfl,?_⟩
 refine A.q0 [] [] [.n,.n] [(4,.bool (decide ((0:Int)≤r1)))] ?_
 refine A.dx 1 ?_
 obtain rfl:=Option.some.inj hF
 exact A.rt1 [] ⟨rfl,rfl⟩
def F.rec_CheckBag_j1 (k1:Int→Option Int)(y3:Int)(y12:Bool):Option Int:=if y12=true then(some 51)else(A.gd (Z.R64 (y3+1)) (k1 (y3+1)))
def F.rec_CheckBag_l2 (a0:(List D69)):Nat→Int→Option Int
 |0,_=>none
 |f+1,y3=>if y3<((a0).length:Int)then((A.ix a0 y3).bind fun x6=>(if(bif decide (x6.2<1)then true else decide ((1048576:Int)<x6.2))=true then(F.rec_CheckBag_j1 (F.rec_CheckBag_l2 a0 f) y3 true)else(if(0:Int)<y3 then(A.gd (Z.R64 (y3-1)) ((A.ix a0 (y3-1)).bind fun x15=>((F.rec_Compare (x15.1.1,x15.1.2) (x6.1.1,x6.1.2)).bind fun r21=>(F.rec_CheckBag_j1 (F.rec_CheckBag_l2 a0 f) y3 (decide ((0:Int)≤r21))))))else(F.rec_CheckBag_j1 (F.rec_CheckBag_l2 a0 f) y3 false))))else(some 0)
def F.rec_CheckBag (a0:(List D69)):Option Int:=(F.slices_ContainsFunc_api_Many_api_Many_rec_CheckBag_1 a0).bind fun r1=>(if r1=true then(some 50)else(F.rec_CheckBag_l2 a0 A.FU 0))
theorem rec_CheckBag_ok (a0:(List D69))(A0_:Option Addr)(c1_:Nat)(r:Int)(hF:F.rec_CheckBag a0=some r):
    A.Ct Tryz.prog 45 [.slice A0_ ((a0).length) c1_] [(0,.ln T69 A0_ c1_ a0),(1,.el none 1 0 A.tabF),(2,.el none 2 0 A.tabA)] [] (fun v H'=>v=.int .i64 r∧H'=[]∧IntKind.i64.has r):=by
 refine A.Ct.enter Tryz.func45 rfl Tryz.ntmps45 rfl fun w0 F0=>?_
 rw[F.rec_CheckBag]at hF
 refine A.xl 1 ?_
 refine A.q0 [] [] [.n] [] ?_
 refine A.dl 3 ?_
 refine A.q0 [] [] [.n] [(5,.slice A0_ ((a0).length) c1_)] ?_
 obtain⟨r1,hv2,hF⟩:=A.bd_some hF
 refine A.AL.call 3 [] (first:=[]) (cap:=[]) cf83 (slices_ContainsFunc_api_Many_api_Many_rec_CheckBag_1_ok a0 A0_ c1_ r1 hv2) (.s 0 (.s 1 (.s 2 .nil))) ?_
 rintro _ _ ⟨rfl,rfl⟩
 refine⟨by kernel_rfl,?_⟩
 refine A.dx 1 ?_
 refine A.AX.cnb rfl hF (fun hb hF=>?_) (fun hb hF=>?_)
 ·refine A.xl 1 ?_
  refine A.q0 [] [] [.n] [(2,.int .i64 50)] ?_
  refine A.dx 1 ?_
  obtain rfl:=Option.some.inj hF
  exact A.rt1 [] ⟨rfl,rfl,(A.hasl .i64 (50) rfl)⟩
 refine A.xl 4 ?_
 refine A.q0 [] [] [.n,.n,.n] [(7,.slice A0_ ((a0).length) c1_),(8,.int .i64 ((a0).length:Int)),(9,.int .i64 0)] ?_
 refine A.dx 2 ?_
 refine A.lp_ [0,7,8] [0,1,2] (fun f nl nh=>∃(y3:Int),nl=[(9,.int .i64 y3)]∧nh=[]∧IntKind.i64.has y3∧F.rec_CheckBag_l2 a0 f y3=some r) ⟨0,rfl,rfl,(A.hasl .i64 (0) rfl),hF⟩ ?_
 rintro f5 _ _ ⟨y3,rfl,rfl,hy4,hF⟩
 rcases f5 with _|f5
 ·exact A.no0 hF
 rw[F.rec_CheckBag_l2]at hF
 refine A.xl 1 ?_
 refine A.q0 [] [] [.n] [(10,.bool (decide (y3<((a0).length:Int))))] ?_
 refine A.dx 2 ?_
 refine A.AX.cnd rfl hF (fun hb hF=>?_) (fun hb hF=>?_)
 ·refine A.xl 5 ?_
  refine A.q0 [] [] [.n] [(11,.int .i64 y3)] ?_
  obtain⟨x6,hv7,hF⟩:=A.bd_some hF
  refine A.AL.ixl 0 129 hv7 fun ho8=>?_
  intro b9 o10
  refine A.q0 [] [129] [.e 0 0] [(13,.agg #[.int .i64 x6.1.1,.string x6.1.2,.int .i64 x6.2])] ?_
  refine A.AL.alloc 130 (cs:=[.int .i64 0,.string (ByteArray.mk #[]),.int .i64 0]) Tryz.zeroValue70 fun g11=>?_
  refine A.q0 [] [] [.n] [(3,.int .i64 y3)] ?_
  refine A.sw 130 [] [.int .i64 x6.1.1,.string x6.1.2,.int .i64 x6.2] ?_
  refine A.dx 1 ?_
  refine A.AX.join [0,7,8,9] [0,1,2] (fun nl nh=>∃(y12:Bool),nl=[(37,.bool y12)]∧nh=[]∧F.rec_CheckBag_j1 (F.rec_CheckBag_l2 a0 f5) y3 y12=some r) ?_ ?_
  ·refine A.AX.dr mixed 24 24 (A.mb 24 0) ?_
   refine A.hq A.pb [] [0,1,2,129,130] [130] [] (A.mb 24 511) 15 [(0,.n),(1,.b 0 2),(2,.n),(3,.n),(4,.sy .n),(5,.sy (.b 0 2)),(6,.sy .n),(7,.pk),(8,.n)] [(22,.bool (bif decide (x6.2<1)then true else decide ((1048576:Int)<x6.2)))] ?_
   refine A.AH.cnd (j:=22) rfl hF (fun hF=>?_) (fun hF=>?_)
   ·refine A.hq A.pb [0,1,2,129,130] [0,1,2,129,130] [] [] (A.mb 24 16777215) 0 [(9,.off),(10,.off),(11,.off),(12,.off),(13,.off),(18,.off),(14,.off),(19,.off),(15,.off),(16,.off),(17,.off),(20,.off),(21,.off),(22,.off),(23,.n)] [(37,.bool true)] ?_
    refine A.AH.done ?_
    exact A.j ⟨true,rfl,rfl,hF⟩
   refine A.hq A.pb [0,1,2,129,130] [0,1,2,129,130] [] [] (A.mb 24 4095) 12 [(9,.on .n),(10,.on .n),(11,.on .n)] [(25,.bool (decide ((0:Int)<y3)))] ?_
   refine A.AH.cnp (j:=25) rfl hF (fun hb hF=>?_) (fun hb hF=>?_)
   ·obtain⟨hc14,hF⟩:=A.gd_some hF
    refine A.AH.q A.pb [0,1,2,129,130] [0,1,2,129,130] [130] [] (A.mb 24 819199) 7 [(12,.on .n),(13,.on .n),(18,.on .n),(14,.on .n),(19,.on (.b 0 0))] [26,28,33] [Z.R64 (y3-1)] [(26,.slice A0_ ((a0).length) c1_),(28,.int .i64 (y3-1)),(33,.agg #[.int .i64 x6.1.1,.string x6.1.2])] hc14 ?_
    obtain⟨x15,hv16,hF⟩:=A.bd_some hF
    refine A.AH.pkl 0 131 hv16 fun ho17=>?_
    intro b19 o20 hA18
    refine A.AH.vg A.pb [0,1,2,129,130] [0,1,2,129,130,131] 15 (A.mb 24 851967) (dj:=25) rfl (fun a w hf hh=>A.r_ixa (t:=T69) hv16 hA18 hf) ?_
    refine A.hq A.pb [0,1,2,129,130,131] [0,1,2,129,130,131] [] [131] (A.mb 24 1048575) 4 [(16,.on .n),(17,.on (.e 0 0))] [(31,.agg #[.int .i64 x15.1.1,.string x15.1.2])] ?_
    refine A.AH.one 20 ?_
    refine A.AL.on (dj:=25) rfl rfl ?_
    obtain⟨r21,hv22,hF⟩:=A.bd_some hF
    refine A.AL.call 132 [] (first:=[]) (cap:=[]) cf35 (rec_Compare_ok (x15.1.1,x15.1.2) (x6.1.1,x6.1.2) ho17.1.1 ho17.1.2 ho8.1.1 ho8.1.2 r21 hv22) .nil ?_
    rintro _ _ ⟨rfl,rfl,hr23⟩
    refine⟨by kernel_rfl,?_⟩
    refine A.AH.nx (A.mb 24 2097151) [0,1,2,129,130,131] ?_
    refine A.hq A.pb [0,1,2,129,130,131] [0,1,2,129,130,131] [] [] (A.mb 24 16777215) 0 [(21,.on .n),(22,.on .n),(23,.n)] [(37,.bool (decide ((0:Int)≤r21)))] ?_
    refine A.AH.done ?_
    exact A.j ⟨(decide ((0:Int)≤r21)),rfl,rfl,hF⟩
   refine A.hq A.pb [0,1,2,129,130] [0,1,2,129,130] [] [] (A.mb 24 16777215) 0 [(12,.off),(13,.off),(18,.off),(14,.off),(19,.off),(15,.off),(16,.off),(17,.off),(20,.off),(21,.off),(22,.on .n),(23,.n)] [(37,.bool false)] ?_
   refine A.AH.done ?_
   exact A.j ⟨false,rfl,rfl,hF⟩
  rintro _ _ ⟨y12,rfl,rfl,hF⟩
  rw[F.rec_CheckBag_j1]at hF
  refine A.AX.cnb rfl hF (fun hb hF=>?_) (fun hb hF=>?_)
  ·refine A.xl 1 ?_
   refine A.q0 [] [] [.n] [(2,.int .i64 51)] ?_
   refine A.dx 1 ?_
   obtain rfl:=Option.some.inj hF
   exact A.rt1 [] ⟨rfl,rfl,(A.hasl .i64 (51) rfl)⟩
  refine A.xl 3 ?_
  obtain⟨hc13,hF⟩:=A.gd_some hF
  refine A.q [] [] [.n,.n] [Z.R64 (y3+1)] [(9,.int .i64 (y3+1))] hc13 ?_
  refine A.AL.done ?_
  exact A.j ⟨_,Nat.lt_succ_self _,⟨(y3+1),rfl,rfl,(Z.i64_has hc13),hF⟩⟩
 refine A.xl 3 ?_
 refine A.q0 [] [] [.n] [(2,.int .i64 0)] ?_
 refine A.dx 1 ?_
 obtain rfl:=Option.some.inj hF
 exact A.rt1 [] ⟨rfl,rfl,(A.hasl .i64 (0) rfl)⟩
def F.slices_Clone_api_Many_api_Many (a0:(List D69)):Option (List D69):=A.gd ((List.length (α:=D69) []+List.length (α:=D69) a0)*32≤140737488355328) (some ([]++a0))
theorem slices_Clone_api_Many_api_Many_ok (a0:(List D69))(A0_:Option Addr)(c1_:Nat)(r:(List D69))(hF:F.slices_Clone_api_Many_api_Many a0=some r):
    A.Ct Tryz.prog 46 [.slice A0_ ((a0).length) c1_] [(0,.ln T69 A0_ c1_ a0)] [] (fun v H'=>∃(A0':Option Addr) (c1':Nat),v=.slice A0' ((r).length) c1'∧H'=[(0,.own T69 70 A0' c1' r)]):=by
 refine A.Ct.enter Tryz.func46 rfl Tryz.ntmps46 rfl fun w0 F0=>?_
 rw[F.slices_Clone_api_Many_api_Many]at hF
 refine A.xl 1 ?_
 refine A.q0 [] [] [.n] [] ?_
 refine A.dl 3 ?_
 refine A.q0 [] [] [.n,.n] [(4,.bool A0_.isNone)] ?_
 refine A.dx 1 ?_
 refine A.AX.cnn rfl (fun hb=>?_) (fun hb=>?_)
 ·refine A.nilL 0 hb fun hb=>?_
  subst hb
  replace hF:some []=some r:=by simpa[A.gd,A.ix] using hF
  refine A.xl 1 ?_
  refine A.q0 [] [] [.n] [(2,.slice none 0 0)] ?_
  refine A.dx 1 ?_
  obtain rfl:=Option.some.inj hF
  refine A.nil 2 T69 70 ?_
  exact A.rt1 [(0,2)] ⟨none,0,rfl,rfl⟩
 refine A.xl 3 ?_
 refine A.AL.bs0 1 T69 (fun g1=>?_) Tryz.sizeOf70
 refine A.q0 [] [] [.n] [(6,.slice A0_ ((a0).length) c1_)] ?_
 obtain⟨hl4,hF⟩:=A.gd_some hF
 refine A.AL.app (k:=1) [] (A.rowL (k:=0) rfl) inf70 hl4 fun A2 c3=>?_
 refine A.q0 [] [] [.n] [(2,.slice A2 (([]++a0).length) c3)] ?_
 refine A.dx 1 ?_
 obtain rfl:=Option.some.inj hF
 exact A.rt1 [(0,1)] ⟨A2,c3,rfl,rfl⟩
def F.oper_Keys_j1 (xs4:List D69):Option ((List D69)):=(F.slices_Clone_api_Many_api_Many xs4).bind fun r5=>(some r5)
def F.oper_Keys (a0:(List D69)):Option ((List D69)):=(F.rec_CheckBag a0).bind fun r9=>(if r9≠0 then(F.oper_Keys_j1 [])else(F.oper_Keys_j1 a0))
theorem oper_Keys_ok (a0:(List D69))(A0_:Option Addr)(c1_:Nat)(r:((List D69)))(hF:F.oper_Keys a0=some r):
    A.Ct Tryz.prog 16 [.slice A0_ ((a0).length) c1_] [(0,.sh (.slice T69) [.slice A0_ (a0).length c1_] a0),(1,.el none 1 0 A.tabF),(2,.el none 2 0 A.tabA)] [] (fun v H'=>∃(g0':Nat) (A1':Option Addr) (c2':Nat),v=.func (.func 47) #[] #[.pointer (some ⟨g0',0,none⟩)]∧H'=[(0,.blk g0' 30 [.slice A1' ((r).length) c2']),(1,.sh (.slice T69) [.slice A1' (r).length c2'] r)]):=by
 refine A.Ct.enter Tryz.func16 rfl Tryz.ntmps16 rfl fun w0 F0=>?_
 rw[F.oper_Keys]at hF
 refine A.xl 1 ?_
 refine A.AL.box 3 (cs:=[.slice A0_ ((a0).length) c1_]) fun g1=>?_
 refine A.q0 [] [] [.n] [] ?_
 refine A.dx 1 ?_
 refine A.AX.join [1] [1,2] (fun nl nh=>∃(xs4:List D69),∃(A2:Option Addr),∃(c3:Nat),nl=[]∧nh=[(3,.blk g1 30 [.slice A2 ((xs4).length) c3]),(44,.sh (.slice T69) [.slice A2 (xs4).length c3] xs4)]∧F.oper_Keys_j1 xs4=some r) ?_ ?_
 ·refine A.xl 1 ?_
  refine A.q0 [3] [] [.b 0 0] [(3,.slice A0_ ((a0).length) c1_)] ?_
  obtain⟨r9,hv10,hF⟩:=A.bd_some hF
  refine A.AL.call 4 [] (first:=[]) (cap:=[]) cf45 (rec_CheckBag_ok a0 A0_ c1_ r9 hv10) (.l 0 (.s 1 (.s 2 .nil))) ?_
  rintro _ _ ⟨rfl,rfl,hr11⟩
  refine⟨by kernel_rfl,?_⟩
  refine A.q0 [] [] [.n] [(5,.bool (decide (r9≠0)))] ?_
  refine A.dx 1 ?_
  refine A.AX.cnd rfl hF (fun hb hF=>?_) (fun hb hF=>?_)
  ·refine A.xl 0 ?_
   refine A.sw 3 [] [.slice none 0 0] ?_
   refine A.AL.done ?_
   refine A.snil 44 T69 ?_
   exact A.j ⟨[],none,0,rfl,rfl,hF⟩
  refine A.xe 1 ?_
  refine A.dup 0 44 ?_
  exact A.j ⟨a0,A0_,c1_,rfl,rfl,hF⟩
 rintro _ _ ⟨xs4,A2,c3,rfl,rfl,hF⟩
 rw[F.oper_Keys_j1]at hF
 refine A.xl 1 ?_
 refine A.q0 [3] [] [.b 0 0] [(6,.slice A2 ((xs4).length) c3)] ?_
 obtain⟨r5,hv6,hF⟩:=A.bd_some hF
 refine A.AL.call 45 [] (first:=[]) (cap:=[]) cf46 (slices_Clone_api_Many_api_Many_ok xs4 A2 c3 r5 hv6) (.l 44 .nil) ?_
 rintro _ _ ⟨A7,c8,rfl,rfl⟩
 refine⟨by kernel_rfl,?_⟩
 refine A.sw 3 [] [.slice A7 ((r5).length) c8] ?_
 refine A.dl 2 ?_
 refine A.q0 [] [] [.n,.n] [(2,.func (.func 47) #[] #[.pointer (some ⟨g1,0,none⟩)])] ?_
 refine A.dx 1 ?_
 obtain rfl:=Option.some.inj hF
 refine A.frz 45 [] ?_
 exact A.rt1 [(0,3),(1,45)] ⟨g1,A7,c8,rfl,rfl⟩
end Go.Proofs.YtbljnlkhebiniaaGreatDoor
end
section
set_option linter.unusedVariables false
set_option linter.unusedSimpArgs false
namespace Go.A
open Go.RowKit Go.Z
theorem cat_le {s u:ByteArray}(h:s.size+u.size≤9223372036854775807):(s++u).size≤maxLen:=by
 rw[ByteArray.size_append];simpa[maxLen] using h
theorem si_has {p:Nat}{s:ByteArray}(h:p<s.size)(hs:s.size≤maxLen):IntKind.i64.has (p:Int):=has_nat (by omega)
theorem mk_le {xs:List UInt8}(h:xs.length≤maxLen):(ByteArray.mk xs.toArray).size≤maxLen:=by simpa[ByteArray.size] using h
def b8 (x:Int):UInt8:=UInt8.ofNat (x%256).toNat
theorem b8_wrap (x:Int):IntKind.u8.wrap x=((b8 x).toNat:Int):=by
 have h1:=Int.emod_nonneg x (show(256:Int)≠0 by decide)
 have h2:=Int.emod_lt_of_pos x (show(0:Int)<256 by decide)
 have h3:IntKind.u8.wrap x=x%256:=by simp[IntKind.wrap,IntKind.bits,IntKind.signed]
 have h4:(b8 x).toNat=(x%256).toNat:=by
  unfold b8
  rw[UInt8.toNat_ofNat']
  omega
 rw[h3,h4];omega
def Fz (fz:Nat×Nat)(n:Nat):Prop:=∀j,j<n→¬(fz.1≤j∧j<fz.2)
def Bs (e:TypeId)(c:Nat)(xs:List UInt8):Obj→Prop:=fun o=>∃(cur:Array Value) (fz:Nat×Nat),o=.cells cur e fz∧Fz fz c∧cur.size=c∧c≤maxLen∧xs.length≤c∧∀(j:Nat) (b:UInt8),xs[j]?=some b→cur[j]?=some (.int .u8 (b.toNat:Int))
theorem Bs.cell {w:World}{g:Nat}{e:TypeId}{c:Nat}{xs:List UInt8}{o:Obj}(ho:w.heap[g]?=some o)(h:Bs e c xs o){j:Nat}{b:UInt8}(hj:xs[j]?=some b):w.cell? ⟨g,j,none⟩=some (.int .u8 (b.toNat:Int)):=by
 obtain⟨cur,fz,rfl,_,_,_,_,h5⟩:=h
 rw[cell_of_row w g j cur e _ ho]
 exact h5 j b hj
section
variable {r:Option Nat}{P:Program}{ops:Array Oper}{Q:Exit→Act→World→Prop}{rest:List Oper}{C:Cx}{l:List (Nat×Value)}{H:List (Nat×Res)}{d:Nat}{T:TypeId}{pos:String}{af:Array Edge}
theorem okB {X:Act→World→Prop}(k:Nat){g:Nat}{e:TypeId}{c:Nat}{xs:List UInt8}(h:xs.length≤maxLen→∀a w,Fr a C.n C.ds l→Hp C H w→X a w)(hk1:hk H k=some (.ob g (Bs e c xs)):=by rfl): ∀a w,Fr a C.n C.ds l→Hp C H w→X a w:=fun a w hf hh=>by
 obtain⟨o,ho,hb⟩: ∃o,w.heap[g]?=some o∧Bs e c xs o:=hh.hold k _ hk1
 obtain⟨cur,_,_,_,_,h3,h4,_⟩:=hb
 exact h (Nat.le_trans h4 h3) a w hf hh
theorem AL.cvb (k:Nat){src dst e:TypeId}{x:Operand}{s:ByteArray}(hs:s.size≤maxLen)(h: ∀g c,AL r P ops Q rest C ((d,.slice (some ⟨g,0,none⟩) s.data.toList.length c)::l) ((k,.ob g (Bs e c s.data.toList))::H))
  (h1:P.underlying src=some .string:=by rfl) (h2:P.underlying dst=some (.slice e):=by rfl) (h3:P.underlying e=some (.int .u8):=by rfl) (hx:ev l x=some (.string s):=by rfl) (hd:Nat.ble (d+1) C.n=true:=by rfl) (hn:hk H k=none:=by kernel_rfl):
  AL r P ops Q (⟨some d,.convert src dst x,T,pos,af,none⟩::rest) C l H:=fun a w hf hh=>by
 have hge:=grownCap_ge w s.size 0 e
 have hcm:grownCap w s.size 0 e≤maxLen:=grownCap_le_maxLen w s.size 0 e hs
 have hsz:(bytesRow s (grownCap w s.size 0 e)).size=grownCap w s.size 0 e:=by
  have:s.data.size=s.size:=rfl
  simp[bytesRow,this];omega
 refine Z.valw (w':=w.drew.alloc (.cells (bytesRow s (grownCap w s.size 0 e)) e ((bytesRow s (grownCap w s.size 0 e)).size,(bytesRow s (grownCap w s.size 0 e)).size+1))) (v:=.slice (some ⟨w.heap.size,0,none⟩) s.data.toList.length (grownCap w s.size 0 e)) hf hd ?_ fun a' hf'=>h _ _ a' _ hf' (hh.new hn ?_ (fun b hb'=>?_) (fun j hj=>by cases hj) fun _ _ _ _ _=>?_)
 ·simp[execOp,hf.eval hx,run_bytes_of_string w src dst e s h1 h2 h3]
 ·have hc:=Ch.alloc w.drew (.cells (bytesRow s (grownCap w s.size 0 e)) e ((bytesRow s (grownCap w s.size 0 e)).size,(bytesRow s (grownCap w s.size 0 e)).size+1))
  exact⟨hc.os,hc.tape,hc.output,hc.size,hc.block⟩
 ·simp only[Res.bl,List.mem_singleton]at hb'
  subst hb'
  exact⟨Nat.le_refl _,by rw[World.size_alloc];exact Nat.lt_succ_self _⟩
 ·refine⟨_,World.alloc_heap_new w.drew _,bytesRow s (grownCap w s.size 0 e),_,rfl,fun j hj h=>by rw[hsz]at h;exact absurd h.1 (Nat.not_le_of_lt hj),hsz,hcm,hge,fun j b hj=>?_⟩
  have hlt:=(List.getElem?_eq_some_iff.1 hj).1
  have hj2:s.data[j]?=some b:=by rw[←Array.getElem?_toList];exact hj
  unfold bytesRow
  rw[Array.getElem?_append_left (by simpa using hlt),Array.getElem?_map,hj2]
  rfl
theorem AL.cbs (k:Nat){src dst e:TypeId}{x:Operand}{c g n:Nat}{xs:List UInt8}(hlen:n=xs.length)(h:AL r P ops Q rest C ((d,.string ⟨xs.toArray⟩)::l) H)
  (hk1:hk H k=some (.ob g (Bs e c xs)):=by rfl) (hx:ev l x=some (.slice (some ⟨g,0,none⟩) n c):=by rfl)
  (h1:P.underlying src=some (.slice e):=by rfl) (h2:P.underlying e=some (.int .u8):=by rfl) (h3:P.underlying dst=some .string:=by rfl) (hd:Nat.ble (d+1) C.n=true:=by rfl):
  AL r P ops Q (⟨some d,.convert src dst x,T,pos,af,none⟩::rest) C l H:=fun a w hf hh=>by
 subst hlen
 obtain⟨o,ho,hb⟩: ∃o,w.heap[g]?=some o∧Bs e c xs o:=hh.hold k _ hk1
 refine Z.val hf hd ?_ fun a' hf'=>h a' w hf' hh
 have:=run_convert_bytes_back (P:=P) w src dst e ⟨g,0,none⟩ c xs h1 h2 h3 fun j hj=>by
  rw[Addr.add_lit,Nat.zero_add];exact Bs.cell ho hb (List.getElem?_eq_getElem hj)
 simp[execOp,hf.eval hx,this]
theorem AL.cvt {src dst e:TypeId}{x:Operand}{A:Option Addr}{c n:Nat}{xs:List UInt8}{kp':(Nat→Prop)→Prop}(hrow: ∀w,Hp C H w→∃G:Nat→Prop,Row .byte w (Fh C H) G A c xs∧kp' G)(hlen:n=xs.length)(h:AL r P ops Q rest C ((d,.string ⟨xs.toArray⟩)::l) H)
  (hx:ev l x=some (.slice A n c):=by rfl) (h1:P.underlying src=some (.slice e):=by rfl) (h2:P.underlying e=some (.int .u8):=by rfl) (h3:P.underlying dst=some .string:=by rfl) (hd:Nat.ble (d+1) C.n=true:=by rfl):
  AL r P ops Q (⟨some d,.convert src dst x,T,pos,af,none⟩::rest) C l H:=fun a w hf hh=>by
 subst hlen
 obtain⟨G,hR,_⟩:=hrow w hh
 refine Z.val hf hd ?_ fun a' hf'=>h a' w hf' hh
 obtain⟨cells,p1,p2,p3,p4⟩:=hR.cells
 rcases p3 with h0|⟨ad,rfl,hcell⟩
 ·have:xs=[]:=List.eq_nil_of_length_eq_zero h0
  subst this
  have hl:(execOp a.eval ⟨some d,.convert src dst x,T,pos,af,none⟩).run P w=.ok (.value (.string ⟨([]:List UInt8).toArray⟩)) w:=by
   have hrep:(Ty.slice .byte).rep w no [.slice A 0 c] []:=⟨A,c,[],rfl,Nat.zero_le _,hR.2.1,rfl,.inl rfl,fun i x h=>by simp at h⟩
   exact r_b2s h1 h2 h3 (hf.eval hx) hrep
  exact hl
 ·have:=run_convert_bytes_back (P:=P) w src dst e ad c xs h1 h2 h3 fun j hj=>by
   refine hcell j _ ?_
   have h4:=p4 j _ (List.getElem?_eq_getElem hj)
   have h5:(cells.drop (j*1)).take 1=[.int .u8 (xs[j].toNat:Int)]:=h4
   rw[Nat.mul_one]at h5
   have h6:((cells.drop j).take 1)[0]?=some (.int .u8 (xs[j].toNat:Int)):=by rw[h5];rfl
   rwa[List.getElem?_take_of_lt (by omega),List.getElem?_drop,Nat.add_zero]at h6
  simp[execOp,hf.eval hx,this]
end
end Go.A
end
section
set_option linter.unusedVariables false
set_option linter.unusedSimpArgs false
namespace Go.A
open Go.RowKit Go.Z
section
variable {C:Cx}{l:List (Nat×Value)}{H:List (Nat×Res)}{X:Act→World→Prop}
theorem bta (k:Nat)(js:List Nat){t:Ty}{g:Nat}{T:TypeId}{cs:List Value}(xs:List t.den)(hD:Dats H t cs xs)(h: ∀a w,Fr a C.n C.ds l→Hp C ((k,.own t T (some ⟨g,0,none⟩) xs.length xs)::ded js H) w→X a w)
  (hk1:hk H k=some (.blk g T cs):=by rfl) (hx:Nat.ble xs.length 100000=true:=by rfl) (hj:hng [k] js H=true:=by kernel_rfl): ∀a w,Fr a C.n C.ds l→Hp C H w→X a w:=fun a w hf hh=>by
 refine h a w hf (Hp.dd (hh.upd (S:=[]) (Ch.refl w) (by simp) (fun b hb=>.inl ⟨_,hk1,hb⟩) (fun j hj=>by cases hj) fun F B q1 q2 _ _ _=>?_) hj)
 have hB:Blk w g T cs:=hh.hold k _ hk1
 obtain⟨h1,h2,h3⟩:=Dats.all hh hD
 have hx:=Nat.le_of_ble_eq_true hx
 refine⟨cs,⟨h1,.inr ⟨g,xs.length,cs.toArray,rfl,Nat.zero_le _,hB,Nat.le_refl _,by simp only[maxLen];omega,by simp[h1],by simp[←h1]⟩⟩,h2,fun i y hi=>rep_as (h3 i y hi) fun b hb hlt=>q1 b hb hlt⟩
end
section
variable {r:Option Nat}{P:Program}{ops:Array Oper}{Q:Exit→Act→World→Prop}{rest lst:List Oper}{C:Cx}{l:List (Nat×Value)}{H:List (Nat×Res)}{d:Nat}{T:TypeId}{pos:String}{af:Array Edge}
theorem AL.ixoA (k kn:Nat){t:Ty}{e':TypeId}{g c n:Nat}{xs:List t.den}{x y:Operand}{i:Int}{kd:IntKind}{v:t.den}{e tt:TypeId}(hi:ix xs i=some v)(hlen:n=xs.length)
  (h:t.ok v→tele (lv t) fun ps=>AL r P ops Q rest C ((d,.pointer (some ⟨g,i.toNat*t.size,none⟩))::l) (hcat (kx (kn+1) (rs t v ps)) ((kn,.el (some k) g (i.toNat*t.size) (cl t v ps))::H)))
  (hk1:hk H k=some (.own t e' (some ⟨g,0,none⟩) c xs):=by rfl) (hx:ev l x=some (.pointer (some ⟨g,0,none⟩)):=by rfl) (hy:ev l y=some (.int kd i):=by rfl) (ht:P.underlying tt=some (.array n e):=by rfl) (hs:szB P e=some t.size:=by kernel_rfl)
  (hd:Nat.ble (d+1) C.n=true:=by rfl) (hn:nok H kn (1+lv t)=true:=by kernel_rfl):AL r P ops Q (⟨some d,.indexAddr tt x y,T,pos,af,none⟩::rest) C l H:=fun a w hf hh=>by
 subst hlen
 obtain⟨j,rfl,hv⟩:=ix_some hi
 have hlt:=(List.getElem?_eq_some_iff.1 hv).1
 obtain⟨G,hR,hG⟩:=rowO hk1 w hh
 obtain⟨b,o,es,hA,hb,hbl,hc,hr⟩:=hR.at hv
 injection hA with hA;injection hA with e1 e2 _;subst e1;subst e2
 obtain⟨ps,hl,rfl,hrs⟩:=rep_cl (B:=Bk H) t (rep_in t hr)
 have hn':nok H kn (1+(rs t v ps).length)=true:=by rw[rs_len t v ps hl];exact hn
 have hnk:hk H kn=none:=nok_none hn' (Nat.le_refl _) (by omega)
 rw[Nat.zero_add]at hc
 have h1:Hp C ((kn,.el (some k) g (j*t.size) (cl t v ps))::H) w:=hh.add hnk rfl (fun i hi r hr=>by injection hi with hi;subst hi;rw[hk1]at hr;injection hr with hr;subst hr;rfl) ⟨hc,hbl,hG g hb⟩
 have hnn: ∀n k',nok H k' n=true→(∀i,k'≤i→i<k'+n→i≠kn)→nok ((kn,.el (some k) g (j*t.size) (cl t v ps))::H) k' n=true:=by
  intro n
  induction n with
  |zero=>intro _ _ _;rfl
  |succ n ih=>
   intro k' h2 h3
   simp only[nok,Bool.and_eq_true]at h2 ⊢
   refine⟨?_,ih (k'+1) h2.2 fun i h4 h5=>h3 i (by omega) (by omega)⟩
   rw[hk_cons,if_neg (Ne.symm (h3 k' (Nat.le_refl _) (by omega)))];exact h2.1
 have hn2:nok H (kn+1) (rs t v ps).length=true:=by
  rw[Nat.add_comm 1]at hn'
  simp only[nok,Bool.and_eq_true]at hn';exact hn'.2
 have h2:Hp C (hcat (kx (kn+1) (rs t v ps)) ((kn,.el (some k) g (j*t.size) (cl t v ps))::H)) w:=by
  refine h1.adds (hnn _ _ hn2 fun i h4 _=>by omega) fun r2 h4=>?_
  obtain⟨h5,h6,h7⟩:=hrs r2 h4
  have hbk: ∀i b',Bk ((kn,.el (some k) g (j*t.size) (cl t v ps))::H) i b'↔Bk H i b':=fun i b'=>by
   by_cases hj:i=kn
   ·subst hj
    rw[Bk.cons_eq]
    exact⟨fun h=>by simp[Res.bl]at h,fun⟨_,h8,_⟩=>by rw[hnk]at h8;cases h8⟩
   ·exact Bk.cons_ne hj
  exact⟨h6,h7,Res.to h5 (S:=[]) (Ch.refl w) (fun b' hF _=>⟨by simp,⟨fun i hj=>hF.1.1 i ((hbk i b').1 hj),hF.1.2⟩,hF.2⟩) (fun b' hB _=>⟨by simp,fun i hj=>hB i ((hbk i b').1 hj)⟩) (fun i b' _ hB=>⟨by simp,(hbk i b').2 hB⟩) (by simp)⟩
 refine Z.val (v:=.pointer (some ⟨g,j*t.size,none⟩)) hf hd ?_ fun a' hf'=>tele_at (h (rep_ok t hr)) ps hl a' w hf' h2
 have:=r_indexArr (P:=P) (a:=a) (w:=w) (T:=T) (pos:=pos) (af:=af) (dd:=some d) (gd:=none) (o:=0) ht (szB_run hs) (hf.eval hx) (hf.eval hy) (by omega) (by omega)
 rw[Nat.zero_add,Int.toNat_natCast]at this
 exact this
end
end Go.A
end
section
set_option linter.unusedVariables false
set_option linter.unusedSimpArgs false
namespace Go.Z
open Go.RowKit Go.Lib
section
variable {P:Program}{a:Act}{w:World}{d:Option Tmp}{T:TypeId}{pos:String}{af:Array Edge}{gd:Option (Nat×Bool)}
theorem r_sliceA_l {t e:TypeId}{x lo:Operand}{n sz g o u:Nat}{k:IntKind}{p:Int}(ht:P.underlying t=some (.array n e))(hS: ∀w,(sizeOf e).run P w=.ok sz w)(hx:a.eval x=.pointer (some ⟨g,o,none⟩))(hl:a.eval lo=.int k p)(hp:p=(u:Int))(h1:u≤n):
  (execOp a.eval ⟨d,.slice t x (some lo) none none,T,pos,af,gd⟩).run P w=.ok (.value (.slice (cutA (some ⟨g,o,none⟩) n u sz) (n-u) (n-u))) w:=by
 subst hp
 by_cases hc:n=u<;>simp[execOp,Instr.sliceAt,run_underlying ht,hx,hl,Instr.sureAddr,Instr.sliceBounds,Instr.sliceBound,asIntOf,h1,hS,cutA,hc]
end
end Go.Z
namespace Go.A
open Go.RowKit Go.Z
section
variable {r:Option Nat}{P:Program}{ops:Array Oper}{Q:Exit→Act→World→Prop}{rest lst:List Oper}{C:Cx}{l:List (Nat×Value)}{H:List (Nat×Res)}{d:Nat}{T:TypeId}{pos:String}{af:Array Edge}
theorem AL.slA (k kn:Nat){t:Ty}{tt e:TypeId}{x lo:Operand}{g c n:Nat}{xs:List t.den}{k1:IntKind}{p:Int}{u:Nat}(hlen:n=xs.length)(hp:p=(u:Int))(h1:u≤xs.length)
  (h: ∀A' c',AL r P ops Q rest C ((d,.slice A' (xs.drop u).length c')::l) ((kn,.sh (.slice t) [.slice A' (xs.drop u).length c'] (xs.drop u))::H))
  (hk1:hk H k=some (.sh (.slice t) [.slice (some ⟨g,0,none⟩) xs.length c] xs):=by rfl) (hx:ev l x=some (.pointer (some ⟨g,0,none⟩)):=by rfl) (hlo:ev l lo=some (.int k1 p):=by rfl) (hS:szB P e=some t.size:=by kernel_rfl)
  (ht:P.underlying tt=some (.array n e):=by rfl) (hd:Nat.ble (d+1) C.n=true:=by rfl) (hn:hk H kn=none:=by kernel_rfl):AL r P ops Q (⟨some d,.slice tt x (some lo) none none,T,pos,af,none⟩::rest) C l H:=fun a w hf hh=>by
 subst hlen
 have hr:(Ty.slice t).rep w (Fh C H) [.slice (some ⟨g,0,none⟩) xs.length c] xs:=hh.hold k _ hk1
 have hlen:=rep_slice_len hr
 have hlen2:(xs.drop u).length=xs.length-u:=by rw[List.length_drop]
 refine Z.val (v:=.slice (cutA (some ⟨g,0,none⟩) xs.length u t.size) (xs.length-u) (xs.length-u)) hf hd (r_sliceA_l ht (szB_run hS) (hf.eval hx) (hf.eval hlo) hp h1) fun a' hf'=>?_
 have hr2:(Ty.slice t).rep w (Fh C H) [.slice (cutA (some ⟨g,0,none⟩) xs.length u t.size) (xs.length-u) (xs.length-u)] (xs.drop u):=by
  refine rep_drop hr h1 (Nat.le_refl _) (by omega) fun hlt ad hA=>?_
  unfold cutA
  rw[if_neg (by omega),hA];rfl
 rw[←hlen2]at hr2 hf'
 exact h _ _ a' w hf' (hh.add hn rfl (fun j hj=>by cases hj) (rep_in _ hr2))
theorem AL.ixv {τ:Type}(f:τ→Value)(vals:List τ){tt e:TypeId}{n:Nat}{x y:Operand}{i:Int}{kd:IntKind}{v:τ}(hi:ix vals i=some v)(h:AL r P ops Q rest C ((d,f v)::l) H)
  (hx:ev l x=some (.agg (vals.map f).toArray):=by rfl) (hy:ev l y=some (.int kd i):=by rfl) (ht:P.underlying tt=some (.array n e):=by rfl) (hl:vals.length=n:=by rfl) (hS:szB P e=some 1:=by kernel_rfl) (hA:aggB P e=some false:=by kernel_rfl) (hd:Nat.ble (d+1) C.n=true:=by rfl):
  AL r P ops Q (⟨some d,.index tt x y,T,pos,af,none⟩::rest) C l H:=fun a w hf hh=>by
 subst hl
 obtain⟨p,q⟩:=ix_ok hi
 obtain⟨j,rfl,hj⟩:=ix_some hi
 refine Z.val hf hd ?_ fun a' hf'=>h a' w hf' hh
 have h0:(part e (vals.map f).toArray (((j:Int)).toNat*1)).run P w=.ok (f v) w:=Z.part_one w (aggB_run hA) (by simp[hj])
 simp only[execOp,Instr.index,Sem.run_bind,hf.eval hx,hf.eval hy,asIntOf,Sem.run_pure,Result.andThen_ok,run_underlying ht,szB_run hS w]
 rw[if_pos ⟨p,q⟩]
 simp only[Sem.run_bind,szB_run hS w,Result.andThen_ok,h0,Sem.run_pure]
theorem AL.cutv (k:Nat){t:Ty}{tt e e':TypeId}{x lo:Operand}{A:Option Addr}{c u:Nat}{xs:List t.den}{k1:IntKind}{p:Int}(hp:p=(u:Int))(h1:u≤xs.length)
  (h:AL r P ops Q rest C ((d,.slice (cutA A c u t.size) (xs.length-u) (c-u))::l) H)
  (hk1:hk H k=some (.own t e' A c xs):=by rfl) (hx:ev l x=some (.slice A xs.length c):=by rfl) (hlo:ev l lo=some (.int k1 p):=by rfl) (hS:szB P e=some t.size:=by kernel_rfl)
  (ht:P.underlying tt=some (.slice e):=by rfl) (hd:Nat.ble (d+1) C.n=true:=by rfl):AL r P ops Q (⟨some d,.slice tt x (some lo) none none,T,pos,af,none⟩::rest) C l H:=fun a w hf hh=>
 Z.val hf hd (r_slice_l ht (szB_run hS) (hf.eval hx) (hf.eval hlo) hp h1) fun a' hf'=>h a' w hf' hh
theorem Row.drop {t:Ty}{w:World}{F G:Nat→Prop}{A:Option Addr}{c u:Nat}{xs:List t.den}(h:Row t w F G A c xs)(hu:u≤xs.length):Row t w F G (cutA A c u t.size) (c-u) (xs.drop u):=by
 obtain⟨h2,h3,cells,h4,h5,h6⟩:=h
 refine⟨by rw[List.length_drop];omega,by omega,cells.drop (u*t.size),by rw[List.length_drop,List.length_drop,h4,Nat.sub_mul],?_,fun i x hi=>?_⟩
 ·rw[List.length_drop]
  by_cases hz:xs.length-u=0
  ·exact .inl hz
  ·rcases h5 with h5|⟨b,o,rfl,hb,hc⟩
   ·omega
   ·refine .inr ⟨b,o+u*t.size,by unfold cutA;rw[if_neg (by omega),Option.map_some,Addr.add_lit],hb,fun j v hv=>?_⟩
    rw[List.getElem?_drop]at hv
    rw[Nat.add_assoc];exact hc _ v hv
 ·rw[List.getElem?_drop]at hi
  rw[List.drop_drop,←Nat.add_mul]
  exact h6 _ x hi
theorem AL.ixw (k kn:Nat){t:Ty}{e':TypeId}{A:Option Addr}{c u n2:Nat}{xs:List t.den}{x y:Operand}{i:Int}{kd:IntKind}{v:t.den}{e tt:TypeId}(hi:ix (xs.drop u) i=some v)(hu:u≤xs.length)(hlen:n2-u=xs.length-u)
  (h:t.ok v→tele (lv t) fun ps=>∀b o,AL r P ops Q rest C ((d,.pointer (some ⟨b,o+i.toNat*t.size,none⟩))::l) (hcat (kx (kn+1) (rs t v ps)) ((kn,.el (some k) b (o+i.toNat*t.size) (cl t v ps))::H)))
  (hk1:hk H k=some (.own t e' A c xs):=by rfl) (hx:ev l x=some (.slice (cutA A c u t.size) (n2-u) (c-u)):=by rfl) (hy:ev l y=some (.int kd i):=by rfl) (ht:P.underlying tt=some (.slice e):=by rfl) (hs:szB P e=some t.size:=by kernel_rfl)
  (hd:Nat.ble (d+1) C.n=true:=by rfl) (hn:nok H kn (1+lv t)=true:=by kernel_rfl):AL r P ops Q (⟨some d,.indexAddr tt x y,T,pos,af,none⟩::rest) C l H:=
 AL.ixc (ko:=some k) (fun w hh=>by
  obtain⟨G,hR,hG⟩:=rowO hk1 w hh
  exact⟨G,hR.drop hu,hG⟩) (fun j h r hr=>by injection h with h;subst h;rw[hk1]at hr;injection hr with hr;subst hr;rfl) (by rw[hx,hlen,List.length_drop]) hy hi ht hs (fun ho=>tele_map (fun ps h b o _=>h b o) (h ho)) hd fun ps hl=>by rw[rs_len t v ps hl];exact hn
end
section
variable {C:Cx}{l:List (Nat×Value)}{H:List (Nat×Res)}{P:Program}
theorem vw {x:Operand}{A:Option Addr}{c n2 u:Nat}{α:Type}{xs:List α}(hx:ev l x=some (.slice A (n2-u) c))(h:n2-u=xs.length-u):ev l x=some (.slice A (xs.drop u).length c):=by rw[hx,h,List.length_drop]
theorem pkw {X:Act→World→Prop}(k kn:Nat){t:Ty}{e:TypeId}{A:Option Addr}{c u:Nat}{xs:List t.den}{i:Int}{v:t.den}(hi:ix (xs.drop u) i=some v)(hu:u≤xs.length)
  (h:t.ok v→tele (lv t) fun ps=>∀b o,cutA A c u t.size=some ⟨b,o,none⟩→∀a w,Fr a C.n C.ds l→Hp C (hcat (kx (kn+1) (rs t v ps)) ((kn,.el (some k) b (o+i.toNat*t.size) (cl t v ps))::H)) w→X a w)
  (hk1:hk H k=some (.own t e A c xs):=by rfl) (hn:nok H kn (1+lv t)=true:=by kernel_rfl): ∀a w,Fr a C.n C.ds l→Hp C H w→X a w:=fun a w hf hh=>by
 obtain⟨k',rfl,hv⟩:=ix_some hi
 obtain⟨G,hR,hG⟩:=rowO hk1 w hh
 obtain⟨b,o,es,hA,hb,hbl,hc,hr⟩:=(hR.drop hu).at hv
 obtain⟨ps,hl,rfl,hrs⟩:=rep_cl (B:=Bk H) t (rep_in t hr)
 have hnk:hk H kn=none:=nok_none hn (Nat.le_refl _) (by omega)
 have h1:Hp C ((kn,.el (some k) b (o+k'*t.size) (cl t v ps))::H) w:=hh.add hnk rfl (fun j hj r hr=>by injection hj with hj;subst hj;rw[hk1]at hr;injection hr with hr;subst hr;rfl) ⟨hc,hbl,hG b hb⟩
 have hn2:nok H (kn+1) (rs t v ps).length=true:=by
  rw[rs_len t v ps hl]
  rw[Nat.add_comm 1]at hn
  simp only[nok,Bool.and_eq_true]at hn;exact hn.2
 have hnn: ∀n k2,nok H k2 n=true→(∀j,k2≤j→j<k2+n→j≠kn)→nok ((kn,.el (some k) b (o+k'*t.size) (cl t v ps))::H) k2 n=true:=by
  intro n
  induction n with
  |zero=>intro _ _ _;rfl
  |succ n ih=>
   intro k2 h2 h3
   simp only[nok,Bool.and_eq_true]at h2 ⊢
   refine⟨?_,ih (k2+1) h2.2 fun j h4 h5=>h3 j (by omega) (by omega)⟩
   rw[hk_cons,if_neg (Ne.symm (h3 k2 (Nat.le_refl _) (by omega)))];exact h2.1
 have h2:Hp C (hcat (kx (kn+1) (rs t v ps)) ((kn,.el (some k) b (o+k'*t.size) (cl t v ps))::H)) w:=by
  refine h1.adds (hnn _ _ hn2 fun j h4 _=>by omega) fun r2 h4=>?_
  obtain⟨h5,h6,h7⟩:=hrs r2 h4
  have hbk: ∀j b',Bk ((kn,.el (some k) b (o+k'*t.size) (cl t v ps))::H) j b'↔Bk H j b':=fun j b'=>by
   by_cases hj:j=kn
   ·subst hj
    rw[Bk.cons_eq]
    exact⟨fun h=>by simp[Res.bl]at h,fun⟨_,h8,_⟩=>by rw[hnk]at h8;cases h8⟩
   ·exact Bk.cons_ne hj
  exact⟨h6,h7,Res.to h5 (S:=[]) (Ch.refl w) (fun b' hF _=>⟨by simp,⟨fun j hj=>hF.1.1 j ((hbk j b').1 hj),hF.1.2⟩,hF.2⟩) (fun b' hB _=>⟨by simp,fun j hj=>hB j ((hbk j b').1 hj)⟩) (fun i b' _ hB=>⟨by simp,(hbk i b').2 hB⟩) (by simp)⟩
 exact tele_at (h (rep_ok t hr)) ps hl b o hA a w hf (by rw[Int.toNat_natCast];exact h2)
theorem Dats.rep0 (H:List (Nat×Res)): ∀n,Dats H .byte (List.replicate n (.int .u8 0)) (List.replicate n 0)
 |0=>rfl
 |n+1=>⟨rfl,Dats.rep0 H n⟩
theorem bta0 {X:Act→World→Prop}(k:Nat)(js:List Nat){g:Nat}{T:TypeId}{cs:List Value}(n:Nat)(h: ∀a w,Fr a C.n C.ds l→Hp C ((k,.own .byte T (some ⟨g,0,none⟩) (List.replicate n (0:UInt8)).length (List.replicate n (0:UInt8)))::ded js H) w→X a w)
  (hk1:hk H k=some (.blk g T cs):=by rfl) (hcs:cs=List.replicate n (.int .u8 0):=by rfl) (hx:Nat.ble (List.replicate n (0:UInt8)).length 100000=true:=by rfl) (hj:hng [k] js H=true:=by kernel_rfl): ∀a w,Fr a C.n C.ds l→Hp C H w→X a w:=by
 subst hcs
 exact bta k js (t:=.byte) (List.replicate n (0:UInt8)) (Dats.rep0 H n) h hk1 hx hj
theorem cutpb {X:Act→World→Prop}(k kn:Nat){t:Ty}{A:Option Addr}{c:Nat}{xs:List t.den}(u v:Nat)(h1:u≤v)(h2:v≤xs.length)
  (h: ∀A' c',A'=cutA A c u t.size→c'=c-u→∀a w,Fr a C.n C.ds l→Hp C ((kn,.sh (.slice t) [.slice A' ((xs.take v).drop u).length c'] ((xs.take v).drop u))::H) w→X a w)
  (hk1:hk H k=some (.sh (.slice t) [.slice A xs.length c] xs):=by rfl) (hn:hk H kn=none:=by kernel_rfl): ∀a w,Fr a C.n C.ds l→Hp C H w→X a w:=fun a w hf hh=>by
 have hr:(Ty.slice t).rep w (Fh C H) [.slice A xs.length c] xs:=hh.hold k _ hk1
 have hlen:=rep_slice_len hr
 have hlen2:((xs.take v).drop u).length=v-u:=by rw[List.length_drop,List.length_take];omega
 have hr2:(Ty.slice t).rep w (Fh C H) [.slice (cutA A c u t.size) (v-u) (c-u)] ((xs.take v).drop u):=by
  refine rep_drop (rep_take hr h2) (by rw[List.length_take];omega) (by omega) (by omega) fun hlt ad hA=>?_
  rw[List.length_take]at hlt
  unfold cutA
  rw[if_neg (by omega),hA];rfl
 rw[←hlen2]at hr2
 exact h _ _ rfl rfl a w hf (hh.add hn rfl (fun j hj=>by cases hj) (rep_in _ hr2))
theorem r_cutb (k:Nat){a:Act}{w:World}{t:Ty}{tt e:TypeId}{x lo hi:Operand}{A A':Option Addr}{c c':Nat}{xs:List t.den}{k1 k2:IntKind}{p q:Int}{u v:Nat}{d:Option Tmp}{T:TypeId}{pos:String}{af:Array Edge}{gd:Option (Nat×Bool)}(hf:Fr a C.n C.ds l)(hh:Hp C H w)
  (hp:p=(u:Int)) (hq:q=(v:Int)) (h1:u≤v) (h2:v≤xs.length) (hA:A'=cutA A c u t.size) (hc:c'=c-u)
  (hk1:hk H k=some (.sh (.slice t) [.slice A xs.length c] xs):=by rfl) (hx:ev l x=some (.slice A xs.length c):=by rfl) (hlo:ev l lo=some (.int k1 p):=by rfl) (hhi:ev l hi=some (.int k2 q):=by rfl) (hS:szB P e=some t.size:=by kernel_rfl)
  (ht:P.underlying tt=some (.slice e):=by rfl):(execOp a.eval ⟨d,.slice tt x (some lo) (some hi) none,T,pos,af,gd⟩).run P w=.ok (.value (.slice A' ((xs.take v).drop u).length c')) w:=by
 subst hA;subst hc
 have hr:(Ty.slice t).rep w (Fh C H) [.slice A xs.length c] xs:=hh.hold k _ hk1
 have hlen:=rep_slice_len hr
 have hlen2:((xs.take v).drop u).length=v-u:=by rw[List.length_drop,List.length_take];omega
 rw[hlen2]
 exact r_slice_lh ht (szB_run hS) (hf.eval hx) (hf.eval hlo) (hf.eval hhi) hp hq h1 (by omega)
theorem r_bldA {a:Act}{w:World}{d:Option Tmp}{T:TypeId}{pos:String}{af:Array Edge}{gd:Option (Nat×Bool)}{n:Nat}{ds:List Deferred}{tt e:TypeId}{m:Nat}{z:Value}{ps:Array (Nat×Operand)}{vs:List (Nat×Value)}{cs:Array Value}(hf:Fr a n ds l)(hz: ∀w,(zeroValue tt).run P w=.ok z w)
  (ht:P.underlying tt=some (.array m e):=by rfl) (hS:szB P e=some 1:=by kernel_rfl) (hq:qps (ev l) ps.toList=some vs:=by rfl) (hc:Instr.fill (fun i=>some (i*1,1)) z.cells vs=some cs:=by rfl):
  (execOp a.eval ⟨d,.build tt ps,T,pos,af,gd⟩).run P w=.ok (.value (.agg cs)) w:=by
 have h1:=qps_eval (a:=a) (fun x v h=>hf.eval h) _ hq
 simp only[Array.toArray_toList]at h1
 simp only[execOp,Instr.build,h1]
 simp only[Sem.run_bind,hz,Result.andThen_ok,run_underlying ht,szB_run hS w,hc,Sem.run_pure]
theorem r_neg {a:Act}{w:World}{d:Option Tmp}{T:TypeId}{pos:String}{af:Array Edge}{gd:Option (Nat×Bool)}{n:Nat}{ds:List Deferred}{tt:TypeId}{x:Operand}{k:IntKind}{i:Int}(hf:Fr a n ds l)(hx:ev l x=some (.int k i):=by rfl):
  (execOp a.eval ⟨d,.unOp .neg tt x,T,pos,af,gd⟩).run P w=.ok (.value (.int k (k.wrap (-i)))) w:=by
 simp[execOp,hf.eval hx,Op.unary,Op.intArith]
end
theorem AH.nmY {r:Option Nat}{P:Program}{ops:Array Oper}{Q:Exit→Act→World→Prop}{S:World→Prop}{m f i:Nat}{li:List Bool}{C:Cx}{l:List (Nat×Value)}{H:List (Nat×Res)}(li':List Bool)(h:AH r P ops Q [] m f li' C l H)(hl:(li.toArray.setIfInBounds i true).toList=li':=by kernel_rfl)(hg:gn ops li'.toArray m=true:=by kernel_rfl):
  AL r P ops (HZ r P ops Q S m f li.toArray i) [] C l H:=fun a w hf hh=>by
 refine Z.done ?_
 show(_→S w)∧_
 have:=Hem.bh (S:=S) _ _ a w hg (h a w hf hh)
 rw[←hl,Array.toArray_toList]at this
 rw[←hl,Array.toArray_toList]at hg
 exact⟨fun h=>(by rw[hg]at h;cases h),this⟩
end Go.A
end
section
set_option linter.unusedVariables false
set_option linter.unusedSimpArgs false
set_option maxRecDepth 20000
set_option maxHeartbeats 8000000
set_option synthInstance.maxSize 1000000
set_option synthInstance.maxHeartbeats 400000
namespace Go.Proofs.YtbljnlkhebiniaaGreatDoor
open Go.RowKit
def F.oper_number_l1:Nat→(List UInt8)→Int→Int→Option ByteArray
 |0,_,_,_=>none
 |f+1,xs4,y6,y8=>A.gd (Z.R64 (y8-1)) (A.gd ((10:Int)≠0∧Z.R64 (48+(Int.tmod y6 10))) (A.gd (20=(xs4).length) ((A.ix xs4 (y8-1)).bind fun x13=>(A.gd ((10:Int)≠0∧Z.R64 (Int.tdiv y6 10)) (if Int.tdiv y6 10=0 then(A.gd (20=(xs4.set (y8-1).toNat (A.b8 (48+(Int.tmod y6 10)))).length) (A.gd (0≤y8-1∧(y8-1).toNat≤(xs4.set (y8-1).toNat (A.b8 (48+(Int.tmod y6 10)))).length) (some (ByteArray.mk ((xs4.set (y8-1).toNat (A.b8 (48+(Int.tmod y6 10)))).drop (y8-1).toNat).toArray))))else((F.oper_number_l1 f) (xs4.set (y8-1).toNat (A.b8 (48+(Int.tmod y6 10)))) (Int.tdiv y6 10) (y8-1)))))))
def F.oper_number (a0:Int):Option ByteArray:=F.oper_number_l1 A.FU (List.replicate 20 (0:UInt8)) a0 20
theorem oper_number_ok (a0:Int)(h0_:IntKind.i64.has a0)(r:ByteArray)(hF:F.oper_number a0=some r):
    A.Ct Tryz.prog 59 [.int .i64 a0] [] [] (fun v H'=>v=.string r∧H'=[]∧r.size≤maxLen):=by
 refine A.Ct.enter Tryz.func59 rfl Tryz.ntmps59 rfl fun w0 F0=>?_
 rw[F.oper_number]at hF
 refine A.xl 1 ?_
 refine A.q0 [] [] [.n] [] ?_
 refine A.dl 2 ?_
 refine A.AL.alloc 0 (cs:=[.int .u8 0,.int .u8 0,.int .u8 0,.int .u8 0,.int .u8 0,.int .u8 0,.int .u8 0,.int .u8 0,.int .u8 0,.int .u8 0,.int .u8 0,.int .u8 0,.int .u8 0,.int .u8 0,.int .u8 0,.int .u8 0,.int .u8 0,.int .u8 0,.int .u8 0,.int .u8 0]) Tryz.zeroValue139 fun g1=>?_
 refine A.bta0 0 [] 20 ?_
 refine A.dl 2 ?_
 refine A.q0 [] [] [.n] [(4,.int .i64 20)] ?_
 refine A.dx 2 ?_
 refine A.lp_ [3] [] (fun f nl nh=>∃(xs4:List UInt8),∃(y6:Int),∃(y8:Int),nl=[(0,.int .i64 y6),(4,.int .i64 y8)]∧nh=[(0,.own Z.Ty.byte 139 (some ⟨g1,0,none⟩) ((List.replicate 20 (0:UInt8)).length) xs4)]∧(List.replicate 20 (0:UInt8)).length=xs4.length∧IntKind.i64.has y6∧IntKind.i64.has y8∧F.oper_number_l1 f xs4 y6 y8=some r) ⟨(List.replicate 20 (0:UInt8)),a0,20,rfl,rfl,rfl,h0_,(A.hasl .i64 (20) rfl),hF⟩ ?_
 rintro f10 _ _ ⟨xs4,y6,y8,rfl,rfl,hn5,hy7,hy9,hF⟩
 rcases f10 with _|f10
 ·exact A.no0 hF
 rw[F.oper_number_l1]at hF
 refine A.xl 2 ?_
 obtain⟨hc11,hF⟩:=A.gd_some hF
 refine A.q [] [] [.n,.n,.n] [Z.R64 (y8-1)] [(4,.int .i64 (y8-1))] hc11 ?_
 refine A.dl 2 ?_
 obtain⟨hc12,hF⟩:=A.gd_some hF
 refine A.q [] [] [.n,.n,.n,.n,.n] [(10:Int)≠0,Z.R64 (48+(Int.tmod y6 10))] [(7,.int .i64 (y8-1)),(11,.int .u8 (IntKind.u8.wrap (48+(Int.tmod y6 10))))] hc12 ?_
 obtain⟨hl15,hF⟩:=A.gd_some hF
 obtain⟨x13,hv14,hF⟩:=A.bd_some hF
 refine A.AL.ixoA 0 5 hv14 hl15 fun _=>?_
 refine A.AL.setel 0 5 [5] (o:=0) (m:=1) (t:=Z.Ty.byte) (new:=[.int .u8 (IntKind.u8.wrap (48+(Int.tmod y6 10)))]) (es:=[.int .u8 (x13.toNat:Int)]) (A.b8 (48+(Int.tmod y6 10))) hv14 rfl (congrArg (fun z=>[Value.int .u8 z]) (A.b8_wrap _)) ?_
 refine A.dl 2 ?_
 obtain⟨hc16,hF⟩:=A.gd_some hF
 refine A.q [] [] [.n,.n,.n] [(10:Int)≠0,Z.R64 (Int.tdiv y6 10)] [(0,.int .i64 (Int.tdiv y6 10))] hc16 ?_
 refine A.dl 2 ?_
 refine A.q0 [] [] [.n,.n] [(16,.bool (decide (Int.tdiv y6 10=0)))] ?_
 refine A.dx 1 ?_
 refine A.AX.cnd rfl hF (fun hb hF=>?_) (fun hb hF=>?_)
 ·refine A.xl 1 ?_
  refine A.q0 [] [] [.n] [(17,.int .i64 (y8-1))] ?_
  refine A.frz 0 [] ?_
  obtain⟨hl19,hF⟩:=A.gd_some hF
  obtain⟨hc20,hF⟩:=A.gd_some hF
  refine A.AL.slA 0 6 hl19 (Int.toNat_of_nonneg hc20.1).symm hc20.2 fun A17 c18=>?_
  refine A.oks 6 fun hl21=>?_
  refine A.AL.cvt (A.rowS (k:=6) rfl) rfl ?_
  refine A.q0 [] [] [.n] [(2,.string (ByteArray.mk ((xs4.set (y8-1).toNat (A.b8 (48+(Int.tmod y6 10)))).drop (y8-1).toNat).toArray))] ?_
  refine A.dx 1 ?_
  obtain rfl:=Option.some.inj hF
  exact A.rt1 [] ⟨rfl,rfl,(A.mk_le hl21.1)⟩
 refine A.xe 2 ?_
 exact A.j ⟨_,Nat.lt_succ_self _,⟨(xs4.set (y8-1).toNat (A.b8 (48+(Int.tmod y6 10)))),(Int.tdiv y6 10),(y8-1),rfl,rfl,(by rw[List.length_set];exact hn5),(Z.i64_has hc16.2),(Z.i64_has hc11),hF⟩⟩
def F.fn_uses (a0:Int):Option (Int×Int):=if a0=2 then(some (1,8))else(if a0=3 then(some (11,13))else(if a0=4 then(some (21,22))else(if a0=8 then(some (31,34))else(if a0=11 then(some (41,42))else(some (0,-1))))))
theorem fn_uses_ok (a0:Int)(h0_:IntKind.i64.has a0)(r:Int×Int)(hF:F.fn_uses a0=some r):
    A.Ct Tryz.prog 96 [.int .i64 a0] [] [] (fun v H'=>v=.tuple #[.int .i64 r.1,.int .i64 r.2]∧H'=[]∧IntKind.i64.has r.1∧IntKind.i64.has r.2):=by
 refine A.Ct.enter Tryz.func96 rfl Tryz.ntmps96 rfl fun w0 F0=>?_
 rw[F.fn_uses]at hF
 refine A.xl 1 ?_
 refine A.q0 [] [] [.n,.n] [] ?_
 refine A.dl 3 ?_
 refine A.q0 [] [] [.n] [(4,.int .i64 a0)] ?_
 refine A.dl 3 ?_
 refine A.q0 [] [] [.n,.n] [(5,.bool (decide (a0=2)))] ?_
 refine A.dx 1 ?_
 refine A.AX.cnd rfl hF (fun hb hF=>?_) (fun hb hF=>?_)
 ·refine A.xl 1 ?_
  refine A.q0 [] [] [.n,.n] [(2,.int .i64 1),(3,.int .i64 8)] ?_
  refine A.dx 1 ?_
  obtain rfl:=Option.some.inj hF
  exact A.rt2 [] ⟨rfl,rfl,(A.hasl .i64 (1) rfl),(A.hasl .i64 (8) rfl)⟩
 refine A.xl 1 ?_
 refine A.q0 [] [] [.n,.n] [(7,.bool (decide (a0=3)))] ?_
 refine A.dx 1 ?_
 refine A.AX.cnd rfl hF (fun hb hF=>?_) (fun hb hF=>?_)
 ·refine A.xl 1 ?_
  refine A.q0 [] [] [.n,.n] [(2,.int .i64 11),(3,.int .i64 13)] ?_
  refine A.dx 1 ?_
  obtain rfl:=Option.some.inj hF
  exact A.rt2 [] ⟨rfl,rfl,(A.hasl .i64 (11) rfl),(A.hasl .i64 (13) rfl)⟩
 refine A.xl 1 ?_
 refine A.q0 [] [] [.n,.n] [(9,.bool (decide (a0=4)))] ?_
 refine A.dx 1 ?_
 refine A.AX.cnd rfl hF (fun hb hF=>?_) (fun hb hF=>?_)
 ·refine A.xl 1 ?_
  refine A.q0 [] [] [.n,.n] [(2,.int .i64 21),(3,.int .i64 22)] ?_
  refine A.dx 1 ?_
  obtain rfl:=Option.some.inj hF
  exact A.rt2 [] ⟨rfl,rfl,(A.hasl .i64 (21) rfl),(A.hasl .i64 (22) rfl)⟩
 refine A.xl 1 ?_
 refine A.q0 [] [] [.n,.n] [(11,.bool (decide (a0=8)))] ?_
 refine A.dx 1 ?_
 refine A.AX.cnd rfl hF (fun hb hF=>?_) (fun hb hF=>?_)
 ·refine A.xl 1 ?_
  refine A.q0 [] [] [.n,.n] [(2,.int .i64 31),(3,.int .i64 34)] ?_
  refine A.dx 1 ?_
  obtain rfl:=Option.some.inj hF
  exact A.rt2 [] ⟨rfl,rfl,(A.hasl .i64 (31) rfl),(A.hasl .i64 (34) rfl)⟩
 refine A.xl 1 ?_
 refine A.q0 [] [] [.n,.n] [(13,.bool (decide (a0=11)))] ?_
 refine A.dx 1 ?_
 refine A.AX.cnd rfl hF (fun hb hF=>?_) (fun hb hF=>?_)
 ·refine A.xl 1 ?_
  refine A.q0 [] [] [.n,.n] [(2,.int .i64 41),(3,.int .i64 42)] ?_
  refine A.dx 1 ?_
  obtain rfl:=Option.some.inj hF
  exact A.rt2 [] ⟨rfl,rfl,(A.hasl .i64 (41) rfl),(A.hasl .i64 (42) rfl)⟩
 refine A.xl 4 ?_
 refine A.q0 [] [] [.n,.n] [(2,.int .i64 0),(3,.int .i64 (-1))] ?_
 refine A.dx 1 ?_
 obtain rfl:=Option.some.inj hF
 exact A.rt2 [] ⟨rfl,rfl,(A.hasl .i64 (0) rfl),(A.hasl .i64 (-1) rfl)⟩
def F.fn_Uses (a0:Int):Option (Int×Int):=(F.fn_uses a0).bind fun r1=>(some (r1.1,r1.2))
theorem fn_Uses_ok (a0:Int)(h0_:IntKind.i64.has a0)(r:(Int×Int))(hF:F.fn_Uses a0=some r):
    A.Ct Tryz.prog 97 [.int .i64 a0] [] [] (fun v H'=>∃(g0':Nat) (g1':Nat),v=.func (.func 135) #[] #[.pointer (some ⟨g0',0,none⟩),.pointer (some ⟨g1',0,none⟩)]∧H'=[(0,.blk g0' 3 [.int .i64 r.1]),(1,.blk g1' 3 [.int .i64 r.2])]∧IntKind.i64.has r.1∧IntKind.i64.has r.2):=by
 refine A.Ct.enter Tryz.func97 rfl Tryz.ntmps97 rfl fun w0 F0=>?_
 rw[F.fn_Uses]at hF
 refine A.xl 1 ?_
 refine A.q0 [] [] [.n] [] ?_
 refine A.dl 2 ?_
 refine A.q0 [] [] [.n] [(6,.int .i64 a0)] ?_
 obtain⟨r1,hv2,hF⟩:=A.bd_some hF
 refine A.AL.call 0 [] (first:=[]) (cap:=[]) cf96 (fn_uses_ok a0 h0_ r1 hv2) .nil ?_
 rintro _ _ ⟨rfl,rfl,hr3,hr4⟩
 refine⟨by kernel_rfl,?_⟩
 refine A.q0 [] [] [.n,.n,.n] [(8,.int .i64 r1.1),(9,.int .i64 r1.2)] ?_
 refine A.AL.alloc 40 (cs:=[.int .i64 0]) Tryz.zeroValue3 fun g5=>?_
 refine A.AL.alloc 41 (cs:=[.int .i64 0]) Tryz.zeroValue3 fun g6=>?_
 refine A.sw 40 [] [.int .i64 r1.1] ?_
 refine A.sw 41 [] [.int .i64 r1.2] ?_
 refine A.dl 2 ?_
 refine A.q0 [] [] [.n,.n] [(2,.func (.func 135) #[] #[.pointer (some ⟨g5,0,none⟩),.pointer (some ⟨g6,0,none⟩)])] ?_
 refine A.dx 1 ?_
 obtain rfl:=Option.some.inj hF
 exact A.rt1 [(0,40),(1,41)] ⟨g5,g6,rfl,rfl,hr3,hr4⟩
def F.fn_number_j1 (a0:D23)(y3:Bool):Option Bool:=if y3=true then(some (bif decide ((1:Int)≤a0.2.1)then decide (a0.2.1≤1048576)else false))else(some (decide (a0.2.1=0)))
def F.fn_number_j2 (a0:D23)(y2:Bool):Option Bool:=if y2=true then(some (bif decide ((0:Int)≤a0.2.1)then decide (a0.2.1≤64)else false))else(if a0.1=6 then(F.fn_number_j1 a0 (decide (a0.1=6)))else(F.fn_number_j1 a0 (decide (a0.1=11))))
def F.fn_number (a0:D23):Option Bool:=if a0.1=3 then(F.fn_number_j2 a0 (decide (a0.1=3)))else(F.fn_number_j2 a0 (decide (a0.1=13)))
theorem fn_number_ok (a0:D23)(h0_:IntKind.i64.has a0.1)(h1_:IntKind.i64.has a0.2.1)(h2_:a0.2.2.size≤maxLen)(r:Bool)(hF:F.fn_number a0=some r):
    A.Ct Tryz.prog 98 [.agg #[.int .i64 a0.1,.int .i64 a0.2.1,.string a0.2.2]] [] [] (fun v H'=>v=.bool r∧H'=[]):=by
 refine A.Ct.enter Tryz.func98 rfl Tryz.ntmps98 rfl fun w0 F0=>?_
 rw[F.fn_number]at hF
 refine A.xl 1 ?_
 refine A.AL.box 0 (cs:=[.int .i64 a0.1,.int .i64 a0.2.1,.string a0.2.2]) fun g1=>?_
 refine A.q0 [] [] [.n] [] ?_
 refine A.dl 3 ?_
 refine A.q0 [0] [] [.n,.b 0 0] [(4,.int .i64 a0.1)] ?_
 refine A.dx 2 ?_
 refine A.AX.join [1,4] [0] (fun nl nh=>∃(y2:Bool),nl=[(5,.bool y2)]∧nh=[]∧F.fn_number_j2 a0 y2=some r) ?_ ?_
 ·refine A.xl 1 ?_
  refine A.q0 [] [] [.n,.n] [(5,.bool (decide (a0.1=3)))] ?_
  refine A.dx 1 ?_
  refine A.AX.cnd rfl hF (fun hb hF=>?_) (fun hb hF=>?_)
  ·refine A.xe 1 ?_
   exact A.j ⟨(decide (a0.1=3)),rfl,rfl,hF⟩
  refine A.xl 0 ?_
  refine A.q0 [] [] [.n,.n] [(5,.bool (decide (a0.1=13)))] ?_
  refine A.AL.done ?_
  exact A.j ⟨(decide (a0.1=13)),rfl,rfl,hF⟩
 rintro _ _ ⟨y2,rfl,rfl,hF⟩
 rw[F.fn_number_j2]at hF
 refine A.AX.cnb rfl hF (fun hb hF=>?_) (fun hb hF=>?_)
 ·refine A.xl 1 ?_
  refine A.q0 [0] [] [.n,.b 0 1,.n,.n,.sy .n,.sy (.b 0 1),.sy .n,.pk,.n] [(2,.bool (bif decide ((0:Int)≤a0.2.1)then decide (a0.2.1≤64)else false))] ?_
  refine A.dx 1 ?_
  obtain rfl:=Option.some.inj hF
  exact A.rt1 [] ⟨rfl,rfl⟩
 refine A.AX.join [1] [0] (fun nl nh=>∃(y3:Bool),nl=[(16,.bool y3)]∧nh=[]∧F.fn_number_j1 a0 y3=some r) ?_ ?_
 ·refine A.xl 1 ?_
  refine A.q0 [] [] [.n,.n] [(16,.bool (decide (a0.1=6)))] ?_
  refine A.dx 1 ?_
  refine A.AX.cnd rfl hF (fun hb hF=>?_) (fun hb hF=>?_)
  ·refine A.xe 1 ?_
   exact A.j ⟨(decide (a0.1=6)),rfl,rfl,hF⟩
  refine A.xl 0 ?_
  refine A.q0 [] [] [.n,.n] [(16,.bool (decide (a0.1=11)))] ?_
  refine A.AL.done ?_
  exact A.j ⟨(decide (a0.1=11)),rfl,rfl,hF⟩
 rintro _ _ ⟨y3,rfl,rfl,hF⟩
 rw[F.fn_number_j1]at hF
 refine A.AX.cnb rfl hF (fun hb hF=>?_) (fun hb hF=>?_)
 ·refine A.xl 1 ?_
  refine A.q0 [0] [] [.n,.b 0 1,.n,.n,.sy .n,.sy (.b 0 1),.sy .n,.pk,.n] [(2,.bool (bif decide ((1:Int)≤a0.2.1)then decide (a0.2.1≤1048576)else false))] ?_
  refine A.dx 1 ?_
  obtain rfl:=Option.some.inj hF
  exact A.rt1 [] ⟨rfl,rfl⟩
 refine A.xl 4 ?_
 refine A.q0 [0] [] [.n,.b 0 1,.n,.n] [(2,.bool (decide (a0.2.1=0)))] ?_
 refine A.dx 1 ?_
 obtain rfl:=Option.some.inj hF
 exact A.rt1 [] ⟨rfl,rfl⟩
def F.fn_single_j1 (y8:Bool):Option Bool:=some y8
def F.fn_single_l2 (a0:ByteArray):Nat→Nat→Int→Option Bool
 |0,_,_=>none
 |f+1,p2,y3=>if p2<a0.size then(A.gd (Z.R64 (y3+1)) ((F.fn_single_l2 a0 f) (p2+(Utf8.decode a0 p2).2) (y3+1)))else(if y3=1 then((F.utf8_ValidString a0).bind fun r9=>(F.fn_single_j1 r9))else(F.fn_single_j1 false))
def F.fn_single (a0:ByteArray):Option Bool:=F.fn_single_l2 a0 A.FU 0 0
theorem fn_single_ok (a0:ByteArray)(h0_:a0.size≤maxLen)(r:Bool)(hF:F.fn_single a0=some r):
    A.Ct Tryz.prog 136 [.string a0] [(0,.el none 1 0 A.tabF),(1,.el none 2 0 A.tabA)] [] (fun v H'=>v=.bool r∧H'=[]):=by
 refine A.Ct.enter Tryz.func136 rfl Tryz.ntmps136 rfl fun w0 F0=>?_
 rw[F.fn_single]at hF
 refine A.xl 1 ?_
 refine A.q0 [] [] [.n] [] ?_
 refine A.dl 2 ?_
 refine A.q0 [] [] [.n] [(3,.int .i64 0)] ?_
 refine A.dl 3 ?_
 refine A.q0 [] [] [.n] [(4,.string a0)] ?_
 refine A.AL.rgs 2 fun g1=>?_
 refine A.dx 2 ?_
 refine A.lp_ [0,5] [0,1] (fun f nl nh=>∃(p2:Nat),∃(y3:Int),nl=[(3,.int .i64 y3)]∧nh=[(2,.si g1 a0 p2)]∧IntKind.i64.has y3∧F.fn_single_l2 a0 f p2 y3=some r) ⟨0,0,rfl,rfl,(A.hasl .i64 (0) rfl),hF⟩ ?_
 rintro f5 _ _ ⟨p2,y3,rfl,rfl,hy4,hF⟩
 rcases f5 with _|f5
 ·exact A.no0 hF
 rw[F.fn_single_l2]at hF
 refine A.xl 1 ?_
 refine A.AL.nxs 2 [] hF (fun hb6 hF=>?_) (fun hb hF=>?_)
 ·refine A.q0 [] [] [.n] [(7,.bool true)] ?_
  refine A.dx 2 ?_
  refine A.AX.cnt rfl ?_
  refine A.xl 3 ?_
  obtain⟨hc7,hF⟩:=A.gd_some hF
  refine A.q [] [] [.n,.n,.n] [Z.R64 (y3+1)] [(3,.int .i64 (y3+1))] hc7 ?_
  refine A.de 1 ?_
  exact A.j ⟨_,Nat.lt_succ_self _,⟨(p2+(Utf8.decode a0 p2).2),(y3+1),rfl,rfl,(Z.i64_has hc7),hF⟩⟩
 refine A.q0 [] [] [.n] [(7,.bool false)] ?_
 refine A.dx 2 ?_
 refine A.AX.cnf rfl ?_
 refine A.xx 2 ?_
 refine A.AX.join [] [0,1] (fun nl nh=>∃(y8:Bool),nl=[(2,.bool y8)]∧nh=[]∧F.fn_single_j1 y8=some r) ?_ ?_
 ·refine A.xl 0 ?_
  refine A.q0 [] [] [.n,.n,.n] [(12,.bool (decide (y3=1)))] ?_
  refine A.AL.cnp (j:=12) rfl hF (fun hb hF=>?_) (fun hb hF=>?_)
  ·refine A.q0 [] [] [.on .n] [(13,.string a0)] ?_
   refine A.AL.on (dj:=12) rfl rfl ?_
   obtain⟨r9,hv10,hF⟩:=A.bd_some hF
   refine A.AL.call 83 [] (first:=[]) (cap:=[]) cf122 (utf8_ValidString_ok a0 h0_ r9 hv10) (.s 0 (.s 1 .nil)) ?_
   rintro _ _ ⟨rfl,rfl⟩
   refine⟨by kernel_rfl,?_⟩
   refine A.q0 [] [] [.n,.n] [(2,.bool r9)] ?_
   refine A.AL.done ?_
   exact A.j ⟨r9,rfl,rfl,hF⟩
  refine A.q0 [] [] [.off,.off,.n,.n] [(2,.bool false)] ?_
  refine A.AL.done ?_
  exact A.j ⟨false,rfl,rfl,hF⟩
 rintro _ _ ⟨y8,rfl,rfl,hF⟩
 rw[F.fn_single_j1]at hF
 obtain rfl:=Option.some.inj hF
 exact A.rt1 [] ⟨rfl,rfl⟩
def F.fn_text_j1 (y2:Bool):Option Bool:=some y2
def F.fn_text_j2 (a0:D23)(y5:Bool):Option Bool:=if y5=true then((F.fn_single a0.2.2).bind fun r6=>(some r6))else(some (decide (a0.2.2=(ByteArray.mk #[]))))
def F.fn_text (a0:D23):Option Bool:=if a0.1=5 then(if(bif decide (a0.2.2≠(ByteArray.mk #[]))then decide ((a0.2.2.size:Int)≤16)else false)=true then((F.utf8_ValidString a0.2.2).bind fun r3=>(F.fn_text_j1 r3))else(F.fn_text_j1 false))else(if a0.1=12 then(F.fn_text_j2 a0 (decide (a0.1=12)))else(F.fn_text_j2 a0 (decide (a0.1=22))))
theorem fn_text_ok (a0:D23)(h0_:IntKind.i64.has a0.1)(h1_:IntKind.i64.has a0.2.1)(h2_:a0.2.2.size≤maxLen)(r:Bool)(hF:F.fn_text a0=some r):
    A.Ct Tryz.prog 99 [.agg #[.int .i64 a0.1,.int .i64 a0.2.1,.string a0.2.2]] [(0,.el none 1 0 A.tabF),(1,.el none 2 0 A.tabA)] [] (fun v H'=>v=.bool r∧H'=[]):=by
 refine A.Ct.enter Tryz.func99 rfl Tryz.ntmps99 rfl fun w0 F0=>?_
 rw[F.fn_text]at hF
 refine A.xl 1 ?_
 refine A.AL.box 2 (cs:=[.int .i64 a0.1,.int .i64 a0.2.1,.string a0.2.2]) fun g1=>?_
 refine A.q0 [] [] [.n] [] ?_
 refine A.dl 3 ?_
 refine A.q0 [2] [] [.n,.b 0 0] [(4,.int .i64 a0.1)] ?_
 refine A.dl 3 ?_
 refine A.q0 [] [] [.n,.n] [(5,.bool (decide (a0.1=5)))] ?_
 refine A.dx 1 ?_
 refine A.AX.cnd rfl hF (fun hb hF=>?_) (fun hb hF=>?_)
 ·refine A.AX.join [] [0,1] (fun nl nh=>∃(y2:Bool),nl=[(2,.bool y2)]∧nh=[]∧F.fn_text_j1 y2=some r) ?_ ?_
  ·refine A.xl 0 ?_
   refine A.q0 [2] [] [.n,.b 0 2,.n,.n,.sy .n,.sy (.b 0 2),.sy .n,.sy .n,.pk,.n] [(16,.bool (bif decide (a0.2.2≠(ByteArray.mk #[]))then decide ((a0.2.2.size:Int)≤16)else false))] ?_
   refine A.AL.cnd (j:=16) rfl hF (fun hF=>?_) (fun hF=>?_)
   ·refine A.q0 [2] [] [.on .n,.on (.b 0 2)] [(18,.string a0.2.2)] ?_
    refine A.AL.on (dj:=16) rfl rfl ?_
    obtain⟨r3,hv4,hF⟩:=A.bd_some hF
    refine A.AL.call 3 [] (first:=[]) (cap:=[]) cf122 (utf8_ValidString_ok a0.2.2 h2_ r3 hv4) (.s 0 (.s 1 .nil)) ?_
    rintro _ _ ⟨rfl,rfl⟩
    refine⟨by kernel_rfl,?_⟩
    refine A.q0 [] [] [.n,.n] [(2,.bool r3)] ?_
    refine A.AL.done ?_
    exact A.j ⟨r3,rfl,rfl,hF⟩
   refine A.q0 [] [] [.off,.off,.off,.n,.n] [(2,.bool false)] ?_
   refine A.AL.done ?_
   exact A.j ⟨false,rfl,rfl,hF⟩
  rintro _ _ ⟨y2,rfl,rfl,hF⟩
  rw[F.fn_text_j1]at hF
  obtain rfl:=Option.some.inj hF
  exact A.rt1 [] ⟨rfl,rfl⟩
 refine A.AX.join [1] [0,1,2] (fun nl nh=>∃(y5:Bool),nl=[(21,.bool y5)]∧nh=[]∧F.fn_text_j2 a0 y5=some r) ?_ ?_
 ·refine A.xl 1 ?_
  refine A.q0 [] [] [.n,.n] [(21,.bool (decide (a0.1=12)))] ?_
  refine A.dx 1 ?_
  refine A.AX.cnd rfl hF (fun hb hF=>?_) (fun hb hF=>?_)
  ·refine A.xe 1 ?_
   exact A.j ⟨(decide (a0.1=12)),rfl,rfl,hF⟩
  refine A.xl 0 ?_
  refine A.q0 [] [] [.n,.n] [(21,.bool (decide (a0.1=22)))] ?_
  refine A.AL.done ?_
  exact A.j ⟨(decide (a0.1=22)),rfl,rfl,hF⟩
 rintro _ _ ⟨y5,rfl,rfl,hF⟩
 rw[F.fn_text_j2]at hF
 refine A.AX.cnb rfl hF (fun hb hF=>?_) (fun hb hF=>?_)
 ·refine A.xl 1 ?_
  refine A.q0 [2] [] [.n,.b 0 2] [(25,.string a0.2.2)] ?_
  obtain⟨r6,hv7,hF⟩:=A.bd_some hF
  refine A.AL.call 43 [] (first:=[]) (cap:=[]) cf136 (fn_single_ok a0.2.2 h2_ r6 hv7) (.s 0 (.s 1 .nil)) ?_
  rintro _ _ ⟨rfl,rfl⟩
  refine⟨by kernel_rfl,?_⟩
  refine A.q0 [] [] [.n] [(2,.bool r6)] ?_
  refine A.dx 1 ?_
  obtain rfl:=Option.some.inj hF
  exact A.rt1 [] ⟨rfl,rfl⟩
 refine A.xl 4 ?_
 refine A.q0 [2] [] [.n,.b 0 2,.n,.n] [(2,.bool (decide (a0.2.2=(ByteArray.mk #[]))))] ?_
 refine A.dx 1 ?_
 obtain rfl:=Option.some.inj hF
 exact A.rt1 [] ⟨rfl,rfl⟩
def F.fn_Uses_1_it_l1 (b1:Int):Nat→Int→Option (List Int)
 |0,_=>none
 |f+1,y1=>if y1≤b1 then(A.cns y1 (A.gd (Z.R64 (y1+1)) ((F.fn_Uses_1_it_l1 b1 f) (y1+1))))else(some [])
def F.fn_Uses_1_it (b0:Int)(b1:Int):Option (List Int):=F.fn_Uses_1_it_l1 b1 A.FU b0
theorem fn_Uses_1_it_sq (b0:Int)(b1:Int)(g0_:Nat)(g2_:Nat)(h1_:IntKind.i64.has b0)(h3_:IntKind.i64.has b1)(xs:List Int)(hF:F.fn_Uses_1_it b0 b1=some xs):
    A.Sq Tryz.prog 135 [.pointer (some ⟨g0_,0,none⟩),.pointer (some ⟨g2_,0,none⟩)] [(0,.el none g0_ 0 [.int .i64 b0]),(1,.el none g2_ 0 [.int .i64 b1])] (Z.Ty.int .i64) (fun cs=>[Z.vof false cs]) xs:=by
 refine A.Sq.enter Tryz.func135 rfl Tryz.ntmps135 rfl fun lid w0 J Jx Φ hY hJ0=>?_
 obtain⟨rs0,hrs⟩: ∃rs0,rs0=xs:=⟨_,rfl⟩
 have hR0:A.Rem xs 0 rs0:=hrs▸A.Rem.zero xs
 rw[F.fn_Uses_1_it,←hrs]at hF
 clear hrs
 refine A.xl 1 ?_
 refine A.q0 [] [0] [.e 0 0,.n] [(4,.int .i64 b0)] ?_
 refine A.dx 2 ?_
 refine A.AX.loopC (A.CY 15 Φ) (0,w0) [0,2] [1] [1] (fun f i nl nh=>∃(y1:Int),∃(rs:List Int),nl=[(4,.int .i64 y1)]∧nh=[]∧IntKind.i64.has y1∧J i.1 i.2∧A.Rem xs i.1 rs∧F.fn_Uses_1_it_l1 b1 f y1=some rs) A.FU [(4,.int .i64 b0)] [] ⟨b0,_,rfl,rfl,h1_,hJ0,hR0,hF⟩ ?_
 rintro f3 ⟨k4,w5⟩ _ _ ⟨y1,rs8,rfl,rfl,hy2,hJ6,hR7,hF⟩
 rcases f3 with _|f3
 ·exact A.no0 hF
 rw[F.fn_Uses_1_it_l1]at hF
 refine A.xl 2 ?_
 refine A.q0 [] [1] [.n,.e 0 0,.n] [(8,.bool (decide (y1≤b1)))] ?_
 refine A.dx 1 ?_
 refine A.AX.cnd rfl hF (fun hb hF=>?_) (fun hb hF=>?_)
 ·refine A.xl 5 ?_
  refine A.q0 [] [] [.n,.n] [(11,.func (.yield lid) #[] #[]),(12,.int .i64 y1)] ?_
  obtain⟨rs9,hqrs9,hF⟩:=A.cns_some hF
  refine A.AL.yield hY hJ6 (hqrs9▸hR7) [.int .i64 y1] ⟨rfl,hy2⟩ (fun w10 hJ11 hR12=>?_) (fun w10 hX13=>?_)
  ·refine A.q0 [] [] [.n] [(14,.bool false)] ?_
   refine A.dx 1 ?_
   refine A.AX.cnf rfl ?_
   refine A.xl 3 ?_
   obtain⟨hc14,hF⟩:=A.gd_some hF
   refine A.q [] [] [.n,.n,.n] [Z.R64 (y1+1)] [(4,.int .i64 (y1+1))] hc14 ?_
   refine A.AL.done ?_
   exact A.AE.jC (k4+1,w10) [1] [(4,.int .i64 (y1+1))] [] ⟨_,Nat.lt_succ_self _,⟨(y1+1),_,rfl,rfl,(Z.i64_has hc14),hJ11,hR12,hF⟩⟩
  refine A.q0 [] [] [.n] [(14,.bool true)] ?_
  refine A.dx 1 ?_
  refine A.AX.cnt rfl ?_
  exact A.AX.rtX hY hX13
 refine A.xe 1 ?_
 obtain rfl:=Option.some.inj hF
 exact A.AE.rtY hY hJ6 hR7
def F.fn_Check_j1 (k1:Option Int)(y25:Bool):Option Int:=if y25=true then(some 0)else(k1)
def F.fn_Check_l2 (a1:D23):List Int→Option Int
 | []=>some 60
 |y22::f=>if y22=a1.1 then((F.fn_number (a1.1,a1.2.1,a1.2.2)).bind fun r26=>(if r26=true then((F.fn_text (a1.1,a1.2.1,a1.2.2)).bind fun r28=>(F.fn_Check_j1 (F.fn_Check_l2 a1 f) r28))else(F.fn_Check_j1 (F.fn_Check_l2 a1 f) false)))else(F.fn_Check_j1 (F.fn_Check_l2 a1 f) false)
def F.fn_Check (a0:Int)(a1:D23):Option Int:=(F.fn_uses a0).bind fun r3=>(if r3.2<0 then(if(a1.1,a1.2.1,a1.2.2)≠(0,0,ByteArray.mk #[])then(some 60)else(some 0))else((F.fn_Uses a0).bind fun r7=>((F.fn_Uses_1_it r7.1 r7.2).bind fun xs13=>F.fn_Check_l2 a1 xs13)))
theorem fn_Check_ok (a0:Int)(a1:D23)(h0_:IntKind.i64.has a0)(h1_:IntKind.i64.has a1.1)(h2_:IntKind.i64.has a1.2.1)(h3_:a1.2.2.size≤maxLen)(r:Int)(hF:F.fn_Check a0 a1=some r):
    A.Ct Tryz.prog 57 [.int .i64 a0,.agg #[.int .i64 a1.1,.int .i64 a1.2.1,.string a1.2.2]] [(0,.el none 1 0 A.tabF),(1,.el none 2 0 A.tabA)] [] (fun v H'=>v=.int .i64 r∧H'=[]∧IntKind.i64.has r):=by
 refine A.Ct.enterM Tryz.func57 rfl Tryz.ntmps57 rfl fun w0 F0=>?_
 rw[F.fn_Check]at hF
 refine A.xl 1 ?_
 refine A.AL.box 2 (cs:=[.int .i64 a1.1,.int .i64 a1.2.1,.string a1.2.2]) fun g1=>?_
 refine A.AL.alloc 3 (cs:=[.int .i64 0]) Tryz.zeroValue38 fun g2=>?_
 refine A.dl 3 ?_
 refine A.q0 [] [] [.n] [(9,.int .i64 a0)] ?_
 obtain⟨r3,hv4,hF⟩:=A.bd_some hF
 refine A.AL.call 4 [] (first:=[]) (cap:=[]) cf96 (fn_uses_ok a0 h0_ r3 hv4) .nil ?_
 rintro _ _ ⟨rfl,rfl,hr5,hr6⟩
 refine⟨by kernel_rfl,?_⟩
 refine A.q0 [] [] [.n,.n,.n,.n,.n] [(6,.int .i64 r3.2)] ?_
 refine A.dl 2 ?_
 refine A.q0 [] [] [.n,.n] [(14,.bool (decide (r3.2<0)))] ?_
 refine A.dx 1 ?_
 refine A.AX.cnd rfl hF (fun hb hF=>?_) (fun hb hF=>?_)
 ·refine A.xl 2 ?_
  refine A.q0 [2] [] [.b 0 0,.n] [(15,.agg #[.int .i64 a1.1,.int .i64 a1.2.1,.string a1.2.2]),(16,.agg #[.int .i64 0,.int .i64 0,.string (ByteArray.mk #[])])] ?_
  refine A.AL.val rfl (fun a w hf hh=>eqagg_neq24 (x:=(a1.1,a1.2.1,a1.2.2)) (y:=(0,0,ByteArray.mk #[])) (hf.eval rfl) (hf.eval rfl)) ?_
  refine A.dx 1 ?_
  refine A.AX.cnd rfl hF (fun hb hF=>?_) (fun hb hF=>?_)
  ·refine A.xl 1 ?_
   refine A.sw 3 [] [.int .i64 60] ?_
   refine A.dx 1 ?_
   obtain rfl:=Option.some.inj hF
   exact A.AX.rtM (Ds:=[]) [] [] (.int .i64 60) (trivial) (fun a w hf hh=>Z.resv1 rfl (Z.rv_1 hf rfl Tryz.isAgg38 (A.Hp.blk hh 3))) (⟨rfl,rfl,(A.hasl .i64 (60) rfl)⟩)
  refine A.xl 3 ?_
  refine A.sw 3 [] [.int .i64 0] ?_
  refine A.dx 1 ?_
  obtain rfl:=Option.some.inj hF
  exact A.AX.rtM (Ds:=[]) [] [] (.int .i64 0) (trivial) (fun a w hf hh=>Z.resv1 rfl (Z.rv_1 hf rfl Tryz.isAgg38 (A.Hp.blk hh 3))) (⟨rfl,rfl,(A.hasl .i64 (0) rfl)⟩)
 refine A.xl 4 ?_
 refine A.q0 [] [] [.n] [(18,.int .i64 a0)] ?_
 obtain⟨r7,hv8,hF⟩:=A.bd_some hF
 refine A.AL.call 44 [] (first:=[]) (cap:=[]) cf97 (fn_Uses_ok a0 h0_ r7 hv8) .nil ?_
 rintro _ _ ⟨g9,g11,rfl,rfl,hr10,hr12⟩
 refine⟨by kernel_rfl,?_⟩
 refine A.dx 2 ?_
 obtain⟨xs13,hv14,hF⟩:=A.bd_some hF
 refine A.AX.rgf 84 85 86 [0,1,2,3,44,45] [0,1,2,3,44,45] [85,84,0,1,2,3,44,45] (fun k nh=>nh=[]∧F.fn_Check_l2 a1 (List.drop k xs13)=some r) [] cf135 (fn_Uses_1_it_sq r7.1 r7.2 g9 g11 hr10 hr12 xs13 hv14) (fun _=>rfl) ⟨rfl,hF⟩ ?_ ?_ ?_
 ·rintro k21 _ D15 L16 ⟨rfl,hF⟩
  exact⟨⟨_,(.b 44 (.b 45 .nil))⟩,rfl,fun o=>rfl⟩
 ·rintro k21 _ y22 D15 L16 w20 o17 ⟨rfl,hF⟩ hx23 hxo24 hh19
  rw[A.drop_at hx23,F.fn_Check_l2]at hF
  refine A.xl 0 ?_
  refine A.q0 [] [] [.n] [(7,.int .i64 y22)] ?_
  refine A.AL.done ?_
  refine A.AE.flip 84 85 fun o18=>?_
  refine A.xx 1 ?_
  refine A.AX.join [3,4] [0,1,2,3,44,45,84,85] (fun nl nh=>∃(y25:Bool),nl=[(32,.bool y25)]∧nh=[]∧F.fn_Check_j1 (F.fn_Check_l2 a1 (List.drop (k21+1) xs13)) y25=some r) ?_ ?_
  ·refine A.xl 0 ?_
   refine A.q0 [2] [] [.n,.n,.b 0 0,.n,.n] [(25,.bool (decide (y22=a1.1)))] ?_
   refine A.AL.cnp (j:=25) rfl hF (fun hb hF=>?_) (fun hb hF=>?_)
   ·refine A.q0 [2] [] [.on (.b 0 0)] [(26,.agg #[.int .i64 a1.1,.int .i64 a1.2.1,.string a1.2.2])] ?_
    refine A.AL.on (dj:=25) rfl rfl ?_
    obtain⟨r26,hv27,hF⟩:=A.bd_some hF
    refine A.AL.call 167 [] (first:=[]) (cap:=[]) cf98 (fn_number_ok (a1.1,a1.2.1,a1.2.2) h1_ h2_ h3_ r26 hv27) .nil ?_
    rintro _ _ ⟨rfl,rfl⟩
    refine⟨by kernel_rfl,?_⟩
    refine A.q0 [] [] [.n,.n] [(29,.bool r26)] ?_
    refine A.AL.cnd (j:=29) rfl hF (fun hF=>?_) (fun hF=>?_)
    ·refine A.q0 [2] [] [.on (.b 0 0)] [(30,.agg #[.int .i64 a1.1,.int .i64 a1.2.1,.string a1.2.2])] ?_
     refine A.AL.on (dj:=29) rfl rfl ?_
     obtain⟨r28,hv29,hF⟩:=A.bd_some hF
     refine A.AL.call 207 [] (first:=[]) (cap:=[]) cf99 (fn_text_ok (a1.1,a1.2.1,a1.2.2) h1_ h2_ h3_ r28 hv29) (.s 0 (.s 1 .nil)) ?_
     rintro _ _ ⟨rfl,rfl⟩
     refine⟨by kernel_rfl,?_⟩
     refine A.q0 [] [] [.n] [(32,.bool r28)] ?_
     refine A.AL.done ?_
     exact A.j ⟨r28,rfl,rfl,hF⟩
    refine A.q0 [] [] [.off,.off,.n] [(32,.bool false)] ?_
    refine A.AL.done ?_
    exact A.j ⟨false,rfl,rfl,hF⟩
   refine A.q0 [] [] [.off,.off,.n,.n,.off,.off,.n] [(32,.bool false)] ?_
   refine A.AL.done ?_
   exact A.j ⟨false,rfl,rfl,hF⟩
  rintro _ _ ⟨y25,rfl,rfl,hF⟩
  rw[F.fn_Check_j1]at hF
  refine A.AX.cnb rfl hF (fun hb hF=>?_) (fun hb hF=>?_)
  ·refine A.xl 1 ?_
   refine A.sw 3 [] [.int .i64 0] ?_
   refine A.dx 1 ?_
   refine A.AX.bret hh19 [85,2,3,44,45,84] 100000 [(85,100085),(2,100002),(3,100003),(44,100044),(45,100045),(84,100084),(0,0),(1,1)] [(2,.blk g1 24 [.int .i64 a1.1,.int .i64 a1.2.1,.string a1.2.2]),(3,.blk g2 38 [.int .i64 0]),(44,.blk g9 3 [.int .i64 r7.1]),(45,.blk g11 3 [.int .i64 r7.2]),(84,.ob D15 A.dfT),(0,.el none 1 0 A.tabF),(1,.el none 2 0 A.tabA)] ?_ rfl rfl
   obtain rfl:=Option.some.inj hF
   exact A.AE.rtM (Ds:=[D15]) [84] [] (.int .i64 0) (⟨rfl,trivial⟩) (fun a w hf hh=>Z.resv1 rfl (Z.rv_1 hf rfl Tryz.isAgg38 (A.Hp.blk hh 3))) (⟨rfl,rfl,(A.hasl .i64 (0) rfl)⟩)
  refine A.xe 2 ?_
  exact A.AE.bn hh19 [85,84,2,3,44,45] 100000 [(85,100085),(84,100084),(0,0),(1,1),(2,100002),(3,100003),(44,100044),(45,100045)] [] ⟨rfl,hF⟩ rfl rfl
 rintro _ D15 L16 ⟨rfl,hF⟩
 rw[List.drop_length,F.fn_Check_l2]at hF
 refine A.el 3 ?_
 refine A.sw 3 [] [.int .i64 60] ?_
 refine A.dx 1 ?_
 obtain rfl:=Option.some.inj hF
 exact A.AX.rtM (Ds:=[D15]) [84] [] (.int .i64 60) (⟨rfl,trivial⟩) (fun a w hf hh=>Z.resv1 rfl (Z.rv_1 hf rfl Tryz.isAgg38 (A.Hp.blk hh 3))) (⟨rfl,rfl,(A.hasl .i64 (60) rfl)⟩)
def F.fn_both (a0:Int)(a1:D23)(a2:D43):Option Int:=(F.fn_Check a0 (a1.1,a1.2.1,a1.2.2)).bind fun r3=>(if r3≠0 then(some r3)else((F.rec_Check (a2.1,a2.2)).bind fun r6=>(some r6)))
theorem fn_both_ok (a0:Int)(a1:D23)(a2:D43)(h0_:IntKind.i64.has a0)(h1_:IntKind.i64.has a1.1)(h2_:IntKind.i64.has a1.2.1)(h3_:a1.2.2.size≤maxLen)(h4_:IntKind.i64.has a2.1)(h5_:a2.2.size≤maxLen)(r:Int)(hF:F.fn_both a0 a1 a2=some r):
    A.Ct Tryz.prog 102 [.int .i64 a0,.agg #[.int .i64 a1.1,.int .i64 a1.2.1,.string a1.2.2],.agg #[.int .i64 a2.1,.string a2.2]] [(0,.el none 1 0 A.tabF),(1,.el none 2 0 A.tabA)] [] (fun v H'=>v=.int .i64 r∧H'=[]∧IntKind.i64.has r):=by
 refine A.Ct.enter Tryz.func102 rfl Tryz.ntmps102 rfl fun w0 F0=>?_
 rw[F.fn_both]at hF
 refine A.xl 1 ?_
 refine A.AL.box 2 (cs:=[.int .i64 a1.1,.int .i64 a1.2.1,.string a1.2.2]) fun g1=>?_
 refine A.AL.box 3 (cs:=[.int .i64 a2.1,.string a2.2]) fun g2=>?_
 refine A.q0 [] [] [.n] [] ?_
 refine A.dl 3 ?_
 refine A.q0 [2] [] [.n,.b 0 0] [(8,.int .i64 a0),(9,.agg #[.int .i64 a1.1,.int .i64 a1.2.1,.string a1.2.2])] ?_
 obtain⟨r3,hv4,hF⟩:=A.bd_some hF
 refine A.AL.call 4 [] (first:=[]) (cap:=[]) cf57 (fn_Check_ok a0 (a1.1,a1.2.1,a1.2.2) h0_ h1_ h2_ h3_ r3 hv4) (.s 0 (.s 1 .nil)) ?_
 rintro _ _ ⟨rfl,rfl,hr5⟩
 refine⟨by kernel_rfl,?_⟩
 refine A.q0 [] [] [.n] [(7,.int .i64 r3)] ?_
 refine A.dl 2 ?_
 refine A.q0 [] [] [.n,.n] [(12,.bool (decide (r3≠0)))] ?_
 refine A.dx 1 ?_
 refine A.AX.cnd rfl hF (fun hb hF=>?_) (fun hb hF=>?_)
 ·refine A.xl 1 ?_
  refine A.q0 [] [] [.n,.n] [(6,.int .i64 r3)] ?_
  refine A.dx 1 ?_
  obtain rfl:=Option.some.inj hF
  exact A.rt1 [] ⟨rfl,rfl,hr5⟩
 refine A.xl 3 ?_
 refine A.q0 [3] [] [.b 0 0] [(14,.agg #[.int .i64 a2.1,.string a2.2])] ?_
 obtain⟨r6,hv7,hF⟩:=A.bd_some hF
 refine A.AL.call 44 [] (first:=[]) (cap:=[]) cf82 (rec_Check_ok (a2.1,a2.2) h4_ h5_ r6 hv7) (.s 0 (.s 1 .nil)) ?_
 rintro _ _ ⟨rfl,rfl,hr8⟩
 refine⟨by kernel_rfl,?_⟩
 refine A.q0 [] [] [.n] [(6,.int .i64 r6)] ?_
 refine A.dx 1 ?_
 obtain rfl:=Option.some.inj hF
 exact A.rt1 [] ⟨rfl,rfl,hr8⟩
end Go.Proofs.YtbljnlkhebiniaaGreatDoor
end
section
set_option linter.unusedVariables false
set_option linter.unusedSimpArgs false
set_option maxRecDepth 20000
set_option maxHeartbeats 8000000
set_option synthInstance.maxSize 1000000
set_option synthInstance.maxHeartbeats 400000
namespace Go.Proofs.YtbljnlkhebiniaaGreatDoor
open Go.RowKit
def F.fn_runes_l1 (a0:ByteArray):Nat→Nat→(List Int)→Option (List Int)
 |0,_,_=>none
 |f+1,p2,xs5=>if p2<a0.size then(A.gd ((List.length (α:=Int) xs5+List.length (α:=Int) [((Utf8.decode a0 p2).1:Int)])*4≤140737488355328) ((F.fn_runes_l1 a0 f) (p2+(Utf8.decode a0 p2).2) (xs5++[((Utf8.decode a0 p2).1:Int)])))else(some xs5)
def F.fn_runes (a0:ByteArray):Option (List Int):=F.fn_runes_l1 a0 A.FU 0 []
theorem fn_runes_ok (a0:ByteArray)(h0_:a0.size≤maxLen)(r:(List Int))(hF:F.fn_runes a0=some r):
    A.Ct Tryz.prog 103 [.string a0] [] [] (fun v H'=>∃(A0':Option Addr) (c1':Nat),v=.slice A0' ((r).length) c1'∧H'=[(0,.own (Z.Ty.int .i32) 21 A0' c1' r)]):=by
 refine A.Ct.enter Tryz.func103 rfl Tryz.ntmps103 rfl fun w0 F0=>?_
 rw[F.fn_runes]at hF
 refine A.xl 1 ?_
 refine A.q0 [] [] [.n] [] ?_
 refine A.dl 2 ?_
 refine A.q0 [] [] [.n] [(3,.slice none 0 0)] ?_
 refine A.dl 3 ?_
 refine A.q0 [] [] [.n] [(6,.string a0)] ?_
 refine A.AL.rgs 0 fun g1=>?_
 refine A.dx 2 ?_
 refine A.nil 4 (Z.Ty.int .i32) 21 ?_
 refine A.lp_ [7] [] (fun f nl nh=>∃(p2:Nat),∃(xs5:List Int),∃(A3:Option Addr),∃(c4:Nat),nl=[(3,.slice A3 ((xs5).length) c4)]∧nh=[(0,.si g1 a0 p2),(4,.own (Z.Ty.int .i32) 21 A3 c4 xs5)]∧F.fn_runes_l1 a0 f p2 xs5=some r) ⟨0,[],none,0,rfl,rfl,hF⟩ ?_
 rintro f6 _ _ ⟨p2,xs5,A3,c4,rfl,rfl,hF⟩
 rcases f6 with _|f6
 ·exact A.no0 hF
 rw[F.fn_runes_l1]at hF
 refine A.xl 1 ?_
 refine A.AL.nxs 0 [] hF (fun hb7 hF=>?_) (fun hb hF=>?_)
 ·refine A.q0 [] [] [.n] [(9,.bool true)] ?_
  refine A.dx 2 ?_
  refine A.AX.cnt rfl ?_
  refine A.xl 4 ?_
  refine A.q0 [] [] [.n,.n] [(5,.int .i32 ((Utf8.decode a0 p2).1:Int))] ?_
  refine A.dl 1 ?_
  refine A.q0 [] [] [.n,.n] [(11,.slice A3 ((xs5).length) c4),(12,.int .i32 ((Utf8.decode a0 p2).1:Int))] ?_
  refine A.AL.bsl 7 (ty:=(Z.Ty.int .i32)) (cs:=[.int .i32 ((Utf8.decode a0 p2).1:Int)]) [((Utf8.decode a0 p2).1:Int)] ⟨⟨rfl,A.dec_has⟩,rfl⟩ (fun g8=>?_) Tryz.zeroValue21 Tryz.sizeOf21
  obtain⟨hl11,hF⟩:=A.gd_some hF
  refine A.AL.app (k:=4) [] (A.rowO (k:=7) rfl) inf21 hl11 fun A9 c10=>?_
  refine A.q0 [] [] [.n] [(3,.slice A9 ((xs5++[((Utf8.decode a0 p2).1:Int)]).length) c10)] ?_
  refine A.de 1 ?_
  exact A.j ⟨_,Nat.lt_succ_self _,⟨(p2+(Utf8.decode a0 p2).2),(xs5++[((Utf8.decode a0 p2).1:Int)]),A9,c10,rfl,rfl,hF⟩⟩
 refine A.q0 [] [] [.n] [(9,.bool false)] ?_
 refine A.dx 2 ?_
 refine A.AX.cnf rfl ?_
 refine A.xl 3 ?_
 refine A.q0 [] [] [.n,.n] [(2,.slice A3 ((xs5).length) c4)] ?_
 refine A.dx 1 ?_
 obtain rfl:=Option.some.inj hF
 exact A.rt1 [(0,4)] ⟨A3,c4,rfl,rfl⟩
def F.fn_Measure (a0:D23)(a1:D43):Option (Int×Int):=(F.fn_both 11 (a0.1,a0.2.1,a0.2.2) (a1.1,a1.2)).bind fun r3=>(if r3≠0 then(some (0,r3))else(if a0.1=41 then(some (1,0))else((F.fn_runes a1.2).bind fun r6=>(some (((r6).length:Int),0)))))
theorem fn_Measure_ok (a0:D23)(a1:D43)(h0_:IntKind.i64.has a0.1)(h1_:IntKind.i64.has a0.2.1)(h2_:a0.2.2.size≤maxLen)(h3_:IntKind.i64.has a1.1)(h4_:a1.2.size≤maxLen)(r:Int×Int)(hF:F.fn_Measure a0 a1=some r):
    A.Ct Tryz.prog 63 [.agg #[.int .i64 a0.1,.int .i64 a0.2.1,.string a0.2.2],.agg #[.int .i64 a1.1,.string a1.2]] [(0,.el none 1 0 A.tabF),(1,.el none 2 0 A.tabA)] [] (fun v H'=>v=.tuple #[.int .i64 r.1,.int .i64 r.2]∧H'=[]∧IntKind.i64.has r.1∧IntKind.i64.has r.2):=by
 refine A.Ct.enter Tryz.func63 rfl Tryz.ntmps63 rfl fun w0 F0=>?_
 rw[F.fn_Measure]at hF
 refine A.xl 1 ?_
 refine A.AL.box 2 (cs:=[.int .i64 a0.1,.int .i64 a0.2.1,.string a0.2.2]) fun g1=>?_
 refine A.AL.box 3 (cs:=[.int .i64 a1.1,.string a1.2]) fun g2=>?_
 refine A.q0 [] [] [.n,.n] [] ?_
 refine A.dl 3 ?_
 refine A.q0 [2,3] [] [.b 0 0,.b 1 0] [(7,.agg #[.int .i64 a0.1,.int .i64 a0.2.1,.string a0.2.2]),(8,.agg #[.int .i64 a1.1,.string a1.2])] ?_
 obtain⟨r3,hv4,hF⟩:=A.bd_some hF
 refine A.AL.call 4 [] (first:=[]) (cap:=[]) cf102 (fn_both_ok 11 (a0.1,a0.2.1,a0.2.2) (a1.1,a1.2) (A.hasl .i64 (11) rfl) h0_ h1_ h2_ h3_ h4_ r3 hv4) (.s 0 (.s 1 .nil)) ?_
 rintro _ _ ⟨rfl,rfl,hr5⟩
 refine⟨by kernel_rfl,?_⟩
 refine A.q0 [] [] [.n] [(6,.int .i64 r3)] ?_
 refine A.dl 2 ?_
 refine A.q0 [] [] [.n,.n] [(11,.bool (decide (r3≠0)))] ?_
 refine A.dx 1 ?_
 refine A.AX.cnd rfl hF (fun hb hF=>?_) (fun hb hF=>?_)
 ·refine A.xl 1 ?_
  refine A.q0 [] [] [.n,.n,.n] [(4,.int .i64 0),(5,.int .i64 r3)] ?_
  refine A.dx 1 ?_
  obtain rfl:=Option.some.inj hF
  exact A.rt2 [] ⟨rfl,rfl,(A.hasl .i64 (0) rfl),hr5⟩
 refine A.xl 4 ?_
 refine A.q0 [2] [] [.n,.b 0 0,.n] [(15,.bool (decide (a0.1=41)))] ?_
 refine A.dx 1 ?_
 refine A.AX.cnd rfl hF (fun hb hF=>?_) (fun hb hF=>?_)
 ·refine A.xl 1 ?_
  refine A.q0 [] [] [.n,.n] [(4,.int .i64 1),(5,.int .i64 0)] ?_
  refine A.dx 1 ?_
  obtain rfl:=Option.some.inj hF
  exact A.rt2 [] ⟨rfl,rfl,(A.hasl .i64 (1) rfl),(A.hasl .i64 (0) rfl)⟩
 refine A.xl 3 ?_
 refine A.q0 [3] [] [.n,.b 0 1] [(17,.string a1.2)] ?_
 obtain⟨r6,hv7,hF⟩:=A.bd_some hF
 refine A.AL.call 44 [] (first:=[]) (cap:=[]) cf103 (fn_runes_ok a1.2 h4_ r6 hv7) .nil ?_
 rintro _ _ ⟨A8,c9,rfl,rfl⟩
 refine⟨by kernel_rfl,?_⟩
 refine A.q0 [] [] [.n,.n,.n] [(4,.int .i64 ((r6).length:Int)),(5,.int .i64 0)] ?_
 refine A.dx 1 ?_
 obtain rfl:=Option.some.inj hF
 refine A.oko 44 fun hl10=>?_
 exact A.rt2 [] ⟨rfl,rfl,(A.has_len hl10.1),(A.hasl .i64 (0) rfl)⟩
end Go.Proofs.YtbljnlkhebiniaaGreatDoor
end
section
set_option linter.unusedVariables false
set_option linter.unusedSimpArgs false
set_option maxRecDepth 20000
set_option maxHeartbeats 8000000
set_option synthInstance.maxSize 1000000
set_option synthInstance.maxHeartbeats 400000
namespace Go.Proofs.YtbljnlkhebiniaaGreatDoor
open Go.RowKit
def F.oper_Keys_1_it_j1 (k3:Int→Option (List (Int×(List D69))))(k4:Int→Option (List (Int×(List D69))))(b0:(List D69))(y1:Int)(y9:Int)(y17:Bool):Option (List (Int×(List D69))):=if y17=true then(A.gd (Z.R64 (y9+1)) (k4 (y9+1)))else((A.ix b0 y1).bind fun x24=>(A.gd (0≤y1∧y1≤y9∧y9.toNat≤(b0).length) ((F.slices_Clone_api_Many_api_Many (List.drop y1.toNat (List.take y9.toNat b0))).bind fun r35=>(A.cns (x24.1.1,r35) (k3 y9)))))
def F.oper_Keys_1_it_l2 (k3:Int→Option (List (Int×(List D69))))(b0:(List D69))(y1:Int):Nat→Int→Option (List (Int×(List D69)))
 |0,_=>none
 |f+1,y9=>if y9<((b0).length:Int)then((A.ix b0 y9).bind fun x44=>((A.ix b0 y1).bind fun x50=>(F.oper_Keys_1_it_j1 k3 (F.oper_Keys_1_it_l2 k3 b0 y1 f) b0 y1 y9 (decide (x44.1.1=x50.1.1)))))else(F.oper_Keys_1_it_j1 k3 (F.oper_Keys_1_it_l2 k3 b0 y1 f) b0 y1 y9 false)
def F.oper_Keys_1_it_l3 (b0:(List D69)):Nat→Int→Option (List (Int×(List D69)))
 |0,_=>none
 |f+1,y1=>if y1<((b0).length:Int)then(F.oper_Keys_1_it_l2 (F.oper_Keys_1_it_l3 b0 f) b0 y1 A.FU y1)else(some [])
def F.oper_Keys_1_it (b0:(List D69)):Option (List (Int×(List D69))):=F.oper_Keys_1_it_l3 b0 A.FU 0
theorem oper_Keys_1_it_sq (b0:(List D69))(g0_:Nat)(A1_:Option Addr)(c2_:Nat)(xs:List (Int×(List D69)))(hF:F.oper_Keys_1_it b0=some xs):
    A.Sq Tryz.prog 47 [.pointer (some ⟨g0_,0,none⟩)] [(0,.el none g0_ 0 [.slice A1_ ((b0).length) c2_]),(1,.sh (.slice T69) [.slice A1_ (b0).length c2_] b0)] (Z.Ty.pair (Z.Ty.int .i64) (Z.Ty.slice T69)) (fun cs=>[Z.vof false (cs.take 1),Z.vof false (cs.drop 1)]) xs:=by
 refine A.Sq.enter Tryz.func47 rfl Tryz.ntmps47 rfl fun lid w0 J Jx Φ hY hJ0=>?_
 obtain⟨rs0,hrs⟩: ∃rs0,rs0=xs:=⟨_,rfl⟩
 have hR0:A.Rem xs 0 rs0:=hrs▸A.Rem.zero xs
 rw[F.oper_Keys_1_it,←hrs]at hF
 clear hrs
 refine A.xl 1 ?_
 refine A.q0 [] [] [.n] [(3,.int .i64 0)] ?_
 refine A.dx 2 ?_
 refine A.AX.loopC (A.CY 46 Φ) (0,w0) [0,1] [0,1] [0,1] (fun f i nl nh=>∃(y1:Int),∃(rs:List (Int×(List D69))),nl=[(3,.int .i64 y1)]∧nh=[]∧IntKind.i64.has y1∧J i.1 i.2∧A.Rem xs i.1 rs∧F.oper_Keys_1_it_l3 b0 f y1=some rs) A.FU [(3,.int .i64 0)] [] ⟨0,_,rfl,rfl,(A.hasl .i64 (0) rfl),hJ0,hR0,hF⟩ ?_
 rintro f3 ⟨k4,w5⟩ _ _ ⟨y1,rs8,rfl,rfl,hy2,hJ6,hR7,hF⟩
 rcases f3 with _|f3
 ·exact A.no0 hF
 rw[F.oper_Keys_1_it_l3]at hF
 refine A.xl 2 ?_
 refine A.q0 [] [0] [.n,.e 0 0,.n,.n] [(8,.bool (decide (y1<((b0).length:Int))))] ?_
 refine A.dx 1 ?_
 refine A.AX.cnd rfl hF (fun hb hF=>?_) (fun hb hF=>?_)
 ·refine A.xl 4 ?_
  refine A.q0 [] [] [.n,.n] [(4,.int .i64 y1)] ?_
  refine A.dx 3 ?_
  refine A.AX.loopC (A.CY 46 Φ) (k4,w5) [0,1,3] [0,1] [0,1] (fun f i nl nh=>∃(y9:Int),∃(rs:List (Int×(List D69))),nl=[(4,.int .i64 y9)]∧nh=[]∧IntKind.i64.has y9∧J i.1 i.2∧A.Rem xs i.1 rs∧F.oper_Keys_1_it_l2 (F.oper_Keys_1_it_l3 b0 f3) b0 y1 f y9=some rs) A.FU [(4,.int .i64 y1)] [] ⟨y1,_,rfl,rfl,hy2,hJ6,hR7,hF⟩ ?_
  rintro f11 ⟨k12,w13⟩ _ _ ⟨y9,rs16,rfl,rfl,hy10,hJ14,hR15,hF⟩
  rcases f11 with _|f11
  ·exact A.no0 hF
  rw[F.oper_Keys_1_it_l2]at hF
  refine A.xx 1 ?_
  refine A.AX.joinC (A.CY 46 Φ) [0,1,3,4] [0,1] (fun i nl nh=>∃(y17:Bool),∃(rs:List (Int×(List D69))),nl=[(28,.bool y17)]∧nh=[]∧J i.1 i.2∧A.Rem xs i.1 rs∧F.oper_Keys_1_it_j1 (F.oper_Keys_1_it_l3 b0 f3) (F.oper_Keys_1_it_l2 (F.oper_Keys_1_it_l3 b0 f3) b0 y1 f11) b0 y1 y9 y17=some rs) ?_ ?_
  ·refine A.AX.dr mixed 19 19 (A.mb 19 0) ?_
   refine A.hq A.pb [] [0,1] [] [0] (A.mb 19 31) 14 [(0,.n),(1,.e 0 0),(2,.n),(3,.n),(4,.n)] [(14,.bool (decide (y9<((b0).length:Int))))] ?_
   refine A.AH.cnp (j:=14) rfl hF (fun hb hF=>?_) (fun hb hF=>?_)
   ·refine A.hq A.pb [0,1] [0,1] [] [0] (A.mb 19 6271) 10 [(5,.on (.e 0 0)),(6,.on .n),(11,.on (.e 0 0)),(12,.on .n)] [(15,.slice A1_ ((b0).length) c2_),(16,.int .i64 y9),(21,.slice A1_ ((b0).length) c2_),(22,.int .i64 y1)] ?_
    obtain⟨x44,hv45,hF⟩:=A.bd_some hF
    refine A.AH.pks 1 354 hv45 fun ho46=>?_
    intro b48 o49 hA47
    refine A.AH.vg A.pb [0,1] [0,1,354] 7 (A.mb 19 6399) (dj:=14) rfl (fun a w hf hh=>A.r_ixa (t:=T69) hv45 hA47 hf) ?_
    refine A.hq A.pb [0,1,354] [0,1,354] [] [354] (A.mb 19 8191) 6 [(8,.on .n),(9,.on .n),(10,.on (.e 0 0))] [(20,.int .i64 x44.1.1)] ?_
    obtain⟨x50,hv51,hF⟩:=A.bd_some hF
    refine A.AH.pks 1 355 hv51 fun ho52=>?_
    intro b54 o55 hA53
    refine A.AH.vg A.pb [0,1,354] [0,1,354,355] 13 (A.mb 19 16383) (dj:=14) rfl (fun a w hf hh=>A.r_ixa (t:=T69) hv51 hA53 hf) ?_
    refine A.hq A.pb [0,1,354,355] [0,1,354,355] [] [355] (A.mb 19 524287) 0 [(14,.on .n),(15,.on .n),(16,.on (.e 0 0)),(17,.on .n),(18,.n)] [(28,.bool (decide (x44.1.1=x50.1.1)))] ?_
    refine A.AH.done ?_
    exact A.AE.jC (k12,w13) [0,1] [(28,.bool (decide (x44.1.1=x50.1.1)))] [] ⟨(decide (x44.1.1=x50.1.1)),_,rfl,rfl,hJ14,hR15,hF⟩
   refine A.hq A.pb [0,1] [0,1] [] [] (A.mb 19 524287) 0 [(5,.off),(6,.off),(11,.off),(12,.off),(7,.off),(13,.off),(8,.off),(14,.off),(9,.off),(15,.off),(10,.off),(16,.off),(17,.off),(18,.n)] [(28,.bool false)] ?_
   refine A.AH.done ?_
   exact A.AE.jC (k12,w13) [0,1] [(28,.bool false)] [] ⟨false,_,rfl,rfl,hJ14,hR15,hF⟩
  rintro⟨k18,w19⟩ _ _ ⟨y17,rs22,rfl,rfl,hJ20,hR21,hF⟩
  rw[F.oper_Keys_1_it_j1]at hF
  refine A.AX.cnb rfl hF (fun hb hF=>?_) (fun hb hF=>?_)
  ·refine A.xl 3 ?_
   obtain⟨hc23,hF⟩:=A.gd_some hF
   refine A.q [] [] [.n,.n,.n] [Z.R64 (y9+1)] [(4,.int .i64 (y9+1))] hc23 ?_
   refine A.de 1 ?_
   exact A.AE.jC (k18,w19) [0,1] [(4,.int .i64 (y9+1))] [] ⟨_,Nat.lt_succ_self _,⟨(y9+1),_,rfl,rfl,(Z.i64_has hc23),hJ20,hR21,hF⟩⟩
  refine A.xx 4 ?_
  refine A.AX.dr mixed 12 14 (A.mb 14 0) ?_
  refine A.hq A.pb [] [0,1] [] [0] (A.mb 14 903) 8 [(0,.n),(1,.e 0 0),(2,.n),(7,.e 0 0),(8,.n),(9,.n)] [(31,.func (.yield lid) #[] #[]),(32,.slice A1_ ((b0).length) c2_),(33,.int .i64 y1),(38,.slice A1_ ((b0).length) c2_),(39,.int .i64 y1),(40,.int .i64 y9)] ?_
  obtain⟨x24,hv25,hF⟩:=A.bd_some hF
  refine A.AH.pks 1 356 hv25 fun ho26=>?_
  intro b28 o29 hA27
  refine A.AH.v A.pb [0,1] [0,1,356] 3 (A.mb 14 911) rfl (fun a w hf hh=>A.r_ixa (t:=T69) hv25 hA27 hf) ?_
  refine A.hq A.pb [0,1,356] [0,1,356] [] [356] (A.mb 14 1023) 4 [(4,.n),(5,.n),(6,.e 0 0)] [(37,.int .i64 x24.1.1)] ?_
  obtain⟨hc30,hF⟩:=A.gd_some hF
  refine A.cutpb 1 357 y1.toNat y9.toNat (Int.toNat_le_toNat hc30.2.1) hc30.2.2 fun A33 c34 hA31 hcc32=>?_
  refine A.AH.v A.pb [0,1,356] [0,1,356,357] 10 (A.mb 14 2047) rfl (fun a w hf hh=>A.r_cutb (u:=y1.toNat) (v:=y9.toNat) 1 hf hh (Int.toNat_of_nonneg hc30.1).symm (Int.toNat_of_nonneg (Int.le_trans hc30.1 hc30.2.1)).symm (Int.toNat_le_toNat hc30.2.1) hc30.2.2 hA31 hcc32) ?_
  refine A.AH.one 11 ?_
  obtain⟨r35,hv36,hF⟩:=A.bd_some hF
  refine A.AL.call 358 [] (first:=[]) (cap:=[]) cf46 (slices_Clone_api_Many_api_Many_ok (List.drop y1.toNat (List.take y9.toNat b0)) A33 c34 r35 hv36) (.l 357 .nil) ?_
  rintro _ _ ⟨A37,c38,rfl,rfl⟩
  refine⟨by kernel_rfl,?_⟩
  refine A.AH.nx (A.mb 14 4095) [0,1,356,357] ?_
  refine A.AH.one 12 ?_
  refine A.frz 358 [] ?_
  obtain⟨rs39,hqrs39,hF⟩:=A.cns_some hF
  refine A.AL.yield (t:=.pair (Z.Ty.int .i64) (Z.Ty.slice T69)) (x:=(x24.1.1,r35)) hY hJ20 (hqrs39▸hR21) [.int .i64 x24.1.1,.slice A37 ((r35).length) c38] ⟨⟨rfl,ho26.1.1⟩,.inl ⟨358,rfl⟩⟩ (fun w40 hJ41 hR42=>?_) (fun w40 hX43=>?_)
  ·refine A.AH.nmY (A.mb 14 8191) ?_
   refine A.AH.qr A.pb (A.mb 14 16383) 0 [(13,.n)] [(44,.bool false)] ?_
   refine A.AH.done ?_
   refine A.ex 1 ?_
   refine A.AX.cnf rfl ?_
   refine A.xl 2 ?_
   refine A.q0 [] [] [.n,.n] [(3,.int .i64 y9)] ?_
   refine A.de 1 ?_
   exact A.AE.jC (k18+1,w40) [0,1] [(3,.int .i64 y9)] [] ⟨_,Nat.lt_succ_self _,⟨y9,_,rfl,rfl,hy10,hJ41,hR42,hF⟩⟩
  refine A.AH.nmY (A.mb 14 8191) ?_
  refine A.AH.qr A.pb (A.mb 14 16383) 0 [(13,.n)] [(44,.bool true)] ?_
  refine A.AH.done ?_
  refine A.ex 1 ?_
  refine A.AX.cnt rfl ?_
  exact A.AX.rtX hY hX43
 refine A.xe 1 ?_
 obtain rfl:=Option.some.inj hF
 exact A.AE.rtY hY hJ6 hR7
def F.oper_teller_totals_j1 (k4:Int→Int→Option (D25×(List D43)×(List (D43×Int))))(y47:Int)(y50:Int):Option (D25×(List D43)×(List (D43×Int))):=A.gd (Z.R64 (y47+1)) (k4 y50 (y47+1))
def F.oper_teller_totals_l2 (k3:(List D43)→(List (D43×Int))→Int→Int→Int→Int→ByteArray→ByteArray→Int→Int→Option (D25×(List D43)×(List (D43×Int))))(xs23:List D43)(m24:List (D43×Int))(y25:Int)(y27:Int)(y29:Int)(y31:Int)(y33:ByteArray)(y35:ByteArray)(y37:Int)(y39:Int)(y16:(Int×(List D69))):Nat→Int→Int→Option (D25×(List D43)×(List (D43×Int)))
 |0,_,_=>none
 |f+1,y45,y47=>if y47<((y16.2).length:Int)then((A.ix y16.2 y47).bind fun x53=>((F.fn_Measure (y29,y31,y33) (x53.1.1,x53.1.2)).bind fun r59=>(if r59.2=0 then(A.gd (Z.R64 (r59.1*x53.2)∧Z.R64 (y45+(r59.1*x53.2))) (F.oper_teller_totals_j1 (F.oper_teller_totals_l2 k3 xs23 m24 y25 y27 y29 y31 y33 y35 y37 y39 y16 f) y47 (min (y45+(r59.1*x53.2)) 1099511627776)))else(F.oper_teller_totals_j1 (F.oper_teller_totals_l2 k3 xs23 m24 y25 y27 y29 y31 y33 y35 y37 y39 y16 f) y47 y45))))else((F.oper_number y45).bind fun r64=>(A.gd ((List.length (α:=D43) xs23+List.length (α:=D43) [(y16.1,r64)])*24≤140737488355328) (k3 (xs23++[(y16.1,r64)]) (Z.mins m24 (y16.1,ByteArray.mk #[]) y45) y25 y27 y29 y31 y33 y35 y37 y39)))
def F.oper_teller_totals_l3 (a0:(D25×(List D43)×(List (D43×Int)))):List (Int×(List D69))→(List D43)→(List (D43×Int))→Int→Int→Int→Int→ByteArray→ByteArray→Int→Int→Option (D25×(List D43)×(List (D43×Int)))
 | [],xs23,m24,y25,y27,y29,y31,y33,y35,y37,y39=>some ((y25,y27,a0.1.2.2.1,(y29,y31,y33),y35,y37,y39),xs23,m24)
 |y16::f,xs23,m24,y25,y27,y29,y31,y33,y35,y37,y39=>A.lt (Z.mget (0:Int) m24 (y16.1,ByteArray.mk #[])) fun x42=>(F.oper_teller_totals_l2 (F.oper_teller_totals_l3 a0 f) xs23 m24 y25 y27 y29 y31 y33 y35 y37 y39 y16 A.FU x42 0)
def F.oper_teller_totals (a0:(D25×(List D43)×(List (D43×Int))))(a1:(List D69)):Option (D25×(List D43)×(List (D43×Int))):=(F.oper_Keys a1).bind fun r2=>((F.oper_Keys_1_it r2).bind fun xs7=>F.oper_teller_totals_l3 a0 xs7 a0.2.1 a0.2.2 a0.1.1 a0.1.2.1 a0.1.2.2.2.1.1 a0.1.2.2.2.1.2.1 a0.1.2.2.2.1.2.2 a0.1.2.2.2.2.1 a0.1.2.2.2.2.2.1 a0.1.2.2.2.2.2.2)
theorem oper_teller_totals_ok (a0:(D25×(List D43)×(List (D43×Int))))(a1:(List D69))(g0_:Nat)(A3_:Option Addr)(c4_:Nat)(A11_:Option Addr)(c12_:Nat)(b13_:Nat)(A14_:Option Addr)(c15_:Nat)(h1_:IntKind.i64.has a0.1.1)(h2_:IntKind.i64.has a0.1.2.1)(h5_:IntKind.i64.has a0.1.2.2.2.1.1)(h6_:IntKind.i64.has a0.1.2.2.2.1.2.1)(h7_:a0.1.2.2.2.1.2.2.size≤maxLen)(h8_:a0.1.2.2.2.2.1.size≤maxLen)(h9_:IntKind.i64.has a0.1.2.2.2.2.2.1)(h10_:IntKind.i64.has a0.1.2.2.2.2.2.2)(r:(D25×(List D43)×(List (D43×Int))))(hF:F.oper_teller_totals a0 a1=some r):
    A.Ct Tryz.prog 32 [.pointer (some ⟨g0_,0,none⟩),.slice A14_ ((a1).length) c15_] [(0,.blk g0_ 78 [.int .i64 a0.1.1,.int .i64 a0.1.2.1,.slice A3_ ((a0.1.2.2.1).length) c4_,.int .i64 a0.1.2.2.2.1.1,.int .i64 a0.1.2.2.2.1.2.1,.string a0.1.2.2.2.1.2.2,.string a0.1.2.2.2.2.1,.int .i64 a0.1.2.2.2.2.2.1,.int .i64 a0.1.2.2.2.2.2.2,.slice A11_ ((a0.2.1).length) c12_,.map (some b13_)]),(1,.sh (.slice (Z.Ty.int .i64)) [.slice A3_ (a0.1.2.2.1).length c4_] a0.1.2.2.1),(2,.own T43 44 A11_ c12_ a0.2.1),(3,.mp D43 (fun x:D43=>.agg #[.int .i64 x.1,.string x.2]) (Z.Ty.int .i64) false b13_ a0.2.2),(4,.sh (.slice T69) [.slice A14_ (a1).length c15_] a1),(5,.el none 1 0 A.tabF),(6,.el none 2 0 A.tabA)] ([g0_]++(Z.obl A11_++([b13_]++[]))) (fun v H'=>∃(A0':Option Addr) (c1':Nat) (A2':Option Addr) (c3':Nat) (b4':Nat),v=.tuple #[]∧H'=[(0,.blk g0_ 78 [.int .i64 r.1.1,.int .i64 r.1.2.1,.slice A0' ((r.1.2.2.1).length) c1',.int .i64 r.1.2.2.2.1.1,.int .i64 r.1.2.2.2.1.2.1,.string r.1.2.2.2.1.2.2,.string r.1.2.2.2.2.1,.int .i64 r.1.2.2.2.2.2.1,.int .i64 r.1.2.2.2.2.2.2,.slice A2' ((r.2.1).length) c3',.map (some b4')]),(1,.sh (.slice (Z.Ty.int .i64)) [.slice A0' (r.1.2.2.1).length c1'] r.1.2.2.1),(2,.own T43 44 A2' c3' r.2.1),(3,.mp D43 (fun x:D43=>.agg #[.int .i64 x.1,.string x.2]) (Z.Ty.int .i64) false b4' r.2.2)]∧IntKind.i64.has r.1.1∧IntKind.i64.has r.1.2.1∧IntKind.i64.has r.1.2.2.2.1.1∧IntKind.i64.has r.1.2.2.2.1.2.1∧r.1.2.2.2.1.2.2.size≤maxLen∧r.1.2.2.2.2.1.size≤maxLen∧IntKind.i64.has r.1.2.2.2.2.2.1∧IntKind.i64.has r.1.2.2.2.2.2.2):=by
 refine A.Ct.enterM Tryz.func32 rfl Tryz.ntmps32 rfl fun w0 F0=>?_
 rw[F.oper_teller_totals]at hF
 refine A.xl 1 ?_
 refine A.AL.box 7 (cs:=[.pointer (some ⟨g0_,0,none⟩)]) fun g1=>?_
 refine A.dl 2 ?_
 refine A.q0 [] [] [.n] [(12,.slice A14_ ((a1).length) c15_)] ?_
 obtain⟨r2,hv3,hF⟩:=A.bd_some hF
 refine A.AL.call 8 [] (first:=[]) (cap:=[]) cf16 (oper_Keys_ok a1 A14_ c15_ r2 hv3) (.s 4 (.s 5 (.s 6 .nil))) ?_
 rintro _ _ ⟨g4,A5,c6,rfl,rfl⟩
 refine⟨by kernel_rfl,?_⟩
 refine A.dx 2 ?_
 obtain⟨xs7,hv8,hF⟩:=A.bd_some hF
 refine A.AX.rgf 48 49 50 [1,5,6,7,8,9] [0,2,3,1,5,6,7,8,9] [49,48,0,2,3,1,5,6,7,8,9] (fun k nh=>∃(xs23:List D43),∃(m24:List (D43×Int)),∃(y25:Int),∃(y27:Int),∃(y29:Int),∃(y31:Int),∃(y33:ByteArray),∃(y35:ByteArray),∃(y37:Int),∃(y39:Int),∃(A21:Option Addr),∃(c22:Nat),nh=[(0,.blk g0_ 78 [.int .i64 y25,.int .i64 y27,.slice A3_ ((a0.1.2.2.1).length) c4_,.int .i64 y29,.int .i64 y31,.string y33,.string y35,.int .i64 y37,.int .i64 y39,.slice A21 ((xs23).length) c22,.map (some b13_)]),(2,.own T43 44 A21 c22 xs23),(3,.mp D43 (fun x:D43=>.agg #[.int .i64 x.1,.string x.2]) (Z.Ty.int .i64) false b13_ m24)]∧IntKind.i64.has y25∧IntKind.i64.has y27∧IntKind.i64.has y29∧IntKind.i64.has y31∧y33.size≤maxLen∧y35.size≤maxLen∧IntKind.i64.has y37∧IntKind.i64.has y39∧F.oper_teller_totals_l3 a0 (List.drop k xs7) xs23 m24 y25 y27 y29 y31 y33 y35 y37 y39=some r) [(0,.blk g0_ 78 [.int .i64 a0.1.1,.int .i64 a0.1.2.1,.slice A3_ ((a0.1.2.2.1).length) c4_,.int .i64 a0.1.2.2.2.1.1,.int .i64 a0.1.2.2.2.1.2.1,.string a0.1.2.2.2.1.2.2,.string a0.1.2.2.2.2.1,.int .i64 a0.1.2.2.2.2.2.1,.int .i64 a0.1.2.2.2.2.2.2,.slice A11_ ((a0.2.1).length) c12_,.map (some b13_)]),(2,.own T43 44 A11_ c12_ a0.2.1),(3,.mp D43 (fun x:D43=>.agg #[.int .i64 x.1,.string x.2]) (Z.Ty.int .i64) false b13_ a0.2.2)] cf47 (oper_Keys_1_it_sq r2 g4 A5 c6 xs7 hv8) (fun _=>rfl) ⟨a0.2.1,a0.2.2,a0.1.1,a0.1.2.1,a0.1.2.2.2.1.1,a0.1.2.2.2.1.2.1,a0.1.2.2.2.1.2.2,a0.1.2.2.2.2.1,a0.1.2.2.2.2.2.1,a0.1.2.2.2.2.2.2,A11_,c12_,rfl,h1_,h2_,h5_,h6_,h7_,h8_,h9_,h10_,hF⟩ ?_ ?_ ?_
 ·rintro k15 _ D9 L10 ⟨xs23,m24,y25,y27,y29,y31,y33,y35,y37,y39,A21,c22,rfl,hy26,hy28,hy30,hy32,hy34,hy36,hy38,hy40,hF⟩
  exact⟨⟨_,(.b 8 (.s 9 .nil))⟩,rfl,fun o=>rfl⟩
 ·rintro k15 _ y16 D9 L10 w14 o11 ⟨xs23,m24,y25,y27,y29,y31,y33,y35,y37,y39,A21,c22,rfl,hy26,hy28,hy30,hy32,hy34,hy36,hy38,hy40,hF⟩ hx19 hxo20 hh13
  intro A17 c18
  rw[A.drop_at hx19,F.oper_teller_totals_l3]at hF
  refine A.xl 1 ?_
  refine A.q0 [] [] [.n] [(4,.int .i64 y16.1)] ?_
  refine A.dl 1 ?_
  refine A.q0 [] [] [.n] [(5,.slice A17 ((y16.2).length) c18)] ?_
  refine A.AL.done ?_
  refine A.AE.flip 48 49 fun o12=>?_
  refine A.xl 2 ?_
  refine A.q0 [] [] [.n,.n] [(17,.agg #[.int .i64 y16.1,.string (ByteArray.mk #[])])] ?_
  refine A.AL.alloc 551 (cs:=[.int .i64 0,.string (ByteArray.mk #[])]) Tryz.zeroValue44 fun g41=>?_
  refine A.sw 551 [] [.int .i64 y16.1,.string (ByteArray.mk #[])] ?_
  refine A.dx 2 ?_
  refine A.AX.dr mixed 7 7 (A.mb 7 0) ?_
  refine A.hq (A.pk_kont A.RQ.pq) [] [0,1,2,3,5,6,7,8,9,48,49,50,551] [7,551,0] [] (A.mb 7 31) 2 [(0,.b 0 0),(4,.b 1 0),(1,.n),(2,.n),(3,.b 2 10)] [(22,.agg #[.int .i64 y16.1,.string (ByteArray.mk #[])]),(21,.map (some b13_))] ?_
  obtain⟨x42,hv43,hF⟩:=A.lt_some hF
  refine A.okm (t:=(Z.Ty.int .i64)) 3 (y16.1,ByteArray.mk #[]) (z:=(0:Int)) (zs:=[.int .i64 0]) ⟨rfl,by decide⟩ hv43 fun ho44=>?_
  refine A.AH.v (A.pk_kont A.RQ.pq) [0,1,2,3,5,6,7,8,9,48,49,50,551] [0,1,2,3,5,6,7,8,9,48,49,50,551] 5 (A.mb 7 63) rfl (fun a w hf hh=>A.r_lkf (t:=(Z.Ty.int .i64)) (ok:=false) (z:=(0:Int)) (zs:=[.int .i64 0]) 3 ky44 (y16.1,ByteArray.mk #[]) Tryz.zeroValue2 ⟨rfl,by decide⟩ hv43 rfl hf hh) ?_
  refine A.hq (A.pk_kont A.RQ.pq) [0,1,2,3,5,6,7,8,9,48,49,50,551] [0,1,2,3,5,6,7,8,9,48,49,50,551] [] [] (A.mb 7 127) 0 [(6,.n)] [(7,.int .i64 x42)] ?_
  refine A.AH.done ?_
  refine A.el 3 ?_
  refine A.q0 [] [] [.n,.n,.n] [(24,.slice A17 ((y16.2).length) c18),(25,.int .i64 ((y16.2).length:Int)),(26,.int .i64 0)] ?_
  refine A.dx 2 ?_
  refine A.lp_ [2,4,6,24,25] [0,1,2,3,5,6,7,8,9,48,49,50,551] (fun f nl nh=>∃(y45:Int),∃(y47:Int),nl=[(7,.int .i64 y45),(26,.int .i64 y47)]∧nh=[]∧IntKind.i64.has y45∧IntKind.i64.has y47∧F.oper_teller_totals_l2 (F.oper_teller_totals_l3 a0 (List.drop (k15+1) xs7)) xs23 m24 y25 y27 y29 y31 y33 y35 y37 y39 y16 f y45 y47=some r) ⟨x42,0,rfl,rfl,ho44,(A.hasl .i64 (0) rfl),hF⟩ ?_
  rintro f49 _ _ ⟨y45,y47,rfl,rfl,hy46,hy48,hF⟩
  rcases f49 with _|f49
  ·exact A.no0 hF
  rw[F.oper_teller_totals_l2]at hF
  refine A.xl 1 ?_
  refine A.q0 [] [] [.n] [(27,.bool (decide (y47<((y16.2).length:Int))))] ?_
  refine A.dx 2 ?_
  refine A.AX.cnd rfl hF (fun hb hF=>?_) (fun hb hF=>?_)
  ·refine A.xx 2 ?_
   refine A.AX.join [2,4,6,24,25,26] [0,1,2,3,5,6,7,8,9,48,49,50,551] (fun nl nh=>∃(y50:Int),nl=[(7,.int .i64 y50)]∧nh=[]∧IntKind.i64.has y50∧F.oper_teller_totals_j1 (F.oper_teller_totals_l2 (F.oper_teller_totals_l3 a0 (List.drop (k15+1) xs7)) xs23 m24 y25 y27 y29 y31 y33 y35 y37 y39 y16 f49) y47 y50=some r) ?_ ?_
   ·refine A.xl 2 ?_
    obtain⟨x53,hv54,hF⟩:=A.bd_some hF
    refine A.AL.ixs 50 718 hv54 fun ho55=>?_
    intro b56 o57
    refine A.q0 [] [718] [.e 0 0] [(29,.agg #[.int .i64 x53.1.1,.string x53.1.2,.int .i64 x53.2])] ?_
    refine A.AL.alloc 719 (cs:=[.int .i64 0,.string (ByteArray.mk #[]),.int .i64 0]) Tryz.zeroValue70 fun g58=>?_
    refine A.sw 719 [] [.int .i64 x53.1.1,.string x53.1.2,.int .i64 x53.2] ?_
    refine A.dx 2 ?_
    refine A.AX.dr mixed 13 13 (A.mb 13 0) ?_
    refine A.hq (A.pk_kont A.RQ.pq) [] [0,1,2,3,5,6,7,8,9,48,49,50,551,718,719] [7,719,0] [] (A.mb 13 127) 6 [(0,.b 0 0),(5,.n),(1,.n),(6,.b 1 0),(2,.n),(3,.n),(4,.b 2 3)] [(37,.agg #[.int .i64 x53.1.1,.string x53.1.2]),(35,.agg #[.int .i64 y29,.int .i64 y31,.string y33])] ?_
    refine A.AH.one 7 ?_
    obtain⟨r59,hv60,hF⟩:=A.bd_some hF
    refine A.AL.call 720 [] (first:=[]) (cap:=[]) cf63 (fn_Measure_ok (y29,y31,y33) (x53.1.1,x53.1.2) hy30 hy32 hy34 ho55.1.1 ho55.1.2 r59 hv60) (.s 5 (.s 6 .nil)) ?_
    rintro _ _ ⟨rfl,rfl,hr61,hr62⟩
    refine⟨by kernel_rfl,?_⟩
    refine A.AH.nx (A.mb 13 255) [0,1,2,3,5,6,7,8,9,48,49,50,551,718,719] ?_
    refine A.hq (A.pk_kont A.RQ.pq) [0,1,2,3,5,6,7,8,9,48,49,50,551,718,719] [0,1,2,3,5,6,7,8,9,48,49,50,551,718,719] [] [] (A.mb 13 8191) 0 [(8,.n),(9,.n),(10,.n),(11,.n),(12,.n)] [(10,.int .i64 r59.1),(11,.int .i64 r59.2)] ?_
    refine A.AH.done ?_
    refine A.el 2 ?_
    refine A.q0 [] [] [.n,.n] [(42,.bool (decide (r59.2=0)))] ?_
    refine A.dx 1 ?_
    refine A.AX.cnd rfl hF (fun hb hF=>?_) (fun hb hF=>?_)
    ·refine A.xl 0 ?_
     obtain⟨hc63,hF⟩:=A.gd_some hF
     refine A.q [719] [] [.n,.n,.n,.b 0 2,.n,.n,.n,.n] [Z.R64 (r59.1*x53.2),Z.R64 (y45+(r59.1*x53.2))] [(7,.int .i64 (min (y45+(r59.1*x53.2)) 1099511627776))] hc63 ?_
     refine A.de 1 ?_
     exact A.j ⟨(min (y45+(r59.1*x53.2)) 1099511627776),rfl,rfl,(A.has_min (Z.i64_has hc63.2) (A.hasl .i64 (1099511627776) rfl)),hF⟩
    refine A.xe 2 ?_
    exact A.j ⟨y45,rfl,rfl,hy46,hF⟩
   rintro _ _ ⟨y50,rfl,rfl,hy51,hF⟩
   rw[F.oper_teller_totals_j1]at hF
   refine A.xl 0 ?_
   obtain⟨hc52,hF⟩:=A.gd_some hF
   refine A.q [] [] [.n,.n] [Z.R64 (y47+1)] [(26,.int .i64 (y47+1))] hc52 ?_
   refine A.AL.done ?_
   exact A.j ⟨_,Nat.lt_succ_self _,⟨y50,(y47+1),rfl,rfl,hy51,(Z.i64_has hc52),hF⟩⟩
  refine A.xx 3 ?_
  refine A.AX.dr mixed 6 7 (A.mb 7 0) ?_
  refine A.hq (A.pk_kont A.RQ.pq) [] [0,1,2,3,5,6,7,8,9,48,49,50,551] [7,551,0] [] (A.mb 7 63) 1 [(0,.b 0 0),(4,.b 1 0),(5,.n),(1,.n),(2,.n),(3,.b 2 10)] [(55,.agg #[.int .i64 y16.1,.string (ByteArray.mk #[])]),(56,.int .i64 y45),(54,.map (some b13_))] ?_
  refine A.AH.one 6 ?_
  refine A.AL.mup (t:=(Z.Ty.int .i64)) 3 [] (cs:=[.int .i64 y45]) (u:=y45) ky44 (y16.1,ByteArray.mk #[]) ⟨rfl,hy46⟩ ?_
  refine A.AH.nm (A.mb 7 127) ?_
  refine A.AH.done ?_
  refine A.ex 1 ?_
  refine A.AX.dr mixed 13 14 (A.mb 14 0) ?_
  refine A.hq (A.pk_kont A.RQ.pq) [] [0,1,3,5,6,7,8,9,48,49,50,551] [7,0] [] (A.mb 14 127) 7 [(0,.b 0 0),(1,.b 0 0),(5,.n),(6,.n),(2,.n),(3,.n),(4,.b 1 9)] [(57,.pointer (some ⟨g0_,0,none⟩)),(62,.int .i64 y16.1),(63,.int .i64 y45),(61,.slice A21 ((xs23).length) c22)] ?_
  refine A.AH.one 7 ?_
  obtain⟨r64,hv65,hF⟩:=A.bd_some hF
  refine A.AL.call 760 [] (first:=[]) (cap:=[]) cf59 (oper_number_ok y45 hy46 r64 hv65) .nil ?_
  rintro _ _ ⟨rfl,rfl,hr66⟩
  refine⟨by kernel_rfl,?_⟩
  refine A.AH.nx (A.mb 14 255) [0,1,3,5,6,7,8,9,48,49,50,551] ?_
  refine A.hq (A.pk_kont A.RQ.pq) [0,1,3,5,6,7,8,9,48,49,50,551] [0,1,3,5,6,7,8,9,48,49,50,551] [] [] (A.mb 14 511) 5 [(8,.n)] [(65,.agg #[.int .i64 y16.1,.string r64])] ?_
  refine A.AH.one 9 ?_
  refine A.AL.bsl 800 (ty:=T43) (cs:=[.int .i64 y16.1,.string r64]) [(y16.1,r64)] ⟨⟨⟨rfl,hxo20.1⟩,⟨rfl,hr66⟩⟩,rfl⟩ (fun g67=>?_) Tryz.zeroValue44 Tryz.sizeOf44
  refine A.AH.nx (A.mb 14 1023) [0,1,3,5,6,7,8,9,48,49,50,551] ?_
  refine A.AH.one 10 ?_
  obtain⟨hl70,hF⟩:=A.gd_some hF
  refine A.AL.app (k:=2) [] (A.rowO (k:=800) rfl) inf44 hl70 fun A68 c69=>?_
  refine A.AH.nx (A.mb 14 2047) [0,1,3,5,6,7,8,9,48,49,50,551] ?_
  refine A.hq (A.pk_kont A.RQ.pq) [0,1,3,5,6,7,8,9,48,49,50,551] [0,1,2,3,5,6,7,8,9,48,49,50,551,800] [] [] (A.mb 14 8191) 1 [(11,.n),(12,.n)] [(69,.pointer (some ⟨g0_,9,none⟩))] ?_
  refine A.AH.one 13 ?_
  refine A.AL.store 0 [] (new:=[.slice A68 ((xs23++[(y16.1,r64)]).length) c69]) (cs':=[.int .i64 y25,.int .i64 y27,.slice A3_ ((a0.1.2.2.1).length) c4_,.int .i64 y29,.int .i64 y31,.string y33,.string y35,.int .i64 y37,.int .i64 y39,.slice A68 ((xs23++[(y16.1,r64)]).length) c69,.map (some b13_)]) ?_
  refine A.AH.nm (A.mb 14 16383) ?_
  refine A.AH.done ?_
  refine A.ee 1 ?_
  exact A.AE.bn hh13 [49,48,0,2,3,1,7,8,9] 100000 [(49,100049),(48,100048),(0,100000),(2,100002),(3,100003),(1,100001),(5,5),(6,6),(7,100007),(8,100008),(9,100009)] [(0,.blk g0_ 78 [.int .i64 y25,.int .i64 y27,.slice A3_ ((a0.1.2.2.1).length) c4_,.int .i64 y29,.int .i64 y31,.string y33,.string y35,.int .i64 y37,.int .i64 y39,.slice A68 ((xs23++[(y16.1,r64)]).length) c69,.map (some b13_)]),(2,.own T43 44 A68 c69 (xs23++[(y16.1,r64)])),(3,.mp D43 (fun x:D43=>.agg #[.int .i64 x.1,.string x.2]) (Z.Ty.int .i64) false b13_ (Z.mins m24 (y16.1,ByteArray.mk #[]) y45))] ⟨(xs23++[(y16.1,r64)]),(Z.mins m24 (y16.1,ByteArray.mk #[]) y45),y25,y27,y29,y31,y33,y35,y37,y39,A68,c69,rfl,hy26,hy28,hy30,hy32,hy34,hy36,hy38,hy40,hF⟩ rfl rfl
 rintro _ D9 L10 ⟨xs23,m24,y25,y27,y29,y31,y33,y35,y37,y39,A21,c22,rfl,hy26,hy28,hy30,hy32,hy34,hy36,hy38,hy40,hF⟩
 rw[List.drop_length,F.oper_teller_totals_l3]at hF
 refine A.ee 1 ?_
 obtain rfl:=Option.some.inj hF
 exact A.AE.rtN (Ds:=[D9]) [48] [(0,0),(1,1),(2,2),(3,3)] (.tuple #[]) (⟨rfl,trivial⟩) (fun a w hf hh=>Z.res0 rfl w) (⟨A3_,c4_,A21,c22,b13_,rfl,rfl,hy26,hy28,hy30,hy32,hy34,hy36,hy38,hy40⟩)
end Go.Proofs.YtbljnlkhebiniaaGreatDoor
end
section
set_option linter.unusedVariables false
set_option linter.unusedSimpArgs false
set_option maxRecDepth 20000
set_option maxHeartbeats 8000000
set_option synthInstance.maxSize 1000000
set_option synthInstance.maxHeartbeats 400000
namespace Go.Proofs.YtbljnlkhebiniaaGreatDoor
open Go.RowKit
def F.oper_teller_fresh_j1 (k1:(List D43)→(List (D43×Int))→Int→Int→Int→Int→ByteArray→ByteArray→Int→Int→Int→Option (D25×(List D43)×(List (D43×Int))))(y5:Int)(y7:Int)(y9:Int)(y11:Int)(y13:ByteArray)(y15:ByteArray)(y17:Int)(y19:Int)(y21:Int)(xs26:List D43)(m28:List (D43×Int)):Option (D25×(List D43)×(List (D43×Int))):=A.gd (Z.R64 (y21+1)) (k1 xs26 m28 y5 y7 y9 y11 y13 y15 y17 y19 (y21+1))
def F.oper_teller_fresh_l2 (a0:(D25×(List D43)×(List (D43×Int))))(a1:(List D69)):Nat→(List D43)→(List (D43×Int))→Int→Int→Int→Int→ByteArray→ByteArray→Int→Int→Int→Option (D25×(List D43)×(List (D43×Int)))
 |0,_,_,_,_,_,_,_,_,_,_,_=>none
 |f+1,xs3,m4,y5,y7,y9,y11,y13,y15,y17,y19,y21=>if y21<((a1).length:Int)then((A.ix a1 y21).bind fun x30=>(A.lt (Z.mget (0:Int) m4 (x30.1.1,x30.1.2)) fun x36=>(if x36=0 then(A.gd ((List.length (α:=D43) xs3+List.length (α:=D43) [(x30.1.1,x30.1.2)])*24≤140737488355328) (F.oper_teller_fresh_j1 (F.oper_teller_fresh_l2 a0 a1 f) y5 y7 y9 y11 y13 y15 y17 y19 y21 (xs3++[(x30.1.1,x30.1.2)]) (Z.mins m4 (x30.1.1,x30.1.2) 1)))else(F.oper_teller_fresh_j1 (F.oper_teller_fresh_l2 a0 a1 f) y5 y7 y9 y11 y13 y15 y17 y19 y21 xs3 m4))))else(some ((y5,y7,a0.1.2.2.1,(y9,y11,y13),y15,y17,y19),xs3,m4))
def F.oper_teller_fresh (a0:(D25×(List D43)×(List (D43×Int))))(a1:(List D69)):Option (D25×(List D43)×(List (D43×Int))):=F.oper_teller_fresh_l2 a0 a1 A.FU a0.2.1 a0.2.2 a0.1.1 a0.1.2.1 a0.1.2.2.2.1.1 a0.1.2.2.2.1.2.1 a0.1.2.2.2.1.2.2 a0.1.2.2.2.2.1 a0.1.2.2.2.2.2.1 a0.1.2.2.2.2.2.2 0
theorem oper_teller_fresh_ok (a0:(D25×(List D43)×(List (D43×Int))))(a1:(List D69))(g0_:Nat)(A3_:Option Addr)(c4_:Nat)(A11_:Option Addr)(c12_:Nat)(b13_:Nat)(A14_:Option Addr)(c15_:Nat)(h1_:IntKind.i64.has a0.1.1)(h2_:IntKind.i64.has a0.1.2.1)(h5_:IntKind.i64.has a0.1.2.2.2.1.1)(h6_:IntKind.i64.has a0.1.2.2.2.1.2.1)(h7_:a0.1.2.2.2.1.2.2.size≤maxLen)(h8_:a0.1.2.2.2.2.1.size≤maxLen)(h9_:IntKind.i64.has a0.1.2.2.2.2.2.1)(h10_:IntKind.i64.has a0.1.2.2.2.2.2.2)(r:(D25×(List D43)×(List (D43×Int))))(hF:F.oper_teller_fresh a0 a1=some r):
    A.Ct Tryz.prog 33 [.pointer (some ⟨g0_,0,none⟩),.slice A14_ ((a1).length) c15_] [(0,.blk g0_ 78 [.int .i64 a0.1.1,.int .i64 a0.1.2.1,.slice A3_ ((a0.1.2.2.1).length) c4_,.int .i64 a0.1.2.2.2.1.1,.int .i64 a0.1.2.2.2.1.2.1,.string a0.1.2.2.2.1.2.2,.string a0.1.2.2.2.2.1,.int .i64 a0.1.2.2.2.2.2.1,.int .i64 a0.1.2.2.2.2.2.2,.slice A11_ ((a0.2.1).length) c12_,.map (some b13_)]),(1,.sh (.slice (Z.Ty.int .i64)) [.slice A3_ (a0.1.2.2.1).length c4_] a0.1.2.2.1),(2,.own T43 44 A11_ c12_ a0.2.1),(3,.mp D43 (fun x:D43=>.agg #[.int .i64 x.1,.string x.2]) (Z.Ty.int .i64) false b13_ a0.2.2),(4,.ln T69 A14_ c15_ a1)] ([g0_]++(Z.obl A11_++([b13_]++[]))) (fun v H'=>∃(A0':Option Addr) (c1':Nat) (A2':Option Addr) (c3':Nat) (b4':Nat),v=.tuple #[]∧H'=[(0,.blk g0_ 78 [.int .i64 r.1.1,.int .i64 r.1.2.1,.slice A0' ((r.1.2.2.1).length) c1',.int .i64 r.1.2.2.2.1.1,.int .i64 r.1.2.2.2.1.2.1,.string r.1.2.2.2.1.2.2,.string r.1.2.2.2.2.1,.int .i64 r.1.2.2.2.2.2.1,.int .i64 r.1.2.2.2.2.2.2,.slice A2' ((r.2.1).length) c3',.map (some b4')]),(1,.sh (.slice (Z.Ty.int .i64)) [.slice A0' (r.1.2.2.1).length c1'] r.1.2.2.1),(2,.own T43 44 A2' c3' r.2.1),(3,.mp D43 (fun x:D43=>.agg #[.int .i64 x.1,.string x.2]) (Z.Ty.int .i64) false b4' r.2.2)]∧IntKind.i64.has r.1.1∧IntKind.i64.has r.1.2.1∧IntKind.i64.has r.1.2.2.2.1.1∧IntKind.i64.has r.1.2.2.2.1.2.1∧r.1.2.2.2.1.2.2.size≤maxLen∧r.1.2.2.2.2.1.size≤maxLen∧IntKind.i64.has r.1.2.2.2.2.2.1∧IntKind.i64.has r.1.2.2.2.2.2.2):=by
 refine A.Ct.enter Tryz.func33 rfl Tryz.ntmps33 rfl fun w0 F0=>?_
 rw[F.oper_teller_fresh]at hF
 refine A.xl 1 ?_
 refine A.q0 [] [] [.n,.n,.n] [(6,.slice A14_ ((a1).length) c15_),(7,.int .i64 ((a1).length:Int)),(8,.int .i64 0)] ?_
 refine A.dx 2 ?_
 refine A.lp_ [0,6,7] [1,4] (fun f nl nh=>∃(xs3:List D43),∃(m4:List (D43×Int)),∃(y5:Int),∃(y7:Int),∃(y9:Int),∃(y11:Int),∃(y13:ByteArray),∃(y15:ByteArray),∃(y17:Int),∃(y19:Int),∃(y21:Int),∃(A1:Option Addr),∃(c2:Nat),nl=[(8,.int .i64 y21)]∧nh=[(0,.blk g0_ 78 [.int .i64 y5,.int .i64 y7,.slice A3_ ((a0.1.2.2.1).length) c4_,.int .i64 y9,.int .i64 y11,.string y13,.string y15,.int .i64 y17,.int .i64 y19,.slice A1 ((xs3).length) c2,.map (some b13_)]),(2,.own T43 44 A1 c2 xs3),(3,.mp D43 (fun x:D43=>.agg #[.int .i64 x.1,.string x.2]) (Z.Ty.int .i64) false b13_ m4)]∧IntKind.i64.has y5∧IntKind.i64.has y7∧IntKind.i64.has y9∧IntKind.i64.has y11∧y13.size≤maxLen∧y15.size≤maxLen∧IntKind.i64.has y17∧IntKind.i64.has y19∧IntKind.i64.has y21∧F.oper_teller_fresh_l2 a0 a1 f xs3 m4 y5 y7 y9 y11 y13 y15 y17 y19 y21=some r) ⟨a0.2.1,a0.2.2,a0.1.1,a0.1.2.1,a0.1.2.2.2.1.1,a0.1.2.2.2.1.2.1,a0.1.2.2.2.1.2.2,a0.1.2.2.2.2.1,a0.1.2.2.2.2.2.1,a0.1.2.2.2.2.2.2,0,A11_,c12_,rfl,rfl,h1_,h2_,h5_,h6_,h7_,h8_,h9_,h10_,(A.hasl .i64 (0) rfl),hF⟩ ?_
 rintro f23 _ _ ⟨xs3,m4,y5,y7,y9,y11,y13,y15,y17,y19,y21,A1,c2,rfl,rfl,hy6,hy8,hy10,hy12,hy14,hy16,hy18,hy20,hy22,hF⟩
 rcases f23 with _|f23
 ·exact A.no0 hF
 rw[F.oper_teller_fresh_l2]at hF
 refine A.xl 1 ?_
 refine A.q0 [] [] [.n] [(9,.bool (decide (y21<((a1).length:Int))))] ?_
 refine A.dx 2 ?_
 refine A.AX.cnd rfl hF (fun hb hF=>?_) (fun hb hF=>?_)
 ·refine A.xx 2 ?_
  refine A.AX.join [0,6,7,8] [1,4] (fun nl nh=>∃(xs26:List D43),∃(m28:List (D43×Int)),∃(A24:Option Addr),∃(c25:Nat),nl=[]∧nh=[(0,.blk g0_ 78 [.int .i64 y5,.int .i64 y7,.slice A3_ ((a0.1.2.2.1).length) c4_,.int .i64 y9,.int .i64 y11,.string y13,.string y15,.int .i64 y17,.int .i64 y19,.slice A24 ((xs26).length) c25,.map (some b13_)]),(2,.own T43 44 A24 c25 xs26),(3,.mp D43 (fun x:D43=>.agg #[.int .i64 x.1,.string x.2]) (Z.Ty.int .i64) false b13_ m28)]∧F.oper_teller_fresh_j1 (F.oper_teller_fresh_l2 a0 a1 f23) y5 y7 y9 y11 y13 y15 y17 y19 y21 xs26 m28=some r) ?_ ?_
  ·refine A.xl 2 ?_
   obtain⟨x30,hv31,hF⟩:=A.bd_some hF
   refine A.AL.ixl 4 11 hv31 fun ho32=>?_
   intro b33 o34
   refine A.q0 [] [11] [.e 0 0] [(11,.agg #[.int .i64 x30.1.1,.string x30.1.2,.int .i64 x30.2])] ?_
   refine A.AL.alloc 12 (cs:=[.int .i64 0,.string (ByteArray.mk #[]),.int .i64 0]) Tryz.zeroValue70 fun g35=>?_
   refine A.sw 12 [] [.int .i64 x30.1.1,.string x30.1.2,.int .i64 x30.2] ?_
   refine A.dx 2 ?_
   refine A.AX.dr mixed 8 8 (A.mb 8 0) ?_
   refine A.hq A.pb [] [0,1,2,3,4,11,12] [12,0] [] (A.mb 8 63) 2 [(0,.n),(4,.n),(1,.n),(5,.b 0 0),(2,.n),(3,.b 1 10)] [(17,.agg #[.int .i64 x30.1.1,.string x30.1.2]),(15,.map (some b13_))] ?_
   obtain⟨x36,hv37,hF⟩:=A.lt_some hF
   refine A.okm (t:=(Z.Ty.int .i64)) 3 (x30.1.1,x30.1.2) (z:=(0:Int)) (zs:=[.int .i64 0]) ⟨rfl,by decide⟩ hv37 fun ho38=>?_
   refine A.AH.v A.pb [0,1,2,3,4,11,12] [0,1,2,3,4,11,12] 6 (A.mb 8 127) rfl (fun a w hf hh=>A.r_lkf (t:=(Z.Ty.int .i64)) (ok:=false) (z:=(0:Int)) (zs:=[.int .i64 0]) 3 ky44 (x30.1.1,x30.1.2) Tryz.zeroValue2 ⟨rfl,by decide⟩ hv37 rfl hf hh) ?_
   refine A.hq A.pb [0,1,2,3,4,11,12] [0,1,2,3,4,11,12] [] [] (A.mb 8 255) 0 [(7,.n)] [(19,.bool (decide (x36=0)))] ?_
   refine A.AH.done ?_
   refine A.ex 1 ?_
   refine A.AX.cnd rfl hF (fun hb hF=>?_) (fun hb hF=>?_)
   ·refine A.xx 1 ?_
    refine A.AX.dr mixed 6 7 (A.mb 7 0) ?_
    refine A.hq A.pb [] [0,1,2,3,4,11,12] [12,0] [] (A.mb 7 63) 1 [(0,.n),(4,.n),(1,.n),(5,.b 0 0),(2,.n),(3,.b 1 10)] [(25,.agg #[.int .i64 x30.1.1,.string x30.1.2]),(23,.map (some b13_))] ?_
    refine A.AH.one 6 ?_
    refine A.AL.mup (t:=(Z.Ty.int .i64)) 3 [] (cs:=[.int .i64 1]) (u:=1) ky44 (x30.1.1,x30.1.2) ⟨rfl,(A.hasl .i64 (1) rfl)⟩ ?_
    refine A.AH.nm (A.mb 7 127) ?_
    refine A.AH.done ?_
    refine A.ex 1 ?_
    refine A.AX.dr mixed 11 12 (A.mb 12 0) ?_
    refine A.hq A.pb [] [0,1,3,4,11,12] [12,0] [] (A.mb 12 127) 5 [(0,.n),(1,.n),(5,.n),(2,.n),(6,.b 0 0),(3,.n),(4,.b 1 9)] [(26,.pointer (some ⟨g0_,0,none⟩)),(32,.agg #[.int .i64 x30.1.1,.string x30.1.2]),(30,.slice A1 ((xs3).length) c2)] ?_
    refine A.AH.one 7 ?_
    refine A.AL.bsl 13 (ty:=T43) (cs:=[.int .i64 x30.1.1,.string x30.1.2]) [(x30.1.1,x30.1.2)] ⟨⟨⟨rfl,ho32.1.1⟩,⟨rfl,ho32.1.2⟩⟩,rfl⟩ (fun g39=>?_) Tryz.zeroValue44 Tryz.sizeOf44
    refine A.AH.nx (A.mb 12 255) [0,1,3,4,11,12] ?_
    refine A.AH.one 8 ?_
    obtain⟨hl42,hF⟩:=A.gd_some hF
    refine A.AL.app (k:=2) [] (A.rowO (k:=13) rfl) inf44 hl42 fun A40 c41=>?_
    refine A.AH.nx (A.mb 12 511) [0,1,3,4,11,12] ?_
    refine A.hq A.pb [0,1,3,4,11,12] [0,1,2,3,4,11,12,13] [] [] (A.mb 12 2047) 1 [(9,.n),(10,.n)] [(36,.pointer (some ⟨g0_,9,none⟩))] ?_
    refine A.AH.one 11 ?_
    refine A.AL.store 0 [] (new:=[.slice A40 ((xs3++[(x30.1.1,x30.1.2)]).length) c41]) (cs':=[.int .i64 y5,.int .i64 y7,.slice A3_ ((a0.1.2.2.1).length) c4_,.int .i64 y9,.int .i64 y11,.string y13,.string y15,.int .i64 y17,.int .i64 y19,.slice A40 ((xs3++[(x30.1.1,x30.1.2)]).length) c41,.map (some b13_)]) ?_
    refine A.AH.nm (A.mb 12 4095) ?_
    refine A.AH.done ?_
    refine A.ee 1 ?_
    exact A.j ⟨(xs3++[(x30.1.1,x30.1.2)]),(Z.mins m4 (x30.1.1,x30.1.2) 1),A40,c41,rfl,rfl,hF⟩
   refine A.xe 2 ?_
   exact A.j ⟨xs3,m4,A1,c2,rfl,rfl,hF⟩
  rintro _ _ ⟨xs26,m28,A24,c25,rfl,rfl,hF⟩
  rw[F.oper_teller_fresh_j1]at hF
  refine A.xl 0 ?_
  obtain⟨hc29,hF⟩:=A.gd_some hF
  refine A.q [] [] [.n,.n] [Z.R64 (y21+1)] [(8,.int .i64 (y21+1))] hc29 ?_
  refine A.AL.done ?_
  exact A.j ⟨_,Nat.lt_succ_self _,⟨xs26,m28,y5,y7,y9,y11,y13,y15,y17,y19,(y21+1),A24,c25,rfl,rfl,hy6,hy8,hy10,hy12,hy14,hy16,hy18,hy20,(Z.i64_has hc29),hF⟩⟩
 refine A.xe 1 ?_
 obtain rfl:=Option.some.inj hF
 exact A.AE.ret [(0,0),(1,1),(2,2),(3,3)] (.tuple #[]) (fun a w hf hh=>Z.res0 rfl w) (⟨A3_,c4_,A1,c2,b13_,rfl,rfl,hy6,hy8,hy10,hy12,hy14,hy16,hy18,hy20⟩)
def F.slices_Compact_api_Rec_api_Rec_j1 (k4:(List D43)→Int→Int→Option (List D43))(y22:Int)(xs27:List D43)(y29:Int):Option (List D43):=A.gd (Z.R64 (y22+1)) (k4 xs27 y29 (y22+1))
def F.slices_Compact_api_Rec_api_Rec_l2 (a0:(List D43))(y1:Int):Nat→(List D43)→Int→Int→Option (List D43)
 |0,_,_,_=>none
 |f+1,xs18,y20,y22=>if y22<(((a0).length -y1.toNat:Nat):Int)then(A.gd (Z.R64 (y22-1)) (A.gd (y1.toNat≤(xs18).length) ((A.ix (List.drop y1.toNat xs18) y22).bind fun x33=>(A.gd (y1.toNat≤(xs18).length) ((A.ix (List.drop y1.toNat xs18) (y22-1)).bind fun x40=>(if(x33.1,x33.2)≠(x40.1,x40.2)then(A.gd (y1.toNat≤(xs18).length) ((A.ix (List.drop y1.toNat xs18) y22).bind fun x47=>((A.ix xs18 y20).bind fun x53=>(A.gd (Z.R64 (y20+1)) (F.slices_Compact_api_Rec_api_Rec_j1 (F.slices_Compact_api_Rec_api_Rec_l2 a0 y1 f) y22 (xs18.set y20.toNat (x47.1,x47.2)) (y20+1))))))else(F.slices_Compact_api_Rec_api_Rec_j1 (F.slices_Compact_api_Rec_api_Rec_l2 a0 y1 f) y22 xs18 y20)))))))else(A.gd (0≤y20∧y20.toNat≤(xs18).length) (A.gd (0≤y20∧y20.toNat≤(List.take y20.toNat xs18++List.replicate ((xs18).length -y20.toNat) ((0,(ByteArray.mk #[])):D43)).length) (some (List.take y20.toNat (List.take y20.toNat xs18++List.replicate ((xs18).length -y20.toNat) ((0,(ByteArray.mk #[])):D43))))))
def F.slices_Compact_api_Rec_api_Rec_l3 (a0:(List D43)):Nat→Int→Option (List D43)
 |0,_=>none
 |f+1,y1=>if y1<((a0).length:Int)then(A.gd (Z.R64 (y1-1)) ((A.ix a0 y1).bind fun x5=>((A.ix a0 (y1-1)).bind fun x10=>(if(x5.1,x5.2)=(x10.1,x10.2)then(A.gd (0≤y1∧y1.toNat≤(a0).length) (F.slices_Compact_api_Rec_api_Rec_l2 a0 y1 A.FU a0 y1 1))else(A.gd (Z.R64 (y1+1)) ((F.slices_Compact_api_Rec_api_Rec_l3 a0 f) (y1+1)))))))else(some a0)
def F.slices_Compact_api_Rec_api_Rec (a0:(List D43)):Option (List D43):=if((a0).length:Int)<2 then(some a0)else(F.slices_Compact_api_Rec_api_Rec_l3 a0 A.FU 1)
theorem slices_Compact_api_Rec_api_Rec_ok (a0:(List D43))(A0_:Option Addr)(c1_:Nat)(r:(List D43))(hF:F.slices_Compact_api_Rec_api_Rec a0=some r):
    A.Ct Tryz.prog 36 [.slice A0_ ((a0).length) c1_] [(0,.own T43 44 A0_ c1_ a0)] (Z.obl A0_++[]) (fun v H'=>∃(A0':Option Addr) (c1':Nat),v=.slice A0' ((r).length) c1'∧H'=[(0,.sh (.slice T43) [.slice A0' (r).length c1'] r)]):=by
 refine A.Ct.enter Tryz.func36 rfl Tryz.ntmps36 rfl fun w0 F0=>?_
 rw[F.slices_Compact_api_Rec_api_Rec]at hF
 refine A.xl 1 ?_
 refine A.q0 [] [] [.n] [] ?_
 refine A.dl 3 ?_
 refine A.q0 [] [] [.n,.n,.n] [(8,.bool (decide (((a0).length:Int)<2)))] ?_
 refine A.dx 1 ?_
 refine A.AX.cnd rfl hF (fun hb hF=>?_) (fun hb hF=>?_)
 ·refine A.xl 1 ?_
  refine A.q0 [] [] [.n,.n] [(2,.slice A0_ ((a0).length) c1_)] ?_
  refine A.dx 1 ?_
  obtain rfl:=Option.some.inj hF
  refine A.frz 0 [] ?_
  exact A.rt1 [(0,0)] ⟨A0_,c1_,rfl,rfl⟩
 refine A.xl 4 ?_
 refine A.q0 [] [] [.n] [(3,.int .i64 1)] ?_
 refine A.dx 2 ?_
 refine A.lp_ [0] [0] (fun f nl nh=>∃(y1:Int),nl=[(3,.int .i64 y1)]∧nh=[]∧IntKind.i64.has y1∧F.slices_Compact_api_Rec_api_Rec_l3 a0 f y1=some r) ⟨1,rfl,rfl,(A.hasl .i64 (1) rfl),hF⟩ ?_
 rintro f3 _ _ ⟨y1,rfl,rfl,hy2,hF⟩
 rcases f3 with _|f3
 ·exact A.no0 hF
 rw[F.slices_Compact_api_Rec_api_Rec_l3]at hF
 refine A.xl 2 ?_
 refine A.q0 [] [] [.n,.n,.n,.n] [(13,.bool (decide (y1<((a0).length:Int))))] ?_
 refine A.dx 1 ?_
 refine A.AX.cnd rfl hF (fun hb hF=>?_) (fun hb hF=>?_)
 ·refine A.xx 5 ?_
  refine A.AX.dr mixed 10 10 (A.mb 10 0) ?_
  obtain⟨hc4,hF⟩:=A.gd_some hF
  refine A.AH.q A.pb [] [0] [] [] (A.mb 10 115) 5 [(0,.n),(1,.n),(4,.n),(5,.n),(6,.n)] [16,17,20,22] [Z.R64 (y1-1)] [(16,.slice A0_ ((a0).length) c1_),(17,.int .i64 y1),(20,.slice A0_ ((a0).length) c1_),(22,.int .i64 (y1-1))] hc4 ?_
  obtain⟨x5,hv6,hF⟩:=A.bd_some hF
  refine A.AH.pko 0 35 hv6 fun ho7=>?_
  intro g9 hA8
  refine A.AH.v A.pb [0] [0,35] 2 (A.mb 10 119) rfl (fun a w hf hh=>A.r_ixo (t:=T43) hv6 hA8 hf) ?_
  refine A.hq A.pb [0,35] [0,35] [] [35] (A.mb 10 127) 3 [(3,.e 0 0)] [(19,.agg #[.int .i64 x5.1,.string x5.2])] ?_
  obtain⟨x10,hv11,hF⟩:=A.bd_some hF
  refine A.AH.pko 0 36 hv11 fun ho12=>?_
  intro g14 hA13
  refine A.AH.v A.pb [0,35] [0,35,36] 7 (A.mb 10 255) rfl (fun a w hf hh=>A.r_ixo (t:=T43) hv11 hA13 hf) ?_
  refine A.hq A.pb [0,35,36] [0,35,36] [] [36] (A.mb 10 511) 1 [(8,.e 0 0)] [(24,.agg #[.int .i64 x10.1,.string x10.2])] ?_
  refine A.AH.v A.pb [0,35,36] [0,35,36] 9 (A.mb 10 1023) rfl (fun a w hf hh=>eqagg_eql44 (x:=(x5.1,x5.2)) (y:=(x10.1,x10.2)) (hf.eval rfl) (hf.eval rfl)) ?_
  refine A.AH.done ?_
  refine A.ex 1 ?_
  refine A.AX.cnd rfl hF (fun hb hF=>?_) (fun hb hF=>?_)
  ·refine A.xl 1 ?_
   refine A.q0 [] [] [.n,.n] [(26,.slice A0_ ((a0).length) c1_),(27,.int .i64 y1)] ?_
   obtain⟨hc15,hF⟩:=A.gd_some hF
   refine A.AL.cutv 0 (u:=y1.toNat) (Int.toNat_of_nonneg hc15.1).symm hc15.2 ?_
   refine A.q0 [] [] [.n] [(4,.slice (Z.cutA A0_ c1_ y1.toNat (T43).size) (((a0).length)-y1.toNat) (c1_-y1.toNat))] ?_
   refine A.dl 3 ?_
   refine A.q0 [] [] [.n] [(5,.int .i64 1)] ?_
   refine A.dx 2 ?_
   refine A.lp_ [0,4] [] (fun f nl nh=>∃(xs18:List D43),∃(y20:Int),∃(y22:Int),nl=[(3,.int .i64 y20),(5,.int .i64 y22)]∧nh=[(0,.own T43 44 A0_ c1_ xs18)]∧(a0).length=xs18.length∧IntKind.i64.has y20∧IntKind.i64.has y22∧F.slices_Compact_api_Rec_api_Rec_l2 a0 y1 f xs18 y20 y22=some r) ⟨a0,y1,1,rfl,rfl,rfl,hy2,(A.hasl .i64 (1) rfl),hF⟩ ?_
   rintro f24 _ _ ⟨xs18,y20,y22,rfl,rfl,hn19,hy21,hy23,hF⟩
   rcases f24 with _|f24
   ·exact A.no0 hF
   rw[F.slices_Compact_api_Rec_api_Rec_l2]at hF
   refine A.xl 2 ?_
   refine A.q0 [] [] [.n,.n,.n,.n] [(32,.bool (decide (y22<(((a0).length -y1.toNat:Nat):Int))))] ?_
   refine A.dx 1 ?_
   refine A.AX.cnd rfl hF (fun hb hF=>?_) (fun hb hF=>?_)
   ·refine A.xx 2 ?_
    refine A.AX.join [0,4,5] [] (fun nl nh=>∃(xs27:List D43),∃(y29:Int),nl=[(3,.int .i64 y29)]∧nh=[(0,.own T43 44 A0_ c1_ xs27)]∧(a0).length=xs27.length∧IntKind.i64.has y29∧F.slices_Compact_api_Rec_api_Rec_j1 (F.slices_Compact_api_Rec_api_Rec_l2 a0 y1 f24) y22 xs27 y29=some r) ?_ ?_
    ·refine A.xx 2 ?_
     refine A.AX.dr mixed 10 10 (A.mb 10 0) ?_
     obtain⟨hc32,hF⟩:=A.gd_some hF
     refine A.AH.q A.pb [] [0] [] [] (A.mb 10 115) 5 [(0,.n),(1,.n),(4,.n),(5,.n),(6,.n)] [35,36,39,41] [Z.R64 (y22-1)] [(35,.slice (Z.cutA A0_ c1_ y1.toNat (T43).size) (((a0).length)-y1.toNat) (c1_-y1.toNat)),(36,.int .i64 y22),(39,.slice (Z.cutA A0_ c1_ y1.toNat (T43).size) (((a0).length)-y1.toNat) (c1_-y1.toNat)),(41,.int .i64 (y22-1))] hc32 ?_
     obtain⟨hu37,hF⟩:=A.gd_some hF
     obtain⟨x33,hv34,hF⟩:=A.bd_some hF
     refine A.pkw 0 47 hv34 hu37 fun ho35=>?_
     intro b38 o39 hA36
     refine A.AH.v A.pb [0] [0,47] 2 (A.mb 10 119) rfl (fun a w hf hh=>A.r_ixa (t:=T43) hv34 hA36 hf (A.vw rfl (congrArg (fun z=>z-y1.toNat) hn19))) ?_
     refine A.hq A.pb [0,47] [0,47] [] [47] (A.mb 10 127) 3 [(3,.e 0 0)] [(38,.agg #[.int .i64 x33.1,.string x33.2])] ?_
     obtain⟨hu44,hF⟩:=A.gd_some hF
     obtain⟨x40,hv41,hF⟩:=A.bd_some hF
     refine A.pkw 0 48 hv41 hu44 fun ho42=>?_
     intro b45 o46 hA43
     refine A.AH.v A.pb [0,47] [0,47,48] 7 (A.mb 10 255) rfl (fun a w hf hh=>A.r_ixa (t:=T43) hv41 hA43 hf (A.vw rfl (congrArg (fun z=>z-y1.toNat) hn19))) ?_
     refine A.hq A.pb [0,47,48] [0,47,48] [] [48] (A.mb 10 511) 1 [(8,.e 0 0)] [(43,.agg #[.int .i64 x40.1,.string x40.2])] ?_
     refine A.AH.v A.pb [0,47,48] [0,47,48] 9 (A.mb 10 1023) rfl (fun a w hf hh=>eqagg_neq44 (x:=(x33.1,x33.2)) (y:=(x40.1,x40.2)) (hf.eval rfl) (hf.eval rfl)) ?_
     refine A.AH.done ?_
     refine A.ex 1 ?_
     refine A.AX.cnd rfl hF (fun hb hF=>?_) (fun hb hF=>?_)
     ·refine A.xl 1 ?_
      refine A.q0 [] [] [.n,.n,.n,.n] [(45,.slice A0_ ((a0).length) c1_),(46,.int .i64 y20),(47,.slice (Z.cutA A0_ c1_ y1.toNat (T43).size) (((a0).length)-y1.toNat) (c1_-y1.toNat)),(48,.int .i64 y22)] ?_
      obtain⟨hu52,hF⟩:=A.gd_some hF
      obtain⟨x47,hv48,hF⟩:=A.bd_some hF
      refine A.AL.ixw 0 49 hv48 hu52 (congrArg (fun z=>z-y1.toNat) hn19) fun ho49=>?_
      intro b50 o51
      refine A.q0 [] [49] [.e 0 0] [(50,.agg #[.int .i64 x47.1,.string x47.2])] ?_
      refine A.cst 45 (Z.slice_n (show(a0).length=(xs18).length from hn19)) ?_
      obtain⟨x53,hv54,hF⟩:=A.bd_some hF
      refine A.AL.ixo 0 50 hv54 fun ho55=>?_
      intro g56 hA57
      refine A.AL.setel 0 50 [47,48,49,50] (o:=0) (m:=2) (t:=T43) (new:=[.int .i64 x47.1,.string x47.2]) (es:=[.int .i64 x53.1,.string x53.2]) (x47.1,x47.2) hv54 hA57 ⟨⟨rfl,ho49.1⟩,⟨rfl,ho49.2⟩⟩ ?_
      refine A.dl 1 ?_
      obtain⟨hc58,hF⟩:=A.gd_some hF
      refine A.q [] [] [.n,.n,.n] [Z.R64 (y20+1)] [(3,.int .i64 (y20+1))] hc58 ?_
      refine A.de 1 ?_
      exact A.j ⟨(xs18.set y20.toNat (x47.1,x47.2)),(y20+1),rfl,rfl,(by rw[List.length_set];exact hn19),(Z.i64_has hc58),hF⟩
     refine A.xe 2 ?_
     exact A.j ⟨xs18,y20,rfl,rfl,hn19,hy21,hF⟩
    rintro _ _ ⟨xs27,y29,rfl,rfl,hn28,hy30,hF⟩
    rw[F.slices_Compact_api_Rec_api_Rec_j1]at hF
    refine A.xl 0 ?_
    obtain⟨hc31,hF⟩:=A.gd_some hF
    refine A.q [] [] [.n,.n,.n] [Z.R64 (y22+1)] [(5,.int .i64 (y22+1))] hc31 ?_
    refine A.AL.done ?_
    exact A.j ⟨_,Nat.lt_succ_self _,⟨xs27,y29,(y22+1),rfl,rfl,hn28,hy30,(Z.i64_has hc31),hF⟩⟩
   refine A.xl 3 ?_
   refine A.q0 [] [] [.n,.n] [(54,.slice A0_ ((a0).length) c1_),(55,.int .i64 y20)] ?_
   refine A.cst 54 (Z.slice_n (show(a0).length=(xs18).length from hn19)) ?_
   obtain⟨hc59,hF⟩:=A.gd_some hF
   refine A.AL.clr 0 [] (t:=T43) (u:=y20.toNat) (zs:=[.int .i64 0,.string (ByteArray.mk #[])]) ((0,(ByteArray.mk #[])):D43) (Int.toNat_of_nonneg hc59.1).symm hc59.2 Tryz.zeroValue44 ⟨⟨rfl,by decide⟩,⟨rfl,by decide⟩⟩ ?_ Tryz.sizeOf44
   refine A.dl 2 ?_
   refine A.q0 [] [] [.n,.n] [(57,.slice A0_ ((a0).length) c1_),(58,.int .i64 y20)] ?_
   refine A.cst 57 (Z.slice_n (show(a0).length=(List.take y20.toNat xs18++List.replicate ((xs18).length -y20.toNat) ((0,(ByteArray.mk #[])):D43)).length from(Eq.trans hn19 (by rw[List.length_append,List.length_take,List.length_replicate];omega)))) ?_
   obtain⟨hc60,hF⟩:=A.gd_some hF
   refine A.AL.cuto 0 [] (v:=y20.toNat) (Int.toNat_of_nonneg hc60.1).symm hc60.2 ?_
   refine A.q0 [] [] [.n] [(2,.slice A0_ ((List.take y20.toNat (List.take y20.toNat xs18++List.replicate ((xs18).length -y20.toNat) ((0,(ByteArray.mk #[])):D43))).length) c1_)] ?_
   refine A.dx 1 ?_
   obtain rfl:=Option.some.inj hF
   refine A.frz 0 [] ?_
   exact A.rt1 [(0,0)] ⟨A0_,c1_,rfl,rfl⟩
  refine A.xl 3 ?_
  obtain⟨hc63,hF⟩:=A.gd_some hF
  refine A.q [] [] [.n,.n,.n] [Z.R64 (y1+1)] [(3,.int .i64 (y1+1))] hc63 ?_
  refine A.AL.done ?_
  exact A.j ⟨_,Nat.lt_succ_self _,⟨(y1+1),rfl,rfl,(Z.i64_has hc63),hF⟩⟩
 refine A.xl 3 ?_
 refine A.q0 [] [] [.n,.n] [(2,.slice A0_ ((a0).length) c1_)] ?_
 refine A.dx 1 ?_
 obtain rfl:=Option.some.inj hF
 refine A.frz 0 [] ?_
 exact A.rt1 [(0,0)] ⟨A0_,c1_,rfl,rfl⟩
def F.oper_teller_entries_1 (a0:D46)(a1:D46):Option Int:=(F.cmp_Compare_int64 a0.2.1 a1.2.1).bind fun r3=>((F.strings_Compare a0.2.2.1 a1.2.2.1).bind fun r6=>((F.cmp_Or_int [r3,r6]).bind fun r10=>(some r10)))
theorem oper_teller_entries_1_ok (a0:D46)(a1:D46)(h0_:IntKind.i64.has a0.1)(h1_:IntKind.i64.has a0.2.1)(h2_:a0.2.2.1.size≤maxLen)(h3_:IntKind.i64.has a0.2.2.2)(h4_:IntKind.i64.has a1.1)(h5_:IntKind.i64.has a1.2.1)(h6_:a1.2.2.1.size≤maxLen)(h7_:IntKind.i64.has a1.2.2.2)(r:Int)(hF:F.oper_teller_entries_1 a0 a1=some r):
    A.Ct Tryz.prog 70 [.agg #[.int .i64 a0.1,.int .i64 a0.2.1,.string a0.2.2.1,.int .i64 a0.2.2.2],.agg #[.int .i64 a1.1,.int .i64 a1.2.1,.string a1.2.2.1,.int .i64 a1.2.2.2]] [] [] (fun v H'=>v=.int .i64 r∧H'=[]∧IntKind.i64.has r):=by
 refine A.Ct.enter Tryz.func70 rfl Tryz.ntmps70 rfl fun w0 F0=>?_
 rw[F.oper_teller_entries_1]at hF
 refine A.xl 1 ?_
 refine A.AL.box 0 (cs:=[.int .i64 a0.1,.int .i64 a0.2.1,.string a0.2.2.1,.int .i64 a0.2.2.2]) fun g1=>?_
 refine A.AL.box 1 (cs:=[.int .i64 a1.1,.int .i64 a1.2.1,.string a1.2.2.1,.int .i64 a1.2.2.2]) fun g2=>?_
 refine A.q0 [] [] [.n] [] ?_
 refine A.dx 2 ?_
 refine A.AX.dr mixed 13 13 (A.mb 13 0) ?_
 refine A.hq A.pb [] [0,1] [0,1] [] (A.mb 13 495) 5 [(0,.n),(2,.n),(5,.n),(7,.n),(1,.b 0 1),(3,.b 1 1),(6,.b 0 2),(8,.b 1 2)] [(6,.int .i64 a0.2.1),(8,.int .i64 a1.2.1),(11,.string a0.2.2.1),(13,.string a1.2.2.1)] ?_
 refine A.AH.one 4 ?_
 obtain⟨r3,hv4,hF⟩:=A.bd_some hF
 refine A.AL.call 2 [] (first:=[]) (cap:=[]) cf67 (cmp_Compare_int64_ok a0.2.1 a1.2.1 h1_ h5_ r3 hv4) .nil ?_
 rintro _ _ ⟨rfl,rfl,hr5⟩
 refine⟨by kernel_rfl,?_⟩
 refine A.AH.nx (A.mb 13 511) [0,1] ?_
 refine A.AH.one 9 ?_
 obtain⟨r6,hv7,hF⟩:=A.bd_some hF
 refine A.AL.call 42 [] (first:=[]) (cap:=[]) cf68 (strings_Compare_ok a0.2.2.1 a1.2.2.1 h2_ h6_ r6 hv7) .nil ?_
 rintro _ _ ⟨rfl,rfl,hr8⟩
 refine⟨by kernel_rfl,?_⟩
 refine A.AH.nx (A.mb 13 1023) [0,1] ?_
 refine A.AH.one 10 ?_
 refine A.AL.bsl 82 (ty:=(Z.Ty.int .i64)) (cs:=[.int .i64 r3,.int .i64 r6]) [r3,r6] ⟨⟨rfl,hr5⟩,⟨⟨rfl,hr8⟩,rfl⟩⟩ (fun g9=>?_) Tryz.zeroValue3 Tryz.sizeOf3
 refine A.AH.nx (A.mb 13 2047) [0,1] ?_
 refine A.AH.one 11 ?_
 obtain⟨r10,hv11,hF⟩:=A.bd_some hF
 refine A.AL.call 83 [] (first:=[]) (cap:=[]) cf66 (cmp_Or_int_ok [r3,r6] (some ⟨g9,0,none⟩) 2 r10 hv11) (.o 82 .nil) ?_
 rintro _ _ ⟨rfl,rfl,hr12⟩
 refine⟨by kernel_rfl,?_⟩
 refine A.AH.nx (A.mb 13 4095) [0,1] ?_
 refine A.hq A.pb [0,1] [0,1,82] [] [] (A.mb 13 8191) 0 [(12,.n)] [(4,.int .i64 r10)] ?_
 refine A.AH.done ?_
 refine A.ex 1 ?_
 obtain rfl:=Option.some.inj hF
 exact A.rt1 [] ⟨rfl,rfl,hr12⟩
end Go.Proofs.YtbljnlkhebiniaaGreatDoor
end
section
set_option linter.unusedVariables false
set_option linter.unusedSimpArgs false
set_option maxRecDepth 20000
set_option maxHeartbeats 8000000
set_option synthInstance.maxSize 1000000
set_option synthInstance.maxHeartbeats 400000
namespace Go.Proofs.YtbljnlkhebiniaaGreatDoor
open Go.RowKit
def F.slices_SortFunc_api_Entry_api_Entry_oper_teller_entries_1 (a0:List D46):Option (List D46):=A.gd (a0.length<4611686018427387904) (A.srtF (fun x y=>F.oper_teller_entries_1 x y) a0)
theorem slices_SortFunc_api_Entry_api_Entry_oper_teller_entries_1_ok (a0:List D46)(A0_:Option Addr)(c1_:Nat)(r:List D46)(hF:F.slices_SortFunc_api_Entry_api_Entry_oper_teller_entries_1 a0=some r):
    A.Ct Tryz.prog 69 [.slice A0_ ((a0).length) c1_,.func (.func 70) #[] #[]] [(0,.own T46 47 A0_ c1_ a0)] (Z.obl A0_++[]) (fun v H'=>v=.tuple #[]∧H'=[(0,.own T46 47 A0_ c1_ r)]∧(r).length=(a0).length):=by
 obtain⟨hc,hF⟩:=A.gd_some hF
 rw[List.append_nil]
 exact A.Ct.sortF (t:=T46) (e:=47) Tryz.laysSortFunc69 rfl rfl Tryz.isAgg47 Tryz.sizeOf47 A0_ c1_ 70 (fun x y=>F.oper_teller_entries_1 x y) cf70 (fun x y r hx hy h=>⟨_,oper_teller_entries_1_ok x y hx.1 hx.2.1 hx.2.2.1 hx.2.2.2 hy.1 hy.2.1 hy.2.2.1 hy.2.2.2 r h,fun v H' h=>h.1⟩) a0 r hc hF
def F.oper_teller_entries_l1 (a0:(D25×(List D43)×(List (D43×Int)))):Nat→(List Nat)→(List D46)→Option (List D46)
 |0,_,_=>none
 |f+1,sn19,xs23=>A.dem a0.2.2 sn19 ((F.slices_SortFunc_api_Entry_api_Entry_oper_teller_entries_1 xs23).bind fun r25=>(some r25)) fun i29 p28=>(A.gd (decide (IntKind.i64.has p28.1.1)=true∧p28.1.2.size≤maxLen) (A.gd ((List.length (α:=D46) xs23+List.length (α:=D46) [(a0.1.1,p28.1.1,p28.1.2,p28.2)])*40≤140737488355328) ((F.oper_teller_entries_l1 a0 f) (i29::sn19) (xs23++[(a0.1.1,p28.1.1,p28.1.2,p28.2)]))))
def F.oper_teller_entries (a0:(D25×(List D43)×(List (D43×Int)))):Option (List D46):=F.oper_teller_entries_l1 a0 A.FU [] []
theorem oper_teller_entries_ok (a0:(D25×(List D43)×(List (D43×Int))))(g0_:Nat)(A3_:Option Addr)(c4_:Nat)(A11_:Option Addr)(n12_:Nat)(c13_:Nat)(b14_:Nat)(h1_:IntKind.i64.has a0.1.1)(h2_:IntKind.i64.has a0.1.2.1)(h5_:IntKind.i64.has a0.1.2.2.2.1.1)(h6_:IntKind.i64.has a0.1.2.2.2.1.2.1)(h7_:a0.1.2.2.2.1.2.2.size≤maxLen)(h8_:a0.1.2.2.2.2.1.size≤maxLen)(h9_:IntKind.i64.has a0.1.2.2.2.2.2.1)(h10_:IntKind.i64.has a0.1.2.2.2.2.2.2)(r:(List D46))(hF:F.oper_teller_entries a0=some r):
    A.Ct Tryz.prog 37 [.pointer (some ⟨g0_,0,none⟩)] [(0,.blk g0_ 78 [.int .i64 a0.1.1,.int .i64 a0.1.2.1,.slice A3_ ((a0.1.2.2.1).length) c4_,.int .i64 a0.1.2.2.2.1.1,.int .i64 a0.1.2.2.2.1.2.1,.string a0.1.2.2.2.1.2.2,.string a0.1.2.2.2.2.1,.int .i64 a0.1.2.2.2.2.2.1,.int .i64 a0.1.2.2.2.2.2.2,.slice A11_ n12_ c13_,.map (some b14_)]),(1,.sh (.slice (Z.Ty.int .i64)) [.slice A3_ (a0.1.2.2.1).length c4_] a0.1.2.2.1),(2,.mp D43 (fun x:D43=>.agg #[.int .i64 x.1,.string x.2]) (Z.Ty.int .i64) false b14_ a0.2.2)] ([g0_]++([b14_]++[])) (fun v H'=>∃(A0':Option Addr) (c1':Nat),v=.slice A0' ((r).length) c1'∧H'=[(0,.own T46 47 A0' c1' r),(1,.blk g0_ 78 [.int .i64 a0.1.1,.int .i64 a0.1.2.1,.slice A3_ ((a0.1.2.2.1).length) c4_,.int .i64 a0.1.2.2.2.1.1,.int .i64 a0.1.2.2.2.1.2.1,.string a0.1.2.2.2.1.2.2,.string a0.1.2.2.2.2.1,.int .i64 a0.1.2.2.2.2.2.1,.int .i64 a0.1.2.2.2.2.2.2,.slice A11_ n12_ c13_,.map (some b14_)]),(2,.sh (.slice (Z.Ty.int .i64)) [.slice A3_ (a0.1.2.2.1).length c4_] a0.1.2.2.1),(3,.mp D43 (fun x:D43=>.agg #[.int .i64 x.1,.string x.2]) (Z.Ty.int .i64) false b14_ a0.2.2)]):=by
 refine A.Ct.enter Tryz.func37 rfl Tryz.ntmps37 rfl fun w0 F0=>?_
 rw[F.oper_teller_entries]at hF
 refine A.xl 1 ?_
 refine A.q0 [] [] [.n] [] ?_
 refine A.dl 2 ?_
 refine A.q0 [] [] [.n] [(3,.slice none 0 0)] ?_
 refine A.dl 3 ?_
 refine A.q0 [0] [] [.n,.n,.n,.b 0 10] [(9,.map (some b14_))] ?_
 refine A.AL.rgm 2 3 fun g1=>?_
 refine A.dx 2 ?_
 refine A.nil 96 T46 47 ?_
 refine A.lp_ [0,10] [0,1,2] (fun f nl nh=>∃(sn19:List Nat),∃(xs23:List D46),∃(la20:Option (Value×Value)),∃(A21:Option Addr),∃(c22:Nat),nl=[(3,.slice A21 ((xs23).length) c22)]∧nh=[(3,.mit 2 g1 b14_ (a0.2.2).length sn19 la20),(96,.own T46 47 A21 c22 xs23)]∧F.oper_teller_entries_l1 a0 f sn19 xs23=some r) ⟨[],[],none,none,0,rfl,rfl,hF⟩ ?_
 rintro f24 _ _ ⟨sn19,xs23,la20,A21,c22,rfl,rfl,hF⟩
 rcases f24 with _|f24
 ·exact A.no0 hF
 rw[F.oper_teller_entries_l1]at hF
 refine A.xl 1 ?_
 obtain⟨hend39,hev40⟩:=A.dem_some hF
 refine A.AL.nxm 2 3 223 (fun hall=>?_) (fun i29 p28 hp30 hs31 ho32=>?_)
 ·replace hF:=hend39 hall
  refine A.q0 [] [] [.n] [(12,.bool false)] ?_
  refine A.dx 2 ?_
  refine A.AX.cnf rfl ?_
  refine A.xl 3 ?_
  refine A.q0 [] [] [.n] [(30,.slice A21 ((xs23).length) c22)] ?_
  obtain⟨r25,hv26,hF⟩:=A.bd_some hF
  refine A.AL.call 183 [] (first:=[]) (cap:=[]) cf69 (slices_SortFunc_api_Entry_api_Entry_oper_teller_entries_1_ok xs23 A21 c22 r25 hv26) (.m 96 .nil) ?_
  rintro _ _ ⟨rfl,rfl,hr27⟩
  refine⟨by kernel_rfl,?_⟩
  refine A.mvd 183 96 [] ?_
  refine A.dl 2 ?_
  refine A.q0 [] [] [.n,.n] [(2,.slice A21 ((xs23).length) c22)] ?_
  refine A.dx 1 ?_
  obtain rfl:=Option.some.inj hF
  refine A.cst 2 (Z.slice_n (show(xs23).length=(r25).length from(Eq.symm hr27))) ?_
  exact A.rt1 [(0,96),(1,0),(2,1),(3,2)] ⟨A21,c22,rfl,rfl⟩
 have hF:=hev40 i29 p28 hp30 hs31
 obtain⟨hkc33,hF⟩:=A.gd_some hF
 refine A.q0 [] [] [.n] [(12,.bool true)] ?_
 refine A.dx 2 ?_
 refine A.AX.cnt rfl ?_
 refine A.xl 4 ?_
 refine A.AL.ent 3 ?_
 refine A.q0 [] [] [.n,.n] [(14,.agg #[.int .i64 p28.1.1,.string p28.1.2]),(15,.int .i64 p28.2)] ?_
 refine A.AL.alloc 224 (cs:=[.int .i64 0,.string (ByteArray.mk #[])]) Tryz.zeroValue44 fun g34=>?_
 refine A.sw 224 [] [.int .i64 p28.1.1,.string p28.1.2] ?_
 refine A.q0 [] [] [.n] [(5,.int .i64 p28.2)] ?_
 refine A.dx 1 ?_
 refine A.AX.dr mixed 15 15 (A.mb 15 0) ?_
 refine A.hq A.pb [] [0,1,2,3,224] [224,0] [] (A.mb 15 4095) 3 [(0,.n),(1,.n),(6,.n),(8,.n),(10,.n),(2,.n),(7,.b 0 0),(9,.b 0 1),(3,.n),(4,.n),(5,.b 1 0),(11,.n)] [(16,.slice A21 ((xs23).length) c22),(27,.agg #[.int .i64 a0.1.1,.int .i64 p28.1.1,.string p28.1.2,.int .i64 p28.2])] ?_
 refine A.AH.one 12 ?_
 refine A.AL.bsl 225 (ty:=T46) (cs:=[.int .i64 a0.1.1,.int .i64 p28.1.1,.string p28.1.2,.int .i64 p28.2]) [(a0.1.1,p28.1.1,p28.1.2,p28.2)] ⟨⟨⟨rfl,h1_⟩,⟨rfl,(of_decide_eq_true hkc33.1)⟩,⟨rfl,hkc33.2⟩,⟨rfl,ho32⟩⟩,rfl⟩ (fun g35=>?_) Tryz.zeroValue47 Tryz.sizeOf47
 refine A.AH.nx (A.mb 15 8191) [0,1,2,3,224] ?_
 refine A.AH.one 13 ?_
 obtain⟨hl38,hF⟩:=A.gd_some hF
 refine A.AL.app (k:=96) [] (A.rowO (k:=225) rfl) inf47 hl38 fun A36 c37=>?_
 refine A.AH.nx (A.mb 15 16383) [0,1,2,3,224] ?_
 refine A.hq A.pb [0,1,2,3,224] [0,1,2,3,96,224,225] [] [] (A.mb 15 32767) 0 [(14,.n)] [(3,.slice A36 ((xs23++[(a0.1.1,p28.1.1,p28.1.2,p28.2)]).length) c37)] ?_
 refine A.AH.done ?_
 refine A.ee 1 ?_
 exact A.j ⟨_,Nat.lt_succ_self _,⟨(i29::sn19),(xs23++[(a0.1.1,p28.1.1,p28.1.2,p28.2)]),(some (.agg #[.int .i64 p28.1.1,.string p28.1.2],.int .i64 p28.2)),A36,c37,rfl,rfl,hF⟩⟩
def F.oper_entry_j1 (y3:Bool):Option Bool:=some y3
def F.oper_entry (a0:D25)(a1:D46):Option Bool:=if a1.1≠a0.1 then(some false)else(if a0.2.1=11 then(some (bif bif decide (a1.2.2.1=(ByteArray.mk #[]))then decide ((0:Int)≤a1.2.2.2)else false then decide (a1.2.2.2≤1099511627776)else false))else(if a0.2.1=16 then(if a1.2.2.2=1 then((F.rec_Check (a1.2.1,a1.2.2.1)).bind fun r4=>(F.oper_entry_j1 (decide (r4=0))))else(F.oper_entry_j1 false))else(some false)))
theorem oper_entry_ok (a0:D25)(a1:D46)(A2_:Option Addr)(c3_:Nat)(h0_:IntKind.i64.has a0.1)(h1_:IntKind.i64.has a0.2.1)(h4_:IntKind.i64.has a0.2.2.2.1.1)(h5_:IntKind.i64.has a0.2.2.2.1.2.1)(h6_:a0.2.2.2.1.2.2.size≤maxLen)(h7_:a0.2.2.2.2.1.size≤maxLen)(h8_:IntKind.i64.has a0.2.2.2.2.2.1)(h9_:IntKind.i64.has a0.2.2.2.2.2.2)(h10_:IntKind.i64.has a1.1)(h11_:IntKind.i64.has a1.2.1)(h12_:a1.2.2.1.size≤maxLen)(h13_:IntKind.i64.has a1.2.2.2)(r:Bool)(hF:F.oper_entry a0 a1=some r):
    A.Ct Tryz.prog 42 [.agg #[.int .i64 a0.1,.int .i64 a0.2.1,.slice A2_ ((a0.2.2.1).length) c3_,.int .i64 a0.2.2.2.1.1,.int .i64 a0.2.2.2.1.2.1,.string a0.2.2.2.1.2.2,.string a0.2.2.2.2.1,.int .i64 a0.2.2.2.2.2.1,.int .i64 a0.2.2.2.2.2.2],.agg #[.int .i64 a1.1,.int .i64 a1.2.1,.string a1.2.2.1,.int .i64 a1.2.2.2]] [(0,.sh (.slice (Z.Ty.int .i64)) [.slice A2_ (a0.2.2.1).length c3_] a0.2.2.1),(1,.el none 1 0 A.tabF),(2,.el none 2 0 A.tabA)] [] (fun v H'=>v=.bool r∧H'=[]):=by
 refine A.Ct.enter Tryz.func42 rfl Tryz.ntmps42 rfl fun w0 F0=>?_
 rw[F.oper_entry]at hF
 refine A.xl 1 ?_
 refine A.AL.box 3 (cs:=[.int .i64 a0.1,.int .i64 a0.2.1,.slice A2_ ((a0.2.2.1).length) c3_,.int .i64 a0.2.2.2.1.1,.int .i64 a0.2.2.2.1.2.1,.string a0.2.2.2.1.2.2,.string a0.2.2.2.2.1,.int .i64 a0.2.2.2.2.2.1,.int .i64 a0.2.2.2.2.2.2]) fun g1=>?_
 refine A.AL.box 4 (cs:=[.int .i64 a1.1,.int .i64 a1.2.1,.string a1.2.2.1,.int .i64 a1.2.2.2]) fun g2=>?_
 refine A.q0 [] [] [.n] [] ?_
 refine A.dl 4 ?_
 refine A.q0 [4,3] [] [.n,.b 0 0,.n,.b 1 0,.n,.n] [(5,.bool (decide (a1.1≠a0.1)))] ?_
 refine A.dx 1 ?_
 refine A.AX.cnd rfl hF (fun hb hF=>?_) (fun hb hF=>?_)
 ·refine A.xl 1 ?_
  refine A.q0 [] [] [.n] [(4,.bool false)] ?_
  refine A.dx 1 ?_
  obtain rfl:=Option.some.inj hF
  exact A.rt1 [] ⟨rfl,rfl⟩
 refine A.xl 1 ?_
 refine A.q0 [3] [] [.n,.b 0 1,.n,.n] [(11,.bool (decide (a0.2.1=11)))] ?_
 refine A.dx 1 ?_
 refine A.AX.cnd rfl hF (fun hb hF=>?_) (fun hb hF=>?_)
 ·refine A.xl 1 ?_
  refine A.q0 [4] [] [.n,.b 0 2,.n,.n,.sy .n,.sy (.b 0 3),.sy .n,.pk,.n,.sy .n,.sy (.b 0 3),.sy .n,.pk,.n] [(4,.bool (bif bif decide (a1.2.2.1=(ByteArray.mk #[]))then decide ((0:Int)≤a1.2.2.2)else false then decide (a1.2.2.2≤1099511627776)else false))] ?_
  refine A.dx 1 ?_
  obtain rfl:=Option.some.inj hF
  exact A.rt1 [] ⟨rfl,rfl⟩
 refine A.xl 1 ?_
 refine A.q0 [3] [] [.n,.b 0 1,.n,.n] [(28,.bool (decide (a0.2.1=16)))] ?_
 refine A.dx 1 ?_
 refine A.AX.cnd rfl hF (fun hb hF=>?_) (fun hb hF=>?_)
 ·refine A.AX.join [] [1,2] (fun nl nh=>∃(y3:Bool),nl=[(4,.bool y3)]∧nh=[]∧F.oper_entry_j1 y3=some r) ?_ ?_
  ·refine A.xl 0 ?_
   refine A.q0 [4] [] [.n,.b 0 3,.n,.n] [(35,.bool (decide (a1.2.2.2=1)))] ?_
   refine A.AL.cnp (j:=35) rfl hF (fun hb hF=>?_) (fun hb hF=>?_)
   ·refine A.q0 [4] [] [.on .n,.on (.b 0 1),.on .n,.on (.b 0 2),.on .n] [(40,.agg #[.int .i64 a1.2.1,.string a1.2.2.1])] ?_
    refine A.AL.on (dj:=35) rfl rfl ?_
    obtain⟨r4,hv5,hF⟩:=A.bd_some hF
    refine A.AL.call 5 [] (first:=[]) (cap:=[]) cf82 (rec_Check_ok (a1.2.1,a1.2.2.1) h11_ h12_ r4 hv5) (.s 1 (.s 2 .nil)) ?_
    rintro _ _ ⟨rfl,rfl,hr6⟩
    refine⟨by kernel_rfl,?_⟩
    refine A.q0 [] [] [.on .n,.n,.n] [(4,.bool (decide (r4=0)))] ?_
    refine A.AL.done ?_
    exact A.j ⟨(decide (r4=0)),rfl,rfl,hF⟩
   refine A.q0 [] [] [.off,.off,.off,.off,.off,.off,.off,.n,.n] [(4,.bool false)] ?_
   refine A.AL.done ?_
   exact A.j ⟨false,rfl,rfl,hF⟩
  rintro _ _ ⟨y3,rfl,rfl,hF⟩
  rw[F.oper_entry_j1]at hF
  obtain rfl:=Option.some.inj hF
  exact A.rt1 [] ⟨rfl,rfl⟩
 refine A.xl 4 ?_
 refine A.q0 [] [] [.n] [(4,.bool false)] ?_
 refine A.dx 1 ?_
 obtain rfl:=Option.some.inj hF
 exact A.rt1 [] ⟨rfl,rfl⟩
def F.oper_ahead (a0:D46)(a1:D46):Option Bool:=(F.cmp_Compare_int64 a0.2.1 a1.2.1).bind fun r3=>((F.strings_Compare a0.2.2.1 a1.2.2.1).bind fun r6=>((F.cmp_Or_int [r3,r6]).bind fun r10=>(some (decide (r10<0)))))
theorem oper_ahead_ok (a0:D46)(a1:D46)(h0_:IntKind.i64.has a0.1)(h1_:IntKind.i64.has a0.2.1)(h2_:a0.2.2.1.size≤maxLen)(h3_:IntKind.i64.has a0.2.2.2)(h4_:IntKind.i64.has a1.1)(h5_:IntKind.i64.has a1.2.1)(h6_:a1.2.2.1.size≤maxLen)(h7_:IntKind.i64.has a1.2.2.2)(r:Bool)(hF:F.oper_ahead a0 a1=some r):
    A.Ct Tryz.prog 43 [.agg #[.int .i64 a0.1,.int .i64 a0.2.1,.string a0.2.2.1,.int .i64 a0.2.2.2],.agg #[.int .i64 a1.1,.int .i64 a1.2.1,.string a1.2.2.1,.int .i64 a1.2.2.2]] [] [] (fun v H'=>v=.bool r∧H'=[]):=by
 refine A.Ct.enter Tryz.func43 rfl Tryz.ntmps43 rfl fun w0 F0=>?_
 rw[F.oper_ahead]at hF
 refine A.xl 1 ?_
 refine A.AL.box 0 (cs:=[.int .i64 a0.1,.int .i64 a0.2.1,.string a0.2.2.1,.int .i64 a0.2.2.2]) fun g1=>?_
 refine A.AL.box 1 (cs:=[.int .i64 a1.1,.int .i64 a1.2.1,.string a1.2.2.1,.int .i64 a1.2.2.2]) fun g2=>?_
 refine A.q0 [] [] [.n] [] ?_
 refine A.dx 2 ?_
 refine A.AX.dr mixed 14 14 (A.mb 14 0) ?_
 refine A.hq A.pb [] [0,1] [0,1] [] (A.mb 14 495) 6 [(0,.n),(2,.n),(5,.n),(7,.n),(1,.b 0 1),(3,.b 1 1),(6,.b 0 2),(8,.b 1 2)] [(6,.int .i64 a0.2.1),(8,.int .i64 a1.2.1),(11,.string a0.2.2.1),(13,.string a1.2.2.1)] ?_
 refine A.AH.one 4 ?_
 obtain⟨r3,hv4,hF⟩:=A.bd_some hF
 refine A.AL.call 2 [] (first:=[]) (cap:=[]) cf67 (cmp_Compare_int64_ok a0.2.1 a1.2.1 h1_ h5_ r3 hv4) .nil ?_
 rintro _ _ ⟨rfl,rfl,hr5⟩
 refine⟨by kernel_rfl,?_⟩
 refine A.AH.nx (A.mb 14 511) [0,1] ?_
 refine A.AH.one 9 ?_
 obtain⟨r6,hv7,hF⟩:=A.bd_some hF
 refine A.AL.call 42 [] (first:=[]) (cap:=[]) cf68 (strings_Compare_ok a0.2.2.1 a1.2.2.1 h2_ h6_ r6 hv7) .nil ?_
 rintro _ _ ⟨rfl,rfl,hr8⟩
 refine⟨by kernel_rfl,?_⟩
 refine A.AH.nx (A.mb 14 1023) [0,1] ?_
 refine A.AH.one 10 ?_
 refine A.AL.bsl 82 (ty:=(Z.Ty.int .i64)) (cs:=[.int .i64 r3,.int .i64 r6]) [r3,r6] ⟨⟨rfl,hr5⟩,⟨⟨rfl,hr8⟩,rfl⟩⟩ (fun g9=>?_) Tryz.zeroValue3 Tryz.sizeOf3
 refine A.AH.nx (A.mb 14 2047) [0,1] ?_
 refine A.AH.one 11 ?_
 obtain⟨r10,hv11,hF⟩:=A.bd_some hF
 refine A.AL.call 83 [] (first:=[]) (cap:=[]) cf66 (cmp_Or_int_ok [r3,r6] (some ⟨g9,0,none⟩) 2 r10 hv11) (.o 82 .nil) ?_
 rintro _ _ ⟨rfl,rfl,hr12⟩
 refine⟨by kernel_rfl,?_⟩
 refine A.AH.nx (A.mb 14 4095) [0,1] ?_
 refine A.hq A.pb [0,1] [0,1,82] [] [] (A.mb 14 16383) 0 [(12,.n),(13,.n)] [(4,.bool (decide (r10<0)))] ?_
 refine A.AH.done ?_
 refine A.ex 1 ?_
 obtain rfl:=Option.some.inj hF
 exact A.rt1 [] ⟨rfl,rfl⟩
def F.oper_CheckState_j1 (k1:Int→Option Int)(y2:Int)(y11:Bool):Option Int:=if y11=true then(some 171)else(A.gd (Z.R64 (y2+1)) (k1 (y2+1)))
def F.oper_CheckState_l2 (a0:D25)(a1:(List D46)):Nat→Int→Option Int
 |0,_=>none
 |f+1,y2=>if y2<((a1).length:Int)then((A.ix a1 y2).bind fun x5=>((F.oper_entry (a0.1,a0.2.1,a0.2.2.1,(a0.2.2.2.1.1,a0.2.2.2.1.2.1,a0.2.2.2.1.2.2),a0.2.2.2.2.1,a0.2.2.2.2.2.1,a0.2.2.2.2.2.2) (x5.1,x5.2.1,x5.2.2.1,x5.2.2.2)).bind fun r13=>(if(!r13)=true then(F.oper_CheckState_j1 (F.oper_CheckState_l2 a0 a1 f) y2 true)else(if(0:Int)<y2 then(A.gd (Z.R64 (y2-1)) ((A.ix a1 (y2-1)).bind fun x16=>((F.oper_ahead (x16.1,x16.2.1,x16.2.2.1,x16.2.2.2) (x5.1,x5.2.1,x5.2.2.1,x5.2.2.2)).bind fun r22=>(F.oper_CheckState_j1 (F.oper_CheckState_l2 a0 a1 f) y2 (!r22)))))else(F.oper_CheckState_j1 (F.oper_CheckState_l2 a0 a1 f) y2 false)))))else(some 0)
def F.oper_CheckState (a0:D25)(a1:(List D46)):Option Int:=F.oper_CheckState_l2 a0 a1 A.FU 0
theorem oper_CheckState_ok (a0:D25)(a1:(List D46))(A2_:Option Addr)(c3_:Nat)(A10_:Option Addr)(c11_:Nat)(h0_:IntKind.i64.has a0.1)(h1_:IntKind.i64.has a0.2.1)(h4_:IntKind.i64.has a0.2.2.2.1.1)(h5_:IntKind.i64.has a0.2.2.2.1.2.1)(h6_:a0.2.2.2.1.2.2.size≤maxLen)(h7_:a0.2.2.2.2.1.size≤maxLen)(h8_:IntKind.i64.has a0.2.2.2.2.2.1)(h9_:IntKind.i64.has a0.2.2.2.2.2.2)(r:Int)(hF:F.oper_CheckState a0 a1=some r):
    A.Ct Tryz.prog 14 [.agg #[.int .i64 a0.1,.int .i64 a0.2.1,.slice A2_ ((a0.2.2.1).length) c3_,.int .i64 a0.2.2.2.1.1,.int .i64 a0.2.2.2.1.2.1,.string a0.2.2.2.1.2.2,.string a0.2.2.2.2.1,.int .i64 a0.2.2.2.2.2.1,.int .i64 a0.2.2.2.2.2.2],.slice A10_ ((a1).length) c11_] [(0,.sh (.slice (Z.Ty.int .i64)) [.slice A2_ (a0.2.2.1).length c3_] a0.2.2.1),(1,.ln T46 A10_ c11_ a1),(2,.el none 1 0 A.tabF),(3,.el none 2 0 A.tabA)] [] (fun v H'=>v=.int .i64 r∧H'=[]∧IntKind.i64.has r):=by
 refine A.Ct.enter Tryz.func14 rfl Tryz.ntmps14 rfl fun w0 F0=>?_
 rw[F.oper_CheckState]at hF
 refine A.xl 1 ?_
 refine A.AL.box 4 (cs:=[.int .i64 a0.1,.int .i64 a0.2.1,.slice A2_ ((a0.2.2.1).length) c3_,.int .i64 a0.2.2.2.1.1,.int .i64 a0.2.2.2.1.2.1,.string a0.2.2.2.1.2.2,.string a0.2.2.2.2.1,.int .i64 a0.2.2.2.2.2.1,.int .i64 a0.2.2.2.2.2.2]) fun g1=>?_
 refine A.q0 [] [] [.n] [] ?_
 refine A.dl 3 ?_
 refine A.q0 [] [] [.n,.n,.n] [(7,.slice A10_ ((a1).length) c11_),(8,.int .i64 ((a1).length:Int)),(9,.int .i64 0)] ?_
 refine A.dx 2 ?_
 refine A.lp_ [1,2,7,8] [0,1,2,3,4] (fun f nl nh=>∃(y2:Int),nl=[(9,.int .i64 y2)]∧nh=[]∧IntKind.i64.has y2∧F.oper_CheckState_l2 a0 a1 f y2=some r) ⟨0,rfl,rfl,(A.hasl .i64 (0) rfl),hF⟩ ?_
 rintro f4 _ _ ⟨y2,rfl,rfl,hy3,hF⟩
 rcases f4 with _|f4
 ·exact A.no0 hF
 rw[F.oper_CheckState_l2]at hF
 refine A.xl 1 ?_
 refine A.q0 [] [] [.n] [(10,.bool (decide (y2<((a1).length:Int))))] ?_
 refine A.dx 2 ?_
 refine A.AX.cnd rfl hF (fun hb hF=>?_) (fun hb hF=>?_)
 ·refine A.xl 5 ?_
  refine A.q0 [] [] [.n] [(11,.int .i64 y2)] ?_
  obtain⟨x5,hv6,hF⟩:=A.bd_some hF
  refine A.AL.ixl 1 171 hv6 fun ho7=>?_
  intro b8 o9
  refine A.q0 [] [171] [.e 0 0] [(13,.agg #[.int .i64 x5.1,.int .i64 x5.2.1,.string x5.2.2.1,.int .i64 x5.2.2.2])] ?_
  refine A.AL.alloc 172 (cs:=[.int .i64 0,.int .i64 0,.string (ByteArray.mk #[]),.int .i64 0]) Tryz.zeroValue47 fun g10=>?_
  refine A.q0 [] [] [.n] [(5,.int .i64 y2)] ?_
  refine A.sw 172 [] [.int .i64 x5.1,.int .i64 x5.2.1,.string x5.2.2.1,.int .i64 x5.2.2.2] ?_
  refine A.dx 1 ?_
  refine A.AX.join [1,2,7,8,9] [0,1,2,3,4] (fun nl nh=>∃(y11:Bool),nl=[(31,.bool y11)]∧nh=[]∧F.oper_CheckState_j1 (F.oper_CheckState_l2 a0 a1 f4) y2 y11=some r) ?_ ?_
  ·refine A.AX.dr mixed 18 18 (A.mb 18 0) ?_
   refine A.hq A.pb [] [0,1,2,3,4,171,172] [4,172] [] (A.mb 18 3) 16 [(0,.b 0 0),(1,.b 1 0)] [(14,.agg #[.int .i64 a0.1,.int .i64 a0.2.1,.slice A2_ ((a0.2.2.1).length) c3_,.int .i64 a0.2.2.2.1.1,.int .i64 a0.2.2.2.1.2.1,.string a0.2.2.2.1.2.2,.string a0.2.2.2.2.1,.int .i64 a0.2.2.2.2.2.1,.int .i64 a0.2.2.2.2.2.2]),(15,.agg #[.int .i64 x5.1,.int .i64 x5.2.1,.string x5.2.2.1,.int .i64 x5.2.2.2])] ?_
   refine A.AH.one 2 ?_
   obtain⟨r13,hv14,hF⟩:=A.bd_some hF
   refine A.AL.call 173 [] (first:=[]) (cap:=[]) cf42 (oper_entry_ok (a0.1,a0.2.1,a0.2.2.1,(a0.2.2.2.1.1,a0.2.2.2.1.2.1,a0.2.2.2.1.2.2),a0.2.2.2.2.1,a0.2.2.2.2.2.1,a0.2.2.2.2.2.2) (x5.1,x5.2.1,x5.2.2.1,x5.2.2.2) A2_ c3_ h0_ h1_ h4_ h5_ h6_ h7_ h8_ h9_ ho7.1 ho7.2.1 ho7.2.2.1 ho7.2.2.2 r13 hv14) (.s 0 (.s 2 (.s 3 .nil))) ?_
   rintro _ _ ⟨rfl,rfl⟩
   refine⟨by kernel_rfl,?_⟩
   refine A.AH.nx (A.mb 18 7) [0,1,2,3,4,171,172] ?_
   refine A.hq A.pb [0,1,2,3,4,171,172] [0,1,2,3,4,171,172] [] [] (A.mb 18 31) 13 [(3,.n),(4,.n)] [(18,.bool (!r13))] ?_
   refine A.AH.cnd (j:=18) rfl hF (fun hF=>?_) (fun hF=>?_)
   ·refine A.hq A.pb [0,1,2,3,4,171,172] [0,1,2,3,4,171,172] [] [] (A.mb 18 262143) 0 [(5,.off),(6,.off),(7,.off),(8,.off),(9,.off),(13,.off),(10,.off),(11,.off),(12,.off),(14,.off),(15,.off),(16,.off),(17,.n)] [(31,.bool true)] ?_
    refine A.AH.done ?_
    exact A.j ⟨true,rfl,rfl,hF⟩
   refine A.hq A.pb [0,1,2,3,4,171,172] [0,1,2,3,4,171,172] [] [] (A.mb 18 255) 10 [(5,.on .n),(6,.on .n),(7,.on .n)] [(21,.bool (decide ((0:Int)<y2)))] ?_
   refine A.AH.cnp (j:=21) rfl hF (fun hb hF=>?_) (fun hb hF=>?_)
   ·obtain⟨hc15,hF⟩:=A.gd_some hF
    refine A.AH.q A.pb [0,1,2,3,4,171,172] [0,1,2,3,4,171,172] [172] [] (A.mb 18 10239) 6 [(8,.on .n),(9,.on .n),(13,.on (.b 0 0)),(10,.on .n)] [22,27,24] [Z.R64 (y2-1)] [(22,.slice A10_ ((a1).length) c11_),(27,.agg #[.int .i64 x5.1,.int .i64 x5.2.1,.string x5.2.2.1,.int .i64 x5.2.2.2]),(24,.int .i64 (y2-1))] hc15 ?_
    obtain⟨x16,hv17,hF⟩:=A.bd_some hF
    refine A.AH.pkl 1 213 hv17 fun ho18=>?_
    intro b20 o21 hA19
    refine A.AH.vg A.pb [0,1,2,3,4,171,172] [0,1,2,3,4,171,172,213] 11 (A.mb 18 12287) (dj:=21) rfl (fun a w hf hh=>A.r_ixa (t:=T46) hv17 hA19 hf) ?_
    refine A.hq A.pb [0,1,2,3,4,171,172,213] [0,1,2,3,4,171,172,213] [] [213] (A.mb 18 16383) 4 [(12,.on (.e 0 0))] [(26,.agg #[.int .i64 x16.1,.int .i64 x16.2.1,.string x16.2.2.1,.int .i64 x16.2.2.2])] ?_
    refine A.AH.one 14 ?_
    refine A.AL.on (dj:=21) rfl rfl ?_
    obtain⟨r22,hv23,hF⟩:=A.bd_some hF
    refine A.AL.call 214 [] (first:=[]) (cap:=[]) cf43 (oper_ahead_ok (x16.1,x16.2.1,x16.2.2.1,x16.2.2.2) (x5.1,x5.2.1,x5.2.2.1,x5.2.2.2) ho18.1 ho18.2.1 ho18.2.2.1 ho18.2.2.2 ho7.1 ho7.2.1 ho7.2.2.1 ho7.2.2.2 r22 hv23) .nil ?_
    rintro _ _ ⟨rfl,rfl⟩
    refine⟨by kernel_rfl,?_⟩
    refine A.AH.nx (A.mb 18 32767) [0,1,2,3,4,171,172,213] ?_
    refine A.hq A.pb [0,1,2,3,4,171,172,213] [0,1,2,3,4,171,172,213] [] [] (A.mb 18 262143) 0 [(15,.on .n),(16,.on .n),(17,.n)] [(31,.bool (!r22))] ?_
    refine A.AH.done ?_
    exact A.j ⟨(!r22),rfl,rfl,hF⟩
   refine A.hq A.pb [0,1,2,3,4,171,172] [0,1,2,3,4,171,172] [] [] (A.mb 18 262143) 0 [(8,.off),(9,.off),(13,.off),(10,.off),(11,.off),(12,.off),(14,.off),(15,.off),(16,.on .n),(17,.n)] [(31,.bool false)] ?_
   refine A.AH.done ?_
   exact A.j ⟨false,rfl,rfl,hF⟩
  rintro _ _ ⟨y11,rfl,rfl,hF⟩
  rw[F.oper_CheckState_j1]at hF
  refine A.AX.cnb rfl hF (fun hb hF=>?_) (fun hb hF=>?_)
  ·refine A.xl 1 ?_
   refine A.q0 [] [] [.n] [(4,.int .i64 171)] ?_
   refine A.dx 1 ?_
   obtain rfl:=Option.some.inj hF
   exact A.rt1 [] ⟨rfl,rfl,(A.hasl .i64 (171) rfl)⟩
  refine A.xl 3 ?_
  obtain⟨hc12,hF⟩:=A.gd_some hF
  refine A.q [] [] [.n,.n] [Z.R64 (y2+1)] [(9,.int .i64 (y2+1))] hc12 ?_
  refine A.AL.done ?_
  exact A.j ⟨_,Nat.lt_succ_self _,⟨(y2+1),rfl,rfl,(Z.i64_has hc12),hF⟩⟩
 refine A.xl 3 ?_
 refine A.q0 [] [] [.n] [(4,.int .i64 0)] ?_
 refine A.dx 1 ?_
 obtain rfl:=Option.some.inj hF
 exact A.rt1 [] ⟨rfl,rfl,(A.hasl .i64 (0) rfl)⟩
def F.oper_Keeps (a0:Int):Option Bool:=some (bif decide (a0=11)then true else decide (a0=16))
theorem oper_Keeps_ok (a0:Int)(h0_:IntKind.i64.has a0)(r:Bool)(hF:F.oper_Keeps a0=some r):
    A.Ct Tryz.prog 24 [.int .i64 a0] [] [] (fun v H'=>v=.bool r∧H'=[]):=by
 refine A.Ct.enter Tryz.func24 rfl Tryz.ntmps24 rfl fun w0 F0=>?_
 rw[F.oper_Keeps]at hF
 refine A.xl 1 ?_
 refine A.q0 [] [] [.n] [] ?_
 refine A.dl 2 ?_
 refine A.q0 [] [] [.n,.n,.n,.sy .n,.sy .n,.pk,.n] [(2,.bool (bif decide (a0=11)then true else decide (a0=16)))] ?_
 refine A.dx 1 ?_
 obtain rfl:=Option.some.inj hF
 exact A.rt1 [] ⟨rfl,rfl⟩
def F.oper_Holds_j1:Option Bool:=some true
def F.oper_Holds_j2 (a0:Int)(y2:Bool):Option Bool:=if y2=true then(F.oper_Holds_j1)else((F.oper_Keeps a0).bind fun r3=>(some r3))
def F.oper_Holds_j3 (a0:Int)(y1:Bool):Option Bool:=if y1=true then(F.oper_Holds_j1)else(if a0=9 then(F.oper_Holds_j2 a0 (decide (a0=9)))else(F.oper_Holds_j2 a0 (decide (a0=10))))
def F.oper_Holds (a0:Int):Option Bool:=if a0=7 then(F.oper_Holds_j3 a0 (decide (a0=7)))else(F.oper_Holds_j3 a0 (decide (a0=8)))
theorem oper_Holds_ok (a0:Int)(h0_:IntKind.i64.has a0)(r:Bool)(hF:F.oper_Holds a0=some r):
    A.Ct Tryz.prog 22 [.int .i64 a0] [] [] (fun v H'=>v=.bool r∧H'=[]):=by
 refine A.Ct.enter Tryz.func22 rfl Tryz.ntmps22 rfl fun w0 F0=>?_
 rw[F.oper_Holds]at hF
 refine A.xl 1 ?_
 refine A.q0 [] [] [.n] [] ?_
 refine A.dl 3 ?_
 refine A.q0 [] [] [.n] [(3,.int .i64 a0)] ?_
 refine A.dx 2 ?_
 refine A.AX.join [] [] (fun nl nh=>nl=[]∧nh=[]∧F.oper_Holds_j1=some r) ?_ ?_
 ·refine A.xx 4 ?_
  refine A.AX.join [0,3] [] (fun nl nh=>∃(y1:Bool),nl=[(4,.bool y1)]∧nh=[]∧F.oper_Holds_j3 a0 y1=some r) ?_ ?_
  ·refine A.xl 1 ?_
   refine A.q0 [] [] [.n,.n] [(4,.bool (decide (a0=7)))] ?_
   refine A.dx 1 ?_
   refine A.AX.cnd rfl hF (fun hb hF=>?_) (fun hb hF=>?_)
   ·refine A.xe 1 ?_
    exact A.j ⟨(decide (a0=7)),rfl,rfl,hF⟩
   refine A.xl 0 ?_
   refine A.q0 [] [] [.n,.n] [(4,.bool (decide (a0=8)))] ?_
   refine A.AL.done ?_
   exact A.j ⟨(decide (a0=8)),rfl,rfl,hF⟩
  rintro _ _ ⟨y1,rfl,rfl,hF⟩
  rw[F.oper_Holds_j3]at hF
  refine A.AX.cnb rfl hF (fun hb hF=>?_) (fun hb hF=>?_)
  ·refine A.xe 2 ?_
   exact A.j ⟨rfl,rfl,hF⟩
  refine A.xx 2 ?_
  refine A.AX.join [0] [] (fun nl nh=>∃(y2:Bool),nl=[(7,.bool y2)]∧nh=[]∧F.oper_Holds_j2 a0 y2=some r) ?_ ?_
  ·refine A.xl 1 ?_
   refine A.q0 [] [] [.n,.n] [(7,.bool (decide (a0=9)))] ?_
   refine A.dx 1 ?_
   refine A.AX.cnd rfl hF (fun hb hF=>?_) (fun hb hF=>?_)
   ·refine A.xe 1 ?_
    exact A.j ⟨(decide (a0=9)),rfl,rfl,hF⟩
   refine A.xl 0 ?_
   refine A.q0 [] [] [.n,.n] [(7,.bool (decide (a0=10)))] ?_
   refine A.AL.done ?_
   exact A.j ⟨(decide (a0=10)),rfl,rfl,hF⟩
  rintro _ _ ⟨y2,rfl,rfl,hF⟩
  rw[F.oper_Holds_j2]at hF
  refine A.AX.cnb rfl hF (fun hb hF=>?_) (fun hb hF=>?_)
  ·refine A.xe 1 ?_
   exact A.j ⟨rfl,rfl,hF⟩
  refine A.xl 5 ?_
  refine A.q0 [] [] [.n] [(10,.int .i64 a0)] ?_
  obtain⟨r3,hv4,hF⟩:=A.bd_some hF
  refine A.AL.call 0 [] (first:=[]) (cap:=[]) cf24 (oper_Keeps_ok a0 h0_ r3 hv4) .nil ?_
  rintro _ _ ⟨rfl,rfl⟩
  refine⟨by kernel_rfl,?_⟩
  refine A.q0 [] [] [.n] [(2,.bool r3)] ?_
  refine A.dx 1 ?_
  obtain rfl:=Option.some.inj hF
  exact A.rt1 [] ⟨rfl,rfl⟩
 rintro _ _ ⟨rfl,rfl,hF⟩
 rw[F.oper_Holds_j1]at hF
 refine A.xl 2 ?_
 refine A.q0 [] [] [.n] [(2,.bool true)] ?_
 refine A.dx 1 ?_
 obtain rfl:=Option.some.inj hF
 exact A.rt1 [] ⟨rfl,rfl⟩
end Go.Proofs.YtbljnlkhebiniaaGreatDoor
end
