import Derived.Test.YtligcbdjiolamaaGreatDoorA3
import Derived.Calls
import GoSem.Step
import Derived.Shelf.SlSortCmp.NoneTotal
import Derived.Lib.TrimU
import Derived.Shelf.Small.Strs
set_option linter.defProp false
set_option linter.unusedVariables false
set_option linter.unusedSimpArgs false
set_option maxRecDepth 20000
set_option maxHeartbeats 8000000
set_option synthInstance.maxSize 1000000
set_option synthInstance.maxHeartbeats 400000
section
set_option linter.tactic.unusedName false
namespace Go.Dr
open Go
def R {α:Type}(n:Nat):Result α->Prop
 | .ok _ w=>n<=w.drawn
 | .halt _ w=>n<=w.drawn
def ask {α:Type}: ∀(a:Ask α) (w:World),w.drawn<=(w.ask a).2.drawn
 | .done a,w=>Qr _
 | .ask what range k,w=>by
  unfold World.ask;dsimp only;split;exact ask _ w;exact Wb (Nat.le_succ _) (ask _ {w with drawn:=w.drawn+1})
def sys (w:World)(c:Sys):w.drawn<=(w.sys c).2.drawn:=by
 unfold World.sys;have h:=ask (Kernel.perform c w.os) w;split;exact Qr _;rename_i e;rw[e]at h;exact h
def EP {ε α:Type}(P:α->Prop)(x:Except ε α):Prop:=∀a,x=.ok a->P a
def eb {ε α β:Type}{P:β->Prop}{x:Except ε α}{f:α->Except ε β}(h: ∀a,EP P (f a)):EP P (x >>= f):=λb E=>by
 cases x with
 |error e=>cases E
 |ok a=>exact h a b E
def et {α:Type}{P:α->Prop}{e:String}:EP P (MonadExcept.throw e:Except String α):=λ_ h=>by cases h
def ep {ε α:Type}{P:α->Prop}{a:α}(h:P a):EP P (pure a:Except ε α):=λb E=>by injection E with E;subst E;exact h
def vs0 (w:World)(p:QR)(at_:Addr)(u:QQ)(a:Addr)(v:Value)(b:Bool):EP (λr=>r.1.drawn=w.drawn) (w.viewStore p at_ u a v b):=by
 unfold World.viewStore;dsimp only;repeat' first|exact et|exact ep rfl|(refine eb λ_=>?_)|split|dsimp only
def vs {w w':World}{p:QR}{at_:Addr}{u:QQ}{a:Addr}{v:Value}{b:Bool}{l:List Addr}(h:w.viewStore p at_ u a v b=.ok (w',l)):w'.drawn=w.drawn:=vs0 w p at_ u a v b _ h
def fs {w w':World}{p:QR}{a:Addr}{v:Value}{b:Bool}{l:List Addr}(h:w.farStore p a v b=.ok (w',l)):w'.drawn=w.drawn:=by
 unfold World.farStore at h;split at h;split at h;rename_i e;injection h with h;subst h;exact vs e
 cases h;cases h
def run {α:Type}(p:QR)(n:Nat): ∀(s:Sem α) (w:World),n<=w.drawn->R n (s.run p w):=by
 intro s;induction s with
 |pure a=>intro w h;exact h
 |load m a k ih=>
  intro w h;unfold Sem.run;split;exact ih _ w h
  (split)
  exact ih _ w h;exact h
 |store m a v k ih=>
  intro w h;cases v;all_goals
   unfold Sem.run;first|exact h|skip
  all_goals
   split
   (split)
   exact h;exact ih _ h
   (split)
   rename_i e;exact ih _ (by rw[fs e];exact h);exact h
 |choose q k ih=>
  intro w h;unfold Sem.run;split;exact ih _ w h;exact ih _ _ (X3 h)
 |sys c k ih=>intro w h;unfold Sem.run;exact ih _ _ (Wb h (sys w c))
 |new o k ih=>intro w h;unfold Sem.run;exact ih _ _ h
 |shape r k ih=>intro w h;unfold Sem.run;exact ih _ _ h
 |freeze a n k ih=>intro w h;unfold Sem.run;refine ih _ ?_;unfold World.freeze;((repeat' split)<;>(exact h))
 |frozen a k ih=>intro w h;unfold Sem.run;exact ih _ _ h
 |getObj r k ih=>intro w h;unfold Sem.run;((repeat' split)<;>(first|exact h|exact ih _ _ h))
 |setObj r o k ih=>intro w h;unfold Sem.run;((repeat' split)<;>(first|exact h|exact ih _ h))
 |program k ih=>intro w h;unfold Sem.run;exact ih _ _ h
 |mark m k ih=>intro w h;unfold Sem.run;exact ih _ h
 |halt x=>intro w h;exact h
def runT {α:Type}(p:QR)(n:Nat)(s:Sem α)(w:World)(es:Array Event)(h:n<=w.drawn):R n (s.runT p w es).1:=by
 induction s generalizing w es with
 |pure a=>exact h
 |halt x=>exact h
 |choose q k ih=>
  unfold Sem.runT;split;exact ih _ w _ h;exact ih _ _ _ (X3 h)
 |sys c k ih=>unfold Sem.runT;exact ih _ _ _ (Wb h (sys w c))
 |freeze a n k ih=>unfold Sem.runT;refine ih _ _ ?_;unfold World.freeze;((repeat' split)<;>(exact h))
 |store m a v k ih=>
  cases v;all_goals
   unfold Sem.runT;first|exact h|skip
  all_goals
   split
   (split)
   exact h;exact ih _ _ h
   (split)
   rename_i e;exact ih _ _ (by rw[fs e];exact h);exact h
 |_=>
  unfold Sem.runT;repeat' split
  all_goals first|exact h|(rename_i ih;exact ih _ _ _ h)|(rename_i ih;exact ih _ _ h)|(rename_i ih _;exact ih _ _ _ h)|(rename_i ih _;exact ih _ _ h)|(rename_i ih _ _;exact ih _ _ _ h)|(rename_i ih _ _;exact ih _ _ h)|(rename_i ih _ _ _;exact ih _ _ _ h)|(rename_i ih _ _ _;exact ih _ _ h)|(rename_i ih _ _ _ _;exact ih _ _ _ h)|(rename_i ih _ _ _ _;exact ih _ _ h)|(rename_i ih _ _ _ _ _;exact ih _ _ _ h)|(rename_i ih _ _ _ _ _ _;exact ih _ _ _ h)
def G (n:Nat):GStep->Prop
 | .go _ w _| .comm _ _ _ _ w _| .spawn _ _ w _| .count _ w _| .timer _ _ w _| .alone _ _ w _| .newcoro _ _ _ w _| .coroswitch _ _ _ w _| .collect _ w _| .watch _ w _=>n<=w.drawn
 | .ended _ _ _=>True
def after {n:Nat}{es:Array Event}{g:GStep}(h:G n g):G n (g.after es):=by cases g<;>exact h
variable {p:QR}{n:Nat}{w:World}
def ro {α:Type}{s:Sem α}{v:α}{w':World}(e:s.run p w=.ok v w')(h:n<=w.drawn):n<=w'.drawn:=by have:=run p n s w h;rw[e]at this;exact this
def rh {α:Type}{s:Sem α}{v:Halt}{w':World}(e:s.run p w=.halt v w')(h:n<=w.drawn):n<=w'.drawn:=by have:=run p n s w h;rw[e]at this;exact this
def gi {c:Prop}[Decidable c]{a b:GStep}(E:G n a)(I:G n b):G n (if c then a else b):=by split<;>assumption
def rto {α:Type}{s:Sem α}{v:α}{w':World}{es es':Array Event}(e:s.runT p w es=(.ok v w',es'))(h:n<=w.drawn):n<=w'.drawn:=by have:=runT p n s w es h;rw[e]at this;exact this
def rtr {α:Type}{s:Sem α}{r:Result α}{es es':Array Event}(e:s.runT p w es=(r,es'))(h:n<=w.drawn):R n r:=by have:=runT p n s w es h;rw[e]at this;exact this
def rth {α:Type}{s:Sem α}{v:Halt}{w':World}{es es':Array Event}(e:s.runT p w es=(.halt v w',es'))(h:n<=w.drawn):n<=w'.drawn:=by have:=runT p n s w es h;rw[e]at this;exact this
def endThrow (fr:Frame)(m:String)(h:n<=w.drawn):G n (Go.endThrow fr m w):=h
def endPrinting (fr:Frame)(v:Value)(h:n<=w.drawn):G n (Go.endPrinting p fr v w):=by
 unfold Go.endPrinting;dsimp only;split;exact h;trivial
def endWith (fd:Nat)(t:ByteArray)(o:Outcome):G n (Go.endWith w fd t o):=by
 unfold Go.endWith;dsimp only;((repeat' split)<;>(trivial))
def endFatal (fr:Frame)(cs:List Frame)(d:Option Dying)(m:String)(h:n<=w.drawn):G n (Go.endFatal p fr cs d m w):=by
 unfold Go.endFatal;extract_lets;split;rename_i e;exact ro e h;trivial;trivial
def writeOn (fr:Frame)(d:Dying)(f:Fatal)(h:n<=w.drawn):G n (Go.writeOn p fr d f w):=by
 unfold Go.writeOn;extract_lets;split;trivial
 ·extract_lets
  split;all_goals first|trivial|(rename_i e;exact rto e h)|(rename_i e;exact rth e h)
def die (fr:Frame)(d:Dying)(h:n<=w.drawn):G n (Go.die p fr d w):=by
 unfold Go.die;split;exact writeOn _ _ _ h
 ·(split)
  (split)
  exact h;exact endWith _ _ _
  ·extract_lets d2
   split;exact h
   (split)
   rename_i e;exact ro e h;trivial
   ·rename_i t recv name _
    have E:=runT p n (invoke (.fn (.method name) #[]) #[.iface t recv]) w #[] h;split;rename_i r es e;rw[e]at E;refine after ?_;split;all_goals first|trivial|exact E|exact endPrinting _ _ E
   trivial
def doReturn (main:Bool)(fr:Frame)(cs:List Frame)(d:Option Dying)(v:Value)(h:n<=w.drawn):G n (Go.doReturn p main fr cs d v w):=by
 unfold Go.doReturn;repeat' split
 all_goals first|trivial|exact h
def callDeferred (fr:Frame)(cs:List Frame)(dy:Option Dying)(d:Deferred)(h:n<=w.drawn):G n (Go.callDeferred p fr cs dy d w):=by
 unfold Go.callDeferred;refine gi trivial ?_
 ·have E:=runT p n (invoke d.target d.args) w #[] h
  split;rename_i r es e;rw[e]at E;extract_lets;refine after ?_;split;all_goals first|trivial|exact E|exact endFatal _ _ _ _ E|exact endThrow _ _ E|(split<;>first|trivial|exact E)
def unwind (main:Bool)(fr:Frame)(cs:List Frame)(dy:Option Dying)(h:n<=w.drawn):G n (Go.unwind p main fr cs dy w):=by
 unfold Go.unwind;split;rename_i block _ _ _;have E:=runT p n (Instr.takeDeferred block) w #[] h;split;rename_i r es e;rw[e]at E;refine after ?_;split;exact E;trivial;exact callDeferred _ _ _ _ h
 (split)
 trivial
 (split)
 trivial
 (split)
 exact h
 (split)
 (split)
 exact h
 (split)
 rename_i e;exact ro e h;trivial;trivial
 (split)
 exact endPrinting _ _ h;trivial
 (split)
 exact doReturn _ _ _ _ _ h;rename_i fn _;have E:=runT p n (results fn fr.tmps) w #[] h;split;rename_i r es e;rw[e]at E;refine after ?_;split;exact doReturn _ _ _ _ _ E;trivial;trivial
def early (fr:Frame)(cs:List Frame)(dy:Option Dying)(g:Nat)(h:n<=w.drawn):G n (Go.early p fr cs dy g w):=by
 unfold Go.early;extract_lets refuse notYet;have I: ∀w:World,n<=w.drawn->G n (notYet w):=λw h=>by
  show G n (match w.heap[g]? with|some (.pending c elem)=>_|_=>_);split;exact h;trivial
 split;exact I w h
 ·(split)
  trivial
  ·extract_lets there
   have E: ∀w:World,n<=w.drawn->G n (there w):=λw h=>h;repeat' split
   all_goals first|trivial|exact I w h|exact E w h|(rename_i e;exact I _ (ro e h))|(rename_i e;exact E _ (ro e h))|(rename_i e _;exact E _ (ro e h))|(rename_i _ e;exact E _ (ro e h))
def oe {α:Type}{o:Option α}{a:GStep}{f:α->GStep}(E:G n a)(I: ∀x,G n (f x)):G n (o.elim a f):=by cases o with
 |none=>exact E
 |some x=>exact I x
def app (listen:Bool)(fr:Frame)(cs:List Frame)(dy:Option Dying)(s:Sem Next)(h:n<=w.drawn):G n (Go.stepG.apply p listen fr cs dy s w):=by
 unfold Go.stepG.apply;extract_lets;have E:R n (if listen=true then s.runT p w #[]else(s.run p w,#[])).1:=by
  split;exact runT p n s w #[] h;exact run p n s w h
 split;rename_i r es e;rw[e]at E;extract_lets;refine after ?_;split;all_goals first|trivial|exact E|exact endFatal _ _ _ _ E|exact endThrow _ _ E|exact early _ _ _ _ E|(split<;>first|trivial|exact E|(exact gi (endThrow _ _ E) E))|exact gi (endThrow _ _ E) E
def oper (listen:Bool)(fr:Frame)(cs:List Frame)(dy:Option Dying)(h:n<=w.drawn):G n (Go.stepG.oper p listen fr cs dy w):=by
 unfold Go.stepG.oper;repeat' split
 all_goals first|trivial|exact app _ _ _ _ _ h
def exec (main listen:Bool)(fr:Frame)(cs:List Frame)(dy:Option Dying)(h:n<=w.drawn):G n (Go.stepG.exec p main listen fr cs dy w):=by
 unfold Go.stepG.exec;extract_lets go tgo lost leave;have J: ∀fr w,n<=w.drawn->G n (go fr w):=λ_ _ h=>h;have E: ∀k,G n (tgo k):=λk=>h;have hlost: ∀k,G n (lost k):=λk=>trivial;have hleave: ∀j,G n (leave j):=λj=>by
  unfold leave;split;refine gi h trivial
  (split)
  rename_i r es e;have I:=rtr e h;refine after ?_;split;exact doReturn _ _ _ _ _ I;trivial
 split;case h_1=>exact hleave none
 case h_2=>exact hleave (some .ret)
 case h_13=>exact oe (hleave (some (.exit _))) E
 case h_14=>exact oe (hleave (some (.goto _))) E
 all_goals first
  |exact E _|trivial|exact app _ _ _ _ _ h|exact hlost _
  |(split<;>first|exact E _|exact hlost _)
  |(refine gi (E _) ?_;split<;>first|trivial|(rename_i e;exact ro e h))
  |(refine gi (oper _ _ _ _ h) ?_;exact h)
  |exact oe (hlost _) λ_=>app _ _ _ _ _ h
  |(split;rename_i r es e;have I:=rtr e h;refine after ?_;split<;>first|trivial|exact I|exact app _ _ _ _ _ I)
def stepG (main listen:Bool)(g:Goroutine)(h:n<=w.drawn):G n (Go.stepG p main g w listen):=by
 unfold Go.stepG;split;split;exact die _ _ h;exact exec _ _ _ _ _ h;exact unwind _ _ _ _ h
def S (n:Nat):Stepped->Prop
 | .next m=>n<=m.world.drawn
 | .ended _ _=>True
def si {c:Prop}[Decidable c]{a b:Stepped}(E:S n a)(I:S n b):S n (if c then a else b):=by split<;>assumption
def si1 {α:Type}{c:Prop}[Decidable c]{a b:Stepped×α}(E:S n a.1)(I:S n b.1):S n (if c then a else b).1:=by split<;>assumption
def waitingAt {rest:Rest}{cs:Array CommCase}{w w':World}(h:Go.waitingAt rest cs w=some w'):w'.drawn=w.drawn:=by
 unfold Go.waitingAt at h;split at h;split at h;injection h with h;subst h;rfl
 cases h;injection h with h;subst h;rfl
def comm (rest:Rest)(gs:Array Goroutine)(i:Nat)(g:Goroutine)(cases:Array CommCase)(b:Bool)(sh:CommShape)(h:n<=w.drawn):S n (communicate p rest gs i g cases b sh w).1:=by
 unfold communicate;extract_lets put;refine si1 trivial ?_;extract_lets ready;refine si1 ?_ ?_;refine si1 ?_ h;split;rename_i e;show n<=World.drawn _;rw[waitingAt e];exact h;trivial;extract_lets pick;split;trivial;rename_i e;have h2:=ro e h;extract_lets r;split
 (split)
 rename_i E;exact rh E h2;trivial;exact h2;exact h2;extract_lets v buf;split;exact h2
 (split)
 rename_i I;have J:=ro I h2;exact J;trivial;exact h2;exact h2;trivial
def look (gs:Array Goroutine)(rest:Rest)(h:n<=w.drawn):S n (Go.look p gs rest w):=by
 unfold Go.look;split
 (split)
 extract_lets;refine si trivial ?_;extract_lets;split;trivial;extract_lets;split;rename_i e;have E:=ro e h;exact E;trivial;trivial;trivial
def drain (w:World)(c:Nat):(Go.drain w c).2.drawn=w.drawn:=by
 unfold Go.drain;split<;>rfl
def retime (m:Machine)(k:Nat)(t:Timer)(a b:Nat):(Go.retime m k t a b).2.world.drawn=m.world.drawn:=by
 unfold Go.retime;split;rename_i e;split at e;rename_i c _;have:=drain m.world c;rw[e]at this;exact this;injection e with _ e;subst e;rfl
def named (m:Machine)(v:Addr)(f:Nat->Timer->Value×Machine){d:Nat}(E: ∀k t,(f k t).2.world.drawn=d){r:Value×Machine}(e:timerOp.named m v f=.ok r):r.2.world.drawn=d:=by
 unfold timerOp.named at e;split at e;injection e with e;subst e;exact E _ _
 cases e
def opened {m m':Machine}{v:Addr}(e:timerOp.opened m v=some m'):m'.world.drawn=m.world.drawn:=by
 unfold timerOp.opened at e;split at e;split at e;injection e with e;subst e;rfl
 cases e;injection e with e;subst e;rfl
def timer (m:Machine)(op:TimerOp){r:Value×Machine}(e:timerOp m op=.ok r):r.2.world.drawn=m.world.drawn:=by
 unfold timerOp at e;split at e;split at e;injection e with e;subst e;rfl
 split at e;split at e;cases e;injection e with e;subst e;rfl
 cases e;exact named _ _ _ (λ_ _=>retime _ _ _ _ _) e;split at e;rename_i I E;exact(named _ _ _ (λ_ _=>retime _ _ _ _ _) e).trans (opened E);cases e;injection e with e;subst e;rfl
def commr {rest:Rest}{gs:Array Goroutine}{i:Nat}{g:Goroutine}{cases:Array CommCase}{b:Bool}{sh:CommShape}{r:Stepped}{ops:Array MemOp}(e:communicate p rest gs i g cases b sh w=(r,ops))(h:n<=w.drawn):S n r:=by have:=comm (p:=p) rest gs i g cases b sh h;rw[e]at this;exact this
def et1 {fr:Frame}{m:String}{g:GStep}(e:Go.endThrow fr m w=g)(h:n<=w.drawn):G n g:=e▸endThrow fr m h
def runM (m:Machine)(i:Nat)(listen:Bool)(h:n<=m.world.drawn):S n (Go.runT p m i listen).1:=by
 unfold Go.runT;extract_lets rest world;split;extract_lets wake fn pos s ops done;have I: ∀r,(done r).1=r:=λ_=>rfl;have E:G n s:=stepG _ _ _ h;clear_value s;split;trivial
 (split)
 rename_i e;exact commr e E;all_goals first|exact E|exact si trivial E|exact look _ _ E|skip
 rw[I];split;exact E
 (split)
 rename_i e;exact et1 e E;trivial;trivial;rw[I];split;rename_i e;have h2:=timer _ _ e;exact Wb E (Nat.le_of_eq h2.symm)
 (split)
 rename_i e;exact et1 e E;trivial;trivial;trivial
def serve (m:Machine)(k:Nat)(h:n<=m.world.drawn):S n (Go.serve p m k):=by
 unfold Go.serve;split;trivial;exact h;extract_lets;split;trivial;exact h
def M (n:Nat):Move->Prop
 | .goroutine m _=>n<=m.world.drawn
 | .machine s _=>S n s
def askOn (m:Machine)(h:n<=m.world.drawn):M n (Go.askOn p m):=by
 unfold Go.askOn;extract_lets mono rs ds pick;have hp: ∀m:Machine,n<=m.world.drawn->M n (pick m):=λm h=>by
  simp only[pick];split;trivial;rename_i e;have h2:=ro e h;split;exact h2
  (split)
  trivial;rename_i J;exact ro J h2
 clear_value pick;split;trivial;rename_i e;have h2:=ro e h;extract_lets N;clear_value rs;split;exact serve _ _ h2;cases rs with
 |nil=>
  dsimp only;split;exact h2
  (split)
  exact h2;split<;>trivial
 |cons a l=>
  dsimp only;split;exact hp _ h2
  (split)
  trivial;rename_i E;exact hp _ (ro E h2);rename_i E;have I:=ro E h2;exact I;rename_i E;have I:=ro E h2;exact hp _ I
def ask2 (m:Machine)(h:n<=m.world.drawn):M n (Go.ask p m):=by
 unfold Go.ask;split
 (split)
 trivial;rename_i e;have h2:=look (p:=p) m.gs m.rest (ro e h);split;rename_i E;rw[E]at h2;exact askOn _ h2;exact h2;rename_i e;exact askOn _ (ro e h);exact askOn _ h
def move (m:Machine)(h:n<=m.world.drawn):M n (Go.move p m):=by
 unfold Go.move;split
 (split)
 exact h;trivial
 (split)
 (split)
 exact h;exact ask2 _ h;exact ask2 _ h
def step (m:Machine)(h:n<=m.world.drawn):S n (Go.step p m):=by
 unfold Go.step stepT;have:=move (p:=p) m h;split;rename_i e;rw[e]at this;exact runM _ _ _ this;rename_i e;rw[e]at this;exact this
def runN: ∀(k:Nat) (m m':Machine),Go.runN p k m=.next m'->n<=m.world.drawn->n<=m'.world.drawn
 |0,m,m',e,h=>by injection e with e;subst e;exact h
 |k+1,m,m',e,h=>by
  have h1:=step (p:=p) m h;unfold Go.runN at e;split at e;rename_i E;rw[E]at h1;exact runN k _ _ e h1;rename_i h2;exact absurd e (h2 _)
def steps {m m':Machine}(h:Steps p m m'):m.world.drawn<=m'.world.drawn:=by
 obtain⟨k,hk⟩:=h;exact runN k m m' hk (Qr _)
def calls {f:FuncId}{args:Array Value}{w:World}{Q:Ending->World->Prop}(h:Calls p f args w Q):Calls p f args w λe w'=>Q e w'/\∀v,e=.returned v->w.drawn<=w'.drawn:=λcs=>by
 obtain⟨e,w',fr,hq,E,I,J⟩:=h cs;refine⟨e,w',fr,⟨hq,λv N=>?_⟩,E,I,J⟩;subst N;exact steps E
end Go.Dr
end
section
namespace Go.A
open Go.RowKit Go.Z Go.Shelf Go.Proofs Go.Sort
section
variable {α:Type}
def cl0 (cmp:α->α->Option Int)(x y:α):Bool:=match cmp x y with
 |some c=>decide (c<0)
 |none=>false
def srtI (lt:α->α->Bool)(x:α):List α->List α
 | []=>[x]
 |y::l=>bif lt y x then y::srtI lt x l else x::y::l
def srtL (lt:α->α->Bool):List α->List α
 | []=>[]
 |x::l=>srtI lt x (srtL lt l)
def ordB [DecidableEq α](cmp:α->α->Option Int)(xs:List α):Bool:=xs.all λx=>xs.all λy=>(cmp x y).isSome&&(bif cl0 cmp x y then !cl0 cmp y x else cl0 cmp y x||decide (x=y))&&xs.all λz=> !(cl0 cmp x y&&cl0 cmp y z)||cl0 cmp x z
def srtF [DecidableEq α](cmp:α->α->Option Int)(xs:List α):Option (List α):=if ordB cmp xs=true then some (srtL (cl0 cmp) xs)else none
structure OrdOn (lt:α->α->Bool) (X:List α):Prop where
 asym: ∀x∈X,∀y∈X,lt x y=true->lt y x=false
 tri: ∀x∈X,∀y∈X,lt x y=false->lt y x=false->x=y
 trans: ∀x∈X,∀y∈X,∀z∈X,lt x y=true->lt y z=true->lt x z=true
def OrdOn.nt {lt:α->α->Bool}{X:List α}(O:OrdOn lt X){x y z:α}(hx:x∈X)(E:y∈X)(N:z∈X)(h1:lt x y=false)(h2:lt y z=false):lt x z=false:=by
 cases I:lt x z with
 |false=>rfl
 |true=>
  cases J:lt y x with
  |true=>rw[O.trans y E x hx z N J I]at h2;cases h2
  |false=>
   have:=O.tri x hx y E h1 J;subst this;rw[I]at h2;cases h2
def ordB_on [DecidableEq α]{cmp:α->α->Option Int}{xs:List α}(h:ordB cmp xs=true):OrdOn (cl0 cmp) xs/\∀x∈xs,∀y∈xs,∃c,cmp x y=some c:=by
 unfold ordB at h;have key: ∀x∈xs,∀y∈xs,((cmp x y).isSome=true/\(bif cl0 cmp x y then !cl0 cmp y x else cl0 cmp y x||decide (x=y))=true)/\∀z∈xs,(!(cl0 cmp x y&&cl0 cmp y z)||cl0 cmp x z)=true:=λx hx y E=>by
  have:=Q5.1 (Q5.1 h x hx) y E;rw[Qd,Qd,Q5]at this;exact this
 refine⟨⟨λx hx y E h1=>?_,λx hx y E h1 h2=>?_,λx hx y E z I h1 h2=>?_⟩,λx hx y E=>Xt.1 (key x hx y E).1.1⟩;have:=(key x hx y E).1.2;rw[h1,cond_true,X0]at this;exact this;have:=(key x hx y E).1.2;rw[h1,h2,cond_false,Yi,Xp]at this;exact this;have:=(key x hx y E).2 z I;rw[h1,h2]at this;exact this
def Qfo (lt:α->α->Bool)(x:α): ∀l:List α,(srtI lt x l).Perm (x::l)
 | []=>List.Perm.refl _
 |y::l=>by
  unfold srtI;cases lt y x with
  |true=>exact((Qfo lt x l).cons y).trans (List.Perm.swap x y l)
  |false=>exact List.Perm.refl _
def srtL_perm (lt:α->α->Bool): ∀l:List α,(srtL lt l).Perm l
 | []=>List.Perm.refl _
 |x::l=>(Qfo lt x _).trans ((srtL_perm lt l).cons x)
def srtI_pw {lt:α->α->Bool}{X:List α}(O:OrdOn lt X){x:α}(hx:x∈X): ∀l:List α,(∀a∈l,a∈X)->l.Pairwise (λa b=>lt b a=false)->(srtI lt x l).Pairwise (λa b=>lt b a=false)
 | [],_,_=>List.pairwise_singleton ..
 |y::l,J,hp=>by
  have N:=J y (Qh ..);have I: ∀a∈l,a∈X:=λa W=>J a (Qf _ W);rw[Wa]at hp;unfold srtI;cases h:lt y x with
  |true=>
   refine Wa.2 ⟨λb E=>?_,srtI_pw O hx l I hp.2⟩;rcases Qn.1 ((Qfo lt x l).mem_iff.1 E)with rfl|E
   exact O.asym y N b hx h;exact hp.1 b E
  |false=>
   refine Wa.2 ⟨λb E=>?_,Wa.2 hp⟩;rcases Qn.1 E with rfl|E
   exact h;exact O.nt (I b E) N hx (hp.1 b E) h
def srtL_pw {lt:α->α->Bool}{X:List α}(O:OrdOn lt X): ∀l:List α,(∀a∈l,a∈X)->(srtL lt l).Pairwise (λa b=>lt b a=false)
 | [],_=>List.Pairwise.nil
 |x::l,E=>srtI_pw O (E x (Qh ..)) _ (λa I=>E a (Qf _ ((srtL_perm lt l).mem_iff.1 I))) (srtL_pw O l λa I=>E a (Qf _ I))
def srt_uniq {lt:α->α->Bool}{xs ys:List α}(O:OrdOn lt xs)(hp:ys.Perm xs)(E:ys.Pairwise (λa b=>lt b a=false)):ys=srtL lt xs:=
 List.Perm.eq_of_pairwise (le:=λa b=>lt b a=false) (λa b I J h1 h2=>O.tri a (hp.mem_iff.1 I) b ((srtL_perm lt xs).mem_iff.1 J) h2 h1) E (srtL_pw O xs λa h=>h) (hp.trans (srtL_perm lt xs).symm)
end
def Qkt: ∀{t:Ty},t.flat=true->lv t=0
 | .int _,_=>rfl
 | .byte,_=>rfl
 | .bool,_=>rfl
 | .str,_=>rfl
 | .slice _,h=>by cases h
 | .pair a b,h=>by
  simp only[Ty.flat,Qd]at h;show lv a+lv b=0;rw[Qkt h.1,Qkt h.2]
def cl_len: ∀{t:Ty} (x:t.den) (ps:Lf),t.flat=true->(cl t x ps).length=t.size
 | .int _,_,_,_=>rfl
 | .byte,_,_,_=>rfl
 | .bool,_,_,_=>rfl
 | .str,_,_,_=>rfl
 | .slice _,_,_,h=>by cases h
 | .pair a b,x,ps,h=>by
  simp only[Ty.flat,Qd]at h;show(cl a x.1 _++cl b x.2 _).length=a.size+b.size;rw[Qz,cl_len x.1 _ h.1,cl_len x.2 _ h.2]
def cl_one: ∀{t:Ty} (x:t.den) (ps:Lf),t.flat=true->∀v∈cl t x ps,v.oneCell'=true
 | .int _,_,_,_,v,E=>by obtain rfl:=Qq.1 E;rfl
 | .byte,_,_,_,v,E=>by obtain rfl:=Qq.1 E;rfl
 | .bool,_,_,_,v,E=>by obtain rfl:=Qq.1 E;rfl
 | .str,_,_,_,v,E=>by obtain rfl:=Qq.1 E;rfl
 | .slice _,_,_,h,_,_=>by cases h
 | .pair a b,x,ps,h,v,E=>by
  simp only[Ty.flat,Qd]at h;rcases Q8.1 (show v∈cl a x.1 _++cl b x.2 _ from E)with E|E
  exact cl_one x.1 _ h.1 v E;exact cl_one x.2 _ h.2 v E
def rep_cl0 {t:Ty}(E:t.flat=true){w:World}{F:Nat->Prop}{cs:QL}{x:t.den}(h:t.rep w F cs x):cs=cl t x []:=by
 obtain⟨ps,hp,I,_⟩:=rep_cl (B:=λ_ _=>False) t h;rw[Qkt E]at hp;obtain rfl:=Wz hp;exact I
def ch_grow {W w':World}(h:Ch [] W w')(E:W.drawn<=w'.drawn): ∃q os',w'=grow (W.drewN q) os':=by
 refine⟨w'.drawn-W.drawn,w'.heap.extract W.heap.size w'.heap.size,?_⟩;obtain⟨h1,h2,I,h4,J⟩:=h;obtain⟨heap',tape',drawn',os',output'⟩:=w';obtain⟨heap,tape,drawn,os,output⟩:=W;simp only at h1 h2 I h4 J E;subst h1;subst h2;subst I;have e:heap'=heap++heap'.extract heap.size heap'.size:=by
  refine Array.ext_getElem? λi=>?_;by_cases N:i<heap.size;rw[J i N (by simp),Xr N];rw[Array.getElem?_append_right (by omega),Array.getElem?_extract];split;congr 1;omega;rw[Yp (by omega)]
 show World.mk heap' tape' drawn' os' output'=World.mk (heap++heap'.extract heap.size heap'.size) tape' (drawn+(drawn'-drawn)) os' output';rw[<-e,Nat.add_sub_cancel' E]
def Hp.none (W:World)(F:Nat->Prop):Hp ⟨0,[],W,[],F⟩ [] W:=⟨Ch.refl _,λk r h=>(by cases h),λk b ⟨_,h,_⟩=>(by cases h),λk k' b ⟨_,h,_⟩=>(by cases h),λk r j h=>(by cases h)⟩
def Ct.cmp {P:QR}{g:Nat}{vs:QL}{c:Int}{R:Value->QJ->Prop}(h:Ct P g vs [] [] R)(I: ∀v H',R v H'->v=.int .i64 c)(W:World):Calls P g vs.toArray W λe w'=>e=.returned (.int .i64 c)/\∃q os',w'=grow (W.drewN q) os':=
 (Dr.calls (h W (λ_=>False) (Hp.none W _))).mono λe w' ⟨⟨v,H',E,J,N⟩,hd⟩=>⟨by rw[E,I v H' J],ch_grow N.ch (hd v E)⟩
def flat_get {α:Type}[Inhabited α](enc:α->QL)(k:Nat)(d:Array α){i j:Nat}{x:α}(hx:d[i]?=some x)(W:j<k):i*k+j<d.size*k/\(flatK enc k d)[i*k+j]! =(enc x)[j]! :=by
 obtain⟨E,J⟩:=Qv.1 hx;have lt:i*k+j<d.size*k:=by
  have:=Wr k (show i+1<=d.size from E);rw[Xq,Y5]at this;omega
 have I:(i*k+j) / k=i:=(blk_iff k i _ (by omega)).1 ⟨by omega,by omega⟩;have N:(i*k+j)%k=j:=by rw[Nat.mod_eq_sub_div_mul,I];omega
 refine⟨lt,?_⟩;rw[get_flatK _ _ _ _ lt,I,N,getElem!_pos d i E,J]
def lgetb {l:QL}{j:Nat}(h:j<l.length):l[j]?=some l[j]! :=by rw[Qj h,getElem!_pos l j h]
def put_id (d:Array Value)(c:Array Value)(j:Nat):(putCells id 0 d c)[j]?=(c[j]?).map λx=>if j<d.size then d[j]! else x:=by
 unfold putCells;rw[Array.getElem?_mapIdx];congr 1;funext x;simp
def Ct.sortF {P:QR}{ρ:Ren}{f:Nat}(L:SlLaysF0.n6 P ρ)(hf:ρ.f 6=f){t:Ty}[DecidableEq t.den]{e:QQ}(ht:t.flat=true)
  (aE: ∀w,(isAgg (ρ.t 24)).run P w=.ok true w) (zE: ∀w,(Go.sizeOf (ρ.t 24)).run P w=.ok t.size w) (A:QK) (c:Nat) (g:Nat) (cmp:t.den->t.den->Option Int)
  (eg: ∀args w,(callFunc g args).run P w=.ok (.enter g args) w)
  (hc: ∀x y r,t.ok x->t.ok y->cmp x y=some r->∃R,Ct P g [.agg (cl t x []).toArray,.agg (cl t y []).toArray] [] [] R/\∀v H',R v H'->v=.int .i64 r)
  (xs r:List t.den) (hm:xs.length<4611686018427387904) (hr:srtF cmp xs=some r):
  Ct P f [.slice A xs.length c,.func (.func g) #[] #[]] [(0,.own t e A c xs)] (obl A) (λv H'=>v=.tuple #[]/\H'=[(0,.own t e A c r)]/\r.length=xs.length):=λw F hh=>by
 subst hf;obtain⟨hord,hr⟩:ordB cmp xs=true/\srtL (cl0 cmp) xs=r:=by
  unfold srtF at hr;split at hr;rename_i h;exact⟨h,Xg hr⟩;cases hr
 obtain⟨O,tot⟩:=ordB_on hord;have hlen:r.length=xs.length:=by rw[<-hr];exact(srtL_perm (cl0 cmp) xs).length_eq
 obtain⟨cells,hrow,h1,h2⟩:Own t e 0 w (Fh ⟨0,[],w,obl A,F⟩ [(0,.own t e A c xs)]) A c xs:=hh.hold 0 _ rfl;have hok: ∀x∈xs,t.ok x:=λx hx=>by
  obtain⟨i,N⟩:=Xw hx;exact rep_ok t (h2 i x N)
 by_cases hx0:xs=[];subst hx0;obtain rfl:r=[]:=by rw[<-hr];rfl
 refine(AnyF.slices_SortFunc_none L A c _ w).mono ?_;rintro e' w' ⟨rfl,rfl⟩;exact⟨_,_,rfl,⟨rfl,rfl,rfl⟩,hh⟩;rcases hrow.2 with⟨hv,hn⟩|⟨b,cap,cur,hv,hb,hg,hnc,hcm,hcs,htake⟩
 exact absurd (Wz hn) hx0;injection hv with hA _ hcap
 subst hA;subst hcap;have hglt:b<w.heap.size:=(Qv.1 hg).1;have hk:=Qax t;have hbound: ∀{n i j:Nat},i<n->j<t.size->i*t.size+j<n*t.size:=λ{n i j} N I=>by
  have:=Wr t.size (show i+1<=n from N);rw[Xq,Y5]at this;omega
 have hcell: ∀i x,xs[i]?=some x->∀j,j<t.size->cur[i*t.size+j]?=(cl t x [])[j]?:=λi x hx j I=>by
  have E:=rep_cl0 ht (h2 i x hx);have N:=(Qe.1 hx).1;rw[<-E,Wt I,Wj,<-htake,W8,Qc (hbound N I)];simp
 haveI:Inhabited {x // x∈xs}:=⟨⟨xs.head hx0,List.head_mem hx0⟩⟩;let enc:{x // x∈xs}->QL:=λx=>cl t x.1 [];have he: ∀x,(enc x).length=t.size:=λx=>cl_len x.1 [] ht;let cf:{x // x∈xs}->{x // x∈xs}->Int:=λx y=>(cmp x.1 y.1).getD 0;have hlt: ∀x y,ltOf cf x y=cl0 cmp x.1 y.1:=λx y=>by
  obtain⟨c0,h0⟩:=tot x.1 x.2 y.1 y.2;show decide ((cmp x.1 y.1).getD 0<0)=_;unfold cl0;rw[h0];rfl
 have hO:SWO (ltOf cf):=by
  refine⟨λx=>?_,λx y z E J=>?_,λx y z E J=>?_⟩;rw[hlt];cases E:cl0 cmp x.1 x.1 with
  |false=>rfl
  |true=>rw[O.asym _ x.2 _ x.2 E]at E;cases E
  rw[hlt]at E J ⊢;exact O.trans _ x.2 _ y.2 _ z.2 E J;rw[hlt]at E J ⊢;exact O.nt x.2 y.2 z.2 E J
 obtain⟨d,hd⟩: ∃d:Array {x // x∈xs},d=xs.attach.toArray:=⟨_,rfl⟩;have hds:d.size=xs.length:=by rw[hd];simp
 have hdg: ∀(i:Nat) (x:{x // x∈xs}),d[i]?=some x->xs[i]?=some x.1:=λi x hx=>by
  rw[hd,Wv]at hx;have:=Wq (Option.map Subtype.val) hx;rw[<-Q0,List.attach_map_subtype_val]at this;exact this
 have hH:HoldsK enc t.size w b 0 d:=λj I=>by
  rw[size_flatK]at I;have N:j / t.size<d.size:=Nat.div_lt_of_lt_mul (by rwa[Nat.mul_comm]at I);have hu:=Nat.mod_lt j hk;have hje:j / t.size*t.size+j%t.size=j:=Nat.div_add_mod' j t.size;have hx:d[j / t.size]?=some d[j / t.size]:=Wg N;obtain⟨_,J⟩:=flat_get enc t.size d hx hu;rw[hje]at J;have h5:=hcell _ _ (hdg _ _ hx) _ hu;rw[hje]at h5;refine⟨?_,by simp[World.frozen?,hg]⟩;rw[Wl,cell_of_row w b j cur e (0,0) hg,h5,J];have hl:j%t.size<(enc d[j / t.size]).length:=by rw[he];exact hu
  have e9:(enc d[j / t.size])[j%t.size]?=some ((enc d[j / t.size])[j%t.size]!):=lgetb hl;exact e9
 have hcl:CmpLays P g #[] enc t.size cf b 0 d.size w:=λm os dk _ x y=>by
  obtain⟨c0,h0⟩:=tot x.1 x.2 y.1 y.2;obtain⟨R,E,J⟩:=hc x.1 y.1 c0 (hok _ x.2) (hok _ y.2) h0;have:cf x y=c0:=by show(cmp x.1 y.1).getD 0=c0;rw[h0];rfl
  rw[this];exact Ct.cmp E J _
 have key:=AnyQ.slices_SortFunc L t.size aE zE enc he (λx v hv=>cl_one x.1 [] ht v hv) cf hO g #[] b 0 c d w eg hcl hH hglt (by rw[hds];exact hm);rw[hds]at key;refine key.mono ?_;rintro e' w' ⟨rfl,d',n,os,hp,hs,rfl⟩;clear key;obtain⟨hsz,_,hperm⟩:=hp;have hsz2:d'.size=xs.length:=hsz.trans hds;have hys:d'.toList.map Subtype.val=r:=by
  rw[<-hr];refine srt_uniq O ?_ ?_;have E:d'.toList.Perm d.toList:=by
   have e1:d'.extract 0 xs.length=d':=by rw[<-hsz2];exact Array.extract_size
   have e2:d.extract 0 xs.length=d:=by rw[<-hds];exact Array.extract_size
   rw[e1,e2]at hperm;exact hperm
  have J:=E.map Subtype.val;rw[hd]at J;have h5:xs.attach.toArray.toList.map Subtype.val=xs:=List.attach_map_subtype_val xs;rw[h5]at J;exact J;refine Jm.2 λi j N I hij=>?_;rw[W6,Yo]at N I;have E:=hs i j (Ya _) hij (by omega);rw[hlt,getElem!_pos d' j (by omega),getElem!_pos d' i (by omega)]at E;simpa using E
 have hrg: ∀(i:Nat) (x:t.den),r[i]?=some x->∃y,d'[i]?=some y/\y.1=x:=λi x hx=>by
  rw[<-hys,Q0,Wi]at hx;obtain⟨y,E,J⟩:=Jy.1 hx;exact⟨y,E,J⟩
 generalize hcd:putCells id 0 (flatK enc t.size d') cur=cur';have hheap:(sortWorldK enc t.size w b 0 n d' os).heap[b]?=some (.cells cur' e (0,0)):=by
  show((w.heap.modify b (onCells (putCells id 0 (flatK enc t.size d'))))++os)[b]?=_;rw[Xr (by simpa using hglt),Y9,Qc rfl,hg];simp only[Wo,onCells,hcd]
 have hch:Ch [b] w (sortWorldK enc t.size w b 0 n d' os):=by
  refine⟨rfl,rfl,rfl,?_,λk hk hn2=>?_⟩;show w.heap.size<=((w.heap.modify b (onCells (putCells id 0 (flatK enc t.size d'))))++os).size;simp;show((w.heap.modify b (onCells (putCells id 0 (flatK enc t.size d'))))++os)[k]?=_;rw[Xr (by simpa using hk),Y9,Qb (λe=>hn2 (Qq.2 e.symm))]
 have hcs':cur'.size=cur.size:=by rw[<-hcd];simp[putCells]
 have hnk:xs.length*t.size<=cur.size:=by rw[hcs];exact Wr _ hnc
 have hget: ∀(i:Nat) (y:{x // x∈xs}),d'[i]?=some y->∀j,j<t.size->cur'[i*t.size+j]?=(cl t y.1 [])[j]?:=λi y hy j I=>by
  have N:=(Qv.1 hy).1;obtain⟨E,J⟩:=flat_get enc t.size d' hy I;have W:i*t.size+j<cur.size:=Qw (hbound (by omega) I) hnk;rw[<-hcd,put_id,Wg W,Wo,Qc (by rw[size_flatK];exact E),J];have hl:j<(enc y).length:=by rw[he];exact I
  show some (enc y)[j]! =(enc y)[j]?;exact(lgetb hl).symm
 have hown: ∀F':Nat->Prop,Own t e 0 (sortWorldK enc t.size w b 0 n d' os) F' (some ⟨b,0,none⟩) c r:=λF'=>by
  refine⟨cur'.toList.take (r.length*t.size),⟨?_,.inr ⟨b,c,cur',rfl,Ya _,hheap,by omega,hcm,by rw[hcs',hcs],rfl⟩⟩,λu hu=>?_,λi x hx=>?_⟩;rw[Qx,Yo (xs:=cur'),hlen,hcs'];omega;obtain⟨j,I,rfl⟩:=Yn hu;rw[Qx]at I;have hj2:j<r.length*t.size:=by omega
  have hje:j / t.size*t.size+j%t.size=j:=Nat.div_add_mod' j t.size;have N:j / t.size<d'.size:=by rw[hsz2,<-hlen];exact Nat.div_lt_of_lt_mul (by rwa[Nat.mul_comm]at hj2)
  have E:=hget _ _ (Wg N) _ (Nat.mod_lt j hk);rw[hje]at E;rw[List.getElem_take];have hjc:j<cur'.size:=by have:=I;rw[Yo (xs:=cur')]at this;omega
  rw[Wg hjc]at E;rw[Array.getElem_toList];exact cl_one _ [] ht _ (Qu E.symm);obtain⟨y,hy,rfl⟩:=hrg i x hx;have N:=(Qe.1 hx).1;have e1:((cur'.toList.take (r.length*t.size)).drop (i*t.size)).take t.size=cl t y.1 []:=by
   refine Xf λj=>?_;by_cases I:j<t.size;rw[Wt I,Wj,W8,Qc (hbound N I),Wi];exact hget i y hy j I;rw[Wh (by rw[Qx];omega),Wh (by rw[cl_len _ _ ht];omega)]
  rw[e1];obtain⟨i0,hi0⟩:=Xw y.2;have E:=h2 i0 y.1 hi0;rw[rep_cl0 ht E]at E;exact rep_flat t ht (rep_to (F':=no) (rep_flat (F':=no) t ht E) hch (λ_ h _=>h.elim))
 refine⟨_,[(0,.own t e (some ⟨b,0,none⟩) c r)],rfl,⟨rfl,rfl,hlen⟩,?_⟩;have E:=Hp.ren (Hp.upd (k:=0) (r':=.own t e (some ⟨b,0,none⟩) c r) hh hch (λk W=>⟨_,rfl,W⟩) (λk W=>.inl ⟨_,rfl,W⟩) (λj I=>by cases I) λF' B _ _ _ _ _=>hown _) [(0,0)] rfl rfl;exact⟨E.ch,E.hold,E.bnd,E.dis,E.ref⟩
end Go.A
end
section
namespace Go.A
open Go.RowKit Go.Z Go.Shelf Go.Proofs
def has_zero (k:IntKind):k.has 0:=by cases k<;>exact(by decide)
def has_mid {k:IntKind}{a x:Int}(h:k.has a)(h1:0<=x/\x<=a\/a<=x/\x<=0):k.has x:=by
 have h0:=has_zero k;exact⟨by have:=h.1;have:=h0.1;omega,by have:=h.2;have:=h0.2;omega⟩
def tmod_has {k:IntKind}{a b:Int}(h:k.has a):k.has (Int.tmod a b):=by
 refine has_mid h ?_;have h1:=Int.natAbs_tmod a b;have h2:=Nat.mod_le a.natAbs b.natAbs;rcases Int.le_total 0 a with E|E
 have:=Vc b E;exact .inl ⟨this,by omega⟩;have I:Int.tmod a b= -Int.tmod (-a) b:=by rw[Int.neg_tmod,Int.neg_neg]
 have:=Vc b (a:= -a) (by omega);exact .inr ⟨by omega,by omega⟩
def cmpb_has: ∀a b:List UInt8,IntKind.i64.has (Lib.compareBytes a b)
 | [],[]=>by unfold Lib.compareBytes;decide
 | [],_::_=>by unfold Lib.compareBytes;decide
 |_::_,[]=>by unfold Lib.compareBytes;decide
 |x::a,y::b=>by
  unfold Lib.compareBytes;have:=cmpb_has a b;repeat' split
  all_goals first|assumption|decide
def Ct.scmp {P:QR}{ρ:Ren}{f:Nat}(L:Lays.n106 P ρ)(I:ρ.f 106=f)(a b:ByteArray)(r:Int)(E:some (Lib.compareBytes a.data.toList b.data.toList)=some r):
  Ct P f [.string a,.string b] [] [] (λv H'=>v=.int .i64 r/\H'=[]/\IntKind.i64.has r):=λw F J=>by
 subst I;have E:=Xg E;subst E;refine(Any.strings_Compare L a b w).mono ?_;rintro e w' ⟨rfl,rfl⟩;exact⟨_,[],rfl,⟨rfl,rfl,cmpb_has _ _⟩,Ch.refl _,λk r h=>(by cases h),λk b ⟨_,h,_⟩=>(by cases h),λk k' b ⟨_,h,_⟩=>(by cases h),λk r j h=>(by cases h)⟩
def dem {α β:Type}[DecidableEq β](m:List α)(sn:QM)(e:Option β)(g:Nat->α->Option β):Option β:=
 match(List.range m.length).filter (λi=> !(sn.contains i))with
 | []=>e
 |i::js=>(m[i]?).bind λp=>if(js.all λj=>decide (((m[j]?).bind λq=>g j q)=g i p))=true then g i p else none
def dem_some {α β:Type}[DecidableEq β]{m:List α}{sn:QM}{e:Option β}{g:Nat->α->Option β}{r:β}(h:dem m sn e g=some r):
  ((∀i,i<m.length->i∈sn)->e=some r)/\∀i p,m[i]?=some p->i∉sn->g i p=some r:=by
 have hmem: ∀i,i∈(List.range m.length).filter (λi=> !(sn.contains i))↔i<m.length/\i∉sn:=λi=>by
  rw[Vd,Yj];simp
 unfold dem at h;split at h;rename_i I;rw[I]at hmem;exact⟨λ_=>h,λi p hp J=>absurd ((hmem i).2 ⟨(Qe.1 hp).1,J⟩) (by simp)⟩;rename_i i js I;rw[I]at hmem;have E:=(hmem i).1 (Qh ..);refine⟨λhall=>absurd (hall i E.1) E.2,λj q hq J=>?_⟩;rw[Qj E.1,Qa]at h;split at h;rename_i hall;rcases Qn.1 ((hmem j).2 ⟨(Qe.1 hq).1,J⟩)with rfl|N
 rw[Qj E.1]at hq;obtain rfl:=Xg hq;exact h;have:=Q7 (Q5.1 hall j N);rw[hq,Qa]at this;rw[this];exact h;cases h
section
variable {r:QN}{P:QR}{Q:QG}{C:Cx}{l:QI}{H:QJ}{ops:QU}{rest:QT}{T:QQ}{pos:String}{af:Array Edge}{d:Nat}
def r_slh {a:Act}{w:World}{tt:QQ}{x I:Operand}{s:ByteArray}{J:IntKind}{q:Int}(N:P.underlying tt=some .string)(hx:a.eval x=.string s)(E:a.eval I=.int J q)(h0:0<=q)(h1:q<=s.size):
  (execOp a.eval ⟨some d,.slice tt x none (some I) none,T,pos,af,none⟩).run P w=.ok (.value (.string (s.extract 0 q.toNat))) w:=by
 simp[execOp,Instr.sliceAt,Ql N,hx,E,run_slice_string_h w tt s N J q h0 h1]
def AL.slh {tt:QQ}{x I:Operand}{s:ByteArray}{N:IntKind}{q:Int}(hq:0<=q/\q<=s.size)(h:AL r P ops Q rest C ((d,.string (s.extract 0 q.toNat))::l) H)(hx:ev l x=some (.string s):=by rfl)(E:ev l I=some (.int N q):=by rfl)(W:P.underlying tt=some .string:=by rfl)(hd:Nat.ble (d+1) C.n=true:=by rfl):
  AL r P ops Q (⟨some d,.slice tt x none (some I) none,T,pos,af,none⟩::rest) C l H:=
 AL.val hd (λa w J _=>r_slh W (J.eval hx) (J.eval E) hq.1 hq.2) h
def r_slb {a:Act}{w:World}{tt:QQ}{x lo J:Operand}{s:ByteArray}{N W:IntKind}{p q:Int}(ht:P.underlying tt=some .string)(hx:a.eval x=.string s)(E:a.eval lo=.int N p)(I:a.eval J=.int W q)(h0:0<=p)(h1:p<=q)(h2:q<=s.size):
  (execOp a.eval ⟨some d,.slice tt x (some lo) (some J) none,T,pos,af,none⟩).run P w=.ok (.value (.string (s.extract p.toNat q.toNat))) w:=by
 have:=run_slice_string tt s N W p q ht h0 h1 h2 (P:=P) (w:=w);simp[execOp,Instr.sliceAt,Ql ht,hx,E,I,this]
def AL.slb {tt:QQ}{x lo N:Operand}{s:ByteArray}{W k2:IntKind}{p q:Int}(hq:0<=p/\p<=q/\q<=s.size)(h:AL r P ops Q rest C ((d,.string (s.extract p.toNat q.toNat))::l) H)(hx:ev l x=some (.string s):=by rfl)(E:ev l lo=some (.int W p):=by rfl)(I:ev l N=some (.int k2 q):=by rfl)(ht:P.underlying tt=some .string:=by rfl)(hd:Nat.ble (d+1) C.n=true:=by rfl):
  AL r P ops Q (⟨some d,.slice tt x (some lo) (some N) none,T,pos,af,none⟩::rest) C l H:=
 AL.val hd (λa w J _=>r_slb ht (J.eval hx) (J.eval E) (J.eval I) hq.1 hq.2.1 hq.2.2) h
def ext_le {s:ByteArray}{i j:Nat}(h:s.size<=maxLen):(s.extract i j).size<=maxLen:=by
 rw[ByteArray.size_extract];omega
end
end Go.A
end
section
namespace Go.Proofs.YtligcbdjiolamaaGreatDoor
open Go.RowKit Go.Shelf Go.Lib
abbrev l4a:QL:=[A.i 0,A.i 0,QA,A.i 0,A.i 0,.string (QE),.string (QE),A.i 0,A.i 0]
abbrev l4b:QL:=A.zz8
abbrev l4c:QM:=[0,1,2,3,4,5,6]
abbrev l4d:QM:=[0,1,2,3,138,139,140,141]
abbrev l4e:QM:=[0,1,2,3,4,64,65,72]
abbrev l4f:QL:=[A.i 0,A.i 0,.string (QE),A.i 0]
abbrev l4g:QM:=[0,1,2,3,4,64,65]
abbrev l4h:QM:=[0,1,2,3,138,139,140]
abbrev l4i:QM:=[0,1,2,3,4,5,6,7]
abbrev l4j:QM:=[0,1,3,4,5,6,112,113]
abbrev l4k:QL:=[A.i 0]
abbrev l4l:QM:=[0,1]
def Tryz.laysSortFunc32_ren:Go.Shelf.Ren:=⟨λ|6=>32|15=>57|14=>56|28=>105|29=>106|20=>97|21=>98|22=>99|23=>100|24=>101|25=>102|26=>103|27=>104|46=>142|47=>143|48=>144|49=>145|50=>146|57=>171|n=>n,λ|22=>25|24=>59|25=>85|3=>3|39=>110|0=>0|53=>174|55=>98|4=>4|46=>167|45=>166|50=>171|5=>5|9=>9|66=>230|70=>234|76=>258|77=>217|n=>n,λ|n=>n⟩
def Tryz.laysSortFunc32:Go.Proofs.SlLaysF0.n6 Tryz.prog Tryz.laysSortFunc32_ren where
 mixed:=by kernel_rfl
 f6:=⟨"slices.SortFunc[[]rivulet/api.Entry,rivulet/api.Entry]",by decide,Tryz.func32.trans (Wq some (by kernel_rfl))⟩;f14:=⟨"slices.pdqsortCmpFunc[rivulet/api.Entry]",by decide,Tryz.func56.trans (Wq some (by kernel_rfl))⟩;f15:=Tryz.func57.trans (Wq some (by kernel_rfl));f20:=⟨"slices.insertionSortCmpFunc[rivulet/api.Entry]",by decide,Tryz.func97.trans (Wq some (by kernel_rfl))⟩;f21:=⟨"slices.heapSortCmpFunc[rivulet/api.Entry]",by decide,Tryz.func98.trans (Wq some (by kernel_rfl))⟩;f22:=⟨"slices.breakPatternsCmpFunc[rivulet/api.Entry]",by decide,Tryz.func99.trans (Wq some (by kernel_rfl))⟩;f23:=⟨"slices.choosePivotCmpFunc[rivulet/api.Entry]",by decide,Tryz.func100.trans (Wq some (by kernel_rfl))⟩;f24:=⟨"slices.reverseRangeCmpFunc[rivulet/api.Entry]",by decide,Tryz.func101.trans (Wq some (by kernel_rfl))⟩;f25:=⟨"slices.partialInsertionSortCmpFunc[rivulet/api.Entry]",by decide,Tryz.func102.trans (Wq some (by kernel_rfl))⟩;f26:=⟨"slices.partitionEqualCmpFunc[rivulet/api.Entry]",by decide,Tryz.func103.trans (Wq some (by kernel_rfl))⟩;f27:=⟨"slices.partitionCmpFunc[rivulet/api.Entry]",by decide,Tryz.func104.trans (Wq some (by kernel_rfl))⟩;f28:=Tryz.func105.trans (Wq some (by kernel_rfl));f29:=Tryz.func106.trans (Wq some (by kernel_rfl));f46:=⟨"slices.siftDownCmpFunc[rivulet/api.Entry]",by decide,Tryz.func142.trans (Wq some (by kernel_rfl))⟩;f47:=Tryz.func143.trans (Wq some (by kernel_rfl));f48:=Tryz.func144.trans (Wq some (by kernel_rfl));f49:=⟨"slices.medianAdjacentCmpFunc[rivulet/api.Entry]",by decide,Tryz.func145.trans (Wq some (by kernel_rfl))⟩;f50:=⟨"slices.medianCmpFunc[rivulet/api.Entry]",by decide,Tryz.func146.trans (Wq some (by kernel_rfl))⟩;f57:=⟨"slices.order2CmpFunc[rivulet/api.Entry]",by decide,Tryz.func171.trans (Wq some (by kernel_rfl))⟩;t0:=Tryz.underlying0;a0:=Tryz.isAgg0;z0:=Tryz.sizeOf0;v0:=Tryz.zeroValue0;t3:=Tryz.underlying3;a3:=Tryz.isAgg3;z3:=Tryz.sizeOf3;v3:=Tryz.zeroValue3;t4:=Tryz.underlying4;a4:=Tryz.isAgg4;z4:=Tryz.sizeOf4;v4:=Tryz.zeroValue4;t5:=Tryz.underlying5;a5:=Tryz.isAgg5;z5:=Tryz.sizeOf5;v5:=Tryz.zeroValue5;t9:=Tryz.underlying9;a9:=Tryz.isAgg9;z9:=Tryz.sizeOf9;v9:=Tryz.zeroValue9;t22:=Tryz.underlying25;a22:=Tryz.isAgg25;z22:=Tryz.sizeOf25;v22:=Tryz.zeroValue25;t25:=Tryz.underlying85;a25:=Tryz.isAgg85;z25:=Tryz.sizeOf85;v25:=Tryz.zeroValue85;t39:=Tryz.underlying110;a39:=Tryz.isAgg110;z39:=Tryz.sizeOf110;v39:=Tryz.zeroValue110;t45:=Tryz.underlying166;a45:=Tryz.isAgg166;z45:=Tryz.sizeOf166;v45:=Tryz.zeroValue166;t46:=Tryz.underlying167;a46:=Tryz.isAgg167;z46:=Tryz.sizeOf167;v46:=Tryz.zeroValue167;t50:=Tryz.underlying171;a50:=Tryz.isAgg171;z50:=Tryz.sizeOf171;v50:=Tryz.zeroValue171;t53:=Tryz.underlying174;a53:=Tryz.isAgg174;z53:=Tryz.sizeOf174;v53:=Tryz.zeroValue174;t55:=Tryz.underlying98;a55:=Tryz.isAgg98;z55:=Tryz.sizeOf98;v55:=Tryz.zeroValue98;t66:=Tryz.underlying230;a66:=Tryz.isAgg230;z66:=Tryz.sizeOf230;v66:=Tryz.zeroValue230;t70:=Tryz.underlying234;a70:=Tryz.isAgg234;z70:=Tryz.sizeOf234;v70:=Tryz.zeroValue234;t76:=Tryz.underlying258;a76:=Tryz.isAgg258;z76:=Tryz.sizeOf258;v76:=Tryz.zeroValue258;t77:=Tryz.underlying217;a77:=Tryz.isAgg217;z77:=Tryz.sizeOf217;v77:=Tryz.zeroValue217
def Tryz.laysCompare_ren:Go.Shelf.Ren:=⟨λ|106=>96|213=>141|265=>170|n=>n,λ|9=>9|3=>3|n=>n,λ|n=>n⟩
def Tryz.laysCompare:Go.Proofs.Lays.n106 Tryz.prog Tryz.laysCompare_ren where
 mixed:=by kernel_rfl
 f106:=Tryz.func96.trans (Wq some (by kernel_rfl));f213:=Tryz.func141.trans (Wq some (by kernel_rfl));f265:=Tryz.func170.trans (Wq some (by kernel_rfl));t3:=Tryz.underlying3;a3:=Tryz.isAgg3;z3:=Tryz.sizeOf3;v3:=Tryz.zeroValue3;t9:=Tryz.underlying9;a9:=Tryz.isAgg9;z9:=Tryz.sizeOf9;v9:=Tryz.zeroValue9
def F.cK (e f:ByteArray):Option Int:=some (Lib.compareBytes e.data.toList f.data.toList)
theorem o_aK (e f:ByteArray)(h0:e.size<=maxLen)(h1:f.size<=maxLen)(r:Int)(h:F.cK e f=some r):
  A.Ct Tryz.prog 96 [.string e,.string f] [] [] (λv H'=>v=A.i r/\H'=[]/\A.h6 r):=
 A.Ct.scmp Tryz.laysCompare rfl e f r h
end Go.Proofs.YtligcbdjiolamaaGreatDoor
end
section
namespace Go.Proofs.YtligcbdjiolamaaGreatDoor
open Go.RowKit
variable(A0_ A1_ A2_ A3_ A4_ A5_ A7_ A9_ A10_ A11_ A12_ A13_ A15_ A17_ A19_ A21_ A23_ A25_ A27_ A29_ A31_:QK)(g0_ b1_ c1_ c2_ g2_ c3_ b4_ c4_ b5_ c5_ b6_ c6_ c8_ c10_ g10_ c11_ c12_ c13_ c14_ c16_ c18_ c20_ c22_ c24_ c26_ c28_ c30_ c32_:Nat)
def F.cp (h:(List D48)):Nat->Int->Int->Option Bool
 |0,_,_=>none
 |f+1,k,o=>if o<((List.take ((min (h.length:Int) 99).toNat) h).length:Int)then((A.ix (List.take ((min (h.length:Int) 99).toNat) h) o).bind λe=>(A.gd (Z.R64 (k+(min (e.2.2.1.length:Int) 1048576))/\Z.R64 ((k+(min (e.2.2.1.length:Int) 1048576))+(min (e.2.2.2.2.1.size:Int) 1048576))/\Z.R64 (((k+(min (e.2.2.1.length:Int) 1048576))+(min (e.2.2.2.2.1.size:Int) 1048576))+(min (e.2.2.2.1.2.2.size:Int) 1048576))) (A.gd (Z.R64 (o+1)) ((F.cp h f) (min (((k+(min (e.2.2.1.length:Int) 1048576))+(min (e.2.2.2.2.1.size:Int) 1048576))+(min (e.2.2.2.1.2.2.size:Int) 1048576)) 1048576) (o+1)))))else(some (bif decide ((h.length:Int)<=18)then decide (k<=2000)else false))
def F.d3 (e:(List D48)):Option Bool:=A.gd (0<=min (e.length:Int) 99/\(min (e.length:Int) 99).toNat<=e.length) (F.cp e A.FU 0 0)
theorem o_cM(o:(List D48))(r:Bool)(h:F.d3 o=some r):
    A.Ct Tryz.prog 7 [.slice A0_ o.length c1_] [(0,.sh (.slice T48) [.slice A0_ o.length c1_] o)] [] (λv H'=>v=.bool r/\H'=[]):=by
 refine Vh Tryz.func7 rfl Tryz.ntmps7 rfl λU W=>?_;rw[F.d3]at h;refine Vl 1 ?_;refine Vr 1 [] 2 ?_;refine Vr 1 [(3,A.i 0)] 3 ?_;refine Uw 4 [(6,.slice A0_ o.length c1_),(9,A.i (min (o.length:Int) 99))] ?_;have⟨u,h⟩:=Ui h;refine A.AL.cuth 0 1 (v:=(min (o.length:Int) 99).toNat) (Xz u.1).symm u.2 λc3=>?_;refine Vy 2 [(11,A.i ((List.take ((min (o.length:Int) 99).toNat) o).length:Int)),(12,A.i 0)] 2 ?_;refine Ud [0,10,11] l4l (λf J L=>∃(s:Int)(t:Int),J=[(3,A.i s),(12,A.i t)]/\L=[]/\A.h6 s/\A.h6 t/\F.cp o f s t=some r) ⟨0,0,rfl,rfl,Vv,Vv,h⟩ ?_;rintro y _ _ ⟨s,t,rfl,rfl,a1,a2,h⟩;rcases y with _|y
 exact Ua h;rw[F.cp]at h;refine V7 1 1 [(13,.bool (decide (t<((List.take ((min (o.length:Int) 99).toNat) o).length:Int))))] 2 h ?_ ?_<;>intro hb h;refine Vl 5 ?_;have⟨k,N,h⟩:=Uz h;refine Uk 1 8 N λa3=>?_;intro z B a4 a5;refine Vp [] [8] [.e 0 0] [(15,(A.rao k z B))] (Vj 10 (cs:=l4a) Tryz.zeroValue49 λa6=>?_);refine Ul 10 [] (A.rai k z B) ?_;refine Uq 1 ?_;have⟨E,h⟩:=Ui h;refine A.q [10] [] [.n,.n,.b 0 2,.n,.n,.n,.n,.b 0 6,.n,.n,.n,.n,.n,.b 0 5,.n,.n,.n,.n,.n] [Z.R64 (s+(min (k.2.2.1.length:Int) 1048576)),Z.R64 ((s+(min (k.2.2.1.length:Int) 1048576))+(min (k.2.2.2.2.1.size:Int) 1048576)),Z.R64 (((s+(min (k.2.2.1.length:Int) 1048576))+(min (k.2.2.2.2.1.size:Int) 1048576))+(min (k.2.2.2.1.2.2.size:Int) 1048576))] [(3,A.i (min (((s+(min (k.2.2.1.length:Int) 1048576))+(min (k.2.2.2.2.1.size:Int) 1048576))+(min (k.2.2.2.1.2.2.size:Int) 1048576)) 1048576))] E (Uq 2 ?_);have⟨I,h⟩:=Ui h;refine U3 2 [Z.R64 (t+1)] [(12,A.i (t+1))] I (Vg ?_);exact V0 ⟨_,Qo _,⟨(min (((s+(min (k.2.2.1.length:Int) 1048576))+(min (k.2.2.2.2.1.size:Int) 1048576))+(min (k.2.2.2.1.2.2.size:Int) 1048576)) 1048576),(t+1),rfl,rfl,(A.has_min (Vk E.2.2) (V1 1048576)),(Vk I),h⟩⟩;refine Uy 3 [] [] [.n,.n,.n,.n,.sy .n,.sy .n,.pk,.n] [(2,.bool (bif decide ((o.length:Int)<=18)then decide (s<=2000)else false))] 1 ?_;exact A.ke h (Vx ⟨rfl,rfl⟩)
def F.aE (o:(List D63))(e:(List D58)):Nat->Int->Int->Option Bool
 |0,_,_=>none
 |f+1,k,h=>if h<((List.take ((min (e.length:Int) 99).toNat) e).length:Int)then((A.ix (List.take ((min (e.length:Int) 99).toNat) e) h).bind λs=>(A.gd (Z.R64 (k+(min (s.2.2.1.size:Int) 1048576))) (A.gd (Z.R64 (h+1)) ((F.aE o e f) (min (k+(min (s.2.2.1.size:Int) 1048576)) 1048576) (h+1)))))else(some (bif bif decide ((o.length:Int)<=24)then decide ((e.length:Int)<=60)else false then decide (k<=4000)else false))
def F.b4 (e:(List D63))(h:(List D58)):Nat->Int->Int->Option Bool
 |0,_,_=>none
 |f+1,o,k=>if k<((List.take ((min (e.length:Int) 99).toNat) e).length:Int)then((A.ix (List.take ((min (e.length:Int) 99).toNat) e) k).bind λs=>(A.gd (Z.R64 (o+(min (s.2.2.2.size:Int) 1048576))) (A.gd (Z.R64 (k+1)) ((F.b4 e h f) (min (o+(min (s.2.2.2.size:Int) 1048576)) 1048576) (k+1)))))else(A.gd (0<=min (h.length:Int) 99/\(min (h.length:Int) 99).toNat<=h.length) (F.aE e h A.FU o 0))
def F.dV (e:(List D63))(f:(List D58)):Option Bool:=A.gd (0<=min (e.length:Int) 99/\(min (e.length:Int) 99).toNat<=e.length) (F.b4 e f A.FU 0 0)
theorem o_bZ(k:(List D63))(o:(List D58))(r:Bool)(h:F.dV k o=some r):
    A.Ct Tryz.prog 8 [.slice A0_ k.length c1_,.slice A2_ o.length c3_] [(0,.sh (.slice T63) [.slice A0_ k.length c1_] k),(1,.sh (.slice T58) [.slice A2_ o.length c3_] o)] [] (λv H'=>v=.bool r/\H'=[]):=by
 refine Vh Tryz.func8 rfl Tryz.ntmps8 rfl λw0 F0=>?_;rw[F.dV]at h;refine Vl 1 ?_;refine Vr 1 [] 2 ?_;refine Vr 1 [(5,A.i 0)] 3 ?_;refine Uw 4 [(10,.slice A0_ k.length c1_),(13,A.i (min (k.length:Int) 99))] ?_;have⟨J,h⟩:=Ui h;refine A.AL.cuth 0 2 (v:=(min (k.length:Int) 99).toNat) (Xz J.1).symm J.2 λc3=>?_;refine Vy 2 [(15,A.i ((List.take ((min (k.length:Int) 99).toNat) k).length:Int)),(16,A.i 0)] 2 ?_;refine Ud [0,1,14,15] [0,1,2] (λf E I=>∃(t:Int)(u:Int),E=[(5,A.i t),(16,A.i u)]/\I=[]/\A.h6 t/\A.h6 u/\F.b4 k o f t u=some r) ⟨0,0,rfl,rfl,Vv,Vv,h⟩ ?_;rintro L _ _ ⟨t,u,rfl,rfl,a5,a8,h⟩;rcases L with _|L
 exact Ua h;rw[F.b4]at h;refine V7 1 1 [(17,.bool (decide (u<((List.take ((min (k.length:Int) 99).toNat) k).length:Int))))] 2 h ?_ ?_<;>intro hb h;refine Vl 5 ?_;have⟨s,a6,h⟩:=Uz h;refine Uk 2 21 a6 λa9=>?_;intro aa ab;refine Vp [] [21] [.e 0 0] [(19,.agg #[A.i s.1,A.i s.2.1,A.i s.2.2.1,.string s.2.2.2])] (Vj 22 (cs:=[A.i 0,A.i 0,A.i 0,.string (QE)]) Tryz.zeroValue64 λac=>?_);refine Ul 22 [] [A.i s.1,A.i s.2.1,A.i s.2.2.1,.string s.2.2.2] ?_;refine Uq 1 ?_;have⟨N,h⟩:=Ui h;refine A.q [22] [] [.n,.n,.n,.b 0 3,.n,.n,.n,.n,.n] [Z.R64 (t+(min (s.2.2.2.size:Int) 1048576))] [(5,A.i (min (t+(min (s.2.2.2.size:Int) 1048576)) 1048576))] N (Uq 2 ?_);have⟨U,h⟩:=Ui h;refine U3 2 [Z.R64 (u+1)] [(16,A.i (u+1))] U (Vg ?_);exact V0 ⟨_,Qo _,⟨(min (t+(min (s.2.2.2.size:Int) 1048576)) 1048576),(u+1),rfl,rfl,(A.has_min (Vk N) (V1 1048576)),(Vk U),h⟩⟩;refine Uf 4 4 [(29,.slice A2_ o.length c3_),(32,A.i (min (o.length:Int) 99))] ?_;have⟨W,h⟩:=Ui h;refine A.AL.cuth 1 23 (v:=(min (o.length:Int) 99).toNat) (Xz W.1).symm W.2 λad=>?_;refine Vy 2 [(34,A.i ((List.take ((min (o.length:Int) 99).toNat) o).length:Int)),(35,A.i 0)] 2 ?_;refine Ud [0,1,33,34] [0,1,23] (λf E I=>∃(y:Int)(z:Int),E=[(5,A.i y),(35,A.i z)]/\I=[]/\A.h6 y/\A.h6 z/\F.aE k o f y z=some r) ⟨t,0,rfl,rfl,a5,Vv,h⟩ ?_;rintro a2 _ _ ⟨y,z,rfl,rfl,ae,ag,h⟩;rcases a2 with _|a2
 exact Ua h;rw[F.aE]at h;refine V7 1 1 [(36,.bool (decide (z<((List.take ((min (o.length:Int) 99).toNat) o).length:Int))))] 2 h ?_ ?_<;>intro hb h;refine Vl 5 ?_;have⟨B,a7,h⟩:=Uz h;refine Uk 23 28 a7 λah=>?_;intro aj ak;refine Vp [] [28] [.e 0 0] [(38,(A.raq B))] (Vj 29 (cs:=l4f) Tryz.zeroValue59 λal=>?_);refine Ul 29 [] (A.rak B) ?_;refine Uq 1 ?_;have⟨a3,h⟩:=Ui h;refine A.q [29] [] [.n,.n,.b 0 2,.n,.n,.n,.n,.n] [Z.R64 (y+(min (B.2.2.1.size:Int) 1048576))] [(5,A.i (min (y+(min (B.2.2.1.size:Int) 1048576)) 1048576))] a3 (Uq 2 ?_);have⟨a4,h⟩:=Ui h;refine U3 2 [Z.R64 (z+1)] [(35,A.i (z+1))] a4 (Vg ?_);exact V0 ⟨_,Qo _,⟨(min (y+(min (B.2.2.1.size:Int) 1048576)) 1048576),(z+1),rfl,rfl,(A.has_min (Vk a3) (V1 1048576)),(Vk a4),h⟩⟩;refine Uy 3 [] [] [.n,.n,.n,.n,.sy .n,.sy .n,.sy .n,.pk,.n,.sy .n,.sy .n,.pk,.n] [(4,.bool (bif bif decide ((k.length:Int)<=24)then decide ((o.length:Int)<=60)else false then decide (y<=4000)else false))] 1 ?_;exact A.ke h (Vx ⟨rfl,rfl⟩)
def F.bW (h:(List D58))(k:(List D58)):Nat->Int->Option Bool
 |0,_=>none
 |f+1,e=>if e<(h.length:Int)then((A.ix h e).bind λo=>((A.ix k e).bind λs=>(if o≠s then(some false)else(A.gd (Z.R64 (e+1)) ((F.bW h k f) (e+1))))))else(some true)
def F.dl (e:(List D58))(f:(List D58)):Option Bool:=if(e.length:Int)≠(f.length:Int)then(some false)else(F.bW e f A.FU 0)
theorem o_cq(o:(List D58))(s:(List D58))(r:Bool)(h:F.dl o s=some r):
    A.Ct Tryz.prog 10 [.slice A0_ o.length c1_,.slice A2_ s.length c3_] [(0,.ln T58 A0_ c1_ o),(1,.ln T58 A2_ c3_ s)] [] (λv H'=>v=.bool r/\H'=[]):=by
 refine Vh Tryz.func10 rfl Tryz.ntmps10 rfl λw0 F0=>?_;rw[F.dl]at h;refine Vl 1 ?_;refine Vr 1 [] 3 ?_;refine Vy 5 [(10,.bool (decide ((o.length:Int)≠(s.length:Int))))] 1 ?_;refine Km h ?_ ?_<;>intro u h;refine Vq 1 1 [(4,QB)] 1 ?_;exact A.ke h (Vx ⟨rfl,rfl⟩);refine Vq 4 1 [(5,A.i 0)] 2 ?_;refine Ud l4l l4l (λf N U=>∃(k:Int),N=[(5,A.i k)]/\U=[]/\A.h6 k/\F.bW o s f k=some r) ⟨0,rfl,rfl,Vv,h⟩ ?_;rintro z _ _ ⟨k,rfl,rfl,a3,h⟩;rcases z with _|z
 exact Ua h;rw[F.bW]at h;refine V7 2 4 [(14,.bool (decide (k<(o.length:Int))))] 1 h ?_ ?_<;>intro u h;refine U0 5 ?_;refine V9 mixed 9 9 (A.mb 9 0) ?_;refine V4 Vn [] l4l [] [] (A.mb 9 51) 5 [(0,.n),(1,.n),(4,.n),(5,.n)] [(17,.slice A0_ o.length c1_),(18,A.i k),(21,.slice A2_ s.length c3_),(22,A.i k)] ?_;have⟨B,E,h⟩:=Uz h;refine U6 0 6 E λa4=>?_;intro b8 o9 W;refine Uc Vn l4l [0,1,6] 2 (A.mb 9 55) rfl (λa w hf hh=>Um (t:=T58) E W hf) ?_;refine V4 Vn [0,1,6] [0,1,6] [] [6] (A.mb 9 63) 3 [(3,.e 0 0)] [(20,(A.raq B))] ?_;have⟨I,J,h⟩:=Uz h;refine U6 1 7 J λa5=>?_;intro a6 a7 a2;refine Uc Vn [0,1,6] [0,1,6,7] 6 (A.mb 9 127) rfl (λa w hf hh=>Um (t:=T58) J a2 hf) ?_;refine V4 Vn [0,1,6,7] [0,1,6,7] [] [7] (A.mb 9 255) 1 [(7,.e 0 0)] [(24,(A.raq I))] (Uc Vn [0,1,6,7] [0,1,6,7] 8 (A.mb 9 511) rfl (λa w hf hh=>eqagg_neq59 (x:=B) (y:=I) (hf.eval rfl) (hf.eval rfl)) ?_);refine Vt ?_;refine A.ex 1 ?_;refine Km h ?_ ?_<;>intro u h;refine Vq 1 1 [(4,QB)] 1 ?_;exact A.ke h (Vx ⟨rfl,rfl⟩);refine Vl 3 ?_;have⟨L,h⟩:=Ui h;refine U3 3 [Z.R64 (k+1)] [(5,A.i (k+1))] L (Vg ?_);exact V0 ⟨_,Qo _,⟨(k+1),rfl,rfl,(Vk L),h⟩⟩;refine Vq 3 1 [(4,QC)] 1 ?_;exact A.ke h (Vx ⟨rfl,rfl⟩)
def F.em (f:Int)(e:Int):Option Int:=if(bif decide (e<1)then true else decide ((16:Int)<e))=true then(some 0)else((F.eu f).bind λh=>(A.gd (IntKind.u64.wrap (e)≠0) (some (IntKind.i64.wrap (Int.tmod h (IntKind.u64.wrap (e)))))))
theorem o_cN (h:Int)(f:Int)(o:A.h6 h)(t:A.h6 f)(r:Int)(e:F.em h f=some r):
    A.Ct Tryz.prog 24 [A.i h,A.i f] [] [] (λv H'=>v=A.i r/\H'=[]/\A.h6 r):=by
 refine Vh Tryz.func24 rfl Tryz.ntmps24 rfl λu y=>?_;rw[F.em]at e;refine Vl 1 ?_;refine Vr 1 [] 3 ?_;refine V5 [] [] [.n,.n,.n,.sy .n,.sy .n,.pk] [(10,.bool (bif decide (f<1)then true else decide ((16:Int)<f)))] 1 ?_;refine U9 e ?_ ?_<;>intro z e;refine Vq 1 1 [(4,A.i 0)] 1 ?_;exact A.ke e (Vx ⟨rfl,rfl,Vv⟩);refine Uf 3 1 [(11,A.i h)] ?_;refine Ue 0 [] e (o_bY h o) .nil ?_;rintro k - e _ _ ⟨rfl,rfl,hr3⟩;refine Vs ?_;have⟨s,e⟩:=Ui e;refine U3 3 [IntKind.u64.wrap (f)≠0] [(15,.int .u64 (Int.tmod k (IntKind.u64.wrap (f))))] s ?_;refine Ux rfl (λa w hf hh=>Z.r_conv Tryz.underlying98 Tryz.underlying3 (hf.eval rfl)) ?_;refine Vy 1 [(4,A.i (IntKind.i64.wrap (Int.tmod k (IntKind.u64.wrap (f)))))] 1 ?_;exact A.ke e (Vx ⟨rfl,rfl,(Kr _ _)⟩)
def F.ac (e:(List D58)):Option ((List D58)):=some e
theorem o_q(e:(List D58))(r:((List D58)))(f:F.ac e=some r):
    A.Ct Tryz.prog 23 [.slice A0_ e.length c1_] [(0,.sh (.slice T58) [.slice A0_ e.length c1_] e)] [] (λv H'=>∃(g0':Nat) (A1':QK) (c2':Nat),v=.func (.func 47) #[] #[.pointer (some ⟨g0',0,none⟩)]/\H'=[(0,.blk g0' 25 [.slice A1' r.length c2']),(1,.sh (.slice T58) [.slice A1' r.length c2'] r)]):=by
 refine Vh Tryz.func23 rfl Tryz.ntmps23 rfl λk o=>?_;rw[F.ac]at f;refine Vl 1 ?_;refine Vm 1 (cs:=[.slice A0_ e.length c1_]) λh=>?_;refine Vr 1 [] 2 ?_;refine Vy 2 [(2,.func (.func 47) #[] #[.pointer (some ⟨h,0,none⟩)])] 1 ?_;obtain rfl:=V8 f;exact Kj [(0,1),(1,0)] ⟨h,A0_,c1_,rfl,rfl⟩
def F.d (h:(List D58)):Nat->Int->Option (List D58)
 |0,_=>none
 |f+1,e=>if e<(h.length:Int)then((A.ix h e).bind λk=>(A.cns k (A.gd (Z.R64 (e+1)) ((F.d h f) (e+1)))))else(some [])
def F.p (e:(List D58)):Option (List D58):=F.d e A.FU 0
theorem o_l(o:(List D58))(xs:List D58)(h:F.p o=some xs):
    A.Sq Tryz.prog 47 [.pointer (some ⟨g0_,0,none⟩)] [(0,.el none g0_ 0 [.slice A1_ o.length c2_]),(1,.sh (.slice T58) [.slice A1_ o.length c2_] o)] T58 (λcs=>[Z.vof true cs]) xs:=by
 refine A.Sq.enter Tryz.func47 rfl Tryz.ntmps47 rfl λlid B J Jx Φ hY hJ0=>?_;obtain⟨rs0,hrs⟩: ∃rs0,rs0=xs:=⟨_,rfl⟩;have hR0:A.Rem xs 0 rs0:=hrs▸A.Rem.zero xs;rw[F.p,<-hrs]at h;clear hrs;refine Uy 1 [] [0] [.e 0 0,.n,.n] [(5,.slice A1_ o.length c2_),(6,A.i (o.length:Int)),(7,A.i 0)] 2 ?_;refine A.AX.loopC (A.CY 16 Φ) (0,B) [0,5,6] [1] [1] (λf i E I=>∃(k:Int)(rs:List D58),E=[(7,A.i k)]/\I=[]/\A.h6 k/\J i.1 i.2/\A.Rem xs i.1 rs/\F.d o f k=some rs) A.FU [(7,A.i 0)] [] ⟨0,_,rfl,rfl,Vv,hJ0,hR0,h⟩ ?_;rintro u ⟨L,U⟩ _ _ ⟨k,rs8,rfl,rfl,W,hJ6,hR7,h⟩;rcases u with _|u
 exact Ua h;rw[F.d]at h;refine V7 1 1 [(8,.bool (decide (k<(o.length:Int))))] 2 h ?_ ?_<;>intro hb h;refine Vl 5 ?_;have⟨s,N,h⟩:=Uz h;refine Uk 1 6 N λt=>?_;intro a0 a1;refine Vp [] [6] [.e 0 0] [(10,(A.raq s))] (Vj 7 (cs:=l4f) Tryz.zeroValue59 λa2=>?_);refine Ul 7 [] (A.rak s) ?_;refine Uq 2 ?_;refine Vp [7] [] [.n,.b 0 0] [(11,.func (.yield lid) #[] #[]),(12,(A.raq s))] ?_;obtain⟨rs15,hqrs15,h⟩:=Uu h;refine Uv hY hJ6 (hqrs15▸hR7) (A.rak s) ⟨⟨rfl,t.1⟩,⟨rfl,t.2.1⟩,⟨rfl,t.2.2.1⟩,⟨rfl,t.2.2.2⟩⟩ (λy hJ17 hR18=>?_) (λy hX19=>?_);refine Vy 1 [(14,QB)] 1 ?_;refine V2 rfl ?_;refine Vl 3 ?_;have⟨z,h⟩:=Ui h;refine U3 2 [Z.R64 (k+1)] [(7,A.i (k+1))] z (Vg ?_);exact Un (L+1,y) [1] [(7,A.i (k+1))] [] ⟨_,Qo _,⟨(k+1),_,rfl,rfl,(Vk z),hJ17,hR18,h⟩⟩;refine Vy 1 [(14,QC)] 1 ?_;refine Vw rfl ?_;exact U4 hY hX19;refine Ub 1 ?_;obtain rfl:=V8 h;exact A.AE.rtY hY hJ6 hR7
def F.aW (h:Int)(k:Int):List D58->(List D58)->Option (List D58)
 | [],e=>some e
 |o::f,e=>(F.em o.2.1 k).bind λs=>(if s=h then(A.gd ((List.length (α:=D58) e+List.length (α:=D58) [o])*40<=140737488355328) ((F.aW h k f) (e++[o])))else((F.aW h k f) e))
def F.x (f:Int)(e:Int)(h:(List D58)):Option (List D58):=if(bif decide (e<1)then true else decide ((16:Int)<e))=true then(some [])else((F.ac h).bind λk=>((F.p k).bind λo=>F.aW f e o []))
theorem o_c(z:Int)(y:Int)(B:(List D58))(a6:A.h6 z)(U:A.h6 y)(r:(List D58))(e:F.x z y B=some r):
    A.Ct Tryz.prog 11 [A.i z,A.i y,.slice A2_ B.length c3_] [(0,.sh (.slice T58) [.slice A2_ B.length c3_] B)] [] (λv H'=>∃(A0':QK) (c1':Nat),v=.slice A0' r.length c1'/\H'=[(0,.own T58 59 A0' c1' r)]):=by
 refine A.Ct.enterM Tryz.func11 rfl Tryz.ntmps11 rfl λw0 F0=>?_;rw[F.x]at e;refine Vl 1 ?_;refine Vm 1 (cs:=[A.i z]) λg1=>?_;refine Vm 2 (cs:=[A.i y]) λg2=>?_;refine Vr 1 [] 3 ?_;refine V5 [2] [] [.b 0 0,.n,.n,.sy (.b 0 0),.sy .n,.pk] [(14,.bool (bif decide (y<1)then true else decide ((16:Int)<y)))] 1 ?_;refine U9 e ?_ ?_<;>intro W e;refine Vq 1 1 [(6,QA)] 1 ?_;obtain rfl:=V8 e;refine Ka 3 T58 59 ?_;exact Kv (Ds:=[]) [] [(0,3)] (QA) (trivial) (λa w hf hh=>Kp rfl (Ut hf rfl)) (⟨none,0,rfl,rfl⟩);refine Vl 3 ?_;refine Vj 4 (cs:=[QA]) Tryz.zeroValue25 λE=>?_;refine Uq 3 ?_;refine Uw 1 [(15,.slice A2_ B.length c3_)] (Ue 5 [] e (o_q A2_ c3_ B) (.s 0 .nil) ?_);rintro r4 - e _ _ ⟨g6,A7,c8,rfl,rfl⟩;refine Vs (Kh 2 ?_);refine Ka 91 T58 59 ?_;have⟨L,a3,e⟩:=Uz e;refine A.AX.rgf 92 93 94 [1,2,5,6] [4,91,1,2,5,6] [93,92,4,91,1,2,5,6] (λk nh=>∃(f:List D58)(h:QK)(t:Nat),nh=[(4,.blk E 25 [.slice h f.length t]),(91,.own T58 59 h t f)]/\F.aW z y (List.drop k L) f=some r) [(4,.blk E 25 [QA]),(91,.own T58 59 none 0 [])] cf47 (o_l A7 g6 c8 r4 L a3) (λ_=>rfl) ⟨[],none,0,rfl,e⟩ ?_ ?_ ?_;rintro a4 _ D23 L24 ⟨f,h,t,rfl,e⟩;exact⟨⟨_,(.b 5 (.s 6 .nil))⟩,rfl,λo=>rfl⟩;rintro a4 _ u D23 L24 a7 a8 ⟨f,h,t,rfl,e⟩ hx31 hxo32 N;rw[A.drop_at hx31,F.aW]at e;refine Vl 0 ?_;refine Vj 179 (cs:=l4f) Tryz.zeroValue59 λa9=>?_;refine Ul 179 [] (A.rak u) ?_;refine Vg ?_;refine A.AE.flip 92 93 λaa=>?_;refine U0 2 ?_;refine V9 mixed 6 6 (A.mb 6 0) ?_;refine V4 (A.pk_kont A.RQ.pq) [] [1,2,4,5,6,91,92,93,179] [2,1,179] [] (A.mb 6 23) 2 [(0,.n),(2,.b 0 0),(4,.b 1 0),(1,.b 2 1)] [(20,A.i y),(22,A.i z),(19,A.i u.2.1)] (Vu 3 ?_);refine Ue 180 [] e (o_cN u.2.1 y hxo32.2.1 U) .nil ?_;rintro a5 - e _ _ ⟨rfl,rfl,hr39⟩;refine Vs (Vz (A.mb 6 31) [1,2,4,5,6,91,92,93,179] ?_);refine V4 (A.pk_kont A.RQ.pq) [1,2,4,5,6,91,92,93,179] [1,2,4,5,6,91,92,93,179] [] [] (A.mb 6 63) 0 [(5,.n)] [(23,.bool (decide (a5=z)))] (Vt ?_);refine A.ex 1 ?_;refine Km e ?_ ?_<;>intro W e;refine Uj 0 [4,179] [] [.b 0 0,.b 1 0] [(24,.slice h f.length t),(25,(A.raq u))] ?_;refine Ug 220 (ty:=T58) (cs:=(A.rak u)) [u] ⟨⟨⟨rfl,hxo32.1⟩,⟨rfl,hxo32.2.1⟩,⟨rfl,hxo32.2.2.1⟩,⟨rfl,hxo32.2.2.2⟩⟩,rfl⟩ (λab=>?_) Tryz.zeroValue59 Tryz.sizeOf59;have⟨hl43,e⟩:=Ui e;refine Uo (k:=91) [] (Kd (k:=220) rfl) Qkp hl43 λI J=>?_;refine Ul 4 [] [.slice I ((f++[u]).length) J] ?_;refine Ki 1 ?_;exact A.AE.bn N [93,92,4,91,1,2,5,6] 100000 [(93,100093),(92,100092),(4,100004),(91,100091),(1,100001),(2,100002),(5,100005),(6,100006)] [(4,.blk E 25 [.slice I ((f++[u]).length) J]),(91,.own T58 59 I J (f++[u]))] ⟨(f++[u]),I,J,rfl,e⟩ rfl rfl;refine Ub 2 ?_;exact A.AE.bn N [93,92,4,91,1,2,5,6] 100000 [(93,100093),(92,100092),(4,100004),(91,100091),(1,100001),(2,100002),(5,100005),(6,100006)] [(4,.blk E 25 [.slice h f.length t]),(91,.own T58 59 h t f)] ⟨f,h,t,rfl,e⟩ rfl rfl;rintro _ D23 L24 ⟨f,h,t,rfl,e⟩;rw[Y3,F.aW]at e;refine A.el 3 ?_;refine V5 [4] [] [.b 0 0,.n] [(6,.slice h f.length t)] 1 ?_;obtain rfl:=V8 e;exact Kv (Ds:=[D23]) [92] [(0,91)] (.slice h f.length t) (⟨rfl,trivial⟩) (λa w hf hh=>Kp rfl (Ut hf rfl)) (⟨h,t,rfl,rfl⟩)
def F.a (e:(List D58)):Option (List D58):=A.gd ((List.length (α:=D58) []+List.length (α:=D58) e)*40<=140737488355328) (some ([]++e))
theorem o_a(f:(List D58))(r:(List D58))(e:F.a f=some r):
    A.Ct Tryz.prog 27 [.slice A0_ f.length c1_] [(0,.ln T58 A0_ c1_ f)] [] (λv H'=>∃(A0':QK) (c1':Nat),v=.slice A0' r.length c1'/\H'=[(0,.own T58 59 A0' c1' r)]):=by
 refine Vh Tryz.func27 rfl Tryz.ntmps27 rfl λt u=>?_;rw[F.a]at e;refine Vl 1 ?_;refine Vr 1 [] 3 ?_;refine Vy 2 [(4,.bool A0_.isNone)] 1 ?_;refine A.AX.cnn rfl (λh=>?_) (λh=>?_);refine A.nilL 0 h λh=>?_;subst h;replace e:some []=some r:=by simpa[A.gd,A.ix] using e
 refine Vq 1 1 [(2,QA)] 1 ?_;obtain rfl:=V8 e;refine Ka 2 T58 59 ?_;exact Kj [(0,2)] ⟨none,0,rfl,rfl⟩;refine Vl 3 ?_;refine A.AL.bs0 1 T58 (λy=>?_) Tryz.sizeOf59;refine Uw 1 [(6,.slice A0_ f.length c1_)] ?_;have⟨hl4,e⟩:=Ui e;refine Uo (k:=1) [] (A.rowL (k:=0) rfl) Qkp hl4 λo s=>?_;refine Vy 1 [(2,.slice o (([]++f).length) s)] 1 ?_;obtain rfl:=V8 e;exact Kj [(0,1)] ⟨o,s,rfl,rfl⟩
end Go.Proofs.YtligcbdjiolamaaGreatDoor
end
section
namespace Go.A
open Go.RowKit Go.Z
def UP (r:QN)(P:QR)(c:Code)(Q:QG)(a:Act)(w:World):Prop:=∀(b:Frame) (k:List Item) (cs:List Frame),b.roundOf=(FW r).round->(FW r).fn b.fn->(FW r).room (cs.length+1+0)->
 ∃e a' w',Q e a' w'/\ArrivesIn (Machine.fenced P (FW r)) P (lone (b.atR a (.code c:: .inLoop c::k)) cs w) b k cs e a' w'
section
variable {r:QN}{P:QR}{Q:QG}{Y:QG}{K:List Kx}{C:Cx}{l:QI}{H:QJ}{c x:Code}{a:Act}{w:World}
def UP.loop (h:UP r P c Q a w):WP r P (.loop c) Q a w:=λb k cs E I J=>by
 obtain⟨e,a',w',q,harr⟩:=h b k cs E I J;exact⟨e,a',w',q,.of_steps (.one (fenced_calm I J rfl) stepR_loop) harr⟩
def UP.step (h:WP r P c (λe a' w'=>(e=.normal/\UP r P c Q a' w')\/(e≠ .normal/\Q e a' w')) a w):UP r P c Q a w:=λb k cs E I J=>by
 obtain⟨e,a₁,w₁,hq,harr⟩:=h b (.inLoop c::k) cs E I J;cases e with
 |normal=>
  have hq:=hq.resolve_right (λh=>h.1 rfl);obtain⟨e₂,a₂,w₂,hq₂,harr₂⟩:=hq.2 b k cs E I J;exact⟨e₂,a₂,w₂,hq₂,.of_steps (StepsIn.trans harr (.one (fenced_calm I J rfl) stepR_inLoop)) harr₂⟩
 |exit id=>exact⟨_,a₁,w₁,(hq.resolve_left (by simp)).2,.pass (x:=.inLoop c) rfl (λ_ _=>.inl (by simp)) harr⟩
 |goto l=>exact⟨_,a₁,w₁,(hq.resolve_left (by simp)).2,.pass (x:=.inLoop c) rfl (λ_ _=>.inl (by simp)) harr⟩
 |ret=>exact⟨_,a₁,w₁,(hq.resolve_left (by simp)).2,.pass (x:=.inLoop c) rfl (λ_ _=>.inl (by simp)) harr⟩
 |panic ch=>exact⟨_,a₁,w₁,(hq.resolve_left (by simp)).2,.pass (x:=.inLoop c) rfl (λ_ _=>.inl (by simp)) harr⟩
 |outgrown=>exact⟨_,a₁,w₁,(hq.resolve_left (by simp)).2,.pass (x:=.inLoop c) rfl (λ_ _=>.inl (by simp)) harr⟩
def unr (h:WP r P x (kont r P Y (.m (UP r P x (kont r P Y K))::K)) a w):UP r P x (kont r P Y K) a w:=UP.step (wpIn_mono h λe a w hq=>by
 cases e with
 |normal=>exact .inl ⟨rfl,hq⟩
 |_=>exact .inr ⟨by simp,hq⟩)
def AX.unr (h:AX r P Y (.m (UP r P x (kont r P Y K))::K) x C l H):AX r P Y K (.loop x) C l H:=λa w E I=>UP.loop (A.unr (h a w E I))
def AE.unr (h:AX r P Y (.m (UP r P x (kont r P Y K))::K) x C l H):AE r P Y (.m (UP r P x (kont r P Y K))::K) .normal C l H:=λa w E I=>A.unr (h a w E I)
end
end Go.A
end
section
namespace Go.Proofs.YtligcbdjiolamaaGreatDoor
open Go.RowKit
variable(A0_ A1_ A2_ A3_ A4_ A5_ A7_ A9_ A10_ A11_ A12_ A13_ A15_ A17_ A19_ A21_ A23_ A25_ A27_ A29_ A31_:QK)(g0_ b1_ c1_ c2_ g2_ c3_ b4_ c4_ b5_ c5_ b6_ c6_ c8_ c10_ g10_ c11_ c12_ c13_ c14_ c16_ c18_ c20_ c22_ c24_ c26_ c28_ c30_ c32_:Nat)
def F.cq (e:Int)(f:(List D58)):Option (D70):=(F.x 0 e f).bind λh=>(A.gd (Z.R64 (0+1)) ((F.x 1 e f).bind λk=>(A.gd (Z.R64 (1+1)) ((F.x 2 e f).bind λo=>(A.gd (Z.R64 (2+1)) ((F.x 3 e f).bind λs=>(A.gd (Z.R64 (3+1)) ((F.x 4 e f).bind λt=>(A.gd (Z.R64 (4+1)) ((F.x 5 e f).bind λu=>(A.gd (Z.R64 (5+1)) ((F.x 6 e f).bind λy=>(A.gd (Z.R64 (6+1)) ((F.x 7 e f).bind λz=>(A.gd (Z.R64 (7+1)) ((F.x 8 e f).bind λB=>(A.gd (Z.R64 (8+1)) ((F.x 9 e f).bind λE=>(A.gd (Z.R64 (9+1)) ((F.x 10 e f).bind λI=>(A.gd (Z.R64 (10+1)) ((F.x 11 e f).bind λJ=>(A.gd (Z.R64 (11+1)) ((F.x 12 e f).bind λL=>(A.gd (Z.R64 (12+1)) ((F.x 13 e f).bind λN=>(A.gd (Z.R64 (13+1)) ((F.x 14 e f).bind λU=>(A.gd (Z.R64 (14+1)) ((F.x 15 e f).bind λW=>(A.gd (Z.R64 (15+1)) (some (h,k,o,s,t,u,y,z,B,E,I,J,L,N,U,W)))))))))))))))))))))))))))))))))
theorem o_bA(h:Int)(f:(List D58))(z:A.h6 h)(r:(D70))(e:F.cq h f=some r):
    A.Ct Tryz.prog 15 [A.i h,.slice A1_ f.length c2_] [(0,.sh (.slice T58) [.slice A1_ f.length c2_] f)] [] (λv H'=>∃(g0':Nat) (A1':QK) (c2':Nat) (A3':QK) (c4':Nat) (A5':QK) (c6':Nat) (A7':QK) (c8':Nat) (A9':QK) (c10':Nat) (A11':QK) (c12':Nat) (A13':QK) (c14':Nat) (A15':QK) (c16':Nat) (A17':QK) (c18':Nat) (A19':QK) (c20':Nat) (A21':QK) (c22':Nat) (A23':QK) (c24':Nat) (A25':QK) (c26':Nat) (A27':QK) (c28':Nat) (A29':QK) (c30':Nat) (A31':QK) (c32':Nat),v=.func (.func 26) #[] #[.pointer (some ⟨g0',0,none⟩)]/\H'=[(0,.blk g0' 70 [.slice A1' r.1.length c2',.slice A3' r.2.1.length c4',.slice A5' r.2.2.1.length c6',.slice A7' r.2.2.2.1.length c8',.slice A9' r.2.2.2.2.1.length c10',.slice A11' r.2.2.2.2.2.1.length c12',.slice A13' r.2.2.2.2.2.2.1.length c14',.slice A15' r.2.2.2.2.2.2.2.1.length c16',.slice A17' r.2.2.2.2.2.2.2.2.1.length c18',.slice A19' r.2.2.2.2.2.2.2.2.2.1.length c20',.slice A21' r.2.2.2.2.2.2.2.2.2.2.1.length c22',.slice A23' r.2.2.2.2.2.2.2.2.2.2.2.1.length c24',.slice A25' r.2.2.2.2.2.2.2.2.2.2.2.2.1.length c26',.slice A27' r.2.2.2.2.2.2.2.2.2.2.2.2.2.1.length c28',.slice A29' r.2.2.2.2.2.2.2.2.2.2.2.2.2.2.1.length c30',.slice A31' r.2.2.2.2.2.2.2.2.2.2.2.2.2.2.2.length c32']),(1,.sh (.slice T58) [.slice A1' r.1.length c2'] r.1),(2,.sh (.slice T58) [.slice A3' r.2.1.length c4'] r.2.1),(3,.sh (.slice T58) [.slice A5' r.2.2.1.length c6'] r.2.2.1),(4,.sh (.slice T58) [.slice A7' r.2.2.2.1.length c8'] r.2.2.2.1),(5,.sh (.slice T58) [.slice A9' r.2.2.2.2.1.length c10'] r.2.2.2.2.1),(6,.sh (.slice T58) [.slice A11' r.2.2.2.2.2.1.length c12'] r.2.2.2.2.2.1),(7,.sh (.slice T58) [.slice A13' r.2.2.2.2.2.2.1.length c14'] r.2.2.2.2.2.2.1),(8,.sh (.slice T58) [.slice A15' r.2.2.2.2.2.2.2.1.length c16'] r.2.2.2.2.2.2.2.1),(9,.sh (.slice T58) [.slice A17' r.2.2.2.2.2.2.2.2.1.length c18'] r.2.2.2.2.2.2.2.2.1),(10,.sh (.slice T58) [.slice A19' r.2.2.2.2.2.2.2.2.2.1.length c20'] r.2.2.2.2.2.2.2.2.2.1),(11,.sh (.slice T58) [.slice A21' r.2.2.2.2.2.2.2.2.2.2.1.length c22'] r.2.2.2.2.2.2.2.2.2.2.1),(12,.sh (.slice T58) [.slice A23' r.2.2.2.2.2.2.2.2.2.2.2.1.length c24'] r.2.2.2.2.2.2.2.2.2.2.2.1),(13,.sh (.slice T58) [.slice A25' r.2.2.2.2.2.2.2.2.2.2.2.2.1.length c26'] r.2.2.2.2.2.2.2.2.2.2.2.2.1),(14,.sh (.slice T58) [.slice A27' r.2.2.2.2.2.2.2.2.2.2.2.2.2.1.length c28'] r.2.2.2.2.2.2.2.2.2.2.2.2.2.1),(15,.sh (.slice T58) [.slice A29' r.2.2.2.2.2.2.2.2.2.2.2.2.2.2.1.length c30'] r.2.2.2.2.2.2.2.2.2.2.2.2.2.2.1),(16,.sh (.slice T58) [.slice A31' r.2.2.2.2.2.2.2.2.2.2.2.2.2.2.2.length c32'] r.2.2.2.2.2.2.2.2.2.2.2.2.2.2.2)]):=by
 refine Vh Tryz.func15 rfl Tryz.ntmps15 rfl λw0 F0=>?_;rw[F.cq]at e;refine Vl 1 ?_;refine Vr 1 [] 2 ?_;refine Vj 1 (cs:=[QA,QA,QA,QA,QA,QA,QA,QA,QA,QA,QA,QA,QA,QA,QA,QA]) Tryz.zeroValue70 λg1=>?_;refine Uq 3 ?_;refine Vy 1 [(7,A.i 0)] 2 ?_;refine A.AX.unr ?_;refine Vq 1 1 [(8,QC)] 2 ?_;refine Vw rfl ?_;refine Vl 5 ?_;refine Vr 2 [(6,A.i 0)] 1 ?_;refine Uw 4 [(10,A.i 0),(11,A.i 0),(12,A.i h),(13,.slice A1_ f.length c2_)] (Ue 2 [] e (o_c A1_ c2_ 0 h f Vv z) (.s 0 .nil) ?_);rintro t - e _ _ ⟨k,o,rfl,rfl⟩;refine Vs (Ux rfl (λa w hf hh=>Us Tryz.underlying70 Tryz.sizeOf25 (hf.eval rfl) (hf.eval rfl) (by decide) (by decide)) ?_);refine V3 1 [] (new:=[.slice k t.length o]) (cs':=[.slice k t.length o,QA,QA,QA,QA,QA,QA,QA,QA,QA,QA,QA,QA,QA,QA,QA]) ?_;refine Uq 2 ?_;have⟨b5,e⟩:=Ui e;refine U3 2 [Z.R64 (0+1)] [(7,A.i 1)] b5 (Vg ?_);refine A.AE.unr ?_;refine Vq 1 1 [(8,QC)] 2 ?_;refine Vw rfl ?_;refine Vl 5 ?_;refine Vr 2 [(6,A.i 1)] 1 ?_;refine Uw 4 [(10,A.i 1),(11,A.i 1),(12,A.i h),(13,.slice A1_ f.length c2_)] (Ue 42 [] e (o_c A1_ c2_ 1 h f (V1 1) z) (.s 0 .nil) ?_);rintro B - e _ _ ⟨u,y,rfl,rfl⟩;refine Vs (Ux rfl (λa w hf hh=>Us Tryz.underlying70 Tryz.sizeOf25 (hf.eval rfl) (hf.eval rfl) (by decide) (by decide)) ?_);refine V3 1 [] (new:=[.slice u B.length y]) (cs':=[.slice k t.length o,.slice u B.length y,QA,QA,QA,QA,QA,QA,QA,QA,QA,QA,QA,QA,QA,QA]) ?_;refine Uq 2 ?_;have⟨b6,e⟩:=Ui e;refine U3 2 [Z.R64 (1+1)] [(7,A.i 2)] b6 (Vg ?_);refine A.AE.unr ?_;refine Vq 1 1 [(8,QC)] 2 ?_;refine Vw rfl ?_;refine Vl 5 ?_;refine Vr 2 [(6,A.i 2)] 1 ?_;refine Uw 4 [(10,A.i 2),(11,A.i 2),(12,A.i h),(13,.slice A1_ f.length c2_)] (Ue 82 [] e (o_c A1_ c2_ 2 h f (V1 2) z) (.s 0 .nil) ?_);rintro J - e _ _ ⟨E,I,rfl,rfl⟩;refine Vs (Ux rfl (λa w hf hh=>Us Tryz.underlying70 Tryz.sizeOf25 (hf.eval rfl) (hf.eval rfl) (by decide) (by decide)) ?_);refine V3 1 [] (new:=[.slice E J.length I]) (cs':=[.slice k t.length o,.slice u B.length y,.slice E J.length I,QA,QA,QA,QA,QA,QA,QA,QA,QA,QA,QA,QA,QA]) ?_;refine Uq 2 ?_;have⟨b7,e⟩:=Ui e;refine U3 2 [Z.R64 (2+1)] [(7,A.i 3)] b7 (Vg ?_);refine A.AE.unr ?_;refine Vq 1 1 [(8,QC)] 2 ?_;refine Vw rfl ?_;refine Vl 5 ?_;refine Vr 2 [(6,A.i 3)] 1 ?_;refine Uw 4 [(10,A.i 3),(11,A.i 3),(12,A.i h),(13,.slice A1_ f.length c2_)] (Ue 122 [] e (o_c A1_ c2_ 3 h f (V1 3) z) (.s 0 .nil) ?_);rintro U - e _ _ ⟨L,N,rfl,rfl⟩;refine Vs (Ux rfl (λa w hf hh=>Us Tryz.underlying70 Tryz.sizeOf25 (hf.eval rfl) (hf.eval rfl) (by decide) (by decide)) ?_);refine V3 1 [] (new:=[.slice L U.length N]) (cs':=[.slice k t.length o,.slice u B.length y,.slice E J.length I,.slice L U.length N,QA,QA,QA,QA,QA,QA,QA,QA,QA,QA,QA,QA]) ?_;refine Uq 2 ?_;have⟨b9,e⟩:=Ui e;refine U3 2 [Z.R64 (3+1)] [(7,A.i 4)] b9 (Vg ?_);refine A.AE.unr ?_;refine Vq 1 1 [(8,QC)] 2 ?_;refine Vw rfl ?_;refine Vl 5 ?_;refine Vr 2 [(6,A.i 4)] 1 ?_;refine Uw 4 [(10,A.i 4),(11,A.i 4),(12,A.i h),(13,.slice A1_ f.length c2_)] (Ue 162 [] e (o_c A1_ c2_ 4 h f (V1 4) z) (.s 0 .nil) ?_);rintro a3 - e _ _ ⟨W,a2,rfl,rfl⟩;refine Vs (Ux rfl (λa w hf hh=>Us Tryz.underlying70 Tryz.sizeOf25 (hf.eval rfl) (hf.eval rfl) (by decide) (by decide)) ?_);refine V3 1 [] (new:=[.slice W a3.length a2]) (cs':=[.slice k t.length o,.slice u B.length y,.slice E J.length I,.slice L U.length N,.slice W a3.length a2,QA,QA,QA,QA,QA,QA,QA,QA,QA,QA,QA]) ?_;refine Uq 2 ?_;have⟨bb,e⟩:=Ui e;refine U3 2 [Z.R64 (4+1)] [(7,A.i 5)] bb (Vg ?_);refine A.AE.unr ?_;refine Vq 1 1 [(8,QC)] 2 ?_;refine Vw rfl ?_;refine Vl 5 ?_;refine Vr 2 [(6,A.i 5)] 1 ?_;refine Uw 4 [(10,A.i 5),(11,A.i 5),(12,A.i h),(13,.slice A1_ f.length c2_)] (Ue 202 [] e (o_c A1_ c2_ 5 h f (V1 5) z) (.s 0 .nil) ?_);rintro a6 - e _ _ ⟨a4,a5,rfl,rfl⟩;refine Vs (Ux rfl (λa w hf hh=>Us Tryz.underlying70 Tryz.sizeOf25 (hf.eval rfl) (hf.eval rfl) (by decide) (by decide)) ?_);refine V3 1 [] (new:=[.slice a4 a6.length a5]) (cs':=[.slice k t.length o,.slice u B.length y,.slice E J.length I,.slice L U.length N,.slice W a3.length a2,.slice a4 a6.length a5,QA,QA,QA,QA,QA,QA,QA,QA,QA,QA]) ?_;refine Uq 2 ?_;have⟨bc,e⟩:=Ui e;refine U3 2 [Z.R64 (5+1)] [(7,A.i 6)] bc (Vg ?_);refine A.AE.unr ?_;refine Vq 1 1 [(8,QC)] 2 ?_;refine Vw rfl ?_;refine Vl 5 ?_;refine Vr 2 [(6,A.i 6)] 1 ?_;refine Uw 4 [(10,A.i 6),(11,A.i 6),(12,A.i h),(13,.slice A1_ f.length c2_)] (Ue 242 [] e (o_c A1_ c2_ 6 h f (V1 6) z) (.s 0 .nil) ?_);rintro a9 - e _ _ ⟨a7,a8,rfl,rfl⟩;refine Vs (Ux rfl (λa w hf hh=>Us Tryz.underlying70 Tryz.sizeOf25 (hf.eval rfl) (hf.eval rfl) (by decide) (by decide)) ?_);refine V3 1 [] (new:=[.slice a7 a9.length a8]) (cs':=[.slice k t.length o,.slice u B.length y,.slice E J.length I,.slice L U.length N,.slice W a3.length a2,.slice a4 a6.length a5,.slice a7 a9.length a8,QA,QA,QA,QA,QA,QA,QA,QA,QA]) ?_;refine Uq 2 ?_;have⟨be,e⟩:=Ui e;refine U3 2 [Z.R64 (6+1)] [(7,A.i 7)] be (Vg ?_);refine A.AE.unr ?_;refine Vq 1 1 [(8,QC)] 2 ?_;refine Vw rfl ?_;refine Vl 5 ?_;refine Vr 2 [(6,A.i 7)] 1 ?_;refine Uw 4 [(10,A.i 7),(11,A.i 7),(12,A.i h),(13,.slice A1_ f.length c2_)] (Ue 282 [] e (o_c A1_ c2_ 7 h f (V1 7) z) (.s 0 .nil) ?_);rintro ac - e _ _ ⟨aa,ab,rfl,rfl⟩;refine Vs (Ux rfl (λa w hf hh=>Us Tryz.underlying70 Tryz.sizeOf25 (hf.eval rfl) (hf.eval rfl) (by decide) (by decide)) ?_);refine V3 1 [] (new:=[.slice aa ac.length ab]) (cs':=[.slice k t.length o,.slice u B.length y,.slice E J.length I,.slice L U.length N,.slice W a3.length a2,.slice a4 a6.length a5,.slice a7 a9.length a8,.slice aa ac.length ab,QA,QA,QA,QA,QA,QA,QA,QA]) ?_;refine Uq 2 ?_;have⟨bf,e⟩:=Ui e;refine U3 2 [Z.R64 (7+1)] [(7,A.i 8)] bf (Vg ?_);refine A.AE.unr ?_;refine Vq 1 1 [(8,QC)] 2 ?_;refine Vw rfl ?_;refine Vl 5 ?_;refine Vr 2 [(6,A.i 8)] 1 ?_;refine Uw 4 [(10,A.i 8),(11,A.i 8),(12,A.i h),(13,.slice A1_ f.length c2_)] (Ue 322 [] e (o_c A1_ c2_ 8 h f (V1 8) z) (.s 0 .nil) ?_);rintro ag - e _ _ ⟨ad,ae,rfl,rfl⟩;refine Vs (Ux rfl (λa w hf hh=>Us Tryz.underlying70 Tryz.sizeOf25 (hf.eval rfl) (hf.eval rfl) (by decide) (by decide)) ?_);refine V3 1 [] (new:=[.slice ad ag.length ae]) (cs':=[.slice k t.length o,.slice u B.length y,.slice E J.length I,.slice L U.length N,.slice W a3.length a2,.slice a4 a6.length a5,.slice a7 a9.length a8,.slice aa ac.length ab,.slice ad ag.length ae,QA,QA,QA,QA,QA,QA,QA]) ?_;refine Uq 2 ?_;have⟨bg,e⟩:=Ui e;refine U3 2 [Z.R64 (8+1)] [(7,A.i 9)] bg (Vg ?_);refine A.AE.unr ?_;refine Vq 1 1 [(8,QC)] 2 ?_;refine Vw rfl ?_;refine Vl 5 ?_;refine Vr 2 [(6,A.i 9)] 1 ?_;refine Uw 4 [(10,A.i 9),(11,A.i 9),(12,A.i h),(13,.slice A1_ f.length c2_)] (Ue 362 [] e (o_c A1_ c2_ 9 h f (V1 9) z) (.s 0 .nil) ?_);rintro ak - e _ _ ⟨ah,aj,rfl,rfl⟩;refine Vs (Ux rfl (λa w hf hh=>Us Tryz.underlying70 Tryz.sizeOf25 (hf.eval rfl) (hf.eval rfl) (by decide) (by decide)) ?_);refine V3 1 [] (new:=[.slice ah ak.length aj]) (cs':=[.slice k t.length o,.slice u B.length y,.slice E J.length I,.slice L U.length N,.slice W a3.length a2,.slice a4 a6.length a5,.slice a7 a9.length a8,.slice aa ac.length ab,.slice ad ag.length ae,.slice ah ak.length aj,QA,QA,QA,QA,QA,QA]) ?_;refine Uq 2 ?_;have⟨bh,e⟩:=Ui e;refine U3 2 [Z.R64 (9+1)] [(7,A.i 10)] bh (Vg ?_);refine A.AE.unr ?_;refine Vq 1 1 [(8,QC)] 2 ?_;refine Vw rfl ?_;refine Vl 5 ?_;refine Vr 2 [(6,A.i 10)] 1 ?_;refine Uw 4 [(10,A.i 10),(11,A.i 10),(12,A.i h),(13,.slice A1_ f.length c2_)] (Ue 402 [] e (o_c A1_ c2_ 10 h f (V1 10) z) (.s 0 .nil) ?_);rintro an - e _ _ ⟨al,am,rfl,rfl⟩;refine Vs (Ux rfl (λa w hf hh=>Us Tryz.underlying70 Tryz.sizeOf25 (hf.eval rfl) (hf.eval rfl) (by decide) (by decide)) ?_);refine V3 1 [] (new:=[.slice al an.length am]) (cs':=[.slice k t.length o,.slice u B.length y,.slice E J.length I,.slice L U.length N,.slice W a3.length a2,.slice a4 a6.length a5,.slice a7 a9.length a8,.slice aa ac.length ab,.slice ad ag.length ae,.slice ah ak.length aj,.slice al an.length am,QA,QA,QA,QA,QA]) ?_;refine Uq 2 ?_;have⟨bi,e⟩:=Ui e;refine U3 2 [Z.R64 (10+1)] [(7,A.i 11)] bi (Vg ?_);refine A.AE.unr ?_;refine Vq 1 1 [(8,QC)] 2 ?_;refine Vw rfl ?_;refine Vl 5 ?_;refine Vr 2 [(6,A.i 11)] 1 ?_;refine Uw 4 [(10,A.i 11),(11,A.i 11),(12,A.i h),(13,.slice A1_ f.length c2_)] (Ue 442 [] e (o_c A1_ c2_ 11 h f (V1 11) z) (.s 0 .nil) ?_);rintro aq - e _ _ ⟨ao,ap,rfl,rfl⟩;refine Vs (Ux rfl (λa w hf hh=>Us Tryz.underlying70 Tryz.sizeOf25 (hf.eval rfl) (hf.eval rfl) (by decide) (by decide)) ?_);refine V3 1 [] (new:=[.slice ao aq.length ap]) (cs':=[.slice k t.length o,.slice u B.length y,.slice E J.length I,.slice L U.length N,.slice W a3.length a2,.slice a4 a6.length a5,.slice a7 a9.length a8,.slice aa ac.length ab,.slice ad ag.length ae,.slice ah ak.length aj,.slice al an.length am,.slice ao aq.length ap,QA,QA,QA,QA]) ?_;refine Uq 2 ?_;have⟨bj,e⟩:=Ui e;refine U3 2 [Z.R64 (11+1)] [(7,A.i 12)] bj (Vg ?_);refine A.AE.unr ?_;refine Vq 1 1 [(8,QC)] 2 ?_;refine Vw rfl ?_;refine Vl 5 ?_;refine Vr 2 [(6,A.i 12)] 1 ?_;refine Uw 4 [(10,A.i 12),(11,A.i 12),(12,A.i h),(13,.slice A1_ f.length c2_)] (Ue 482 [] e (o_c A1_ c2_ 12 h f (V1 12) z) (.s 0 .nil) ?_);rintro av - e _ _ ⟨ar,au,rfl,rfl⟩;refine Vs (Ux rfl (λa w hf hh=>Us Tryz.underlying70 Tryz.sizeOf25 (hf.eval rfl) (hf.eval rfl) (by decide) (by decide)) ?_);refine V3 1 [] (new:=[.slice ar av.length au]) (cs':=[.slice k t.length o,.slice u B.length y,.slice E J.length I,.slice L U.length N,.slice W a3.length a2,.slice a4 a6.length a5,.slice a7 a9.length a8,.slice aa ac.length ab,.slice ad ag.length ae,.slice ah ak.length aj,.slice al an.length am,.slice ao aq.length ap,.slice ar av.length au,QA,QA,QA]) ?_;refine Uq 2 ?_;have⟨bk,e⟩:=Ui e;refine U3 2 [Z.R64 (12+1)] [(7,A.i 13)] bk (Vg ?_);refine A.AE.unr ?_;refine Vq 1 1 [(8,QC)] 2 ?_;refine Vw rfl ?_;refine Vl 5 ?_;refine Vr 2 [(6,A.i 13)] 1 ?_;refine Uw 4 [(10,A.i 13),(11,A.i 13),(12,A.i h),(13,.slice A1_ f.length c2_)] (Ue 522 [] e (o_c A1_ c2_ 13 h f (V1 13) z) (.s 0 .nil) ?_);rintro ay - e _ _ ⟨aw,ax,rfl,rfl⟩;refine Vs (Ux rfl (λa w hf hh=>Us Tryz.underlying70 Tryz.sizeOf25 (hf.eval rfl) (hf.eval rfl) (by decide) (by decide)) ?_);refine V3 1 [] (new:=[.slice aw ay.length ax]) (cs':=[.slice k t.length o,.slice u B.length y,.slice E J.length I,.slice L U.length N,.slice W a3.length a2,.slice a4 a6.length a5,.slice a7 a9.length a8,.slice aa ac.length ab,.slice ad ag.length ae,.slice ah ak.length aj,.slice al an.length am,.slice ao aq.length ap,.slice ar av.length au,.slice aw ay.length ax,QA,QA]) ?_;refine Uq 2 ?_;have⟨bm,e⟩:=Ui e;refine U3 2 [Z.R64 (13+1)] [(7,A.i 14)] bm (Vg ?_);refine A.AE.unr ?_;refine Vq 1 1 [(8,QC)] 2 ?_;refine Vw rfl ?_;refine Vl 5 ?_;refine Vr 2 [(6,A.i 14)] 1 ?_;refine Uw 4 [(10,A.i 14),(11,A.i 14),(12,A.i h),(13,.slice A1_ f.length c2_)] (Ue 562 [] e (o_c A1_ c2_ 14 h f (V1 14) z) (.s 0 .nil) ?_);rintro b1 - e _ _ ⟨az,b0,rfl,rfl⟩;refine Vs (Ux rfl (λa w hf hh=>Us Tryz.underlying70 Tryz.sizeOf25 (hf.eval rfl) (hf.eval rfl) (by decide) (by decide)) ?_);refine V3 1 [] (new:=[.slice az b1.length b0]) (cs':=[.slice k t.length o,.slice u B.length y,.slice E J.length I,.slice L U.length N,.slice W a3.length a2,.slice a4 a6.length a5,.slice a7 a9.length a8,.slice aa ac.length ab,.slice ad ag.length ae,.slice ah ak.length aj,.slice al an.length am,.slice ao aq.length ap,.slice ar av.length au,.slice aw ay.length ax,.slice az b1.length b0,QA]) ?_;refine Uq 2 ?_;have⟨bp,e⟩:=Ui e;refine U3 2 [Z.R64 (14+1)] [(7,A.i 15)] bp (Vg ?_);refine A.AE.unr ?_;refine Vq 1 1 [(8,QC)] 2 ?_;refine Vw rfl ?_;refine Vl 5 ?_;refine Vr 2 [(6,A.i 15)] 1 ?_;refine Uw 4 [(10,A.i 15),(11,A.i 15),(12,A.i h),(13,.slice A1_ f.length c2_)] (Ue 602 [] e (o_c A1_ c2_ 15 h f (V1 15) z) (.s 0 .nil) ?_);rintro b4 - e _ _ ⟨b2,b3,rfl,rfl⟩;refine Vs (Ux rfl (λa w hf hh=>Us Tryz.underlying70 Tryz.sizeOf25 (hf.eval rfl) (hf.eval rfl) (by decide) (by decide)) ?_);refine V3 1 [] (new:=[.slice b2 b4.length b3]) (cs':=[.slice k t.length o,.slice u B.length y,.slice E J.length I,.slice L U.length N,.slice W a3.length a2,.slice a4 a6.length a5,.slice a7 a9.length a8,.slice aa ac.length ab,.slice ad ag.length ae,.slice ah ak.length aj,.slice al an.length am,.slice ao aq.length ap,.slice ar av.length au,.slice aw ay.length ax,.slice az b1.length b0,.slice b2 b4.length b3]) ?_;refine Uq 2 ?_;have⟨bq,e⟩:=Ui e;refine U3 2 [Z.R64 (15+1)] [(7,A.i 16)] bq (Vg ?_);refine A.AE.unr ?_;refine Vq 1 1 [(8,QB)] 2 ?_;refine V2 rfl ?_;refine Vq 3 2 [(4,.func (.func 26) #[] #[.pointer (some ⟨g1,0,none⟩)])] 1 ?_;obtain rfl:=V8 e;refine U5 2 [] ?_;refine U5 42 [] ?_;refine U5 82 [] ?_;refine U5 122 [] ?_;refine U5 162 [] ?_;refine U5 202 [] ?_;refine U5 242 [] ?_;refine U5 282 [] ?_;refine U5 322 [] ?_;refine U5 362 [] ?_;refine U5 402 [] ?_;refine U5 442 [] ?_;refine U5 482 [] ?_;refine U5 522 [] ?_;refine U5 562 [] ?_;refine U5 602 [] ?_;exact Kj [(0,1),(1,2),(2,42),(3,82),(4,122),(5,162),(6,202),(7,242),(8,282),(9,322),(10,362),(11,402),(12,442),(13,482),(14,522),(15,562),(16,602)] ⟨g1,k,o,u,y,E,I,L,N,W,a2,a4,a5,a7,a8,aa,ab,ad,ae,ah,aj,al,am,ao,ap,ar,au,aw,ax,az,b0,b2,b3,rfl,rfl⟩
def F.bk (h:(QP)):Nat->Int->Option Int
 |0,_=>none
 |f+1,e=>if e<(h.length:Int)then((A.ix h e).bind λk=>(if k≠0 then(some k)else(A.gd (Z.R64 (e+1)) ((F.bk h f) (e+1)))))else(some 0)
def F.cr (e:(QP)):Option Int:=F.bk e A.FU 0
theorem o_aC(o:(QP))(r:Int)(h:F.cr o=some r):
    A.Ct Tryz.prog 34 [.slice A0_ o.length c1_] [(0,.ln A.ti A0_ c1_ o)] [] (λv H'=>v=A.i r/\H'=[]/\A.h6 r):=by
 refine Vh Tryz.func34 rfl Tryz.ntmps34 rfl λJ L=>?_;rw[F.cr]at h;refine Vl 1 ?_;refine Vr 1 [] 2 ?_;refine Vr 1 [(3,A.i 0)] 3 ?_;refine Vy 3 [(6,.slice A0_ o.length c1_),(7,A.i (o.length:Int)),(8,A.i 0)] 2 ?_;refine Ud [3,6,7] [0] (λf y z=>∃(k:Int),y=[(8,A.i k)]/\z=[]/\A.h6 k/\F.bk o f k=some r) ⟨0,rfl,rfl,Vv,h⟩ ?_;rintro t _ _ ⟨k,rfl,rfl,N,h⟩;rcases t with _|t
 exact Ua h;rw[F.bk]at h;refine V7 1 1 [(9,.bool (decide (k<(o.length:Int))))] 2 h ?_ ?_<;>intro B h;refine Vl 5 ?_;have⟨s,E,h⟩:=Uz h;refine Kf 0 3 E λI=>?_;intro U W;refine Vp [] [3] [.e 0 0,.n] [(5,A.i s)] (Uq 2 ?_);refine Vy 3 [(14,.bool (decide (s≠0)))] 1 ?_;refine Km h ?_ ?_<;>intro B h;refine Vq 1 2 [(2,A.i s)] 1 ?_;exact A.ke h (Vx ⟨rfl,rfl,I⟩);refine Vl 3 ?_;have⟨u,h⟩:=Ui h;refine U3 2 [Z.R64 (k+1)] [(8,A.i (k+1))] u (Vg ?_);exact V0 ⟨_,Qo _,⟨(k+1),rfl,rfl,(Vk u),h⟩⟩;refine Vq 3 2 [(2,A.i 0)] 1 ?_;exact A.ke h (Vx ⟨rfl,rfl,Vv⟩)
def F.df (e:Int):Option Bool:=some (decide (e≠e))
theorem o_ak (e:Int)(h:A.h6 e)(r:Bool)(f:F.df e=some r):
    A.Ct Tryz.prog 58 [A.i e] [] [] (λv H'=>v=.bool r/\H'=[]):=by
 refine Vh Tryz.func58 rfl Tryz.ntmps58 rfl λk o=>?_;rw[F.df]at f;refine Vl 1 ?_;refine Vr 1 [] 2 ?_;refine Vy 4 [(2,.bool (decide (e≠e)))] 1 ?_;exact A.ke f (Vx ⟨rfl,rfl⟩)
def F.cL (e:Int)(f:Int):Option Int:=(F.df e).bind λk=>((F.df f).bind λh=>(if k=true then(if h=true then(some 0)else(some (-1)))else(if h=true then(some 1)else(if e<f then(some (-1))else(if f<e then(some 1)else(some 0))))))
theorem o_aL (f:Int)(h:Int)(t:A.h6 f)(u:A.h6 h)(r:Int)(e:F.cL f h=some r):
    A.Ct Tryz.prog 35 [A.i f,A.i h] [] [] (λv H'=>v=A.i r/\H'=[]/\A.h6 r):=by
 refine Vh Tryz.func35 rfl Tryz.ntmps35 rfl λy z=>?_;rw[F.cL]at e;refine Vl 1 ?_;refine Vr 1 [] 2 ?_;refine Uw 1 [(7,A.i f)] (Ue 0 [] e (o_ak f t) .nil ?_);rintro s - e _ _ ⟨rfl,rfl⟩;refine Vs (Vr 1 [(5,.bool s)] 2 ?_);refine Uw 1 [(9,A.i h)] (Ue 40 [] e (o_ak h u) .nil ?_);rintro o - e _ _ ⟨rfl,rfl⟩;refine Vs (Vr 1 [(6,.bool o)] 3 ?_);refine Vy 1 [(11,.bool s)] 1 ?_;refine U9 e ?_ ?_<;>intro k e;refine Vq 2 1 [(12,.bool o)] 1 ?_;refine U9 e ?_ ?_<;>intro k e;refine Vq 1 1 [(4,A.i 0)] 1 ?_;exact A.ke e (Vx ⟨rfl,rfl,Vv⟩);refine Vq 3 1 [(4,A.i (-1))] 1 ?_;exact A.ke e (Vx ⟨rfl,rfl,(V1 (-1))⟩);refine Vq 4 1 [(13,.bool o)] 1 ?_;refine U9 e ?_ ?_<;>intro k e;refine Vq 1 1 [(4,A.i 1)] 1 ?_;exact A.ke e (Vx ⟨rfl,rfl,(V1 1)⟩);refine V7 4 3 [(16,.bool (decide (f<h)))] 1 e ?_ ?_<;>intro k e;refine Vq 1 1 [(4,A.i (-1))] 1 ?_;exact A.ke e (Vx ⟨rfl,rfl,(V1 (-1))⟩);refine V7 4 3 [(19,.bool (decide (h<f)))] 1 e ?_ ?_<;>intro k e;refine Vq 1 1 [(4,A.i 1)] 1 ?_;exact A.ke e (Vx ⟨rfl,rfl,(V1 1)⟩);refine Vq 3 1 [(4,A.i 0)] 1 ?_;exact A.ke e (Vx ⟨rfl,rfl,Vv⟩)
def F.bO (e:Int):Option Bool:=some (decide (e≠e))
theorem o_af (e:Int)(h:A.h6 e)(r:Bool)(f:F.bO e=some r):
    A.Ct Tryz.prog 59 [A.i e] [] [] (λv H'=>v=.bool r/\H'=[]):=by
 refine Vh Tryz.func59 rfl Tryz.ntmps59 rfl λk o=>?_;rw[F.bO]at f;refine Vl 1 ?_;refine Vr 1 [] 2 ?_;refine Vy 4 [(2,.bool (decide (e≠e)))] 1 ?_;exact A.ke f (Vx ⟨rfl,rfl⟩)
def F.aL (e:Int)(f:Int):Option Int:=(F.bO e).bind λk=>((F.bO f).bind λh=>(if k=true then(if h=true then(some 0)else(some (-1)))else(if h=true then(some 1)else(if e<f then(some (-1))else(if f<e then(some 1)else(some 0))))))
theorem o_y (f:Int)(h:Int)(t:A.h6 f)(u:A.h6 h)(r:Int)(e:F.aL f h=some r):
    A.Ct Tryz.prog 36 [A.i f,A.i h] [] [] (λv H'=>v=A.i r/\H'=[]/\A.h6 r):=by
 refine Vh Tryz.func36 rfl Tryz.ntmps36 rfl λy z=>?_;rw[F.aL]at e;refine Vl 1 ?_;refine Vr 1 [] 2 ?_;refine Uw 1 [(7,A.i f)] (Ue 0 [] e (o_af f t) .nil ?_);rintro s - e _ _ ⟨rfl,rfl⟩;refine Vs (Vr 1 [(5,.bool s)] 2 ?_);refine Uw 1 [(9,A.i h)] (Ue 40 [] e (o_af h u) .nil ?_);rintro o - e _ _ ⟨rfl,rfl⟩;refine Vs (Vr 1 [(6,.bool o)] 3 ?_);refine Vy 1 [(11,.bool s)] 1 ?_;refine U9 e ?_ ?_<;>intro k e;refine Vq 2 1 [(12,.bool o)] 1 ?_;refine U9 e ?_ ?_<;>intro k e;refine Vq 1 1 [(4,A.i 0)] 1 ?_;exact A.ke e (Vx ⟨rfl,rfl,Vv⟩);refine Vq 3 1 [(4,A.i (-1))] 1 ?_;exact A.ke e (Vx ⟨rfl,rfl,(V1 (-1))⟩);refine Vq 4 1 [(13,.bool o)] 1 ?_;refine U9 e ?_ ?_<;>intro k e;refine Vq 1 1 [(4,A.i 1)] 1 ?_;exact A.ke e (Vx ⟨rfl,rfl,(V1 1)⟩);refine V7 4 3 [(16,.bool (decide (f<h)))] 1 e ?_ ?_<;>intro k e;refine Vq 1 1 [(4,A.i (-1))] 1 ?_;exact A.ke e (Vx ⟨rfl,rfl,(V1 (-1))⟩);refine V7 4 3 [(19,.bool (decide (h<f)))] 1 e ?_ ?_<;>intro k e;refine Vq 1 1 [(4,A.i 1)] 1 ?_;exact A.ke e (Vx ⟨rfl,rfl,(V1 1)⟩);refine Vq 3 1 [(4,A.i 0)] 1 ?_;exact A.ke e (Vx ⟨rfl,rfl,Vv⟩)
def F.bu (e:ByteArray):Option Bool:=some (decide (e≠e))
theorem o_ab (e:ByteArray)(h:e.size<=maxLen)(r:Bool)(f:F.bu e=some r):
    A.Ct Tryz.prog 60 [.string e] [] [] (λv H'=>v=.bool r/\H'=[]):=by
 refine Vh Tryz.func60 rfl Tryz.ntmps60 rfl λk o=>?_;rw[F.bu]at f;refine Vl 1 ?_;refine Vr 1 [] 2 ?_;refine Vy 4 [(2,.bool (decide (e≠e)))] 1 ?_;exact A.ke f (Vx ⟨rfl,rfl⟩)
def F.aZ (e:ByteArray)(f:ByteArray):Option Int:=(F.bu e).bind λk=>((F.bu f).bind λh=>(if k=true then(if h=true then(some 0)else(some (-1)))else(if h=true then(some 1)else(if(Op.bytesLess e.toList f.toList)=true then(some (-1))else(if(!(Op.bytesLess e.toList f.toList||e.toList==f.toList))=true then(some 1)else(some 0))))))
theorem o_ap (f:ByteArray)(h:ByteArray)(t:f.size<=maxLen)(u:h.size<=maxLen)(r:Int)(e:F.aZ f h=some r):
    A.Ct Tryz.prog 37 [.string f,.string h] [] [] (λv H'=>v=A.i r/\H'=[]/\A.h6 r):=by
 refine Vh Tryz.func37 rfl Tryz.ntmps37 rfl λy z=>?_;rw[F.aZ]at e;refine Vl 1 ?_;refine Vr 1 [] 2 ?_;refine Uw 1 [(7,.string f)] (Ue 0 [] e (o_ab f t) .nil ?_);rintro s - e _ _ ⟨rfl,rfl⟩;refine Vs (Vr 1 [(5,.bool s)] 2 ?_);refine Uw 1 [(9,.string h)] (Ue 40 [] e (o_ab h u) .nil ?_);rintro o - e _ _ ⟨rfl,rfl⟩;refine Vs (Vr 1 [(6,.bool o)] 3 ?_);refine Vy 1 [(11,.bool s)] 1 ?_;refine U9 e ?_ ?_<;>intro k e;refine Vq 2 1 [(12,.bool o)] 1 ?_;refine U9 e ?_ ?_<;>intro k e;refine Vq 1 1 [(4,A.i 0)] 1 ?_;exact A.ke e (Vx ⟨rfl,rfl,Vv⟩);refine Vq 3 1 [(4,A.i (-1))] 1 ?_;exact A.ke e (Vx ⟨rfl,rfl,(V1 (-1))⟩);refine Vq 4 1 [(13,.bool o)] 1 ?_;refine U9 e ?_ ?_<;>intro k e;refine Vq 1 1 [(4,A.i 1)] 1 ?_;exact A.ke e (Vx ⟨rfl,rfl,(V1 1)⟩);refine Vq 4 3 [(16,.bool (Op.bytesLess f.toList h.toList))] 1 ?_;refine U9 e ?_ ?_<;>intro k e;refine Vq 1 1 [(4,A.i (-1))] 1 ?_;exact A.ke e (Vx ⟨rfl,rfl,(V1 (-1))⟩);refine Vq 4 3 [(19,.bool (!(Op.bytesLess f.toList h.toList||f.toList==h.toList)))] 1 ?_;refine U9 e ?_ ?_<;>intro k e;refine Vq 1 1 [(4,A.i 1)] 1 ?_;exact A.ke e (Vx ⟨rfl,rfl,(V1 1)⟩);refine Vq 3 1 [(4,A.i 0)] 1 ?_;exact A.ke e (Vx ⟨rfl,rfl,Vv⟩)
def F.aB (e:D58)(f:D58):Option Int:=(F.cL e.1 f.1).bind λh=>((F.aL e.2.1 f.2.1).bind λk=>((F.aZ e.2.2.1 f.2.2.1).bind λo=>((F.cr [h,k,o]).bind λs=>(some s))))
theorem o_bn (e:D58)(f:D58)(u:A.h6 e.1)(y:A.h6 e.2.1)(z:e.2.2.1.size<=maxLen)(N:A.h6 e.2.2.2)(B:A.h6 f.1)(E:A.h6 f.2.1)(I:f.2.2.1.size<=maxLen)(U:A.h6 f.2.2.2)(r:Int)(h:F.aB e f=some r):
    A.Ct Tryz.prog 33 [(A.raq e),(A.raq f)] [] [] (λv H'=>v=A.i r/\H'=[]/\A.h6 r):=by
 refine Vh Tryz.func33 rfl Tryz.ntmps33 rfl λW F0=>?_;rw[F.aB]at h;refine Vl 1 ?_;refine Vm 0 (cs:=(A.rak e)) λg1=>?_;refine Vm 1 (cs:=(A.rak f)) λg2=>?_;refine Vy 1 [] 2 ?_;refine V9 mixed 18 18 (A.mb 18 0) ?_;refine V4 Vn [] l4l [0,1] [] (A.mb 18 15855) 6 [(0,.n),(2,.n),(5,.n),(7,.n),(10,.n),(12,.n),(1,.b 0 0),(3,.b 1 0),(6,.b 0 1),(8,.b 1 1),(11,.b 0 2),(13,.b 1 2)] [(6,A.i e.1),(8,A.i f.1),(11,A.i e.2.1),(13,A.i f.2.1),(16,.string e.2.2.1),(18,.string f.2.2.1)] (Vu 4 ?_);refine Ue 2 [] h (o_aL e.1 f.1 u B) .nil ?_;rintro k - h _ _ ⟨rfl,rfl,hr5⟩;refine Vs (Vz (A.mb 18 15871) l4l ?_);refine Vu 9 ?_;refine Ue 42 [] h (o_y e.2.1 f.2.1 y E) .nil ?_;rintro s - h _ _ ⟨rfl,rfl,hr8⟩;refine Vs (Vz (A.mb 18 16383) l4l ?_);refine Vu 14 ?_;refine Ue 82 [] h (o_ap e.2.2.1 f.2.2.1 z I) .nil ?_;rintro t - h _ _ ⟨rfl,rfl,hr11⟩;refine Vs (Vz (A.mb 18 32767) l4l ?_);refine Vu 15 ?_;refine Ug 122 (ty:=A.ti) (cs:=[A.i k,A.i s,A.i t]) [k,s,t] ⟨⟨rfl,hr5⟩,⟨⟨rfl,hr8⟩,⟨⟨rfl,hr11⟩,rfl⟩⟩⟩ (λJ=>?_) Tryz.zeroValue3 Tryz.sizeOf3;refine Vz (A.mb 18 65535) l4l ?_;refine Vu 16 ?_;refine Ue 123 [] h (o_aC (some ⟨J,0,none⟩) 3 [k,s,t]) (.o 122 .nil) ?_;rintro L - h _ _ ⟨rfl,rfl,hr15⟩;refine Vs (Vz (A.mb 18 131071) l4l ?_);refine V4 Vn l4l [0,1,122] [] [] (A.mb 18 262143) 0 [(17,.n)] [(4,A.i L)] (Vt ?_);refine A.ex 1 ?_;exact A.ke h (Vx ⟨rfl,rfl,hr15⟩)
def F.ay (e:Int):Option Bool:=some (bif decide (e=1)then true else decide (e=15))
theorem o_j (e:Int)(h:A.h6 e)(r:Bool)(f:F.ay e=some r):
    A.Ct Tryz.prog 85 [A.i e] [] [] (λv H'=>v=.bool r/\H'=[]):=by
 refine Vh Tryz.func85 rfl Tryz.ntmps85 rfl λk o=>?_;rw[F.ay]at f;refine Vl 1 ?_;refine Vr 1 [] 2 ?_;refine V5 [] [] [.n,.n,.n,.sy .n,.sy .n,.pk,.n] [(2,.bool (bif decide (e=1)then true else decide (e=15)))] 1 ?_;exact A.ke f (Vx ⟨rfl,rfl⟩)
def F.dq (e:Int):Option Int:=if(bif decide (e<1)then true else decide ((16:Int)<e))=true then(some (-1))else(if e=1 then(some 0)else(if(bif decide (e=5)then true else decide (e=9))=true then(some 2)else(some 1)))
theorem o_aM (f:Int)(k:A.h6 f)(r:Int)(e:F.dq f=some r):
    A.Ct Tryz.prog 130 [A.i f] [] [] (λv H'=>v=A.i r/\H'=[]/\A.h6 r):=by
 refine Vh Tryz.func130 rfl Tryz.ntmps130 rfl λo s=>?_;rw[F.dq]at e;refine Vl 1 ?_;refine Vr 1 [] 4 ?_;refine V5 [] [] [.n,.n,.n,.sy .n,.sy .n,.pk,.n] [(3,.bool (bif decide (f<1)then true else decide ((16:Int)<f)))] 1 ?_;refine U9 e ?_ ?_<;>intro h e;refine Vq 1 1 [(2,A.i (-1))] 1 ?_;exact A.ke e (Vx ⟨rfl,rfl,(V1 (-1))⟩);refine V7 1 3 [(10,.bool (decide (f=1)))] 1 e ?_ ?_<;>intro h e;refine Vq 1 1 [(2,A.i 0)] 1 ?_;exact A.ke e (Vx ⟨rfl,rfl,Vv⟩);refine Uy 1 [] [] [.n,.n,.n,.sy .n,.sy .n,.pk,.n] [(13,.bool (bif decide (f=5)then true else decide (f=9)))] 1 ?_;refine U9 e ?_ ?_<;>intro h e;refine Vq 1 1 [(2,A.i 2)] 1 ?_;exact A.ke e (Vx ⟨rfl,rfl,(V1 2)⟩);refine Vq 4 1 [(2,A.i 1)] 1 ?_;exact A.ke e (Vx ⟨rfl,rfl,(V1 1)⟩)
def F.ae (e:ByteArray):Nat->Nat->Option Bool
 |0,_=>none
 |f+1,h=>if h<e.size then(if(bif decide ((97:Int)<=((Utf8.decode e h).1:Int))then decide (((Utf8.decode e h).1:Int)<=122)else false)=true then((F.ae e f) (h+(Utf8.decode e h).2))else(if(!(bif decide ((65:Int)<=((Utf8.decode e h).1:Int))then decide (((Utf8.decode e h).1:Int)<=90)else false))=true then(if(bif bif decide ((h:Int)=0)then true else decide (((Utf8.decode e h).1:Int)<48)then true else decide ((57:Int)<((Utf8.decode e h).1:Int)))=true then(some false)else((F.ae e f) (h+(Utf8.decode e h).2)))else((F.ae e f) (h+(Utf8.decode e h).2))))else(some (bif decide (e≠(QE))then decide ((e.size:Int)<=16)else false))
def F.bp (e:ByteArray):Option Bool:=F.ae e A.FU 0
theorem o_r (h:ByteArray)(z:h.size<=maxLen)(r:Bool)(e:F.bp h=some r):
    A.Ct Tryz.prog 131 [.string h] [] [] (λv H'=>v=.bool r/\H'=[]):=by
 refine Vh Tryz.func131 rfl Tryz.ntmps131 rfl λB E=>?_;rw[F.bp]at e;refine Vl 1 ?_;refine Vr 1 [] 3 ?_;refine Uw 1 [(6,.string h)] (A.AL.rgs 0 λs=>?_);refine Kh 2 ?_;refine Ud [0,7] [] (λf t u=>∃(k:Nat),t=[]/\u=[(0,.si s h k)]/\F.ae h f k=some r) ⟨0,rfl,rfl,e⟩ ?_;rintro o _ _ ⟨k,rfl,rfl,e⟩;rcases o with _|o
 exact Ua e;rw[F.ae]at e;refine Vl 1 ?_;refine A.AL.nxs 0 [] e (λhb4 e=>?_) (λy e=>?_);refine Vy 1 [(9,QC)] 2 ?_;refine Vw rfl ?_;refine Vl 4 ?_;refine Vr 4 [(3,A.i (k:Int)),(4,.int .i32 ((Utf8.decode h k).1:Int))] 2 ?_;refine Vp [] [] [.n,.n,.n,.sy .n,.sy .n,.pk,.n] [(18,.bool (bif decide ((97:Int)<=((Utf8.decode h k).1:Int))then decide (((Utf8.decode h k).1:Int)<=122)else false))] (Uh (j:=18) rfl e (λe=>?_) (λe=>?_));refine Vp [] [] [.off,.off,.off,.off,.off,.off,.n,.n] [(5,QC)] (Uq 2 ?_);refine V5 [] [] [.n,.n,.n,.off,.off,.off,.off,.off,.off,.off,.off,.off,.off,.n] [(39,QB)] 1 ?_;refine V2 rfl ?_;refine Ub 2 ?_;exact V0 ⟨_,Qo _,⟨(k+(Utf8.decode h k).2),rfl,rfl,e⟩⟩;refine Vp [] [] [.on .n,.on .n,.on .n,.sy .n,.sy .n,.on .pk,.n,.n] [(5,.bool (bif decide ((65:Int)<=((Utf8.decode h k).1:Int))then decide (((Utf8.decode h k).1:Int)<=90)else false))] (Uq 2 ?_);refine Uw 3 [(28,.bool (!(bif decide ((65:Int)<=((Utf8.decode h k).1:Int))then decide (((Utf8.decode h k).1:Int)<=90)else false)))] (Uh (j:=28) rfl e (λe=>?_) (λe=>?_));refine V5 [] [] [.on .n,.on .n,.on .n,.sy .n,.sy .n,.on .pk,.on .n,.sy .n,.sy .n,.on .pk,.n] [(39,.bool (bif bif decide ((k:Int)=0)then true else decide (((Utf8.decode h k).1:Int)<48)then true else decide ((57:Int)<((Utf8.decode h k).1:Int))))] 1 ?_;refine U9 e ?_ ?_<;>intro y e;refine Vq 1 1 [(2,QB)] 1 ?_;exact A.ke e (Vx ⟨rfl,rfl⟩);refine Ub 2 ?_;exact V0 ⟨_,Qo _,⟨(k+(Utf8.decode h k).2),rfl,rfl,e⟩⟩;refine V5 [] [] [.off,.off,.off,.off,.off,.off,.off,.off,.off,.off,.n] [(39,QB)] 1 ?_;refine V2 rfl ?_;refine Ub 2 ?_;exact V0 ⟨_,Qo _,⟨(k+(Utf8.decode h k).2),rfl,rfl,e⟩⟩;refine Vy 1 [(9,QB)] 2 ?_;refine V2 rfl ?_;refine Uy 3 [] [] [.n,.n,.n,.sy .n,.sy .n,.sy .n,.pk,.n] [(2,.bool (bif decide (h≠(QE))then decide ((h.size:Int)<=16)else false))] 1 ?_;exact A.ke e (Vx ⟨rfl,rfl⟩)
def F.b5:Option Bool:=some false
def F.b6 (e:D48)(f:Bool):Option Bool:=if f=true then(F.b5)else(if e.2.1=14 then(if(bif bif bif decide (e.2.2.2.2.2.1<1)then true else decide ((8:Int)<e.2.2.2.2.2.1)then true else decide (e.2.2.2.2.2.2<1)then true else decide ((4:Int)<e.2.2.2.2.2.2))=true then(some false)else(if(!(decide (e.2.1=14)))=true then(if(bif decide (e.2.2.2.2.2.1≠0)then true else decide (e.2.2.2.2.2.2≠0))=true then(some false)else((F.ay e.2.1).bind λh=>(if h=true then((F.bp e.2.2.2.2.1).bind λk=>(some k))else(some (decide (e.2.2.2.2.1=(QE)))))))else((F.ay e.2.1).bind λo=>(if o=true then((F.bp e.2.2.2.2.1).bind λs=>(some s))else(some (decide (e.2.2.2.2.1=(QE))))))))else(if(!(decide (e.2.1=14)))=true then(if(bif decide (e.2.2.2.2.2.1≠0)then true else decide (e.2.2.2.2.2.2≠0))=true then(some false)else((F.ay e.2.1).bind λt=>(if t=true then((F.bp e.2.2.2.2.1).bind λu=>(some u))else(some (decide (e.2.2.2.2.1=(QE)))))))else((F.ay e.2.1).bind λy=>(if y=true then((F.bp e.2.2.2.2.1).bind λz=>(some z))else(some (decide (e.2.2.2.2.1=(QE))))))))
def F.dr (e:D48):Option Bool:=if(bif decide (e.1<1)then true else decide ((255:Int)<e.1))=true then(F.b5)else((F.dq e.2.1).bind λf=>(if f<0 then(F.b6 e true)else((F.dq e.2.1).bind λh=>(F.b6 e (decide ((e.2.2.1.length:Int)≠h))))))
theorem o_b0(f:D48)(L:A.h6 f.1)(k:A.h6 f.2.1)(N:A.h6 f.2.2.2.1.1)(U:A.h6 f.2.2.2.1.2.1)(W:f.2.2.2.1.2.2.size<=maxLen)(o:f.2.2.2.2.1.size<=maxLen)(a1:A.h6 f.2.2.2.2.2.1)(a2:A.h6 f.2.2.2.2.2.2)(r:Bool)(e:F.dr f=some r):
    A.Ct Tryz.prog 88 [(A.rao f A2_ c3_)] [(0,.sh A.TI [.slice A2_ f.2.2.1.length c3_] f.2.2.1)] [] (λv H'=>v=.bool r/\H'=[]):=by
 refine Vh Tryz.func88 rfl Tryz.ntmps88 rfl λw0 F0=>?_;rw[F.dr]at e;refine Vl 1 ?_;refine Vm 1 (cs:=(A.rai f A2_ c3_)) λg1=>?_;refine Vy 1 [] 3 ?_;refine Vi [] [] (λs t=>s=[]/\t=[]/\F.b5=some r) ?_ ?_;refine Uy 5 [1] [] [.n,.b 0 0,.n,.n,.sy .n,.sy (.b 0 0),.sy .n,.pk,.n] [(4,.bool (bif decide (f.1<1)then true else decide ((255:Int)<f.1)))] 1 ?_;refine U9 e ?_ ?_<;>intro h e;refine Ub 2 ?_;exact V0 ⟨rfl,rfl,e⟩;refine U0 2 ?_;refine Vi [1] l4l (λs t=>∃(u:Bool),s=[(13,.bool u)]/\t=[]/\F.b6 f u=some r) ?_ ?_;refine V9 mixed 14 14 (A.mb 14 0) ?_;refine V4 Vn [] l4l [1] [] (A.mb 14 3) 12 [(0,.n),(1,.b 0 1)] [(15,A.i f.2.1)] (Vu 2 ?_);refine Ue 2 [] e (o_aM f.2.1 k) .nil ?_;rintro z - e _ _ ⟨rfl,rfl,hr21⟩;refine Vs (Vz (A.mb 14 7) l4l ?_);refine V4 Vn l4l l4l [] [] (A.mb 14 31) 9 [(3,.n),(4,.n)] [(18,.bool (decide (z<0)))] (Kk (j:=18) rfl e ?_ ?_)<;>intro h e;refine V4 Vn l4l l4l [] [] (A.mb 14 16383) 0 [(5,.off),(8,.off),(6,.off),(9,.off),(7,.off),(10,.off),(11,.off),(12,.n),(13,.n)] [(13,QC)] (Vt ?_);exact V0 ⟨true,rfl,rfl,e⟩;refine V4 Vn l4l l4l [1] [] (A.mb 14 1023) 4 [(5,.on .n),(8,.on .n),(6,.on (.b 0 2)),(9,.on (.b 0 1)),(7,.on .n)] [(23,A.i f.2.1),(21,A.i (f.2.2.1.length:Int))] (Vu 10 ?_);refine Vo (dj:=18) rfl rfl ?_;refine Ue 42 [] e (o_aM f.2.1 k) .nil ?_;rintro y - e _ _ ⟨rfl,rfl,hr24⟩;refine Vs (Vz (A.mb 14 2047) l4l ?_);refine V4 Vn l4l l4l [] [] (A.mb 14 16383) 0 [(11,.on .n),(12,.n),(13,.n)] [(13,.bool (decide ((f.2.2.1.length:Int)≠y)))] (Vt ?_);exact V0 ⟨(decide ((f.2.2.1.length:Int)≠y)),rfl,rfl,e⟩;rintro _ _ ⟨u,rfl,rfl,e⟩;rw[F.b6]at e;refine U9 e ?_ ?_<;>intro h e;refine Ub 1 ?_;exact V0 ⟨rfl,rfl,e⟩;refine Uj 5 [1] [] [.n,.b 0 1,.n,.n] [(3,.bool (decide (f.2.1=14)))] ?_;refine Uq 3 ?_;refine Uw 2 [(31,.bool (decide (f.2.1=14)))] (V6 (j:=31) rfl e ?_ ?_)<;>intro h e;refine Vp [1] [] [.on .n,.on (.b 0 7),.on .n,.on .n,.sy .n,.sy (.b 0 7),.sy .n,.on .pk,.on .n,.sy .n,.sy (.b 0 8),.sy .n,.on .pk,.on .n,.sy .n,.sy (.b 0 8),.sy .n,.on .pk,.n,.n] [(51,.bool (bif bif bif decide (f.2.2.2.2.2.1<1)then true else decide ((8:Int)<f.2.2.2.2.2.1)then true else decide (f.2.2.2.2.2.2<1)then true else decide ((4:Int)<f.2.2.2.2.2.2)))] (Uh (j:=51) rfl e (λe=>?_) (λe=>?_));refine V5 [] [] [.off,.off,.off,.off,.off,.off,.off,.off,.off,.off,.off,.off,.n] [(64,QC)] 1 ?_;refine Vw rfl ?_;refine Vq 1 1 [(2,QB)] 1 ?_;exact A.ke e (Vx ⟨rfl,rfl⟩);refine Vp [] [] [.on .n,.on .n,.on .n] [(54,.bool (!(decide (f.2.1=14))))] (Uh (j:=54) rfl e (λe=>?_) (λe=>?_));refine V5 [1] [] [.on .n,.on (.b 0 7),.on .n,.on .n,.sy .n,.sy (.b 0 8),.sy .n,.on .pk,.on .n,.n] [(64,.bool (bif decide (f.2.2.2.2.2.1≠0)then true else decide (f.2.2.2.2.2.2≠0)))] 1 ?_;refine U9 e ?_ ?_<;>intro h e;refine Vq 1 1 [(2,QB)] 1 ?_;exact A.ke e (Vx ⟨rfl,rfl⟩);refine Uj 4 [1] [] [.n,.b 0 1] [(66,A.i f.2.1)] ?_;refine Ue 82 [] e (o_j f.2.1 k) .nil ?_;rintro r3 - e _ _ ⟨rfl,rfl⟩;refine Vs (Kh 1 ?_);refine U9 e ?_ ?_<;>intro h e;refine Uj 1 [1] [] [.n,.b 0 6] [(69,.string f.2.2.2.2.1)] ?_;refine Ue 122 [] e (o_r f.2.2.2.2.1 o) .nil ?_;rintro B - e _ _ ⟨rfl,rfl⟩;refine Vs (Vy 1 [(2,.bool B)] 1 ?_);exact A.ke e (Vx ⟨rfl,rfl⟩);refine Uy 3 [1] [] [.n,.b 0 6,.n,.n] [(2,.bool (decide (f.2.2.2.2.1=(QE))))] 1 ?_;exact A.ke e (Vx ⟨rfl,rfl⟩);refine V5 [] [] [.off,.off,.off,.off,.off,.off,.off,.off,.on .n,.n] [(64,QB)] 1 ?_;refine V2 rfl ?_;refine Uj 4 [1] [] [.n,.b 0 1] [(66,A.i f.2.1)] ?_;refine Ue 162 [] e (o_j f.2.1 k) .nil ?_;rintro r7 - e _ _ ⟨rfl,rfl⟩;refine Vs (Kh 1 ?_);refine U9 e ?_ ?_<;>intro h e;refine Uj 1 [1] [] [.n,.b 0 6] [(69,.string f.2.2.2.2.1)] ?_;refine Ue 202 [] e (o_r f.2.2.2.2.1 o) .nil ?_;rintro E - e _ _ ⟨rfl,rfl⟩;refine Vs (Vy 1 [(2,.bool E)] 1 ?_);exact A.ke e (Vx ⟨rfl,rfl⟩);refine Uy 3 [1] [] [.n,.b 0 6,.n,.n] [(2,.bool (decide (f.2.2.2.2.1=(QE))))] 1 ?_;exact A.ke e (Vx ⟨rfl,rfl⟩);refine Vp [] [] [.off,.off,.off,.off,.off,.off,.off,.off,.off,.off,.off,.off,.off,.off,.off,.off,.off,.off,.n,.n,.on .n,.on .n,.on .n] [(51,QB),(54,.bool (!(decide (f.2.1=14))))] (Uh (j:=54) rfl e (λe=>?_) (λe=>?_));refine V5 [1] [] [.on .n,.on (.b 0 7),.on .n,.on .n,.sy .n,.sy (.b 0 8),.sy .n,.on .pk,.on .n,.n] [(64,.bool (bif decide (f.2.2.2.2.2.1≠0)then true else decide (f.2.2.2.2.2.2≠0)))] 1 ?_;refine U9 e ?_ ?_<;>intro h e;refine Vq 1 1 [(2,QB)] 1 ?_;exact A.ke e (Vx ⟨rfl,rfl⟩);refine Uj 4 [1] [] [.n,.b 0 1] [(66,A.i f.2.1)] ?_;refine Ue 242 [] e (o_j f.2.1 k) .nil ?_;rintro a3 - e _ _ ⟨rfl,rfl⟩;refine Vs (Kh 1 ?_);refine U9 e ?_ ?_<;>intro h e;refine Uj 1 [1] [] [.n,.b 0 6] [(69,.string f.2.2.2.2.1)] ?_;refine Ue 282 [] e (o_r f.2.2.2.2.1 o) .nil ?_;rintro I - e _ _ ⟨rfl,rfl⟩;refine Vs (Vy 1 [(2,.bool I)] 1 ?_);exact A.ke e (Vx ⟨rfl,rfl⟩);refine Uy 3 [1] [] [.n,.b 0 6,.n,.n] [(2,.bool (decide (f.2.2.2.2.1=(QE))))] 1 ?_;exact A.ke e (Vx ⟨rfl,rfl⟩);refine V5 [] [] [.off,.off,.off,.off,.off,.off,.off,.off,.on .n,.n] [(64,QB)] 1 ?_;refine V2 rfl ?_;refine Uj 4 [1] [] [.n,.b 0 1] [(66,A.i f.2.1)] ?_;refine Ue 322 [] e (o_j f.2.1 k) .nil ?_;rintro a4 - e _ _ ⟨rfl,rfl⟩;refine Vs (Kh 1 ?_);refine U9 e ?_ ?_<;>intro h e;refine Uj 1 [1] [] [.n,.b 0 6] [(69,.string f.2.2.2.2.1)] ?_;refine Ue 362 [] e (o_r f.2.2.2.2.1 o) .nil ?_;rintro J - e _ _ ⟨rfl,rfl⟩;refine Vs (Vy 1 [(2,.bool J)] 1 ?_);exact A.ke e (Vx ⟨rfl,rfl⟩);refine Uy 3 [1] [] [.n,.b 0 6,.n,.n] [(2,.bool (decide (f.2.2.2.2.1=(QE))))] 1 ?_;exact A.ke e (Vx ⟨rfl,rfl⟩);rintro _ _ ⟨rfl,rfl,e⟩;rw[F.b5]at e;refine Vq 2 1 [(2,QB)] 1 ?_;exact A.ke e (Vx ⟨rfl,rfl⟩)
def F.en (e:Int):Option (Int×Int):=if e=2 then(some (1,8))else(if e=3 then(some (11,13))else(if e=4 then(some (21,22))else(if e=8 then(some (31,34))else(if e=11 then(some (41,42))else(some (0,-1))))))
theorem o_bc (f:Int)(k:A.h6 f)(r:Int×Int)(e:F.en f=some r):
    A.Ct Tryz.prog 132 [A.i f] [] [] (λv H'=>v=.tuple #[A.i r.1,A.i r.2]/\H'=[]/\A.h6 r.1/\A.h6 r.2):=by
 refine Vh Tryz.func132 rfl Tryz.ntmps132 rfl λo s=>?_;rw[F.en]at e;refine Vl 1 ?_;refine Vr 2 [] 3 ?_;refine Vr 1 [(4,A.i f)] 3 ?_;refine Vy 2 [(5,.bool (decide (f=2)))] 1 ?_;refine Km e ?_ ?_<;>intro h e;refine Vq 1 2 [(2,A.i 1),(3,A.i 8)] 1 ?_;obtain rfl:=V8 e;exact U8 [] ⟨rfl,rfl,(V1 1),(V1 8)⟩;refine V7 1 2 [(7,.bool (decide (f=3)))] 1 e ?_ ?_<;>intro h e;refine Vq 1 2 [(2,A.i 11),(3,A.i 13)] 1 ?_;obtain rfl:=V8 e;exact U8 [] ⟨rfl,rfl,(V1 11),(V1 13)⟩;refine V7 1 2 [(9,.bool (decide (f=4)))] 1 e ?_ ?_<;>intro h e;refine Vq 1 2 [(2,A.i 21),(3,A.i 22)] 1 ?_;obtain rfl:=V8 e;exact U8 [] ⟨rfl,rfl,(V1 21),(V1 22)⟩;refine V7 1 2 [(11,.bool (decide (f=8)))] 1 e ?_ ?_<;>intro h e;refine Vq 1 2 [(2,A.i 31),(3,A.i 34)] 1 ?_;obtain rfl:=V8 e;exact U8 [] ⟨rfl,rfl,(V1 31),(V1 34)⟩;refine V7 1 2 [(13,.bool (decide (f=11)))] 1 e ?_ ?_<;>intro h e;refine Vq 1 2 [(2,A.i 41),(3,A.i 42)] 1 ?_;obtain rfl:=V8 e;exact U8 [] ⟨rfl,rfl,(V1 41),(V1 42)⟩;refine Vq 4 2 [(2,A.i 0),(3,A.i (-1))] 1 ?_;obtain rfl:=V8 e;exact U8 [] ⟨rfl,rfl,Vv,(V1 (-1))⟩
def F.eB (e:Int):Option (Int×Int):=(F.en e).bind λf=>(some f)
theorem o_cO (e:Int)(s:A.h6 e)(r:(Int×Int))(f:F.eB e=some r):
    A.Ct Tryz.prog 133 [A.i e] [] [] (λv H'=>∃(g0':Nat) (g1':Nat),v=.func (.func 164) #[] #[.pointer (some ⟨g0',0,none⟩),.pointer (some ⟨g1',0,none⟩)]/\H'=[(0,.blk g0' 3 [A.i r.1]),(1,.blk g1' 3 [A.i r.2])]/\A.h6 r.1/\A.h6 r.2):=by
 refine Vh Tryz.func133 rfl Tryz.ntmps133 rfl λt u=>?_;rw[F.eB]at f;refine Vl 1 ?_;refine Vr 1 [] 2 ?_;refine Uw 1 [(6,A.i e)] (Ue 0 [] f (o_bc e s) .nil ?_);rintro h - f _ _ ⟨rfl,rfl,hr3,hr4⟩;refine Vs (Uw 3 [(8,A.i h.1),(9,A.i h.2)] (Vj 40 (cs:=l4k) Tryz.zeroValue3 λk=>?_));refine Vj 41 (cs:=l4k) Tryz.zeroValue3 λo=>?_;refine Ul 40 [] [A.i h.1] ?_;refine Ul 41 [] [A.i h.2] ?_;refine Uq 2 ?_;refine Vy 2 [(2,.func (.func 164) #[] #[.pointer (some ⟨k,0,none⟩),.pointer (some ⟨o,0,none⟩)])] 1 ?_;obtain rfl:=V8 f;exact Kj [(0,40),(1,41)] ⟨k,o,rfl,rfl,hr3,hr4⟩
def F.cO (e:D46)(f:Bool):Option Bool:=if f=true then(some (bif decide ((1:Int)<=e.2.1)then decide (e.2.1<=1048576)else false))else(some (decide (e.2.1=0)))
def F.cP (e:D46)(f:Bool):Option Bool:=if f=true then(some (bif decide ((0:Int)<=e.2.1)then decide (e.2.1<=64)else false))else(if e.1=6 then(F.cO e (decide (e.1=6)))else(F.cO e (decide (e.1=11))))
def F.dW (e:D46):Option Bool:=if e.1=3 then(F.cP e (decide (e.1=3)))else(F.cP e (decide (e.1=13)))
theorem o_b1 (e:D46)(u:A.h6 e.1)(y:A.h6 e.2.1)(z:e.2.2.size<=maxLen)(r:Bool)(f:F.dW e=some r):
    A.Ct Tryz.prog 134 [(A.rap e)] [] [] (λv H'=>v=.bool r/\H'=[]):=by
 refine Vh Tryz.func134 rfl Tryz.ntmps134 rfl λB E=>?_;rw[F.dW]at f;refine Vl 1 ?_;refine Vm 0 (cs:=(A.raj e)) λI=>?_;refine Vr 1 [] 3 ?_;refine V5 [0] [] [.n,.b 0 0] [(4,A.i e.1)] 2 ?_;refine Vi [1,4] [0] (λh k=>∃(o:Bool),h=[(5,.bool o)]/\k=[]/\F.cP e o=some r) ?_ ?_;refine V7 1 2 [(5,.bool (decide (e.1=3)))] 1 f ?_ ?_<;>intro s f;refine Ub 1 ?_;exact V0 ⟨(decide (e.1=3)),rfl,rfl,f⟩;refine Uf 0 2 [(5,.bool (decide (e.1=13)))] ?_;refine Vg ?_;exact V0 ⟨(decide (e.1=13)),rfl,rfl,f⟩;rintro _ _ ⟨o,rfl,rfl,f⟩;rw[F.cP]at f;refine U9 f ?_ ?_<;>intro s f;refine Uy 1 [0] [] [.n,.b 0 1,.n,.n,.sy .n,.sy (.b 0 1),.sy .n,.pk,.n] [(2,.bool (bif decide ((0:Int)<=e.2.1)then decide (e.2.1<=64)else false))] 1 ?_;exact A.ke f (Vx ⟨rfl,rfl⟩);refine Vi [1] [0] (λh k=>∃(t:Bool),h=[(16,.bool t)]/\k=[]/\F.cO e t=some r) ?_ ?_;refine V7 1 2 [(16,.bool (decide (e.1=6)))] 1 f ?_ ?_<;>intro s f;refine Ub 1 ?_;exact V0 ⟨(decide (e.1=6)),rfl,rfl,f⟩;refine Uf 0 2 [(16,.bool (decide (e.1=11)))] ?_;refine Vg ?_;exact V0 ⟨(decide (e.1=11)),rfl,rfl,f⟩;rintro _ _ ⟨t,rfl,rfl,f⟩;rw[F.cO]at f;refine U9 f ?_ ?_<;>intro s f;refine Uy 1 [0] [] [.n,.b 0 1,.n,.n,.sy .n,.sy (.b 0 1),.sy .n,.pk,.n] [(2,.bool (bif decide ((1:Int)<=e.2.1)then decide (e.2.1<=1048576)else false))] 1 ?_;exact A.ke f (Vx ⟨rfl,rfl⟩);refine Uy 4 [0] [] [.n,.b 0 1,.n,.n] [(2,.bool (decide (e.2.1=0)))] 1 ?_;exact A.ke f (Vx ⟨rfl,rfl⟩)
def F.b7 (e:Bool):Option Bool:=some e
def F.bv (e:ByteArray):Nat->Nat->Int->Option Bool
 |0,_,_=>none
 |f+1,h,k=>if h<e.size then(A.gd (Z.R64 (k+1)) ((F.bv e f) (h+(Utf8.decode e h).2) (k+1)))else(if k=1 then((F.ah e).bind λo=>(F.b7 o))else(F.b7 false))
def F.dX (e:ByteArray):Option Bool:=F.bv e A.FU 0 0
theorem o_b2 (h:ByteArray)(I:h.size<=maxLen)(r:Bool)(e:F.dX h=some r):
    A.Ct Tryz.prog 165 [.string h] [(0,.el none 0 0 A.tabF),(1,.el none 1 0 A.tabA)] [] (λv H'=>v=.bool r/\H'=[]):=by
 refine Vh Tryz.func165 rfl Tryz.ntmps165 rfl λN U=>?_;rw[F.dX]at e;refine Vl 1 ?_;refine Vr 1 [] 2 ?_;refine Vr 1 [(3,A.i 0)] 3 ?_;refine Uw 1 [(4,.string h)] (A.AL.rgs 2 λJ=>?_);refine Kh 2 ?_;refine Ud [0,5] l4l (λf t u=>∃(o:Nat)(k:Int),t=[(3,A.i k)]/\u=[(2,.si J h o)]/\A.h6 k/\F.bv h f o k=some r) ⟨0,0,rfl,rfl,Vv,e⟩ ?_;rintro z _ _ ⟨o,k,rfl,rfl,W,e⟩;rcases z with _|z
 exact Ua e;rw[F.bv]at e;refine Vl 1 ?_;refine A.AL.nxs 2 [] e (λhb6 e=>?_) (λL e=>?_);refine Vy 1 [(7,QC)] 2 ?_;refine Vw rfl ?_;refine Vl 3 ?_;have⟨B,e⟩:=Ui e;refine U3 3 [Z.R64 (k+1)] [(3,A.i (k+1))] B (Ki 1 ?_);exact V0 ⟨_,Qo _,⟨(o+(Utf8.decode h o).2),(k+1),rfl,rfl,(Vk B),e⟩⟩;refine Vy 1 [(7,QB)] 2 ?_;refine V2 rfl ?_;refine U0 2 ?_;refine Vi [] l4l (λt u=>∃(y:Bool),t=[(2,.bool y)]/\u=[]/\F.b7 y=some r) ?_ ?_;refine Uf 0 3 [(12,.bool (decide (k=1)))] ?_;refine V6 (j:=12) rfl e ?_ ?_<;>intro L e;refine Vp [] [] [.on .n] [(13,.string h)] (Vo (dj:=12) rfl rfl ?_);refine Ue 83 [] e (o_o h I) (.s 0 (.s 1 .nil)) ?_;rintro E - e _ _ ⟨rfl,rfl⟩;refine Vs (Uw 2 [(2,.bool E)] (Vg ?_));exact V0 ⟨E,rfl,rfl,e⟩;refine Vp [] [] [.off,.off,.n,.n] [(2,QB)] (Vg ?_);exact V0 ⟨false,rfl,rfl,e⟩;rintro _ _ ⟨y,rfl,rfl,e⟩;rw[F.b7]at e;exact A.ke e (Vx ⟨rfl,rfl⟩)
def F.dA (e:Bool):Option Bool:=some e
def F.dB (e:D46)(f:Bool):Option Bool:=if f=true then((F.dX e.2.2).bind λh=>(some h))else(some (decide (e.2.2=(QE))))
def F.eo (e:D46):Option Bool:=if e.1=5 then(if(bif decide (e.2.2≠(QE))then decide ((e.2.2.size:Int)<=16)else false)=true then((F.ah e.2.2).bind λf=>(F.dA f))else(F.dA false))else(if e.1=12 then(F.dB e (decide (e.1=12)))else(F.dB e (decide (e.1=22))))
theorem o_cP (f:D46)(E:A.h6 f.1)(I:A.h6 f.2.1)(u:f.2.2.size<=maxLen)(r:Bool)(e:F.eo f=some r):
    A.Ct Tryz.prog 135 [(A.rap f)] [(0,.el none 0 0 A.tabF),(1,.el none 1 0 A.tabA)] [] (λv H'=>v=.bool r/\H'=[]):=by
 refine Vh Tryz.func135 rfl Tryz.ntmps135 rfl λJ L=>?_;rw[F.eo]at e;refine Vl 1 ?_;refine Vm 2 (cs:=(A.raj f)) λN=>?_;refine Vr 1 [] 3 ?_;refine Vp [2] [] [.n,.b 0 0] [(4,A.i f.1)] (Uq 3 ?_);refine Vy 2 [(5,.bool (decide (f.1=5)))] 1 ?_;refine Km e ?_ ?_<;>intro y e;refine Vi [] l4l (λh k=>∃(o:Bool),h=[(2,.bool o)]/\k=[]/\F.dA o=some r) ?_ ?_;refine Uj 0 [2] [] [.n,.b 0 2,.n,.n,.sy .n,.sy (.b 0 2),.sy .n,.sy .n,.pk,.n] [(16,.bool (bif decide (f.2.2≠(QE))then decide ((f.2.2.size:Int)<=16)else false))] ?_;refine Uh (j:=16) rfl e (λe=>?_) (λe=>?_);refine Vp [2] [] [.on .n,.on (.b 0 2)] [(18,.string f.2.2)] (Vo (dj:=16) rfl rfl ?_);refine Ue 3 [] e (o_o f.2.2 u) (.s 0 (.s 1 .nil)) ?_;rintro z - e _ _ ⟨rfl,rfl⟩;refine Vs (Uw 2 [(2,.bool z)] (Vg ?_));exact V0 ⟨z,rfl,rfl,e⟩;refine Vp [] [] [.off,.off,.off,.n,.n] [(2,QB)] (Vg ?_);exact V0 ⟨false,rfl,rfl,e⟩;rintro _ _ ⟨o,rfl,rfl,e⟩;rw[F.dA]at e;exact A.ke e (Vx ⟨rfl,rfl⟩);refine Vi [1] [0,1,2] (λh k=>∃(t:Bool),h=[(21,.bool t)]/\k=[]/\F.dB f t=some r) ?_ ?_;refine V7 1 2 [(21,.bool (decide (f.1=12)))] 1 e ?_ ?_<;>intro y e;refine Ub 1 ?_;exact V0 ⟨(decide (f.1=12)),rfl,rfl,e⟩;refine Uf 0 2 [(21,.bool (decide (f.1=22)))] ?_;refine Vg ?_;exact V0 ⟨(decide (f.1=22)),rfl,rfl,e⟩;rintro _ _ ⟨t,rfl,rfl,e⟩;rw[F.dB]at e;refine U9 e ?_ ?_<;>intro y e;refine Uj 1 [2] [] [.n,.b 0 2] [(25,.string f.2.2)] ?_;refine Ue 43 [] e (o_b2 f.2.2 u) (.s 0 (.s 1 .nil)) ?_;rintro B - e _ _ ⟨rfl,rfl⟩;refine Vs (Vy 1 [(2,.bool B)] 1 ?_);exact A.ke e (Vx ⟨rfl,rfl⟩);refine Uy 4 [2] [] [.n,.b 0 2,.n,.n] [(2,.bool (decide (f.2.2=(QE))))] 1 ?_;exact A.ke e (Vx ⟨rfl,rfl⟩)
def F.cM (h:Int):Nat->Int->Option (QP)
 |0,_=>none
 |f+1,e=>if e<=h then(A.cns e (A.gd (Z.R64 (e+1)) ((F.cM h f) (e+1))))else(some [])
def F.a0 (e:Int)(f:Int):Option (QP):=F.cM f A.FU e
theorem o_bd(o:Int)(s:Int)(z:A.h6 o)(U:A.h6 s)(xs:QP)(h:F.a0 o s=some xs):
    A.Sq Tryz.prog 164 [.pointer (some ⟨g0_,0,none⟩),.pointer (some ⟨g2_,0,none⟩)] [(0,.el none g0_ 0 [A.i o]),(1,.el none g2_ 0 [A.i s])] A.ti (λcs=>[Z.vof false cs]) xs:=by
 refine A.Sq.enter Tryz.func164 rfl Tryz.ntmps164 rfl λlid B J Jx Φ hY hJ0=>?_;obtain⟨rs0,hrs⟩: ∃rs0,rs0=xs:=⟨_,rfl⟩;have hR0:A.Rem xs 0 rs0:=hrs▸A.Rem.zero xs;rw[F.a0,<-hrs]at h;clear hrs;refine Uy 1 [] [0] [.e 0 0,.n] [(4,A.i o)] 2 ?_;refine A.AX.loopC (A.CY 15 Φ) (0,B) [0,2] [1] [1] (λf i E I=>∃(k:Int)(rs:QP),E=[(4,A.i k)]/\I=[]/\A.h6 k/\J i.1 i.2/\A.Rem xs i.1 rs/\F.cM s f k=some rs) A.FU [(4,A.i o)] [] ⟨o,_,rfl,rfl,z,hJ0,hR0,h⟩ ?_;rintro t ⟨L,W⟩ _ _ ⟨k,rs8,rfl,rfl,N,hJ6,hR7,h⟩;rcases t with _|t
 exact Ua h;rw[F.cM]at h;refine Uy 2 [] [1] [.n,.e 0 0,.n] [(8,.bool (decide (k<=s)))] 1 ?_;refine Km h ?_ ?_<;>intro hb h;refine Uf 5 2 [(11,.func (.yield lid) #[] #[]),(12,A.i k)] ?_;obtain⟨rs9,hqrs9,h⟩:=Uu h;refine Uv hY hJ6 (hqrs9▸hR7) [A.i k] ⟨rfl,N⟩ (λu hJ11 hR12=>?_) (λu hX13=>?_);refine Vy 1 [(14,QB)] 1 ?_;refine V2 rfl ?_;refine Vl 3 ?_;have⟨y,h⟩:=Ui h;refine U3 3 [Z.R64 (k+1)] [(4,A.i (k+1))] y (Vg ?_);exact Un (L+1,u) [1] [(4,A.i (k+1))] [] ⟨_,Qo _,⟨(k+1),_,rfl,rfl,(Vk y),hJ11,hR12,h⟩⟩;refine Vy 1 [(14,QC)] 1 ?_;refine Vw rfl ?_;exact U4 hY hX13;refine Ub 1 ?_;obtain rfl:=V8 h;exact A.AE.rtY hY hJ6 hR7
def F.cx (e:Option Int)(f:Bool):Option Int:=if f=true then(some 0)else(e)
def F.aC (e:D46):QP->Option Int
 | []=>some 60
 |h::f=>if h=e.1 then((F.dW e).bind λk=>(if k=true then((F.eo e).bind λo=>(F.cx (F.aC e f) o))else(F.cx (F.aC e f) false)))else(F.cx (F.aC e f) false)
def F.dP (e:Int)(f:D46):Option Int:=(F.en e).bind λk=>(if k.2<0 then(if f≠(0,0,QE)then(some 60)else(some 0))else((F.eB e).bind λh=>((F.a0 h.1 h.2).bind λo=>F.aC f o)))
theorem o_cr (h:Int)(f:D46)(I:A.h6 h)(J:A.h6 f.1)(L:A.h6 f.2.1)(N:f.2.2.size<=maxLen)(r:Int)(e:F.dP h f=some r):
    A.Ct Tryz.prog 89 [A.i h,(A.rap f)] [(0,.el none 0 0 A.tabF),(1,.el none 1 0 A.tabA)] [] (λv H'=>v=A.i r/\H'=[]/\A.h6 r):=by
 refine A.Ct.enterM Tryz.func89 rfl Tryz.ntmps89 rfl λw0 F0=>?_;rw[F.dP]at e;refine Vl 1 ?_;refine Vm 2 (cs:=(A.raj f)) λg1=>?_;refine Vj 3 (cs:=l4k) Tryz.zeroValue52 λg2=>?_;refine Uq 3 ?_;refine Uw 1 [(9,A.i h)] (Ue 4 [] e (o_bc h I) .nil ?_);rintro U - e _ _ ⟨rfl,rfl,hr5,hr6⟩;refine Vs (Vr 5 [(6,A.i U.2)] 2 ?_);refine Vy 2 [(14,.bool (decide (U.2<0)))] 1 ?_;refine Km e ?_ ?_<;>intro u e;refine Uj 2 [2] [] [.b 0 0,.n] [(15,(A.rap f)),(16,.agg #[A.i 0,A.i 0,.string (QE)])] ?_;refine Ux rfl (λa w hf hh=>eqagg_neq47 (x:=f) (y:=(0,0,QE)) (hf.eval rfl) (hf.eval rfl)) ?_;refine Kh 1 ?_;refine Km e ?_ ?_<;>intro u e;refine Vl 1 ?_;refine Ul 3 [] [A.i 60] ?_;refine Kh 1 ?_;obtain rfl:=V8 e;exact Kv (Ds:=[]) [] [] (A.i 60) (trivial) (λa w hf hh=>Kp rfl (Z.rv_1 hf rfl Tryz.isAgg52 (Ur hh 3))) (⟨rfl,rfl,(V1 60)⟩);refine Vl 3 ?_;refine Ul 3 [] [A.i 0] ?_;refine Kh 1 ?_;obtain rfl:=V8 e;exact Kv (Ds:=[]) [] [] (A.i 0) (trivial) (λa w hf hh=>Kp rfl (Z.rv_1 hf rfl Tryz.isAgg52 (Ur hh 3))) (⟨rfl,rfl,Vv⟩);refine Uf 4 1 [(18,A.i h)] ?_;refine Ue 44 [] e (o_cO h I) .nil ?_;rintro t - e _ _ ⟨W,a2,rfl,rfl,hr10,hr12⟩;refine Vs (Kh 2 ?_);have⟨z,a7,e⟩:=Uz e;refine A.AX.rgf 84 85 86 [0,1,2,3,44,45] [0,1,2,3,44,45] [85,84,0,1,2,3,44,45] (λk B=>B=[]/\F.aC f (List.drop k z)=some r) [] cf164 (o_bd W a2 t.1 t.2 hr10 hr12 z a7) (λ_=>rfl) ⟨rfl,e⟩ ?_ ?_ ?_;rintro a3 _ D15 L16 ⟨rfl,e⟩;exact⟨⟨_,(.b 44 (.b 45 .nil))⟩,rfl,λo=>rfl⟩;rintro a3 _ a4 D15 L16 a9 aa ⟨rfl,e⟩ hx23 hxo24 a5;rw[A.drop_at hx23,F.aC]at e;refine Uf 0 1 [(7,A.i a4)] ?_;refine Vg ?_;refine A.AE.flip 84 85 λab=>?_;refine U0 1 ?_;refine Vi [3,4] [0,1,2,3,44,45,84,85] (λnl B=>∃(E:Bool),nl=[(32,.bool E)]/\B=[]/\F.cx (F.aC f (List.drop (a3+1) z)) E=some r) ?_ ?_;refine Uj 0 [2] [] [.n,.n,.b 0 0,.n,.n] [(25,.bool (decide (a4=f.1)))] ?_;refine V6 (j:=25) rfl e ?_ ?_<;>intro u e;refine Vp [2] [] [.on (.b 0 0)] [(26,(A.rap f))] (Vo (dj:=25) rfl rfl ?_);refine Ue 167 [] e (o_b1 f J L N) .nil ?_;rintro a8 - e _ _ ⟨rfl,rfl⟩;refine Vs (Uw 2 [(29,.bool a8)] (Uh (j:=29) rfl e (λe=>?_) (λe=>?_)));refine Vp [2] [] [.on (.b 0 0)] [(30,(A.rap f))] (Vo (dj:=29) rfl rfl ?_);refine Ue 207 [] e (o_cP f J L N) (.s 0 (.s 1 .nil)) ?_;rintro a6 - e _ _ ⟨rfl,rfl⟩;refine Vs (Uw 1 [(32,.bool a6)] (Vg ?_));exact V0 ⟨a6,rfl,rfl,e⟩;refine Vp [] [] [.off,.off,.n] [(32,QB)] (Vg ?_);exact V0 ⟨false,rfl,rfl,e⟩;refine Vp [] [] [.off,.off,.n,.n,.off,.off,.n] [(32,QB)] (Vg ?_);exact V0 ⟨false,rfl,rfl,e⟩;rintro _ _ ⟨E,rfl,rfl,e⟩;rw[F.cx]at e;refine U9 e ?_ ?_<;>intro u e;refine Vl 1 ?_;refine Ul 3 [] [A.i 0] ?_;refine Kh 1 ?_;refine A.AX.bret a5 [85,2,3,44,45,84] 100000 [(85,100085),(2,100002),(3,100003),(44,100044),(45,100045),(84,100084),(0,0),(1,1)] [(2,.blk g1 47 (A.raj f)),(3,.blk g2 52 [A.i 0]),(44,.blk W 3 [A.i t.1]),(45,.blk a2 3 [A.i t.2]),(84,.ob D15 A.dfT),(0,.el none 0 0 A.tabF),(1,.el none 1 0 A.tabA)] ?_ rfl rfl;obtain rfl:=V8 e;exact A.AE.rtM (Ds:=[D15]) [84] [] (A.i 0) (⟨rfl,trivial⟩) (λa w hf hh=>Kp rfl (Z.rv_1 hf rfl Tryz.isAgg52 (Ur hh 3))) (⟨rfl,rfl,Vv⟩);refine Ub 2 ?_;exact A.AE.bn a5 [85,84,2,3,44,45] 100000 [(85,100085),(84,100084),(0,0),(1,1),(2,100002),(3,100003),(44,100044),(45,100045)] [] ⟨rfl,e⟩ rfl rfl;rintro _ D15 L16 ⟨rfl,e⟩;rw[Y3,F.aC]at e;refine A.el 3 ?_;refine Ul 3 [] [A.i 60] ?_;refine Kh 1 ?_;obtain rfl:=V8 e;exact Kv (Ds:=[D15]) [84] [] (A.i 60) (⟨rfl,trivial⟩) (λa w hf hh=>Kp rfl (Z.rv_1 hf rfl Tryz.isAgg52 (Ur hh 3))) (⟨rfl,rfl,(V1 60)⟩)
def F.bP (f:(QP)->(List (Int×Bool))->Int->Option (Bool×((List (Int×D48))×(QP)×(List (Int×Int)))))(e:Int)(h:QP)(k:List (Int×Bool)):Option (Bool×((List (Int×D48))×(QP)×(List (Int×Int)))):=A.gd (Z.R64 (e+1)) (f h k (e+1))
def F.bQ (f:Int->Option (Bool×((List (Int×D48))×(QP)×(List (Int×Int)))))(e:Int):Option (Bool×((List (Int×D48))×(QP)×(List (Int×Int)))):=A.gd (Z.R64 (e+1)) (f (e+1))
def F.bR (s:(QP)->(List (Int×Bool))->Int->Option (Bool×((List (Int×D48))×(QP)×(List (Int×Int)))))(t:Int->Option (Bool×((List (Int×D48))×(QP)×(List (Int×Int)))))(k:QP)(o:List (Int×Bool))(u:Int)(y:Int)(e:D48):Nat->Int->Option (Bool×((List (Int×D48))×(QP)×(List (Int×Int))))
 |0,_=>none
 |f+1,h=>if h<(e.2.2.1.length:Int)then((A.ix e.2.2.1 h).bind λz=>(A.lt (Z.mget (false:Bool) o z) λB=>(if(bif !B then decide (e.2.1≠14)else false)=true then(F.bQ t y)else(A.gd (Z.R64 (h+1)) ((F.bR s t k o u y e f) (h+1))))))else(A.gd ((List.length (α:=Int) k+List.length (α:=Int) [e.1])*8<=140737488355328) (F.bP s u (k++[e.1]) (Z.mins o e.1 true)))
def F.ai (h:(QP)->(List (Int×Bool))->Int->Option (Bool×((List (Int×D48))×(QP)×(List (Int×Int)))))(k:D23)(o:QP)(e:List (Int×Bool))(s:Int):Nat->Int->Option (Bool×((List (Int×D48))×(QP)×(List (Int×Int))))
 |0,_=>none
 |f+1,t=>if t<(k.length:Int)then((A.ix k t).bind λu=>(A.lt (Z.mget (false:Bool) e u.1) λy=>(if y=true then(F.bQ (F.ai h k o e s f) t)else(F.bR h (F.ai h k o e s f) o e s t u A.FU 0))))else(F.bP h s o e)
def F.u (h:((List (Int×D48))×(QP)×(List (Int×Int))))(e:D23):Nat->(QP)->(List (Int×Bool))->Int->Option (Bool×((List (Int×D48))×(QP)×(List (Int×Int))))
 |0,_,_,_=>none
 |f+1,k,s,o=>if o<(e.length:Int)then(F.ai (F.u h e f) e k s o A.FU 0)else(some (decide ((k.length:Int)=(e.length:Int)),(h.1,k,h.2.2)))
def F.cN (e:((List (Int×D48))×(QP)×(List (Int×Int))))(f:D23):Option (Bool×((List (Int×D48))×(QP)×(List (Int×Int)))):=F.u e f A.FU e.2.1 [] 0
theorem o_aN(E:((List (Int×D48))×(QP)×(List (Int×Int))))(o:D23)(r:Bool×((List (Int×D48))×(QP)×(List (Int×Int))))(h:F.cN E o=some r):
    A.Ct Tryz.prog 90 [.pointer (some ⟨g0_,0,none⟩),.agg #[.slice A5_ o.length c6_]] [(0,.blk g0_ 159 [.map (some b1_),.slice A2_ E.2.1.length c3_,.map (some b4_)]),(1,.mp Int (λi:Int=>A.i i) T48 true b1_ E.1),(2,.own A.ti 3 A2_ c3_ E.2.1),(3,.mp Int (λi:Int=>A.i i) A.ti false b4_ E.2.2),(4,.sh (.slice T48) [.slice A5_ o.length c6_] o)] ([g0_]++([b1_]++(Z.obl A2_++([b4_]++[])))) (λv H'=>∃(b0':Nat) (A1':QK) (c2':Nat) (b3':Nat),v=.bool r.1/\H'=[(0,.blk g0_ 159 [.map (some b0'),.slice A1' r.2.2.1.length c2',.map (some b3')]),(1,.mp Int (λi:Int=>A.i i) T48 true b0' r.2.1),(2,.own A.ti 3 A1' c2' r.2.2.1),(3,.mp Int (λi:Int=>A.i i) A.ti false b3' r.2.2.2)]):=by
 refine Vh Tryz.func90 rfl Tryz.ntmps90 rfl λw0 F0=>?_;rw[F.cN]at h;refine Vl 1 ?_;refine Vm 5 (cs:=[.slice A5_ o.length c6_]) λg1=>?_;refine Vr 1 [] 2 ?_;refine A.AL.mkm 6 Int (λi:Int=>A.i i) Z.Ty.bool false λb2=>?_;refine Vr 1 [(5,.map (some b2))] 3 ?_;refine V5 [5] [] [.n,.b 0 0,.n,.n] [(13,A.i (o.length:Int)),(14,A.i 0)] 2 ?_;refine Ud [0,3,5,13] [1,3,4,5] (λf J L=>∃(y:QP)(N:List (Int×Bool))(B:Int)(A3:QK)(c4:Nat),J=[(14,A.i B)]/\L=[(0,.blk g0_ 159 [.map (some b1_),.slice A3 y.length c4,.map (some b4_)]),(2,.own A.ti 3 A3 c4 y),(6,.mp Int (λi:Int=>A.i i) Z.Ty.bool false b2 N)]/\A.h6 B/\F.u E o f y N B=some r) ⟨E.2.1,[],0,A2_,c3_,rfl,rfl,Vv,h⟩ ?_;rintro W _ _ ⟨y,N,B,A3,c4,rfl,rfl,ao,h⟩;rcases W with _|W
 exact Ua h;rw[F.u]at h;refine V7 1 1 [(15,.bool (decide (B<(o.length:Int))))] 2 h ?_ ?_<;>intro hb h;refine U0 2 ?_;refine Vi [0,3,5,13,14] [1,3,4,5] (λJ L=>∃(a2:QP)(a3:List (Int×Bool))(a4:QK)(a5:Nat),J=[]/\L=[(0,.blk g0_ 159 [.map (some b1_),.slice a4 a2.length a5,.map (some b4_)]),(2,.own A.ti 3 a4 a5 a2),(6,.mp Int (λi:Int=>A.i i) Z.Ty.bool false b2 a3)]/\F.bP (F.u E o W) B a2 a3=some r) ?_ ?_;refine U0 1 ?_;refine A.AX.scope ?_;refine Uy 4 [5] [] [.n,.b 0 0,.n,.n] [(17,.slice A5_ o.length c6_),(18,A.i (o.length:Int)),(19,A.i 0)] 2 ?_;refine Ud [0,3,5,13,14,17,18] l4c (λf J L=>∃(I:Int),J=[(19,A.i I)]/\L=[]/\A.h6 I/\F.ai (F.u E o W) o y N B f I=some r) ⟨0,rfl,rfl,Vv,h⟩ ?_;rintro a6 _ _ ⟨I,rfl,rfl,ap,h⟩;rcases a6 with _|a6
 exact Ua h;rw[F.ai]at h;refine V7 1 1 [(20,.bool (decide (I<(o.length:Int))))] 2 h ?_ ?_<;>intro hb h;refine U0 2 ?_;refine Vi [0,3,5,13,14,17,18,19] l4c (λJ L=>J=[]/\L=[]/\F.bQ (F.ai (F.u E o W) o y N B a6) I=some r) ?_ ?_;refine Vl 2 ?_;have⟨s,ah,h⟩:=Uz h;refine Uk 4 111 ah λaj=>?_;intro a7 a8 aq ar;refine Vp [] [111] [.e 0 0] [(22,(A.rao s a7 a8))] (Vj 113 (cs:=l4a) Tryz.zeroValue49 λau=>?_);refine Ul 113 [] (A.rai s a7 a8) ?_;refine Uq 3 ?_;refine Vp [113] [] [.n,.n,.b 0 0] [(23,.map (some b2)),(25,A.i s.1)] ?_;obtain⟨av,ak,h⟩:=U2 h;refine Kw (t:=Z.Ty.bool) 6 114 (z:=(false:Bool)) (zs:=[QB]) ky3 s.1 Tryz.zeroValue4 rfl ak λaw=>?_;refine Kh 1 ?_;refine U9 h ?_ ?_<;>intro hb h;refine Ub 1 ?_;exact V0 ⟨rfl,rfl,h⟩;refine Uy 4 [113] [] [.n,.b 0 2,.n,.n] [(28,.slice a7 s.2.2.1.length a8),(29,A.i (s.2.2.1.length:Int)),(30,A.i 0)] 2 ?_;refine Ud [0,3,5,7,13,14,17,18,19,28,29] [0,1,2,3,4,5,6,112,113] (λf J L=>∃(U:Int),J=[(30,A.i U)]/\L=[]/\A.h6 U/\F.bR (F.u E o W) (F.ai (F.u E o W) o y N B a6) y N B I s f U=some r) ⟨0,rfl,rfl,Vv,h⟩ ?_;rintro ac _ _ ⟨U,rfl,rfl,ax,h⟩;rcases ac with _|ac
 exact Ua h;rw[F.bR]at h;refine V7 1 1 [(31,.bool (decide (U<(s.2.2.1.length:Int))))] 2 h ?_ ?_<;>intro hb h;refine Vl 5 ?_;have⟨a9,al,h⟩:=Uz h;refine Uk 112 121 al λay=>?_;intro az b0;refine Vp [] [121] [.e 0 0,.n] [(9,A.i a9)] (Uq 2 ?_);refine Uw 2 [(34,.map (some b2)),(35,A.i a9)] ?_;obtain⟨am,an,h⟩:=U2 h;refine Kw (t:=Z.Ty.bool) 6 122 (z:=(false:Bool)) (zs:=[QB]) ky3 a9 Tryz.zeroValue4 rfl an λb1=>?_;refine V5 [113] [] [.n,.n,.sy .n,.sy (.b 0 1),.sy .n,.pk] [(42,.bool (bif !am then decide (s.2.1≠14)else false))] 1 ?_;refine U9 h ?_ ?_<;>intro hb h;refine Ub 1 ?_;exact V0 ⟨rfl,rfl,h⟩;refine Vl 3 ?_;have⟨ad,h⟩:=Ui h;refine U3 2 [Z.R64 (U+1)] [(30,A.i (U+1))] ad (Vg ?_);exact V0 ⟨_,Qo _,⟨(U+1),rfl,rfl,(Vk ad),h⟩⟩;refine Uj 3 [113] [] [.n,.n,.b 0 0] [(44,.map (some b2)),(46,A.i s.1)] ?_;refine A.AL.mup (t:=Z.Ty.bool) 6 [] (cs:=[QC]) (u:=true) ky3 s.1 rfl ?_;refine Kh 2 ?_;refine V9 mixed 11 12 (A.mb 12 0) ?_;refine V4 Vn [] l4j [113,0] [] (A.mb 12 127) 5 [(0,.n),(1,.n),(5,.n),(2,.n),(6,.b 0 0),(3,.n),(4,.b 1 1)] [(47,.pointer (some ⟨g0_,0,none⟩)),(53,A.i s.1),(51,.slice A3 y.length c4)] (Vu 7 ?_);refine Ug 123 (ty:=A.ti) (cs:=[A.i s.1]) [s.1] ⟨⟨rfl,aj.1⟩,rfl⟩ (λb3=>?_) Tryz.zeroValue3 Tryz.sizeOf3;refine Vz (A.mb 12 255) l4j ?_;refine Vu 8 ?_;have⟨hl46,h⟩:=Ui h;refine Uo (k:=2) [] (Kd (k:=123) rfl) inf3 hl46 λaa ab=>?_;refine Vz (A.mb 12 511) l4j ?_;refine V4 Vn l4j [0,1,2,3,4,5,6,112,113,123] [] [] (A.mb 12 2047) 1 [(9,.n),(10,.n)] [(57,.pointer (some ⟨g0_,1,none⟩))] (Vu 11 ?_);refine V3 0 [] (new:=[.slice aa ((y++[s.1]).length) ab]) (cs':=[.map (some b1_),.slice aa ((y++[s.1]).length) ab,.map (some b4_)]) ?_;refine Ku (A.mb 12 4095) ?_;refine Vt ?_;refine A.ee 4 ?_;exact V0 ⟨(y++[s.1]),(Z.mins N s.1 true),aa,ab,rfl,rfl,h⟩;rintro _ _ ⟨rfl,rfl,h⟩;rw[F.bQ]at h;refine Vl 0 ?_;have⟨ae,h⟩:=Ui h;refine U3 2 [Z.R64 (I+1)] [(19,A.i (I+1))] ae (Vg ?_);exact V0 ⟨_,Qo _,⟨(I+1),rfl,rfl,(Vk ae),h⟩⟩;refine Ub 3 ?_;exact V0 ⟨y,N,A3,c4,rfl,rfl,h⟩;rintro _ _ ⟨a2,a3,a4,a5,rfl,rfl,h⟩;rw[F.bP]at h;refine Vl 0 ?_;have⟨ag,h⟩:=Ui h;refine U3 2 [Z.R64 (B+1)] [(14,A.i (B+1))] ag (Vg ?_);exact V0 ⟨_,Qo _,⟨a2,a3,(B+1),a4,a5,rfl,rfl,(Vk ag),h⟩⟩;refine U0 3 ?_;refine V9 mixed 10 10 (A.mb 10 0) ?_;refine V4 Vn [] l4c [5,0] [] (A.mb 10 1023) 0 [(0,.n),(5,.n),(1,.n),(6,.b 0 0),(2,.n),(7,.n),(3,.b 1 1),(4,.n),(8,.n),(9,.n)] [(4,.bool (decide ((y.length:Int)=(o.length:Int))))] (Vt ?_);refine A.ex 1 ?_;obtain rfl:=V8 h;exact Kj [(0,0),(1,1),(2,2),(3,3)] ⟨b1_,A3,c4,b4_,rfl,rfl⟩
def F.bl (e:Int):Option (Int×Bool):=some (e,bif decide ((0:Int)<=e)then decide (e<=4)else false)
def F.bm (e:Int):Option (Int×Bool):=some (e,decide (e=0))
def F.b2 (f:D48)(e:Int)(h:Bool):Option (Int×Bool):=if h=true then(some (0,false))else(if f.2.1=12 then(A.gd (Z.R64 (e+1)) (F.bl (e+1)))else(if f.2.1=13 then(A.gd (Z.R64 (e-1)) (F.bl (e-1)))else(if f.2.1=11 then(F.bm e)else(if f.2.1=16 then(F.bm e)else(if f.2.1=15 then(F.bm e)else(F.bl e))))))
def F.dQ (h:((List (Int×D48))×(QP)×(List (Int×Int))))(e:D48):Option (Int×Bool):=if e.2.1=1 then(some (0,true))else(if e.2.1=14 then(some (e.2.2.2.2.2.2,true))else((A.ix e.2.2.1 0).bind λk=>(A.lt (Z.mget (0:Int) h.2.2 k) λf=>(if(1:Int)<(e.2.2.1.length:Int)then((A.ix e.2.2.1 1).bind λo=>(A.lt (Z.mget (0:Int) h.2.2 o) λs=>(F.b2 e f (decide (s≠f)))))else(F.b2 e f false)))))
theorem o_aV(o:((List (Int×D48))×(QP)×(List (Int×Int))))(h:D48)(aa:A.h6 h.1)(ab:A.h6 h.2.1)(ac:A.h6 h.2.2.2.1.1)(ad:A.h6 h.2.2.2.1.2.1)(ae:h.2.2.2.1.2.2.size<=maxLen)(ag:h.2.2.2.2.1.size<=maxLen)(ah:A.h6 h.2.2.2.2.2.1)(a6:A.h6 h.2.2.2.2.2.2)(r:Int×Bool)(f:F.dQ o h=some r):
    A.Ct Tryz.prog 136 [.pointer (some ⟨g0_,0,none⟩),(A.rao h A7_ c8_)] [(0,.blk g0_ 159 [.map (some b1_),.slice A2_ o.2.1.length c3_,.map (some b4_)]),(1,.mp Int (λi:Int=>A.i i) T48 true b1_ o.1),(2,.own A.ti 3 A2_ c3_ o.2.1),(3,.mp Int (λi:Int=>A.i i) A.ti false b4_ o.2.2),(4,.sh A.TI [.slice A7_ h.2.2.1.length c8_] h.2.2.1)] ([g0_]++([b1_]++(Z.obl A2_++([b4_]++[])))) (λv H'=>v=.tuple #[A.i r.1,.bool r.2]/\H'=[(0,.blk g0_ 159 [.map (some b1_),.slice A2_ o.2.1.length c3_,.map (some b4_)]),(1,.mp Int (λi:Int=>A.i i) T48 true b1_ o.1),(2,.own A.ti 3 A2_ c3_ o.2.1),(3,.mp Int (λi:Int=>A.i i) A.ti false b4_ o.2.2)]/\A.h6 r.1):=by
 refine Vh Tryz.func136 rfl Tryz.ntmps136 rfl λw0 F0=>?_;rw[F.dQ]at f;refine Vl 1 ?_;refine Vm 5 (cs:=(A.rai h A7_ c8_)) λg1=>?_;refine Vr 2 [] 3 ?_;refine Vp [5] [] [.n,.b 0 1] [(8,A.i h.2.1)] (Uq 3 ?_);refine Vy 2 [(9,.bool (decide (h.2.1=1)))] 1 ?_;refine Km f ?_ ?_<;>intro s f;refine Vq 1 2 [(4,A.i 0),(5,QC)] 1 ?_;obtain rfl:=V8 f;exact U8 [(0,0),(1,1),(2,2),(3,3)] ⟨rfl,rfl,Vv⟩;refine V7 1 2 [(11,.bool (decide (h.2.1=14)))] 1 f ?_ ?_<;>intro s f;refine Uy 1 [5] [] [.n,.b 0 8,.n,.n] [(4,A.i h.2.2.2.2.2.2),(5,QC)] 1 ?_;obtain rfl:=V8 f;exact U8 [(0,0),(1,1),(2,2),(3,3)] ⟨rfl,rfl,a6⟩;refine U0 4 ?_;refine V9 mixed 10 10 (A.mb 10 0) ?_;refine V4 Vn [] [0,1,2,3,4,5] [5,0] [] (A.mb 10 63) 4 [(0,.n),(4,.n),(1,.n),(5,.b 0 2),(2,.n),(3,.b 1 2)] [(20,.slice A7_ h.2.2.1.length c8_),(18,.map (some b4_))] ?_;have⟨E,L,f⟩:=Uz f;refine U7 4 6 L λaj=>?_;intro b6 o7 a7;refine Uc Vn [0,1,2,3,4,5] l4c 6 (A.mb 10 127) rfl (λa w hf hh=>Um (t:=A.ti) L a7 hf) ?_;refine V4 Vn l4c l4c [] [6] (A.mb 10 255) 2 [(7,.e 0 0)] [(22,A.i E)] ?_;obtain⟨k,N,f⟩:=U2 f;refine A.okm (t:=A.ti) 3 E (z:=(0:Int)) (zs:=l4k) ⟨rfl,by decide⟩ N λU=>?_;refine Uc Vn l4c l4c 8 (A.mb 10 511) rfl (λa w hf hh=>K7 (t:=A.ti) (ok:=false) (z:=(0:Int)) (zs:=l4k) 3 ky3 E Tryz.zeroValue3 ⟨rfl,by decide⟩ N rfl hf hh) ?_;refine V4 Vn l4c l4c [] [] (A.mb 10 1023) 0 [(9,.n)] [(6,A.i k)] (Vt ?_);refine A.ex 2 ?_;refine Vi [3,6] [0,1,2,3,4,5] (λy B=>∃(I:Bool),y=[(40,.bool I)]/\B=[]/\F.b2 h k I=some r) ?_ ?_;refine V9 mixed 17 17 (A.mb 17 0) ?_;refine V4 Vn [] l4c [5] [] (A.mb 17 31) 12 [(0,.n),(1,.b 0 2),(2,.n),(3,.n),(4,.n)] [(28,.bool (decide ((1:Int)<(h.2.2.1.length:Int))))] (Kk (j:=28) rfl f ?_ ?_)<;>intro s f;refine V4 Vn l4c l4c [5,0] [] (A.mb 17 18431) 5 [(5,.on .n),(9,.on .n),(14,.on .n),(6,.on .n),(10,.on (.b 0 2)),(7,.on .n),(8,.on (.b 1 2))] [(38,A.i k),(34,.slice A7_ h.2.2.1.length c8_),(32,.map (some b4_))] ?_;have⟨J,W,f⟩:=Uz f;refine U7 4 7 W λak=>?_;intro al am a8;refine Ko Vn l4c l4i 11 (A.mb 17 20479) (dj:=28) rfl (λa w hf hh=>Um (t:=A.ti) W a8 hf) ?_;refine V4 Vn l4i l4i [] [7] (A.mb 17 24575) 3 [(12,.on (.e 0 0))] [(36,A.i J)] ?_;obtain⟨a2,a3,f⟩:=U2 f;refine A.okm (t:=A.ti) 3 J (z:=(0:Int)) (zs:=l4k) ⟨rfl,by decide⟩ a3 λan=>?_;refine Ko Vn l4i l4i 13 (A.mb 17 32767) (dj:=28) rfl (λa w hf hh=>K7 (t:=A.ti) (ok:=false) (z:=(0:Int)) (zs:=l4k) 3 ky3 J Tryz.zeroValue3 ⟨rfl,by decide⟩ a3 rfl hf hh) ?_;refine V4 Vn l4i l4i [] [] (A.mb 17 131071) 0 [(15,.on .n),(16,.n)] [(40,.bool (decide (a2≠k)))] (Vt ?_);exact V0 ⟨(decide (a2≠k)),rfl,rfl,f⟩;refine V4 Vn l4c l4c [] [] (A.mb 17 131071) 0 [(5,.off),(9,.off),(14,.off),(6,.off),(10,.off),(7,.off),(11,.off),(8,.off),(12,.off),(13,.off),(15,.off),(16,.n)] [(40,QB)] (Vt ?_);exact V0 ⟨false,rfl,rfl,f⟩;rintro _ _ ⟨I,rfl,rfl,f⟩;rw[F.b2]at f;refine U9 f ?_ ?_<;>intro s f;refine Vq 1 2 [(4,A.i 0),(5,QB)] 1 ?_;obtain rfl:=V8 f;exact U8 [(0,0),(1,1),(2,2),(3,3)] ⟨rfl,rfl,Vv⟩;refine U0 2 ?_;refine Vi [] [0,1,2,3] (λy B=>∃(u:Int),y=[(6,A.i u)]/\B=[]/\A.h6 u/\F.bl u=some r) ?_ ?_;refine Uy 1 [5] [] [.n,.b 0 1] [(42,A.i h.2.1)] 2 ?_;refine Vi [6] [0,1,2,3] (λy B=>y=[]/\B=[]/\F.bm k=some r) ?_ ?_;refine V7 10 2 [(43,.bool (decide (h.2.1=12)))] 1 f ?_ ?_<;>intro s f;refine Vl 3 ?_;have⟨a4,f⟩:=Ui f;refine U3 3 [Z.R64 (k+1)] [(6,A.i (k+1))] a4 (Ki 2 ?_);exact V0 ⟨(k+1),rfl,rfl,(Vk a4),f⟩;refine V7 4 2 [(45,.bool (decide (h.2.1=13)))] 1 f ?_ ?_<;>intro s f;refine Vl 3 ?_;have⟨a5,f⟩:=Ui f;refine U3 3 [Z.R64 (k-1)] [(6,A.i (k-1))] a5 (Ki 2 ?_);exact V0 ⟨(k-1),rfl,rfl,(Vk a5),f⟩;refine V7 4 2 [(47,.bool (decide (h.2.1=11)))] 1 f ?_ ?_<;>intro s f;refine Ub 3 ?_;exact V0 ⟨rfl,rfl,f⟩;refine V7 4 2 [(49,.bool (decide (h.2.1=16)))] 1 f ?_ ?_<;>intro s f;refine Ub 2 ?_;exact V0 ⟨rfl,rfl,f⟩;refine V7 3 2 [(51,.bool (decide (h.2.1=15)))] 1 f ?_ ?_<;>intro s f;refine Ub 1 ?_;exact V0 ⟨rfl,rfl,f⟩;refine Ub 3 ?_;exact V0 ⟨k,rfl,rfl,U,f⟩;rintro _ _ ⟨rfl,rfl,f⟩;rw[F.bm]at f;refine Vq 2 5 [(4,A.i k),(5,.bool (decide (k=0)))] 1 ?_;obtain rfl:=V8 f;exact U8 [(0,0),(1,1),(2,2),(3,3)] ⟨rfl,rfl,U⟩;rintro _ _ ⟨u,rfl,rfl,a9,f⟩;rw[F.bl]at f;refine Uy 1 [] [] [.n,.n,.n,.n,.sy .n,.sy .n,.pk,.n,.n] [(4,A.i u),(5,.bool (bif decide ((0:Int)<=u)then decide (u<=4)else false))] 1 ?_;obtain rfl:=V8 f;exact U8 [(0,0),(1,1),(2,2),(3,3)] ⟨rfl,rfl,a9⟩
def F.bn (e:((List (Int×D48))×(QP)×(List (Int×Int))))(f:List (Int×Int))(h:Bool):Option (Option (Bool×((List (Int×D48))×(QP)×(List (Int×Int))))):=if h=true then(some (some (false,(e.1,e.2.1,f))))else(some none)
def F.cs (h:((List (Int×D48))×(QP)×(List (Int×Int))))(e:List (Int×Int))(f:Int×D48):Option (Option (Bool×((List (Int×D48))×(QP)×(List (Int×Int))))):=if f.2.2.1=14 then((A.ix f.2.2.2.1 0).bind λk=>(A.lt (Z.mget (0:Int) e k) λo=>(F.bn h e (decide (o≠f.2.2.2.2.2.2.2)))))else(F.bn h e false)
def F.bo (e:((List (Int×D48))×(QP)×(List (Int×Int)))):Nat->(List (Int×Int))->Int->Option (Bool×((List (Int×D48))×(QP)×(List (Int×Int))))
 |0,_,_=>none
 |f+1,h,k=>if k<(e.2.1.length:Int)then((A.ix e.2.1 k).bind λo=>(A.lt (Z.mget ((0,0,[],(0,0,(QE)),(QE),0,0):D48) e.1 o) λt=>((F.dQ (e.1,e.2.1,h) t).bind λs=>(if(!s.2)=true then(some (false,(e.1,e.2.1,h)))else(A.gd (Z.R64 (k+1)) ((F.bo e f) (Z.mins h o s.1) (k+1)))))))else(A.mrg (F.cs e h) (some (true,(e.1,e.2.1,h))) e.1)
def F.b3 (e:((List (Int×D48))×(QP)×(List (Int×Int)))):Option (Bool×((List (Int×D48))×(QP)×(List (Int×Int)))):=F.bo e A.FU e.2.2 0
theorem o_aA(o:((List (Int×D48))×(QP)×(List (Int×Int))))(r:Bool×((List (Int×D48))×(QP)×(List (Int×Int))))(k:F.b3 o=some r):
    A.Ct Tryz.prog 91 [.pointer (some ⟨g0_,0,none⟩)] [(0,.blk g0_ 159 [.map (some b1_),.slice A2_ o.2.1.length c3_,.map (some b4_)]),(1,.mp Int (λi:Int=>A.i i) T48 true b1_ o.1),(2,.own A.ti 3 A2_ c3_ o.2.1),(3,.mp Int (λi:Int=>A.i i) A.ti false b4_ o.2.2)] ([g0_]++([b1_]++(Z.obl A2_++([b4_]++[])))) (λv H'=>∃(b0':Nat) (A1':QK) (c2':Nat) (b3':Nat),v=.bool r.1/\H'=[(0,.blk g0_ 159 [.map (some b0'),.slice A1' r.2.2.1.length c2',.map (some b3')]),(1,.mp Int (λi:Int=>A.i i) T48 true b0' r.2.1),(2,.own A.ti 3 A1' c2' r.2.2.1),(3,.mp Int (λi:Int=>A.i i) A.ti false b3' r.2.2.2)]):=by
 refine Vh Tryz.func91 rfl Tryz.ntmps91 rfl λw0 F0=>?_;rw[F.b3]at k;refine Vl 1 ?_;refine Vr 1 [] 3 ?_;refine V5 [0] [] [.n,.n,.n,.b 0 1,.n,.n] [(12,.slice A2_ o.2.1.length c3_),(13,A.i (o.2.1.length:Int)),(14,A.i 0)] 2 ?_;refine Ud [0,12,13] [0,1,2] (λf N U=>∃(I:List (Int×Int))(B:Int),N=[(14,A.i B)]/\U=[(3,.mp Int (λi:Int=>A.i i) A.ti false b4_ I)]/\A.h6 B/\F.bo o f I B=some r) ⟨o.2.2,0,rfl,rfl,Vv,k⟩ ?_;rintro f4 _ _ ⟨I,B,rfl,rfl,aj,k⟩;rcases f4 with _|f4
 exact Ua k;rw[F.bo]at k;refine V7 1 1 [(15,.bool (decide (B<(o.2.1.length:Int))))] 2 k ?_ ?_<;>intro hb k;refine Vl 5 ?_;have⟨L,a9,k⟩:=Uz k;refine Kq 2 96 a9 λak=>?_;intro g8 al;refine Vp [] [96] [.e 0 0,.n] [(4,A.i L)] (Uq 2 ?_);refine Vp [0] [] [.n,.n,.n,.n,.b 0 0,.n] [(19,.pointer (some ⟨g0_,0,none⟩)),(23,.map (some b1_)),(24,A.i L)] ?_;obtain⟨aa,ab,k⟩:=U2 k;refine Kw (t:=T48) 1 97 (z:=((0,0,[],(0,0,(QE)),(QE),0,0):D48)) (zs:=l4a) ky3 L Tryz.zeroValue49 ⟨⟨rfl,by decide⟩,⟨rfl,by decide⟩,(.inr ⟨rfl,rfl⟩),⟨⟨rfl,by decide⟩,⟨rfl,by decide⟩,⟨rfl,by decide⟩⟩,⟨rfl,by decide⟩,⟨rfl,by decide⟩,⟨rfl,by decide⟩⟩ ab λE=>?_;intro ac ad;refine Ue 98 [96] k (o_aV A2_ ac g0_ b1_ c3_ b4_ ad (o.1,o.2.1,I) aa E.1 E.2.1 E.2.2.2.1.1 E.2.2.2.1.2.1 E.2.2.2.1.2.2 E.2.2.2.2.1 E.2.2.2.2.2.1 E.2.2.2.2.2.2) (.m 0 (.m 1 (.m 2 (.m 3 (.s 97 .nil))))) ?_;rintro J - k _ _ ⟨rfl,rfl,hr17⟩;refine Vs (Kg 98 0 [] ?_);refine Kg 99 1 [] ?_;refine Kg 100 2 [] ?_;refine Kg 101 3 [] ?_;refine Vr 5 [(5,A.i J.1),(6,.bool J.2)] 3 ?_;refine Vy 2 [(30,.bool (!J.2))] 1 ?_;refine U9 k ?_ ?_<;>intro hb k;refine Vq 1 1 [(2,QB)] 1 ?_;obtain rfl:=V8 k;exact Kj [(0,0),(1,1),(2,2),(3,3)] ⟨b1_,A2_,c3_,b4_,rfl,rfl⟩;refine Uj 2 [0] [] [.n,.n,.n,.b 0 2,.n,.n] [(34,.map (some b4_)),(35,A.i L),(36,A.i J.1)] ?_;refine A.AL.mup (t:=A.ti) 3 [] (cs:=[A.i J.1]) (u:=J.1) ky3 L ⟨rfl,hr17⟩ ?_;refine Uq 2 ?_;have⟨a5,k⟩:=Ui k;refine U3 2 [Z.R64 (B+1)] [(14,A.i (B+1))] a5 (Vg ?_);exact V0 ⟨_,Qo _,⟨(Z.mins I L J.1),(B+1),rfl,rfl,(Vk a5),k⟩⟩;refine Uj 4 [0] [] [.n,.n,.n,.b 0 0] [(41,.map (some b1_))] ?_;refine A.AL.rgm 1 138 λa2=>?_;refine Kh 2 ?_;obtain⟨hev,hend⟩:=A.mrg_all k;refine A.AX.loop [0,42] [0,1,2,3] [138,0,1,2,3] (λf N U=>∃(sn:QM) (la:Option (Value×Value)),N=[]/\U=[(138,.mit 1 a2 b1_ o.1.length sn la)]/\sn.Nodup/\(∀i∈sn,i<o.1.length)/\(∀i∈sn,∀p,(o.1)[i]?=some p->F.cs o I p=some none)/\f+sn.length=o.1.length+1) (o.1.length+1) [] [(138,.mit 1 a2 b1_ o.1.length [] none)] ⟨[],none,rfl,rfl,Je,by simp,by simp,rfl⟩ ?_;rintro am _ _ ⟨ae,la21,rfl,rfl,hnd,hbd,hse,hff⟩;refine Vl 1 ?_;refine A.AL.nxm 1 138 139 (λhall=>?_) (λag y hp25 hs26 an=>?_);replace k:=hend (A.seen_all hse hall);refine Vy 1 [(44,QB)] 2 ?_;refine V2 rfl ?_;refine Vq 3 1 [(2,QC)] 1 ?_;obtain rfl:=V8 k;exact Kj [(0,0),(1,1),(2,2),(3,3)] ⟨b1_,A2_,c3_,b4_,rfl,rfl⟩;intro W a1;obtain⟨q,hB,hq⟩:=hev y (Qu hp25);have k:=hB;rw[F.cs]at k;refine Vy 1 [(44,QC)] 2 ?_;refine Vw rfl ?_;refine Vl 4 ?_;refine A.AL.ent 138 ?_;refine Uw 1 [(46,(A.rao y.2 W a1))] (Vj 140 (cs:=l4a) Tryz.zeroValue49 λao=>?_);refine Ul 140 [] (A.rai y.2 W a1) ?_;refine Kh 1 ?_;refine Vi [0,42] [0,1,2,3,138] (λN U=>∃(a3:Bool),N=[(63,.bool a3)]/\U=[]/\F.bn o I a3=some q) ?_ ?_;refine V9 mixed 17 17 (A.mb 17 0) ?_;refine V4 Vn [] l4h [140] [] (A.mb 17 15) 13 [(0,.n),(1,.b 0 1),(2,.n),(3,.n)] [(50,.bool (decide (y.2.2.1=14)))] (Kk (j:=50) rfl k ?_ ?_)<;>intro hb k;refine V4 Vn l4h l4h [140,0] [] (A.mb 17 25599) 5 [(4,.on .n),(8,.on .n),(13,.on .n),(5,.on .n),(9,.on (.b 0 2)),(14,.on (.b 0 8)),(6,.on .n),(7,.on (.b 1 2))] [(56,.slice W y.2.2.2.1.length a1),(61,A.i y.2.2.2.2.2.2.2),(54,.map (some b4_))] ?_;have⟨a4,a6,k⟩:=Uz k;refine U7 139 141 a6 λap=>?_;intro aq ar ah;refine Ko Vn l4h l4d 10 (A.mb 17 26623) (dj:=50) rfl (λa w hf hh=>Um (t:=A.ti) a6 ah hf) ?_;refine V4 Vn l4d l4d [] [141] (A.mb 17 28671) 3 [(11,.on (.e 0 0))] [(58,A.i a4)] ?_;obtain⟨a7,a8,k⟩:=U2 k;refine A.okm (t:=A.ti) 3 a4 (z:=(0:Int)) (zs:=l4k) ⟨rfl,by decide⟩ a8 λau=>?_;refine Ko Vn l4d l4d 12 (A.mb 17 32767) (dj:=50) rfl (λa w hf hh=>K7 (t:=A.ti) (ok:=false) (z:=(0:Int)) (zs:=l4k) 3 ky3 a4 Tryz.zeroValue3 ⟨rfl,by decide⟩ a8 rfl hf hh) ?_;refine V4 Vn l4d l4d [] [] (A.mb 17 131071) 0 [(15,.on .n),(16,.n)] [(63,.bool (decide (a7≠y.2.2.2.2.2.2.2)))] (Vt ?_);exact V0 ⟨(decide (a7≠y.2.2.2.2.2.2.2)),rfl,rfl,k⟩;refine V4 Vn l4h l4h [] [] (A.mb 17 131071) 0 [(4,.off),(8,.off),(13,.off),(5,.off),(9,.off),(14,.off),(6,.off),(10,.off),(7,.off),(11,.off),(12,.off),(15,.off),(16,.n)] [(63,QB)] (Vt ?_);exact V0 ⟨false,rfl,rfl,k⟩;rintro _ _ ⟨a3,rfl,rfl,k⟩;rw[F.bn]at k;refine U9 k ?_ ?_<;>intro hb k;refine Vq 1 1 [(2,QB)] 1 ?_;obtain rfl:=V8 k;obtain rfl:=Xg (hq.resolve_left (by intro h;cases h));exact Kj [(0,0),(1,1),(2,2),(3,3)] ⟨b1_,A2_,c3_,b4_,rfl,rfl⟩;refine Ub 2 ?_;obtain rfl:=V8 k;exact A.AE.j [138,0,1,2,3] [] [(138,.mit 1 a2 b1_ o.1.length (ag::ae) (some (A.i y.1,(A.rao y.2 W a1))))] ⟨_,(A.seen_f hnd (K6 hbd hp25) hs26 hff).1,_,_,rfl,rfl,Xb.2 ⟨hs26,hnd⟩,K6 hbd hp25,A.seen_cons hse hp25 hB,(A.seen_f hnd (K6 hbd hp25) hs26 hff).2⟩
def F.bE (f:(List D131)->Int->Option (List D131))(e:Int)(h:List D131):Option (List D131):=A.gd (Z.R64 (e+1)) (f h (e+1))
def F.bF (o:(List D131)->Int->Option (List D131))(s:((List (Int×D48))×(QP)×(List (Int×Int))))(t:Int)(e:D48):Nat->(List D131)->Int->Option (List D131)
 |0,_,_=>none
 |f+1,k,h=>if h<(e.2.2.1.length:Int)then((A.ix e.2.2.1 h).bind λz=>(A.lt (Z.mget (0:Int) s.2.2 z) λu=>(A.gd ((List.length (α:=D131) k+List.length (α:=D131) [((e.1,h),u)])*24<=140737488355328) (A.gd (Z.R64 (h+1)) ((F.bF o s t e f) (k++[((e.1,h),u)]) (h+1))))))else(if e.2.1≠15 then(A.lt (Z.mget (0:Int) s.2.2 e.1) λy=>(A.gd ((List.length (α:=D131) k+List.length (α:=D131) [((e.1,2),y)])*24<=140737488355328) (F.bE o t (k++[((e.1,2),y)]))))else(F.bE o t k))
def F.au (k:((List (Int×D48))×(QP)×(List (Int×Int))))(e:D23):Nat->(List D131)->Int->Option (List D131)
 |0,_,_=>none
 |f+1,o,h=>if h<(e.length:Int)then((A.ix e h).bind λs=>(F.bF (F.au k e f) k h s A.FU o 0))else(some o)
def F.dm (e:((List (Int×D48))×(QP)×(List (Int×Int))))(f:D23):Option (List D131):=F.au e f A.FU [] 0
theorem o_aE(u:((List (Int×D48))×(QP)×(List (Int×Int))))(y:D23)(r:(List D131))(h:F.dm u y=some r):
    A.Ct Tryz.prog 137 [.pointer (some ⟨g0_,0,none⟩),.agg #[.slice A5_ y.length c6_]] [(0,.blk g0_ 159 [.map (some b1_),.slice A2_ u.2.1.length c3_,.map (some b4_)]),(1,.mp Int (λi:Int=>A.i i) T48 true b1_ u.1),(2,.own A.ti 3 A2_ c3_ u.2.1),(3,.mp Int (λi:Int=>A.i i) A.ti false b4_ u.2.2),(4,.sh (.slice T48) [.slice A5_ y.length c6_] y)] ([g0_]++([b1_]++(Z.obl A2_++([b4_]++[])))) (λv H'=>∃(A0':QK) (c1':Nat),v=.slice A0' r.length c1'/\H'=[(0,.own T131 132 A0' c1' r),(1,.blk g0_ 159 [.map (some b1_),.slice A2_ u.2.1.length c3_,.map (some b4_)]),(2,.mp Int (λi:Int=>A.i i) T48 true b1_ u.1),(3,.own A.ti 3 A2_ c3_ u.2.1),(4,.mp Int (λi:Int=>A.i i) A.ti false b4_ u.2.2)]):=by
 refine Vh Tryz.func137 rfl Tryz.ntmps137 rfl λw0 F0=>?_;rw[F.dm]at h;refine Vl 1 ?_;refine Vm 5 (cs:=[.slice A5_ y.length c6_]) λg1=>?_;refine Vr 1 [] 2 ?_;refine Vr 1 [(5,QA)] 3 ?_;refine V5 [5] [] [.n,.b 0 0,.n,.n] [(11,.slice A5_ y.length c6_),(12,A.i (y.length:Int)),(13,A.i 0)] 2 ?_;refine Ka 38 T131 132 ?_;refine Ud [0,11,12] [0,1,2,3,4] (λf W nh=>∃(I:List D131)(E:Int)(J:QK)(L:Nat),W=[(5,.slice J I.length L),(13,A.i E)]/\nh=[(38,.own T131 132 J L I)]/\A.h6 E/\F.au u y f I E=some r) ⟨[],0,none,0,rfl,rfl,Vv,h⟩ ?_;rintro f7 _ _ ⟨I,E,J,L,rfl,rfl,ap,h⟩;rcases f7 with _|f7
 exact Ua h;rw[F.au]at h;refine V7 1 1 [(14,.bool (decide (E<(y.length:Int))))] 2 h ?_ ?_<;>intro hb h;refine U0 2 ?_;refine Vi [0,11,12,13] [0,1,2,3,4] (λW nh=>∃(a2:List D131)(A8:QK)(c9:Nat),W=[(5,.slice A8 a2.length c9)]/\nh=[(38,.own T131 132 A8 c9 a2)]/\F.bE (F.au u y f7) E a2=some r) ?_ ?_;refine Vl 2 ?_;have⟨o,ak,h⟩:=Uz h;refine Uk 4 63 ak λa8=>?_;intro a6 a7 aq ar;refine Vp [] [63] [.e 0 0] [(16,(A.rao o a6 a7))] (Vj 65 (cs:=l4a) Tryz.zeroValue49 λav=>?_);refine Ul 65 [] (A.rai o a6 a7) ?_;refine Uq 3 ?_;refine V5 [65] [] [.n,.b 0 2,.n,.n] [(18,.slice a6 o.2.2.1.length a7),(19,A.i (o.2.2.1.length:Int)),(20,A.i 0)] 2 ?_;refine Ud [0,7,11,12,13,18,19] l4g (λf W nh=>∃(B:List D131)(s:Int)(N:QK)(U:Nat),W=[(5,.slice N B.length U),(20,A.i s)]/\nh=[(38,.own T131 132 N U B)]/\A.h6 s/\F.bF (F.au u y f7) u E o f B s=some r) ⟨I,0,J,L,rfl,rfl,Vv,h⟩ ?_;rintro a9 _ _ ⟨B,s,N,U,rfl,rfl,al,h⟩;rcases a9 with _|a9
 exact Ua h;rw[F.bF]at h;refine V7 1 1 [(21,.bool (decide (s<(o.2.2.1.length:Int))))] 2 h ?_ ?_<;>intro hb h;refine Uf 5 1 [(22,A.i s)] ?_;have⟨a5,am,h⟩:=Uz h;refine Uk 64 72 am λaw=>?_;intro ax ay;refine V5 [] [72] [.e 0 0,.n,.n] [(8,A.i s),(9,A.i a5)] 1 ?_;refine V9 mixed 15 15 (A.mb 15 0) ?_;refine V4 Vn [] l4e [65,0] [] (A.mb 15 1023) 5 [(0,.n),(1,.n),(3,.n),(5,.n),(9,.n),(2,.b 0 0),(6,.n),(4,.n),(7,.n),(8,.b 1 2)] [(25,.slice N B.length U),(34,A.i a5),(29,.agg #[A.i o.1,A.i s]),(33,.map (some b4_))] ?_;obtain⟨a3,aa,h⟩:=U2 h;refine A.okm (t:=A.ti) 3 a5 (z:=(0:Int)) (zs:=l4k) ⟨rfl,by decide⟩ aa λan=>?_;refine Uc Vn l4e l4e 10 (A.mb 15 2047) rfl (λa w hf hh=>K7 (t:=A.ti) (ok:=false) (z:=(0:Int)) (zs:=l4k) 3 ky3 a5 Tryz.zeroValue3 ⟨rfl,by decide⟩ aa rfl hf hh) ?_;refine V4 Vn l4e l4e [] [] (A.mb 15 4095) 3 [(11,.n)] [(36,.agg #[A.i o.1,A.i s,A.i a3])] (Vu 12 ?_);refine Ug 73 (ty:=T131) (cs:=[A.i o.1,A.i s,A.i a3]) [((o.1,s),a3)] ⟨⟨⟨⟨rfl,a8.1⟩,⟨rfl,al⟩⟩,⟨rfl,an⟩⟩,rfl⟩ (λaz=>?_) Tryz.zeroValue132 Tryz.sizeOf132;refine Vz (A.mb 15 8191) l4e ?_;refine Vu 13 ?_;have⟨hl37,h⟩:=Ui h;refine Uo (k:=38) [] (Kd (k:=73) rfl) inf132 hl37 λab ac=>?_;refine Vz (A.mb 15 16383) l4e ?_;refine V4 Vn l4e [0,1,2,3,4,38,64,65,72,73] [] [] (A.mb 15 32767) 0 [(14,.n)] [(5,.slice ab ((B++[((o.1,s),a3)]).length) ac)] (Vt ?_);refine A.el 2 ?_;have⟨ad,h⟩:=Ui h;refine U3 2 [Z.R64 (s+1)] [(20,A.i (s+1))] ad (Vg ?_);exact V0 ⟨_,Qo _,⟨(B++[((o.1,s),a3)]),(s+1),ab,ac,rfl,rfl,(Vk ad),h⟩⟩;refine Uy 3 [65] [] [.n,.b 0 1,.n] [(42,.bool (decide (o.2.1≠15)))] 1 ?_;refine Km h ?_ ?_<;>intro hb h;refine V9 mixed 15 15 (A.mb 15 0) ?_;refine V4 Vn [] l4g [65,0] [] (A.mb 15 1023) 5 [(0,.n),(1,.n),(4,.n),(8,.n),(2,.b 0 0),(5,.n),(9,.b 0 0),(3,.n),(6,.n),(7,.b 1 2)] [(43,.slice N B.length U),(52,A.i o.1),(46,.agg #[A.i o.1,A.i 2]),(50,.map (some b4_))] ?_;obtain⟨a4,ae,h⟩:=U2 h;refine A.okm (t:=A.ti) 3 o.1 (z:=(0:Int)) (zs:=l4k) ⟨rfl,by decide⟩ ae λao=>?_;refine Uc Vn l4g l4g 10 (A.mb 15 2047) rfl (λa w hf hh=>K7 (t:=A.ti) (ok:=false) (z:=(0:Int)) (zs:=l4k) 3 ky3 o.1 Tryz.zeroValue3 ⟨rfl,by decide⟩ ae rfl hf hh) ?_;refine V4 Vn l4g l4g [] [] (A.mb 15 4095) 3 [(11,.n)] [(54,.agg #[A.i o.1,A.i 2,A.i a4])] (Vu 12 ?_);refine Ug 74 (ty:=T131) (cs:=[A.i o.1,A.i 2,A.i a4]) [((o.1,2),a4)] ⟨⟨⟨⟨rfl,a8.1⟩,⟨rfl,(V1 2)⟩⟩,⟨rfl,ao⟩⟩,rfl⟩ (λb0=>?_) Tryz.zeroValue132 Tryz.sizeOf132;refine Vz (A.mb 15 8191) l4g ?_;refine Vu 13 ?_;have⟨hl45,h⟩:=Ui h;refine Uo (k:=38) [] (Kd (k:=74) rfl) inf132 hl45 λag ah=>?_;refine Vz (A.mb 15 16383) l4g ?_;refine V4 Vn l4g [0,1,2,3,4,38,64,65,74] [] [] (A.mb 15 32767) 0 [(14,.n)] [(5,.slice ag ((B++[((o.1,2),a4)]).length) ah)] (Vt ?_);refine A.ee 1 ?_;exact V0 ⟨(B++[((o.1,2),a4)]),ag,ah,rfl,rfl,h⟩;refine Ub 2 ?_;exact V0 ⟨B,N,U,rfl,rfl,h⟩;rintro _ _ ⟨a2,A8,c9,rfl,rfl,h⟩;rw[F.bE]at h;refine Vl 0 ?_;have⟨aj,h⟩:=Ui h;refine U3 2 [Z.R64 (E+1)] [(13,A.i (E+1))] aj (Vg ?_);exact V0 ⟨_,Qo _,⟨a2,(E+1),A8,c9,rfl,rfl,(Vk aj),h⟩⟩;refine Vq 3 2 [(4,.slice J I.length L)] 1 ?_;obtain rfl:=V8 h;exact Kj [(0,38),(1,0),(2,1),(3,2),(4,3)] ⟨J,L,rfl,rfl⟩
def F.aA (e:(List D48)):Option ((List D48)):=some e
theorem o_s(e:(List D48))(r:((List D48)))(f:F.aA e=some r):
    A.Ct Tryz.prog 207 [.slice A0_ e.length c1_] [(0,.sh (.slice T48) [.slice A0_ e.length c1_] e)] [] (λv H'=>∃(g0':Nat) (A1':QK) (c2':Nat),v=.func (.func 219) #[] #[.pointer (some ⟨g0',0,none⟩)]/\H'=[(0,.blk g0' 22 [.slice A1' r.length c2']),(1,.sh (.slice T48) [.slice A1' r.length c2'] r)]):=by
 refine Vh Tryz.func207 rfl Tryz.ntmps207 rfl λk o=>?_;rw[F.aA]at f;refine Vl 1 ?_;refine Vm 1 (cs:=[.slice A0_ e.length c1_]) λh=>?_;refine Vr 1 [] 2 ?_;refine Vy 2 [(2,.func (.func 219) #[] #[.pointer (some ⟨h,0,none⟩)])] 1 ?_;obtain rfl:=V8 f;exact Kj [(0,1),(1,0)] ⟨h,A0_,c1_,rfl,rfl⟩
def F.o (h:(List D48)):Nat->Int->Option (List D48)
 |0,_=>none
 |f+1,e=>if e<(h.length:Int)then((A.ix h e).bind λk=>(A.cns k (A.gd (Z.R64 (e+1)) ((F.o h f) (e+1)))))else(some [])
def F.aj (e:(List D48)):Option (List D48):=F.o e A.FU 0
theorem o_m(s:(List D48))(xs:List D48)(h:F.aj s=some xs):
    A.Sq Tryz.prog 219 [.pointer (some ⟨g0_,0,none⟩)] [(0,.el none g0_ 0 [.slice A1_ s.length c2_]),(1,.sh (.slice T48) [.slice A1_ s.length c2_] s)] T48 (λcs=>[Z.vof true cs]) xs:=by
 refine A.Sq.enter Tryz.func219 rfl Tryz.ntmps219 rfl λlid L J Jx Φ hY hJ0=>?_;obtain⟨rs0,hrs⟩: ∃rs0,rs0=xs:=⟨_,rfl⟩;have hR0:A.Rem xs 0 rs0:=hrs▸A.Rem.zero xs;rw[F.aj,<-hrs]at h;clear hrs;refine Uy 1 [] [0] [.e 0 0,.n,.n] [(5,.slice A1_ s.length c2_),(6,A.i (s.length:Int)),(7,A.i 0)] 2 ?_;refine A.AX.loopC (A.CY 16 Φ) (0,L) [0,5,6] [1] [1] (λf i N U=>∃(k:Int)(rs:List D48),N=[(7,A.i k)]/\U=[]/\A.h6 k/\J i.1 i.2/\A.Rem xs i.1 rs/\F.o s f k=some rs) A.FU [(7,A.i 0)] [] ⟨0,_,rfl,rfl,Vv,hJ0,hR0,h⟩ ?_;rintro B ⟨W,w5⟩ _ _ ⟨k,rs8,rfl,rfl,a1,hJ6,hR7,h⟩;rcases B with _|B
 exact Ua h;rw[F.o]at h;refine V7 1 1 [(8,.bool (decide (k<(s.length:Int))))] 2 h ?_ ?_<;>intro hb h;refine Vl 5 ?_;have⟨u,a0,h⟩:=Uz h;refine Uk 1 8 a0 λt=>?_;intro y z a2 a3;refine Vp [] [8] [.e 0 0] [(10,(A.rao u y z))] (Vj 10 (cs:=l4a) Tryz.zeroValue49 λa4=>?_);refine Ul 10 [] (A.rai u y z) ?_;refine Uq 2 ?_;refine Vp [10] [] [.n,.b 0 0] [(11,.func (.yield lid) #[] #[]),(12,(A.rao u y z))] ?_;obtain⟨rs17,hqrs17,h⟩:=Uu h;refine Uv hY hJ6 (hqrs17▸hR7) (A.rai u y z) ⟨⟨rfl,t.1⟩,⟨rfl,t.2.1⟩,.inl ⟨9,rfl⟩,⟨⟨rfl,t.2.2.2.1.1⟩,⟨rfl,t.2.2.2.1.2.1⟩,⟨rfl,t.2.2.2.1.2.2⟩⟩,⟨rfl,t.2.2.2.2.1⟩,⟨rfl,t.2.2.2.2.2.1⟩,⟨rfl,t.2.2.2.2.2.2⟩⟩ (λE hJ19 hR20=>?_) (λE hX21=>?_);refine Vy 1 [(14,QB)] 1 ?_;refine V2 rfl ?_;refine Vl 3 ?_;have⟨I,h⟩:=Ui h;refine U3 2 [Z.R64 (k+1)] [(7,A.i (k+1))] I (Vg ?_);exact Un (W+1,E) [1] [(7,A.i (k+1))] [] ⟨_,Qo _,⟨(k+1),_,rfl,rfl,(Vk I),hJ19,hR20,h⟩⟩;refine Vy 1 [(14,QC)] 1 ?_;refine Vw rfl ?_;exact U4 hY hX21;refine Ub 1 ?_;obtain rfl:=V8 h;exact A.AE.rtY hY hJ6 hR7
def F.c0 (f:(List D129)->Int->Option (List D129))(e:Int)(h:List D129):Option (List D129):=A.gd (Z.R64 (e+1)) (f h (e+1))
def F.br (o:(List D129)->Option (List D129))(s:Int)(e:D48):Nat->(List D129)->Int->Option (List D129)
 |0,_,_=>none
 |f+1,k,h=>if h<(e.2.2.1.length:Int)then((A.ix e.2.2.1 h).bind λt=>(if t=s then(A.gd ((List.length (α:=D129) k+List.length (α:=D129) [(e.1,h)])*16<=140737488355328) (F.c0 (F.br o s e f) h (k++[(e.1,h)])))else(F.c0 (F.br o s e f) h k)))else(o k)
def F.aT (h:Int):List D48->(List D129)->Option (List D129)
 | [],e=>some e
 |k::f,e=>F.br (F.aT h f) h k A.FU e 0
def F.el (e:D23)(f:Int):Option (List D129):=(F.aA e).bind λh=>((F.aj h).bind λk=>F.aT f k [])
theorem o_bo(N:D23)(z:Int)(ak:A.h6 z)(r:(List D129))(h:F.el N z=some r):
    A.Ct Tryz.prog 168 [.agg #[.slice A0_ N.length c1_],A.i z] [(0,.sh (.slice T48) [.slice A0_ N.length c1_] N)] [] (λv H'=>∃(A0':QK) (c1':Nat),v=.slice A0' r.length c1'/\H'=[(0,.own T129 130 A0' c1' r)]):=by
 refine A.Ct.enterM Tryz.func168 rfl Tryz.ntmps168 rfl λw0 F0=>?_;rw[F.el]at h;refine Vl 1 ?_;refine Vm 1 (cs:=[.slice A0_ N.length c1_]) λg1=>?_;refine Vm 2 (cs:=[A.i z]) λg2=>?_;refine Vr 1 [] 2 ?_;refine Vj 3 (cs:=[QA]) Tryz.zeroValue197 λU=>?_;refine Uq 3 ?_;refine Vp [1] [] [.n,.b 0 0] [(10,.slice A0_ N.length c1_)] (Ue 4 [] h (o_s A0_ c1_ N) (.s 0 .nil) ?_);rintro r4 - h _ _ ⟨g6,A7,c8,rfl,rfl⟩;refine Vs (Kh 2 ?_);refine Ka 61 T129 130 ?_;have⟨a3,ae,h⟩:=Uz h;refine A.AX.rgf 62 63 64 [2,4,5] [3,61,2,4,5] [63,62,3,61,2,4,5] (λk W=>∃(B:List D129)(E:QK)(I:Nat),W=[(3,.blk U 197 [.slice E B.length I]),(61,.own T129 130 E I B)]/\F.aT z (List.drop k a3) B=some r) [(3,.blk U 197 [QA]),(61,.own T129 130 none 0 [])] cf219 (o_m A7 g6 c8 r4 a3 ae) (λ_=>rfl) ⟨[],none,0,rfl,h⟩ ?_ ?_ ?_;rintro a6 _ D25 L26 ⟨B,E,I,rfl,h⟩;exact⟨⟨_,(.b 4 (.s 5 .nil))⟩,rfl,λo=>rfl⟩;rintro a6 _ u D25 L26 al am ⟨B,E,I,rfl,h⟩ hx35 hxo36 ag;intro a8 a9;rw[A.drop_at hx35,F.aT]at h;refine Vl 0 ?_;refine Vj 79 (cs:=l4a) Tryz.zeroValue49 λan=>?_;refine Ul 79 [] (A.rai u a8 a9) ?_;refine Vg ?_;refine A.AE.flip 62 63 λao=>?_;refine Uy 2 [79] [] [.n,.b 0 2,.n,.n] [(14,.slice a8 u.2.2.1.length a9),(15,A.i (u.2.2.1.length:Int)),(16,A.i 0)] 2 ?_;refine Ud [3,5,6,14,15] [2,4,5,62,63,64,79] (λf nl W=>∃(y:List D129)(t:Int)(J:QK)(L:Nat),nl=[(16,A.i t)]/\W=[(3,.blk U 197 [.slice J y.length L]),(61,.own T129 130 J L y)]/\A.h6 t/\F.br (F.aT z (List.drop (a6+1) a3)) z u f y t=some r) ⟨B,0,E,I,rfl,rfl,Vv,h⟩ ?_;rintro a7 _ _ ⟨y,t,J,L,rfl,rfl,ah,h⟩;rcases a7 with _|a7
 exact Ua h;rw[F.br]at h;refine V7 1 1 [(17,.bool (decide (t<(u.2.2.1.length:Int))))] 2 h ?_ ?_<;>intro hb h;refine U0 2 ?_;refine Vi [3,5,6,14,15,16] [2,4,5,62,63,64,79] (λnl W=>∃(a2:List D129)(a4:QK)(a5:Nat),nl=[]/\W=[(3,.blk U 197 [.slice a4 a2.length a5]),(61,.own T129 130 a4 a5 a2)]/\F.c0 (F.br (F.aT z (List.drop (a6+1) a3)) z u a7) t a2=some r) ?_ ?_;refine Uf 2 1 [(18,A.i t)] ?_;have⟨aa,aj,h⟩:=Uz h;refine Uk 64 84 aj λap=>?_;intro aq ar;refine Vp [] [84] [.e 0 0,.n,.n] [(7,A.i t),(8,A.i aa)] (Uq 2 ?_);refine V5 [2] [] [.n,.b 0 0,.n] [(23,.bool (decide (aa=z)))] 1 ?_;refine Km h ?_ ?_<;>intro hb h;refine Uj 0 [3,79] [] [.b 0 0,.n,.b 1 0,.n,.n] [(24,.slice J y.length L),(28,.agg #[A.i u.1,A.i t])] ?_;refine Ug 85 (ty:=T129) (cs:=[A.i u.1,A.i t]) [(u.1,t)] ⟨⟨⟨rfl,hxo36.1⟩,⟨rfl,ah⟩⟩,rfl⟩ (λau=>?_) Tryz.zeroValue130 Tryz.sizeOf130;have⟨hl59,h⟩:=Ui h;refine Uo (k:=61) [] (Kd (k:=85) rfl) Qir hl59 λab ac=>?_;refine Ul 3 [] [.slice ab ((y++[(u.1,t)]).length) ac] ?_;refine Ki 1 ?_;exact V0 ⟨(y++[(u.1,t)]),ab,ac,rfl,rfl,h⟩;refine Ub 2 ?_;exact V0 ⟨y,J,L,rfl,rfl,h⟩;rintro _ _ ⟨a2,a4,a5,rfl,rfl,h⟩;rw[F.c0]at h;refine Vl 0 ?_;have⟨ad,h⟩:=Ui h;refine U3 2 [Z.R64 (t+1)] [(16,A.i (t+1))] ad (Vg ?_);exact V0 ⟨_,Qo _,⟨a2,(t+1),a4,a5,rfl,rfl,(Vk ad),h⟩⟩;refine Ub 2 ?_;exact A.AE.bn ag [63,62,3,61,2,4,5] 100000 [(63,100063),(62,100062),(3,100003),(61,100061),(2,100002),(4,100004),(5,100005)] [(3,.blk U 197 [.slice J y.length L]),(61,.own T129 130 J L y)] ⟨y,J,L,rfl,h⟩ rfl rfl;rintro _ D25 L26 ⟨B,E,I,rfl,h⟩;rw[Y3,F.aT]at h;refine A.el 3 ?_;refine V5 [3] [] [.b 0 0,.n] [(4,.slice E B.length I)] 1 ?_;obtain rfl:=V8 h;exact Kv (Ds:=[D25]) [62] [(0,61)] (.slice E B.length I) (⟨rfl,trivial⟩) (λa w hf hh=>Kp rfl (Ut hf rfl)) (⟨E,I,rfl,rfl⟩)
def F.ds (f:Int)(h:Int)(k:Int)(e:D190):Option (D190×Int):=if(bif decide (f<h)then true else decide (k<f))=true then(some ((0,0,0,0,(0,0,0,0)),11))else(some ((f,e.2.1,e.2.2.1,e.2.2.2.1,e.2.2.2.2),0))
theorem o_z (f:Int)(k:Int)(o:Int)(e:D190)(s:A.h6 f)(L:A.h6 k)(N:A.h6 o)(U:A.h6 e.1)(t:A.h6 e.2.1)(u:A.h6 e.2.2.1)(y:A.h6 e.2.2.2.1)(z:A.h6 e.2.2.2.2.1)(B:A.h6 e.2.2.2.2.2.1)(E:A.h6 e.2.2.2.2.2.2.1)(I:A.h6 e.2.2.2.2.2.2.2)(r:D190×Int)(h:F.ds f k o e=some r):
    A.Ct Tryz.prog 206 [A.i f,A.i k,A.i o,(A.rae e)] [] [] (λv H'=>v=.tuple #[(A.rae r.1),A.i r.2]/\H'=[]/\A.h6 r.1.1/\A.h6 r.1.2.1/\A.h6 r.1.2.2.1/\A.h6 r.1.2.2.2.1/\A.h6 r.1.2.2.2.2.1/\A.h6 r.1.2.2.2.2.2.1/\A.h6 r.1.2.2.2.2.2.2.1/\A.h6 r.1.2.2.2.2.2.2.2/\A.h6 r.2):=by
 refine Vh Tryz.func206 rfl Tryz.ntmps206 rfl λW F0=>?_;rw[F.ds]at h;refine Vl 1 ?_;refine Vm 0 (cs:=(A.rab e)) λJ=>?_;refine Vj 1 (cs:=l4b) Tryz.zeroValue191 λg2=>?_;refine Vr 1 [] 3 ?_;refine V5 [] [] [.n,.n,.n,.n,.sy .n,.sy .n,.sy .n,.pk] [(17,.bool (bif decide (f<k)then true else decide (o<f)))] 1 ?_;refine U9 h ?_ ?_<;>intro hb h;refine Uf 1 1 [(18,.agg #[A.i 0,A.i 0,A.i 0,A.i 0,A.i 0,A.i 0,A.i 0,A.i 0])] ?_;refine Ul 1 [] A.zz8 ?_;refine Vy 1 [(9,A.i 11)] 1 ?_;obtain rfl:=V8 h;exact Up [] (.tuple #[.agg #[A.i 0,A.i 0,A.i 0,A.i 0,A.i 0,A.i 0,A.i 0,A.i 0],A.i 11]) (λa w hf hh=>Kc rfl (Ke hf rfl Tryz.isAgg191 Tryz.sizeOf191 (Ur hh 1) rfl) (Ut hf rfl)) (⟨rfl,rfl,Vv,Vv,Vv,Vv,Vv,Vv,Vv,Vv,(V1 11)⟩);refine Uf 3 2 [(19,A.i f),(20,.pointer (some ⟨J,0,none⟩))] ?_;refine V3 0 [] (new:=[A.i f]) (cs':=[A.i f,A.i e.2.1,A.i e.2.2.1,A.i e.2.2.2.1,A.i e.2.2.2.2.1,A.i e.2.2.2.2.2.1,A.i e.2.2.2.2.2.2.1,A.i e.2.2.2.2.2.2.2]) ?_;refine Uq 2 ?_;refine Vp [0] [] [.b 0 0] [(21,.agg #[A.i f,A.i e.2.1,A.i e.2.2.1,A.i e.2.2.2.1,A.i e.2.2.2.2.1,A.i e.2.2.2.2.2.1,A.i e.2.2.2.2.2.2.1,A.i e.2.2.2.2.2.2.2])] (Ul 1 [] [A.i f,A.i e.2.1,A.i e.2.2.1,A.i e.2.2.2.1,A.i e.2.2.2.2.1,A.i e.2.2.2.2.2.1,A.i e.2.2.2.2.2.2.1,A.i e.2.2.2.2.2.2.2] ?_);refine Vy 1 [(9,A.i 0)] 1 ?_;obtain rfl:=V8 h;exact Up [] (.tuple #[.agg #[A.i f,A.i e.2.1,A.i e.2.2.1,A.i e.2.2.2.1,A.i e.2.2.2.2.1,A.i e.2.2.2.2.2.1,A.i e.2.2.2.2.2.2.1,A.i e.2.2.2.2.2.2.2],A.i 0]) (λa w hf hh=>Kc rfl (Ke hf rfl Tryz.isAgg191 Tryz.sizeOf191 (Ur hh 1) rfl) (Ut hf rfl)) (⟨rfl,rfl,s,t,u,y,z,B,E,I,Vv⟩)
def F.er (e:Int):Option (D190×Int):=(F.ds e 0 3 (0,e,0,1,(0,0,0,0))).bind λf=>(some f)
theorem o_bB (e:Int)(k:A.h6 e)(r:D190×Int)(h:F.er e=some r):
    A.Ct Tryz.prog 203 [A.i e] [] [] (λv H'=>v=.tuple #[(A.rae r.1),A.i r.2]/\H'=[]/\A.h6 r.1.1/\A.h6 r.1.2.1/\A.h6 r.1.2.2.1/\A.h6 r.1.2.2.2.1/\A.h6 r.1.2.2.2.2.1/\A.h6 r.1.2.2.2.2.2.1/\A.h6 r.1.2.2.2.2.2.2.1/\A.h6 r.1.2.2.2.2.2.2.2/\A.h6 r.2):=by
 refine Vh Tryz.func203 rfl Tryz.ntmps203 rfl λo s=>?_;rw[F.er]at h;refine Vl 1 ?_;refine Vj 0 (cs:=l4b) Tryz.zeroValue191 λt=>?_;refine Vr 1 [] 2 ?_;refine Uw 3 [(4,A.i e),(6,.agg #[A.i 0,A.i e,A.i 0,A.i 1,A.i 0,A.i 0,A.i 0,A.i 0])] (Ue 1 [] h (o_z e 0 3 (0,e,0,1,(0,0,0,0)) k Vv (V1 3) Vv k Vv (V1 1) Vv Vv Vv Vv) .nil ?_);rintro f - h _ _ ⟨rfl,rfl,hr4,hr5,hr6,hr7,hr8,hr9,hr10,hr11,hr12⟩;refine Vs (Uw 2 [(8,(A.rae f.1)),(9,A.i f.2)] (Ul 0 [] (A.rab f.1) ?_));refine Vy 1 [(3,A.i f.2)] 1 ?_;obtain rfl:=V8 h;exact Up [] (.tuple #[(A.rae f.1),A.i f.2]) (λa w hf hh=>Kc rfl (Ke hf rfl Tryz.isAgg191 Tryz.sizeOf191 (Ur hh 0) rfl) (Ut hf rfl)) (⟨rfl,rfl,hr4,hr5,hr6,hr7,hr8,hr9,hr10,hr11,hr12⟩)
def F.es (e:Int):Option (D190×Int):=A.gd (Z.R64 (e-1)) ((F.ds e 1 4 (0,e-1,0,0,(0,0,0,0))).bind λf=>(some f))
theorem o_bC (e:Int)(o:A.h6 e)(r:D190×Int)(f:F.es e=some r):
    A.Ct Tryz.prog 204 [A.i e] [] [] (λv H'=>v=.tuple #[(A.rae r.1),A.i r.2]/\H'=[]/\A.h6 r.1.1/\A.h6 r.1.2.1/\A.h6 r.1.2.2.1/\A.h6 r.1.2.2.2.1/\A.h6 r.1.2.2.2.2.1/\A.h6 r.1.2.2.2.2.2.1/\A.h6 r.1.2.2.2.2.2.2.1/\A.h6 r.1.2.2.2.2.2.2.2/\A.h6 r.2):=by
 refine Vh Tryz.func204 rfl Tryz.ntmps204 rfl λs t=>?_;rw[F.es]at f;refine Vl 1 ?_;refine Vj 0 (cs:=l4b) Tryz.zeroValue191 λu=>?_;refine Vr 1 [] 2 ?_;have⟨k,f⟩:=Ui f;refine U3 4 [Z.R64 (e-1)] [(4,A.i e),(7,.agg #[A.i 0,A.i (e-1),A.i 0,A.i 0,A.i 0,A.i 0,A.i 0,A.i 0])] k ?_;refine Ue 1 [] f (o_z e 1 4 (0,e-1,0,0,(0,0,0,0)) o (V1 1) (V1 4) Vv (Vk k) Vv Vv Vv Vv Vv Vv) .nil ?_;rintro h - f _ _ ⟨rfl,rfl,hr5,hr6,hr7,hr8,hr9,hr10,hr11,hr12,hr13⟩;refine Vs (Uw 2 [(9,(A.rae h.1)),(10,A.i h.2)] (Ul 0 [] (A.rab h.1) ?_));refine Vy 1 [(3,A.i h.2)] 1 ?_;obtain rfl:=V8 f;exact Up [] (.tuple #[(A.rae h.1),A.i h.2]) (λa w hf hh=>Kc rfl (Ke hf rfl Tryz.isAgg191 Tryz.sizeOf191 (Ur hh 0) rfl) (Ut hf rfl)) (⟨rfl,rfl,hr5,hr6,hr7,hr8,hr9,hr10,hr11,hr12,hr13⟩)
def F.ev (e:Int):Option (D190×Int):=(F.ds e 1 4 (0,e,1,0,(0,0,0,0))).bind λf=>(some f)
theorem o_b3 (e:Int)(k:A.h6 e)(r:D190×Int)(h:F.ev e=some r):
    A.Ct Tryz.prog 205 [A.i e] [] [] (λv H'=>v=.tuple #[(A.rae r.1),A.i r.2]/\H'=[]/\A.h6 r.1.1/\A.h6 r.1.2.1/\A.h6 r.1.2.2.1/\A.h6 r.1.2.2.2.1/\A.h6 r.1.2.2.2.2.1/\A.h6 r.1.2.2.2.2.2.1/\A.h6 r.1.2.2.2.2.2.2.1/\A.h6 r.1.2.2.2.2.2.2.2/\A.h6 r.2):=by
 refine Vh Tryz.func205 rfl Tryz.ntmps205 rfl λo s=>?_;rw[F.ev]at h;refine Vl 1 ?_;refine Vj 0 (cs:=l4b) Tryz.zeroValue191 λt=>?_;refine Vr 1 [] 2 ?_;refine Uw 3 [(4,A.i e),(6,.agg #[A.i 0,A.i e,A.i 1,A.i 0,A.i 0,A.i 0,A.i 0,A.i 0])] (Ue 1 [] h (o_z e 1 4 (0,e,1,0,(0,0,0,0)) k (V1 1) (V1 4) Vv k (V1 1) Vv Vv Vv Vv Vv) .nil ?_);rintro f - h _ _ ⟨rfl,rfl,hr4,hr5,hr6,hr7,hr8,hr9,hr10,hr11,hr12⟩;refine Vs (Uw 2 [(8,(A.rae f.1)),(9,A.i f.2)] (Ul 0 [] (A.rab f.1) ?_));refine Vy 1 [(3,A.i f.2)] 1 ?_;obtain rfl:=V8 h;exact Up [] (.tuple #[(A.rae f.1),A.i f.2]) (λa w hf hh=>Kc rfl (Ke hf rfl Tryz.isAgg191 Tryz.sizeOf191 (Ur hh 0) rfl) (Ut hf rfl)) (⟨rfl,rfl,hr4,hr5,hr6,hr7,hr8,hr9,hr10,hr11,hr12⟩)
def F.eC (e:Int):Option (D190×Int):=(F.ds e 0 4 (0,e,0,0,(0,0,0,0))).bind λf=>(some f)
theorem o_aB (e:Int)(k:A.h6 e)(r:D190×Int)(h:F.eC e=some r):
    A.Ct Tryz.prog 167 [A.i e] [] [] (λv H'=>v=.tuple #[(A.rae r.1),A.i r.2]/\H'=[]/\A.h6 r.1.1/\A.h6 r.1.2.1/\A.h6 r.1.2.2.1/\A.h6 r.1.2.2.2.1/\A.h6 r.1.2.2.2.2.1/\A.h6 r.1.2.2.2.2.2.1/\A.h6 r.1.2.2.2.2.2.2.1/\A.h6 r.1.2.2.2.2.2.2.2/\A.h6 r.2):=by
 refine Vh Tryz.func167 rfl Tryz.ntmps167 rfl λo s=>?_;rw[F.eC]at h;refine Vl 1 ?_;refine Vj 0 (cs:=l4b) Tryz.zeroValue191 λt=>?_;refine Vr 1 [] 2 ?_;refine Uw 3 [(4,A.i e),(6,.agg #[A.i 0,A.i e,A.i 0,A.i 0,A.i 0,A.i 0,A.i 0,A.i 0])] (Ue 1 [] h (o_z e 0 4 (0,e,0,0,(0,0,0,0)) k Vv (V1 4) Vv k Vv Vv Vv Vv Vv Vv) .nil ?_);rintro f - h _ _ ⟨rfl,rfl,hr4,hr5,hr6,hr7,hr8,hr9,hr10,hr11,hr12⟩;refine Vs (Uw 2 [(8,(A.rae f.1)),(9,A.i f.2)] (Ul 0 [] (A.rab f.1) ?_));refine Vy 1 [(3,A.i f.2)] 1 ?_;obtain rfl:=V8 h;exact Up [] (.tuple #[(A.rae f.1),A.i f.2]) (λa w hf hh=>Kc rfl (Ke hf rfl Tryz.isAgg191 Tryz.sizeOf191 (Ur hh 0) rfl) (Ut hf rfl)) (⟨rfl,rfl,hr4,hr5,hr6,hr7,hr8,hr9,hr10,hr11,hr12⟩)
def F.bg (e:Int)(f:Int)(h:Int)(k:Int)(o:Int)(s:Int)(t:Int)(u:Int):Option D190:=some (e,f,h,k,(o,s,t,u))
def F.d7 (s:D48)(o:Int):Option D190:=if s.2.1=12 then((F.er o).bind λe=>(F.bg e.1.1 e.1.2.1 e.1.2.2.1 e.1.2.2.2.1 e.1.2.2.2.2.1 e.1.2.2.2.2.2.1 e.1.2.2.2.2.2.2.1 e.1.2.2.2.2.2.2.2))else(if s.2.1=13 then((F.es o).bind λf=>(F.bg f.1.1 f.1.2.1 f.1.2.2.1 f.1.2.2.2.1 f.1.2.2.2.2.1 f.1.2.2.2.2.2.1 f.1.2.2.2.2.2.2.1 f.1.2.2.2.2.2.2.2))else(if s.2.1=14 then((F.ev o).bind λh=>(F.bg h.1.1 h.1.2.1 h.1.2.2.1 h.1.2.2.2.1 h.1.2.2.2.2.1 h.1.2.2.2.2.2.1 h.1.2.2.2.2.2.2.1 h.1.2.2.2.2.2.2.2))else((F.eC o).bind λk=>(F.bg k.1.1 k.1.2.1 k.1.2.2.1 k.1.2.2.2.1 k.1.2.2.2.2.1 k.1.2.2.2.2.2.1 k.1.2.2.2.2.2.2.1 k.1.2.2.2.2.2.2.2))))
theorem o_be(f:D48)(h:Int)(aa:A.h6 f.1)(ab:A.h6 f.2.1)(ac:A.h6 f.2.2.2.1.1)(ad:A.h6 f.2.2.2.1.2.1)(ae:f.2.2.2.1.2.2.size<=maxLen)(ag:f.2.2.2.2.1.size<=maxLen)(ah:A.h6 f.2.2.2.2.2.1)(aj:A.h6 f.2.2.2.2.2.2)(N:A.h6 h)(r:D190)(e:F.d7 f h=some r):
    A.Ct Tryz.prog 166 [(A.rao f A2_ c3_),A.i h] [(0,.sh A.TI [.slice A2_ f.2.2.1.length c3_] f.2.2.1)] [] (λv H'=>v=(A.rae r)/\H'=[]/\A.h6 r.1/\A.h6 r.2.1/\A.h6 r.2.2.1/\A.h6 r.2.2.2.1/\A.h6 r.2.2.2.2.1/\A.h6 r.2.2.2.2.2.1/\A.h6 r.2.2.2.2.2.2.1/\A.h6 r.2.2.2.2.2.2.2):=by
 refine Vh Tryz.func166 rfl Tryz.ntmps166 rfl λw0 F0=>?_;rw[F.d7]at e;refine Vl 1 ?_;refine Vm 1 (cs:=(A.rai f A2_ c3_)) λg1=>?_;refine Vj 2 (cs:=l4b) Tryz.zeroValue191 λg2=>?_;refine Uq 2 ?_;refine Vj 3 (cs:=l4b) Tryz.zeroValue191 λW=>?_;refine Kh 1 ?_;refine Vi [4,5] [2] (λnl nh=>∃(u:Int)(y:Int)(z:Int)(B:Int)(E:Int)(I:Int)(J:Int)(L:Int),nl=[]/\nh=[(3,.blk W 191 [A.i u,A.i y,A.i z,A.i B,A.i E,A.i I,A.i J,A.i L])]/\A.h6 u/\A.h6 y/\A.h6 z/\A.h6 B/\A.h6 E/\A.h6 I/\A.h6 J/\A.h6 L/\F.bg u y z B E I J L=some r) ?_ ?_;refine Uj 1 [1] [] [.n,.b 0 1] [(7,A.i f.2.1)] ?_;refine Uq 3 ?_;refine Vy 2 [(13,.bool (decide (f.2.1=12)))] 1 ?_;refine Km e ?_ ?_<;>intro U e;refine Uf 0 1 [(16,A.i h)] ?_;refine Ue 4 [] e (o_bB h N) .nil ?_;rintro k - e _ _ ⟨rfl,rfl,hr22,hr23,hr24,hr25,hr26,hr27,hr28,hr29,hr30⟩;refine Vs (Uw 3 [(18,(A.rae k.1))] (Ul 3 [] (A.rab k.1) ?_));refine Ki 1 ?_;exact V0 ⟨k.1.1,k.1.2.1,k.1.2.2.1,k.1.2.2.2.1,k.1.2.2.2.2.1,k.1.2.2.2.2.2.1,k.1.2.2.2.2.2.2.1,k.1.2.2.2.2.2.2.2,rfl,rfl,hr22,hr23,hr24,hr25,hr26,hr27,hr28,hr29,e⟩;refine V7 1 2 [(20,.bool (decide (f.2.1=13)))] 1 e ?_ ?_<;>intro U e;refine Uf 0 1 [(23,A.i h)] ?_;refine Ue 44 [] e (o_bC h N) .nil ?_;rintro o - e _ _ ⟨rfl,rfl,hr33,hr34,hr35,hr36,hr37,hr38,hr39,hr40,hr41⟩;refine Vs (Uw 3 [(25,(A.rae o.1))] (Ul 3 [] (A.rab o.1) ?_));refine Ki 1 ?_;exact V0 ⟨o.1.1,o.1.2.1,o.1.2.2.1,o.1.2.2.2.1,o.1.2.2.2.2.1,o.1.2.2.2.2.2.1,o.1.2.2.2.2.2.2.1,o.1.2.2.2.2.2.2.2,rfl,rfl,hr33,hr34,hr35,hr36,hr37,hr38,hr39,hr40,e⟩;refine V7 1 2 [(27,.bool (decide (f.2.1=14)))] 1 e ?_ ?_<;>intro U e;refine Uf 0 1 [(30,A.i h)] ?_;refine Ue 84 [] e (o_b3 h N) .nil ?_;rintro s - e _ _ ⟨rfl,rfl,hr44,hr45,hr46,hr47,hr48,hr49,hr50,hr51,hr52⟩;refine Vs (Uw 3 [(32,(A.rae s.1))] (Ul 3 [] (A.rab s.1) ?_));refine Ki 1 ?_;exact V0 ⟨s.1.1,s.1.2.1,s.1.2.2.1,s.1.2.2.2.1,s.1.2.2.2.2.1,s.1.2.2.2.2.2.1,s.1.2.2.2.2.2.2.1,s.1.2.2.2.2.2.2.2,rfl,rfl,hr44,hr45,hr46,hr47,hr48,hr49,hr50,hr51,e⟩;refine Uf 0 1 [(9,A.i h)] ?_;refine Ue 124 [] e (o_aB h N) .nil ?_;rintro t - e _ _ ⟨rfl,rfl,hr55,hr56,hr57,hr58,hr59,hr60,hr61,hr62,hr63⟩;refine Vs (Uw 3 [(11,(A.rae t.1))] (Ul 3 [] (A.rab t.1) ?_));refine Ki 1 ?_;exact V0 ⟨t.1.1,t.1.2.1,t.1.2.2.1,t.1.2.2.2.1,t.1.2.2.2.2.1,t.1.2.2.2.2.2.1,t.1.2.2.2.2.2.2.1,t.1.2.2.2.2.2.2.2,rfl,rfl,hr55,hr56,hr57,hr58,hr59,hr60,hr61,hr62,e⟩;rintro _ _ ⟨u,y,z,B,E,I,J,L,rfl,rfl,a2,a3,a4,a5,a6,a7,a8,a9,e⟩;rw[F.bg]at e;refine Uj 1 [3] [] [.b 0 0] [(34,.agg #[A.i u,A.i y,A.i z,A.i B,A.i E,A.i I,A.i J,A.i L])] ?_;refine Ul 2 [] [A.i u,A.i y,A.i z,A.i B,A.i E,A.i I,A.i J,A.i L] ?_;refine Kh 1 ?_;obtain rfl:=V8 e;exact Up [] (.agg #[A.i u,A.i y,A.i z,A.i B,A.i E,A.i I,A.i J,A.i L]) (λa w hf hh=>Kp rfl (Ke hf rfl Tryz.isAgg191 Tryz.sizeOf191 (Ur hh 2) rfl)) (⟨rfl,rfl,a2,a3,a4,a5,a6,a7,a8,a9⟩)
end Go.Proofs.YtligcbdjiolamaaGreatDoor
end
