/- Functions on data, what they tell, and that the code computes them. -/
import Derived.Test.YtbdlcighhphaoaaDoorKA1
import Derived.Test.YtbdlcighhphaoaaDoorKA2
import Derived.Test.YtbdlcighhphaoaaDoorKA0
import Derived.Lib.TrimUEq
section
end
section
set_option linter.unusedVariables false
namespace Go.A
open Go.RowKit Go.Z Go.Shelf Go.Proofs Go.Lib
def Hall (W:World):List (Nat×Res)→Prop
 | []=>True
 |p::H=>(p.2.bl=[]∧p.2.ref=none∧p.2.holds W (fun _=>True) (fun _ _=>False))∧Hall W H
theorem Hall.at {W:World}: ∀{H:List (Nat×Res)} {k:Nat} {r:Res},Hall W H→hk H k=some r→r.bl=[]∧r.ref=none∧r.holds W (fun _=>True) (fun _ _=>False)
 | [],_,_,_,h=>by cases h
 |(d,u)::H,k,r,ha,h=>by
  rw[hk_cons]at h
  split at h
  ·injection h with h;subst h;exact ha.1
  ·exact ha.2.at h
theorem Hp.start {W:World}{H:List (Nat×Res)}(h:Hall W H):Hp ⟨0,[],W,[],fun _=>True⟩ H W:=by
 have hb: ∀k b,¬Bk H k b:=fun k b ⟨r,h1,h2⟩=>by rw[(h.at h1).1]at h2;cases h2
 refine⟨Ch.refl W,fun k r hk=>?_,fun k b hB=>(hb k b hB).elim,fun k k' b hB=>(hb k b hB).elim,fun k r j hk hr=>?_⟩
 ·exact Res.to (S:=[]) (h.at hk).2.2 (Ch.refl W) (fun b _ _=>⟨by simp,fun k=>hb k b,.inl trivial⟩) (fun b _ _=>⟨by simp,fun k=>hb k b⟩) (fun i b _ hf=>hf.elim) (by simp)
 ·rw[(h.at hk).2.1]at hr;cases hr
theorem Hall.sh {W:World}{t:Ty}{cs:List Value}{x:t.den}{F:Nat→Prop}(h:t.rep W F cs x):(Res.sh t cs x).bl=[]∧(Res.sh t cs x).ref=none∧(Res.sh t cs x).holds W (fun _=>True) (fun _ _=>False):=
 ⟨rfl,rfl,rep_as h fun _ _ _=>trivial⟩
theorem Hall.ln {W:World}{t:Ty}{A:Option Addr}{c n:Nat}{xs:List t.den}{F:Nat→Prop}(h:(Ty.slice t).rep W F [.slice A xs.length c] xs):(Res.ln t A c xs).bl=[]∧(Res.ln t A c xs).ref=none∧(Res.ln t A c xs).holds W (fun _=>True) (fun _ _=>False):=
 ⟨rfl,rfl,Row.to (S:=[]) (Row.of h) (Ch.refl W) (fun _ _ _=>⟨by simp,trivial⟩) (fun _ _ _=>⟨by simp,fun _ h=>h⟩)⟩
def putCells (cs:List Value):Obj→Obj
 | .cells _ t frozen=>.cells cs.toArray t frozen
 |o=>o
theorem tab_cells {w:World}{g3 g4:Nat}(h:Lib.Utf8Tabs g3 g4 w):Cells w ⟨g3,0,none⟩ tabF∧Cells w ⟨g4,0,none⟩ tabA:=by
 constructor
 ·intro j u hu
  rw[Addr.add_lit,Nat.zero_add]
  have hj:j<256:=by have:=(List.getElem?_eq_some_iff.1 hu).1;simpa[tabF] using this
  have e:tabF[j]?=some (.int .u8 (firstT j)):=by simp[tabF,hj]
  rw[e]at hu;injection hu with hu;subst hu
  exact h.1 j hj
 ·intro j u hu
  rw[Addr.add_lit,Nat.zero_add]
  have hj:j<32:=by have:=(List.getElem?_eq_some_iff.1 hu).1;simpa[tabA] using this
  have e:tabA[j]?=some (.int .u8 (if j%2=0 then accLo (j / 2)else accHi (j / 2))):=by simp[tabA,hj]
  rw[e]at hu;injection hu with hu;subst hu
  have:=h.2 (j / 2) (by omega)
  by_cases he:j%2=0
  ·rw[if_pos he]
   have hj2:j=2*(j / 2):=by omega
   rw[hj2];simpa using this.1
  ·rw[if_neg he]
   have hj2:j=2*(j / 2)+1:=by omega
   have h3:(2*(j / 2)+1) / 2=j / 2:=by omega
   rw[hj2,h3];exact this.2
theorem Hall.tabs {w:World}{g3 g4 i j:Nat}(h:Lib.Utf8Tabs g3 g4 w):Hall w [(i,.el none g3 0 tabF),(j,.el none g4 0 tabA)]:=by
 obtain⟨h1,h2⟩:=tab_cells h
 exact⟨⟨rfl,rfl,h1,World.block_lt_of_cell? w _ (h1 0 (.int .u8 (firstT 0)) (by simp[tabF])),fun _ h=>h⟩,⟨rfl,rfl,h2,World.block_lt_of_cell? w _ (h2 0 (.int .u8 (accLo 0)) (by simp[tabA])),fun _ h=>h⟩,trivial⟩
end Go.A
end
section
namespace Go.Graph
abbrev Fun:=Int×Int×ByteArray
abbrev Nd:=Int×Int×List Int×Fun×ByteArray×Int×Int
abbrev Pl:=Int×Int
abbrev Sp:=Pl×Int
abbrev id (x:Nd):Int:=x.1
abbrev kind (x:Nd):Int:=x.2.1
abbrev fn (x:Nd):Fun:=x.2.2.2.1
abbrev name (x:Nd):ByteArray:=x.2.2.2.2.1
abbrev cap (x:Nd):Int:=x.2.2.2.2.2.1
abbrev dep (x:Nd):Int:=x.2.2.2.2.2.2
def Few (g:List Nd):Prop:=g.length≤40∧∀x,x∈g→x.2.2.1.length≤5000∧x.2.2.2.2.1.size≤5000∧x.2.2.2.1.2.2.size≤5000
theorem Few.in {g:List Nd}{k:Nat}{x:Nd}(h:Few g)(hx:g[k]?=some x):x.2.2.1.length≤5000:=(h.2 x (List.mem_of_getElem? hx)).1
theorem dropc {α:Type}{xs:List α}{k:Nat}{x:α}(h:xs[k]?=some x):xs.drop k=x::xs.drop (k+1):=by
 obtain⟨h1,h2⟩:=List.getElem?_eq_some_iff.1 h
 rw[List.drop_eq_getElem_cons h1,h2]
def insK (k:Int):Int:=if k<1∨16<k then-1 else if k=1 then 0 else if k=5∨k=9 then 2 else 1
def letter (c:UInt8):Bool:=decide ((97:Int)≤(c.toNat:Int)∧(c.toNat:Int)≤122∨(65:Int)≤(c.toNat:Int)∧(c.toNat:Int)≤90)
def digit (c:UInt8):Bool:=decide ((48:Int)≤(c.toNat:Int)∧(c.toNat:Int)≤57)
def wordy (l:List UInt8):Bool:=l.all fun c=>letter c||digit c
def named (s:ByteArray):Bool:=decide (s≠ByteArray.mk #[])&&decide ((s.size:Int)≤16)&&letter (Z.bat s 0)&&wordy s.data.toList
theorem drop_bat {s:ByteArray}{i:Nat}(h:i<s.size):s.data.toList.drop i=Z.bat s i::s.data.toList.drop (i+1):=by
 have h':i<s.data.toList.length:=by simpa using h
 rw[List.drop_eq_getElem_cons h']
 have h2:i<s.data.size:=h
 congr 1
 simp[Z.bat,Array.getElem?_eq_getElem h2]
theorem drop_end {s:ByteArray}{i:Nat}(h: ¬i<s.size):s.data.toList.drop i=[]:=
 List.drop_eq_nil_of_le (by have h1:s.data.toList.length=s.size:=rfl;omega)
theorem size_pos {s:ByteArray}(h:s≠ByteArray.mk #[]):0<s.size:=by
 rcases Nat.eq_zero_or_pos s.size with h0|h0
 ·have h1:s.data=#[]:=Array.eq_empty_of_size_eq_zero h0
  exact absurd (by cases s;simp_all) h
 ·exact h0
def idxF (id:Int):Nat→List Nd→Int
 |_,[]=> -1
 |k,x::r=>if x.1=id then(k:Int)else idxF id (k+1) r
def idx (g:List Nd)(id:Int):Int:=idxF id 0 g
def namedF (kd:Int)(s:ByteArray):List Nd→Int×Bool
 | []=>(0,false)
 |x::r=>if kind x=kd∧name x=s then(x.1,true)else namedF kd s r
def z0:Nd:=(0,0,[],(0,0,ByteArray.mk #[]),ByteArray.mk #[],0,0)
def at_ (g:List Nd)(i:Int):Nd:=(g[i.toNat]?).getD z0
def find (g:List Nd)(id:Int):Nd×Bool:=if idx g id<0 then(z0,false)else(at_ g (idx g id),true)
theorem idxF_le (id:Int): ∀(k:Nat) (g:List Nd),-1≤idxF id k g∧idxF id k g<k+g.length
 |k,[]=>by simp[idxF];omega
 |k,x::r=>by
  unfold idxF
  have:=idxF_le id (k+1) r
  by_cases h:x.1=id
  ·rw[if_pos h];simp only[List.length_cons];omega
  ·rw[if_neg h];simp only[List.length_cons];omega
theorem idx_le (g:List Nd)(id:Int): -1≤idx g id∧idx g id<g.length:=by
 have:=idxF_le id 0 g
 unfold idx;omega
theorem at_some {g:List Nd}{i:Int}{x:Nd}{k:Nat}(hk:i=(k:Int))(h:g[k]?=some x):at_ g i=x:=by
 subst hk;simp[at_,h]
def ownT (g:List Nd)(n:Nd):Bool:=if n.2.1≠1∧n.2.1≠15 then decide (n.2.2.2.2.1=ByteArray.mk #[])else named n.2.2.2.2.1&&decide ((namedF n.2.1 n.2.2.2.2.1 g).1=n.1)
def ownC (n:Nd):Prop:=n.2.1=14∧(n.2.2.2.2.2.1<1∨8<n.2.2.2.2.2.1∨n.2.2.2.2.2.2<1∨4<n.2.2.2.2.2.2)∨n.2.1≠14∧(n.2.2.2.2.2.1≠0∨n.2.2.2.2.2.2≠0)
instance (n:Nd):Decidable (ownC n):=by unfold ownC;infer_instance
def own (g:List Nd)(i:Int)(n:Nd):Bool:=
 if n.1<1∨255<n.1∨0<i∧n.1≤(at_ g (i-1)).1∨insK n.2.1<0∨(n.2.2.1.length:Int)≠insK n.2.1 then false else if ownC n then false else ownT g n
def bget (l:List Bool)(i:Int):Bool:=(l[i.toNat]?).getD false
def iget (l:List Int)(i:Int):Int:=(l[i.toNat]?).getD 0
def Fed (g:List Nd):Prop:=∀x,x∈g→∀k,k∈x.2.2.1→0≤idx g k
def readyF (g:List Nd)(done:List Bool)(kd:Int):List Int→Bool
 | []=>true
 |k::r=>if kd≠14∧bget done (idx g k)=false then false else readyF g done kd r
def ready (g:List Nd)(done:List Bool)(n:Nd):Bool:=readyF g done n.2.1 n.2.2.1
def firstF (g:List Nd)(done:List Bool):Nat→List Nd→Int→Int
 |_,[],a=>a
 |i,x::r,a=>firstF g done (i+1) r (if(a<0∧bget done i=false)∧ready g done x=true then i else a)
def orderF (g:List Nd):Nat→List Bool→List Int→Option (List Int)
 |0,_,l=>some l
 |f+1,done,l=>if firstF g done 0 g (-1)<0 then none else orderF g f (done.set (firstF g done 0 g (-1)).toNat true) (l++[firstF g done 0 g (-1)])
def d0:List Int→Int
 | []=>0
 |a::_=>a
def capd (d:Int):Int:=if 4<d then-1 else d
def depthA (n:Nd)(l:List Int):Int:=if n.2.1=14 then n.2.2.2.2.2.2 else if n.2.1=12 then d0 l+1 else if n.2.1=13 then d0 l-1 else
 if n.2.1=5∨n.2.1=9 then(if iget l 0≠iget l 1 then-1 else d0 l)else if n.2.1=11∨n.2.1=16∨n.2.1=15 then(if d0 l≠0 then-1 else d0 l)else d0 l
def depthOf (n:Nd)(l:List Int):Int:=capd (depthA n l)
theorem d0_iget {l:List Int}:iget l 0=d0 l:=by cases l<;>rfl
theorem d0_nil {l:List Int}(h:l.length=0):0=d0 l:=by cases l with
 |nil=>rfl
 |cons a r=>simp at h
def depthsF (g:List Nd):List Int→List Int→Option (List Int)
 | [],d=>some d
 |p::r,d=>if depthOf (at_ g p) ((at_ g p).2.2.1.map fun k=>iget d (idx g k))<0 then none else depthsF g r (d.set p.toNat (depthOf (at_ g p) ((at_ g p).2.2.1.map fun k=>iget d (idx g k))))
def loopsF (g:List Nd)(d:List Int):List Nd→Bool
 | []=>true
 |x::r=>if x.2.1=14∧iget d (idx g (iget x.2.2.1 0))≠x.2.2.2.2.2.2 then false else loopsF g d r
theorem firstF_le (g:List Nd)(done:List Bool): ∀(i:Nat) (l:List Nd) (a:Int),-1≤a→a<i+l.length→ -1≤firstF g done i l a∧firstF g done i l a<i+l.length
 |i,[],a,h1,h2=>by simp[firstF]at*;omega
 |i,x::r,a,h1,h2=>by
  unfold firstF
  simp only[List.length_cons]at h2 ⊢
  have:=firstF_le g done (i+1) r (if(a<0∧bget done i=false)∧ready g done x=true then i else a) (by split<;>omega) (by split<;>omega)
  omega
theorem firstF_x {g:List Nd}{done:List Bool}{k:Nat}{a:Int}{x:Nd}(hx:g[k]?=some x):firstF g done k (g.drop k) a=firstF g done (k+1) (g.drop (k+1)) (if(a<0∧bget done k=false)∧ready g done x=true then k else a):=by
 rw[dropc hx];simp only[firstF]
theorem firstF_b {g:List Nd}{done:List Bool}{k:Nat}{a:Int}(hk:k<g.length)(h:bget done k=true):firstF g done k (g.drop k) a=firstF g done (k+1) (g.drop (k+1)) a:=by
 rw[firstF_x (List.getElem?_eq_getElem hk),if_neg (fun h2=>by rw[h2.1.2]at h;cases h)]
theorem firstF_c {g:List Nd}{done:List Bool}{k:Nat}{a:Int}{x:Nd}(hx:g[k]?=some x)(h:ready g done x=false):firstF g done k (g.drop k) a=firstF g done (k+1) (g.drop (k+1)) a:=by
 rw[firstF_x hx,if_neg (fun h2=>by rw[h2.2]at h;cases h)]
theorem firstF_d {g:List Nd}{done:List Bool}{k:Nat}{a:Int}{x:Nd}(hx:g[k]?=some x)(h1:a<0)(h2:bget done k=false)(h3:ready g done x=true):firstF g done k (g.drop k) a=firstF g done (k+1) (g.drop (k+1)) k:=by
 rw[firstF_x hx,if_pos ⟨⟨h1,h2⟩,h3⟩]
def depths (g:List Nd)(l:List Int):List Int×Bool:=match depthsF g l (List.replicate g.length 0)with
 |some d=>if loopsF g d g then(d,true)else([],false)
 |none=>([],false)
abbrev inD (g:List Nd) (d:List Int) (l:List Int):List Int:=l.map fun k=>iget d (idx g k)
def InB (d:List Int):Prop:=∀i,0≤iget d i∧iget d i≤4
theorem InB.rep (n:Nat):InB (List.replicate n 0):=fun i=>by
 unfold iget;rw[List.getElem?_replicate];split<;>simp
theorem depthOf_le (n:Nd)(l:List Int):depthOf n l≤4:=by unfold depthOf capd;split<;>omega
theorem InB.set {d:List Int}(h:InB d)(p:Nat){v:Int}(h0:0≤v)(h1:v≤4):InB (d.set p v):=fun i=>by
 unfold iget;rw[List.getElem?_set]
 have:=h i
 unfold iget at this
 split
 ·split<;>simp<;>omega
 ·exact this
theorem InB.d0 {d:List Int}(h:InB d)(g:List Nd)(l:List Int): -1≤Graph.d0 (inD g d l)∧Graph.d0 (inD g d l)≤4:=by
 cases l with
 |nil=>simp[Graph.d0]
 |cons k r=>have:=h (idx g k);simp only[inD,List.map_cons,Graph.d0];omega
theorem inD_take {g:List Nd}{d l:List Int}{k:Nat}{x:Int}(h:l[k]?=some x):inD g d (l.take k)++[iget d (idx g x)]=inD g d (l.take (k+1)):=by
 have h1:=(List.getElem?_eq_some_iff.1 h)
 rw[List.take_add_one,h];simp[inD]
theorem depthsF_x {g:List Nd}{l d:List Int}{k:Nat}{p:Int}{n:Nd}(hp:l[k]?=some p)(hn:at_ g p=n):depthsF g (l.drop k) d=if depthOf n (inD g d n.2.2.1)<0 then none else depthsF g (l.drop (k+1)) (d.set p.toNat (depthOf n (inD g d n.2.2.1))):=by
 rw[dropc hp];simp only[depthsF,hn,inD]
def insS (g:List Nd)(d:List Int)(id:Int):Nat→List Int→List Sp
 |_,[]=>[]
 |k,x::r=>((id,(k:Int)),iget d (idx g x))::insS g d id (k+1) r
def outS (n:Nd)(v:Int):List Sp:=if n.2.1≠15 then [((n.1,2),v)]else []
def spotsF (g:List Nd)(d:List Int):Nat→List Nd→List Sp
 |_,[]=>[]
 |i,n::r=>insS g d n.1 0 n.2.2.1++(outS n (iget d i)++spotsF g d (i+1) r)
def spots (g:List Nd)(d:List Int):List Sp:=spotsF g d 0 g
theorem spotsF_x {g:List Nd}{d:List Int}{k:Nat}{n:Nd}(h:g[k]?=some n):spotsF g d k (g.drop k)=insS g d n.1 0 n.2.2.1++(outS n (iget d k)++spotsF g d (k+1) (g.drop (k+1))):=by rw[dropc h];rfl
def atS (p:Pl):List Sp→Int
 | []=> -1
 |x::r=>if x.1=p then x.2 else atS p r
abbrev Sm:=Int×Int×Int×Int×(Int×Int×Int×Int)
def z8:Sm:=(0,0,0,0,(0,0,0,0))
def stepP (d a b:Int)(s:Sm):Sm×Int:=if d<a∨b<d then(z8,11)else((d,s.2),0)
def idP (d:Int):Sm×Int:=stepP d 0 4 (0,d,0,0,(0,0,0,0))
def enterP (d:Int):Sm×Int:=stepP d 0 3 (0,d,0,1,(0,0,0,0))
def leaveP (d:Int):Sm×Int:=stepP d 1 4 (0,d-1,0,0,(0,0,0,0))
def nextP (d:Int):Sm×Int:=stepP d 1 4 (0,d,1,0,(0,0,0,0))
def withinP (n:Nd)(d:Int):Sm:=if n.2.1=12 then(enterP d).1 else if n.2.1=13 then(leaveP d).1 else if n.2.1=14 then(nextP d).1 else(idP d).1
theorem width_pos (s:ByteArray)(pos:Nat):1≤(Utf8.decode s pos).2:=by
 unfold Utf8.decode;simp only[];repeat' split
 all_goals first|exact Nat.le_refl 1|(simp;done)|omega
def numberF (f:Fun):Bool:=if f.1=3∨f.1=13 then decide (0≤f.2.1∧f.2.1≤64)else if f.1=6∨f.1=11 then decide (1≤f.2.1∧f.2.1≤1048576)else decide (f.2.1=0)
def tail5 (c:UInt8):Bool:=decide (128≤(c.toNat:Int)∧(c.toNat:Int)≤191)
end Go.Graph
end
section
set_option linter.unusedVariables false
set_option linter.unusedSimpArgs false
namespace Go.A
open Go.Z
theorem r64n {n:Nat}(h:n<4611686018427387904):R64 ((n:Int)+1):=⟨by omega,by omega⟩
theorem gd1 {α:Type}{p:Prop}[Decidable p](h:p)(x:Option α):gd p x=x:=if_pos h
theorem ixn {α:Type}{xs:List α}{k:Nat}{x:α}(h:xs[k]?=some x):ix xs (k:Int)=some x:=by rw[ix_nat];exact h
theorem ixg {α:Type}{xs:List α}{i:Int}{x:α}(h0:0≤i)(h:xs[i.toNat]?=some x):ix xs i=some x:=by unfold ix;rw[if_neg (by omega)];exact h
theorem dropx {α:Type}{xs:List α}{k:Nat}{x:α}(h:xs[k]?=some x):xs.drop k=x::xs.drop (k+1):=by
 obtain⟨h1,h2⟩:=List.getElem?_eq_some_iff.1 h
 rw[List.drop_eq_getElem_cons h1,h2]
theorem ba {p q:Prop}[Decidable p][Decidable q]:(bif decide p then decide q else false)=decide (p∧q):=by by_cases h:p<;>simp[h]
theorem bo {p q:Prop}[Decidable p][Decidable q]:(bif decide p then true else decide q)=decide (p∨q):=by by_cases h:p<;>simp[h]
theorem bn {p:Prop}[Decidable p]:(!decide p)=decide (¬p):=by by_cases h:p<;>simp[h]
theorem lp {α σ ρ:Type}(xs:List α)(L:Nat→σ→Int→Option ρ)(G:Nat→List α→σ→Option ρ)(P:Nat→σ→Prop)
  (h0: ∀f s,P xs.length s→L (f+1) s (xs.length:Int)=G xs.length [] s)
  (h1: ∀f s (k:Nat) x,xs[k]?=some x→k<xs.length→P k s→(∀s',P (k+1) s'→L f s' ((k:Int)+1)=G (k+1) (xs.drop (k+1)) s')→L (f+1) s k=G k (x::xs.drop (k+1)) s)
  (hl:xs.length<FU) (s:σ) (hs:P 0 s):L FU s 0=G 0 xs s:=by
 have main: ∀(n k f:Nat) (s:σ),k+n=xs.length→n<f→P k s→L f s (k:Int)=G k (xs.drop k) s:=by
  intro n
  induction n with
  |zero=>
   intro k f s hk hf hp
   obtain⟨f,rfl⟩: ∃f',f=f'+1:=⟨f-1,by omega⟩
   obtain rfl:k=xs.length:=by omega
   rw[List.drop_eq_nil_of_le (Nat.le_refl _)];exact h0 f s hp
  |succ n ih=>
   intro k f s hk hf hp
   obtain⟨f,rfl⟩: ∃f',f=f'+1:=⟨f-1,by omega⟩
   have hx:xs[k]?=some xs[k]:=List.getElem?_eq_getElem (by omega)
   rw[dropx hx]
   exact h1 f s k _ hx (by omega) hp fun s' hp'=>ih (k+1) f s' (by omega) (by omega) hp'
 have:=main xs.length 0 FU s (by omega) hl hs
 simpa using this
theorem lp0 {α ρ:Type}(xs:List α)(L:Nat→Int→Option ρ)(G:Nat→List α→Option ρ)
  (h0: ∀f,L (f+1) (xs.length:Int)=G xs.length [])
  (h1: ∀f (k:Nat) x,xs[k]?=some x→k<xs.length→L f ((k:Int)+1)=G (k+1) (xs.drop (k+1))→L (f+1) k=G k (x::xs.drop (k+1)))
  (hl:xs.length<FU):L FU 0=G 0 xs:=
 lp xs (fun f (_:Unit) y=>L f y) (fun k l _=>G k l) (fun _ _=>True) (fun f s _=>h0 f) (fun f s k x hx hk _ ih=>h1 f k x hx hk (ih () trivial)) hl () trivial
end Go.A
namespace Go.Proofs.YtbdlcighhphaoaaDoor
open Go.RowKit Go.Graph
theorem FU_big:(1000000000000:Nat)<A.FU:=by decide
theorem Ins_eq (k:Int):F.bO k=F.bR k:=rfl
theorem R08_Ins_eq (k:Int):F.bR k=some (insK k):=by
 unfold F.bR insK
 simp only[Bool.cond_decide]
 by_cases h1:k<1<;>by_cases h2:16<k<;>simp[h1,h2]
 by_cases h3:k=1
 ·simp[h3]
 ·by_cases h4:k=5<;>by_cases h5:k=9<;>simp[h3,h4,h5]
theorem ixb {s:ByteArray}{k:Nat}(h:k<s.size):A.ix s.data.toList (k:Int)=some (Z.bat s k):=by
 refine A.ixn ?_
 have:=drop_bat h
 rw[←List.head?_drop,this];rfl
theorem size_list (s:ByteArray):s.data.toList.length=s.size:=rfl
theorem letter_eq (c:UInt8):F.bY c=some (letter c):=by
 unfold F.bY letter
 by_cases h1:(97:Int)≤(c.toNat:Int)<;>by_cases h2:(c.toNat:Int)≤122<;>simp[h1,h2]
theorem digit_eq (c:UInt8):F.cN c=some (digit c):=by
 unfold F.cN digit
 by_cases h1:(48:Int)≤(c.toNat:Int)<;>by_cases h2:(c.toNat:Int)≤57<;>simp[h1,h2]
theorem name_eq (s:ByteArray)(hs:s.size≤5000):F.cJ s=some (named s):=by
 have loop:F.a5 s A.FU 0=some (wordy s.data.toList):=A.lp0 s.data.toList (fun f y=>F.a5 s f y) (fun _ l=>some (wordy l))
  (fun f=>by rw[F.a5,if_neg (by rw[size_list];omega)];rfl)
  (fun f k x hx hk ih=>by
   have hk':k<s.size:=hk
   rw[F.a5,if_pos (by omega),A.ixn hx,Option.bind_some,letter_eq,Option.bind_some]
   cases hl:letter x with
   |true=>
    simp only[Bool.not_true,Bool.false_eq_true,if_false,F.b8]
    rw[A.gd1 (A.r64n (by omega)),ih];simp[wordy,hl]
   |false=>
    simp only[Bool.not_false,if_true,A.ixn hx,Option.bind_some,digit_eq,F.b8]
    cases hd:digit x with
    |true=>simp only[Bool.not_true,Bool.false_eq_true,if_false];rw[A.gd1 (A.r64n (by omega)),ih];simp[wordy,hl,hd]
    |false=>simp[wordy,hl,hd])
  (by rw[size_list];have:=FU_big;omega)
 unfold F.cJ named
 by_cases h1:s=ByteArray.mk #[]
 ·simp[h1,F.bL]
 ·by_cases h2:(16:Int)<(s.size:Int)
  ·have h2': ¬(s.size:Int)≤16:=by omega
   simp[h1,h2,h2',F.bL]
  ·have h2':(s.size:Int)≤16:=by omega
   have h0:=size_pos h1
   have e0:A.ix s.data.toList 0=some (Z.bat s 0):=ixb h0
   simp only[h1,h2,h2',decide_false,cond_false,Bool.false_eq_true,if_false,e0,Option.bind_some,letter_eq,F.bL,loop,decide_true,ne_eq,not_false_eq_true,Bool.and_true,Bool.true_and]
   cases letter (Z.bat s 0)<;>simp
end Go.Proofs.YtbdlcighhphaoaaDoor
end
section
set_option linter.unusedVariables false
set_option linter.unusedSimpArgs false
set_option synthInstance.maxSize 1000000
set_option synthInstance.maxHeartbeats 400000
namespace Go.Proofs.YtbdlcighhphaoaaDoor
open Go.RowKit Go.Graph
theorem bat_get (s:ByteArray)(i:Nat):(s.get! i)=Z.bat s i:=by
 cases s;simp[ByteArray.get!,Z.bat,getElem!_def,Option.getD]
 rfl
theorem dec_at (s:ByteArray)(i:Nat):Utf8.decode s i=Lib.decodeN (s.size-i) (Z.bat s i).toNat (Z.bat s (i+1)).toNat (Z.bat s (i+2)).toNat (Z.bat s (i+3)).toNat:=by
 rw[Lib.decode_at,bat_get,bat_get,bat_get,bat_get]
theorem dec_lt {s:ByteArray}{i:Nat}(h:(Z.bat s i).toNat <128):Utf8.decode s i=((Z.bat s i).toNat,1):=by
 rw[dec_at];unfold Lib.decodeN;rw[if_pos h]
theorem dec_ge {s:ByteArray}{i:Nat}(h:128≤(Z.bat s i).toNat):128≤(Utf8.decode s i).1:=by
 rw[dec_at];unfold Lib.decodeN;rw[if_neg (by omega)]
 repeat' split
 all_goals first|(simp only[];omega)|decide
theorem named_eq (s:ByteArray)(hs:s.size≤5000):F.aW s=some (named s):=by
 have loop: ∀(n p f:Nat),s.size-p≤n→n<f→F.aa s f p=some ((if p=0∧0<s.size then letter (Z.bat s 0)else true)&&wordy (s.data.toList.drop p)&&(decide (s≠ByteArray.mk #[])&&decide ((s.size:Int)≤16))):=by
  intro n
  induction n with
  |zero=>
   intro p f hp hf
   obtain⟨f,rfl⟩: ∃f',f=f'+1:=⟨f-1,by omega⟩
   rw[F.aa,if_neg (by omega),drop_end (by omega),if_neg (by omega)]
   by_cases h1:s=ByteArray.mk #[]<;>simp[h1,wordy]
  |succ n ih=>
   intro p f hp hf
   obtain⟨f,rfl⟩: ∃f',f=f'+1:=⟨f-1,by omega⟩
   by_cases hp2:p<s.size
   ·rw[F.aa,if_pos hp2,drop_bat hp2]
    rcases Nat.lt_or_ge (Z.bat s p).toNat 128 with hc|hc
    ·rw[dec_lt hc]
     have ih1:=ih (p+1) f (by omega) (by omega)
     rw[if_neg (fun h=>by omega)]at ih1
     simp only[ih1]
     have e1:(bif decide ((97:Int)≤((Z.bat s p).toNat:Int))then decide (((Z.bat s p).toNat:Int)≤122)else false)=decide ((97:Int)≤((Z.bat s p).toNat:Int)∧((Z.bat s p).toNat:Int)≤122):=by by_cases h:(97:Int)≤((Z.bat s p).toNat:Int)<;>simp[h]
     have e2:(bif decide ((65:Int)≤((Z.bat s p).toNat:Int))then decide (((Z.bat s p).toNat:Int)≤90)else false)=decide ((65:Int)≤((Z.bat s p).toNat:Int)∧((Z.bat s p).toNat:Int)≤90):=by by_cases h:(65:Int)≤((Z.bat s p).toNat:Int)<;>simp[h]
     rw[e1,e2]
     by_cases hL:letter (Z.bat s p)=true
     ·have hL':=hL
      simp only[letter,decide_eq_true_eq]at hL'
      have e3:(if p=0∧0<s.size then letter (Z.bat s 0)else true)=true:=by split;rename_i h;rw[←h.1];exact hL;rfl
      rw[e3]
      simp only[wordy,List.all_cons,hL,Bool.true_or,Bool.true_and]
      by_cases h1:(97:Int)≤((Z.bat s p).toNat:Int)∧((Z.bat s p).toNat:Int)≤122
      ·simp[h1]
      ·have h2:=hL'.resolve_left h1
       simp[h1,h2]
     ·have hL':=hL
      simp only[letter,decide_eq_true_eq,not_or]at hL'
      rw[Bool.not_eq_true]at hL
      simp only[hL'.1,hL'.2,decide_false,Bool.false_eq_true,if_false,Bool.not_false,if_true]
      simp only[wordy,List.all_cons,hL,Bool.false_or]
      by_cases h0:p=0
      ·subst h0;simp[hp2,hL]
      ·have h0': ¬(p:Int)=0:=by omega
       simp only[h0,h0',decide_false,cond_false,false_and,if_false,Bool.true_and]
       by_cases hd:digit (Z.bat s p)=true
       ·have hd':=hd
        simp only[digit,decide_eq_true_eq]at hd'
        have a1: ¬((Z.bat s p).toNat:Int)<48:=by omega
        have a2: ¬(57:Int)<((Z.bat s p).toNat:Int):=by omega
        simp[a1,a2,hd]
       ·have hd':=hd
        simp only[digit,decide_eq_true_eq]at hd'
        rw[Bool.not_eq_true]at hd
        by_cases a1:((Z.bat s p).toNat:Int)<48
        ·simp[a1,hd]
        ·have a2:(57:Int)<((Z.bat s p).toNat:Int):=by omega
         simp[a1,a2,hd]
    ·have hd:=dec_ge hc
     have hL:letter (Z.bat s p)=false:=by unfold letter;rw[decide_eq_false_iff_not];omega
     have hD:digit (Z.bat s p)=false:=by unfold digit;rw[decide_eq_false_iff_not];omega
     have b1: ¬((Utf8.decode s p).1:Int)≤122:=by omega
     have b2: ¬((Utf8.decode s p).1:Int)≤90:=by omega
     have b3:(57:Int)<((Utf8.decode s p).1:Int):=by omega
     have b4: ¬((Utf8.decode s p).1:Int)<48:=by omega
     simp[b1,b2,b3,b4,wordy,hL,hD]
   ·rw[F.aa,if_neg hp2,drop_end hp2,if_neg (by omega)]
    by_cases h1:s=ByteArray.mk #[]<;>simp[h1,wordy]
 unfold F.aW
 rw[loop s.size 0 A.FU (by omega) (by have:=FU_big;omega)]
 unfold named
 by_cases h1:s=ByteArray.mk #[]
 ·simp[h1]
 ·have h0:=size_pos h1
  simp only[h0,and_self,if_true,List.drop_zero,ne_eq,h1,not_false_eq_true,decide_true,Bool.true_and]
  congr 1
  cases letter (Z.bat s 0)<;>cases wordy s.data.toList<;>simp
end Go.Proofs.YtbdlcighhphaoaaDoor
end
section
set_option maxRecDepth 20000
set_option linter.unusedVariables false
set_option linter.unusedSimpArgs false
namespace Go.Proofs.YtbdlcighhphaoaaDoor
open Go.RowKit Go.Graph
theorem tail_eq (c:UInt8):F.bw c=some (tail5 c):=by
 unfold F.bw tail5
 by_cases h1:(128:Int)≤(c.toNat:Int)<;>by_cases h2:(c.toNat:Int)≤191<;>simp[h1,h2]
theorem ixk (s:ByteArray)(p k:Nat):A.ix s.data.toList ((p:Int)+(k:Int))=if p+k<s.size then some (Z.bat s (p+k))else none:=by
 have e:(p:Int)+(k:Int)=((p+k:Nat):Int):=by omega
 rw[e]
 by_cases h:p+k<s.size
 ·rw[if_pos h];exact ixb h
 ·rw[if_neg h,A.ix_nat];exact List.getElem?_eq_none (by rw[size_list];omega)
def wid (s:ByteArray)(p:Nat):Nat:=if Utf8.decode s p=(65533,1)then 0 else(Utf8.decode s p).2
theorem wid_le {s:ByteArray}{p:Nat}(h:p<s.size):p+wid s p≤s.size:=by
 unfold wid
 split
 ·omega
 ·rw[dec_at]
  unfold Lib.decodeN
  repeat' split
  all_goals simp only[]
  all_goals omega
def widN (n a b c d:Nat):Nat:=
 if a<128 then 1
 else if(194≤a∧a≤223)∧2≤n∧(128≤b∧b≤191)then 2
 else if(224≤a∧a≤239)∧3≤n∧(128≤b∧b≤191)∧(128≤c∧c≤191)∧¬(a=224∧b<160)∧¬(a=237∧159<b)then 3
 else if(240≤a∧a≤244)∧4≤n∧(128≤b∧b≤191)∧(128≤c∧c≤191)∧(128≤d∧d≤191)∧¬(a=240∧b<144)∧¬(a=244∧143<b)then 4
 else 0
theorem pq (c:Prop)[Decidable c](x w:Nat)(hw:w≠1):(if(if c then(x,w)else(65533,1))=(65533,1)then 0 else(if c then(x,w)else(65533,1)).2)=if c then w else 0:=by
 by_cases h:c<;>simp[h,hw]
theorem widN_eq (n a b c d:Nat)(ha:a<256)(hb:b<256)(hc:c<256)(hd:d<256):(if Lib.decodeN n a b c d=(65533,1)then 0 else(Lib.decodeN n a b c d).2)=widN n a b c d:=by
 unfold Lib.decodeN widN
 by_cases h0:a<128
 ·simp only[h0,if_true,Prod.mk.injEq];rw[if_neg (by omega)]
 ·simp only[h0,if_false]
  by_cases h1:a / 32=6∧1<n∧b / 64=2
  ·simp only[if_pos h1]
   rw[pq _ _ _ (by decide)]
   repeat' split
   all_goals omega
  ·simp only[if_neg h1]
   by_cases h3:a / 16=14∧(1<n∧b / 64=2)∧2<n∧c / 64=2
   ·simp only[if_pos h3]
    rw[pq _ _ _ (by decide)]
    repeat' split
    all_goals omega
   ·simp only[if_neg h3]
    by_cases h5:a / 8=30∧(1<n∧b / 64=2)∧(2<n∧c / 64=2)∧3<n∧d / 64=2
    ·simp only[if_pos h5]
     rw[pq _ _ _ (by decide)]
     repeat' split
     all_goals omega
    ·simp only[if_neg h5,if_true]
     repeat' split
     all_goals omega
theorem wid_N (s:ByteArray)(p:Nat):wid s p=widN (s.size-p) (Z.bat s p).toNat (Z.bat s (p+1)).toNat (Z.bat s (p+2)).toNat (Z.bat s (p+3)).toNat:=by
 rw[←widN_eq _ _ _ _ _ (UInt8.toNat_lt _) (UInt8.toNat_lt _) (UInt8.toNat_lt _) (UInt8.toNat_lt _),←dec_at];rfl
theorem cnd {α:Type}{p:Prop}[Decidable p](x y:α):(bif decide p then x else y)=if p then x else y:=by by_cases h:p<;>simp[h]
set_option maxHeartbeats 4000000 in
theorem width_eq (s:ByteArray)(p:Nat)(hp:p<s.size)(hs:s.size≤5000):F.ce s p=some (wid s p:Int):=by
 have i1:A.ix s.data.toList ((p:Int)+1)=if p+1<s.size then some (Z.bat s (p+1))else none:=ixk s p 1
 have i2:A.ix s.data.toList ((p:Int)+2)=if p+2<s.size then some (Z.bat s (p+2))else none:=ixk s p 2
 have i3:A.ix s.data.toList ((p:Int)+3)=if p+3<s.size then some (Z.bat s (p+3))else none:=ixk s p 3
 have r1:Z.R64 ((p:Int)+1):=⟨by omega,by omega⟩
 have r2:Z.R64 ((p:Int)+2):=⟨by omega,by omega⟩
 have r3:Z.R64 ((p:Int)+3):=⟨by omega,by omega⟩
 unfold F.ce
 rw[A.gd1 ⟨by omega,by omega⟩,ixb hp,Option.bind_some,A.gd1 r1,i1,wid_N]
 generalize Z.bat s p=c0 at*
 generalize Z.bat s (p+1)=c1 at*
 generalize Z.bat s (p+2)=c2 at*
 generalize Z.bat s (p+3)=c3 at*
 have t (c:UInt8):tail5 c=decide (128≤c.toNat∧c.toNat≤191):=by unfold tail5;congr 1;exact propext ⟨fun h=>by omega,fun h=>by omega⟩
 by_cases h1:(1:Int)<(s.size:Int)-(p:Int)
 ·rw[if_pos h1,if_pos (by omega),Option.bind_some]
  simp only[F.bz,F.bx,F.be,F.a0,tail_eq,Option.bind_some,t,A.gd1 r2,A.gd1 r3,i2,i3]
  unfold widN
  generalize hn:s.size-p=n
  have e2:((2:Int)≤(s.size:Int)-(p:Int))=(2≤n):=propext ⟨fun h=>by omega,fun h=>by omega⟩
  have e3:((3:Int)≤(s.size:Int)-(p:Int))=(3≤n):=propext ⟨fun h=>by omega,fun h=>by omega⟩
  have e4:((4:Int)≤(s.size:Int)-(p:Int))=(4≤n):=propext ⟨fun h=>by omega,fun h=>by omega⟩
  have f2:(p+2<s.size)=(3≤n):=propext ⟨fun h=>by omega,fun h=>by omega⟩
  have f3:(p+3<s.size)=(4≤n):=propext ⟨fun h=>by omega,fun h=>by omega⟩
  have hn2:2≤n:=by omega
  simp only[e2,e3,e4,f2,f3,A.ba,decide_eq_true_eq,hn2,and_true,true_and]
  have q0:((c0.toNat:Int)<128)=(c0.toNat<128):=propext ⟨fun h=>by omega,fun h=>by omega⟩
  have q1:((194:Int)≤(c0.toNat:Int)∧(c0.toNat:Int)≤223)=(194≤c0.toNat∧c0.toNat≤223):=propext ⟨fun h=>by omega,fun h=>by omega⟩
  have q2:((224:Int)≤(c0.toNat:Int)∧(c0.toNat:Int)≤239)=(224≤c0.toNat∧c0.toNat≤239):=propext ⟨fun h=>by omega,fun h=>by omega⟩
  have q3:((240:Int)≤(c0.toNat:Int)∧(c0.toNat:Int)≤244)=(240≤c0.toNat∧c0.toNat≤244):=propext ⟨fun h=>by omega,fun h=>by omega⟩
  have q4:((c0.toNat:Int)=224∧(c1.toNat:Int)<160)=(c0.toNat=224∧c1.toNat<160):=propext ⟨fun h=>by omega,fun h=>by omega⟩
  have q5:((c0.toNat:Int)=237∧(159:Int)<(c1.toNat:Int))=(c0.toNat=237∧159<c1.toNat):=propext ⟨fun h=>by omega,fun h=>by omega⟩
  have q6:((c0.toNat:Int)=240∧(c1.toNat:Int)<144)=(c0.toNat=240∧c1.toNat<144):=propext ⟨fun h=>by omega,fun h=>by omega⟩
  have q7:((c0.toNat:Int)=244∧(143:Int)<(c1.toNat:Int))=(c0.toNat=244∧143<c1.toNat):=propext ⟨fun h=>by omega,fun h=>by omega⟩
  simp only[q0,q1,q2,q3,q4,q5,q6,q7]
  have x1:240≤c0.toNat∧c0.toNat≤244→¬(224≤c0.toNat∧c0.toNat≤239):=fun h h2=>by omega
  have x2:240≤c0.toNat∧c0.toNat≤244→¬(194≤c0.toNat∧c0.toNat≤223):=fun h h2=>by omega
  have x3:224≤c0.toNat∧c0.toNat≤239→¬(194≤c0.toNat∧c0.toNat≤223):=fun h h2=>by omega
  by_cases K0:c0.toNat<128
  ·simp[K0]
  by_cases m1:128≤c1.toNat∧c1.toNat≤191
  ·by_cases K1:194≤c0.toNat∧c0.toNat≤223
   ·simp only[if_neg K0,if_pos K1,if_pos m1,K1,m1,and_self,if_true];rfl
   ·by_cases K2:224≤c0.toNat∧c0.toNat≤239
    ·have K3: ¬(240≤c0.toNat∧c0.toNat≤244):=fun h=>x1 h K2
     by_cases k3:3≤n
     ·by_cases m2:128≤c2.toNat∧c2.toNat≤191
      ·by_cases y1:c0.toNat=224∧c1.toNat<160
       ·simp only[if_neg K0,if_neg K1,if_pos (And.intro K2 k3),if_pos m1,if_pos k3,Option.bind_some,if_pos m2,eq_true y1,if_true,false_and,K1,K3,eq_true y1,not_true_eq_false,and_false,if_false];rfl
       ·by_cases y2:c0.toNat=237∧159<c1.toNat
        ·simp only[if_neg K0,if_neg K1,if_pos (And.intro K2 k3),if_pos m1,if_pos k3,Option.bind_some,if_pos m2,if_neg y1,eq_true y2,if_true,false_and,K1,K3,eq_true y2,not_true_eq_false,and_false,if_false];rfl
        ·simp only[if_neg K0,if_neg K1,if_pos (And.intro K2 k3),if_pos m1,if_pos k3,Option.bind_some,if_pos m2,if_neg y1,if_neg y2,false_and,K1,K2,k3,m1,m2,y1,y2,not_false_eq_true,and_self,if_true,if_false];rfl
      ·simp only[if_neg K0,if_neg K1,if_pos (And.intro K2 k3),if_pos m1,if_pos k3,Option.bind_some,if_neg m2,if_neg K3,false_and,K1,K3,m2,and_false,if_false,Bool.false_eq_true];rfl
     ·simp only[if_neg K0,if_neg K1,k3,and_false,if_neg K3,false_and,K1,K3,if_false];rfl
    ·by_cases K3:240≤c0.toNat∧c0.toNat≤244
     ·by_cases k4:4≤n
      ·have k3:3≤n:=by omega
       by_cases m2:128≤c2.toNat∧c2.toNat≤191
       ·by_cases m3:128≤c3.toNat∧c3.toNat≤191
        ·by_cases y1:c0.toNat=240∧c1.toNat<144
         ·simp only[if_neg K0,if_neg K1,if_neg K2,K2,false_and,if_pos (And.intro K3 k4),if_pos m1,if_pos k3,if_pos k4,Option.bind_some,if_pos m2,if_pos m3,eq_true y1,if_true,K1,eq_true y1,not_true_eq_false,and_false,if_false];rfl
         ·by_cases y2:c0.toNat=244∧143<c1.toNat
          ·simp only[if_neg K0,if_neg K1,if_neg K2,K2,false_and,if_pos (And.intro K3 k4),if_pos m1,if_pos k3,if_pos k4,Option.bind_some,if_pos m2,if_pos m3,if_neg y1,eq_true y2,if_true,K1,eq_true y2,not_true_eq_false,and_false,if_false];rfl
          ·simp only[if_neg K0,if_neg K1,if_neg K2,K2,false_and,if_pos (And.intro K3 k4),if_pos m1,if_pos k3,if_pos k4,Option.bind_some,if_pos m2,if_pos m3,if_neg y1,if_neg y2,K1,K3,k4,m1,m2,m3,y1,y2,not_false_eq_true,and_self,if_true,if_false];rfl
        ·simp only[if_neg K0,if_neg K1,if_neg K2,K2,false_and,if_pos (And.intro K3 k4),if_pos m1,if_pos k3,if_pos k4,Option.bind_some,if_pos m2,if_neg m3,K1,m3,and_false,if_false,Bool.false_eq_true];rfl
       ·simp only[if_neg K0,if_neg K1,if_neg K2,K2,false_and,if_pos (And.intro K3 k4),if_pos m1,if_pos k3,Option.bind_some,if_neg m2,K1,m2,and_false,if_false,Bool.false_eq_true];rfl
      ·simp only[if_neg K0,if_neg K1,if_neg K2,K2,false_and,k4,and_false,K1,if_false];rfl
     ·simp only[if_neg K0,if_neg K1,if_neg K2,if_neg K3,K1,K2,K3,false_and,if_false];rfl
  ·simp[K0,m1]
 ·rw[if_neg h1]
  simp only[F.bz,F.bx,F.be,F.a0,A.ba,decide_eq_true_eq]
  unfold widN
  have w0:(c0.toNat:Int)<128↔c0.toNat<128:=⟨fun h=>by omega,fun h=>by omega⟩
  by_cases h2:c0.toNat<128
  ·rw[if_pos (w0.2 h2),if_pos h2];rfl
  ·have a1: ¬((194≤c0.toNat∧c0.toNat≤223)∧2≤s.size-p∧128≤c1.toNat∧c1.toNat≤191):=fun h=>by omega
   have a2: ¬((224≤c0.toNat∧c0.toNat≤239)∧3≤s.size-p∧(128≤c1.toNat∧c1.toNat≤191)∧(128≤c2.toNat∧c2.toNat≤191)∧¬(c0.toNat=224∧c1.toNat<160)∧¬(c0.toNat=237∧159<c1.toNat)):=fun h=>by omega
   have a3: ¬((240≤c0.toNat∧c0.toNat≤244)∧4≤s.size-p∧(128≤c1.toNat∧c1.toNat≤191)∧(128≤c2.toNat∧c2.toNat≤191)∧(128≤c3.toNat∧c3.toNat≤191)∧¬(c0.toNat=240∧c1.toNat<144)∧¬(c0.toNat=244∧143<c1.toNat)):=fun h=>by omega
   rw[if_neg (fun h=>h2 (w0.1 h)),if_neg h2,if_neg a1,if_neg a2,if_neg a3]
   simp only[Bool.false_eq_true,if_false]
   rw[if_neg (fun h=>by omega),if_neg (fun h=>by omega),if_neg (fun h=>by omega)];rfl
def vld (s:ByteArray):Nat→Nat→Bool
 |0,_=>true
 |n+1,p=>if p<s.size then(if wid s p=0 then false else vld s n (p+wid s p))else true
def cnt (s:ByteArray):Nat→Nat→Nat
 |0,_=>0
 |n+1,p=>if p<s.size then 1+cnt s n (p+(Utf8.decode s p).2)else 0
theorem wid_4 (s:ByteArray)(p:Nat):wid s p≤4:=by
 rw[wid_N];unfold widN;repeat' split
 all_goals omega
theorem wid_dec {s:ByteArray}{p:Nat}(h:wid s p≠0):(Utf8.decode s p).2=wid s p:=by
 unfold wid at h ⊢;split at h
 ·exact absurd rfl h
 ·rename_i h2;rw[if_neg h2]
theorem Valid_eq (s:ByteArray)(hs:s.size≤5000):F.cO s=some (vld s s.size 0):=by
 have loop: ∀(n p f:Nat),s.size-p≤n→n<f→p≤5010→F.bA s f (p:Int)=some (vld s n p):=by
  intro n
  induction n with
  |zero=>
   intro p f hp hf _
   obtain⟨f,rfl⟩: ∃f',f=f'+1:=⟨f-1,by omega⟩
   rw[F.bA,if_neg (by omega)];rfl
  |succ n ih=>
   intro p f hp hf hp5
   obtain⟨f,rfl⟩: ∃f',f=f'+1:=⟨f-1,by omega⟩
   rw[F.bA,vld]
   by_cases h:p<s.size
   ·rw[if_pos (by omega),if_pos h,width_eq s p h hs,Option.bind_some]
    have:=wid_le h
    by_cases hw:wid s p=0
    ·rw[if_pos (by omega),if_pos hw]
    ·rw[if_neg (by omega),if_neg hw,A.gd1 ⟨by omega,by omega⟩]
     have e:(p:Int)+(wid s p:Int)=((p+wid s p:Nat):Int):=by omega
     rw[e];exact ih _ f (by omega) (by omega) (by omega)
   ·rw[if_neg (by omega),if_neg h]
 exact loop s.size 0 A.FU (by omega) (by have:=FU_big;omega) (by omega)
theorem validD_eq (s:ByteArray):Lib.validD s.data.toList=vld s s.size 0:=by
 have loop: ∀(n p:Nat),Lib.validGoD n (s.data.toList.drop p)=vld s n p:=by
  intro n
  induction n with
  |zero=>intro p;rfl
  |succ n ih=>
   intro p
   rw[Lib.validGoD,vld]
   by_cases h:p<s.size
   ·have hne:s.data.toList.drop p≠[]:=by rw[drop_bat h];simp
    rw[if_neg hne,if_pos h,Lib.decodeL_drop,List.drop_drop]
    by_cases hw:Utf8.decode s p=(65533,1)
    ·rw[if_pos (by rw[hw];exact⟨rfl,rfl⟩),if_pos (by unfold wid;rw[if_pos hw])]
    ·have e:wid s p=(Utf8.decode s p).2:=by unfold wid;rw[if_neg hw]
     rw[if_neg (fun h2=>hw (Prod.ext h2.1 h2.2)),if_neg (by rw[e];have:=width_pos s p;omega),ih,e]
   ·rw[if_pos (drop_end h),if_neg h]
 have:=loop s.size 0
 rw[List.drop_zero]at this
 exact this
theorem Runes_eq (s:ByteArray)(hs:s.size≤5000)(hv:vld s s.size 0=true): ∃l,F.cZ s=some l∧l.length=cnt s s.size 0:=by
 have loop: ∀(n p f:Nat) (xs:List (Int×Int)),s.size-p≤n→n<f→xs.length≤p→p≤5010→vld s n p=true→∃l,F.al s f xs (p:Int)=some l∧l.length=xs.length+cnt s n p:=by
  intro n
  induction n with
  |zero=>
   intro p f xs hp hf _ _ _
   obtain⟨f,rfl⟩: ∃f',f=f'+1:=⟨f-1,by omega⟩
   rw[F.al,if_neg (by omega)];exact⟨_,rfl,rfl⟩
  |succ n ih=>
   intro p f xs hp hf hxs hp5 hv
   obtain⟨f,rfl⟩: ∃f',f=f'+1:=⟨f-1,by omega⟩
   rw[F.al]
   rw[vld]at hv
   rw[cnt]
   by_cases h:p<s.size
   ·rw[if_pos h]at hv
    have hl:=wid_le h
    have h4:=wid_4 s p
    by_cases hw:wid s p=0
    ·rw[if_pos hw]at hv;cases hv
    rw[if_neg hw]at hv
    have hj: ∀(w c:Int),w=(wid s p:Int)→∃l,F.aO (F.al s f) xs (p:Int) w c=some l∧l.length=xs.length+(1+cnt s n (p+(Utf8.decode s p).2)):=fun w c hwc=>by
     subst hwc
     rw[F.aO,A.gd1 (by simp only[List.length_cons,List.length_nil];omega),A.gd1 ⟨by omega,by omega⟩,wid_dec hw]
     have e:(p:Int)+(wid s p:Int)=((p+wid s p:Nat):Int):=by omega
     rw[e]
     obtain⟨l,h1,h2⟩:=ih (p+wid s p) f (xs++[((p:Int),c)]) (by omega) (by omega) (by simp only[List.length_append,List.length_cons,List.length_nil];omega) (by omega) hv
     exact⟨l,h1,by rw[h2,List.length_append];simp only[List.length_cons,List.length_nil];omega⟩
    have i0:=ixb (s:=s) h
    have i1:A.ix s.data.toList ((p:Int)+1)=if p+1<s.size then some (Z.bat s (p+1))else none:=ixk s p 1
    have i2:A.ix s.data.toList ((p:Int)+2)=if p+2<s.size then some (Z.bat s (p+2))else none:=ixk s p 2
    have i3:A.ix s.data.toList ((p:Int)+3)=if p+3<s.size then some (Z.bat s (p+3))else none:=ixk s p 3
    have r1:Z.R64 ((p:Int)+1):=⟨by omega,by omega⟩
    have r2:Z.R64 ((p:Int)+2):=⟨by omega,by omega⟩
    have r3:Z.R64 ((p:Int)+3):=⟨by omega,by omega⟩
    rw[if_pos (by omega),if_pos h,width_eq s p h hs,Option.bind_some]
    by_cases w1:wid s p=1
    ·rw[if_pos (by omega),i0,Option.bind_some];exact hj _ _ rfl
    rw[if_neg (by omega)]
    by_cases w2:wid s p=2
    ·rw[if_pos (by omega),A.gd1 r1,i0,Option.bind_some,A.gd1 (by decide),i1,if_pos (by omega),Option.bind_some,A.gd1 (by decide)];exact hj _ _ rfl
    rw[if_neg (by omega)]
    by_cases w3:wid s p=3
    ·rw[if_pos (by omega),A.gd1 ⟨r1,r2⟩,i0,Option.bind_some,A.gd1 (by decide),i1,if_pos (by omega),Option.bind_some,A.gd1 (by decide),i2,if_pos (by omega),Option.bind_some,A.gd1 (by decide)];exact hj _ _ rfl
    rw[if_neg (by omega),if_pos (by omega),A.gd1 ⟨r1,r2,r3⟩,i0,Option.bind_some,A.gd1 (by decide),i1,if_pos (by omega),Option.bind_some,A.gd1 (by decide),i2,if_pos (by omega),Option.bind_some,A.gd1 (by decide),i3,if_pos (by omega),Option.bind_some,A.gd1 (by decide)];exact hj _ _ rfl
   ·rw[if_neg (by omega),if_neg h];exact⟨_,rfl,rfl⟩
 obtain⟨l,h1,h2⟩:=loop s.size 0 A.FU [] (by omega) (by have:=FU_big;omega) (by simp) (by omega) hv
 exact⟨l,h1,by simpa using h2⟩
theorem single_eq (s:ByteArray)(hs:s.size≤5000):F.cb s=some (if cnt s s.size 0=1 then vld s s.size 0 else false):=by
 have loop: ∀(n p f:Nat) (y:Int),s.size-p≤n→n<f→0≤y→y+n≤10000→F.aZ s f p y=some (if y+(cnt s n p:Int)=1 then vld s s.size 0 else false):=by
  intro n
  induction n with
  |zero=>
   intro p f y hp hf _ _
   obtain⟨f,rfl⟩: ∃f',f=f'+1:=⟨f-1,by omega⟩
   rw[F.aZ,if_neg (by omega),F.aI,validD_eq,Option.bind_some]
   simp only[F.a9]
   have e:y+(cnt s 0 p:Int)=y:=by rw[cnt];omega
   by_cases h:y=1
   ·rw[if_pos h,if_pos (by omega)]
   ·rw[if_neg h,if_neg (by omega)]
  |succ n ih=>
   intro p f y hp hf h0 h2
   obtain⟨f,rfl⟩: ∃f',f=f'+1:=⟨f-1,by omega⟩
   rw[F.aZ,cnt]
   by_cases h:p<s.size
   ·rw[if_pos h,if_pos h,A.gd1 ⟨by omega,by omega⟩]
    have hw:=width_pos s p
    rw[ih _ f (y+1) (by omega) (by omega) (by omega) (by omega)]
    congr 2
    exact propext ⟨fun h=>by omega,fun h=>by omega⟩
   ·rw[if_neg h,if_neg h,F.aI,validD_eq,Option.bind_some]
    simp only[F.a9]
    by_cases h:y=1
    ·rw[if_pos h,if_pos (by omega)]
    ·rw[if_neg h,if_neg (by omega)]
 unfold F.cb
 rw[loop s.size 0 A.FU 0 (by omega) (by have:=FU_big;omega) (by omega) (by omega)]
 congr 2
 exact propext ⟨fun h=>by omega,fun h=>by omega⟩
theorem one_small {s:ByteArray}(h1:cnt s s.size 0=1)(h2:vld s s.size 0=true):s.size≤4:=by
 generalize hn:s.size=n at h1 h2
 cases n with
 |zero=>omega
 |succ n=>
  rw[cnt,if_pos (by omega)]at h1
  rw[vld,if_pos (by omega)]at h2
  by_cases hw:wid s 0=0
  ·rw[if_pos hw]at h2;cases h2
  rw[wid_dec hw]at h1
  have:=wid_4 s 0
  cases n with
  |zero=>omega
  |succ n=>
   rw[cnt]at h1
   by_cases h3:0+wid s 0<s.size
   ·rw[if_pos h3]at h1;omega
   ·omega
end Go.Proofs.YtbdlcighhphaoaaDoor
end
section
set_option linter.unusedVariables false
set_option linter.unusedSimpArgs false
set_option synthInstance.maxSize 1000000
set_option synthInstance.maxHeartbeats 400000
namespace Go.Proofs.YtbdlcighhphaoaaDoor
open Go.RowKit Go.Graph
def textP (f:Fun):Bool:=if f.1=5 then decide (f.2.2≠ByteArray.mk #[])&&decide ((f.2.2.size:Int)≤16)&&vld f.2.2 f.2.2.size 0 else if f.1=12∨f.1=22 then decide (cnt f.2.2 f.2.2.size 0=1)&&vld f.2.2 f.2.2.size 0 else decide (f.2.2=ByteArray.mk #[])
theorem number_eq (f:Fun):F.ca f=some (numberF f):=by
 unfold F.ca F.bu F.bt numberF
 simp only[A.ba,decide_eq_true_eq]
 by_cases h3:f.1=3
 ·simp[h3]
 ·by_cases h13:f.1=13
  ·simp[h13]
  ·by_cases h6:f.1=6
   ·simp[h6]
   ·by_cases h11:f.1=11<;>simp[h3,h13,h6,h11]
theorem R06_number_eq (f:Fun):F.cX f=some (numberF f):=number_eq f
theorem text_eq (f:Fun)(hs:f.2.2.size≤5000):F.cH f=some (textP f):=by
 unfold F.cH textP
 simp only[F.bT,F.bU,A.ba,single_eq _ hs,F.aI,validD_eq,Option.bind_some,decide_eq_true_eq]
 by_cases h5:f.1=5
 ·simp only[h5,if_true]
  by_cases h1:f.2.2=ByteArray.mk #[]<;>by_cases h2:(f.2.2.size:Int)≤16<;>simp[h1,h2]
 ·by_cases h12:f.1=12
  ·simp[h12]
  ·by_cases h22:f.1=22<;>simp[h5,h12,h22]
theorem one_le {s:ByteArray}:(1:Int)≤(s.size:Int)↔s≠ByteArray.mk #[]:=by
 constructor
 ·intro h e;subst e;exact absurd h (by decide)
 ·intro h;have:=size_pos h;omega
theorem R06_text_eq (f:Fun)(hs:f.2.2.size≤5000):F.cK f=some (textP f):=by
 have hj: ∀y,F.bM f y=some (if y=true then decide (cnt f.2.2 f.2.2.size 0=1)&&vld f.2.2 f.2.2.size 0 else decide (f.2.2=ByteArray.mk #[])):=by
  intro y
  unfold F.bM
  simp only[F.b9,Valid_eq _ hs,Option.bind_some]
  cases y with
  |false=>simp
  |true=>
   simp only[if_true]
   by_cases h4:(f.2.2.size:Int)≤4
   ·rw[if_pos h4]
    cases hv:vld f.2.2 f.2.2.size 0 with
    |true=>
     obtain⟨l,h1,h2⟩:=Runes_eq f.2.2 hs hv
     rw[if_pos rfl,h1,Option.bind_some,Bool.and_true]
     congr 2
     rw[h2];exact propext ⟨fun h=>by omega,fun h=>by omega⟩
    |false=>simp
   ·rw[if_neg h4]
    congr 1
    cases hv:vld f.2.2 f.2.2.size 0 with
    |false=>simp
    |true=>
     by_cases h1:cnt f.2.2 f.2.2.size 0=1
     ·have:=one_small h1 hv;omega
     ·simp[h1]
 unfold F.cK textP
 simp only[F.cF,hj,A.ba,Valid_eq _ hs,Option.bind_some,decide_eq_true_eq,one_le]
 by_cases h5:f.1=5
 ·simp only[h5,if_true]
  by_cases h1:f.2.2=ByteArray.mk #[]<;>by_cases h2:(f.2.2.size:Int)≤16<;>simp[h1,h2]
 ·by_cases h12:f.1=12
  ·simp[h12]
  ·by_cases h22:f.1=22<;>simp[h5,h12,h22]
def anyF (f:Fun)(l:List Int):Int:=if l.any (fun y=>decide (y=f.1)&&(numberF f&&textP f))=true then 0 else 60
def kinds (k:Int):List Int:=if k=2 then [1,2,3,4,5,6,7,8]else if k=3 then [11,12,13]else if k=4 then [21,22]else if k=8 then [31,32,33,34]else if k=11 then [41,42]else []
def chk (k:Int)(f:Fun):Int:=if kinds k=[]then(if f=(0,0,ByteArray.mk #[])then 0 else 60)else anyF f (kinds k)
theorem chk_l (f:Fun)(hs:f.2.2.size≤5000): ∀l,F.ax f l=some (anyF f l)
 | []=>rfl
 |y::l=>by
  have ih:=chk_l f hs l
  unfold F.ax
  simp only[F.br,number_eq,text_eq _ hs,Option.bind_some,ih,anyF,List.any_cons]
  by_cases h:y=f.1
  ·subst h
   cases hn:numberF f<;>cases ht:textP f<;>simp
  ·simp[h]
theorem fn_Check_eq (k:Int)(f:Fun)(hs:f.2.2.size≤5000):F.b7 k f=some (chk k f):=by
 have u2:F.aN 1 8=some [1,2,3,4,5,6,7,8]:=by kernel_rfl
 have u3:F.aN 11 13=some [11,12,13]:=by kernel_rfl
 have u4:F.aN 21 22=some [21,22]:=by kernel_rfl
 have u8:F.aN 31 34=some [31,32,33,34]:=by kernel_rfl
 have u11:F.aN 41 42=some [41,42]:=by kernel_rfl
 unfold F.b7 F.cU F.cG chk kinds
 by_cases h2:k=2
 ·simp[h2,u2,chk_l f hs]
 ·by_cases h3:k=3
  ·simp[h3,u3,chk_l f hs]
  ·by_cases h4:k=4
   ·simp[h4,u4,chk_l f hs]
   ·by_cases h8:k=8
    ·simp[h8,u8,chk_l f hs]
    ·by_cases h11:k=11
     ·simp[h11,u11,chk_l f hs]
     ·simp only[h2,h3,h4,h8,h11,if_false,Option.bind_some]
      rw[if_pos (by decide),if_pos trivial]
      by_cases hz:f=(0,0,ByteArray.mk #[])
      ·rw[if_neg (fun h=>h hz),if_pos hz]
      ·rw[if_pos hz,if_neg hz]
theorem R06_l (f:Fun)(hs:f.2.2.size≤5000)(l:List Int)(hl:l.length≤100):F.aP f l A.FU 0=some (anyF f l):=
 A.lp0 l (fun n y=>F.aP f l n y) (fun _ t=>some (anyF f t))
  (fun n=>by rw[F.aP,if_neg (by omega)];rfl)
  (fun n k x hx hk ih=>by
   rw[F.aP,if_pos (by omega),A.ixn hx,Option.bind_some]
   simp only[F.b0,R06_number_eq,R06_text_eq _ hs,Option.bind_some,ih,A.gd1 (A.r64n (n:=k) (by omega)),anyF,List.any_cons]
   by_cases h:x=f.1
   ·subst h
    cases hn:numberF f<;>cases ht:textP f<;>simp
   ·simp[h])
  (by have:=FU_big;omega)
theorem R06_Check_eq (k:Int)(f:Fun)(hs:f.2.2.size≤5000):F.cf k f=some (chk k f):=by
 have u2:F.bn 2=some [1,2,3,4,5,6,7,8]:=by kernel_rfl
 have u3:F.bn 3=some [11,12,13]:=by kernel_rfl
 have u4:F.bn 4=some [21,22]:=by kernel_rfl
 have u8:F.bn 8=some [31,32,33,34]:=by kernel_rfl
 have u11:F.bn 11=some [41,42]:=by kernel_rfl
 have u0:F.a6 1 0=some []:=by kernel_rfl
 unfold F.cf chk kinds
 by_cases h2:k=2
 ·subst h2;rw[u2,Option.bind_some,if_neg (by simp),F.aQ,if_neg (by simp),R06_l f hs _ (by simp)];simp
 ·by_cases h3:k=3
  ·subst h3;rw[u3,Option.bind_some,if_neg (by simp),F.aQ,if_neg (by simp),R06_l f hs _ (by simp)];simp
  ·by_cases h4:k=4
   ·subst h4;rw[u4,Option.bind_some,if_neg (by simp),F.aQ,if_neg (by simp),R06_l f hs _ (by simp)];simp
   ·by_cases h8:k=8
    ·subst h8;rw[u8,Option.bind_some,if_neg (by simp),F.aQ,if_neg (by simp),R06_l f hs _ (by simp)];simp
    ·by_cases h11:k=11
     ·subst h11;rw[u11,Option.bind_some,if_neg (by simp),F.aQ,if_neg (by simp),R06_l f hs _ (by simp)];simp
     ·have u:F.bn k=some []:=by unfold F.bn;simp only[h2,h3,h4,h8,h11,if_false,u0]
      rw[u,Option.bind_some,if_pos (by simp),F.aQ,R06_l f hs _ (by simp)]
      simp only[h2,h3,h4,h8,h11,if_false,if_true,decide_eq_true_eq,anyF,List.any_nil,Bool.false_eq_true]
      by_cases hz:f=(0,0,ByteArray.mk #[])
      ·rw[if_pos hz,if_pos hz]
      ·rw[if_neg hz,if_neg hz]
def mapOf (g:List Nd):List (Int×Nd):=g.map fun n=>(n.1,n)
def Inc (g:List Nd):Prop:=g.Pairwise fun a b=>a.1<b.1
theorem idxF_cases (z:Nd)(id:Int): ∀(k:Nat) (l:List Nd),(idxF id k l= -1∧(∀n∈l,n.1≠id)∧Z.mget z (mapOf l) id=z∧Z.mhas (mapOf l) id=false)∨(∃j n,idxF id k l=((k+j:Nat):Int)∧l[j]?=some n∧n.1=id∧Z.mget z (mapOf l) id=n∧Z.mhas (mapOf l) id=true)
 |k,[]=>.inl ⟨rfl,by simp,rfl,rfl⟩
 |k,x::r=>by
  unfold idxF mapOf
  simp only[List.map_cons,Z.mget,Z.mhas]
  by_cases h:x.1=id
  ·rw[if_pos h,if_pos h.symm,if_pos h.symm]
   exact .inr ⟨0,x,rfl,rfl,h,rfl,rfl⟩
  ·rw[if_neg h,if_neg (fun e=>h e.symm),if_neg (fun e=>h e.symm)]
   rcases idxF_cases z id (k+1) r with⟨h1,h2,h3,h4⟩|⟨j,n,h1,h2,h3,h4,h5⟩
   ·refine .inl ⟨h1,fun n hn=>?_,h3,h4⟩
    rcases List.mem_cons.1 hn with rfl|hn
    ·exact h
    ·exact h2 n hn
   ·exact .inr ⟨j+1,n,by rw[h1];congr 1;omega,h2,h3,h4,h5⟩
theorem idx_cases (z:Nd)(g:List Nd)(id:Int):(idx g id= -1∧(∀n∈g,n.1≠id)∧Z.mget z (mapOf g) id=z∧Z.mhas (mapOf g) id=false)∨(∃(j:Nat) (n:Nd),idx g id=(j:Int)∧g[j]?=some n∧n.1=id∧Z.mget z (mapOf g) id=n∧Z.mhas (mapOf g) id=true):=by
 have:=idxF_cases z id 0 g
 simp only[Nat.zero_add]at this
 exact this
theorem Inc.lt {g:List Nd}(h:Inc g){i j:Nat}{a b:Nd}(hi:g[i]?=some a)(hj:g[j]?=some b)(hij:i<j):a.1<b.1:=by
 obtain⟨h1,rfl⟩:=List.getElem?_eq_some_iff.1 hi
 obtain⟨h2,rfl⟩:=List.getElem?_eq_some_iff.1 hj
 exact List.pairwise_iff_getElem.1 h i j h1 h2 hij
theorem Inc.inj {g:List Nd}(h:Inc g){i j:Nat}{a b:Nd}(hi:g[i]?=some a)(hj:g[j]?=some b)(e:a.1=b.1):i=j:=by
 rcases Nat.lt_trichotomy i j with h1|h1|h1
 ·have:=h.lt hi hj h1;omega
 ·exact h1
 ·have:=h.lt hj hi h1;omega
theorem Inc.idx {g:List Nd}(h:Inc g){j:Nat}{n:Nd}(hj:g[j]?=some n):Graph.idx g n.1=(j:Int):=by
 rcases idx_cases z0 g n.1 with⟨_,h2,_⟩|⟨i,m,h1,h2,h3,_⟩
 ·exact absurd rfl (h2 n (List.mem_of_getElem? hj))
 ·rw[h1,h.inj h2 hj h3]
theorem Inc.mget {g:List Nd}(h:Inc g){j:Nat}{n z:Nd}(hj:g[j]?=some n):Z.mget z (mapOf g) n.1=n:=by
 rcases idx_cases z g n.1 with⟨_,h2,_⟩|⟨i,m,h1,h2,h3,h4,_⟩
 ·exact absurd rfl (h2 n (List.mem_of_getElem? hj))
 ·have:=h.inj h2 hj h3
  subst this
  rw[h2]at hj;injection hj with hj;rw[h4,hj]
theorem index_eq (g:List Nd)(id:Int)(hg:g.length≤100):F.bC g id=some (idx g id):=
 A.lp0 g (fun f y=>F.bB g id f y) (fun k l=>some (idxF id k l))
  (fun f=>by rw[F.bB,if_neg (by omega)];rfl)
  (fun f k x hx hk ih=>by
   rw[F.bB,if_pos (by omega),A.ixn hx,Option.bind_some,idxF]
   by_cases h:x.1=id
   ·rw[if_pos h,if_pos h]
   ·rw[if_neg h,if_neg h,A.gd1 (A.r64n (by omega)),ih])
  (by have:=FU_big;omega)
def ownQ (n:Nd):Bool:=if n.1<1∨255<n.1∨insK n.2.1<0∨(n.2.2.1.length:Int)≠insK n.2.1 then false else if ownC n then false else if n.2.1=1∨n.2.1=15 then named n.2.2.2.2.1 else decide (n.2.2.2.2.1=ByteArray.mk #[])
theorem outside_eq (k:Int):F.ao k=some (decide (k=1∨k=15)):=by
 unfold F.ao;rw[A.bo]
theorem gIns_eq (k:Int):F.bO k=some (insK k):=(Ins_eq k).trans (R08_Ins_eq k)
theorem own_eq (n:Nd)(hs:n.2.2.2.2.1.size≤5000):F.bP n=some (ownQ n):=by
 have hj: ∀y,F.a8 n y=some (if y=true then false else if ownC n then false else if n.2.1=1∨n.2.1=15 then named n.2.2.2.2.1 else decide (n.2.2.2.2.1=ByteArray.mk #[])):=by
  intro y
  unfold F.a8 F.a7 ownC
  cases y with
  |true=>simp
  |false=>
   simp only[Bool.false_eq_true,if_false,A.bo,decide_eq_true_eq,outside_eq,Option.bind_some,named_eq _ hs,A.bn]
   by_cases h14:n.2.1=14
   ·simp only[h14,if_true,true_and,not_true_eq_false,ne_eq,false_and,or_false,if_false]
    by_cases hc:n.2.2.2.2.2.1<1∨8<n.2.2.2.2.2.1∨n.2.2.2.2.2.2<1∨4<n.2.2.2.2.2.2
    ·have hc':((n.2.2.2.2.2.1<1∨8<n.2.2.2.2.2.1)∨n.2.2.2.2.2.2<1)∨4<n.2.2.2.2.2.2:=by omega
     rw[if_pos hc',if_pos hc]
    ·have hc': ¬(((n.2.2.2.2.2.1<1∨8<n.2.2.2.2.2.1)∨n.2.2.2.2.2.2<1)∨4<n.2.2.2.2.2.2):=by omega
     rw[if_neg hc',if_neg hc]
     simp
   ·simp only[h14,if_false,false_and,not_false_eq_true,ne_eq,true_and,false_or,if_true]
    by_cases hc: ¬n.2.2.2.2.2.1=0∨¬n.2.2.2.2.2.2=0
    ·rw[if_pos hc,if_pos hc]
    ·rw[if_neg hc,if_neg hc]
     by_cases ho:n.2.1=1∨n.2.1=15
     ·rw[if_pos ho,if_pos ho]
     ·rw[if_neg ho,if_neg ho]
 unfold F.bP ownQ
 simp only[gIns_eq,Option.bind_some,hj,A.bo,decide_eq_true_eq,F.a7]
 by_cases h1:n.1<1∨255<n.1
 ·rw[if_pos h1,if_pos (by omega)]
 ·rw[if_neg h1]
  by_cases h2:insK n.2.1<0
  ·rw[if_pos h2,if_pos trivial,if_pos (by omega)]
  ·rw[if_neg h2]
   by_cases h3:(n.2.2.1.length:Int)≠insK n.2.1
   ·rw[if_pos h3,if_pos (by omega)]
   ·have hb: ¬(n.1<1∨255<n.1∨insK n.2.1<0∨(n.2.2.1.length:Int)≠insK n.2.1):=by omega
    rw[if_neg h3,if_neg hb]
def twiceF (l:List Nd)(n:Nd):Bool:=l.any fun x=>decide (x.2.1=n.2.1)&&decide (x.2.2.2.2.1=n.2.2.2.2.1)
theorem twice_eq (l:List Nd)(n:Nd)(hl:l.length≤100):F.d l n=some (twiceF l n):=by
 have loop:F.a l n A.FU 0=some (if twiceF l n=true then(0:Int)else-1)∨∃i:Nat,F.a l n A.FU 0=some (i:Int)∧twiceF l n=true:=by
  have key: ∀(m k f:Nat),k+m=l.length→m<f→(twiceF (l.drop k) n=true∧∃i:Nat,F.a l n f (k:Int)=some (i:Int))∨(twiceF (l.drop k) n=false∧F.a l n f (k:Int)=some (-1)):=by
   intro m
   induction m with
   |zero=>
    intro k f hk hf
    obtain⟨f,rfl⟩: ∃f',f=f'+1:=⟨f-1,by omega⟩
    rw[F.a,if_neg (by omega),List.drop_eq_nil_of_le (by omega)]
    exact .inr ⟨rfl,rfl⟩
   |succ m ih=>
    intro k f hk hf
    obtain⟨f,rfl⟩: ∃f',f=f'+1:=⟨f-1,by omega⟩
    have hx:l[k]?=some l[k]:=List.getElem?_eq_getElem (by omega)
    generalize l[k]=x at hx
    rw[F.a,if_pos (by omega),A.ixn hx,Option.bind_some,F.bN,Option.bind_some,A.ba,A.dropx hx]
    by_cases h:x.2.1=n.2.1∧x.2.2.2.2.1=n.2.2.2.2.1
    ·left
     exact⟨by simp[twiceF,h.1,h.2],k,by rw[if_pos (by simpa using h)]⟩
    ·rw[if_neg (by simpa using h),A.gd1 (A.r64n (by omega))]
     have e:twiceF (x::l.drop (k+1)) n=twiceF (l.drop (k+1)) n:=by
      simp only[twiceF,List.any_cons]
      rw[←Bool.decide_and,decide_eq_false h,Bool.false_or]
     rw[e]
     exact ih (k+1) f (by omega) (by omega)
  rcases key l.length 0 A.FU (by omega) (by have:=FU_big;omega)with⟨h1,i,h2⟩|⟨h1,h2⟩
  ·rw[List.drop_zero]at h1;exact .inr ⟨i,h2,h1⟩
  ·rw[List.drop_zero]at h1;left;rw[h1];exact h2
 unfold F.d F.n
 rcases loop with h|⟨i,h,h2⟩
 ·rw[show F.a l n A.FU 0=_ from h,Option.bind_some]
  cases twiceF l n<;>simp
 ·rw[show F.a l n A.FU 0=_ from h,Option.bind_some,h2]
  simp
theorem mins_new {κ α:Type}[DecidableEq κ]: ∀{m:List (κ×α)} {k:κ} {x:α},Z.mhas m k=false→Z.mins m k x=m++[(k,x)]
 | [],_,_,_=>rfl
 |(a,y)::r,k,x,h=>by
  simp only[Z.mhas]at h
  by_cases hk:k=a
  ·rw[if_pos hk]at h;cases h
  ·rw[if_neg hk]at h
   unfold Z.mins
   rw[if_neg hk,mins_new h];rfl
theorem mhas_mapOf {l:List Nd}{k:Int}(h: ∀n∈l,n.1≠k):Z.mhas (mapOf l) k=false:=by
 rcases idx_cases z0 l k with⟨_,_,_,h2⟩|⟨j,n,_,h1,h2,_⟩
 ·exact h2
 ·exact absurd h2 (h n (List.mem_of_getElem? h1))
theorem take_s {α:Type}{l:List α}{k:Nat}{x:α}(h:l[k]?=some x):l.take (k+1)=l.take k++[x]:=by rw[List.take_add_one,h];rfl
def okL (g:List Nd):Nat→Int→List Nd→Bool
 |_,_,[]=>true
 |k,last,n::r=>if n.1≤last∨ownQ n=false∨((n.2.1=1∨n.2.1=15)∧twiceF (g.take k) n=true)then false else okL g (k+1) n.1 r
theorem whole_l6 (g:List Nd)(hg:g.length≤100)(hf: ∀x,x∈g→x.2.2.2.2.1.size≤5000):F.p g A.FU [] 0 0=if okL g 0 0 g=true then F.y g (mapOf g) A.FU 0 else some (none,80):=
 A.lp g (fun f (s:List (Int×Nd)×Int) y=>F.p g f s.1 s.2 y) (fun k l s=>if okL g k s.2 l=true then F.y g (mapOf g) A.FU 0 else some (none,80)) (fun k s=>s.1=mapOf (g.take k)∧∀n∈g.take k,n.1≤s.2)
  (fun f s hp=>by
   rw[F.p,if_neg (by omega),okL,if_pos rfl,hp.1,List.take_of_length_le (Nat.le_refl _)])
  (fun f s k x hx hk hp ih=>by
   obtain⟨hm,hle⟩:=hp
   have hown:=own_eq x (hf x (List.mem_of_getElem? hx))
   have hj: ∀y,F.aY (F.p g f) s.1 s.2 (k:Int) x y=if x.1≤s.2∨ownQ x=false∨y=true then some (none,80)else F.p g f (Z.mins s.1 x.1 x) x.1 ((k:Int)+1):=by
    intro y
    rw[F.aY]
    simp only[F.bc,if_true]
    by_cases h1:x.1≤s.2
    ·rw[if_pos h1,if_pos (.inl h1)]
    ·rw[if_neg h1,show F.bP x=_ from hown,Option.bind_some,A.gd1 (A.r64n (by omega))]
     cases ownQ x<;>cases y<;>simp[h1]
   have hnew: ¬x.1≤s.2→F.p g f (Z.mins s.1 x.1 x) x.1 ((k:Int)+1)=if okL g (k+1) x.1 (g.drop (k+1))=true then F.y g (mapOf g) A.FU 0 else some (none,80):=fun h1=>by
    rw[hm,mins_new (mhas_mapOf fun n hn e=>by have:=hle n hn;omega)]
    refine ih (mapOf (g.take k)++[(x.1,x)],x.1) ⟨?_,fun n hn=>?_⟩
    ·rw[take_s hx];simp[mapOf]
    ·rw[take_s hx]at hn
     rcases List.mem_append.1 hn with h2|h2
     ·have:=hle n h2;simp only[];omega
     ·rw[List.mem_singleton]at h2;subst h2;exact Int.le_refl _
   rw[F.p,if_pos (by omega),A.ixn hx,Option.bind_some,outside_eq,Option.bind_some,okL]
   by_cases ho:x.2.1=1∨x.2.1=15
   ·rw[if_pos (by simpa using ho),A.gd1 ⟨by omega,by omega⟩,show((k:Int)).toNat=k from Int.toNat_natCast k,
     show F.d (List.take k g) x=_ from twice_eq (g.take k) x (by rw[List.length_take];omega),Option.bind_some,hj]
    by_cases hb:x.1≤s.2∨ownQ x=false∨twiceF (g.take k) x=true
    ·have hc:x.1≤s.2∨ownQ x=false∨((x.2.1=1∨x.2.1=15)∧twiceF (g.take k) x=true):=by rcases hb with h|h|h;exact .inl h;exact .inr (.inl h);exact .inr (.inr ⟨ho,h⟩)
     rw[if_pos hb,if_pos hc,if_neg Bool.false_ne_true]
    ·have hc: ¬(x.1≤s.2∨ownQ x=false∨((x.2.1=1∨x.2.1=15)∧twiceF (g.take k) x=true)):=fun h=>hb (by rcases h with h|h|h;exact .inl h;exact .inr (.inl h);exact .inr (.inr h.2))
     rw[if_neg hb,if_neg hc]
     exact hnew fun h=>hb (.inl h)
   ·rw[if_neg (by simpa using ho),hj]
    by_cases hb:x.1≤s.2∨ownQ x=false
    ·have hc:x.1≤s.2∨ownQ x=false∨((x.2.1=1∨x.2.1=15)∧twiceF (g.take k) x=true):=by rcases hb with h|h;exact .inl h;exact .inr (.inl h)
     rw[if_pos (by rcases hb with h|h;exact .inl h;exact .inr (.inl h)),if_pos hc,if_neg Bool.false_ne_true]
    ·have hc: ¬(x.1≤s.2∨ownQ x=false∨((x.2.1=1∨x.2.1=15)∧twiceF (g.take k) x=true)):=fun h=>hb (by rcases h with h|h|h;exact .inl h;exact .inr h;exact absurd h.1 ho)
     rw[if_neg (fun h=>hb (by rcases h with h|h|h;exact .inl h;exact .inr h;cases h)),if_neg hc]
     exact hnew fun h=>hb (.inl h))
  (by have:=FU_big;omega) ([],0) ⟨rfl,by simp⟩
theorem whole_l5 (g:List Nd)(m:List (Int×Nd))(hg:g.length≤100)(hf: ∀x,x∈g→x.2.2.2.1.2.2.size≤5000):F.y g m A.FU 0=if g.all (fun n=>decide (chk n.2.1 n.2.2.2.1=0))=true then F.r g m A.FU 0 else some (none,60):=
 A.lp0 g (fun f y=>F.y g m f y) (fun _ l=>if l.all (fun n=>decide (chk n.2.1 n.2.2.2.1=0))=true then F.r g m A.FU 0 else some (none,60))
  (fun f=>by rw[F.y,if_neg (by omega)];rfl)
  (fun f k x hx hk ih=>by
   have h6:chk x.2.1 x.2.2.2.1≠0→chk x.2.1 x.2.2.2.1=60:=by
    intro h;unfold chk anyF at h ⊢;repeat' split
    all_goals first|rfl|(exfalso;simp_all;done)
   rw[F.y,if_pos (by omega),A.ixn hx,Option.bind_some,show F.b7 x.2.1 x.2.2.2.1=_ from fn_Check_eq x.2.1 x.2.2.2.1 (hf x (List.mem_of_getElem? hx)),Option.bind_some,List.all_cons]
   by_cases h:chk x.2.1 x.2.2.2.1=0
   ·rw[if_neg (fun h2=>h2 h),A.gd1 (A.r64n (by omega)),ih,decide_eq_true h,Bool.true_and]
   ·rw[if_pos h,decide_eq_false h,Bool.false_and,if_neg (by simp),h6 h])
  (by have:=FU_big;omega)
def inOk (g:List Nd)(k:Int):Bool:=if idx g k<0 then false else decide ((at_ g (idx g k)).2.1≠15)
def sortP (g:List Nd)(m:List (Int×Nd)):Option ((Option ((List (Int×Nd))×(List Int)×(List (Int×Int))))×Int):=
 (F.aj (m,[],[]) g).bind fun r73=>(if(!r73.1)=true then(some (none,81))else((F.ai r73.2).bind fun r79=>(if(!r79.1)=true then(some (none,80))else((F.aK r79.2 g).bind fun r85=>(if r85=true then(some (none,81))else(some (some r79.2,0)))))))
theorem whole_l4 (g:List Nd)(hg:g.length≤100)(hf: ∀x,x∈g→x.2.2.1.length≤5000):F.r g (mapOf g) A.FU 0=if g.all (fun n=>n.2.2.1.all (inOk g))=true then sortP g (mapOf g)else some (none,80):=
 A.lp0 g (fun f y=>F.r g (mapOf g) f y) (fun _ l=>if l.all (fun n=>n.2.2.1.all (inOk g))=true then sortP g (mapOf g)else some (none,80))
  (fun f=>by rw[F.r,if_neg (by omega)];rfl)
  (fun f k x hx hk ih=>by
   rw[F.r,if_pos (by omega),A.ixn hx,Option.bind_some]
   have hlen:=hf x (List.mem_of_getElem? hx)
   have loop:=A.lp0 x.2.2.1 (fun f2 y=>F.aL (F.r g (mapOf g) f) (mapOf g) (k:Int) x f2 y) (fun _ l=>if l.all (inOk g)=true then F.r g (mapOf g) f ((k:Int)+1)else some (none,80))
    (fun f2=>by rw[F.aL,if_neg (by omega),A.gd1 (A.r64n (by omega))];rfl)
    (fun f2 j y hy hj2 ih2=>by
     rw[F.aL,if_pos (by omega),A.ixn hy,Option.bind_some,A.lt,List.all_cons]
     rcases idx_cases ((0,0,[],(0,0,(ByteArray.mk #[])),(ByteArray.mk #[]),0,0):Nd) g y with⟨h1,_,h3,h4⟩|⟨i,n,h1,h2,h3,h4,h5⟩
     ·rw[h3,h4]
      have:inOk g y=false:=by unfold inOk;rw[if_pos (by omega)]
      rw[this];simp
     ·rw[h4,h5]
      have e:inOk g y=decide (n.2.1≠15):=by unfold inOk;rw[if_neg (by omega),at_some h1 h2]
      rw[e,A.gd1 (A.r64n (by omega)),ih2]
      by_cases h15:n.2.1=15<;>simp[h15])
    (by have:=FU_big;omega)
   rw[loop,ih,List.all_cons]
   cases x.2.2.1.all (inOk g)with
   |true=>rw[if_pos rfl,Bool.true_and]
   |false=>rw[if_neg Bool.false_ne_true,Bool.false_and,if_neg Bool.false_ne_true])
  (by have:=FU_big;omega)
theorem whole_P (g:List Nd)(hb:Few g):F.aM g=if(32:Int)<(g.length:Int)then some (none,80)else if okL g 0 0 g=true then(if g.all (fun n=>decide (chk n.2.1 n.2.2.2.1=0))=true then(if g.all (fun n=>n.2.2.1.all (inOk g))=true then sortP g (mapOf g)else some (none,80))else some (none,60))else some (none,80):=by
 have hl:=hb.1
 unfold F.aM
 rw[whole_l6 g (by omega) (fun x hx=>(hb.2 x hx).2.1),whole_l5 g _ (by omega) (fun x hx=>(hb.2 x hx).2.2),whole_l4 g (by omega) (fun x hx=>(hb.2 x hx).1)]
theorem Named_eq (g:List Nd)(kd:Int)(s:ByteArray)(hg:g.length≤100):F.cY g kd s=some (namedF kd s g):=
 A.lp0 g (fun f y=>F.bd g kd s f y) (fun _ l=>some (namedF kd s l))
  (fun f=>by rw[F.bd,if_neg (by omega)];rfl)
  (fun f k x hx hk ih=>by
   rw[F.bd,if_pos (by omega),A.ixn hx,Option.bind_some,namedF]
   simp only[F.bX,A.ixn hx,Option.bind_some,A.gd1 (A.r64n (n:=k) (by omega)),ih,decide_eq_true_eq,kind,name]
   by_cases h1:x.2.1=kd
   ·by_cases h2:x.2.2.2.2.1=s<;>simp[h1,h2]
   ·simp[h1])
  (by have:=FU_big;omega)
theorem R_own_eq (g:List Nd)(i:Nat)(n:Nd)(hn:g[i]?=some n)(hg:g.length≤100)(hs:n.2.2.2.2.1.size≤5000):F.cV g (i:Int)=some (own g (i:Int) n):=by
 have hi:=(List.getElem?_eq_some_iff.1 hn).1
 have hj1:F.bZ g n=some (ownT g n):=by
  unfold F.bZ ownT
  simp only[A.ba,decide_eq_true_eq,Named_eq g _ _ hg,name_eq _ hs,Option.bind_some]
  by_cases h:n.2.1≠1∧n.2.1≠15
  ·rw[if_pos h,if_pos h]
  ·rw[if_neg h,if_neg h];cases named n.2.2.2.2.1<;>rfl
 have hj: ∀y,F.aB g n y=some (if y=true then false else if ownC n then false else ownT g n):=by
  intro y
  unfold F.aB ownC
  cases y with
  |true=>simp
  |false=>
   simp only[Bool.false_eq_true,if_false,A.bo,decide_eq_true_eq,hj1]
   by_cases h14:n.2.1=14
   ·simp only[h14,if_true,true_and,not_true_eq_false,ne_eq,false_and,or_false]
    by_cases hc:n.2.2.2.2.2.1<1∨8<n.2.2.2.2.2.1∨n.2.2.2.2.2.2<1∨4<n.2.2.2.2.2.2
    ·rw[if_pos (by omega),if_pos hc]
    ·rw[if_neg (by omega),if_neg hc]
   ·simp only[h14,if_false,false_and,not_false_eq_true,ne_eq,true_and,false_or]
    by_cases hc: ¬n.2.2.2.2.2.1=0∨¬n.2.2.2.2.2.2=0
    ·rw[if_pos hc,if_pos hc]
    ·rw[if_neg hc,if_neg hc]
 have tail:(if insK n.2.1<0 then F.aB g n true else F.aB g n (decide ((n.2.2.1.length:Int)≠insK n.2.1)))=some (if insK n.2.1<0∨(n.2.2.1.length:Int)≠insK n.2.1 then false else if ownC n then false else ownT g n):=by
  simp only[hj,decide_eq_true_eq]
  by_cases h1:insK n.2.1<0
  ·rw[if_pos h1,if_pos trivial,if_pos (.inl h1)]
  ·by_cases h2:(n.2.2.1.length:Int)≠insK n.2.1
   ·rw[if_neg h1,if_pos h2,if_pos (.inr h2)]
   ·have hb: ¬(insK n.2.1<0∨(n.2.2.1.length:Int)≠insK n.2.1):=fun h=>h.elim h1 h2
    rw[if_neg h1,if_neg h2,if_neg hb]
 unfold F.cV own
 rw[A.ixn hn,Option.bind_some]
 simp only[R08_Ins_eq,Option.bind_some,A.bo,decide_eq_true_eq]
 by_cases h1:n.1<1∨255<n.1
 ·rw[if_pos h1,hj,if_pos rfl,if_pos (by omega)]
 ·rw[if_neg h1]
  by_cases h0:(0:Int)<(i:Int)
  ·rw[if_pos h0,A.gd1 ⟨by omega,by omega⟩]
   have hp:g[i-1]?=some g[i-1]:=List.getElem?_eq_getElem (by omega)
   generalize g[i-1]=q at hp
   have e:(i:Int)-1=((i-1:Nat):Int):=by omega
   rw[e,A.ixn hp,Option.bind_some,at_some rfl hp]
   by_cases h2:n.1≤q.1
   ·rw[if_pos h2,hj,if_pos rfl,if_pos (by omega)]
   ·rw[if_neg h2,tail]
    by_cases hb:insK n.2.1<0∨(n.2.2.1.length:Int)≠insK n.2.1
    ·rw[if_pos hb,if_pos (by omega)]
    ·have hc: ¬(n.1<1∨255<n.1∨(0:Int)<(i:Int)∧n.1≤q.1∨insK n.2.1<0∨(n.2.2.1.length:Int)≠insK n.2.1):=by omega
     rw[if_neg hb,if_neg hc]
  ·rw[if_neg h0,tail]
   by_cases hb:insK n.2.1<0∨(n.2.2.1.length:Int)≠insK n.2.1
   ·rw[if_pos hb,if_pos (by omega)]
   ·have hc: ¬(n.1<1∨255<n.1∨(0:Int)<(i:Int)∧n.1≤(at_ g ((i:Int)-1)).1∨insK n.2.1<0∨(n.2.2.1.length:Int)≠insK n.2.1):=by omega
    rw[if_neg hb,if_neg hc]
def okR (g:List Nd):Nat→List Nd→Bool
 |_,[]=>true
 |k,n::r=>own g (k:Int) n&&okR g (k+1) r
theorem parts_l5 (g:List Nd)(hg:g.length≤100)(hf: ∀x,x∈g→x.2.2.2.2.1.size≤5000):F.bg g A.FU 0=if okR g 0 g=true then F.aR g A.FU 0 else some 80:=
 A.lp0 g (fun f y=>F.bg g f y) (fun k l=>if okR g k l=true then F.aR g A.FU 0 else some 80)
  (fun f=>by rw[F.bg,if_neg (by omega)];rfl)
  (fun f k x hx hk ih=>by
   rw[F.bg,if_pos (by omega),R_own_eq g k x hx hg (hf x (List.mem_of_getElem? hx)),Option.bind_some,A.gd1 (A.r64n (by omega)),ih,okR]
   cases own g (k:Int) x<;>simp)
  (by have:=FU_big;omega)
theorem parts_l4 (g:List Nd)(hg:g.length≤100)(hf: ∀x,x∈g→x.2.2.2.1.2.2.size≤5000):F.aR g A.FU 0=if g.all (fun n=>decide (chk n.2.1 n.2.2.2.1=0))=true then F.am g A.FU 0 else some 60:=
 A.lp0 g (fun f y=>F.aR g f y) (fun _ l=>if l.all (fun n=>decide (chk n.2.1 n.2.2.2.1=0))=true then F.am g A.FU 0 else some 60)
  (fun f=>by rw[F.aR,if_neg (by omega)];rfl)
  (fun f k x hx hk ih=>by
   rw[F.aR,if_pos (by omega),A.ixn hx,Option.bind_some,Option.bind_some,show F.cf x.2.1 x.2.2.2.1=_ from R06_Check_eq x.2.1 x.2.2.2.1 (hf x (List.mem_of_getElem? hx)),Option.bind_some,List.all_cons]
   by_cases h:chk x.2.1 x.2.2.2.1=0
   ·rw[if_neg (fun h2=>h2 h),A.gd1 (A.r64n (by omega)),ih,decide_eq_true h,Bool.true_and]
   ·rw[if_pos h,decide_eq_false h,Bool.false_and,if_neg (by simp)])
  (by have:=FU_big;omega)
theorem idx_get {g:List Nd}{id:Int}(h:0≤idx g id): ∃n,g[(idx g id).toNat]?=some n∧at_ g (idx g id)=n∧n.1=id:=by
 rcases idx_cases z0 g id with⟨h1,_⟩|⟨i,n,h1,h2,h3,_⟩
 ·omega
 ·exact⟨n,by rw[h1];exact h2,at_some h1 h2,h3⟩
theorem parts_l3 (g:List Nd)(hg:g.length≤100)(hf: ∀x,x∈g→x.2.2.1.length≤5000):F.am g A.FU 0=if g.all (fun n=>n.2.2.1.all (inOk g))=true then some 0 else some 80:=
 A.lp0 g (fun f y=>F.am g f y) (fun _ l=>if l.all (fun n=>n.2.2.1.all (inOk g))=true then some 0 else some 80)
  (fun f=>by rw[F.am,if_neg (by omega)];rfl)
  (fun f k x hx hk ih=>by
   rw[F.am,if_pos (by omega)]
   have hlen:=hf x (List.mem_of_getElem? hx)
   have loop:=A.lp0 x.2.2.1 (fun f2 y=>F.bf (F.am g f) g (k:Int) f2 y) (fun _ l=>if l.all (inOk g)=true then F.am g f ((k:Int)+1)else some 80)
    (fun f2=>by rw[F.bf,A.ixn hx,Option.bind_some,if_neg (by omega),A.gd1 (A.r64n (by omega))];rfl)
    (fun f2 j y hy hj2 ih2=>by
     rw[F.bf,A.ixn hx,Option.bind_some,if_pos (by omega),Option.bind_some,A.ixn hy,Option.bind_some,index_eq g y hg,Option.bind_some,List.all_cons]
     simp only[F.cn,if_true,decide_eq_true_eq,A.gd1 (A.r64n (n:=j) (by omega)),ih2]
     by_cases h0:idx g y<0
     ·have:inOk g y=false:=by unfold inOk;rw[if_pos h0]
      rw[if_pos h0,this];simp
     ·obtain⟨n,h1,h2,_⟩:=idx_get (g:=g) (id:=y) (by omega)
      have e:inOk g y=decide (n.2.1≠15):=by unfold inOk;rw[if_neg h0,h2]
      rw[if_neg h0,A.ixg (by omega) h1,Option.bind_some,e]
      by_cases h15:n.2.1=15<;>simp[h15])
    (by have:=FU_big;omega)
   rw[loop,ih,List.all_cons]
   cases x.2.2.1.all (inOk g)with
   |true=>rw[if_pos rfl,Bool.true_and]
   |false=>rw[if_neg Bool.false_ne_true,Bool.false_and,if_neg Bool.false_ne_true])
  (by have:=FU_big;omega)
def lastOf (g:List Nd)(k:Nat):Int:=if k=0 then 0 else(at_ g ((k:Int)-1)).1
def BadP (g:List Nd)(k:Nat)(n:Nd):Prop:=n.1≤lastOf g k∨ownQ n=false∨((n.2.1=1∨n.2.1=15)∧twiceF (g.take k) n=true)
theorem lastOf_s {g:List Nd}{k:Nat}{n:Nd}(h:g[k]?=some n):lastOf g (k+1)=n.1:=by
 unfold lastOf;rw[if_neg (by omega),at_some (k:=k) (by omega) h]
theorem okL_iff (g:List Nd): ∀(m k:Nat),k+m=g.length→(okL g k (lastOf g k) (g.drop k)=true↔∀i n,k≤i→g[i]?=some n→¬BadP g i n)
 |0,k,h=>by
  rw[List.drop_eq_nil_of_le (by omega),okL]
  exact⟨fun _ i n hi hn=>by have:=(List.getElem?_eq_some_iff.1 hn).1;omega,fun _=>rfl⟩
 |m+1,k,h=>by
  have hx:g[k]?=some g[k]:=List.getElem?_eq_getElem (by omega)
  generalize g[k]=x at hx
  have ih:=okL_iff g m (k+1) (by omega)
  rw[lastOf_s hx]at ih
  rw[A.dropx hx,okL]
  by_cases hb:BadP g k x
  ·have hb':x.1≤lastOf g k∨ownQ x=false∨((x.2.1=1∨x.2.1=15)∧twiceF (g.take k) x=true):=hb
   rw[if_pos hb']
   exact⟨fun h=>(by cases h),fun h=>absurd hb (h k x (Nat.le_refl _) hx)⟩
  ·have hb': ¬(x.1≤lastOf g k∨ownQ x=false∨((x.2.1=1∨x.2.1=15)∧twiceF (g.take k) x=true)):=hb
   rw[if_neg hb',ih]
   refine⟨fun h i n hi hn=>?_,fun h i n hi hn=>h i n (by omega) hn⟩
   rcases Nat.eq_or_lt_of_le hi with rfl|h2
   ·rw[hx]at hn;injection hn with hn;subst hn;exact hb
   ·exact h i n h2 hn
theorem okR_iff (g:List Nd): ∀(m k:Nat),k+m=g.length→(okR g k (g.drop k)=true↔∀i n,k≤i→g[i]?=some n→own g (i:Int) n=true)
 |0,k,h=>by
  rw[List.drop_eq_nil_of_le (by omega),okR]
  exact⟨fun _ i n hi hn=>by have:=(List.getElem?_eq_some_iff.1 hn).1;omega,fun _=>rfl⟩
 |m+1,k,h=>by
  have hx:g[k]?=some g[k]:=List.getElem?_eq_getElem (by omega)
  generalize g[k]=x at hx
  have ih:=okR_iff g m (k+1) (by omega)
  rw[A.dropx hx,okR,Bool.and_eq_true,ih]
  refine⟨fun h i n hi hn=>?_,fun h=>⟨h k x (Nat.le_refl _) hx,fun i n hi hn=>h i n (by omega) hn⟩⟩
  rcases Nat.eq_or_lt_of_le hi with rfl|h2
  ·rw[hx]at hn;injection hn with hn;subst hn;exact h.1
  ·exact h.2 i n h2 hn
theorem inc_of {g:List Nd}(h: ∀i n,g[i]?=some n→lastOf g i<n.1):Inc g:=by
 unfold Inc
 have key: ∀(d i:Nat) (a b:Nd),g[i]?=some a→g[i+d+1]?=some b→a.1<b.1:=by
  intro d
  induction d with
  |zero=>intro i a b ha hb;have:=h _ b hb;rw[lastOf_s ha]at this;exact this
  |succ d ih=>
   intro i a b ha hb
   have hl:=(List.getElem?_eq_some_iff.1 hb).1
   have hc:g[i+d+1]?=some g[i+d+1]:=List.getElem?_eq_getElem (by omega)
   have h1:=ih i a _ ha hc
   have h2:=h _ b hb
   rw[show i+(d+1)+1=(i+d+1)+1 by omega,lastOf_s hc]at h2
   omega
 refine List.pairwise_iff_getElem.2 fun i j hi hj hij=>?_
 refine key (j-i-1) i _ _ (List.getElem?_eq_getElem hi) ?_
 rw[show i+(j-i-1)+1=j by omega]
 exact List.getElem?_eq_getElem hj
theorem namedF_first (kd:Int)(s:ByteArray): ∀(l:List Nd),(∃(j:Nat) (n:Nd),l[j]?=some n∧n.2.1=kd∧n.2.2.2.2.1=s∧(namedF kd s l)=(n.1,true)∧∀(i:Nat) (m:Nd),i<j→l[i]?=some m→¬(m.2.1=kd∧m.2.2.2.2.1=s))∨(namedF kd s l=(0,false)∧∀m∈l,¬(m.2.1=kd∧m.2.2.2.2.1=s))
 | []=>.inr ⟨rfl,by simp⟩
 |x::r=>by
  unfold namedF
  by_cases h:x.2.1=kd∧x.2.2.2.2.1=s
  ·rw[if_pos h]
   exact .inl ⟨0,x,rfl,h.1,h.2,rfl,fun i m hi=>by omega⟩
  ·have h': ¬(kind x=kd∧name x=s):=h
   rw[if_neg h']
   rcases namedF_first kd s r with⟨j,n,h1,h2,h3,h4,h5⟩|⟨h1,h2⟩
   ·refine .inl ⟨j+1,n,h1,h2,h3,h4,fun i m hi hm=>?_⟩
    cases i with
    |zero=>injection hm with hm;subst hm;exact h
    |succ i=>exact h5 i m (by omega) hm
   ·refine .inr ⟨h1,fun m hm=>?_⟩
    rcases List.mem_cons.1 hm with rfl|hm
    ·exact h
    ·exact h2 m hm
theorem twice_iff {l:List Nd}{n:Nd}:twiceF l n=true↔∃m∈l,m.2.1=n.2.1∧m.2.2.2.2.1=n.2.2.2.2.1:=by
 simp only[twiceF,List.any_eq_true,Bool.and_eq_true,decide_eq_true_eq]
theorem own_iff {g:List Nd}(hi:Inc g){k:Nat}{n:Nd}(hn:g[k]?=some n)(hl:lastOf g k<n.1):own g (k:Int) n=true↔¬BadP g k n:=by
 have hname:(n.2.1=1∨n.2.1=15)→((namedF n.2.1 n.2.2.2.2.1 g).1=n.1↔¬twiceF (g.take k) n=true):=fun _=>by
  rcases namedF_first n.2.1 n.2.2.2.2.1 g with⟨j,m,h1,h2,h3,h4,h5⟩|⟨_,h2⟩
  ·rw[h4]
   have hjk:j≤k:=by
    rcases Nat.lt_or_ge k j with h|h
    ·exact absurd ⟨rfl,rfl⟩ (h5 k n h hn)
    ·exact h
   constructor
   ·intro he ht
    have:j=k:=hi.inj h1 hn he
    subst this
    obtain⟨q,hq,h6⟩:=twice_iff.1 ht
    obtain⟨i,hiq⟩:=List.mem_iff_getElem?.1 hq
    rw[List.getElem?_take]at hiq
    split at hiq
    ·rename_i hij;exact h5 i q hij hiq h6
    ·cases hiq
   ·intro ht
    rcases Nat.lt_or_ge j k with h|h
    ·exact absurd (twice_iff.2 ⟨m,List.mem_iff_getElem?.2 ⟨j,by rw[List.getElem?_take,if_pos h];exact h1⟩,h2,h3⟩) ht
    ·obtain rfl:j=k:=by omega
     rw[hn]at h1;injection h1 with h1;rw[h1]
  ·exact absurd ⟨rfl,rfl⟩ (h2 n (List.mem_of_getElem? hn))
 have hprev: ¬((0:Int)<(k:Int)∧n.1≤(at_ g ((k:Int)-1)).1):=fun h=>by
  unfold lastOf at hl;rw[if_neg (by omega)]at hl;omega
 unfold own BadP ownQ
 by_cases h1:n.1<1∨255<n.1∨insK n.2.1<0∨(n.2.2.1.length:Int)≠insK n.2.1
 ·rw[if_pos (by omega),if_pos h1]
  exact⟨fun h=>(by cases h),fun h=>absurd (.inr (.inl rfl)) h⟩
 ·have hc: ¬(n.1<1∨255<n.1∨(0:Int)<(k:Int)∧n.1≤(at_ g ((k:Int)-1)).1∨insK n.2.1<0∨(n.2.2.1.length:Int)≠insK n.2.1):=by omega
  rw[if_neg hc,if_neg h1]
  by_cases h2:ownC n
  ·rw[if_pos h2,if_pos h2]
   exact⟨fun h=>(by cases h),fun h=>absurd (.inr (.inl rfl)) h⟩
  ·rw[if_neg h2,if_neg h2]
   unfold ownT
   by_cases h3:n.2.1=1∨n.2.1=15
   ·rw[if_neg (by omega),if_pos h3,Bool.and_eq_true,decide_eq_true_eq,hname h3]
    constructor
    ·rintro⟨a,b⟩ (h|h|h)
     ·omega
     ·rw[a]at h;cases h
     ·exact b h.2
    ·intro h
     refine⟨?_,fun ht=>h (.inr (.inr ⟨h3,ht⟩))⟩
     cases hq:named n.2.2.2.2.1 with
     |true=>rfl
     |false=>exact absurd (.inr (.inl hq)) h
   ·rw[if_pos (by omega),if_neg h3]
    constructor
    ·rintro a (h|h|h)
     ·omega
     ·rw[a]at h;cases h
     ·exact h3 h.1
    ·intro h
     cases hq:decide (n.2.2.2.2.1=ByteArray.mk #[])with
     |true=>rfl
     |false=>exact absurd (.inr (.inl hq)) h
theorem own_last {g:List Nd}{k:Nat}{n:Nd}(h:own g (k:Int) n=true):lastOf g k<n.1:=by
 unfold own at h
 by_cases hc:n.1<1∨255<n.1∨(0:Int)<(k:Int)∧n.1≤(at_ g ((k:Int)-1)).1∨insK n.2.1<0∨(n.2.2.1.length:Int)≠insK n.2.1
 ·rw[if_pos hc]at h;cases h
 ·unfold lastOf;split<;>omega
theorem ok_eq (g:List Nd):okL g 0 0 g=okR g 0 g:=by
 have hL:=okL_iff g g.length 0 (by omega)
 have hR:=okR_iff g g.length 0 (by omega)
 rw[List.drop_zero]at hL hR
 rw[show lastOf g 0=0 from rfl]at hL
 rw[Bool.eq_iff_iff,hL,hR]
 constructor
 ·intro h i n _ hn
  have hl: ∀i n,g[i]?=some n→lastOf g i<n.1:=fun i n hn=>by
   have:=h i n (by omega) hn
   exact Int.lt_of_not_ge fun h2=>this (.inl h2)
  exact(own_iff (inc_of hl) hn (hl i n hn)).2 (h i n (by omega) hn)
 ·intro h i n _ hn
  have hl: ∀i n,g[i]?=some n→lastOf g i<n.1:=fun i n hn=>own_last (h i n (by omega) hn)
  exact(own_iff (inc_of hl) hn (hl i n hn)).1 (h i n (by omega) hn)
theorem ok_inc {g:List Nd}(h:okR g 0 g=true):Inc g:=by
 have hR:=okR_iff g g.length 0 (by omega)
 rw[List.drop_zero]at hR
 exact inc_of fun i n hn=>own_last (hR.1 h i n (by omega) hn)
theorem parts_eq (g:List Nd)(hb:Few g):F.cP g=if(32:Int)<(g.length:Int)then some 80 else if okR g 0 g=true then(if g.all (fun n=>decide (chk n.2.1 n.2.2.2.1=0))=true then(if g.all (fun n=>n.2.2.1.all (inOk g))=true then some 0 else some 80)else some 60)else some 80:=by
 have hl:=hb.1
 unfold F.cP
 rw[parts_l5 g (by omega) (fun x hx=>(hb.2 x hx).2.1),parts_l4 g (by omega) (fun x hx=>(hb.2 x hx).2.2),parts_l3 g (by omega) (fun x hx=>(hb.2 x hx).1)]
theorem fed_of {g:List Nd}(h:g.all (fun n=>n.2.2.1.all (inOk g))=true):Fed g:=fun x hx k hk=>by
 have h1:=List.all_eq_true.1 (List.all_eq_true.1 h x hx) k hk
 unfold inOk at h1
 by_cases h0:idx g k<0
 ·rw[if_pos h0]at h1;cases h1
 ·omega
theorem bset_len {l:List Bool}{i:Nat}:(l.set i true).length=l.length:=List.length_set
theorem bget_get {l:List Bool}{i:Nat}(h:i<l.length):l[i]?=some (bget l (i:Int)):=by
 unfold bget;rw[Int.toNat_natCast,List.getElem?_eq_getElem h];rfl
theorem bix {l:List Bool}{i:Int}(h0:0≤i)(h:i<l.length):A.ix l i=some (bget l i):=by
 have e:i=((i.toNat:Nat):Int):=by omega
 rw[e];exact A.ixn (bget_get (by omega))
theorem iix {l:List Int}{i:Int}(h0:0≤i)(h:i<l.length):A.ix l i=some (iget l i):=by
 refine A.ixg h0 ?_
 unfold iget;rw[List.getElem?_eq_getElem (by omega)];rfl
theorem ready_eq (g:List Nd)(n:Nd)(done:List Bool)(hg:g.length≤100)(hd:done.length=g.length)(hl:n.2.2.1.length≤5000)(hf: ∀k∈n.2.2.1,0≤idx g k):F.cQ g n done=some (ready g done n):=
 A.lp0 n.2.2.1 (fun f y=>F.bh g n done f y) (fun k l=>some (readyF g done n.2.1 l))
  (fun f=>by rw[F.bh,if_neg (by omega)];rfl)
  (fun f k x hx hk ih=>by
   have h1:=hf x (List.mem_of_getElem? hx)
   have h2:=(idx_le g x).2
   rw[F.bh,if_pos (by omega),readyF]
   simp only[F.co,A.gd1 (A.r64n (n:=k) (by omega)),ih]
   by_cases h14:n.2.1=14
   ·simp[h14]
   ·rw[if_pos h14,A.ixn hx,Option.bind_some,index_eq g x hg,Option.bind_some,bix h1 (by omega),Option.bind_some]
    cases bget done (idx g x)<;>simp[h14])
  (by have:=FU_big;omega)
theorem order_l3 (g:List Nd)(hb:Few g)(hfed:Fed g)(k4:List Bool→List Int→Option (List Int×Bool))(done:List Bool)(l:List Int)(hd:done.length=g.length)(hl:l.length≤100):
  F.aS k4 g done l A.FU (-1) 0=if firstF g done 0 g (-1)<0 then some ([],false)else k4 (done.set (firstF g done 0 g (-1)).toNat true) (l++[firstF g done 0 g (-1)]):=
 A.lp g (fun f (a:Int) y=>F.aS k4 g done l f a y) (fun k t a=>if firstF g done k t a<0 then some ([],false)else k4 (done.set (firstF g done k t a).toNat true) (l++[firstF g done k t a])) (fun k a=> -1≤a∧a<g.length)
  (fun f a hp=>by
   rw[F.aS,A.ba,if_neg (by simp),firstF]
   by_cases h:a<0
   ·rw[if_pos h,if_pos h]
   ·rw[if_neg h,if_neg h,bix (by omega) (by omega),Option.bind_some,A.gd1 (by simp only[List.length_cons,List.length_nil];omega)])
  (fun f a k x hx hk hp ih=>by
   have hlen:=hb.1
   rw[F.aS,A.ba,if_pos (by simp;omega),firstF]
   simp only[F.bD,F.cp,A.gd1 (A.r64n (n:=k) (by omega)),Bool.false_eq_true,if_false]
   by_cases h:a<0
   ·by_cases hbd:bget done (k:Int)=true
    ·have e:(if(a<0∧bget done (k:Int)=false)∧ready g done x=true then(k:Int)else a)=a:=if_neg (by rw[hbd];simp)
     rw[e,if_pos h,bix (by omega) (by omega),Option.bind_some,hbd]
     simp only[Bool.not_true,Bool.false_eq_true,if_false]
     exact ih a hp
    ·rw[Bool.not_eq_true]at hbd
     have hrd:F.cQ g x done=some (ready g done x):=ready_eq g x done (by omega) hd (hb.in hx) (hfed x (List.mem_of_getElem? hx))
     by_cases hr:ready g done x=true
     ·have e:(if(a<0∧bget done (k:Int)=false)∧ready g done x=true then(k:Int)else a)=k:=if_pos ⟨⟨h,hbd⟩,hr⟩
      rw[e,if_pos h,bix (by omega) (by omega),Option.bind_some,hbd]
      simp only[Bool.not_false,if_true,A.ixn hx,Option.bind_some]
      rw[hrd,Option.bind_some,if_pos hr];exact ih k (by omega)
     ·have e:(if(a<0∧bget done (k:Int)=false)∧ready g done x=true then(k:Int)else a)=a:=if_neg (fun h2=>hr h2.2)
      rw[e,if_pos h,bix (by omega) (by omega),Option.bind_some,hbd]
      simp only[Bool.not_false,if_true,A.ixn hx,Option.bind_some]
      rw[hrd,Option.bind_some,if_neg hr];exact ih a hp
   ·have e:(if(a<0∧bget done (k:Int)=false)∧ready g done x=true then(k:Int)else a)=a:=if_neg (fun h2=>h h2.1.1)
    rw[e,if_neg h];exact ih a hp)
  (by have:=FU_big;have:=hb.1;omega) (-1) (by omega)
def ordR (g:List Nd)(r:Nat)(done:List Bool)(l:List Int):List Int×Bool:=match orderF g r done l with
 |some l'=>(l',true)
 |none=>([],false)
theorem order_l4 (g:List Nd)(hb:Few g)(hfed:Fed g): ∀(r f:Nat) (done:List Bool) (l:List Int),r<f→l.length+r=g.length→done.length=g.length→F.bE g f done l=some (ordR g r done l)
 |0,f,done,l,hf,hl,hd=>by
  obtain⟨f,rfl⟩: ∃f',f=f'+1:=⟨f-1,by omega⟩
  rw[F.bE,if_neg (by omega)];rfl
 |r+1,f,done,l,hf,hl,hd=>by
  obtain⟨f,rfl⟩: ∃f',f=f'+1:=⟨f-1,by omega⟩
  have:=hb.1
  rw[F.bE,if_pos (by omega),order_l3 g hb hfed _ done l hd (by omega),ordR,orderF]
  by_cases h:firstF g done 0 g (-1)<0
  ·rw[if_pos h,if_pos h]
  ·rw[if_neg h,if_neg h,order_l4 g hb hfed r f _ _ (by omega) (by simp only[List.length_append,List.length_cons,List.length_nil];omega) (by rw[bset_len];exact hd)]
   rfl
theorem R_order_eq (g:List Nd)(hb:Few g)(hfed:Fed g):F.bS g=some (ordR g g.length (List.replicate g.length false) []):=by
 have:=hb.1
 unfold F.bS
 rw[A.gd1 (by omega),order_l4 g hb hfed g.length A.FU _ [] (by have:=FU_big;omega) (by simp) (by simp)]
def readyP (m:List (Int×Bool))(n:Nd):Bool:=n.2.2.1.all fun k=>Z.mget false m k||decide (n.2.1=14)
def findP (m:List (Int×Bool)):List Nd→Option Nd
 | []=>none
 |n::r=>if Z.mget false m n.1=false∧readyP m n=true then some n else findP m r
def sortS (g:List Nd):Nat→List (Int×Bool)→List Int→List Int
 |0,_,xs=>xs
 |r+1,m,xs=>match findP m g with
  |some n=>sortS g r (Z.mins m n.1 true) (xs++[n.1])
  |none=>sortS g r m xs
abbrev PlR:=Option (Bool×((List (Int×Nd))×(List Int)×(List (Int×Int))))
theorem sort_l4 (g:List Nd)(hb:Few g)(k29:List Int→List (Int×Bool)→Int→PlR)(xs:List Int)(m:List (Int×Bool))(y:Int)(hxs:xs.length≤100)(hy:0≤y∧y≤100):
  F.h k29 g xs m y A.FU 0=match findP m g with
   |some n=>k29 (xs++[n.1]) (Z.mins m n.1 true) (y+1)
   |none=>k29 xs m (y+1):=
 A.lp0 g (fun f i=>F.h k29 g xs m y f i) (fun _ l=>match findP m l with
   |some n=>k29 (xs++[n.1]) (Z.mins m n.1 true) (y+1)
   |none=>k29 xs m (y+1))
  (fun f=>by rw[F.h,if_neg (by omega),F.ar,A.gd1 ⟨by omega,by omega⟩];rfl)
  (fun f k x hx hk ih=>by
   have hlen:=hb.1
   have hin:=hb.in hx
   rw[F.h,if_pos (by omega),A.ixn hx,Option.bind_some,A.lt,findP]
   have loop:=A.lp0 x.2.2.1 (fun f2 j=>F.af k29 (F.h k29 g xs m y f) xs m y (k:Int) x f2 j) (fun _ l=>if l.all (fun k=>Z.mget false m k||decide (x.2.1=14))=true then k29 (xs++[x.1]) (Z.mins m x.1 true) (y+1)else F.h k29 g xs m y f ((k:Int)+1))
    (fun f2=>by rw[F.af,if_neg (by omega),A.gd1 (by simp only[List.length_cons,List.length_nil];omega),F.ar,A.gd1 ⟨by omega,by omega⟩];rfl)
    (fun f2 j z hz hj ih2=>by
     rw[F.af,if_pos (by omega),A.ixn hz,Option.bind_some,A.lt,A.gd1 (A.r64n (by omega)),ih2,F.au,A.gd1 (A.r64n (by omega)),List.all_cons]
     cases hm:Z.mget false m z<;>by_cases h14:x.2.1=14<;>simp[h14])
    (by have:=FU_big;omega)
   rw[loop,F.au,A.gd1 (A.r64n (by omega)),ih]
   cases hm:Z.mget false m x.1 with
   |true=>
    have e: ¬((true:Bool)=false∧readyP m x=true):=fun h=>by cases h.1
    rw[if_pos rfl,if_neg e]
   |false=>
    rw[if_neg Bool.false_ne_true]
    by_cases hr:readyP m x=true
    ·have e:(false:Bool)=false∧readyP m x=true:=⟨rfl,hr⟩
     rw[if_pos (show(x.2.2.1.all fun k=>Z.mget false m k||decide (x.2.1=14))=true from hr),if_pos e]
    ·have e: ¬((false:Bool)=false∧readyP m x=true):=fun h=>hr h.2
     rw[if_neg (show ¬(x.2.2.1.all fun k=>Z.mget false m k||decide (x.2.1=14))=true from hr),if_neg e])
  (by have:=FU_big;have:=hb.1;omega)
theorem sort_l5 (g:List Nd)(hb:Few g)(a0:(List (Int×Nd))×(List Int)×(List (Int×Int))): ∀(r f:Nat) (m:List (Int×Bool)) (xs:List Int) (y:Nat),r<f→y+r=g.length→xs.length≤y→F.o a0 g f xs m (y:Int)=some (decide (((sortS g r m xs).length:Int)=(g.length:Int)),(a0.1,sortS g r m xs,a0.2.2))
 |0,f,m,xs,y,hf,hy,hx=>by
  obtain⟨f,rfl⟩: ∃f',f=f'+1:=⟨f-1,by omega⟩
  rw[F.o,if_neg (by omega)];rfl
 |r+1,f,m,xs,y,hf,hy,hx=>by
  obtain⟨f,rfl⟩: ∃f',f=f'+1:=⟨f-1,by omega⟩
  have:=hb.1
  rw[F.o,if_pos (by omega),sort_l4 g hb _ xs m y (by omega) (by omega),sortS]
  have e:(y:Int)+1=((y+1:Nat):Int):=by omega
  cases findP m g with
  |none=>simp only[];rw[e,sort_l5 g hb a0 r f m xs (y+1) (by omega) (by omega) (by omega)]
  |some n=>simp only[];rw[e,sort_l5 g hb a0 r f _ _ (y+1) (by omega) (by omega) (by simp only[List.length_append,List.length_cons,List.length_nil];omega)]
theorem sort_eq (g:List Nd)(hb:Few g)(m:List (Int×Nd)):F.aj (m,[],[]) g=some (decide (((sortS g g.length [] []).length:Int)=(g.length:Int)),(m,sortS g g.length [] [],[])):=by
 unfold F.aj
 exact sort_l5 g hb (m,[],[]) g.length A.FU [] [] 0 (by have:=FU_big;have:=hb.1;omega) (by omega) (by simp)
def Rel (g:List Nd)(done:List Bool)(m:List (Int×Bool)):Prop:=∀(i:Nat) (n:Nd),g[i]?=some n→Z.mget false m n.1=bget done (i:Int)
theorem ready_rel {g:List Nd}{done:List Bool}{m:List (Int×Bool)}(h:Rel g done m){n:Nd}(hf: ∀k∈n.2.2.1,0≤idx g k):readyP m n=ready g done n:=by
 unfold readyP ready
 generalize n.2.2.1=l at hf
 induction l with
 |nil=>rfl
 |cons k r ih=>
  rw[List.all_cons,ih fun x hx=>hf x (List.mem_cons_of_mem _ hx),readyF]
  have h0:=hf k (List.mem_cons_self ..)
  obtain⟨q,h1,h2,h3⟩:=idx_get h0
  have h4:=h _ q h1
  rw[h3,Int.toNat_of_nonneg h0]at h4
  rw[h4]
  cases bget done (idx g k)<;>by_cases h14:n.2.1=14<;>simp[h14]
theorem firstF_keep (g:List Nd)(done:List Bool): ∀(k:Nat) (l:List Nd) (a:Int),0≤a→firstF g done k l a=a
 |_,[],_,_=>rfl
 |k,x::r,a,h=>by
  unfold firstF
  rw[if_neg (fun h2=>by omega)]
  exact firstF_keep g done (k+1) r a h
theorem first_find {g:List Nd}{done:List Bool}{m:List (Int×Bool)}(h:Rel g done m)(hf:Fed g): ∀(r k:Nat),k+r=g.length→(firstF g done k (g.drop k) (-1)= -1∧findP m (g.drop k)=none)∨(∃(i:Nat) (n:Nd),firstF g done k (g.drop k) (-1)=(i:Int)∧g[i]?=some n∧findP m (g.drop k)=some n∧bget done (i:Int)=false)
 |0,k,hk=>by
  rw[List.drop_eq_nil_of_le (by omega)];exact .inl ⟨rfl,rfl⟩
 |r+1,k,hk=>by
  have hx:g[k]?=some g[k]:=List.getElem?_eq_getElem (by omega)
  generalize g[k]=x at hx
  rw[A.dropx hx,firstF,findP,h k x hx,ready_rel h (hf x (List.mem_of_getElem? hx))]
  by_cases hc:bget done (k:Int)=false∧ready g done x=true
  ·rw[if_pos hc,if_pos ⟨⟨by omega,hc.1⟩,hc.2⟩,firstF_keep _ _ _ _ _ (by omega)]
   exact .inr ⟨k,x,rfl,hx,rfl,hc.1⟩
  ·rw[if_neg hc,if_neg (fun h2=>hc ⟨h2.1.2,h2.2⟩)]
   exact first_find h hf r (k+1) (by omega)
def idAt (g:List Nd)(i:Int):Int:=(at_ g i).1
theorem rel_set {g:List Nd}(hi:Inc g){done:List Bool}{m:List (Int×Bool)}(h:Rel g done m)(hd:done.length=g.length){i:Nat}{n:Nd}(hn:g[i]?=some n):Rel g (done.set i true) (Z.mins m n.1 true):=fun j q hq=>by
 rw[Z.mget_ins]
 have hl:=(List.getElem?_eq_some_iff.1 hn).1
 by_cases e:q.1=n.1
 ·have:=hi.inj hq hn e
  subst this
  rw[if_pos e]
  unfold bget
  rw[Int.toNat_natCast,List.getElem?_set_self (by omega)];rfl
 ·rw[if_neg e,h j q hq]
  have hne:i≠j:=fun h2=>e (by subst h2;rw[hn]at hq;injection hq with hq;rw[hq])
  unfold bget
  rw[Int.toNat_natCast,List.getElem?_set_ne hne]
theorem sort_order {g:List Nd}(hi:Inc g)(hf:Fed g): ∀(r:Nat) (done:List Bool) (m:List (Int×Bool)) (l:List Int),Rel g done m→done.length=g.length→(∃l',orderF g r done l=some l'∧sortS g r m (l.map (idAt g))=l'.map (idAt g)∧l'.length=l.length+r)∨(orderF g r done l=none∧(sortS g r m (l.map (idAt g))).length <l.length+r)
 |0,done,m,l,_,_=>.inl ⟨l,rfl,rfl,rfl⟩
 |r+1,done,m,l,h,hd=>by
  rw[orderF,sortS]
  rcases first_find h hf g.length 0 (by omega)with⟨h1,h2⟩|⟨i,n,h1,h2,h3,h4⟩
  ·rw[List.drop_zero]at h1 h2
   rw[h1,if_pos (by omega),h2]
   refine .inr ⟨rfl,?_⟩
   simp only[]
   have stay: ∀(r:Nat) (xs:List Int),sortS g r m xs=xs:=by
    intro r
    induction r with
    |zero=>intro xs;rfl
    |succ r ih=>intro xs;rw[sortS,h2];exact ih xs
   rw[stay,List.length_map];omega
  ·rw[List.drop_zero]at h1 h3
   rw[h1,if_neg (by omega),h3,Int.toNat_natCast]
   simp only[]
   have e:l.map (idAt g)++[n.1]=(l++[(i:Int)]).map (idAt g):=by
    rw[List.map_append];simp only[List.map_cons,List.map_nil,idAt,at_some rfl h2]
   rw[e]
   rcases sort_order hi hf r (done.set i true) (Z.mins m n.1 true) (l++[(i:Int)]) (rel_set hi h hd h2) (by rw[bset_len];exact hd)with⟨l',h5,h6,h7⟩|⟨h5,h6⟩
   ·exact .inl ⟨l',h5,h6,by rw[h7];simp only[List.length_append,List.length_cons,List.length_nil];omega⟩
   ·exact .inr ⟨h5,by simp only[List.length_append,List.length_cons,List.length_nil]at h6;omega⟩
theorem rel_0 (g:List Nd):Rel g (List.replicate g.length false) []:=fun i n hn=>by
 unfold bget
 rw[Int.toNat_natCast,List.getElem?_replicate]
 split<;>rfl
theorem order_sort {g:List Nd}(hb:Few g)(hi:Inc g)(hf:Fed g)(m:List (Int×Nd)):(∃l,F.bS g=some (l,true)∧F.aj (m,[],[]) g=some (true,(m,l.map (idAt g),[]))∧l.length=g.length∧orderF g g.length (List.replicate g.length false) []=some l)∨(F.bS g=some ([],false)∧∃p,F.aj (m,[],[]) g=some (false,p)):=by
 rw[R_order_eq g hb hf,sort_eq g hb m,ordR]
 rcases sort_order hi hf g.length (List.replicate g.length false) [] [] (rel_0 g) (by simp)with⟨l,h1,h2,h3⟩|⟨h1,h2⟩
 ·rw[List.map_nil]at h2
  rw[h1,h2]
  left
  refine⟨l,rfl,?_,by simpa using h3,rfl⟩
  rw[List.length_map,decide_eq_true (by simp at h3;omega)]
 ·rw[List.map_nil]at h2
  rw[h1]
  right
  refine⟨rfl,(m,sortS g g.length [] [],[]),?_⟩
  rw[decide_eq_false (by simp at h2;omega)]
end Go.Proofs.YtbdlcighhphaoaaDoor
end
section
set_option linter.unusedVariables false
set_option linter.unusedSimpArgs false
namespace Go.A
theorem mrg_any {α β:Type}[DecidableEq β]{body:α→Option (Option β)}{rest:Option β}{y:β}{p:α→Bool}: ∀{l:List α},(∀x∈l,body x=if p x=true then some (some y)else some none)→mrg body rest l=if l.any p=true then some y else rest
 | [],_=>rfl
 |x::l,h=>by
  have hx:=h x (List.mem_cons_self ..)
  have ih:=mrg_any (rest:=rest) (l:=l) fun z hz=>h z (List.mem_cons_of_mem _ hz)
  unfold mrg
  rw[hx,List.any_cons]
  cases hp:p x with
  |true=>
   simp only[Option.bind_some,if_true,Bool.true_or]
   rw[if_pos]
   rw[List.all_eq_true]
   intro z hz
   have hz2:=h z (List.mem_cons_of_mem _ hz)
   refine decide_eq_true ?_
   rw[hz2]
   cases p z<;>simp
  |false=>
   simp only[Option.bind_some,Bool.false_eq_true,if_false,Bool.false_or]
   exact ih
end Go.A
namespace Go.Proofs.YtbdlcighhphaoaaDoor
open Go.RowKit Go.Graph
theorem R_depth_eq (n:Nd)(l:List Int)(h5:n.2.1=5∨n.2.1=9→2≤l.length)(hb: -1≤d0 l∧d0 l≤4):F.cy n l=some (depthOf n l):=by
 have hj5:F.bG n l (d0 l)=some (depthOf n l):=by
  unfold F.bG depthOf depthA
  have hj2: ∀y,F.an y=some (capd y):=fun y=>by unfold F.an F.cq capd;split<;>rfl
  have hj4: ∀y,(y=true↔n.2.1=5∨n.2.1=9)→F.bF n l (d0 l) y=some (capd (if n.2.1=5∨n.2.1=9 then(if iget l 0≠iget l 1 then-1 else d0 l)else if n.2.1=11∨n.2.1=16∨n.2.1=15 then(if d0 l≠0 then-1 else d0 l)else d0 l)):=fun y hy=>by
   unfold F.bF F.b1
   simp only[hj2,decide_eq_true_eq]
   by_cases h:n.2.1=5∨n.2.1=9
   ·have:=h5 h
    rw[if_pos (hy.2 h),if_pos h,iix (i:=0) (by omega) (by omega),Option.bind_some,iix (i:=1) (by omega) (by omega),Option.bind_some]
    by_cases e:iget l 0=iget l 1
    ·rw[if_neg (fun h=>h e),if_neg (fun h=>h e)]
    ·rw[if_pos e,if_pos e]
   ·rw[if_neg (fun h2=>h (hy.1 h2)),if_neg h]
    by_cases h11:n.2.1=11
    ·simp only[h11,if_true,true_or];split<;>rfl
    ·by_cases h16:n.2.1=16
     ·simp only[h16,if_true,true_or,or_true,if_false,Int.reduceEq];split<;>rfl
     ·by_cases h15:n.2.1=15
      ·simp only[h15,if_true,or_true,if_false,Int.reduceEq];split<;>rfl
      ·simp only[h11,h16,h15,if_false,or_self]
  simp only[hj2]
  by_cases h14:n.2.1=14
  ·rw[if_pos h14,if_pos h14]
  ·rw[if_neg h14,if_neg h14]
   by_cases h12:n.2.1=12
   ·rw[if_pos h12,if_pos h12,A.gd1 ⟨by omega,by omega⟩]
   ·rw[if_neg h12,if_neg h12]
    by_cases h13:n.2.1=13
    ·rw[if_pos h13,if_pos h13,A.gd1 ⟨by omega,by omega⟩]
    ·rw[if_neg h13,if_neg h13]
     by_cases h5':n.2.1=5
     ·rw[if_pos h5',hj4 _ (by simp[h5'])]
     ·rw[if_neg h5',hj4 _ (by simp[h5'])]
 unfold F.cy
 by_cases h:(0:Int)<(l.length:Int)
 ·rw[if_pos h,iix (i:=0) (by omega) (by omega),Option.bind_some,d0_iget];exact hj5
 ·rw[if_neg h,d0_nil (l:=l) (by omega)];exact hj5
def Own (g:List Nd):Prop:=∀n,n∈g→ownQ n=true
theorem own_ins {n:Nd}(h:ownQ n=true):0≤insK n.2.1∧(n.2.2.1.length:Int)=insK n.2.1:=by
 unfold ownQ at h
 by_cases hc:n.1<1∨255<n.1∨insK n.2.1<0∨(n.2.2.1.length:Int)≠insK n.2.1
 ·rw[if_pos hc]at h;cases h
 ·omega
theorem own_id {n:Nd}(h:ownQ n=true):1≤n.1∧n.1≤255:=by
 unfold ownQ at h
 by_cases hc:n.1<1∨255<n.1∨insK n.2.1<0∨(n.2.2.1.length:Int)≠insK n.2.1
 ·rw[if_pos hc]at h;cases h
 ·omega
theorem own_D {n:Nd}(h:ownQ n=true):(n.2.1=14→1≤n.2.2.2.2.2.2∧n.2.2.2.2.2.2≤4)∧(n.2.1≠14→n.2.2.2.2.2.2=0):=by
 unfold ownQ at h
 by_cases hc:n.1<1∨255<n.1∨insK n.2.1<0∨(n.2.2.1.length:Int)≠insK n.2.1
 ·rw[if_pos hc]at h;cases h
 ·rw[if_neg hc]at h
  by_cases h2:ownC n
  ·rw[if_pos h2]at h;cases h
  ·unfold ownC at h2;omega
theorem insK_cases (k:Int)(h:0≤insK k):(k=1∧insK k=0)∨((k=5∨k=9)∧insK k=2)∨(k≠1∧k≠5∧k≠9∧insK k=1):=by
 unfold insK at h ⊢
 by_cases h1:k<1∨16<k
 ·rw[if_pos h1]at h;omega
 ·rw[if_neg h1]
  by_cases h2:k=1
  ·rw[if_pos h2];omega
  ·rw[if_neg h2]
   by_cases h3:k=5∨k=9
   ·rw[if_pos h3];omega
   ·rw[if_neg h3];omega
theorem own_len {n:Nd}(h:ownQ n=true):(n.2.1=1∧n.2.2.1.length=0)∨((n.2.1=5∨n.2.1=9)∧n.2.2.1.length=2)∨(n.2.1≠1∧n.2.1≠5∧n.2.1≠9∧n.2.2.1.length=1):=by
 have h1:=own_ins h
 rcases insK_cases n.2.1 h1.1 with h2|h2|h2<;>omega
theorem iset_len {l:List Int}{i:Nat}{v:Int}:(l.set i v).length=l.length:=List.length_set
theorem depths_l1 (g:List Nd)(l d:List Int)(y:Nat)(p:Nat)(x:Nd)(k5:List Int→Int→Option (List Int×Bool))(hb:Few g)(hfed:Fed g)(ho:Own g)(hd:d.length=g.length)(hib:InB d)(hp:l[y]?=some (p:Int))(hy:y<100)(hx:g[p]?=some x):
  F.a4 k5 g l d (y:Int) x A.FU [] 0=if depthOf x (inD g d x.2.2.1)<0 then some ([],false)else k5 (d.set p (depthOf x (inD g d x.2.2.1))) ((y:Int)+1):=by
 have hlen:=hb.1
 have hin:=hb.in hx
 have hpl:=(List.getElem?_eq_some_iff.1 hx).1
 have hxg:=List.mem_of_getElem? hx
 have loop:=A.lp x.2.2.1 (fun f (s:List Int) i=>F.a4 k5 g l d (y:Int) x f s i) (fun _ t s=>if depthOf x (s++inD g d t)<0 then some ([],false)else k5 (d.set p (depthOf x (s++inD g d t))) ((y:Int)+1)) (fun k s=>s=inD g d (x.2.2.1.take k))
  (fun f s hs=>by
   rw[List.take_of_length_le (Nat.le_refl _)]at hs
   subst hs
   have hdep:F.cy x (inD g d x.2.2.1)=some (depthOf x (inD g d x.2.2.1)):=R_depth_eq x (inD g d x.2.2.1) (fun h=>by rcases own_len (ho x hxg)with h2|h2|h2<;>simp only[inD,List.length_map]<;>omega) (hib.d0 g _)
   have e:(inD g d x.2.2.1++inD g d ([]:List Int))=inD g d x.2.2.1:=by simp[inD]
   rw[F.a4,if_neg (by omega),A.ixn hp,Option.bind_some,hdep,Option.bind_some,iix (by omega) (by omega),Option.bind_some,Option.bind_some,e,iix (by omega) (by rw[iset_len];omega),Option.bind_some,A.gd1 (A.r64n (by omega)),Int.toNat_natCast]
   have e2:iget (d.set p (depthOf x (inD g d x.2.2.1))) (p:Int)=depthOf x (inD g d x.2.2.1):=by
    unfold iget;rw[Int.toNat_natCast,List.getElem?_set_self (by omega)];rfl
   rw[e2])
  (fun f s k z hz hk hs ih=>by
   have h1:=hfed x hxg z (List.mem_of_getElem? hz)
   have h2:=(idx_le g z).2
   rw[F.a4,if_pos (by omega),A.ixn hz,Option.bind_some,index_eq g z (by omega),Option.bind_some,iix h1 (by omega),Option.bind_some]
   have hs2:s++[iget d (idx g z)]=inD g d (x.2.2.1.take (k+1)):=by rw[hs];exact inD_take hz
   rw[A.gd1 (by rw[hs];simp only[inD,List.length_map,List.length_take,List.length_cons,List.length_nil];omega),A.gd1 (A.r64n (by omega)),ih _ hs2]
   simp only[inD,List.map_cons,List.append_assoc,List.singleton_append])
  (by have:=FU_big;omega) [] (by simp[inD])
 rw[loop]
 rfl
theorem depths_l3 (g:List Nd)(d:List Int)(hb:Few g)(hfed:Fed g)(ho:Own g)(hd:d.length=g.length):F.aV g d A.FU 0=if loopsF g d g=true then some (d,true)else some ([],false):=
 A.lp0 g (fun f y=>F.aV g d f y) (fun _ t=>if loopsF g d t=true then some (d,true)else some ([],false))
  (fun f=>by rw[F.aV,if_neg (by omega)];rfl)
  (fun f k x hx hk ih=>by
   have hlen:=hb.1
   have hxg:=List.mem_of_getElem? hx
   rw[F.aV,if_pos (by omega),A.ixn hx,Option.bind_some,loopsF]
   simp only[F.ck,A.gd1 (A.r64n (n:=k) (by omega)),ih,decide_eq_true_eq]
   by_cases h14:x.2.1=14
   ·have hl:x.2.2.1.length=1:=by rcases own_len (ho x hxg)with h2|h2|h2<;>omega
    have hk0:x.2.2.1[0]?=some (iget x.2.2.1 0):=by
     unfold iget
     rw[show(0:Int).toNat=0 from rfl,List.getElem?_eq_getElem (by omega)];rfl
    have h1:=hfed x hxg _ (List.mem_of_getElem? hk0)
    have h2:=(idx_le g (iget x.2.2.1 0)).2
    rw[if_pos h14,show A.ix x.2.2.1 0=_ from A.ixn hk0,Option.bind_some,index_eq g _ (by omega),Option.bind_some,iix h1 (by omega),Option.bind_some]
    by_cases e:iget d (idx g (iget x.2.2.1 0))≠x.2.2.2.2.2.2
    ·rw[if_pos e]
     have e2:x.2.1=14∧iget d (idx g (iget x.2.2.1 0))≠x.2.2.2.2.2.2:=⟨h14,e⟩
     rw[if_pos e2,if_neg Bool.false_ne_true]
    ·rw[if_neg e]
     have e2: ¬(x.2.1=14∧iget d (idx g (iget x.2.2.1 0))≠x.2.2.2.2.2.2):=fun h=>e h.2
     rw[if_neg e2]
   ·have e2: ¬(x.2.1=14∧iget d (idx g (iget x.2.2.1 0))≠x.2.2.2.2.2.2):=fun h=>h14 h.1
    rw[if_neg h14,if_neg Bool.false_ne_true,if_neg e2])
  (by have:=FU_big;have:=hb.1;omega)
def Plc (g:List Nd)(l:List Int):Prop:=∀(i:Nat) (p:Int),l[i]?=some p→∃(k:Nat) (n:Nd),p=(k:Int)∧g[k]?=some n
theorem depths_l4 (g:List Nd)(l:List Int)(hb:Few g)(hfed:Fed g)(ho:Own g)(hl:l.length≤60)(hp:Plc g l):F.b2 g l=some (depths g l):=by
 have hlen:=hb.1
 have loop:=A.lp l (fun f (s:List Int) i=>F.bp g l f s i) (fun _ t s=>match depthsF g t s with
  |some d=>if loopsF g d g=true then some (d,true)else some ([],false)
  |none=>some ([],false)) (fun k s=>s.length=g.length∧InB s)
  (fun f s hs=>by rw[F.bp,if_neg (by omega),depths_l3 g s hb hfed ho hs.1];rfl)
  (fun f s k x hx hk hs ih=>by
   obtain⟨q,n,rfl,hn⟩:=hp k x hx
   rw[F.bp,if_pos (by omega),A.ixn hx,Option.bind_some,A.ixn hn,Option.bind_some,depths_l1 g l s k q n _ hb hfed ho hs.1 hs.2 hx (by omega) hn,depthsF,at_some rfl hn]
   by_cases h:depthOf n (inD g s n.2.2.1)<0
   ·rw[if_pos h,if_pos h]
   ·rw[if_neg h,if_neg h,Int.toNat_natCast]
    exact ih _ ⟨by rw[iset_len];exact hs.1,hs.2.set q (by omega) (depthOf_le n _)⟩)
  (by have:=FU_big;omega) (List.replicate g.length 0) ⟨by simp,InB.rep _⟩
 unfold F.b2 depths
 rw[A.gd1 (by omega),loop]
 cases depthsF g l (List.replicate g.length 0)with
 |none=>rfl
 |some d=>simp only[];cases loopsF g d g<;>rfl
end Go.Proofs.YtbdlcighhphaoaaDoor
end
section
set_option linter.unusedVariables false
set_option linter.unusedSimpArgs false
set_option synthInstance.maxSize 1000000
set_option synthInstance.maxHeartbeats 400000
namespace Go.Proofs.YtbdlcighhphaoaaDoor
open Go.RowKit Go.Graph
def RelD (g:List Nd)(d:List Int)(dm:List (Int×Int)):Prop:=∀(i:Nat) (n:Nd),g[i]?=some n→Z.mget 0 dm n.1=iget d (i:Int)
theorem RelD.in {g:List Nd}{d:List Int}{dm:List (Int×Int)}(h:RelD g d dm){k:Int}(h0:0≤idx g k):Z.mget 0 dm k=iget d (idx g k):=by
 obtain⟨q,h1,_,h3⟩:=idx_get h0
 have h4:=h _ q h1
 rw[h3,Int.toNat_of_nonneg h0]at h4
 exact h4
theorem iget_nat {l:List Int}{i:Nat}(h:i<l.length):l[i]?=some (iget l (i:Int)):=by
 unfold iget;rw[Int.toNat_natCast,List.getElem?_eq_getElem h];rfl
theorem inD_at {g:List Nd}{d l:List Int}{i:Nat}{k:Int}(h:l[i]?=some k):iget (inD g d l) (i:Int)=iget d (idx g k):=by
 unfold iget
 rw[Int.toNat_natCast,inD,List.getElem?_map,h];rfl
theorem out_eq (g:List Nd)(d:List Int)(a0:(List (Int×Nd))×(List Int)×(List (Int×Int)))(n:Nd)(hr:RelD g d a0.2.2)(hib:InB d)(ho:ownQ n=true)(hf: ∀k∈n.2.2.1,0≤idx g k):
  ∃v b,F.aX a0 n=some (v,b)∧((b=false∧depthOf n (inD g d n.2.2.1)<0)∨(b=true∧v=depthOf n (inD g d n.2.2.1)∧0≤v)):=by
 have hlen:=own_len ho
 have hD:=own_D ho
 unfold F.aX
 by_cases h1:n.2.1=1
 ·have hl:n.2.2.1=[]:=List.eq_nil_of_length_eq_zero (by omega)
  rw[if_pos h1]
  refine⟨0,true,rfl,.inr ⟨rfl,?_,Int.le_refl _⟩⟩
  unfold depthOf depthA capd
  simp only[h1,hl,inD,List.map_nil,d0];simp
 ·rw[if_neg h1]
  by_cases h14:n.2.1=14
  ·rw[if_pos h14]
   have:=hD.1 h14
   refine⟨_,true,rfl,.inr ⟨rfl,?_,by omega⟩⟩
   unfold depthOf depthA capd
   rw[if_pos h14,if_neg (by omega)]
  ·rw[if_neg h14]
   have hpos:0<n.2.2.1.length:=by omega
   obtain⟨k0,hk0⟩: ∃k0,n.2.2.1[0]?=some k0:=⟨_,List.getElem?_eq_getElem hpos⟩
   have f0:=hf k0 (List.mem_of_getElem? hk0)
   have b0:=hib (idx g k0)
   have e0:d0 (inD g d n.2.2.1)=iget d (idx g k0):=by rw[←d0_iget];exact inD_at hk0
   rw[show A.ix n.2.2.1 0=_ from A.ixn hk0,Option.bind_some,A.lt,hr.in f0]
   have hj3: ∀y,(y=true↔(n.2.1=5∨n.2.1=9)∧iget (inD g d n.2.2.1) 0≠iget (inD g d n.2.2.1) 1)→∃v b,F.aF n (iget d (idx g k0)) y=some (v,b)∧((b=false∧depthOf n (inD g d n.2.2.1)<0)∨(b=true∧v=depthOf n (inD g d n.2.2.1)∧0≤v)):=fun y hy=>by
    unfold F.aF depthOf depthA
    rw[if_neg h14,e0]
    by_cases hyt:y=true
    ·have h2:=hy.1 hyt
     rw[if_pos hyt]
     refine⟨0,false,rfl,.inl ⟨rfl,?_⟩⟩
     rw[if_neg (by omega),if_neg (by omega),if_pos h2.1,if_pos h2.2];decide
    ·have h2: ¬((n.2.1=5∨n.2.1=9)∧iget (inD g d n.2.2.1) 0≠iget (inD g d n.2.2.1) 1):=fun h=>hyt (hy.2 h)
     rw[if_neg hyt]
     simp only[F.aD,F.aE,A.ba]
     by_cases h12:n.2.1=12
     ·rw[if_pos h12,if_pos h12,A.gd1 ⟨by omega,by omega⟩]
      unfold capd
      by_cases h4:4<iget d (idx g k0)+1
      ·exact⟨_,_,rfl,.inl ⟨decide_eq_false (by omega),by rw[if_pos h4];decide⟩⟩
      ·exact⟨_,_,rfl,.inr ⟨decide_eq_true (by omega),by rw[if_neg h4],by omega⟩⟩
     ·rw[if_neg h12,if_neg h12]
      by_cases h13:n.2.1=13
      ·rw[if_pos h13,if_pos h13,A.gd1 ⟨by omega,by omega⟩]
       unfold capd
       rw[if_neg (by omega)]
       by_cases h4:0≤iget d (idx g k0)-1
       ·exact⟨_,_,rfl,.inr ⟨decide_eq_true (by omega),rfl,h4⟩⟩
       ·exact⟨_,_,rfl,.inl ⟨decide_eq_false (by omega),by omega⟩⟩
      ·rw[if_neg h13,if_neg h13]
       have hz: ∀x:Int,n.2.1=11∨n.2.1=16∨n.2.1=15→∃v b,(some (iget d (idx g k0),decide (iget d (idx g k0)=0)):Option (Int×Bool))=some (v,b)∧((b=false∧capd (if n.2.1=5∨n.2.1=9 then if iget (inD g d n.2.2.1) 0≠iget (inD g d n.2.2.1) 1 then-1 else iget d (idx g k0)else if n.2.1=11∨n.2.1=16∨n.2.1=15 then if iget d (idx g k0)≠0 then-1 else iget d (idx g k0)else iget d (idx g k0))<0)∨(b=true∧v=capd (if n.2.1=5∨n.2.1=9 then if iget (inD g d n.2.2.1) 0≠iget (inD g d n.2.2.1) 1 then-1 else iget d (idx g k0)else if n.2.1=11∨n.2.1=16∨n.2.1=15 then if iget d (idx g k0)≠0 then-1 else iget d (idx g k0)else iget d (idx g k0))∧0≤v)):=fun _ hk=>by
        rw[if_neg (by omega),if_pos hk]
        by_cases h0:iget d (idx g k0)=0
        ·rw[h0];exact⟨_,_,rfl,.inr ⟨rfl,rfl,Int.le_refl _⟩⟩
        ·rw[if_pos h0];exact⟨_,_,rfl,.inl ⟨decide_eq_false h0,by decide⟩⟩
       by_cases h11:n.2.1=11
       ·rw[if_pos h11];exact hz 0 (.inl h11)
       ·rw[if_neg h11]
        by_cases h16:n.2.1=16
        ·rw[if_pos h16];exact hz 0 (.inr (.inl h16))
        ·rw[if_neg h16]
         by_cases h15:n.2.1=15
         ·rw[if_pos h15];exact hz 0 (.inr (.inr h15))
         ·rw[if_neg h15]
          refine⟨_,_,rfl,.inr ⟨decide_eq_true (by omega),?_,by omega⟩⟩
          by_cases h5:n.2.1=5∨n.2.1=9
          ·rw[if_pos h5,if_neg (fun h=>h2 ⟨h5,h⟩)];unfold capd;rw[if_neg (by omega)]
          ·rw[if_neg h5,if_neg (by omega)];unfold capd;rw[if_neg (by omega)]
   by_cases h2:(1:Int)<(n.2.2.1.length:Int)
   ·have h5:n.2.1=5∨n.2.1=9:=by omega
    obtain⟨k1,hk1⟩: ∃k1,n.2.2.1[1]?=some k1:=⟨_,List.getElem?_eq_getElem (by omega)⟩
    have f1:=hf k1 (List.mem_of_getElem? hk1)
    rw[if_pos h2,show A.ix n.2.2.1 1=_ from A.ixn hk1,Option.bind_some,A.lt,hr.in f1]
    refine hj3 _ ?_
    rw[decide_eq_true_eq,show iget (inD g d n.2.2.1) 0=_ from inD_at hk0,show iget (inD g d n.2.2.1) 1=_ from inD_at hk1]
    exact⟨fun h=>⟨h5,fun e=>h e.symm⟩,fun h e=>h.2 e.symm⟩
   ·rw[if_neg h2]
    exact hj3 false ⟨fun h=>(by cases h),fun h=>by omega⟩
theorem relD_set {g:List Nd}(hi:Inc g){d:List Int}{dm:List (Int×Int)}(h:RelD g d dm)(hd:d.length=g.length){i:Nat}{n:Nd}(hn:g[i]?=some n)(v:Int):RelD g (d.set i v) (Z.mins dm n.1 v):=fun j q hq=>by
 rw[Z.mget_ins]
 have hl:=(List.getElem?_eq_some_iff.1 hn).1
 by_cases e:q.1=n.1
 ·have:=hi.inj hq hn e
  subst this
  rw[if_pos e]
  unfold iget
  rw[Int.toNat_natCast,List.getElem?_set_self (by omega)];rfl
 ·rw[if_neg e,h j q hq]
  have hne:i≠j:=fun h2=>e (by subst h2;rw[hn]at hq;injection hq with hq;rw[hq])
  unfold iget
  rw[Int.toNat_natCast,List.getElem?_set_ne hne]
def KeyD (g:List Nd)(l:List Int)(dm:List (Int×Int)):Prop:=∀id,Z.mhas dm id=l.any fun p=>decide (idAt g p=id)
theorem depths_l3P (g:List Nd)(l:List Int)(hb:Few g)(hi:Inc g)(hfed:Fed g)(ho:Own g)(hl:l.length≤60)(hp:Plc g l): ∀(r k f:Nat) (d:List Int) (dm:List (Int×Int)),k+r=l.length→r<f→RelD g d dm→InB d→d.length=g.length→KeyD g (l.take k) dm→
  (∃d' dm',depthsF g (l.drop k) d=some d'∧F.m (mapOf g,l.map (idAt g),[]) f dm (k:Int)=A.mrg (F.ah (mapOf g,l.map (idAt g),[]) dm') (some (true,(mapOf g,l.map (idAt g),dm'))) (mapOf g)∧RelD g d' dm'∧InB d'∧d'.length=g.length∧KeyD g l dm')∨
  (depthsF g (l.drop k) d=none∧∃p,F.m (mapOf g,l.map (idAt g),[]) f dm (k:Int)=some (false,p))
 |0,k,f,d,dm,hk,hf,h1,h2,h3,h4=>by
  obtain⟨f,rfl⟩: ∃f',f=f'+1:=⟨f-1,by omega⟩
  left
  rw[List.take_of_length_le (by omega)]at h4
  refine⟨d,dm,by rw[List.drop_eq_nil_of_le (by omega)];rfl,?_,h1,h2,h3,h4⟩
  rw[F.m,if_neg (by simp only[List.length_map];omega)]
 |r+1,k,f,d,dm,hk,hf,h1,h2,h3,h4=>by
  obtain⟨f,rfl⟩: ∃f',f=f'+1:=⟨f-1,by omega⟩
  have hx:l[k]?=some l[k]:=List.getElem?_eq_getElem (by omega)
  generalize l[k]=x at hx
  obtain⟨q,n,rfl,hn⟩:=hp k x hx
  have hng:=List.mem_of_getElem? hn
  have hid:idAt g (q:Int)=n.1:=by unfold idAt;rw[at_some rfl hn]
  have e1:A.ix (l.map (idAt g)) (k:Int)=some n.1:=A.ixn (by rw[List.getElem?_map,hx,Option.map_some,hid])
  obtain⟨v,b,ho1,ho2⟩:=out_eq g d (mapOf g,l.map (idAt g),dm) n h1 h2 (ho n hng) (hfed n hng)
  have eF:F.m (mapOf g,l.map (idAt g),[]) (f+1) dm (k:Int)=if(!b)=true then some (false,(mapOf g,l.map (idAt g),dm))else A.gd (Z.R64 ((k:Int)+1)) (F.m (mapOf g,l.map (idAt g),[]) f (Z.mins dm n.1 v) ((k:Int)+1)):=by
   rw[F.m,if_pos (by simp only[List.length_map];omega)]
   simp only[e1,Option.bind_some,A.lt,hi.mget hn]
   rw[show F.aX (mapOf g,l.map (idAt g),dm) n=_ from ho1,Option.bind_some]
  rw[A.dropx hx,depthsF,at_some rfl hn,eF]
  rcases ho2 with⟨rfl,h5⟩|⟨rfl,h5,h6⟩
  ·right
   rw[if_pos (show depthOf n (n.2.2.1.map fun k=>iget d (idx g k))<0 from h5)]
   exact⟨rfl,_,if_pos rfl⟩
  ·subst h5
   rw[if_neg (show ¬depthOf n (n.2.2.1.map fun k=>iget d (idx g k))<0 by simp only[inD]at h6;omega),if_neg (by simp),A.gd1 (A.r64n (by omega)),Int.toNat_natCast]
   have:=depths_l3P g l hb hi hfed ho hl hp r (k+1) f (d.set q (depthOf n (inD g d n.2.2.1))) (Z.mins dm n.1 (depthOf n (inD g d n.2.2.1))) (by omega) (by omega) (relD_set hi h1 h3 hn _) (h2.set q h6 (depthOf_le n _)) (by rw[iset_len];exact h3) (fun id=>by
    rw[Z.mhas_ins,take_s hx,List.any_append,h4 id,List.any_cons,List.any_nil,Bool.or_false,hid,Bool.or_comm]
    congr 1
    exact decide_eq_decide.2 ⟨fun h=>h.symm,fun h=>h.symm⟩)
   exact this
theorem loopsF_any (g:List Nd)(d:List Int): ∀l,loopsF g d l= !(l.any fun x=>decide (x.2.1=14∧iget d (idx g (iget x.2.2.1 0))≠x.2.2.2.2.2.2))
 | []=>rfl
 |x::r=>by
  unfold loopsF
  rw[List.any_cons]
  by_cases h:x.2.1=14∧iget d (idx g (iget x.2.2.1 0))≠x.2.2.2.2.2.2
  ·rw[if_pos h,decide_eq_true h];rfl
  ·rw[if_neg h,decide_eq_false h,Bool.false_or];exact loopsF_any g d r
theorem depths_same (g:List Nd)(l:List Int)(hb:Few g)(hi:Inc g)(hfed:Fed g)(ho:Own g)(hl:l.length≤60)(hp:Plc g l):
  (∃d dm,F.b2 g l=some (d,true)∧F.ai (mapOf g,l.map (idAt g),[])=some (true,(mapOf g,l.map (idAt g),dm))∧RelD g d dm∧InB d∧d.length=g.length∧KeyD g l dm∧loopsF g d g=true∧depthsF g l (List.replicate g.length 0)=some d)∨
  (F.b2 g l=some ([],false)∧∃p,F.ai (mapOf g,l.map (idAt g),[])=some (false,p)):=by
 have h0:RelD g (List.replicate g.length 0) []:=fun i n hn=>by
  unfold iget;rw[Int.toNat_natCast,List.getElem?_replicate];split<;>rfl
 rw[depths_l4 g l hb hfed ho hl hp]
 unfold F.ai depths
 rcases depths_l3P g l hb hi hfed ho hl hp l.length 0 A.FU (List.replicate g.length 0) [] (by omega) (by have:=FU_big;omega) h0 (InB.rep _) (by simp) (fun id=>by simp[Z.mhas])with⟨d,dm,h1,h2,h3,h4,h5,h6⟩|⟨h1,p,h2⟩
 ·rw[List.drop_zero]at h1
  rw[h1]
  simp only[]
  have hm:A.mrg (F.ah (mapOf g,l.map (idAt g),[]) dm) (some (true,(mapOf g,l.map (idAt g),dm))) (mapOf g)=if(mapOf g).any (fun p=>decide (p.2.2.1=14∧iget d (idx g (iget p.2.2.2.1 0))≠p.2.2.2.2.2.2.2))=true then some (false,(mapOf g,l.map (idAt g),dm))else some (true,(mapOf g,l.map (idAt g),dm)):=by
   refine A.mrg_any fun p hp=>?_
   obtain⟨n,hn,rfl⟩:=List.mem_map.1 hp
   unfold F.ah F.az
   by_cases h14:n.2.1=14
   ·have hl1:n.2.2.1.length=1:=by rcases own_len (ho n hn)with h2|h2|h2<;>omega
    have hk0:n.2.2.1[0]?=some (iget n.2.2.1 0):=iget_nat (i:=0) (by omega)
    have f0:=hfed n hn _ (List.mem_of_getElem? hk0)
    rw[if_pos h14,show A.ix n.2.2.1 0=_ from A.ixn hk0,Option.bind_some,A.lt,h3.in f0]
    by_cases e:iget d (idx g (iget n.2.2.1 0))≠n.2.2.2.2.2.2
    ·rw[decide_eq_true e,if_pos rfl,decide_eq_true (And.intro h14 e),if_pos rfl]
    ·rw[decide_eq_false e,if_neg Bool.false_ne_true,decide_eq_false (fun h=>e h.2),if_neg Bool.false_ne_true]
   ·rw[if_neg h14,if_neg Bool.false_ne_true,decide_eq_false (fun h=>h14 h.1),if_neg Bool.false_ne_true]
  have hany:(mapOf g).any (fun p=>decide (p.2.2.1=14∧iget d (idx g (iget p.2.2.2.1 0))≠p.2.2.2.2.2.2.2))=g.any fun x=>decide (x.2.1=14∧iget d (idx g (iget x.2.2.1 0))≠x.2.2.2.2.2.2):=by
   unfold mapOf;rw[List.any_map];rfl
  have h2':F.m (mapOf g,l.map (idAt g),[]) A.FU [] 0=_:=h2.trans hm
  rw[h2',hany,loopsF_any]
  cases hc:g.any fun x=>decide (x.2.1=14∧iget d (idx g (iget x.2.2.1 0))≠x.2.2.2.2.2.2)with
  |true=>right;exact⟨rfl,_,rfl⟩
  |false=>left;exact⟨d,dm,rfl,rfl,h3,h4,h5,h6,by rw[loopsF_any,hc];rfl,rfl⟩
 ·rw[List.drop_zero]at h1
  rw[h1]
  right
  exact⟨rfl,p,h2⟩
theorem insS_len (g:List Nd)(d:List Int)(id:Int): ∀(k:Nat) (l:List Int),(insS g d id k l).length=l.length
 |_,[]=>rfl
 |k,x::r=>by unfold insS;rw[List.length_cons,List.length_cons,insS_len g d id (k+1) r]
theorem outS_len (n:Nd)(v:Int):(outS n v).length≤1:=by unfold outS;split<;>simp
theorem in2 {g:List Nd}(ho:Own g){n:Nd}(hn:n∈g):n.2.2.1.length≤2:=by rcases own_len (ho n hn)with h|h|h<;>omega
theorem spots_l2P (g:List Nd)(d:List Int)(a0:(List (Int×Nd))×(List Int)×(List (Int×Int)))(k8:List Sp→Int→Option (List Sp))(y:Nat)(x:Nd)(xs:List Sp)(hr:RelD g d a0.2.2)(hx:g[y]?=some x)(hl:x.2.2.1.length≤2)(hf: ∀k∈x.2.2.1,0≤idx g k)(hxs:xs.length≤1000)(hy:y≤100):
  F.w k8 a0 (y:Int) x A.FU xs 0=k8 (xs++(insS g d x.1 0 x.2.2.1++outS x (iget d (y:Int)))) ((y:Int)+1):=
 A.lp x.2.2.1 (fun f (s:List Sp) i=>F.w k8 a0 (y:Int) x f s i) (fun k t s=>k8 (s++(insS g d x.1 k t++outS x (iget d (y:Int)))) ((y:Int)+1)) (fun k s=>s.length≤1000+k)
  (fun f s hs=>by
   rw[F.w,if_neg (by omega),insS,List.nil_append,outS,A.lt,hr y x hx]
   simp only[F.aH,A.gd1 (A.r64n (n:=y) (by omega))]
   by_cases h:x.2.1≠15
   ·rw[if_pos h,if_pos h,A.gd1 (by simp only[List.length_cons,List.length_nil];omega)]
   ·rw[if_neg h,if_neg h,List.append_nil])
  (fun f s k z hz hk hs ih=>by
   have h1:=hf z (List.mem_of_getElem? hz)
   rw[F.w,if_pos (by omega),A.ixn hz,Option.bind_some,A.lt,hr.in h1,A.gd1 (by simp only[List.length_cons,List.length_nil];omega),A.gd1 (A.r64n (by omega)),ih _ (by simp only[List.length_append,List.length_cons,List.length_nil];omega),insS]
   simp only[List.append_assoc,List.singleton_append,List.cons_append,List.nil_append])
  (by have:=FU_big;omega) xs (by omega)
theorem spotsP_eq (g:List Nd)(d:List Int)(a0:(List (Int×Nd))×(List Int)×(List (Int×Int)))(hb:Few g)(hfed:Fed g)(ho:Own g)(hr:RelD g d a0.2.2):F.aJ a0 g=some (spots g d):=by
 have hlen:=hb.1
 have loop:=A.lp g (fun f (s:List Sp) i=>F.t a0 g f s i) (fun k t s=>some (s++spotsF g d k t)) (fun k s=>s.length≤3*k)
  (fun f s hs=>by rw[F.t,if_neg (by omega),spotsF,List.append_nil])
  (fun f s k x hx hk hs ih=>by
   have hxg:=List.mem_of_getElem? hx
   have h2:=in2 ho hxg
   have h3:=outS_len x (iget d (k:Int))
   rw[F.t,if_pos (by omega),A.ixn hx,Option.bind_some,spots_l2P g d a0 _ k x s hr hx h2 (hfed x hxg) (by omega) (by omega),ih _ (by rw[List.length_append,List.length_append,insS_len];omega),spotsF]
   simp only[List.append_assoc])
  (by have:=FU_big;omega) [] (by simp)
 unfold F.aJ
 rw[loop];rfl
theorem spots_l2R (g:List Nd)(d:List Int)(k8:List Sp→Int→Option (List Sp))(y:Nat)(x:Nd)(xs:List Sp)(hg:g.length≤100)(hd:d.length=g.length)(hx:g[y]?=some x)(hl:x.2.2.1.length≤2)(hf: ∀k∈x.2.2.1,0≤idx g k)(hxs:xs.length≤1000)(hy:y≤100):
  F.bi k8 g d (y:Int) x A.FU xs 0=k8 (xs++(insS g d x.1 0 x.2.2.1++outS x (iget d (y:Int)))) ((y:Int)+1):=
 A.lp x.2.2.1 (fun f (s:List Sp) i=>F.bi k8 g d (y:Int) x f s i) (fun k t s=>k8 (s++(insS g d x.1 k t++outS x (iget d (y:Int)))) ((y:Int)+1)) (fun k s=>s.length≤1000+k)
  (fun f s hs=>by
   have hyl:=(List.getElem?_eq_some_iff.1 hx).1
   rw[F.bi,if_neg (by omega),insS,List.nil_append,outS]
   simp only[F.cr,A.gd1 (A.r64n (n:=y) (by omega))]
   by_cases h:x.2.1≠15
   ·rw[if_pos h,if_pos h,iix (by omega) (by omega),Option.bind_some,A.gd1 (by simp only[List.length_cons,List.length_nil];omega)]
   ·rw[if_neg h,if_neg h,List.append_nil])
  (fun f s k z hz hk hs ih=>by
   have h1:=hf z (List.mem_of_getElem? hz)
   have h2:=(idx_le g z).2
   rw[F.bi,if_pos (by omega),A.ixn hz,Option.bind_some,index_eq g z hg,Option.bind_some,iix h1 (by omega),Option.bind_some,A.gd1 (by simp only[List.length_cons,List.length_nil];omega),A.gd1 (A.r64n (by omega)),ih _ (by simp only[List.length_append,List.length_cons,List.length_nil];omega),insS]
   simp only[List.append_assoc,List.singleton_append,List.cons_append,List.nil_append])
  (by have:=FU_big;omega) xs (by omega)
theorem spotsR_eq (g:List Nd)(d:List Int)(hb:Few g)(hfed:Fed g)(ho:Own g)(hd:d.length=g.length):F.cR g d=some (spots g d):=by
 have hlen:=hb.1
 have loop:=A.lp g (fun f (s:List Sp) i=>F.bH g d f s i) (fun k t s=>some (s++spotsF g d k t)) (fun k s=>s.length≤3*k)
  (fun f s hs=>by rw[F.bH,A.ba,if_neg (by simp),spotsF,List.append_nil])
  (fun f s k x hx hk hs ih=>by
   have hxg:=List.mem_of_getElem? hx
   have h2:=in2 ho hxg
   have h3:=outS_len x (iget d (k:Int))
   rw[F.bH,A.ba,if_pos (by simp only[decide_eq_true_eq];omega),A.ixn hx,Option.bind_some,spots_l2R g d _ k x s (by omega) hd hx h2 (hfed x hxg) (by omega) (by omega),ih _ (by rw[List.length_append,List.length_append,insS_len];omega),spotsF]
   simp only[List.append_assoc])
  (by have:=FU_big;omega) [] (by simp)
 unfold F.cR
 rw[loop];rfl
abbrev Ed:=Pl×Pl×Sm
theorem five {P:Int→Prop}(h0:P 0)(h1:P 1)(h2:P 2)(h3:P 3)(h4:P 4)(d:Int)(hd:0≤d∧d≤4):P d:=by
 have:d=0∨d=1∨d=2∨d=3∨d=4:=by omega
 rcases this with rfl|rfl|rfl|rfl|rfl<;>assumption
theorem Id_eqP (d:Int)(hd:0≤d∧d≤4):F.cl d=some (idP d):=five (P:=fun d=>F.cl d=some (idP d)) (by kernel_rfl) (by kernel_rfl) (by kernel_rfl) (by kernel_rfl) (by kernel_rfl) d hd
theorem Enter_eqP (d:Int)(hd:0≤d∧d≤4):F.bV d=some (enterP d):=five (P:=fun d=>F.bV d=some (enterP d)) (by kernel_rfl) (by kernel_rfl) (by kernel_rfl) (by kernel_rfl) (by kernel_rfl) d hd
theorem Leave_eqP (d:Int)(hd:0≤d∧d≤4):F.bW d=some (leaveP d):=five (P:=fun d=>F.bW d=some (leaveP d)) (by kernel_rfl) (by kernel_rfl) (by kernel_rfl) (by kernel_rfl) (by kernel_rfl) d hd
theorem Next_eqP (d:Int)(hd:0≤d∧d≤4):F.cc d=some (nextP d):=five (P:=fun d=>F.cc d=some (nextP d)) (by kernel_rfl) (by kernel_rfl) (by kernel_rfl) (by kernel_rfl) (by kernel_rfl) d hd
theorem Id_eqR (d:Int)(hd:0≤d∧d≤4):F.cS d=some (idP d):=five (P:=fun d=>F.cS d=some (idP d)) (by kernel_rfl) (by kernel_rfl) (by kernel_rfl) (by kernel_rfl) (by kernel_rfl) d hd
theorem Enter_eqR (d:Int)(hd:0≤d∧d≤4):F.cA d=some (enterP d):=five (P:=fun d=>F.cA d=some (enterP d)) (by kernel_rfl) (by kernel_rfl) (by kernel_rfl) (by kernel_rfl) (by kernel_rfl) d hd
theorem Leave_eqR (d:Int)(hd:0≤d∧d≤4):F.cz d=some (leaveP d):=five (P:=fun d=>F.cz d=some (leaveP d)) (by kernel_rfl) (by kernel_rfl) (by kernel_rfl) (by kernel_rfl) (by kernel_rfl) d hd
theorem Next_eqR (d:Int)(hd:0≤d∧d≤4):F.cL d=some (nextP d):=five (P:=fun d=>F.cL d=some (nextP d)) (by kernel_rfl) (by kernel_rfl) (by kernel_rfl) (by kernel_rfl) (by kernel_rfl) d hd
theorem within_eqP (n:Nd)(d:Int)(hd:0≤d∧d≤4):F.bb n d=some (withinP n d):=by
 unfold F.bb withinP
 simp only[Id_eqP d hd,Enter_eqP d hd,Leave_eqP d hd,Next_eqP d hd,Option.bind_some,F.aA]
 repeat' split
 all_goals rfl
theorem within_eqR (n:Nd)(d:Int)(hd:0≤d∧d≤4):F.b4 n d=some (withinP n d):=by
 unfold F.b4 withinP
 simp only[Id_eqR d hd,Enter_eqR d hd,Leave_eqR d hd,Next_eqR d hd,Option.bind_some,F.bq]
 repeat' split
 all_goals rfl
def useN (id nd:Int):Nat→List Int→List Pl
 |_,[]=>[]
 |k,z::r=>if z=id then(nd,(k:Int))::useN id nd (k+1) r else useN id nd (k+1) r
def usesF (id:Int):List Nd→List Pl
 | []=>[]
 |n::r=>useN id n.1 0 n.2.2.1++usesF id r
theorem useN_len (id nd:Int): ∀(k:Nat) (l:List Int),(useN id nd k l).length≤l.length
 |_,[]=>Nat.le_refl 0
 |k,z::r=>by
  unfold useN
  have:=useN_len id nd (k+1) r
  split<;>simp only[List.length_cons]<;>omega
theorem usesF_len (id:Int): ∀(l:List Nd),(∀n∈l,n.2.2.1.length≤2)→(usesF id l).length≤2*l.length
 | [],_=>Nat.le_refl 0
 |n::r,h=>by
  unfold usesF
  have h1:=usesF_len id r fun x hx=>h x (List.mem_cons_of_mem _ hx)
  have h2:=useN_len id n.1 0 n.2.2.1
  have h3:=h n (List.mem_cons_self ..)
  rw[List.length_append,List.length_cons];omega
theorem Values_eq (g:List Nd)(hg:g.length≤100):F.u g=some g:=
 A.lp0 g (fun f y=>F.f g f y) (fun _ l=>some l)
  (fun f=>by rw[F.f,if_neg (by omega)])
  (fun f k x hx hk ih=>by rw[F.f,if_pos (by omega),A.ixn hx,Option.bind_some,A.gd1 (A.r64n (by omega)),ih];rfl)
  (by have:=FU_big;omega)
theorem users_l2 (id:Int)(n:Nd)(k4:List Pl→Option (List Pl))(xs:List Pl)(hl:n.2.2.1.length≤2)(hxs:xs.length≤1000):F.ab k4 id n A.FU xs 0=k4 (xs++useN id n.1 0 n.2.2.1):=
 A.lp n.2.2.1 (fun f (s:List Pl) i=>F.ab k4 id n f s i) (fun k t s=>k4 (s++useN id n.1 k t)) (fun k s=>s.length≤1000+k)
  (fun f s hs=>by rw[F.ab,if_neg (by omega),useN,List.append_nil])
  (fun f s k z hz hk hs ih=>by
   rw[F.ab,if_pos (by omega),A.ixn hz,Option.bind_some,useN]
   simp only[F.ba,A.gd1 (A.r64n (n:=k) (by omega))]
   by_cases h:z=id
   ·rw[if_pos h,if_pos h,A.gd1 (by simp only[List.length_cons,List.length_nil];omega),ih _ (by simp only[List.length_append,List.length_cons,List.length_nil];omega)]
    simp only[List.append_assoc,List.singleton_append,List.cons_append,List.nil_append]
   ·rw[if_neg h,if_neg h,ih _ (by omega)])
  (by have:=FU_big;omega) xs (by omega)
theorem users_l3 (id:Int): ∀(l:List Nd) (xs:List Pl),(∀n∈l,n.2.2.1.length≤2)→xs.length+2*l.length≤900→F.ac id l xs=some (xs++usesF id l)
 | [],xs,_,_=>by rw[F.ac,usesF,List.append_nil]
 |n::r,xs,h,hx=>by
  have h3:=h n (List.mem_cons_self ..)
  have h2:=useN_len id n.1 0 n.2.2.1
  rw[List.length_cons]at hx
  rw[F.ac,users_l2 id n _ xs h3 (by omega),users_l3 id r _ (fun x hx=>h x (List.mem_cons_of_mem _ hx)) (by rw[List.length_append];omega),usesF,List.append_assoc]
theorem users_eq (g:List Nd)(id:Int)(hb:Few g)(h2: ∀n∈g,n.2.2.1.length≤2):F.bK g id=some (usesF id g):=by
 have:=hb.1
 unfold F.bK F.z
 rw[Option.bind_some,Values_eq g (by omega),Option.bind_some,users_l3 id g [] h2 (by simp;omega)];rfl
def inE (g:List Nd)(d:List Int)(n:Nd):Nat→List Int→List Ed
 |_,[]=>[]
 |k,z::r=>((n.1,(k:Int)),(n.1,2),withinP n (iget d (idx g z)))::inE g d n (k+1) r
def outE (g:List Nd)(n:Nd)(v:Int):List Ed:=(usesF n.1 g).map fun u=>((n.1,2),u,(idP v).1)
def edgesF (g:List Nd)(d:List Int):Nat→List Nd→List Ed
 |_,[]=>[]
 |i,n::r=>if n.2.1=15 then edgesF g d (i+1) r else inE g d n 0 n.2.2.1++(outE g n (iget d (i:Int))++edgesF g d (i+1) r)
def edges (g:List Nd)(d:List Int):List Ed:=edgesF g d 0 g
theorem inE_len (g:List Nd)(d:List Int)(n:Nd): ∀(k:Nat) (l:List Int),(inE g d n k l).length=l.length
 |_,[]=>rfl
 |k,x::r=>by unfold inE;rw[List.length_cons,List.length_cons,inE_len g d n (k+1) r]
theorem edges_l2P (k30:List Ed→Int→Option (List Ed))(y:Nat)(n:Nd)(s:Sm)(us:List Pl)(xs:List Ed)(hy:y≤100)(hu:us.length≤1000)(hxs:xs.length≤10000):
  F.s k30 (y:Int) n s.1 s.2.1 s.2.2.1 s.2.2.2.1 s.2.2.2.2.1 s.2.2.2.2.2.1 s.2.2.2.2.2.2.1 s.2.2.2.2.2.2.2 us A.FU xs 0=k30 (xs++us.map fun u=>((n.1,2),u,s)) ((y:Int)+1):=
 A.lp us (fun f (t:List Ed) i=>F.s k30 (y:Int) n s.1 s.2.1 s.2.2.1 s.2.2.2.1 s.2.2.2.2.1 s.2.2.2.2.2.1 s.2.2.2.2.2.2.1 s.2.2.2.2.2.2.2 us f t i) (fun k t e=>k30 (e++t.map fun u=>((n.1,2),u,s)) ((y:Int)+1)) (fun k t=>t.length≤10000+k)
  (fun f t ht=>by rw[F.s,if_neg (by omega),F.ak,A.gd1 (A.r64n (by omega)),List.map_nil,List.append_nil])
  (fun f t k z hz hk ht ih=>by
   rw[F.s,if_pos (by omega),A.ixn hz,Option.bind_some,A.gd1 (by simp only[List.length_cons,List.length_nil];omega),A.gd1 (A.r64n (by omega)),ih _ (by simp only[List.length_append,List.length_cons,List.length_nil];omega)]
   simp only[List.append_assoc,List.singleton_append,List.cons_append,List.nil_append,List.map_cons])
  (by have:=FU_big;omega) xs (by omega)
theorem edges_l4P (g:List Nd)(d:List Int)(a0:(List (Int×Nd))×(List Int)×(List (Int×Int)))(k30:List Ed→Int→Option (List Ed))(y:Nat)(n:Nd)(xs:List Ed)(hb:Few g)(ho:Own g)(hib:InB d)(hr:RelD g d a0.2.2)(hn:g[y]?=some n)(hf: ∀k∈n.2.2.1,0≤idx g k)(hxs:xs.length≤9000):
  F.v k30 a0 g (y:Int) n A.FU xs 0=k30 (xs++(inE g d n 0 n.2.2.1++outE g n (iget d (y:Int)))) ((y:Int)+1):=
 A.lp n.2.2.1 (fun f (t:List Ed) i=>F.v k30 a0 g (y:Int) n f t i) (fun k t e=>k30 (e++(inE g d n k t++outE g n (iget d (y:Int)))) ((y:Int)+1)) (fun k t=>t.length≤9000+k)
  (fun f t ht=>by
   have hlen:=hb.1
   have hyl:=(List.getElem?_eq_some_iff.1 hn).1
   have h2:=in2 ho (List.mem_of_getElem? hn)
   have hu:=usesF_len n.1 g fun x hx=>in2 ho hx
   rw[F.v,if_neg (by omega),A.lt,hr y n hn,Id_eqP _ (hib _),Option.bind_some,F.a3,users_eq g n.1 hb (fun x hx=>in2 ho hx),Option.bind_some,
    show F.s k30 (y:Int) n _ _ _ _ _ _ _ _ (usesF n.1 g) A.FU t 0=_ from edges_l2P k30 y n (idP (iget d (y:Int))).1 (usesF n.1 g) t (by omega) (by omega) (by omega),inE,List.nil_append]
   rfl)
  (fun f t k z hz hk ht ih=>by
   have h1:=hf z (List.mem_of_getElem? hz)
   have h2:=in2 ho (List.mem_of_getElem? hn)
   rw[F.v,if_pos (by omega),A.ixn hz,Option.bind_some,A.lt,hr.in h1,show F.bb n _=_ from within_eqP n _ (hib _),Option.bind_some,A.gd1 (by simp only[List.length_cons,List.length_nil];omega),A.gd1 (A.r64n (by omega)),ih _ (by simp only[List.length_append,List.length_cons,List.length_nil];omega),inE]
   simp only[List.append_assoc,List.singleton_append,List.cons_append,List.nil_append])
  (by have:=FU_big;have:=in2 ho (List.mem_of_getElem? hn);omega) xs (by omega)
theorem edgesP_eq (g:List Nd)(d:List Int)(a0:(List (Int×Nd))×(List Int)×(List (Int×Int)))(hb:Few g)(hfed:Fed g)(ho:Own g)(hib:InB d)(hr:RelD g d a0.2.2):F.ap a0 g=some (edges g d):=by
 have hlen:=hb.1
 have loop:=A.lp g (fun f (s:List Ed) i=>F.l a0 g f s i) (fun k t s=>some (s++edgesF g d k t)) (fun k s=>s.length≤83*k)
  (fun f s hs=>by rw[F.l,if_neg (by omega),edgesF,List.append_nil])
  (fun f s k x hx hk hs ih=>by
   have hxg:=List.mem_of_getElem? hx
   have h2:=in2 ho hxg
   have hu:=usesF_len x.1 g fun x hx=>in2 ho hx
   rw[F.l,if_pos (by omega),A.ixn hx,Option.bind_some,edgesF]
   by_cases h:x.2.1=15
   ·rw[if_pos h,if_pos h,F.ak,A.gd1 (A.r64n (by omega)),ih _ (by omega)]
   ·rw[if_neg h,if_neg h,edges_l4P g d a0 _ k x s hb ho hib hr hx (hfed x hxg) (by omega),ih _ (by rw[List.length_append,List.length_append,inE_len,outE,List.length_map];omega)]
    simp only[List.append_assoc])
  (by have:=FU_big;omega) [] (by simp)
 unfold F.ap
 rw[loop];rfl
theorem Find_eq (g:List Nd)(hb:Few g){j:Nat}{n:Nd}(hi:Inc g)(hn:g[j]?=some n):F.cs g n.1=some (n,true):=by
 have:=hb.1
 have hin:=hb.in hn
 unfold F.cs
 rw[index_eq g _ (by omega),Option.bind_some,hi.idx hn,if_neg (by omega),A.ixn hn,Option.bind_some,A.gd1 (by simp only[List.length_nil];omega)]
 rfl
theorem edges_l4R (g:List Nd)(k37:List Ed→Int→Option (List Ed))(sp:Sp)(r18:Nd×Bool)(r59:Sm×Int)(j:Nat)(m:Nd)(xs:List Ed)(hg:g.length≤100)(hm:g[j]?=some m)(hl:m.2.2.1.length≤2)(hxs:xs.length≤20000):
  F.a1 k37 g sp r18 r59 (j:Int) A.FU xs 0=k37 (xs++(useN r18.1.1 m.1 0 m.2.2.1).map fun u=>(sp.1,u,r59.1)) ((j:Int)+1):=
 A.lp m.2.2.1 (fun f (t:List Ed) i=>F.a1 k37 g sp r18 r59 (j:Int) f t i) (fun k t e=>k37 (e++(useN r18.1.1 m.1 k t).map fun u=>(sp.1,u,r59.1)) ((j:Int)+1)) (fun k t=>t.length≤20000+k)
  (fun f t ht=>by
   have hjl:=(List.getElem?_eq_some_iff.1 hm).1
   rw[F.a1,A.ixn hm,Option.bind_some,if_neg (by omega),A.gd1 (A.r64n (by omega)),useN,List.map_nil,List.append_nil])
  (fun f t k z hz hk ht ih=>by
   rw[F.a1,A.ixn hm,Option.bind_some,if_pos (by omega),Option.bind_some,A.ixn hz,Option.bind_some,useN]
   simp only[F.cv,A.gd1 (A.r64n (n:=k) (by omega)),Option.bind_some]
   by_cases h:z=r18.1.1
   ·rw[if_pos h,if_pos h,A.gd1 (by simp only[List.length_cons,List.length_nil];omega),ih _ (by simp only[List.length_append,List.length_cons,List.length_nil];omega)]
    simp only[List.append_assoc,List.singleton_append,List.cons_append,List.nil_append,List.map_cons]
   ·rw[if_neg h,if_neg h,ih _ (by omega)])
  (by have:=FU_big;omega) xs (by omega)
theorem edges_l5R (g:List Nd)(k30:List Ed→Int→Option (List Ed))(y:Nat)(sp:Sp)(r18:Nd×Bool)(r59:Sm×Int)(xs:List Ed)(hb:Few g)(ho:Own g)(hxs:xs.length≤15000)(hy:y≤1000):
  F.bj k30 g (y:Int) sp r18 r59 A.FU xs 0=k30 (xs++(usesF r18.1.1 g).map fun u=>(sp.1,u,r59.1)) ((y:Int)+1):=
 A.lp g (fun f (t:List Ed) i=>F.bj k30 g (y:Int) sp r18 r59 f t i) (fun k t e=>k30 (e++(usesF r18.1.1 t).map fun u=>(sp.1,u,r59.1)) ((y:Int)+1)) (fun k t=>t.length≤15000+2*k)
  (fun f t ht=>by rw[F.bj,if_neg (by omega),F.b5,A.gd1 (A.r64n (by omega)),usesF,List.map_nil,List.append_nil])
  (fun f t k m hm hk ht ih=>by
   have hlen:=hb.1
   have h2:=in2 ho (List.mem_of_getElem? hm)
   have h3:=useN_len r18.1.1 m.1 0 m.2.2.1
   rw[F.bj,if_pos (by omega),edges_l4R g _ sp r18 r59 k m t (by omega) hm h2 (by omega),ih _ (by rw[List.length_append,List.length_map];omega),usesF,List.map_append,List.append_assoc])
  (by have:=FU_big;have:=hb.1;omega) xs (by omega)
def edOf (g:List Nd)(sp:Sp):List Ed:=if sp.1.2≠2 then(if(find g sp.1.1).1.2.1≠15 then [(sp.1,((find g sp.1.1).1.1,2),withinP (find g sp.1.1).1 sp.2)]else [])else(usesF (find g sp.1.1).1.1 g).map fun u=>(sp.1,u,(idP sp.2).1)
def edS (g:List Nd):List Sp→List Ed
 | []=>[]
 |sp::r=>edOf g sp++edS g r
def SpOk (g:List Nd)(sp:Sp):Prop:=(∃(j:Nat) (n:Nd),g[j]?=some n∧n.1=sp.1.1)∧0≤sp.2∧sp.2≤4
theorem find_eq {g:List Nd}(hi:Inc g){j:Nat}{n:Nd}(hn:g[j]?=some n):find g n.1=(n,true):=by
 unfold find
 rw[hi.idx hn,if_neg (by omega),at_some rfl hn]
theorem edgesR_l6 (g:List Nd)(l:List Sp)(hb:Few g)(hi:Inc g)(ho:Own g)(hl:l.length≤130)(hs: ∀sp∈l,SpOk g sp):F.cB g l=some (edS g l):=by
 have hlen:=hb.1
 have loop:=A.lp l (fun f (s:List Ed) i=>F.a2 g l f s i) (fun k t s=>some (s++edS g t)) (fun k s=>s.length≤83*k)
  (fun f s hs=>by rw[F.a2,if_neg (by omega),edS,List.append_nil])
  (fun f s k x hx hk hp ih=>by
   obtain⟨⟨j,n,hn,hid⟩,hd⟩:=hs x (List.mem_of_getElem? hx)
   have hu:=usesF_len n.1 g fun x hx=>in2 ho hx
   rw[F.a2,if_pos (by omega),A.ixn hx,Option.bind_some,←hid,Find_eq g hb hi hn,Option.bind_some,edS,edOf,←hid,find_eq hi hn]
   simp only[F.cu,F.b5,A.gd1 (A.r64n (n:=k) (by omega)),Option.bind_some]
   by_cases h2:x.1.2≠2
   ·rw[if_pos h2,if_pos h2]
    by_cases h15:n.2.1≠15
    ·rw[if_pos h15,if_pos h15,show F.b4 n x.2=_ from within_eqR n x.2 hd,Option.bind_some,A.gd1 (by simp only[List.length_cons,List.length_nil];omega),ih _ (by simp only[List.length_append,List.length_cons,List.length_nil];omega),hid]
     simp only[List.append_assoc]
    ·rw[if_neg h15,if_neg h15,ih _ (by omega),List.nil_append]
   ·rw[if_neg h2,if_neg h2,Id_eqR x.2 hd,Option.bind_some,edges_l5R g _ k x (n,true) (idP x.2) s hb ho (by omega) (by omega),ih _ (by rw[List.length_append,List.length_map];show s.length+(usesF n.1 g).length≤_;omega),List.append_assoc])
  (by have:=FU_big;omega) [] (by simp)
 unfold F.cB
 rw[loop];rfl
theorem edS_app (g:List Nd): ∀(a b:List Sp),edS g (a++b)=edS g a++edS g b
 | [],_=>rfl
 |x::a,b=>by rw[List.cons_append,edS,edS,edS_app g a b,List.append_assoc]
theorem edS_ins {g:List Nd}(hi:Inc g)(d:List Int){j:Nat}{n:Nd}(hn:g[j]?=some n): ∀(k:Nat) (l:List Int),k+l.length≤2→edS g (insS g d n.1 k l)=if n.2.1=15 then []else inE g d n k l
 |k,[],_=>by unfold insS inE edS;split<;>rfl
 |k,z::r,h=>by
  rw[List.length_cons]at h
  have h2:((k:Int):Int)≠2:=by omega
  unfold insS inE
  rw[edS,edS_ins hi d hn (k+1) r (by omega),edOf]
  simp only[find_eq hi hn]
  rw[if_pos h2]
  by_cases h15:n.2.1=15
  ·simp[h15]
  ·rw[if_neg h15,if_neg h15,if_pos h15];rfl
theorem edS_spots {g:List Nd}(hi:Inc g)(ho:Own g)(d:List Int): ∀(m k:Nat),k+m=g.length→edS g (spotsF g d k (g.drop k))=edgesF g d k (g.drop k)
 |0,k,h=>by rw[List.drop_eq_nil_of_le (by omega)];rfl
 |m+1,k,h=>by
  have hx:g[k]?=some g[k]:=List.getElem?_eq_getElem (by omega)
  generalize g[k]=x at hx
  have h2:=in2 ho (List.mem_of_getElem? hx)
  rw[A.dropx hx,spotsF,edgesF,edS_app,edS_app,edS_spots hi ho d m (k+1) (by omega),edS_ins hi d hx 0 _ (by omega)]
  by_cases h15:x.2.1=15
  ·rw[if_pos h15,if_pos h15,outS,if_neg (fun h=>h h15),edS];rfl
  ·rw[if_neg h15,if_neg h15,outS,if_pos h15,edS,edOf]
   simp only[find_eq hi hx]
   rw[if_neg (fun h=>h rfl),edS,List.append_nil];rfl
theorem o_ay {g:List Nd}{d:List Int}(hib:InB d){j:Nat}{n:Nd}(hn:g[j]?=some n): ∀(k:Nat) (l:List Int),∀sp∈insS g d n.1 k l,SpOk g sp
 |_,[],sp,h=>by cases h
 |k,z::r,sp,h=>by
  unfold insS at h
  rcases List.mem_cons.1 h with rfl|h
  ·exact⟨⟨j,n,hn,rfl⟩,hib _⟩
  ·exact o_ay hib hn (k+1) r sp h
theorem o_af {g:List Nd}{d:List Int}(hib:InB d): ∀(m k:Nat),k+m=g.length→∀sp∈spotsF g d k (g.drop k),SpOk g sp
 |0,k,h,sp,hs=>by rw[List.drop_eq_nil_of_le (by omega)]at hs;cases hs
 |m+1,k,h,sp,hs=>by
  have hx:g[k]?=some g[k]:=List.getElem?_eq_getElem (by omega)
  generalize g[k]=x at hx
  rw[A.dropx hx,spotsF]at hs
  rcases List.mem_append.1 hs with hs|hs
  ·exact o_ay hib hx 0 _ sp hs
  ·rcases List.mem_append.1 hs with hs|hs
   ·unfold outS at hs
    split at hs
    ·rw[List.mem_singleton]at hs;subst hs;exact⟨⟨k,x,hx,rfl⟩,hib _⟩
    ·cases hs
   ·exact o_af hib m (k+1) (by omega) sp hs
theorem spots_len {g:List Nd}(ho:Own g)(d:List Int): ∀(m k:Nat),k+m=g.length→(spotsF g d k (g.drop k)).length≤3*m
 |0,k,h=>by rw[List.drop_eq_nil_of_le (by omega)];exact Nat.le_refl 0
 |m+1,k,h=>by
  have hx:g[k]?=some g[k]:=List.getElem?_eq_getElem (by omega)
  generalize g[k]=x at hx
  have h2:=in2 ho (List.mem_of_getElem? hx)
  have h3:=outS_len x (iget d (k:Int))
  have h4:=spots_len ho d m (k+1) (by omega)
  rw[A.dropx hx,spotsF,List.length_append,List.length_append,insS_len];omega
theorem edgesR_eq (g:List Nd)(d:List Int)(hb:Few g)(hi:Inc g)(ho:Own g)(hib:InB d):F.cB g (spots g d)=some (edges g d):=by
 have h1:=spots_len ho d g.length 0 (by omega)
 have h2:=o_af (d:=d) (g:=g) hib g.length 0 (by omega)
 have h3:=edS_spots hi ho d g.length 0 (by omega)
 rw[List.drop_zero]at h1 h2 h3
 have:=hb.1
 rw[edgesR_l6 g (spots g d) hb hi ho (by unfold spots;omega) h2]
 exact congrArg some h3
inductive Rch {α:Type} (R:α→α→Prop) (a:α):α→Prop
 |one {b:α} (h:R a b):Rch R a b
 |step {b c:α} (h:Rch R a b) (h2:R b c):Rch R a c
theorem insS_at (g:List Nd)(d:List Int)(id:Int): ∀(k:Nat) (l:List Int) (p:Pl) (v:Int),(p,v)∈insS g d id k l→p.1=id∧(k:Int)≤p.2∧p.2<(k:Int)+l.length
 |_,[],_,_,h=>by cases h
 |k,z::r,p,v,h=>by
  unfold insS at h
  rw[List.length_cons]
  rcases List.mem_cons.1 h with h|h
  ·injection h with h1 h2;subst h1;refine⟨rfl,Int.le_refl _,?_⟩;simp only[];omega
  ·have:=insS_at g d id (k+1) r p v h;omega
theorem insS_nodup (g:List Nd)(d:List Int)(id:Int): ∀(k:Nat) (l:List Int),((insS g d id k l).map (·.1)).Nodup
 |_,[]=>List.nodup_nil
 |k,z::r=>by
  unfold insS
  rw[List.map_cons,List.nodup_cons]
  refine⟨fun h=>?_,insS_nodup g d id (k+1) r⟩
  obtain⟨⟨p,v⟩,h1,h2⟩:=List.mem_map.1 h
  have:=insS_at g d id (k+1) r p v h1
  simp only[]at h2
  rw[h2]at this;simp only[]at this;omega
theorem spotsF_ids {g:List Nd}(d:List Int): ∀(k:Nat) (l:List Nd) (sp:Sp),sp∈spotsF g d k l→∃n∈l,n.1=sp.1.1
 |_,[],_,h=>by cases h
 |k,n::r,sp,h=>by
  unfold spotsF at h
  rcases List.mem_append.1 h with h|h
  ·exact⟨n,List.mem_cons_self ..,(insS_at g d n.1 0 _ sp.1 sp.2 h).1.symm⟩
  ·rcases List.mem_append.1 h with h|h
   ·unfold outS at h
    split at h
    ·rw[List.mem_singleton]at h;subst h;exact⟨n,List.mem_cons_self ..,rfl⟩
    ·cases h
   ·obtain⟨m,h1,h2⟩:=spotsF_ids d (k+1) r sp h
    exact⟨m,List.mem_cons_of_mem _ h1,h2⟩
theorem spotsF_nodup {g:List Nd}(d:List Int): ∀(k:Nat) (l:List Nd),l.Pairwise (fun a b=>a.1<b.1)→(∀n∈l,n.2.2.1.length≤2)→((spotsF g d k l).map (·.1)).Nodup
 |_,[],_,_=>List.nodup_nil
 |k,n::r,hp,hl=>by
  rw[List.pairwise_cons]at hp
  have h2:=hl n (List.mem_cons_self ..)
  unfold spotsF
  rw[List.map_append,List.nodup_append,List.map_append,List.nodup_append]
  have hrest: ∀p∈(spotsF g d (k+1) r).map (·.1),p.1≠n.1:=fun p hp2 e=>by
   obtain⟨sp,h1,rfl⟩:=List.mem_map.1 hp2
   obtain⟨m,h3,h4⟩:=spotsF_ids d (k+1) r sp h1
   have:=hp.1 m h3;omega
  have hout: ∀p∈(outS n (iget d (k:Int))).map (·.1),p=(n.1,2):=fun p hp2=>by
   unfold outS at hp2
   split at hp2
   ·simpa using hp2
   ·cases hp2
  have hin: ∀p∈(insS g d n.1 0 n.2.2.1).map (·.1),p.1=n.1∧p.2<2:=fun p hp2=>by
   obtain⟨⟨q,v⟩,h1,rfl⟩:=List.mem_map.1 hp2
   have:=insS_at g d n.1 0 _ q v h1
   simp only[];omega
  refine⟨insS_nodup g d n.1 0 _,⟨?_,spotsF_nodup d (k+1) r hp.2 (fun x hx=>hl x (List.mem_cons_of_mem _ hx)),?_⟩,?_⟩
  ·unfold outS;split<;>simp
  ·intro a ha b hb e
   have h3:=hout a ha
   subst e
   exact hrest a hb (by rw[h3])
  ·intro a ha b hb e
   subst e
   have h3:=hin a ha
   rcases List.mem_append.1 hb with hb|hb
   ·have:=hout a hb;rw[this]at h3;simp only[]at h3;omega
   ·exact hrest a hb h3.1
theorem useN_mem (id nd:Int): ∀(k:Nat) (l:List Int) (u:Pl),u∈useN id nd k l→u.1=nd∧∃j:Nat,u.2=(k:Int)+j∧j<l.length
 |_,[],u,h=>by cases h
 |k,z::r,u,h=>by
  unfold useN at h
  have hrec:u∈useN id nd (k+1) r→u.1=nd∧∃j:Nat,u.2=(k:Int)+j∧j<(z::r).length:=fun h=>by
   obtain⟨h1,j,h2,h3⟩:=useN_mem id nd (k+1) r u h
   exact⟨h1,j+1,by omega,by rw[List.length_cons];omega⟩
  split at h
  ·rcases List.mem_cons.1 h with rfl|h
   ·exact⟨rfl,0,by simp,by rw[List.length_cons];omega⟩
   ·exact hrec h
  ·exact hrec h
theorem insS_get (g:List Nd)(d:List Int)(id:Int): ∀(k:Nat) (l:List Int) (j:Nat),j<l.length→∃v,((id,(k:Int)+j),v)∈insS g d id k l
 |_,[],j,h=>by simp at h
 |k,z::r,j,h=>by
  unfold insS
  cases j with
  |zero=>exact⟨iget d (idx g z),by simp⟩
  |succ j=>
   rw[List.length_cons]at h
   obtain⟨v,hv⟩:=insS_get g d id (k+1) r j (by omega)
   refine⟨v,List.mem_cons_of_mem _ ?_⟩
   have e:(k:Int)+((j+1:Nat):Int)=((k+1:Nat):Int)+(j:Int):=by omega
   rw[e];exact hv
theorem spotsF_ins {g:List Nd}(d:List Int): ∀(k:Nat) (l:List Nd) (n:Nd),n∈l→∀sp∈insS g d n.1 0 n.2.2.1,sp∈spotsF g d k l
 |_,[],_,h,_,_=>by cases h
 |k,m::r,n,h,sp,hs=>by
  unfold spotsF
  rcases List.mem_cons.1 h with rfl|h
  ·exact List.mem_append_left _ hs
  ·exact List.mem_append_right _ (List.mem_append_right _ (spotsF_ins d (k+1) r n h sp hs))
theorem spotsF_out {g:List Nd}(d:List Int): ∀(k:Nat) (l:List Nd) (n:Nd),n∈l→n.2.1≠15→∃v,((n.1,2),v)∈spotsF g d k l
 |_,[],_,h,_=>by cases h
 |k,m::r,n,h,h15=>by
  unfold spotsF
  rcases List.mem_cons.1 h with rfl|h
  ·exact⟨iget d (k:Int),List.mem_append_right _ (List.mem_append_left _ (by unfold outS;rw[if_pos h15];simp))⟩
  ·obtain⟨v,hv⟩:=spotsF_out d (k+1) r n h h15
   exact⟨v,List.mem_append_right _ (List.mem_append_right _ hv)⟩
theorem usesF_mem (id:Int): ∀(l:List Nd) (u:Pl),u∈usesF id l→∃n∈l,u.1=n.1∧∃j:Nat,u.2=(j:Int)∧j<n.2.2.1.length
 | [],u,h=>by cases h
 |n::r,u,h=>by
  unfold usesF at h
  rcases List.mem_append.1 h with h|h
  ·obtain⟨h1,j,h2,h3⟩:=useN_mem id n.1 0 _ u h
   exact⟨n,List.mem_cons_self ..,h1,j,by omega,h3⟩
  ·obtain⟨m,h1,h2⟩:=usesF_mem id r u h
   exact⟨m,List.mem_cons_of_mem _ h1,h2⟩
theorem inE_mem (g:List Nd)(d:List Int)(n:Nd): ∀(k:Nat) (l:List Int) (e:Ed),e∈inE g d n k l→e.1.1=n.1∧(k:Int)≤e.1.2∧e.1.2<(k:Int)+l.length∧e.2.1=(n.1,2)
 |_,[],_,h=>by cases h
 |k,z::r,e,h=>by
  unfold inE at h
  rw[List.length_cons]
  rcases List.mem_cons.1 h with rfl|h
  ·refine⟨rfl,Int.le_refl _,?_,rfl⟩;simp only[];omega
  ·have:=inE_mem g d n (k+1) r e h
   refine⟨this.1,by omega,by omega,this.2.2.2⟩
theorem edgesF_mem {g:List Nd}(d:List Int): ∀(k:Nat) (l:List Nd) (e:Ed),e∈edgesF g d k l→∃n∈l,e.1.1=n.1∧((n.2.1≠15∧e.2.1=(n.1,2)∧0≤e.1.2∧e.1.2<n.2.2.1.length)∨(e.1.2=2∧∃m∈g,e.2.1.1=m.1∧∃j:Nat,e.2.1.2=(j:Int)∧j<m.2.2.1.length))
 |_,[],_,h=>by cases h
 |k,n::r,e,h=>by
  unfold edgesF at h
  have hrec:e∈edgesF g d (k+1) r→∃m∈n::r,e.1.1=m.1∧((m.2.1≠15∧e.2.1=(m.1,2)∧0≤e.1.2∧e.1.2<m.2.2.1.length)∨(e.1.2=2∧∃q∈g,e.2.1.1=q.1∧∃j:Nat,e.2.1.2=(j:Int)∧j<q.2.2.1.length)):=fun h=>by
   obtain⟨m,h1,h2⟩:=edgesF_mem d (k+1) r e h
   exact⟨m,List.mem_cons_of_mem _ h1,h2⟩
  split at h
  ·exact hrec h
  ·rename_i h15
   rcases List.mem_append.1 h with h|h
   ·obtain⟨h1,h2,h3,h4⟩:=inE_mem g d n 0 _ e h
    exact⟨n,List.mem_cons_self ..,h1,.inl ⟨h15,h4,by omega,by omega⟩⟩
   ·rcases List.mem_append.1 h with h|h
    ·unfold outE at h
     obtain⟨u,hu,rfl⟩:=List.mem_map.1 h
     obtain⟨m,h1,h2⟩:=usesF_mem n.1 g u hu
     exact⟨n,List.mem_cons_self ..,rfl,.inr ⟨rfl,m,h1,h2⟩⟩
    ·exact hrec h
theorem edge_to {g:List Nd}(d:List Int){e:Ed}(he:e∈edges g d): ∃v,(e.2.1,v)∈spots g d:=by
 obtain⟨n,hn,h1,h|h⟩:=edgesF_mem d 0 g e he
 ·obtain⟨v,hv⟩:=spotsF_out d 0 g n hn h.1
  exact⟨v,by rw[h.2.1];exact hv⟩
 ·obtain⟨_,m,hm,h2,j,h3,h4⟩:=h
  obtain⟨v,hv⟩:=insS_get g d m.1 0 m.2.2.1 j h4
  refine⟨v,spotsF_ins d 0 g m hm _ ?_⟩
  have e1:e.2.1=(m.1,((0:Nat):Int)+(j:Int)):=Prod.ext h2 (by rw[h3];simp)
  rw[e1];exact hv
theorem edge_from {g:List Nd}(d:List Int){e:Ed}(he:e∈edges g d): ∃n∈g,e.1.1=n.1:=by
 obtain⟨n,hn,h1,_⟩:=edgesF_mem d 0 g e he
 exact⟨n,hn,h1⟩
theorem edge_out {g:List Nd}(d:List Int)(ho:Own g){e:Ed}(he:e∈edges g d)(h2:e.2.1.2=2):e.1.1=e.2.1.1∧e.1.2≠2:=by
 obtain⟨n,hn,h1,h|h⟩:=edgesF_mem d 0 g e he
 ·have:=in2 ho hn
  exact⟨by rw[h1,h.2.1],by omega⟩
 ·obtain⟨_,m,hm,_,j,h3,h4⟩:=h
  have:=in2 ho hm
  omega
theorem atS_mem {p:Pl}: ∀{l:List Sp} {v:Int},(l.map (·.1)).Nodup→(p,v)∈l→atS p l=v
 | [],_,_,h=>by cases h
 |x::r,v,hn,h=>by
  rw[List.map_cons,List.nodup_cons]at hn
  unfold atS
  rcases List.mem_cons.1 h with rfl|h
  ·rw[if_pos rfl]
  ·rw[if_neg (fun e=>hn.1 (by rw[e];exact List.mem_map_of_mem (f:=(·.1)) h))]
   exact atS_mem hn.2 h
theorem R_at_eq (l:List Sp)(p:Pl)(hl:l.length≤100000):F.c1 l p=some (atS p l):=
 A.lp0 l (fun f y=>F.cg l p f y) (fun _ t=>some (atS p t))
  (fun f=>by rw[F.cg,if_neg (by omega)];rfl)
  (fun f k x hx hk ih=>by
   rw[F.cg,if_pos (by omega),A.ixn hx,Option.bind_some,Option.bind_some,atS]
   by_cases h:x.1=p
   ·rw[if_pos (show x.1=p from h),if_pos h]
   ·rw[if_neg (show ¬x.1=p from h),if_neg h,A.gd1 (A.r64n (by omega)),ih])
  (by have:=FU_big;omega)
theorem R_on_eq (l:List Pl)(p:Pl)(hl:l.length≤100000):F.cT l p=some (decide (p∈l)):=
 A.lp0 l (fun f y=>F.ch l p f y) (fun _ t=>some (decide (p∈t)))
  (fun f=>by rw[F.ch,if_neg (by omega)];simp)
  (fun f k x hx hk ih=>by
   rw[F.ch,if_pos (by omega),A.ixn hx,Option.bind_some]
   by_cases h:x=p
   ·rw[if_pos (show x=p from h)];simp[h]
   ·rw[if_neg (show ¬x=p from h),A.gd1 (A.r64n (by omega)),ih]
    congr 1
    exact decide_eq_decide.2 ⟨fun h2=>List.mem_cons_of_mem _ h2,fun h2=>(List.mem_cons.1 h2).resolve_left fun e=>h e.symm⟩)
  (by have:=FU_big;omega)
def openB (g:List Nd)(S:List Sp)(dd:Int)(e:Ed):Bool:=decide (dd≤atS e.2.1 S)&&(decide ((find g e.1.1).1.2.1≠14)||decide ((find g e.1.1).1.2.2.2.2.2.2≠dd)||decide (e.1.2=2))
theorem R_open_eq (g:List Nd)(S:List Sp)(e:Ed)(dd:Int)(hb:Few g)(hi:Inc g)(hS:S.length≤100000)(hf: ∃n∈g,e.1.1=n.1):F.cw g S e dd=some (openB g S dd e):=by
 obtain⟨n,hn,h1⟩:=hf
 obtain⟨j,hj⟩:=List.mem_iff_getElem?.1 hn
 unfold F.cw openB
 rw[h1,Find_eq g hb hi hj,Option.bind_some,show F.c1 S e.2.1=_ from R_at_eq S e.2.1 hS,Option.bind_some,find_eq hi hj]
 by_cases h:dd≤atS e.2.1 S
 ·rw[if_pos h,decide_eq_true h,Bool.true_and]
  congr 1
 ·rw[if_neg h,decide_eq_false h,Bool.false_and]
def addR (g:List Nd)(S:List Sp)(dd:Int)(cur:Pl):List Ed→List Pl→List Pl
 | [],r=>r
 |e::t,r=>addR g S dd cur t (if e.1=cur∧openB g S dd e=true∧e.2.1∉r then r++[e.2.1]else r)
theorem round_l3 (g:List Nd)(S:List Sp)(E:List Ed)(from_:Sp)(k3:List Pl→List Pl→Int→Option Bool)(y:Nat)(cur:Pl)(r:List Pl)(hb:Few g)(hi:Inc g)(hS:S.length≤100000)(hE:E.length≤5000)(hf: ∀e∈E,∃n∈g,e.1.1=n.1)(hc:(from_.1::r)[y]?=some cur)(hy:y≤10000)(hr:r.length≤9000)(hall: ∀k,(addR g S from_.2 cur (E.take k) r).length≤9000):
  F.aC k3 g S E from_ (y:Int) A.FU r (from_.1::r) 0=k3 (addR g S from_.2 cur E r) (from_.1::addR g S from_.2 cur E r) ((y:Int)+1):=
 A.lp E (fun f (s:List Pl×List Pl) i=>F.aC k3 g S E from_ (y:Int) f s.1 s.2 i) (fun k t s=>k3 (addR g S from_.2 cur t s.1) (from_.1::addR g S from_.2 cur t s.1) ((y:Int)+1)) (fun k s=>s.2=from_.1::s.1∧s.2[y]?=some cur∧s.1=addR g S from_.2 cur (E.take k) r)
  (fun f s hs=>by
   rw[F.aC,if_neg (by omega),A.gd1 (A.r64n (by omega)),hs.1];rfl)
  (fun f s k e he hk hs ih=>by
   obtain⟨q,r'⟩:=s
   obtain⟨h1,h2,h3⟩:=hs
   simp only[]at h1 h2 h3
   have hlen:q.length≤9000:=by rw[h3];exact hall _
   have hsnoc: ∀(t:List Ed) (e:Ed) (r:List Pl),addR g S from_.2 cur (t++[e]) r=(if e.1=cur∧openB g S from_.2 e=true∧e.2.1∉addR g S from_.2 cur t r then addR g S from_.2 cur t r++[e.2.1]else addR g S from_.2 cur t r):=by
    intro t
    induction t with
    |nil=>intro e r;rfl
    |cons x t iht=>intro e r;rw[List.cons_append,addR,addR];exact iht e _
   have hnext:addR g S from_.2 cur (E.take (k+1)) r=if e.1=cur∧openB g S from_.2 e=true∧e.2.1∉q then q++[e.2.1]else q:=by
    rw[take_s he,hsnoc,←h3]
   have hopen:=R_open_eq g S e from_.2 hb hi hS (hf e (List.mem_of_getElem? he))
   rw[F.aC,if_pos (by omega),A.ixn he,Option.bind_some,A.ixn h2,Option.bind_some,addR]
   simp only[F.bJ,F.cx,A.ixn he,Option.bind_some,A.gd1 (A.r64n (n:=k) (by omega)),Bool.false_eq_true,if_false]
   have stay: ¬(e.1=cur∧openB g S from_.2 e=true∧e.2.1∉q)→F.aC k3 g S E from_ (y:Int) f q r' ((k:Int)+1)=k3 (addR g S from_.2 cur (E.drop (k+1)) (if e.1=cur∧openB g S from_.2 e=true∧e.2.1∉q then q++[e.2.1]else q)) (from_.1::addR g S from_.2 cur (E.drop (k+1)) (if e.1=cur∧openB g S from_.2 e=true∧e.2.1∉q then q++[e.2.1]else q)) ((y:Int)+1):=fun hn=>by
    rw[if_neg hn]at hnext ⊢
    exact ih (q,r') ⟨h1,h2,hnext.symm⟩
   by_cases hcur:e.1=cur
   ·rw[if_pos (show e.1=cur from hcur),show F.cw g S (e.1,e.2.1,(e.2.2.1,e.2.2.2.1,e.2.2.2.2.1,e.2.2.2.2.2.1,(e.2.2.2.2.2.2.1,e.2.2.2.2.2.2.2.1,e.2.2.2.2.2.2.2.2.1,e.2.2.2.2.2.2.2.2.2))) from_.2=_ from hopen,Option.bind_some]
    by_cases ho:openB g S from_.2 e=true
    ·rw[if_pos ho,show F.cT q e.2.1=_ from R_on_eq q e.2.1 (by omega),Option.bind_some]
     by_cases hm:e.2.1∈q
     ·rw[decide_eq_true hm,Bool.not_true,if_neg Bool.false_ne_true]
      exact stay fun h=>h.2.2 hm
     ·have hc3:e.1=cur∧openB g S from_.2 e=true∧e.2.1∉q:=⟨hcur,ho,hm⟩
      rw[decide_eq_false hm,Bool.not_false,if_pos rfl,A.gd1 (by simp only[List.length_cons,List.length_nil];omega),A.gd1 (by rw[h1];simp only[List.length_cons,List.length_nil];omega),if_pos hc3]
      rw[if_pos hc3]at hnext
      refine ih (q++[e.2.1],r'++[e.2.1]) ⟨?_,?_,hnext.symm⟩
      ·simp only[h1,List.cons_append]
      ·simp only[]
       rw[List.getElem?_append_left (List.getElem?_eq_some_iff.1 h2).1];exact h2
    ·rw[if_neg ho]
     exact stay fun h=>ho h.2.1
   ·rw[if_neg (show ¬e.1=cur from hcur)]
    exact stay fun h=>hcur h.1)
  (by have:=FU_big;omega) (r,from_.1::r) ⟨rfl,hc,rfl⟩
def okE (g:List Nd)(S:List Sp)(E:List Ed)(dd:Int)(p q:Pl):Prop:=∃e∈E,e.1=p∧e.2.1=q∧openB g S dd e=true
theorem addR_mono (g:List Nd)(S:List Sp)(dd:Int)(cur:Pl): ∀(t:List Ed) (r:List Pl),∃x,addR g S dd cur t r=r++x∧(∀p∈x,∃e∈t,e.1=cur∧e.2.1=p∧openB g S dd e=true)∧(r.Nodup→(r++x).Nodup)∧(∀e∈t,e.1=cur→openB g S dd e=true→e.2.1∈r++x)
 | [],r=>⟨[],by rw[addR,List.append_nil],by simp,by simp,by simp⟩
 |e::t,r=>by
  rw[addR]
  by_cases h:e.1=cur∧openB g S dd e=true∧e.2.1∉r
  ·rw[if_pos h]
   obtain⟨x,h1,h2,h3,h4⟩:=addR_mono g S dd cur t (r++[e.2.1])
   refine⟨e.2.1::x,by rw[h1];simp,fun p hp=>?_,fun hn=>?_,fun e2 he2 a b=>?_⟩
   ·rcases List.mem_cons.1 hp with rfl|hp
    ·exact⟨e,List.mem_cons_self ..,h.1,rfl,h.2.1⟩
    ·obtain⟨e2,a,b⟩:=h2 p hp;exact⟨e2,List.mem_cons_of_mem _ a,b⟩
   ·have:=h3 (List.nodup_append.2 ⟨hn,by simp,fun a ha b hb=>by rw[List.mem_singleton]at hb;subst hb;intro e2;subst e2;exact h.2.2 ha⟩)
    simpa using this
   ·rcases List.mem_cons.1 he2 with rfl|he2
    ·simp
    ·have:=h4 e2 he2 a b;simpa using this
  ·rw[if_neg h]
   obtain⟨x,h1,h2,h3,h4⟩:=addR_mono g S dd cur t r
   refine⟨x,h1,fun p hp=>?_,h3,fun e2 he2 a b=>?_⟩
   ·obtain⟨e2,a,b⟩:=h2 p hp;exact⟨e2,List.mem_cons_of_mem _ a,b⟩
   ·rcases List.mem_cons.1 he2 with rfl|he2
    ·refine List.mem_append_left _ ?_
     by_cases hm:e2.2.1∈r
     ·exact hm
     ·exact absurd ⟨a,b,hm⟩ h
    ·exact h4 e2 he2 a b
theorem nodup_len {α:Type}[DecidableEq α]: ∀{l m:List α},l.Nodup→(∀x∈l,x∈m)→l.length≤m.length
 | [],m,_,_=>Nat.zero_le _
 |a::l,m,hn,h=>by
  rw[List.nodup_cons]at hn
  have ha:=h a (List.mem_cons_self ..)
  have:=nodup_len (l:=l) (m:=m.erase a) hn.2 fun x hx=>(List.mem_erase_of_ne (fun e=>by subst e;exact hn.1 hx)).2 (h x (List.mem_cons_of_mem _ hx))
  rw[List.length_erase_of_mem ha]at this
  have hpos:0<m.length:=List.length_pos_of_mem ha
  rw[List.length_cons];omega
theorem round_eq (g:List Nd)(S:List Sp)(E:List Ed)(from_:Sp)(hb:Few g)(hi:Inc g)(hS:S.length≤100000)(hE:E.length≤4000)(hf: ∀e∈E,∃n∈g,e.1.1=n.1):
  ∃b,F.cC g S E from_=some b∧(b=true↔Rch (okE g S E from_.2) from_.1 from_.1):=by
 have sub: ∀(r:List Pl),r.Nodup→(∀p∈r,∃e∈E,e.2.1=p)→r.length≤4000:=fun r hn h=>by
  have:=nodup_len (m:=E.map fun e=>e.2.1) hn fun p hp=>by obtain⟨e,h1,h2⟩:=h p hp;exact List.mem_map.2 ⟨e,h1,h2⟩
  rw[List.length_map]at this;omega
 have main: ∀(n f y:Nat) (r:List Pl),y+n=4002→n<f→r.Nodup→y≤1+r.length→(∀p∈r,∃e∈E,e.2.1=p)→(∀p∈r,Rch (okE g S E from_.2) from_.1 p)→(∀i p q,i<y→(from_.1::r)[i]?=some p→okE g S E from_.2 p q→q∈r)→
   ∃b,F.b6 g S E from_ f r (from_.1::r) (y:Int)=some b∧(b=true↔Rch (okE g S E from_.2) from_.1 from_.1):=by
  intro n
  induction n with
  |zero=>
   intro f y r hy hf' hn hyl hsub _ _
   have:=sub r hn hsub
   omega
  |succ n ih=>
   intro f y r hy hf' hn hyl hsub hreach hclosed
   obtain⟨f,rfl⟩: ∃f',f=f'+1:=⟨f-1,by omega⟩
   have hl:=sub r hn hsub
   rw[F.b6]
   by_cases h:y<1+r.length
   ·obtain⟨cur,hcur⟩: ∃c,(from_.1::r)[y]?=some c:=⟨_,List.getElem?_eq_getElem (by rw[List.length_cons];omega)⟩
    obtain⟨x,h1,h2,h3,h4⟩:=addR_mono g S from_.2 cur E r
    have hsub2: ∀p∈r++x,∃e∈E,e.2.1=p:=fun p hp=>by
     rcases List.mem_append.1 hp with hp|hp
     ·exact hsub p hp
     ·obtain⟨e,a,_,b,_⟩:=h2 p hp;exact⟨e,a,b⟩
    have hall: ∀k,(addR g S from_.2 cur (E.take k) r).length≤9000:=fun k=>by
     obtain⟨x',a,b,c,_⟩:=addR_mono g S from_.2 cur (E.take k) r
     have:=sub (r++x') (c hn) fun p hp=>by
      rcases List.mem_append.1 hp with hp|hp
      ·exact hsub p hp
      ·obtain⟨e,a2,_,b2,_⟩:=b p hp;exact⟨e,List.mem_of_mem_take a2,b2⟩
     rw[a];omega
    rw[if_pos (by rw[List.length_cons];omega),round_l3 g S E from_ _ y cur r hb hi hS (by omega) hf hcur (by omega) (by omega) hall,h1]
    have e1:(y:Int)+1=((y+1:Nat):Int):=by omega
    rw[e1]
    have hcr:cur=from_.1∨Rch (okE g S E from_.2) from_.1 cur:=by
     cases y with
     |zero=>injection hcur with hcur;exact .inl hcur.symm
     |succ y=>exact .inr (hreach cur (List.mem_of_getElem? (by simpa using hcur)))
    refine ih f (y+1) (r++x) (by omega) (by omega) (h3 hn) (by rw[List.length_append];omega) hsub2 (fun p hp=>?_) fun i p q hi2 hp hok=>?_
    ·rcases List.mem_append.1 hp with hp|hp
     ·exact hreach p hp
     ·obtain⟨e,a,b,c,d2⟩:=h2 p hp
      rcases hcr with hcr|hcr
      ·exact .one ⟨e,a,b.trans hcr,c,d2⟩
      ·exact .step hcr ⟨e,a,b,c,d2⟩
    ·rw[←List.cons_append,List.getElem?_append_left (by rw[List.length_cons];omega)]at hp
     rcases Nat.lt_or_ge i y with h5|h5
     ·exact List.mem_append_left _ (hclosed i p q h5 hp hok)
     ·obtain rfl:i=y:=by omega
      rw[hcur]at hp;injection hp with hp;subst hp
      obtain⟨e,a,b,c,d2⟩:=hok
      rw[←c];exact h4 e a b d2
   ·rw[if_neg (by rw[List.length_cons];omega),show F.cT r from_.1=_ from R_on_eq r from_.1 (by omega),Option.bind_some]
    refine⟨_,rfl,?_⟩
    rw[decide_eq_true_eq]
    refine⟨hreach _,fun hr=>?_⟩
    have hin: ∀q,Rch (okE g S E from_.2) from_.1 q→q∈r:=fun q hq=>by
     induction hq with
     |one h6=>exact hclosed 0 _ _ (by omega) rfl h6
     |step h6 h7 ih2=>
      obtain⟨i,hi3⟩:=List.mem_iff_getElem?.1 ih2
      have:=(List.getElem?_eq_some_iff.1 hi3).1
      exact hclosed (i+1) _ _ (by omega) (by simpa using hi3) h7
    exact hin _ hr
 exact main 4002 A.FU 0 [] (by omega) (by have:=FU_big;omega) List.nodup_nil (by simp) (by simp) (by simp) (fun i p q h=>by omega)
abbrev Seen:=List (Pl×Bool)
def seen (m:Seen)(v:Pl):Prop:=Z.mget false m v=true
def addP (deep:List Sp)(from_:Pl)(dd:Int):List Pl→Seen→List Pl→Option (Seen×List Pl)
 | [],m,xs=>some (m,xs)
 |t::r,m,xs=>if t=from_ then none else if dd≤Z.mget 0 deep t∧Z.mget false m t=false then addP deep from_ dd r (Z.mins m t true) (xs++[t])else addP deep from_ dd r m xs
theorem reaches_l3 (deep:List Sp)(from_:Pl)(dd:Int)(k3:Seen→List Pl→Option Bool)(tos:List Pl)(m:Seen)(xs:List Pl)(hl:tos.length≤4000)(hx:xs.length≤10000):
  F.i k3 deep from_ dd tos A.FU m xs 0=match addP deep from_ dd tos m xs with
   |none=>some true
   |some s=>k3 s.1 s.2:=
 A.lp tos (fun f (s:Seen×List Pl) i=>F.i k3 deep from_ dd tos f s.1 s.2 i) (fun _ t s=>match addP deep from_ dd t s.1 s.2 with
   |none=>some true
   |some s=>k3 s.1 s.2) (fun k s=>s.2.length≤10000+k)
  (fun f s hs=>by rw[F.i,if_neg (by omega),addP])
  (fun f s k t ht hk hs ih=>by
   rw[F.i,if_pos (by omega),A.ixn ht,Option.bind_some,addP,A.lt]
   simp only[F.aw,F.av,A.lt,A.gd1 (A.r64n (n:=k) (by omega)),Bool.false_eq_true,if_false]
   by_cases h:t=from_
   ·rw[if_pos (show t=from_ from h),if_pos h]
   ·rw[if_neg (show ¬t=from_ from h),if_neg h]
    by_cases hd:dd≤Z.mget 0 deep t
    ·rw[if_pos (show dd≤Z.mget 0 deep t from hd)]
     by_cases hm:Z.mget false s.1 t=false
     ·have hc:dd≤Z.mget 0 deep t∧Z.mget false s.1 t=false:=⟨hd,hm⟩
      rw[if_pos hc,show Z.mget false s.1 t=false from hm,Bool.not_false,if_pos rfl,A.gd1 (by simp only[List.length_cons,List.length_nil];omega)]
      exact ih (Z.mins s.1 t true,s.2++[t]) (by simp only[List.length_append,List.length_cons,List.length_nil];omega)
     ·have hm2:Z.mget false s.1 t=true:=by cases h2:Z.mget false s.1 t with
       |true=>rfl
       |false=>exact absurd h2 hm
      have hc: ¬(dd≤Z.mget 0 deep t∧Z.mget false s.1 t=false):=fun h2=>hm h2.2
      rw[if_neg hc,show Z.mget false s.1 t=true from hm2,Bool.not_true,if_neg Bool.false_ne_true]
      exact ih s (by omega)
    ·rw[if_neg (show ¬dd≤Z.mget 0 deep t from hd),if_neg (fun h2=>hd h2.1)]
     exact ih s (by omega))
  (by have:=FU_big;omega) (m,xs) (by simp only[];omega)
def un (T:List Pl)(m:Seen):Nat:=(T.filter fun t=> !(Z.mget false m t)).length
theorem un_ins {T:List Pl}{m:Seen}{t:Pl}(ht:t∈T)(hm:Z.mget false m t=false):un T (Z.mins m t true)+1≤un T m:=by
 unfold un
 have mono: ∀(l:List Pl),(l.filter fun t'=> !(Z.mget false (Z.mins m t true) t')).length≤(l.filter fun t'=> !(Z.mget false m t')).length:=by
  intro l
  induction l with
  |nil=>exact Nat.le_refl _
  |cons a l ih=>
   rw[List.filter_cons,List.filter_cons,Z.mget_ins]
   by_cases e:a=t
   ·rw[if_pos e,e,hm];simp only[Bool.not_true,Bool.false_eq_true,if_false,Bool.not_false,if_true,List.length_cons];omega
   ·rw[if_neg e];split<;>(try simp only[List.length_cons])<;>omega
 induction T with
 |nil=>cases ht
 |cons a l ih=>
  rw[List.filter_cons,List.filter_cons,Z.mget_ins]
  have:=mono l
  by_cases e:a=t
  ·rw[if_pos e,e,hm];simp only[Bool.not_true,Bool.false_eq_true,if_false,Bool.not_false,if_true,List.length_cons];omega
  ·have:=ih ((List.mem_cons.1 ht).resolve_left fun h=>e h.symm)
   rw[if_neg e];split<;>(try simp only[List.length_cons])<;>omega
theorem addP_none {deep:List Sp}{from_:Pl}{dd:Int}: ∀{tos:List Pl} {m:Seen} {xs:List Pl},addP deep from_ dd tos m xs=none→from_∈tos
 | [],_,_,h=>by cases h
 |t::r,m,xs,h=>by
  rw[addP]at h
  by_cases e:t=from_
  ·rw[e];exact List.mem_cons_self ..
  ·rw[if_neg e]at h
   split at h
   ·exact List.mem_cons_of_mem _ (addP_none h)
   ·exact List.mem_cons_of_mem _ (addP_none h)
theorem seen_ins {m:Seen}{t v:Pl}:seen (Z.mins m t true) v↔v=t∨seen m v:=by
 unfold seen
 rw[Z.mget_ins]
 by_cases e:v=t
 ·rw[if_pos e];simp[e]
 ·rw[if_neg e];simp[e]
theorem addP_some {deep:List Sp}{from_:Pl}{dd:Int}{T:List Pl}: ∀{tos:List Pl} {m m':Seen} {xs xs':List Pl},(∀t∈tos,t∈T)→addP deep from_ dd tos m xs=some (m',xs')→
  from_∉tos∧(∀v,seen m v→seen m' v)∧(∀v,seen m' v→seen m v∨(v∈tos∧dd≤Z.mget 0 deep v))∧(∀t∈tos,dd≤Z.mget 0 deep t→seen m' t)∧(∀v∈xs,v∈xs')∧(∀v∈xs',v∈xs∨seen m' v)∧(∀v,seen m' v→seen m v∨v∈xs')∧xs'.length+un T m'≤xs.length+un T m
 | [],m,m',xs,xs',_,h=>by
  injection h with h;injection h with h1 h2;subst h1;subst h2
  exact⟨by simp,fun v h=>h,fun v h=>.inl h,by simp,fun v h=>h,fun v h=>.inl h,fun v h=>.inl h,Nat.le_refl _⟩
 |t::r,m,m',xs,xs',hT,h=>by
  rw[addP]at h
  by_cases e:t=from_
  ·rw[if_pos e]at h;cases h
  ·rw[if_neg e]at h
   by_cases hc:dd≤Z.mget 0 deep t∧Z.mget false m t=false
   ·rw[if_pos hc]at h
    obtain⟨a1,a2,a3,a4,a5,a6,a7,a8⟩:=addP_some (fun x hx=>hT x (List.mem_cons_of_mem _ hx)) h
    have hun:=un_ins (hT t (List.mem_cons_self ..)) hc.2
    refine⟨fun h2=>(List.mem_cons.1 h2).elim (fun h3=>e h3.symm) a1,fun v hv=>a2 v (seen_ins.2 (.inr hv)),fun v hv=>?_,fun x hx hdx=>?_,fun v hv=>a5 v (List.mem_append_left _ hv),fun v hv=>?_,fun v hv=>?_,by rw[List.length_append]at a8;simp only[List.length_cons,List.length_nil]at a8;omega⟩
    ·rcases a3 v hv with h2|h2
     ·rcases seen_ins.1 h2 with rfl|h3
      ·exact .inr ⟨List.mem_cons_self ..,hc.1⟩
      ·exact .inl h3
     ·exact .inr ⟨List.mem_cons_of_mem _ h2.1,h2.2⟩
    ·rcases List.mem_cons.1 hx with rfl|hx
     ·exact a2 _ (seen_ins.2 (.inl rfl))
     ·exact a4 x hx hdx
    ·rcases a6 v hv with h2|h2
     ·rcases List.mem_append.1 h2 with h2|h2
      ·exact .inl h2
      ·rw[List.mem_singleton]at h2;subst h2;exact .inr (a2 _ (seen_ins.2 (.inl rfl)))
     ·exact .inr h2
    ·rcases a7 v hv with h2|h2
     ·rcases seen_ins.1 h2 with rfl|h3
      ·exact .inr (a5 _ (List.mem_append_right _ (List.mem_singleton.2 rfl)))
      ·exact .inl h3
     ·exact .inr h2
   ·rw[if_neg hc]at h
    obtain⟨a1,a2,a3,a4,a5,a6,a7,a8⟩:=addP_some (fun x hx=>hT x (List.mem_cons_of_mem _ hx)) h
    refine⟨fun h2=>(List.mem_cons.1 h2).elim (fun h3=>e h3.symm) a1,a2,fun v hv=>?_,fun x hx hdx=>?_,a5,a6,a7,a8⟩
    ·rcases a3 v hv with h2|h2
     ·exact .inl h2
     ·exact .inr ⟨List.mem_cons_of_mem _ h2.1,h2.2⟩
    ·rcases List.mem_cons.1 hx with rfl|hx
     ·refine a2 _ ?_
      unfold seen
      cases h2:Z.mget false m x with
      |true=>rfl
      |false=>exact absurd ⟨hdx,h2⟩ hc
     ·exact a4 x hx hdx
def blk (g:List Nd)(dd:Int)(p:Pl):Prop:=(Z.mget ((0,0,[],(0,0,(ByteArray.mk #[])),(ByteArray.mk #[]),0,0):Nd) (mapOf g) p.1).2.1=14∧(Z.mget ((0,0,[],(0,0,(ByteArray.mk #[])),(ByteArray.mk #[]),0,0):Nd) (mapOf g) p.1).2.2.2.2.2.2=dd
def okP (g:List Nd)(steps:List (Pl×List Pl))(deep:List Sp)(dd:Int)(p q:Pl):Prop:=q∈Z.mget [] steps p∧¬blk g dd p∧dd≤Z.mget 0 deep q
theorem reaches_eq (g:List Nd)(a0:(List (Int×Nd))×(List Int)×(List (Int×Int)))(h0:a0.1=mapOf g)(steps:List (Pl×List Pl))(deep:List Sp)(from_:Pl)(dd:Int)(T:List Pl)(hT:T.length≤4000)(hst: ∀p q,q∈Z.mget [] steps p→q∈T)(hsl: ∀p,(Z.mget [] steps p).length≤4000)(hfd:dd≤Z.mget 0 deep from_):
  ∃b,F.ag a0 steps deep from_ dd=some b∧(b=true↔Rch (okP g steps deep dd) from_ from_):=by
 have main: ∀(n f:Nat) (m:Seen) (xs:List Pl),xs.length+un T m≤n→n<f→xs.length≤9000→xs.length+un T m≤9000→(∀v,seen m v→Rch (okP g steps deep dd) from_ v)→(∀t∈xs,t=from_∨seen m t)→(∀v,v=from_∨seen m v→v∉xs→∀w,okP g steps deep dd v w→w≠from_∧seen m w)→
   ∃b,F.j a0 steps deep from_ dd f m xs=some b∧(b=true↔Rch (okP g steps deep dd) from_ from_):=by
  intro n
  induction n with
  |zero=>
   intro f m xs hn hf hx900 _ i1 i2 i3
   obtain⟨f,rfl⟩: ∃f',f=f'+1:=⟨f-1,by omega⟩
   have hx:xs=[]:=List.eq_nil_of_length_eq_zero (by omega)
   subst hx
   rw[F.j,if_neg (by simp)]
   refine⟨false,rfl,fun h=>(by cases h),fun h=>?_⟩
   have hin: ∀q,Rch (okP g steps deep dd) from_ q→q≠from_∧seen m q:=fun q hq=>by
    induction hq with
    |one h6=>exact i3 from_ (.inl rfl) (by simp) _ h6
    |step h6 h7 ih2=>exact i3 _ (.inr ih2.2) (by simp) _ h7
   exact absurd rfl (hin _ h).1
  |succ n ih=>
   intro f m xs hn hf hx900 hu900 i1 i2 i3
   obtain⟨f,rfl⟩: ∃f',f=f'+1:=⟨f-1,by omega⟩
   rw[F.j]
   by_cases hne:xs=[]
   ·subst hne
    rw[if_neg (by simp)]
    refine⟨false,rfl,fun h=>(by cases h),fun h=>?_⟩
    have hin: ∀q,Rch (okP g steps deep dd) from_ q→q≠from_∧seen m q:=fun q hq=>by
     induction hq with
     |one h6=>exact i3 from_ (.inl rfl) (by simp) _ h6
     |step h6 h7 ih2=>exact i3 _ (.inr ih2.2) (by simp) _ h7
    exact absurd rfl (hin _ h).1
   ·obtain⟨ys,at_,rfl⟩: ∃ys a,xs=ys++[a]:=⟨xs.dropLast,xs.getLast hne,(List.dropLast_concat_getLast hne).symm⟩
    have hl:(ys++[at_]).length=ys.length+1:=by simp
    have e1:(((ys++[at_]).length:Int)-1)=(ys.length:Int):=by rw[hl];omega
    have hat:(ys++[at_])[ys.length]?=some at_:=by simp
    rw[if_pos (by omega),A.gd1 ⟨by omega,by omega⟩,e1,A.ixn hat,Option.bind_some,A.gd1 ⟨by omega,by omega⟩,A.gd1 ⟨by omega,by rw[Int.toNat_natCast];omega⟩,A.lt,F.aT,e1,Int.toNat_natCast,A.ba,h0]
    have htake:List.take ys.length (ys++[at_])=ys:=by simp
    rw[htake]
    have hatr:at_=from_∨seen m at_:=i2 at_ (by simp)
    by_cases hb:blk g dd at_
    ·rw[if_pos (show decide ((Z.mget ((0,0,[],(0,0,(ByteArray.mk #[])),(ByteArray.mk #[]),0,0):Nd) (mapOf g) at_.1).2.1=14∧(Z.mget ((0,0,[],(0,0,(ByteArray.mk #[])),(ByteArray.mk #[]),0,0):Nd) (mapOf g) at_.1).2.2.2.2.2.2=dd)=true from decide_eq_true hb)]
     refine ih f m ys (by omega) (by omega) (by omega) (by omega) i1 (fun t ht=>i2 t (List.mem_append_left _ ht)) fun v hv hvx w hw=>?_
     by_cases e:v=at_
     ·subst e;exact absurd hb hw.2.1
     ·exact i3 v hv (fun h=>by
       rcases List.mem_append.1 h with h|h
       ·exact hvx h
       ·exact e (List.mem_singleton.1 h)) w hw
    ·rw[if_neg (show ¬decide ((Z.mget ((0,0,[],(0,0,(ByteArray.mk #[])),(ByteArray.mk #[]),0,0):Nd) (mapOf g) at_.1).2.1=14∧(Z.mget ((0,0,[],(0,0,(ByteArray.mk #[])),(ByteArray.mk #[]),0,0):Nd) (mapOf g) at_.1).2.2.2.2.2.2=dd)=true from fun h=>hb (by have h9:=of_decide_eq_true h;exact h9)),A.lt,show Z.mget [] steps at_=Z.mget [] steps at_ from rfl,reaches_l3 deep from_ dd _ _ m ys (hsl at_) (by omega)]
     cases hadd:addP deep from_ dd (Z.mget [] steps at_) m ys with
     |none=>
      have hfrom:=addP_none hadd
      have hok:okP g steps deep dd at_ from_:=⟨hfrom,hb,hfd⟩
      refine⟨true,rfl,fun _=>?_,fun _=>rfl⟩
      rcases hatr with h|h
      ·rw[h]at hok;exact .one hok
      ·exact .step (i1 at_ h) hok
     |some s=>
      obtain⟨m',xs'⟩:=s
      obtain⟨a1,a2,a3,a4,a5,a6,a7,a8⟩:=addP_some (T:=T) (hst at_) hadd
      simp only[]
      refine ih f m' xs' (by omega) (by omega) (by omega) (by omega) (fun v hv=>?_) (fun t ht=>?_) fun v hv hvx w hw=>?_
      ·rcases a3 v hv with h|h
       ·exact i1 v h
       ·have hok:okP g steps deep dd at_ v:=⟨h.1,hb,h.2⟩
        rcases hatr with h2|h2
        ·rw[h2]at hok;exact .one hok
        ·exact .step (i1 at_ h2) hok
      ·rcases a6 t ht with h|h
       ·rcases i2 t (List.mem_append_left _ h)with h2|h2
        ·exact .inl h2
        ·exact .inr (a2 t h2)
       ·exact .inr h
      ·have hv2:v=from_∨seen m v:=by
        rcases hv with h|h
        ·exact .inl h
        ·rcases a7 v h with h2|h2
         ·exact .inr h2
         ·exact absurd h2 hvx
       by_cases e:v=at_
       ·subst e
        exact⟨fun h=>a1 (h▸hw.1),a4 w hw.1 hw.2.2⟩
       ·obtain⟨h1,h2⟩:=i3 v hv2 (fun h=>by
         rcases List.mem_append.1 h with h|h
         ·exact hvx (a5 v h)
         ·exact e (List.mem_singleton.1 h)) w hw
        exact⟨h1,a2 w h2⟩
 have hu:un T []≤T.length:=List.length_filter_le _ _
 exact main (1+T.length) A.FU [] [from_] (by simp;omega) (by have:=FU_big;omega) (by simp) (by simp;omega) (fun v h=>by cases h) (fun t ht=>.inl (List.mem_singleton.1 ht)) (fun v hv hx w hw=>by
  rcases hv with h|h
  ·exact absurd (List.mem_singleton.2 h) hx
  ·cases h)
theorem mget_mem {p:Pl}: ∀{l:List Sp} {v:Int},(l.map (·.1)).Nodup→(p,v)∈l→Z.mget 0 l p=v
 | [],_,_,h=>by cases h
 |(a,w)::r,v,hn,h=>by
  rw[List.map_cons,List.nodup_cons]at hn
  unfold Z.mget
  rcases List.mem_cons.1 h with h|h
  ·injection h with h1 h2;rw[if_pos h1,h2]
  ·rw[if_neg (fun e=>hn.1 (by rw[←e];exact List.mem_map_of_mem (f:=(·.1)) h))]
   exact mget_mem hn.2 h
theorem mhas_app {l:List Sp}{p:Pl}(h:p∉l.map (·.1)):Z.mhas l p=false:=by
 induction l with
 |nil=>rfl
 |cons a r ih=>
  rw[List.map_cons,List.mem_cons,not_or]at h
  obtain⟨q,v⟩:=a
  unfold Z.mhas
  rw[if_neg h.1];exact ih h.2
def toOf (E:List Ed)(p:Pl):List Pl:=(E.filter fun e=>decide (e.1=p)).map fun e=>e.2.1
theorem turns_l2 (a0:(List (Int×Nd))×(List Int)×(List (Int×Int)))(S:List Sp)(E:List Ed)(hE:E.length≤4000): ∃st,(∀p,Z.mget [] st p=toOf E p)∧F.q a0 S E A.FU [] 0=A.mrg (F.ad a0 S st) (some false) S:=by
 have main: ∀(n k f:Nat) (m:List (Pl×List Pl)),k+n=E.length→n<f→(∀p,Z.mget [] m p=toOf (E.take k) p)→∃st,(∀p,Z.mget [] st p=toOf E p)∧F.q a0 S E f m (k:Int)=A.mrg (F.ad a0 S st) (some false) S:=by
  intro n
  induction n with
  |zero=>
   intro k f m hk hf hm
   obtain⟨f,rfl⟩: ∃f',f=f'+1:=⟨f-1,by omega⟩
   rw[List.take_of_length_le (by omega)]at hm
   exact⟨m,hm,by rw[F.q,if_neg (by omega)]⟩
  |succ n ih=>
   intro k f m hk hf hm
   obtain⟨f,rfl⟩: ∃f',f=f'+1:=⟨f-1,by omega⟩
   have hx:E[k]?=some E[k]:=List.getElem?_eq_getElem (by omega)
   generalize E[k]=x at hx
   have hlen:(Z.mget [] m x.1).length≤4000:=by
    rw[hm];unfold toOf
    rw[List.length_map]
    have:=List.length_filter_le (fun e:Ed=>decide (e.1=x.1)) (E.take k)
    rw[List.length_take]at this;omega
   rw[F.q,if_pos (by omega),A.ixn hx,Option.bind_some,A.gd1 (by rw[show Z.mget [] m x.1=Z.mget [] m x.1 from rfl];simp only[List.length_cons,List.length_nil];omega),A.gd1 (A.r64n (by omega))]
   refine ih (k+1) f _ (by omega) (by omega) fun p=>?_
   rw[show Z.mins m x.1 (Z.mget [] m x.1++[x.2.1])=Z.mins m x.1 (Z.mget [] m x.1++[x.2.1])from rfl,Z.mget_ins,take_s hx]
   unfold toOf
   rw[List.filter_append,List.map_append,List.filter_cons,List.filter_nil]
   by_cases e:p=x.1
   ·subst e
    rw[if_pos rfl,hm,if_pos (decide_eq_true rfl)];rfl
   ·rw[if_neg e,hm,if_neg (by simp only[decide_eq_true_eq];exact fun h=>e h.symm),List.map_nil,List.append_nil];rfl
 exact main E.length 0 A.FU [] (by omega) (by have:=FU_big;omega) (fun p=>rfl)
theorem turns_l3 (g:List Nd)(a0:(List (Int×Nd))×(List Int)×(List (Int×Int)))(S:List Sp)(E:List Ed)(hS:S.length≤4000)(hn:(S.map (·.1)).Nodup)(hE:F.ap a0 g=some E):F.x a0 g S A.FU [] 0=F.q a0 S E A.FU [] 0:=
 A.lp S (fun f (m:List Sp) i=>F.x a0 g S f m i) (fun _ _ _=>F.q a0 S E A.FU [] 0) (fun k m=>m=S.take k)
  (fun f m hm=>by
   rw[List.take_of_length_le (Nat.le_refl _)]at hm
   rw[F.x,if_neg (by omega),show F.ap a0 g=some E from hE,Option.bind_some,hm])
  (fun f m k x hx hk hm ih=>by
   rw[F.x,if_pos (by omega),A.ixn hx,Option.bind_some,A.gd1 (A.r64n (by omega))]
   refine ih _ ?_
   rw[show Z.mins m x.1 x.2=Z.mins m x.1 x.2 from rfl,mins_new (mhas_app ?_),hm,take_s hx]
   rw[hm]
   intro h
   rw[List.map_take]at h
   have hd:=hn
   rw[←List.take_append_drop k (S.map (·.1)),List.nodup_append]at hd
   refine hd.2.2 _ h _ ?_ rfl
   rw[←List.map_drop,A.dropx hx,List.map_cons];exact List.mem_cons_self ..)
  (by have:=FU_big;omega) [] (by simp)
theorem nodeAt {g:List Nd}(hi:Inc g){n:Nd}(hn:n∈g)(z:Nd):Z.mget z (mapOf g) n.1=n∧find g n.1=(n,true):=by
 obtain⟨j,hj⟩:=List.mem_iff_getElem?.1 hn
 exact⟨hi.mget hj,find_eq hi hj⟩
theorem mem_st {g:List Nd}{d:List Int}{st:List (Pl×List Pl)}(hst: ∀p,Z.mget [] st p=toOf (edges g d) p){p q:Pl}:q∈Z.mget [] st p↔∃e∈edges g d,e.1=p∧e.2.1=q:=by
 rw[hst];unfold toOf
 constructor
 ·intro h
  obtain⟨e,h1,h2⟩:=List.mem_map.1 h
  obtain⟨h3,h4⟩:=List.mem_filter.1 h1
  exact⟨e,h3,of_decide_eq_true h4,h2⟩
 ·rintro⟨e,h1,h2,h3⟩
  exact List.mem_map.2 ⟨e,List.mem_filter.2 ⟨h1,decide_eq_true h2⟩,h3⟩
theorem nodup_S {g:List Nd}{d:List Int}(hi:Inc g)(ho:Own g):((spots g d).map (·.1)).Nodup:=spotsF_nodup d 0 g hi fun n hn=>in2 ho hn
theorem ok_iff {g:List Nd}{d:List Int}(hi:Inc g)(ho:Own g){dd:Int}{p q:Pl}:okE g (spots g d) (edges g d) dd p q↔(∃e∈edges g d,e.1=p∧e.2.1=q)∧dd≤Z.mget 0 (spots g d) q∧(¬blk g dd p∨p.2=2):=by
 have hN:=nodup_S (d:=d) hi ho
 have key: ∀e∈edges g d,(openB g (spots g d) dd e=true↔dd≤Z.mget 0 (spots g d) e.2.1∧(¬blk g dd e.1∨e.1.2=2)):=fun e he=>by
  obtain⟨v,hv⟩:=edge_to d he
  obtain⟨n,hn,h1⟩:=edge_from d he
  obtain⟨h2,h3⟩:=nodeAt hi hn ((0,0,[],(0,0,(ByteArray.mk #[])),(ByteArray.mk #[]),0,0):Nd)
  unfold openB blk
  rw[mget_mem hN hv,atS_mem hN hv,h1,h3,h2,Bool.and_eq_true,decide_eq_true_eq,Bool.or_eq_true,Bool.or_eq_true,decide_eq_true_eq,decide_eq_true_eq,decide_eq_true_eq]
  constructor
  ·rintro⟨a,(b|b)|b⟩
   ·exact⟨a,.inl fun h=>b h.1⟩
   ·exact⟨a,.inl fun h=>b h.2⟩
   ·exact⟨a,.inr b⟩
  ·rintro⟨a,b|b⟩
   ·by_cases c:n.2.1=14
    ·exact⟨a,.inl (.inr fun h=>b ⟨c,h⟩)⟩
    ·exact⟨a,.inl (.inl c)⟩
   ·exact⟨a,.inr b⟩
 constructor
 ·rintro⟨e,h1,h2,h3,h4⟩
  have:=(key e h1).1 h4
  rw[h2,h3]at this
  exact⟨⟨e,h1,h2,h3⟩,this⟩
 ·rintro⟨⟨e,h1,h2,h3⟩,h4⟩
  refine⟨e,h1,h2,h3,(key e h1).2 ?_⟩
  rw[h2,h3];exact h4
theorem rch_iff {g:List Nd}{d:List Int}{st:List (Pl×List Pl)}(hi:Inc g)(ho:Own g)(hst: ∀p,Z.mget [] st p=toOf (edges g d) p){dd:Int}{a:Pl}:Rch (okP g st (spots g d) dd) a a↔Rch (okE g (spots g d) (edges g d) dd) a a:=by
 have up: ∀{p q},okP g st (spots g d) dd p q→okE g (spots g d) (edges g d) dd p q:=fun {p q} h=>
  (ok_iff hi ho).2 ⟨(mem_st hst).1 h.1,h.2.2,.inl h.2.1⟩
 have down: ∀{p q},okE g (spots g d) (edges g d) dd p q→(p.2≠2∨¬blk g dd p)→okP g st (spots g d) dd p q:=fun {p q} h h2=>by
  obtain⟨h3,h4,h5⟩:=(ok_iff hi ho).1 h
  refine⟨(mem_st hst).2 h3,?_,h4⟩
  rcases h2 with h2|h2
  ·exact h5.resolve_right h2
  ·exact h2
 have blk_same: ∀{p q:Pl},p.1=q.1→(blk g dd p↔blk g dd q):=fun {p q} e=>by unfold blk;rw[e]
 constructor
 ·intro h
  have: ∀b,Rch (okP g st (spots g d) dd) a b→Rch (okE g (spots g d) (edges g d) dd) a b:=fun b h=>by
   induction h with
   |one h=>exact .one (up h)
   |step _ h2 ih=>exact .step ih (up h2)
  exact this a h
 ·intro h
  have key: ∀b,Rch (okE g (spots g d) (edges g d) dd) a b→Rch (okP g st (spots g d) dd) a b∨(a.2=2∧blk g dd a):=fun b h=>by
   induction h with
   |one h=>
    by_cases h2:a.2=2∧blk g dd a
    ·exact .inr h2
    ·exact .inl (.one (down h (by
      by_cases h3:a.2=2
      ·exact .inr fun h4=>h2 ⟨h3,h4⟩
      ·exact .inl h3)))
   | @step b c _ h2 ih=>
    rcases ih with ih|ih
    ·refine .inl (.step ih (down h2 ?_))
     by_cases h3:b.2=2
     ·refine .inr fun h4=>?_
      have hlast: ∃p,okP g st (spots g d) dd p b:=by cases ih with
       |one h=>exact⟨_,h⟩
       |step _ h=>exact⟨_,h⟩
      obtain⟨p,hp⟩:=hlast
      obtain⟨e,h5,h6,h7⟩:=(mem_st hst).1 hp.1
      have h8:=edge_out d ho h5 (by rw[h7];exact h3)
      rw[h6,h7]at h8
      exact hp.2.1 ((blk_same h8.1).2 h4)
     ·exact .inl h3
    ·exact .inr ih
  rcases key a h with h2|⟨h2,h3⟩
  ·exact h2
  ·have hlast: ∃p,okE g (spots g d) (edges g d) dd p a:=by cases h with
    |one h=>exact⟨_,h⟩
    |step _ h=>exact⟨_,h⟩
   obtain⟨p,hp⟩:=hlast
   obtain⟨⟨e,h5,h6,h7⟩,_,h9⟩:=(ok_iff hi ho).1 hp
   have h8:=edge_out d ho h5 (by rw[h7];exact h2)
   rw[h6,h7]at h8
   rcases h9 with h9|h9
   ·exact absurd ((blk_same h8.1).2 h3) h9
   ·exact absurd h9 h8.2
theorem edges_len {g:List Nd}(ho:Own g)(hg:g.length≤40)(d:List Int): ∀(m k:Nat),k+m=g.length→(edgesF g d k (g.drop k)).length≤83*m
 |0,k,h=>by rw[List.drop_eq_nil_of_le (by omega)];exact Nat.le_refl 0
 |m+1,k,h=>by
  have hx:g[k]?=some g[k]:=List.getElem?_eq_getElem (by omega)
  generalize g[k]=x at hx
  have h2:=in2 ho (List.mem_of_getElem? hx)
  have h3:=usesF_len x.1 g fun x hx=>in2 ho hx
  have h4:=edges_len ho hg d m (k+1) (by omega)
  rw[A.dropx hx,edgesF]
  split
  ·omega
  ·rw[List.length_append,List.length_append,inE_len,outE,List.length_map];omega
theorem spots_port {g:List Nd}(ho:Own g)(d:List Int): ∀(k:Nat) (l:List Nd),(∀n∈l,n∈g)→∀sp∈spotsF g d k l,0≤sp.1.2∧sp.1.2≤2
 |_,[],_,_,h=>by cases h
 |k,n::r,hl,sp,h=>by
  have h2:=in2 ho (hl n (List.mem_cons_self ..))
  unfold spotsF at h
  rcases List.mem_append.1 h with h|h
  ·have:=insS_at g d n.1 0 _ sp.1 sp.2 h;omega
  ·rcases List.mem_append.1 h with h|h
   ·unfold outS at h
    split at h
    ·rw[List.mem_singleton]at h;subst h;simp
    ·cases h
   ·exact spots_port ho d (k+1) r (fun x hx=>hl x (List.mem_cons_of_mem _ hx)) sp h
theorem turns_same (g:List Nd)(d:List Int)(a0:(List (Int×Nd))×(List Int)×(List (Int×Int)))(h0:a0.1=mapOf g)(hb:Few g)(hi:Inc g)(hfed:Fed g)(ho:Own g)(hib:InB d)(hr:RelD g d a0.2.2)(hd:d.length=g.length):
  ∃b,F.aK a0 g=some b∧(∀r5 r9,F.bk g r5 r9 (spots g d) (edges g d) A.FU 0=some (if b=true then([],[],81)else(r5.1,r9.1,0)))∧(b=true↔∃sp∈spots g d,Rch (okE g (spots g d) (edges g d) sp.2) sp.1 sp.1):=by
 have hlen:=hb.1
 have hS:(spots g d).length≤120:=by
  have:=spots_len ho d g.length 0 (by omega);rw[List.drop_zero]at this;unfold spots;omega
 have hE:(edges g d).length≤4000:=by
  have:=edges_len ho hlen d g.length 0 (by omega);rw[List.drop_zero]at this;unfold edges;omega
 have hN:=nodup_S (d:=d) hi ho
 have hok: ∀sp∈spots g d,SpOk g sp:=by
  have:=o_af (d:=d) (g:=g) hib g.length 0 (by omega);rw[List.drop_zero]at this;exact this
 obtain⟨st,hst,hl2⟩:=turns_l2 a0 (spots g d) (edges g d) hE
 have hto: ∀p q,q∈Z.mget [] st p→q∈(edges g d).map fun e=>e.2.1:=fun p q h=>by
  obtain⟨e,h1,_,h3⟩:=(mem_st hst).1 h
  exact List.mem_map.2 ⟨e,h1,h3⟩
 have htl: ∀p,(Z.mget [] st p).length≤4000:=fun p=>by
  rw[hst];unfold toOf;rw[List.length_map]
  exact Nat.le_trans (List.length_filter_le _ _) hE
 have hval: ∀sp∈spots g d,∃b,F.ag a0 st (spots g d) sp.1 sp.2=some b∧F.cC g (spots g d) (edges g d) sp=some b∧(b=true↔Rch (okE g (spots g d) (edges g d) sp.2) sp.1 sp.1):=fun sp hsp=>by
  obtain⟨b,h1,h2⟩:=reaches_eq g a0 h0 st (spots g d) sp.1 sp.2 ((edges g d).map fun e=>e.2.1) (by rw[List.length_map];exact hE) hto htl (by rw[mget_mem hN (p:=sp.1) (v:=sp.2) hsp];exact Int.le_refl _)
  obtain⟨b',h3,h4⟩:=round_eq g (spots g d) (edges g d) sp hb hi (by omega) hE (fun e he=>edge_from d he)
  refine⟨b,h1,?_,h2.trans (rch_iff hi ho hst)⟩
  rw[h3];congr 1
  rw[Bool.eq_iff_iff,h4,h2]
  exact(rch_iff hi ho hst).symm
 let p:Sp→Bool:=fun sp=>(F.ag a0 st (spots g d) sp.1 sp.2).getD false
 have hp: ∀sp∈spots g d,(p sp=true↔Rch (okE g (spots g d) (edges g d) sp.2) sp.1 sp.1):=fun sp hsp=>by
  obtain⟨b,h1,_,h3⟩:=hval sp hsp
  rw[show p sp=b from congrArg (fun o=>Option.getD o false) h1];exact h3
 refine⟨(spots g d).any p,?_,fun r5 r9=>?_,?_⟩
 ·unfold F.aK
  rw[show F.aJ a0 g=_ from spotsP_eq g d a0 hb hfed ho hr,Option.bind_some,turns_l3 g a0 (spots g d) (edges g d) (by omega) hN (edgesP_eq g d a0 hb hfed ho hib hr),hl2]
  have:=A.mrg_any (body:=F.ad a0 (spots g d) st) (rest:=some false) (y:=true) (p:=p) (l:=spots g d) fun sp hsp=>by
   obtain⟨b,h1,_,_⟩:=hval sp hsp
   obtain⟨⟨j,n,hn,hid⟩,hdd⟩:=hok sp hsp
   have hng:=List.mem_of_getElem? hn
   have hids:=own_id (ho n hng)
   have hport:0≤sp.1.2∧sp.1.2≤2:=spots_port ho d 0 g (fun n hn=>hn) sp hsp
   unfold F.ad
   have hh:decide (A.h6 sp.1.1)=true∧decide (A.h6 sp.1.2)=true:=⟨decide_eq_true (Z.i64_has ⟨by omega,by omega⟩),decide_eq_true (Z.i64_has ⟨by omega,by omega⟩)⟩
   rw[A.gd1 hh,show F.ag a0 st (spots g d) sp.1 sp.2=_ from h1,Option.bind_some,show p sp=b from congrArg (fun o=>Option.getD o false) h1]
  rw[this]
  cases (spots g d).any p<;>rfl
 ·have loop:=A.lp0 (spots g d) (fun f y=>F.bk g r5 r9 (spots g d) (edges g d) f y) (fun _ t=>some (if t.any p=true then([],[],81)else(r5.1,r9.1,0)))
   (fun f=>by rw[F.bk,if_neg (by omega)];rfl)
   (fun f k x hx hk ih=>by
    obtain⟨b,h1,h2,_⟩:=hval x (List.mem_of_getElem? hx)
    rw[F.bk,if_pos (by omega),A.ixn hx,Option.bind_some,show F.cC g (spots g d) (edges g d) (x.1,x.2)=_ from h2,Option.bind_some,List.any_cons,show p x=b from congrArg (fun o=>Option.getD o false) h1]
    cases b with
    |true=>rfl
    |false=>rw[if_neg Bool.false_ne_true,A.gd1 (A.r64n (by omega)),ih,Bool.false_or])
   (by have:=FU_big;omega)
  exact loop
 ·rw[List.any_eq_true]
  exact⟨fun⟨sp,h1,h2⟩=>⟨sp,h1,(hp sp h1).1 h2⟩,fun⟨sp,h1,h2⟩=>⟨sp,h1,(hp sp h1).2 h2⟩⟩
theorem own_of {g:List Nd}(h:okL g 0 0 g=true):Own g:=fun n hn=>by
 obtain⟨j,hj⟩:=List.mem_iff_getElem?.1 hn
 have hL:=okL_iff g g.length 0 (by omega)
 rw[List.drop_zero,show lastOf g 0=0 from rfl]at hL
 have:=hL.1 h j n (by omega) hj
 cases hq:ownQ n with
 |true=>rfl
 |false=>exact absurd (.inr (.inl hq)) this
theorem orderF_plc (g:List Nd): ∀(r:Nat) (done:List Bool) (l l':List Int),orderF g r done l=some l'→Plc g l→Plc g l'
 |0,done,l,l',h,hp=>by injection h with h;subst h;exact hp
 |r+1,done,l,l',h,hp=>by
  rw[orderF]at h
  by_cases hc:firstF g done 0 g (-1)<0
  ·rw[if_pos hc]at h;cases h
  ·rw[if_neg hc]at h
   by_cases hg:g.length=0
   ·have:=firstF_le g done 0 g (-1) (by omega)
    have e:g=[]:=List.eq_nil_of_length_eq_zero hg
    subst e
    simp[firstF]at hc
   ·have hle:=firstF_le g done 0 g (-1) (by omega) (by omega)
    refine orderF_plc g r _ _ l' h fun i p hip=>?_
    rw[List.getElem?_append]at hip
    split at hip
    ·exact hp i p hip
    ·rename_i hil
     have:i-l.length=0:=by
      have:=(List.getElem?_eq_some_iff.1 hip).1
      simp only[List.length_cons,List.length_nil]at this;omega
     rw[this]at hip
     injection hip with hip
     subst hip
     exact⟨(firstF g done 0 g (-1)).toNat,g[(firstF g done 0 g (-1)).toNat]'(by omega),by omega,List.getElem?_eq_getElem (by omega)⟩
structure Whole (g:List Nd) (l d:List Int) (dm:List (Int×Int)):Prop where
 inc:Inc g
 fed:Fed g
 own:Own g
 rel:RelD g d dm
 inb:InB d
 dlen:d.length=g.length
 key:KeyD g l dm
 plc:Plc g l
 llen:l.length=g.length
 ord:orderF g g.length (List.replicate g.length false) []=some l
 dep:depthsF g l (List.replicate g.length 0)=some d
 lps:loopsF g d g=true
 nort: ∀sp∈spots g d,¬Rch (okE g (spots g d) (edges g d) sp.2) sp.1 sp.1
 kin:g.all (fun n=>n.2.2.1.all (inOk g))=true
 okr:okR g 0 g=true
 chk:g.all (fun n=>decide (chk n.2.1 n.2.2.2.1=0))=true
 l32:g.length≤32
theorem whole_same (g:List Nd)(hb:Few g):
  (∃e,e≠0∧F.aM g=some (none,e)∧F.ci g=some ([],[],e))∨
  (∃l d dm,F.aM g=some (some (mapOf g,l.map (idAt g),dm),0)∧F.ci g=some (l,d,0)∧Whole g l d dm):=by
 rw[whole_P g hb]
 unfold F.ci
 rw[parts_eq g hb,ok_eq]
 by_cases h32:(32:Int)<(g.length:Int)
 ·rw[if_pos h32,if_pos h32]
  exact .inl ⟨80,by decide,rfl,rfl⟩
 rw[if_neg h32,if_neg h32]
 by_cases hok:okR g 0 g=true
 case neg=>rw[if_neg hok,if_neg hok];exact .inl ⟨80,by decide,rfl,rfl⟩
 rw[if_pos hok,if_pos hok]
 by_cases hfn:g.all (fun n=>decide (chk n.2.1 n.2.2.2.1=0))=true
 case neg=>rw[if_neg hfn,if_neg hfn];exact .inl ⟨60,by decide,rfl,rfl⟩
 rw[if_pos hfn,if_pos hfn]
 by_cases hin:g.all (fun n=>n.2.2.1.all (inOk g))=true
 case neg=>rw[if_neg hin,if_neg hin];exact .inl ⟨80,by decide,rfl,rfl⟩
 rw[if_pos hin,if_pos hin,Option.bind_some,if_neg (by decide)]
 have hi:=ok_inc hok
 have hfed:=fed_of hin
 have ho:=own_of (by rw[ok_eq];exact hok)
 have hlen:=hb.1
 unfold sortP
 rcases order_sort hb hi hfed (mapOf g)with⟨l,h1,h2,h3,h4⟩|⟨h1,p,h2⟩
 case inr=>rw[h1,h2];exact .inl ⟨81,by decide,rfl,rfl⟩
 rw[h1,h2]
 simp only[Option.bind_some,Bool.not_true,Bool.false_eq_true,if_false]
 have hplc:Plc g l:=orderF_plc g g.length _ [] l h4 fun i p h=>by cases h
 rcases depths_same g l hb hi hfed ho (by omega) hplc with⟨d,dm,d1,d2,d3,d4,d5,d6,d7,d8⟩|⟨d1,p,d2⟩
 case inr=>rw[d1,d2];exact .inl ⟨80,by decide,rfl,rfl⟩
 rw[d1,d2]
 simp only[Option.bind_some,Bool.not_true,Bool.false_eq_true,if_false]
 obtain⟨b,t1,t2,t3⟩:=turns_same g d (mapOf g,l.map (idAt g),dm) rfl hb hi hfed ho d4 d3 d5
 rw[t1,spotsR_eq g d hb hfed ho d5]
 simp only[Option.bind_some]
 rw[edgesR_eq g d hb hi ho d4]
 simp only[Option.bind_some,t2]
 cases b with
 |true=>exact .inl ⟨81,by decide,rfl,rfl⟩
 |false=>exact .inr ⟨l,d,dm,rfl,rfl,hi,hfed,ho,d3,d4,d5,d6,hplc,h3,h4,d8,d7,fun sp h1 h2=>Bool.noConfusion (t3.2 ⟨sp,h1,h2⟩),hin,hok,hfn,by omega⟩
theorem firstF_new (g:List Nd)(done:List Bool): ∀(r:List Nd) (i:Nat) (a:Int),0≤firstF g done i r a→(0≤a∧firstF g done i r a=a)∨(∃j:Nat,firstF g done i r a=(j:Int)∧j<i+r.length∧bget done (j:Int)=false)
 | [],i,a,h=>.inl ⟨h,rfl⟩
 |x::r,i,a,h=>by
  unfold firstF at h ⊢
  rcases firstF_new g done r (i+1) _ h with⟨h1,h2⟩|⟨j,h1,h2,h3⟩
  ·by_cases hc:(a<0∧bget done i=false)∧ready g done x=true
   ·rw[if_pos hc]at h2 ⊢
    exact .inr ⟨i,h2,by simp only[List.length_cons];omega,hc.1.2⟩
   ·rw[if_neg hc]at h1 h2 ⊢
    exact .inl ⟨h1,h2⟩
  ·exact .inr ⟨j,h1,by simp only[List.length_cons];omega,h3⟩
theorem bget_set (l:List Bool)(j k:Nat)(hj:j<l.length):bget (l.set j true) (k:Int)=if j=k then true else bget l (k:Int):=by
 unfold bget
 rw[Int.toNat_natCast,List.getElem?_set]
 by_cases h:j=k
 ·subst h;simp[hj]
 ·rw[if_neg h,if_neg h]
theorem order_nodup (g:List Nd): ∀(r:Nat) (done:List Bool) (acc l:List Int),orderF g r done acc=some l→done.length=g.length→acc.Nodup→(∀p∈acc,∃j:Nat,p=(j:Int)∧bget done (j:Int)=true)→l.Nodup
 |0,done,acc,l,h,_,hn,_=>by unfold orderF at h;injection h with h;subst h;exact hn
 |r+1,done,acc,l,h,hd,hn,ha=>by
  unfold orderF at h
  split at h
  ·cases h
  ·rename_i h0
   rcases firstF_new g done g 0 (-1) (by omega)with⟨h1,_⟩|⟨j,h1,h2,h3⟩
   ·omega
   ·rw[h1,Int.toNat_natCast]at h
    refine order_nodup g r _ _ l h (by rw[List.length_set];exact hd) ?_ fun p hp=>?_
    ·rw[List.nodup_append]
     refine⟨hn,by simp,fun a ha' b hb=>?_⟩
     rw[List.mem_singleton]at hb
     obtain⟨i,e,hi⟩:=ha a ha'
     intro e2
     rw[e,hb]at e2
     have:i=j:=by omega
     subst this
     rw[hi]at h3;cases h3
    ·rcases List.mem_append.1 hp with hp|hp
     ·obtain⟨i,e,hi⟩:=ha p hp
      exact⟨i,e,by rw[bget_set _ _ _ (by omega)];split<;>first|rfl|exact hi⟩
     ·rw[List.mem_singleton]at hp
      exact⟨j,hp,by rw[bget_set _ _ _ (by omega),if_pos rfl]⟩
theorem Whole.all {g:List Nd}{l d:List Int}{dm:List (Int×Int)}(W:Whole g l d dm){j:Nat}(hj:j<g.length):(j:Int)∈l:=by
 have hn:=order_nodup g _ _ [] l W.ord (by simp) (by simp) (by simp)
 by_cases h:(j:Int)∈l
 ·exact h
 ·exfalso
  have hm:=nodup_len (l:=(j:Int)::l) (m:=(List.range g.length).map Int.ofNat) (List.nodup_cons.2 ⟨h,hn⟩) fun x hx=>by
   rcases List.mem_cons.1 hx with rfl|hx
   ·exact List.mem_map.2 ⟨j,List.mem_range.2 hj,rfl⟩
   ·obtain⟨i,hi,e⟩:=List.getElem_of_mem hx
    obtain⟨k,n,e2,hk⟩:=W.plc i x (by rw[List.getElem?_eq_getElem hi,e])
    exact List.mem_map.2 ⟨k,List.mem_range.2 (List.getElem?_eq_some_iff.1 hk).1,e2.symm⟩
  rw[List.length_cons,List.length_map,List.length_range,W.llen]at hm
  omega
theorem o_aa (g:List Nd)(done:List Bool): ∀(r k:Nat) (a:Int),k+r=g.length→0≤firstF g done k (g.drop k) a→(0≤a∧firstF g done k (g.drop k) a=a)∨∃(j:Nat) (n:Nd),firstF g done k (g.drop k) a=(j:Int)∧g[j]?=some n∧bget done (j:Int)=false∧ready g done n=true
 |0,k,a,hk,h=>by rw[List.drop_eq_nil_of_le (by omega)]at h ⊢;exact .inl ⟨h,rfl⟩
 |r+1,k,a,hk,h=>by
  have hx:g[k]?=some g[k]:=List.getElem?_eq_getElem (by omega)
  rw[firstF_x hx]at h ⊢
  rcases o_aa g done r (k+1) _ (by omega) h with⟨h1,h2⟩|h1
  ·by_cases hc:(a<0∧bget done k=false)∧ready g done g[k]=true
   ·rw[if_pos hc]at h2 ⊢;exact .inr ⟨k,g[k],h2,hx,hc.1.2,hc.2⟩
   ·rw[if_neg hc]at h1 h2 ⊢;exact .inl ⟨h1,h2⟩
  ·exact .inr h1
theorem firstF_no (g:List Nd)(done:List Bool): ∀(r k:Nat),k+r=g.length→firstF g done k (g.drop k) (-1)<0→∀(i:Nat) (n:Nd),k≤i→g[i]?=some n→bget done (i:Int)=false→ready g done n=false
 |0,k,hk,h,i,n,hi,hn,_=>by have:=(List.getElem?_eq_some_iff.1 hn).1;omega
 |r+1,k,hk,h,i,n,hi,hn,hb=>by
  have hx:g[k]?=some g[k]:=List.getElem?_eq_getElem (by omega)
  cases hr:ready g done g[k]with
  |false=>
   rw[firstF_c hx hr]at h
   by_cases hik:i=k
   ·subst hik;rw[hx]at hn;injection hn with hn;rw[←hn];exact hr
   ·exact firstF_no g done r (k+1) (by omega) h i n (by omega) hn hb
  |true=>
   cases hbk:bget done (k:Int)with
   |true=>
    rw[firstF_b (by omega) hbk]at h
    by_cases hik:i=k
    ·subst hik;rw[hb]at hbk;cases hbk
    ·exact firstF_no g done r (k+1) (by omega) h i n (by omega) hn hb
   |false=>
    rw[firstF_d hx (by omega) hbk hr,firstF_keep _ _ _ _ _ (by omega)]at h;omega
theorem readyF_iff (g:List Nd)(done:List Bool)(kd:Int): ∀l:List Int,readyF g done kd l=true↔(kd≠14→∀k∈l,bget done (idx g k)=true)
 | []=>⟨fun _ _ k hk=>(by cases hk),fun _=>rfl⟩
 |k::r=>by
  unfold readyF
  by_cases h:kd≠14∧bget done (idx g k)=false
  ·rw[if_pos h]
   refine⟨fun h=>(by cases h),fun h2=>?_⟩
   have:=h2 h.1 k (List.mem_cons_self ..)
   rw[h.2]at this;cases this
  ·rw[if_neg h,readyF_iff g done kd r]
   refine⟨fun h2 h3 x hx=>?_,fun h2 h3 x hx=>h2 h3 x (List.mem_cons_of_mem _ hx)⟩
   rcases List.mem_cons.1 hx with rfl|hx
   ·cases hb:bget done (idx g x)with
    |true=>rfl
    |false=>exact absurd ⟨h3,hb⟩ h
   ·exact h2 h3 x hx
def OrdOk (g:List Nd)(l:List Int):Prop:=∀(i:Nat) (p:Int),l[i]?=some p→∃(j:Nat) (n:Nd),p=(j:Int)∧g[j]?=some n∧(n.2.1≠14→∀k∈n.2.2.1,idx g k∈l.take i)
structure Syn (g:List Nd) (done:List Bool) (l:List Int):Prop where
 len:done.length=g.length
 nod:l.Nodup
 syn: ∀j:Nat,j<g.length→(bget done (j:Int)=true↔(j:Int)∈l)
 ord:OrdOk g l
theorem Syn.plc {g:List Nd}{done:List Bool}{l:List Int}(h:Syn g done l): ∀p∈l,∃j:Nat,p=(j:Int)∧j<g.length:=fun p hp=>by
 obtain⟨i,hi,e⟩:=List.getElem_of_mem hp
 obtain⟨j,n,e2,hn,_⟩:=h.ord i p (by rw[List.getElem?_eq_getElem hi,e])
 exact⟨j,e2,(List.getElem?_eq_some_iff.1 hn).1⟩
theorem Syn.zero (g:List Nd):Syn g (List.replicate g.length false) []:=by
 refine⟨by simp,List.nodup_nil,fun j hj=>?_,fun i p h=>by cases h⟩
 unfold bget
 rw[Int.toNat_natCast,List.getElem?_replicate,if_pos hj];simp
theorem Syn.step {g:List Nd}{done:List Bool}{l:List Int}(h:Syn g done l)(hf:Fed g){j:Nat}{n:Nd}(hn:g[j]?=some n)(hb:bget done (j:Int)=false)(hr:ready g done n=true):Syn g (done.set j true) (l++[(j:Int)]):=by
 have hj:=(List.getElem?_eq_some_iff.1 hn).1
 have hnl:(j:Int)∉l:=fun hm=>by rw[(h.syn j hj).2 hm]at hb;cases hb
 refine⟨by rw[List.length_set];exact h.len,?_,fun i hi=>?_,fun i p hp=>?_⟩
 ·rw[List.nodup_append]
  refine⟨h.nod,by simp,fun a ha b hb2=>?_⟩
  rw[List.mem_singleton]at hb2
  intro e;rw[e,hb2]at ha;exact hnl ha
 ·rw[bget_set _ _ _ (by rw[h.len];exact hj),List.mem_append,List.mem_singleton]
  by_cases e:j=i
  ·subst e;simp
  ·rw[if_neg e,h.syn i hi]
   exact⟨.inl,fun h2=>h2.elim (fun h3=>h3) (fun h3=>absurd h3 (by omega))⟩
 ·by_cases hil:i<l.length
  ·rw[List.getElem?_append_left hil]at hp
   obtain⟨k,m,e1,e2,e3⟩:=h.ord i p hp
   refine⟨k,m,e1,e2,fun h14 x hx=>?_⟩
   rw[List.take_append_of_le_length (by omega)];exact e3 h14 x hx
  ·have hi2:i=l.length:=by
    have:=(List.getElem?_eq_some_iff.1 hp).1
    simp only[List.length_append,List.length_cons,List.length_nil]at this;omega
   subst hi2
   rw[List.getElem?_append_right (Nat.le_refl _),Nat.sub_self]at hp
   injection hp with hp
   refine⟨j,n,hp.symm,hn,fun h14 x hx=>?_⟩
   rw[List.take_left]
   have h0:=hf n (List.mem_of_getElem? hn) x hx
   obtain⟨m,e1,_,_⟩:=idx_get h0
   have h2:=(readyF_iff g done n.2.1 n.2.2.1).1 hr h14 x hx
   have h3:=(h.syn _ (List.getElem?_eq_some_iff.1 e1).1)
   rw[Int.toNat_of_nonneg h0]at h3
   exact h3.1 h2
theorem order_syn (g:List Nd)(hf:Fed g): ∀(r:Nat) (done:List Bool) (l l':List Int),Syn g done l→orderF g r done l=some l'→∃done',Syn g done' l'
 |0,done,l,l',h,e=>by unfold orderF at e;injection e with e;subst e;exact⟨done,h⟩
 |r+1,done,l,l',h,e=>by
  unfold orderF at e
  split at e
  ·cases e
  ·rename_i h0
   have hk:=o_aa g done g.length 0 (-1) (by omega) (by rw[List.drop_zero];omega)
   rw[List.drop_zero]at hk
   rcases hk with⟨h1,_⟩|⟨j,n,h1,h2,h3,h4⟩
   ·omega
   ·rw[h1,Int.toNat_natCast]at e
    exact order_syn g hf r _ _ l' (h.step hf h2 h3 h4) e
theorem Whole.syn {g:List Nd}{l d:List Int}{dm:List (Int×Int)}(W:Whole g l d dm): ∃done,Syn g done l:=order_syn g W.fed _ _ _ l (Syn.zero g) W.ord
def dOf (g:List Nd)(d:List Int)(k:Int):Int:=iget d (idx g k)
theorem depthOf_14 {n:Nd}(h:n.2.1=14)(a b:List Int):depthOf n a=depthOf n b:=by unfold depthOf depthA;rw[if_pos h,if_pos h]
theorem inc_idx {g:List Nd}(hi:Inc g){j:Nat}{n:Nd}(hn:g[j]?=some n):idx g n.1=(j:Int):=hi.idx hn
theorem iget_set (d:List Int)(j k:Nat)(v:Int)(hj:j<d.length):iget (d.set j v) (k:Int)=if j=k then v else iget d (k:Int):=by
 unfold iget
 rw[Int.toNat_natCast,List.getElem?_set]
 by_cases h:j=k
 ·subst h;simp[hj]
 ·rw[if_neg h,if_neg h]
theorem at_nat {g:List Nd}{j:Nat}{n:Nd}(hn:g[j]?=some n):at_ g (j:Int)=n:=at_some rfl hn
theorem depths_fix {g:List Nd}{l:List Int}(hf:Fed g)(ho:OrdOk g l)(hnd:l.Nodup): ∀(r k:Nat) (d d':List Int),k+r=l.length→d.length=g.length→depthsF g (l.drop k) d=some d'→d'.length=g.length∧(∀j:Nat,(j:Int)∈l.take k→iget d' (j:Int)=iget d (j:Int))∧∀(i:Nat) (j:Nat) (n:Nd),k≤i→l[i]?=some (j:Int)→g[j]?=some n→iget d' (j:Int)=depthOf n (n.2.2.1.map (dOf g d'))∧0≤iget d' (j:Int)
 |0,k,d,d',hk,hd,h=>by
  rw[List.drop_eq_nil_of_le (by omega)]at h
  injection h with h;subst h
  exact⟨hd,fun j _=>rfl,fun i j n hi hl _=>by have:=(List.getElem?_eq_some_iff.1 hl).1;omega⟩
 |r+1,k,d,d',hk,hd,h=>by
  have hx:l[k]?=some l[k]:=List.getElem?_eq_getElem (by omega)
  obtain⟨j,n,e1,hn,hin⟩:=ho k _ hx
  have hj:=(List.getElem?_eq_some_iff.1 hn).1
  rw[depthsF_x (n:=n) hx (by rw[e1];exact at_nat hn)]at h
  split at h
  ·cases h
  rename_i h0
  rw[e1,Int.toNat_natCast]at h
  obtain⟨a1,a2,a3⟩:=depths_fix hf ho hnd r (k+1) _ d' (by omega) (by rw[List.length_set];exact hd) h
  have hjt:(j:Int)∈l.take (k+1):=by rw[take_s hx,e1];simp
  have hjk:(j:Int)∉l.take k:=fun hm=>by
   have h3:=hnd
   rw[←List.take_append_drop k l,List.nodup_append]at h3
   refine h3.2.2 _ hm (j:Int) ?_ rfl
   rw[A.dropx hx,e1];simp
  have keep: ∀i:Nat,(i:Int)∈l.take k→iget d' (i:Int)=iget d (i:Int):=fun i hi=>by
   rw[a2 i (by rw[take_s hx];exact List.mem_append_left _ hi),iget_set _ _ _ _ (by omega),if_neg (fun e=>hjk (by rw[e];exact hi))]
  have hjv:iget d' (j:Int)=depthOf n (n.2.2.1.map (dOf g d')):=by
   rw[a2 j hjt,iget_set _ _ _ _ (by omega),if_pos rfl]
   by_cases h14:n.2.1=14
   ·exact depthOf_14 h14 _ _
   ·congr 1
    refine List.map_congr_left fun x hx2=>?_
    have h4:=hin h14 x hx2
    have h5:=hf n (List.mem_of_getElem? hn) x hx2
    unfold dOf
    have h6:=keep (idx g x).toNat
    rw[Int.toNat_of_nonneg h5]at h6
    exact(h6 h4).symm
  have hj0:0≤iget d' (j:Int):=by
   rw[a2 j hjt,iget_set _ _ _ _ (by omega),if_pos rfl];omega
  refine⟨a1,keep,fun i j2 n2 hi hl hn2=>?_⟩
  by_cases hik:i=k
  ·subst hik
   rw[hx,e1]at hl;injection hl with hl
   have:j=j2:=by omega
   subst this
   rw[hn]at hn2;injection hn2 with hn2;subst hn2
   exact⟨hjv,hj0⟩
  ·exact a3 i j2 n2 (by omega) hl hn2
theorem Whole.fix {g:List Nd}{l d:List Int}{dm:List (Int×Int)}(W:Whole g l d dm){n:Nd}(hn:n∈g):dOf g d n.1=depthOf n (n.2.2.1.map (dOf g d))∧0≤dOf g d n.1:=by
 obtain⟨done,S⟩:=W.syn
 obtain⟨j,hj,e⟩:=List.getElem_of_mem hn
 have hg:g[j]?=some n:=by rw[List.getElem?_eq_getElem hj,e]
 obtain⟨i,hi,e2⟩:=List.getElem_of_mem (W.all hj)
 have h:=depths_fix W.fed S.ord S.nod l.length 0 (List.replicate g.length 0) d (by omega) (by simp) (by rw[List.drop_zero];exact W.dep)
 have:=h.2.2 i j n (Nat.zero_le _) (by rw[List.getElem?_eq_getElem hi,e2]) hg
 unfold dOf
 rw[inc_idx W.inc hg];exact this
theorem depths_get {g:List Nd}{l:List Int}(hi:Inc g)(hf:Fed g)(ho:OrdOk g l)(D:Int→Int)(hD: ∀n∈g,D n.1=depthOf n (n.2.2.1.map D)∧0≤D n.1): ∀(r k:Nat) (d:List Int),k+r=l.length→d.length=g.length→(∀(j:Nat) (n:Nd),(j:Int)∈l.take k→g[j]?=some n→iget d (j:Int)=D n.1)→∃d',depthsF g (l.drop k) d=some d'∧d'.length=g.length∧∀(j:Nat) (n:Nd),(j:Int)∈l→g[j]?=some n→iget d' (j:Int)=D n.1
 |0,k,d,hk,hd,h=>by
  rw[List.drop_eq_nil_of_le (by omega)]
  refine⟨d,rfl,hd,fun j n hj hn=>h j n ?_ hn⟩
  rw[List.take_of_length_le (by omega)];exact hj
 |r+1,k,d,hk,hd,h=>by
  have hx:l[k]?=some l[k]:=List.getElem?_eq_getElem (by omega)
  obtain⟨j,n,e1,hn,hin⟩:=ho k _ hx
  have hj:=(List.getElem?_eq_some_iff.1 hn).1
  have hng:=List.mem_of_getElem? hn
  have hv:depthOf n (inD g d n.2.2.1)=D n.1:=by
   rw[(hD n hng).1]
   by_cases h14:n.2.1=14
   ·exact depthOf_14 h14 _ _
   ·congr 1
    refine List.map_congr_left fun x hx2=>?_
    have h5:=hf n hng x hx2
    obtain⟨m,m1,m2,m3⟩:=idx_get h5
    have h6:=h (idx g x).toNat m (by rw[Int.toNat_of_nonneg h5];exact hin h14 x hx2) m1
    rw[Int.toNat_of_nonneg h5,m3]at h6
    exact h6
  rw[depthsF_x (n:=n) hx (by rw[e1];exact at_nat hn),hv,if_neg (by have:=(hD n hng).2;omega),e1,Int.toNat_natCast]
  refine depths_get hi hf ho D hD r (k+1) _ (by omega) (by rw[List.length_set];exact hd) fun i m hm hi2=>?_
  rw[take_s hx,e1,List.mem_append,List.mem_singleton]at hm
  rw[iget_set _ _ _ _ (by omega)]
  by_cases e:j=i
  ·subst e;rw[if_pos rfl];rw[hn]at hi2;injection hi2 with hi2;rw[hi2]
  ·rw[if_neg e]
   rcases hm with hm|hm
   ·exact h i m hm hi2
   ·omega
def nocap (n:Nd):Bool:=decide (n.2.1≠15)
def part (g:List Nd):List Nd:=g.filter nocap
theorem part_mem {g:List Nd}{n:Nd}:n∈part g↔n∈g∧n.2.1≠15:=by
 unfold part nocap;rw[List.mem_filter,decide_eq_true_iff]
section
variable {g:List Nd}{l d:List Int}{dm:List (Int×Int)}
theorem part_inc (W:Whole g l d dm):Inc (part g):=List.Pairwise.filter _ W.inc
theorem part_own (W:Whole g l d dm):Own (part g):=fun n hn=>W.own n (part_mem.1 hn).1
theorem part_few (hb:Few g):Few (part g):=⟨Nat.le_trans (List.length_filter_le _ _) hb.1,fun x hx=>hb.2 x (part_mem.1 hx).1⟩
theorem idx_mem (hi:Inc g){n:Nd}(hn:n∈g):0≤idx g n.1:=by
 obtain⟨j,hj,e⟩:=List.getElem_of_mem hn
 rw[hi.idx (show g[j]?=some n by rw[List.getElem?_eq_getElem hj,e])];omega
theorem fed_mem (W:Whole g l d dm){n:Nd}(hn:n∈g){k:Int}(hk:k∈n.2.2.1): ∃m∈part g,m.1=k:=by
 have h1:=List.all_eq_true.1 (List.all_eq_true.1 W.kin n hn) k hk
 unfold inOk at h1
 split at h1
 ·cases h1
 ·obtain⟨m,e1,e2,e3⟩:=idx_get (g:=g) (id:=k) (by omega)
  rw[e2]at h1
  exact⟨m,part_mem.2 ⟨List.mem_of_getElem? e1,of_decide_eq_true h1⟩,e3⟩
theorem part_fed (W:Whole g l d dm):Fed (part g):=fun n hn k hk=>by
 obtain⟨m,hm,e⟩:=fed_mem W (part_mem.1 hn).1 hk
 rw[←e];exact idx_mem (part_inc W) hm
theorem same_id (hi:Inc g){a b:Nd}(ha:a∈g)(hb:b∈g)(e:a.1=b.1):a=b:=by
 obtain⟨i,hi1,e1⟩:=List.getElem_of_mem ha
 obtain⟨j,hj1,e2⟩:=List.getElem_of_mem hb
 have h1:g[i]?=some a:=by rw[List.getElem?_eq_getElem hi1,e1]
 have h2:g[j]?=some b:=by rw[List.getElem?_eq_getElem hj1,e2]
 have:=hi.inj h1 h2 e
 subst this
 rw[h1]at h2;injection h2
theorem lt_of_inc (hi:Inc g)(ho:Own g){k:Nat}{n:Nd}(hn:g[k]?=some n):lastOf g k<n.1:=by
 have hid:=own_id (ho n (List.mem_of_getElem? hn))
 unfold lastOf
 split
 ·omega
 ·rename_i h0
  have hk:=(List.getElem?_eq_some_iff.1 hn).1
  have hx:g[k-1]?=some g[k-1]:=List.getElem?_eq_getElem (by omega)
  have:=hi.lt hx hn (by omega)
  rw[at_some (k:=k-1) (by omega) hx];exact this
theorem part_okr (W:Whole g l d dm):okR (part g) 0 (part g)=true:=by
 have hR:=okR_iff (part g) (part g).length 0 (by omega)
 have hG:=okR_iff g g.length 0 (by omega)
 rw[List.drop_zero]at hR hG
 have hg:=hG.1 W.okr
 refine hR.2 fun i n _ hn=>(own_iff (part_inc W) hn (lt_of_inc (part_inc W) (part_own W) hn)).2 ?_
 have hm:=part_mem.1 (List.mem_of_getElem? hn)
 obtain⟨j,hj,e⟩:=List.getElem_of_mem hm.1
 have hnj:g[j]?=some n:=by rw[List.getElem?_eq_getElem hj,e]
 have h1:=(own_iff W.inc hnj (lt_of_inc W.inc W.own hnj)).1 (hg j n (by omega) hnj)
 rintro(h2|h2|⟨h2,h3⟩)
 ·have:=lt_of_inc (part_inc W) (part_own W) hn;omega
 ·exact h1 (.inr (.inl h2))
 ·refine h1 (.inr (.inr ⟨h2,?_⟩))
  rw[twice_iff]at h3 ⊢
  obtain⟨m,hm1,h4⟩:=h3
  obtain⟨i2,hi2,e2⟩:=List.getElem_of_mem hm1
  rw[List.getElem_take]at e2
  rw[List.length_take]at hi2
  have h5:(part g)[i2]?=some m:=by rw[List.getElem?_eq_getElem (by omega),e2]
  have h6:=(part_inc W).lt h5 hn (by omega)
  obtain⟨j2,hj2,e3⟩:=List.getElem_of_mem (part_mem.1 (List.mem_of_getElem? h5)).1
  have h7:g[j2]?=some m:=by rw[List.getElem?_eq_getElem hj2,e3]
  have h8:j2<j:=by
   rcases Nat.lt_trichotomy j2 j with h|h|h
   ·exact h
   ·subst h;rw[hnj]at h7;injection h7 with h7;rw[h7]at h6;omega
   ·have:=W.inc.lt hnj h7 h;omega
  refine⟨m,?_,h4⟩
  have:(g.take j)[j2]?=some m:=by rw[List.getElem?_take,if_pos h8];exact h7
  exact List.mem_of_getElem? this
theorem part_chk (W:Whole g l d dm):(part g).all (fun n=>decide (chk n.2.1 n.2.2.2.1=0))=true:=
 List.all_eq_true.2 fun n hn=>List.all_eq_true.1 W.chk n (part_mem.1 hn).1
theorem part_kin (W:Whole g l d dm):(part g).all (fun n=>n.2.2.1.all (inOk (part g)))=true:=
 List.all_eq_true.2 fun n hn=>List.all_eq_true.2 fun k hk=>by
  obtain⟨m,hm,e⟩:=fed_mem W (part_mem.1 hn).1 hk
  unfold inOk
  have h0:0≤idx (part g) k:=by rw[←e];exact idx_mem (part_inc W) hm
  rw[if_neg (by omega)]
  obtain⟨m2,e1,e2,e3⟩:=idx_get h0
  rw[e2,same_id (part_inc W) (List.mem_of_getElem? e1) hm (e3.trans e.symm)]
  exact decide_eq_true (part_mem.1 hm).2
theorem range_le {l:List Int}{n:Nat}(h: ∀j:Nat,j<n→(j:Int)∈l):n≤l.length:=by
 have hm:=nodup_len (l:=(List.range n).map Int.ofNat) (m:=l) (List.Pairwise.map Int.ofNat (fun a b hab e=>hab (Int.ofNat.inj e)) List.nodup_range) fun x hx=>by
  obtain⟨j,hj,rfl⟩:=List.mem_map.1 hx
  exact h j (List.mem_range.1 hj)
 rw[List.length_map,List.length_range]at hm;exact hm
theorem range_all {l:List Int}{n:Nat}(hn:l.Nodup)(hl:l.length=n)(h: ∀p∈l,∃j:Nat,p=(j:Int)∧j<n){j:Nat}(hj:j<n):(j:Int)∈l:=by
 by_cases hm:(j:Int)∈l
 ·exact hm
 ·exfalso
  have h2:=nodup_len (l:=(j:Int)::l) (m:=(List.range n).map Int.ofNat) (List.nodup_cons.2 ⟨hm,hn⟩) fun x hx=>by
   rcases List.mem_cons.1 hx with rfl|hx
   ·exact List.mem_map.2 ⟨j,List.mem_range.2 hj,rfl⟩
   ·obtain⟨i,e,hi⟩:=h x hx
    exact List.mem_map.2 ⟨i,List.mem_range.2 hi,e.symm⟩
  rw[List.length_cons,List.length_map,List.length_range]at h2;omega
theorem part_done (W:Whole g l d dm){done:List Bool}(hf:firstF (part g) done 0 (part g) (-1)<0): ∀(i j:Nat) (n:Nd),l[i]?=some (j:Int)→g[j]?=some n→n∈part g→bget done (idx (part g) n.1)=true:=by
 obtain⟨_,S⟩:=W.syn
 have hno:=firstF_no (part g) done (part g).length 0 (by omega) (by rw[List.drop_zero];exact hf)
 intro i
 induction i using Nat.strongRecOn with
 |ind i ih=>
  intro j n hl hn hp
  obtain⟨k,hk,e⟩:=List.getElem_of_mem hp
  have hpk:(part g)[k]?=some n:=by rw[List.getElem?_eq_getElem hk,e]
  rw[(part_inc W).idx hpk]
  cases hb:bget done (k:Int)with
  |true=>rfl
  |false=>
   exfalso
   have hr:=hno k n (by omega) hpk hb
   have:ready (part g) done n=true:=(readyF_iff _ _ _ _).2 fun h14 x hx=>by
    obtain⟨j2,n2,e1,e2,e3⟩:=S.ord i _ hl
    have:j=j2:=by omega
    subst this
    rw[hn]at e2;injection e2 with e2;subst e2
    obtain⟨m,hm,e4⟩:=fed_mem W (part_mem.1 hp).1 hx
    obtain⟨q,hq,e5⟩:=List.getElem_of_mem (part_mem.1 hm).1
    have hq2:g[q]?=some m:=by rw[List.getElem?_eq_getElem hq,e5]
    have h6:=e3 h14 x hx
    rw[←e4,W.inc.idx hq2]at h6
    obtain⟨i2,hi2,e7⟩:=List.getElem_of_mem h6
    rw[List.getElem_take]at e7
    rw[List.length_take]at hi2
    rw[←e4]
    exact ih i2 (by omega) q m (by rw[List.getElem?_eq_getElem (by omega),e7]) hq2 hm
   rw[this]at hr;cases hr
theorem part_order (W:Whole g l d dm): ∀(r:Nat) (done:List Bool) (acc:List Int),Syn (part g) done acc→acc.length+r=(part g).length→∃l',orderF (part g) r done acc=some l'∧l'.length=(part g).length
 |0,done,acc,S,h=>⟨acc,rfl,h⟩
 |r+1,done,acc,S,h=>by
  unfold orderF
  by_cases hf:firstF (part g) done 0 (part g) (-1)<0
  ·exfalso
   have hd:=part_done W hf
   have:(part g).length≤acc.length:=range_le fun j hj=>by
    have hx:(part g)[j]?=some (part g)[j]:=List.getElem?_eq_getElem hj
    have hm:=List.mem_of_getElem? hx
    obtain⟨q,hq,e⟩:=List.getElem_of_mem (part_mem.1 hm).1
    have hq2:g[q]?=some (part g)[j]:=by rw[List.getElem?_eq_getElem hq,e]
    obtain⟨i,hi,e2⟩:=List.getElem_of_mem (W.all hq)
    have:=hd i q _ (by rw[List.getElem?_eq_getElem hi,e2]) hq2 hm
    rw[(part_inc W).idx hx]at this
    exact(S.syn j hj).1 this
   omega
  ·rw[if_neg hf]
   have hk:=o_aa (part g) done (part g).length 0 (-1) (by omega) (by rw[List.drop_zero];omega)
   rw[List.drop_zero]at hk
   rcases hk with⟨h1,_⟩|⟨j,n,h1,h2,h3,h4⟩
   ·omega
   ·rw[h1,Int.toNat_natCast]
    exact part_order W r _ _ (S.step (part_fed W) h2 h3 h4) (by rw[List.length_append];simp;omega)
theorem insS_congr {g g':List Nd}{d d':List Int}(id:Int): ∀(k:Nat) (l:List Int),(∀x∈l,dOf g' d' x=dOf g d x)→insS g' d' id k l=insS g d id k l
 |_,[],_=>rfl
 |k,x::l,h=>by
  show((id,(k:Int)),dOf g' d' x)::insS g' d' id (k+1) l=((id,(k:Int)),dOf g d x)::insS g d id (k+1) l
  rw[h x (List.mem_cons_self ..),insS_congr id (k+1) l fun y hy=>h y (List.mem_cons_of_mem _ hy)]
theorem spots_iff {g:List Nd}{d:List Int}(hi:Inc g)(sp:Sp): ∀(m k:Nat),k+m=g.length→(sp∈spotsF g d k (g.drop k)↔∃n∈g.drop k,sp∈insS g d n.1 0 n.2.2.1∨(n.2.1≠15∧sp=((n.1,2),dOf g d n.1)))
 |0,k,h=>by rw[List.drop_eq_nil_of_le (by omega)];exact⟨fun h=>(by cases h),fun⟨_,h,_⟩=>(by cases h)⟩
 |m+1,k,h=>by
  have hx:g[k]?=some g[k]:=List.getElem?_eq_getElem (by omega)
  rw[spotsF_x hx,A.dropx hx,List.mem_append,List.mem_append,spots_iff hi sp m (k+1) (by omega)]
  have hout:sp∈outS g[k] (iget d (k:Int))↔(g[k].2.1≠15∧sp=((g[k].1,2),dOf g d g[k].1)):=by
   unfold outS dOf
   rw[hi.idx hx]
   split
   ·rename_i h15;rw[List.mem_singleton];exact⟨fun h=>⟨h15,h⟩,fun h=>h.2⟩
   ·rename_i h15;exact⟨fun h=>(by cases h),fun h=>absurd h.1 h15⟩
  rw[hout]
  constructor
  ·rintro(h1|h1|⟨n,h1,h2⟩)
   ·exact⟨_,List.mem_cons_self ..,.inl h1⟩
   ·exact⟨_,List.mem_cons_self ..,.inr h1⟩
   ·exact⟨n,List.mem_cons_of_mem _ h1,h2⟩
  ·rintro⟨n,h1,h2⟩
   rcases List.mem_cons.1 h1 with rfl|h1
   ·exact h2.elim .inl fun h2=>.inr (.inl h2)
   ·exact .inr (.inr ⟨n,h1,h2⟩)
theorem inE_congr {g g':List Nd}{d d':List Int}(n:Nd): ∀(k:Nat) (l:List Int),(∀x∈l,dOf g' d' x=dOf g d x)→inE g' d' n k l=inE g d n k l
 |_,[],_=>rfl
 |k,x::l,h=>by
  show((n.1,(k:Int)),(n.1,2),withinP n (dOf g' d' x))::inE g' d' n (k+1) l=((n.1,(k:Int)),(n.1,2),withinP n (dOf g d x))::inE g d n (k+1) l
  rw[h x (List.mem_cons_self ..),inE_congr n (k+1) l fun y hy=>h y (List.mem_cons_of_mem _ hy)]
theorem edges_iff {g:List Nd}{d:List Int}(hi:Inc g)(e:Ed): ∀(m k:Nat),k+m=g.length→(e∈edgesF g d k (g.drop k)↔∃n∈g.drop k,n.2.1≠15∧(e∈inE g d n 0 n.2.2.1∨e∈outE g n (dOf g d n.1)))
 |0,k,h=>by rw[List.drop_eq_nil_of_le (by omega)];exact⟨fun h=>(by cases h),fun⟨_,h,_⟩=>(by cases h)⟩
 |m+1,k,h=>by
  have hx:g[k]?=some g[k]:=List.getElem?_eq_getElem (by omega)
  have e0:edgesF g d k (g[k]::g.drop (k+1))=(if g[k].2.1=15 then []else inE g d g[k] 0 g[k].2.2.1++outE g g[k] (iget d (k:Int)))++edgesF g d (k+1) (g.drop (k+1)):=by
   conv=>lhs;unfold edgesF
   split
   ·rfl
   ·rw[List.append_assoc]
  rw[A.dropx hx,e0,List.mem_append,edges_iff hi e m (k+1) (by omega)]
  have hd:dOf g d g[k].1=iget d (k:Int):=by unfold dOf;rw[hi.idx hx]
  by_cases h15:g[k].2.1=15
  ·rw[if_pos h15]
   constructor
   ·rintro(h1|⟨n,h1,h2⟩)
    ·cases h1
    ·exact⟨n,List.mem_cons_of_mem _ h1,h2⟩
   ·rintro⟨n,h1,h2⟩
    rcases List.mem_cons.1 h1 with rfl|h1
    ·exact absurd h15 h2.1
    ·exact .inr ⟨n,h1,h2⟩
  ·rw[if_neg h15,List.mem_append,←hd]
   constructor
   ·rintro(h1|⟨n,h1,h2⟩)
    ·exact⟨_,List.mem_cons_self ..,h15,h1⟩
    ·exact⟨n,List.mem_cons_of_mem _ h1,h2⟩
   ·rintro⟨n,h1,h2⟩
    rcases List.mem_cons.1 h1 with rfl|h1
    ·exact .inl h2.2
    ·exact .inr ⟨n,h1,h2⟩
theorem usesF_sub (id:Int)(p:Nd→Bool): ∀(l:List Nd) (u:Pl),u∈usesF id (l.filter p)→u∈usesF id l
 | [],u,h=>h
 |n::l,u,h=>by
  show u∈useN id n.1 0 n.2.2.1++usesF id l
  rw[List.mem_append]
  rw[List.filter_cons]at h
  split at h
  ·have h:u∈useN id n.1 0 n.2.2.1++usesF id (l.filter p):=h
   rcases List.mem_append.1 h with h|h
   ·exact .inl h
   ·exact .inr (usesF_sub id p l u h)
  ·exact .inr (usesF_sub id p l u h)
theorem Rch.map {α:Type}{R R':α→α→Prop}{a b:α}(h:Rch R a b)(hR: ∀x y,R x y→R' x y):Rch R' a b:=by
 induction h with
 |one h=>exact .one (hR _ _ h)
 |step _ h2 ih=>exact .step ih (hR _ _ h2)
theorem part_ways (W:Whole g l d dm){d':List Int}(hd: ∀n∈part g,dOf (part g) d' n.1=dOf g d n.1): ¬ ∃sp∈spots (part g) d',Rch (okE (part g) (spots (part g) d') (edges (part g) d') sp.2) sp.1 sp.1:=by
 have hi:=part_inc W
 have hin: ∀n∈part g,∀x∈n.2.2.1,dOf (part g) d' x=dOf g d x:=fun n hn x hx=>by
  obtain⟨m,hm,e⟩:=fed_mem W (part_mem.1 hn).1 hx
  rw[←e];exact hd m hm
 have hs: ∀sp∈spots (part g) d',sp∈spots g d:=fun sp h=>by
  have h1:=(spots_iff (d:=d') hi sp (part g).length 0 (by omega)).1 (by rw[List.drop_zero];exact h)
  rw[List.drop_zero]at h1
  obtain⟨n,hn,h2⟩:=h1
  have h3:=(spots_iff (d:=d) W.inc sp g.length 0 (by omega)).2 (by
   rw[List.drop_zero]
   refine⟨n,(part_mem.1 hn).1,?_⟩
   rcases h2 with h2|⟨h2,h4⟩
   ·rw[insS_congr n.1 0 _ (hin n hn)]at h2;exact .inl h2
   ·rw[hd n hn]at h4;exact .inr ⟨h2,h4⟩)
  rw[List.drop_zero]at h3;exact h3
 have he: ∀e∈edges (part g) d',e∈edges g d:=fun e h=>by
  have h1:=(edges_iff (d:=d') hi e (part g).length 0 (by omega)).1 (by rw[List.drop_zero];exact h)
  rw[List.drop_zero]at h1
  obtain⟨n,hn,h15,h2⟩:=h1
  have h3:=(edges_iff (d:=d) W.inc e g.length 0 (by omega)).2 (by
   rw[List.drop_zero]
   refine⟨n,(part_mem.1 hn).1,h15,?_⟩
   rcases h2 with h2|h2
   ·rw[inE_congr n 0 _ (hin n hn)]at h2;exact .inl h2
   ·rw[hd n hn]at h2
    refine .inr ?_
    unfold outE at h2 ⊢
    obtain⟨u,hu,e2⟩:=List.mem_map.1 h2
    exact List.mem_map.2 ⟨u,usesF_sub n.1 nocap g u hu,e2⟩)
  rw[List.drop_zero]at h3;exact h3
 have hat: ∀e∈edges (part g) d',atS e.2.1 (spots (part g) d')=atS e.2.1 (spots g d):=fun e h=>by
  obtain⟨v,hv⟩:=edge_to d' h
  rw[atS_mem (nodup_S hi (part_own W)) hv,atS_mem (nodup_S W.inc W.own) (hs _ hv)]
 have hfd: ∀e∈edges (part g) d',find (part g) e.1.1=find g e.1.1:=fun e h=>by
  obtain⟨n,hn,e1⟩:=edge_from d' h
  rw[e1]
  obtain⟨j,hj,e2⟩:=List.getElem_of_mem hn
  obtain⟨q,hq,e3⟩:=List.getElem_of_mem (part_mem.1 hn).1
  rw[find_eq hi (show(part g)[j]?=some n by rw[List.getElem?_eq_getElem hj,e2]),find_eq W.inc (show g[q]?=some n by rw[List.getElem?_eq_getElem hq,e3])]
 rintro⟨sp,h1,h2⟩
 refine W.nort sp (hs sp h1) (h2.map fun p q h3=>?_)
 obtain⟨e,a1,a2,a3,a4⟩:=h3
 refine⟨e,he e a1,a2,a3,?_⟩
 unfold openB at a4 ⊢
 rw[hat e a1,hfd e a1]at a4;exact a4
theorem part_check (hb:Few g)(h:F.ay g=some 0):F.ay (part g)=some 0:=by
 unfold F.ay at h ⊢
 rcases whole_same g hb with⟨e,h0,h1,_⟩|⟨l,d,dm,h1,_,W⟩
 ·rw[h1]at h
  have:some e=some (0:Int):=h
  exact absurd (Option.some.inj this) h0
 have hb':=part_few hb
 have hi:=part_inc W
 have hf:=part_fed W
 have ho:=part_own W
 have h32:(part g).length≤32:=Nat.le_trans (List.length_filter_le _ _) W.l32
 rcases whole_same (part g) hb' with⟨e,h0,h2,h3⟩|⟨l',d',dm',h2,_,_⟩
 case inr=>rw[h2];rfl
 exfalso
 obtain⟨l',o1,o2⟩:=part_order W (part g).length _ _ (Syn.zero (part g)) (by simp)
 obtain⟨done',S'⟩:=order_syn (part g) hf _ _ _ l' (Syn.zero _) o1
 have hcov: ∀j:Nat,j<(part g).length→(j:Int)∈l':=fun j hj=>range_all S'.nod o2 S'.plc hj
 obtain⟨d',d1,d2,d3⟩:=depths_get hi hf S'.ord (dOf g d) (fun n hn=>W.fix (part_mem.1 hn).1) l'.length 0 (List.replicate (part g).length 0) (by omega) (by simp) (fun j n hj _=>by cases hj)
 rw[List.drop_zero]at d1
 have hD: ∀n∈part g,dOf (part g) d' n.1=dOf g d n.1:=fun n hn=>by
  obtain⟨j,hj,e2⟩:=List.getElem_of_mem hn
  have hj2:(part g)[j]?=some n:=by rw[List.getElem?_eq_getElem hj,e2]
  have:=d3 j n (hcov j hj) hj2
  show iget d' (idx (part g) n.1)=_
  rw[hi.idx hj2];exact this
 have hloop:loopsF (part g) d' (part g)=true:=by
  have hg:=W.lps
  rw[loopsF_any,Bool.not_eq_true',List.any_eq_false]at hg ⊢
  intro n hn
  have h4:=hg n (part_mem.1 hn).1
  rw[decide_eq_true_iff]at h4 ⊢
  intro h5
  refine h4 ⟨h5.1,?_⟩
  have hl1:n.2.2.1.length=1:=by rcases own_len (ho n hn)with h|h|h<;>omega
  have hk0:n.2.2.1[0]?=some (iget n.2.2.1 0):=iget_nat (i:=0) (by omega)
  obtain⟨m,hm,e3⟩:=fed_mem W (part_mem.1 hn).1 (List.mem_of_getElem? hk0)
  have:=hD m hm
  rw[e3]at this
  unfold dOf at this
  rw[←this];exact h5.2
 have hplc:Plc (part g) l':=orderF_plc (part g) _ _ [] l' o1 fun i p h=>by cases h
 rcases depths_same (part g) l' hb' hi hf ho (by omega) hplc with⟨d2',dm',q1,q2,q3,q4,q5,q6,q7,q8⟩|⟨q1,_⟩
 case inr=>
  rw[depths_l4 (part g) l' hb' hf ho (by omega) hplc]at q1
  unfold depths at q1
  rw[d1]at q1
  simp only[hloop,if_true]at q1
  cases q1
 rw[d1]at q8
 obtain rfl:d'=d2':=Option.some.inj q8
 obtain⟨b,t1,t2,t3⟩:=turns_same (part g) d' (mapOf (part g),l'.map (idAt (part g)),dm') rfl hb' hi hf ho q4 q3 q5
 have hbf:b=false:=by
  cases b with
  |false=>rfl
  |true=>exact absurd (t3.1 rfl) (part_ways W hD)
 have hord:F.bS (part g)=some (l',true):=by
  rw[R_order_eq (part g) hb' hf];unfold ordR;rw[o1]
 unfold F.ci at h3
 rw[parts_eq (part g) hb',if_neg (by omega),if_pos (part_okr W),if_pos (part_chk W),if_pos (part_kin W),Option.bind_some,if_neg (by decide),hord]at h3
 simp only[Option.bind_some,Bool.not_true,Bool.false_eq_true,if_false]at h3
 rw[q1]at h3
 simp only[Option.bind_some,Bool.not_true,Bool.false_eq_true,if_false]at h3
 rw[spotsR_eq (part g) d' hb' hf ho q5]at h3
 simp only[Option.bind_some]at h3
 rw[edgesR_eq (part g) d' hb' hi ho q4]at h3
 simp only[Option.bind_some,t2]at h3
 rw[hbf]at h3
 have h4:=Option.some.inj h3
 exact h0 (congrArg (fun x=>x.2.2) h4).symm
end
def fewF (s:Int):List Nd→Int
 | []=>s
 |x::r=>fewF (min (s+min (x.2.2.1.length:Int) 1048576+min (x.2.2.2.2.1.size:Int) 1048576+min (x.2.2.2.1.2.2.size:Int) 1048576) 1048576) r
theorem fewF_mono: ∀(l:List Nd) (s:Int),0≤s→s≤1048576→s≤fewF s l
 | [],s,_,_=>Int.le_refl s
 |x::r,s,h,h2=>by
  unfold fewF
  have:=fewF_mono r (min (s+min (x.2.2.1.length:Int) 1048576+min (x.2.2.2.2.1.size:Int) 1048576+min (x.2.2.2.1.2.2.size:Int) 1048576) 1048576) (by omega) (by omega)
  omega
theorem fewF_le: ∀(l:List Nd) (s:Int),0≤s→s≤1048576→fewF s l≤5000→∀x∈l,x.2.2.1.length≤5000∧x.2.2.2.2.1.size≤5000∧x.2.2.2.1.2.2.size≤5000
 | [],_,_,_,_,x,hx=>by cases hx
 |y::r,s,h,h2,h3,x,hx=>by
  unfold fewF at h3
  have h4:=fewF_mono r (min (s+min (y.2.2.1.length:Int) 1048576+min (y.2.2.2.2.1.size:Int) 1048576+min (y.2.2.2.1.2.2.size:Int) 1048576) 1048576) (by omega) (by omega)
  rcases List.mem_cons.1 hx with rfl|hx
  ·omega
  ·exact fewF_le r _ (by omega) (by omega) h3 x hx
theorem few_eq (g:List Nd): ∃b,F.cI g=some b∧(b=true→Few g):=by
 unfold F.cI
 rw[A.gd1 (by omega)]
 have hlen:(List.take (min (g.length:Int) 99).toNat g).length≤99:=by rw[List.length_take];omega
 have:=A.lp (List.take (min (g.length:Int) 99).toNat g) (fun f s y=>F.bm g f s y) (fun _ l s=>some (bif decide ((g.length:Int)≤40)then decide (fewF s l≤5000)else false)) (fun _ s=>0≤s∧s≤1048576)
  (fun f s _=>by rw[F.bm,if_neg (by omega)];rfl)
  (fun f s k x hx hk hp ih=>by
   rw[F.bm,if_pos (by omega),A.ixn hx,Option.bind_some,A.gd1 ⟨⟨by omega,by omega⟩,⟨by omega,by omega⟩,⟨by omega,by omega⟩⟩,A.gd1 (A.r64n (by omega)),ih _ (by omega)]
   rfl)
  (by have:=FU_big;omega) 0 (by omega)
 rw[this]
 refine⟨_,rfl,fun hb=>?_⟩
 by_cases h1:(g.length:Int)≤40
 ·simp only[h1,decide_true,cond_true,decide_eq_true_eq]at hb
  have e:List.take (min (g.length:Int) 99).toNat g=g:=List.take_of_length_le (by omega)
  rw[e]at hb
  exact⟨by omega,fewF_le g 0 (by omega) (by omega) hb⟩
 ·simp[h1]at hb
end Go.Proofs.YtbdlcighhphaoaaDoor
end
section
set_option linter.unusedVariables false
set_option linter.unusedSimpArgs false
namespace Go.A
theorem fst {α:Type}(l:List α)(p:α→Bool)(L:Nat→Int→Option Int)(h0: ∀f,L (f+1) (l.length:Int)=some (-1))
  (h1: ∀f (k:Nat) x,l[k]?=some x→k<l.length→L (f+1) (k:Int)=if p x=true then some (k:Int)else L f ((k:Int)+1)) (hl:l.length<FU):
  (L FU 0=some (-1)∧∀x∈l,p x=false)∨∃(k:Nat) (x:α),l[k]?=some x∧L FU 0=some (k:Int)∧p x=true∧∀y∈l.take k,p y=false:=by
 have main: ∀(n k f:Nat),k+n=l.length→n<f→(∀y∈l.take k,p y=false)→(L f (k:Int)=some (-1)∧∀x∈l,p x=false)∨∃(i:Nat) (x:α),l[i]?=some x∧L f (k:Int)=some (i:Int)∧p x=true∧∀y∈l.take i,p y=false:=by
  intro n
  induction n with
  |zero=>
   intro k f hk hf hp
   obtain⟨f,rfl⟩: ∃f',f=f'+1:=⟨f-1,by omega⟩
   obtain rfl:k=l.length:=by omega
   rw[List.take_of_length_le (Nat.le_refl _)]at hp
   exact .inl ⟨h0 f,hp⟩
  |succ n ih=>
   intro k f hk hf hp
   obtain⟨f,rfl⟩: ∃f',f=f'+1:=⟨f-1,by omega⟩
   have hx:l[k]?=some l[k]:=List.getElem?_eq_getElem (by omega)
   rw[h1 f k _ hx (by omega)]
   cases hb:p l[k]with
   |true=>rw[if_pos rfl];exact .inr ⟨k,_,hx,rfl,hb,hp⟩
   |false=>
    rw[if_neg Bool.false_ne_true]
    refine ih (k+1) f (by omega) (by omega) fun y hy=>?_
    rw[List.take_add_one,hx]at hy
    rcases List.mem_append.1 hy with h|h
    ·exact hp y h
    ·rw[Option.toList_some,List.mem_singleton]at h;rw[h];exact hb
 exact main l.length 0 FU (by omega) hl (by simp)
theorem del {α:Type}(l:List α)(p:α→Bool)(L:Nat→List α→Int→Int→Option (List α))
  (h0: ∀f xs (i:Nat),xs.length=l.length→i≤l.length→L (f+1) xs (i:Int) (l.length:Int)=some (xs.take i))
  (h1: ∀f xs (i j:Nat) x,xs[j]?=some x→i<j→j<l.length→xs.length=l.length→L (f+1) xs (i:Int) (j:Int)=if p x=true then L f xs (i:Int) ((j:Int)+1)else L f (xs.set i x) ((i:Int)+1) ((j:Int)+1))
  {k:Nat} {x:α} (hx:l[k]?=some x) (hp:p x=true) (hpre: ∀y∈l.take k,p y=false) (hl:l.length<FU):L FU l (k:Int) ((k:Int)+1)=some (l.filter fun y=> !p y):=by
 have main: ∀(n j i f:Nat) (xs:List α),j+n=l.length→n<f→i<j→xs.length=l.length→xs.take i=(l.take j).filter (fun y=> !p y)→xs.drop j=l.drop j→L f xs (i:Int) (j:Int)=some (l.filter fun y=> !p y):=by
  intro n
  induction n with
  |zero=>
   intro j i f xs hj hf hij hlen ht hd
   obtain⟨f,rfl⟩: ∃f',f=f'+1:=⟨f-1,by omega⟩
   obtain rfl:j=l.length:=by omega
   rw[h0 f xs i hlen (by omega),ht,List.take_of_length_le (Nat.le_refl _)]
  |succ n ih=>
   intro j i f xs hj hf hij hlen ht hd
   obtain⟨f,rfl⟩: ∃f',f=f'+1:=⟨f-1,by omega⟩
   have hy:l[j]?=some l[j]:=List.getElem?_eq_getElem (by omega)
   have hxj:xs[j]?=some l[j]:=by
    have:=congrArg List.head? hd
    rwa[List.head?_drop,List.head?_drop,hy]at this
   have htk:(l.take (j+1)).filter (fun y=> !p y)=(l.take j).filter (fun y=> !p y)++if p l[j]=true then []else [l[j]]:=by
    rw[List.take_add_one,hy,List.filter_append,Option.toList_some,List.filter_cons,List.filter_nil]
    cases p l[j]<;>rfl
   have hd2:xs.drop (j+1)=l.drop (j+1):=by
    have:=congrArg List.tail hd
    rwa[List.tail_drop,List.tail_drop]at this
   rw[h1 f xs i j _ hxj hij (by omega) hlen]
   cases hb:p l[j]with
   |true=>
    rw[if_pos rfl]
    exact ih (j+1) i f xs (by omega) (by omega) (by omega) hlen (by rw[htk,hb,if_pos rfl,List.append_nil,ht]) hd2
   |false=>
    rw[if_neg Bool.false_ne_true]
    have hset:(xs.set i l[j]).take (i+1)=xs.take i++[l[j]]:=by
     rw[List.take_add_one,List.getElem?_set,if_pos rfl,if_pos (by omega),List.take_set_of_le (Nat.le_refl _)];rfl
    have hdrop:(xs.set i l[j]).drop (j+1)=xs.drop (j+1):=List.drop_set_of_lt (by omega)
    have:=ih (j+1) (i+1) f (xs.set i l[j]) (by omega) (by omega) (by omega) (by rw[List.length_set];exact hlen) (by rw[htk,hb,if_neg Bool.false_ne_true,hset,ht]) (by rw[hdrop];exact hd2)
    exact this
 have hk:=(List.getElem?_eq_some_iff.1 hx).1
 refine main (l.length-(k+1)) (k+1) k FU l (by omega) (by omega) (by omega) rfl ?_ rfl
 rw[List.take_add_one,hx,List.filter_append,List.filter_eq_self.2 (fun y hy=>by rw[hpre y hy];rfl)]
 simp[hp]
end Go.A
end
