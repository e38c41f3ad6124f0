/- Functions on data, what they tell, and that the code computes them. -/
import Derived.Test.YtlbnpmfggfbdoaaGreatDoorE0
import Derived.Test.YtlbnpmfggfbdoaaGreatDoorE5
import Derived.Lib.TrimUEq
set_option linter.unusedVariables false
set_option linter.unusedSimpArgs false
set_option synthInstance.maxSize 1000000
set_option synthInstance.maxHeartbeats 400000
set_option maxRecDepth 20000
section
namespace Go.Graph
abbrev Fun:=Int×Int×ByteArray
abbrev Nd:=Int×Int×List Int×Fun×ByteArray×Int×Int
abbrev Pl:=Int×Int
abbrev Sp:=Pl×Int
abbrev id (x:Nd):Int:=x.1
abbrev kind (x:Nd):Int:=x.2.1
abbrev ins (x:Nd):List Int:=x.2.2.1
abbrev fn (x:Nd):Fun:=x.2.2.2.1
abbrev name (x:Nd):ByteArray:=x.2.2.2.2.1
abbrev cap (x:Nd):Int:=x.2.2.2.2.2.1
abbrev dep (x:Nd):Int:=x.2.2.2.2.2.2
def Few (g:List Nd):Prop:=g.length≤40∧∀x,x∈g→x.2.2.1.length≤5000∧x.2.2.2.2.1.size≤5000∧x.2.2.2.1.2.2.size≤5000
theorem Few.in {g:List Nd}{k:Nat}{x:Nd}(h:Few g)(H:g[k]?=some x):x.2.2.1.length≤5000:=(h.2 x (Qf H)).1
theorem dropc {α:Type}{xs:List α}{k:Nat}{x:α}(h:xs[k]?=some x):xs.drop k=x::xs.drop (k+1):=by
 obtain⟨H,I⟩:=Qc.1 h
 rw[Xy H,I]
def insK (k:Int):Int:=if k<1∨16<k then-1 else if k=1 then 0 else if k=5∨k=9 then 2 else 1
def Qau (c:UInt8):Bool:=decide ((97:Int)≤(c.toNat:Int)∧(c.toNat:Int)≤122∨(65:Int)≤(c.toNat:Int)∧(c.toNat:Int)≤90)
def Qgq (c:UInt8):Bool:=decide ((48:Int)≤(c.toNat:Int)∧(c.toNat:Int)≤57)
def Qcn (l:List UInt8):Bool:=l.all fun c=>Qau c||Qgq c
def named (s:ByteArray):Bool:=decide (s≠ByteArray.mk #[])&&decide ((s.size:Int)≤16)&&Qau (Z.bat s 0)&&Qcn s.data.toList
theorem Qfk {s:ByteArray}{i:Nat}(h:i<s.size):s.data.toList.drop i=Z.bat s i::s.data.toList.drop (i+1):=by
 have h':i<s.data.toList.length:=by simpa using h
 rw[Xy h']
 have H:i<s.data.size:=h
 congr 1
 simp[Z.bat,Wg H]
theorem Qfx {s:ByteArray}{i:Nat}(h: ¬i<s.size):s.data.toList.drop i=[]:=
 Q2 (by have H:s.data.toList.length=s.size:=rfl;omega)
theorem Qfl {s:ByteArray}(h:s≠ByteArray.mk #[]):0<s.size:=by
 rcases Nat.eq_zero_or_pos s.size with H|H
 ·have I:s.data=#[]:=Array.eq_empty_of_size_eq_zero H
  exact absurd (by cases s;simp_all) h
 ·exact H
def idxF (id:Int):Nat→List Nd→Int
 |_,[]=> -1
 |k,x::r=>if x.1=id then(k:Int)else idxF id (k+1) r
def idx (g:List Nd)(id:Int):Int:=idxF id 0 g
def Qcb (kd:Int)(s:ByteArray):List Nd→Int×Bool
 | []=>(0,false)
 |x::r=>if kind x=kd∧name x=s then(x.1,true)else Qcb kd s r
def z0:Nd:=(0,0,[],(0,0,ByteArray.mk #[]),ByteArray.mk #[],0,0)
def at_ (g:List Nd)(i:Int):Nd:=(g[i.toNat]?).getD z0
def find (g:List Nd)(id:Int):Nd×Bool:=if idx g id<0 then(z0,false)else(at_ g (idx g id),true)
theorem idxF_le (id:Int): ∀(k:Nat) (g:List Nd),-1≤idxF id k g∧idxF id k g<k+g.length
 |k,[]=>by simp[idxF];omega
 |k,x::r=>by
  unfold idxF
  have:=idxF_le id (k+1) r
  by_cases h:x.1=id
  ·rw[if_pos h];simp only[Qi];omega
  ·rw[if_neg h];simp only[Qi];omega
theorem idx_le (g:List Nd)(id:Int): -1≤idx g id∧idx g id<g.length:=by
 have:=idxF_le id 0 g
 unfold idx;omega
theorem Qav {g:List Nd}{i:Int}{x:Nd}{k:Nat}(hk:i=(k:Int))(h:g[k]?=some x):at_ g i=x:=by
 subst hk;simp[at_,h]
def ownT (g:List Nd)(n:Nd):Bool:=if n.2.1≠1∧n.2.1≠15 then decide (n.2.2.2.2.1=ByteArray.mk #[])else named n.2.2.2.2.1&&decide ((Qcb n.2.1 n.2.2.2.2.1 g).1=n.1)
def ownC (n:Nd):Prop:=n.2.1=14∧(n.2.2.2.2.2.1<1∨8<n.2.2.2.2.2.1∨n.2.2.2.2.2.2<1∨4<n.2.2.2.2.2.2)∨n.2.1≠14∧(n.2.2.2.2.2.1≠0∨n.2.2.2.2.2.2≠0)
instance (n:Nd):Decidable (ownC n):=by unfold ownC;infer_instance
def own (g:List Nd)(i:Int)(n:Nd):Bool:=
 if n.1<1∨255<n.1∨0<i∧n.1≤(at_ g (i-1)).1∨insK n.2.1<0∨(n.2.2.1.length:Int)≠insK n.2.1 then false else if ownC n then false else ownT g n
def bget (l:List Bool)(i:Int):Bool:=(l[i.toNat]?).getD false
def iget (l:List Int)(i:Int):Int:=(l[i.toNat]?).getD 0
def Fed (g:List Nd):Prop:=∀x,x∈g→∀k,k∈x.2.2.1→0≤idx g k
def Qei (g:List Nd)(done:List Bool)(kd:Int):List Int→Bool
 | []=>true
 |k::r=>if kd≠14∧bget done (idx g k)=false then false else Qei g done kd r
def ready (g:List Nd)(done:List Bool)(n:Nd):Bool:=Qei g done n.2.1 n.2.2.1
def Qad (g:List Nd)(done:List Bool):Nat→List Nd→Int→Int
 |_,[],a=>a
 |i,x::r,a=>Qad g done (i+1) r (if(a<0∧bget done i=false)∧ready g done x=true then i else a)
def Qaq (g:List Nd):Nat→List Bool→List Int→Option (List Int)
 |0,_,l=>some l
 |f+1,done,l=>if Qad g done 0 g (-1)<0 then none else Qaq g f (done.set (Qad g done 0 g (-1)).toNat true) (l++[Qad g done 0 g (-1)])
def d0:List Int→Int
 | []=>0
 |a::_=>a
def capd (d:Int):Int:=if 4<d then-1 else d
def Qct (n:Nd)(l:List Int):Int:=if n.2.1=14 then n.2.2.2.2.2.2 else if n.2.1=12 then d0 l+1 else if n.2.1=13 then d0 l-1 else
 if n.2.1=5∨n.2.1=9 then(if iget l 0≠iget l 1 then-1 else d0 l)else if n.2.1=11∨n.2.1=16∨n.2.1=15 then(if d0 l≠0 then-1 else d0 l)else d0 l
def depthOf (n:Nd)(l:List Int):Int:=capd (Qct n l)
theorem Qis {l:List Int}:iget l 0=d0 l:=by cases l<;>rfl
theorem d0_nil {l:List Int}(h:l.length=0):0=d0 l:=by cases l with
 |nil=>rfl
 |cons a r=>simp at h
def Qak (g:List Nd):List Int→List Int→Option (List Int)
 | [],d=>some d
 |p::r,d=>if depthOf (at_ g p) ((at_ g p).2.2.1.map fun k=>iget d (idx g k))<0 then none else Qak g r (d.set p.toNat (depthOf (at_ g p) ((at_ g p).2.2.1.map fun k=>iget d (idx g k))))
def Qbh (g:List Nd)(d:List Int):List Nd→Bool
 | []=>true
 |x::r=>if x.2.1=14∧iget d (idx g (iget x.2.2.1 0))≠x.2.2.2.2.2.2 then false else Qbh g d r
theorem Qdl (g:List Nd)(done:List Bool): ∀(i:Nat) (l:List Nd) (a:Int),-1≤a→a<i+l.length→ -1≤Qad g done i l a∧Qad g done i l a<i+l.length
 |i,[],a,I,H=>by simp[Qad]at*;omega
 |i,x::r,a,I,H=>by
  unfold Qad
  simp only[Qi]at H ⊢
  have:=Qdl g done (i+1) r (if(a<0∧bget done i=false)∧ready g done x=true then i else a) (by split<;>omega) (by split<;>omega)
  omega
theorem firstF_x {g:List Nd}{done:List Bool}{k:Nat}{a:Int}{x:Nd}(H:g[k]?=some x):Qad g done k (g.drop k) a=Qad g done (k+1) (g.drop (k+1)) (if(a<0∧bget done k=false)∧ready g done x=true then k else a):=by
 rw[dropc H];simp only[Qad]
def depths (g:List Nd)(l:List Int):List Int×Bool:=match Qak g l (List.replicate g.length 0)with
 |some d=>if Qbh g d g then(d,true)else([],false)
 |none=>([],false)
abbrev inD (g:List Nd) (d:List Int) (l:List Int):List Int:=l.map fun k=>iget d (idx g k)
def InB (d:List Int):Prop:=∀i,0≤iget d i∧iget d i≤4
theorem InB.rep (n:Nat):InB (List.replicate n 0):=fun i=>by
 unfold iget;rw[Xc];split<;>simp
theorem Qem (n:Nd)(l:List Int):depthOf n l≤4:=by unfold depthOf capd;split<;>omega
theorem InB.set {d:List Int}(h:InB d)(p:Nat){v:Int}(H:0≤v)(I:v≤4):InB (d.set p v):=fun i=>by
 unfold iget;rw[Ja]
 have:=h i
 unfold iget at this
 split
 ·split<;>simp<;>omega
 ·exact this
theorem InB.d0 {d:List Int}(h:InB d)(g:List Nd)(l:List Int): -1≤Graph.d0 (inD g d l)∧Graph.d0 (inD g d l)≤4:=by
 cases l with
 |nil=>simp[Graph.d0]
 |cons k r=>have:=h (idx g k);simp only[inD,Q3,Graph.d0];omega
theorem inD_take {g:List Nd}{d l:List Int}{k:Nat}{x:Int}(h:l[k]?=some x):inD g d (l.take k)++[iget d (idx g x)]=inD g d (l.take (k+1)):=by
 have H:=(Qc.1 h)
 rw[Yk,h];simp[inD]
theorem depthsF_x {g:List Nd}{l d:List Int}{k:Nat}{p:Int}{n:Nd}(hp:l[k]?=some p)(H:at_ g p=n):Qak g (l.drop k) d=if depthOf n (inD g d n.2.2.1)<0 then none else Qak g (l.drop (k+1)) (d.set p.toNat (depthOf n (inD g d n.2.2.1))):=by
 rw[dropc hp];simp only[Qak,H,inD]
def insS (g:List Nd)(d:List Int)(id:Int):Nat→List Int→List Sp
 |_,[]=>[]
 |k,x::r=>((id,(k:Int)),iget d (idx g x))::insS g d id (k+1) r
def outS (n:Nd)(v:Int):List Sp:=if n.2.1≠15 then [((n.1,2),v)]else []
def spotsF (g:List Nd)(d:List Int):Nat→List Nd→List Sp
 |_,[]=>[]
 |i,n::r=>insS g d n.1 0 n.2.2.1++(outS n (iget d i)++spotsF g d (i+1) r)
def spots (g:List Nd)(d:List Int):List Sp:=spotsF g d 0 g
def atS (p:Pl):List Sp→Int
 | []=> -1
 |x::r=>if x.1=p then x.2 else atS p r
abbrev Sm:=Int×Int×Int×Int×(Int×Int×Int×Int)
def z8:Sm:=(0,0,0,0,(0,0,0,0))
def Qbl (d a b:Int)(s:Sm):Sm×Int:=if d<a∨b<d then(z8,11)else((d,s.2),0)
def idP (d:Int):Sm×Int:=Qbl d 0 4 (0,d,0,0,(0,0,0,0))
def Qap (d:Int):Sm×Int:=Qbl d 0 3 (0,d,0,1,(0,0,0,0))
def Qas (d:Int):Sm×Int:=Qbl d 1 4 (0,d-1,0,0,(0,0,0,0))
def Qcm (d:Int):Sm×Int:=Qbl d 1 4 (0,d,1,0,(0,0,0,0))
def Qai (n:Nd)(d:Int):Sm:=if n.2.1=12 then(Qap d).1 else if n.2.1=13 then(Qas d).1 else if n.2.1=14 then(Qcm d).1 else(idP d).1
theorem Qgw (s:ByteArray)(pos:Nat):1≤(Utf8.decode s pos).2:=by
 unfold Utf8.decode;simp only[];repeat' split
 all_goals first|exact Q1 1|(simp;done)|omega
def Qck (f:Fun):Bool:=if f.1=3∨f.1=13 then decide (0≤f.2.1∧f.2.1≤64)else if f.1=6∨f.1=11 then decide (1≤f.2.1∧f.2.1≤1048576)else decide (f.2.1=0)
def tail5 (c:UInt8):Bool:=decide (128≤(c.toNat:Int)∧(c.toNat:Int)≤191)
def second (s:ByteArray)(i:Nat):UInt8:=if i+1<s.size then Z.bat s (i+1)else 0
end Go.Graph
end
section
namespace Go.A
open Go.Z
theorem r64n {n:Nat}(h:n<4611686018427387904):R64 ((n:Int)+1):=⟨by omega,by omega⟩
theorem gd1 {α:Type}{p:Prop}[Decidable p](h:p)(x:Option α):gd p x=x:=if_pos h
theorem ixn {α:Type}{xs:List α}{k:Nat}{x:α}(h:xs[k]?=some x):ix xs (k:Int)=some x:=by rw[ix_nat];exact h
theorem ixg {α:Type}{xs:List α}{i:Int}{x:α}(H:0≤i)(h:xs[i.toNat]?=some x):ix xs i=some x:=by unfold ix;rw[if_neg (by omega)];exact h
theorem dropx {α:Type}{xs:List α}{k:Nat}{x:α}(h:xs[k]?=some x):xs.drop k=x::xs.drop (k+1):=by
 obtain⟨H,I⟩:=Qc.1 h
 rw[Xy H,I]
theorem ba {p q:Prop}[Decidable p][Decidable q]:(bif decide p then decide q else false)=decide (p∧q):=by by_cases h:p<;>simp[h]
theorem bo {p q:Prop}[Decidable p][Decidable q]:(bif decide p then true else decide q)=decide (p∨q):=by by_cases h:p<;>simp[h]
theorem bn {p:Prop}[Decidable p]:(!decide p)=decide (¬p):=by by_cases h:p<;>simp[h]
theorem lp {α σ ρ:Type}(xs:List α)(L:Nat→σ→Int→Option ρ)(G:Nat→List α→σ→Option ρ)(P:Nat→σ→Prop)
  (I: ∀f s,P xs.length s→L (f+1) s (xs.length:Int)=G xs.length [] s)
  (J: ∀f s (k:Nat) x,xs[k]?=some x→k<xs.length→P k s→(∀s',P (k+1) s'→L f s' ((k:Int)+1)=G (k+1) (xs.drop (k+1)) s')→L (f+1) s k=G k (x::xs.drop (k+1)) s)
  (N:xs.length<FU) (s:σ) (O:P 0 s):L FU s 0=G 0 xs s:=by
 have main: ∀(n k f:Nat) (s:σ),k+n=xs.length→n<f→P k s→L f s (k:Int)=G k (xs.drop k) s:=by
  intro n
  induction n with
  |zero=>
   intro k f s hk W hp
   obtain⟨f,rfl⟩: ∃f',f=f'+1:=⟨f-1,by omega⟩
   obtain rfl:k=xs.length:=by omega
   rw[Q2 (Q1 _)];exact I f s hp
  |succ n Y=>
   intro k f s hk W hp
   obtain⟨f,rfl⟩: ∃f',f=f'+1:=⟨f-1,by omega⟩
   have H:xs[k]?=some xs[k]:=Qd (by omega)
   rw[dropx H]
   exact J f s k _ H (by omega) hp fun s' hp'=>Y (k+1) f s' (by omega) (by omega) hp'
 have:=main xs.length 0 FU s (by omega) N O
 simpa using this
theorem lp0 {α ρ:Type}(xs:List α)(L:Nat→Int→Option ρ)(G:Nat→List α→Option ρ)
  (H: ∀f,L (f+1) (xs.length:Int)=G xs.length [])
  (I: ∀f (k:Nat) x,xs[k]?=some x→k<xs.length→L f ((k:Int)+1)=G (k+1) (xs.drop (k+1))→L (f+1) k=G k (x::xs.drop (k+1)))
  (J:xs.length<FU):L FU 0=G 0 xs:=
 lp xs (fun f (_:Unit) y=>L f y) (fun k l _=>G k l) (fun _ _=>True) (fun f s _=>H f) (fun f s k x N hk _ O=>I f k x N hk (O () trivial)) J () trivial
end Go.A
namespace Go.Proofs.YtlbnpmfggfbdoaaGreatDoor
open Go.RowKit Go.Graph
theorem Qab:(18446744073709551616:Nat)<A.FU:=by decide
theorem ixb {s:ByteArray}{k:Nat}(h:k<s.size):A.ix s.data.toList (k:Int)=some (Z.bat s k):=by
 refine A.ixn ?_
 have:=Qfk h
 rw[←List.head?_drop,this];rfl
theorem Qdm (s:ByteArray):s.data.toList.length=s.size:=rfl
end Go.Proofs.YtlbnpmfggfbdoaaGreatDoor
end
section
namespace Go.Proofs.YtlbnpmfggfbdoaaGreatDoor
open Go.RowKit Go.Graph
abbrev Tm:=Int×Int×(Int×Int×Int×Int)
def pus (s:Sm):List Int:=[s.2.2.2.2.1,s.2.2.2.2.2.1,s.2.2.2.2.2.2.1,s.2.2.2.2.2.2.2]
structure OkS (s:Sm):Prop where
 f:0≤s.1∧s.1≤4
 n:0≤s.2.2.2.1∧s.2.2.2.1≤4
 k:0≤s.2.1∧s.2.1≤s.1
 kn:s.2.1+s.2.2.2.1≤4
 a:0≤s.2.2.1∧s.2.2.1≤1048576
 k0:s.2.1=0→s.2.2.1=0
 p: ∀(i:Nat) (x:Int),(pus s)[i]?=some x→0≤x∧x≤1048576∧(s.2.2.2.1≤(i:Int)→x=0)
theorem ix4 {a b c d i:Int}(h:0≤i∧i<4): ∃x,A.ix [a,b,c,d] i=some x∧[a,b,c,d][i.toNat]?=some x:=by
 have:i=0∨i=1∨i=2∨i=3:=by omega
 rcases this with rfl|rfl|rfl|rfl
 ·exact⟨a,rfl,rfl⟩
 ·exact⟨b,rfl,rfl⟩
 ·exact⟨c,rfl,rfl⟩
 ·exact⟨d,rfl,rfl⟩
def pok (n:Int):Nat→List Int→Bool
 |_,[]=>true
 |k,x::r=>decide (0≤x∧x≤1048576∧(n≤(k:Int)→x=0))&&pok n (k+1) r
theorem Qec (n:Int): ∀(k:Nat) (l:List Int),pok n k l=true↔∀(i:Nat) (x:Int),l[i]?=some x→0≤x∧x≤1048576∧(n≤((k+i:Nat):Int)→x=0)
 |_,[]=>by simp[pok]
 |k,y::r=>by
  rw[pok,Qm,decide_eq_true_iff,Qec n (k+1) r]
  constructor
  ·intro ⟨I,J⟩ i x H
   cases i with
   |zero=>simp at H;subst H;exact I
   |succ i=>
    have:=J i x (by simpa using H)
    rw[show k+1+i=k+(i+1) by omega]at this;exact this
  ·intro h
   refine⟨h 0 y rfl,fun i x H=>?_⟩
   have:=h (i+1) x (by simpa using H)
   rw[show k+1+i=k+(i+1) by omega];exact this
theorem Check_l2 (a:Sm):F.a2 a A.FU 0=some (if pok a.2.2.2.1 0 (pus a)=true then 0 else 20):=
 A.lp0 (pus a) (fun f z=>F.a2 a f z) (fun k l=>some (if pok a.2.2.2.1 k l=true then 0 else 20))
  (fun f=>by rw[F.a2,if_neg (by show ¬((4:Nat):Int)<4;omega)];rfl)
  (fun f k x W hk J=>by
   have Y:k<4:=hk
   rw[F.a2,if_pos (by omega),show A.ix [a.2.2.2.2.1,a.2.2.2.2.2.1,a.2.2.2.2.2.2.1,a.2.2.2.2.2.2.2] (k:Int)=some x from A.ixn W]
   simp only[Qa,F.cB]
   rw[pok]
   by_cases N:x<0
   ·rw[if_pos N,if_pos trivial,if_neg (by simp;intro;omega)]
   rw[if_neg N]
   by_cases O:(1048576:Int)<x
   ·rw[if_pos O,if_pos trivial,if_neg (by simp;intro;omega)]
   rw[if_neg O]
   by_cases H:a.2.2.2.1≤(k:Int)
   ·rw[if_pos H]
    by_cases I:x=0
    ·rw[if_neg (by simp[I]),A.gd1 (A.r64n (by omega)),J]
     rw[decide_eq_true (by omega:0≤x∧x≤1048576∧(a.2.2.2.1≤(k:Int)→x=0)),Xf]
    ·rw[if_pos (by simp[I]),if_neg (by simp only[Qm,decide_eq_true_eq];intro ⟨⟨_,_,h⟩,_⟩;exact I (h H))]
   ·rw[if_neg H,if_neg (by simp),A.gd1 (A.r64n (by omega)),J]
    rw[decide_eq_true (by omega:0≤x∧x≤1048576∧(a.2.2.2.1≤(k:Int)→x=0)),Xf])
  (by show 4<A.FU;decide)
theorem Qdj (s:Sm):(F.aa s=some 0∧OkS s)∨(F.aa s=some 20∧¬OkS s):=by
 unfold F.aa
 simp only[A.bo]
 rw[A.gd1 (fun h=>by have:=of_decide_eq_false h;exact⟨by omega,by omega⟩)]
 split
 ·rename_i h
  have h:=of_decide_eq_true h
  exact .inr ⟨rfl,fun o=>by have:=o.f;have:=o.n;have:=o.k;have:=o.kn;have:=o.a;omega⟩
 ·rename_i h
  have N:=of_decide_eq_false (Ym.2 h)
  split
  ·rename_i H
   simp only[A.ba,decide_eq_true_eq]at H
   exact .inr ⟨rfl,fun o=>H.2 (o.k0 H.1)⟩
  ·rename_i H
   simp only[A.ba,decide_eq_true_eq]at H
   rw[Check_l2]
   by_cases hp:pok s.2.2.2.1 0 (pus s)=true
   ·rw[if_pos hp]
    refine .inl ⟨rfl,⟨by omega,by omega,by omega,by omega,by omega,fun h=>Wb fun J=>H ⟨h,J⟩,fun i x I=>?_⟩⟩
    have:=(Qec _ 0 _).1 hp i x I
    rw[Wf]at this;exact this
   ·rw[if_neg hp]
    refine .inr ⟨rfl,fun o=>hp ((Qec _ 0 _).2 fun i x I=>?_)⟩
    rw[Wf];exact o.p i x I
theorem o_e {s:Sm}(h:OkS s):F.aa s=some 0:=(Qdj s).elim (fun h=>h.1) fun H=>absurd h H.2
structure Th (a b s:Sm):Prop where
 from_:s.1=a.1
 keep:s.2.1=min a.2.1 b.2.1
 add:s.2.2.1=(if a.2.1≤b.2.1 then a.2.2.1 else 0)+(if b.2.1≤a.2.1 then b.2.2.1 else 0)
 ends:s.2.1+s.2.2.2.1=b.2.1+b.2.2.2.1
end Go.Proofs.YtlbnpmfggfbdoaaGreatDoor
end
section
namespace Go.A
theorem fst {α:Type}(l:List α)(p:α→Bool)(L:Nat→Int→Option Int)(N: ∀f,L (f+1) (l.length:Int)=some (-1))
  (O: ∀f (k:Nat) x,l[k]?=some x→k<l.length→L (f+1) (k:Int)=if p x=true then some (k:Int)else L f ((k:Int)+1)) (W:l.length<FU):
  (L FU 0=some (-1)∧∀x∈l,p x=false)∨∃(k:Nat) (x:α),l[k]?=some x∧L FU 0=some (k:Int)∧p x=true∧∀y∈l.take k,p y=false:=by
 have main: ∀(n k f:Nat),k+n=l.length→n<f→(∀y∈l.take k,p y=false)→(L f (k:Int)=some (-1)∧∀x∈l,p x=false)∨∃(i:Nat) (x:α),l[i]?=some x∧L f (k:Int)=some (i:Int)∧p x=true∧∀y∈l.take i,p y=false:=by
  intro n
  induction n with
  |zero=>
   intro k f hk Y hp
   obtain⟨f,rfl⟩: ∃f',f=f'+1:=⟨f-1,by omega⟩
   obtain rfl:k=l.length:=by omega
   rw[W7 (Q1 _)]at hp
   exact .inl ⟨N f,hp⟩
  |succ n ih=>
   intro k f hk Y hp
   obtain⟨f,rfl⟩: ∃f',f=f'+1:=⟨f-1,by omega⟩
   have H:l[k]?=some l[k]:=Qd (by omega)
   rw[O f k _ H (by omega)]
   cases I:p l[k]with
   |true=>rw[if_pos rfl];exact .inr ⟨k,_,H,rfl,I,hp⟩
   |false=>
    rw[if_neg Wn]
    refine ih (k+1) f (by omega) (by omega) fun y J=>?_
    rw[Yk,H]at J
    rcases Qn.1 J with h|h
    ·exact hp y h
    ·rw[Option.toList_some,Qj]at h;rw[h];exact I
 exact main l.length 0 FU (by omega) W (by simp)
theorem eql {α:Type}[DecidableEq α](a b:List α)(L:Nat→Int→Option Bool)(hlen:a.length=b.length)(I: ∀f,L (f+1) (a.length:Int)=some true)
  (J: ∀f (k:Nat) x z,a[k]?=some x→b[k]?=some z→k<a.length→L (f+1) k=if x=z then L f ((k:Int)+1)else some false) (N:a.length<FU):L FU 0=some (decide (a=b)):=by
 have:=lp0 a L (fun k l=>some (decide (l=b.drop k)))
  (fun f=>by rw[I,hlen,Q2 (Q1 _)];rfl)
  (fun f k x O hk W=>by
   have H:b[k]?=some b[k]:=Qd (by omega)
   rw[J f k x _ O H hk,W,dropx H]
   by_cases h:x=b[k]
   ·rw[if_pos h];congr 1;exact decide_eq_decide.2 ⟨fun e=>by rw[h,e],fun e=>(List.cons.inj e).2⟩
   ·rw[if_neg h];congr 1;exact(decide_eq_false (fun e=>h (List.cons.inj e).1)).symm)
  N
 rw[Wa]at this;exact this
end Go.A
namespace Go.Proofs.YtlbnpmfggfbdoaaGreatDoor
open Go.RowKit Go.Graph
theorem may_l2 (a:Sm):F.cv a A.FU 0=some (pok a.2.2.2.1 0 (pus a)):=
 A.lp0 (pus a) (fun f z=>F.cv a f z) (fun k l=>some (pok a.2.2.2.1 k l))
  (fun f=>by rw[F.cv,if_neg (by show ¬((4:Nat):Int)<4;omega)];rfl)
  (fun f k x J hk N=>by
   have O:k<4:=hk
   rw[F.cv,if_pos (by omega),show A.ix [a.2.2.2.2.1,a.2.2.2.2.2.1,a.2.2.2.2.2.2.1,a.2.2.2.2.2.2.2] (k:Int)=some x from A.ixn J]
   simp only[Qa,F.dq,A.ba]
   rw[pok,A.gd1 (A.r64n (by omega)),N]
   by_cases H:0≤x∧x≤1048576
   ·rw[decide_eq_true H,if_neg (by decide)]
    by_cases I:a.2.2.2.1≤(k:Int)∧x≠0
    ·rw[if_pos (decide_eq_true I),decide_eq_false (fun h=>I.2 (h.2.2 I.1)),Yv]
    ·rw[if_neg (by rw[decide_eq_true_iff];exact I),decide_eq_true (p:=0≤x∧x≤1048576∧(a.2.2.2.1≤(k:Int)→x=0)) ⟨H.1,H.2,fun h=>Wb fun W=>I ⟨h,W⟩⟩,Xf]
   ·rw[decide_eq_false H,if_pos (by decide),decide_eq_false (fun h=>H ⟨h.1,h.2.1⟩),Yv])
  (by show 4<A.FU;decide)
theorem may_cases (s:Sm):(F.az s=some true∧OkS s)∨(F.az s=some false∧¬OkS s):=by
 unfold F.az F.cu
 simp only[A.bo,A.ba,F.dq,Qa]
 split
 ·rename_i h
  have h:=of_decide_eq_true h
  exact .inr ⟨rfl,fun o=>by have:=o.f;omega⟩
 rename_i O
 have O:=of_decide_eq_false (Ym.2 O)
 split
 ·rename_i h
  have h:=of_decide_eq_true h
  exact .inr ⟨rfl,fun o=>by have:=o.n;omega⟩
 rename_i W
 have W:=of_decide_eq_false (Ym.2 W)
 rw[A.gd1 (fun h=>by have:=of_decide_eq_false h;exact⟨by omega,by omega⟩)]
 split
 ·rename_i h
  have h:=of_decide_eq_true h
  exact .inr ⟨rfl,fun o=>by have:=o.k;have:=o.kn;omega⟩
 rename_i H
 have H:=of_decide_eq_false (Ym.2 H)
 by_cases I:0≤s.2.2.1∧s.2.2.1≤1048576
 case neg=>rw[decide_eq_false I,if_pos (by decide)];exact .inr ⟨rfl,fun o=>I o.a⟩
 rw[decide_eq_true I,if_neg (by decide)]
 split
 ·rename_i h
  have h:=of_decide_eq_true h
  exact .inr ⟨rfl,fun o=>h.2 (o.k0 h.1)⟩
 rename_i J
 have J:=of_decide_eq_false (Ym.2 J)
 rw[may_l2]
 cases hp:pok s.2.2.2.1 0 (pus s)with
 |true=>
  refine .inl ⟨rfl,⟨by omega,by omega,by omega,by omega,I,fun h=>Wb fun H=>J ⟨h,H⟩,fun i x N=>?_⟩⟩
  have:=(Qec _ 0 _).1 hp i x N
  rw[Wf]at this;exact this
 |false=>
  refine .inr ⟨rfl,fun o=>?_⟩
  have:pok s.2.2.2.1 0 (pus s)=true:=(Qec _ 0 _).2 fun i x N=>by rw[Wf];exact o.p i x N
  rw[hp]at this;cases this
theorem o_r {s:Sm}(h:OkS s):F.az s=some true:=(may_cases s).elim (fun h=>h.1) fun H=>absurd h H.2
theorem Check_no {s:Sm}(h: ¬OkS s):F.aa s=some 20:=(Qdj s).elim (fun H=>absurd H.2 h) fun h=>h.1
def okT (t:Tm):Prop:=0≤t.1∧t.1≤1073741824∧0≤t.2.1∧t.2.1≤4∧(0≤t.2.2.1∧t.2.2.1≤1048576∧(t.2.1≤0→t.2.2.1=0))∧(0≤t.2.2.2.1∧t.2.2.2.1≤1048576∧(t.2.1≤1→t.2.2.2.1=0))∧(0≤t.2.2.2.2.1∧t.2.2.2.2.1≤1048576∧(t.2.1≤2→t.2.2.2.2.1=0))∧(0≤t.2.2.2.2.2∧t.2.2.2.2.2≤1048576∧(t.2.1≤3→t.2.2.2.2.2=0))
structure ApOk (s:Sm) (t:Tm):Prop where
 ex: ∃(w:Tm) (v:Int),F.e4 s t=(if(1048576:Int)<v then some ((0,0,(0,0,0,0)),12)else some (w,0))∧F.e5 s t=((F.e2 w).bind fun r=>if r≠0 then some ((0,0,(0,0,0,0)),12)else some (w,0))∧(okT w↔¬(1048576:Int)<v)
end Go.Proofs.YtlbnpmfggfbdoaaGreatDoor
end
section
namespace Go.Proofs.YtlbnpmfggfbdoaaGreatDoor
open Go.RowKit Go.Graph
theorem Ins_eq (k:Int):F.d9 k=F.d0 k:=rfl
theorem Qez (k:Int):F.d0 k=some (insK k):=by
 unfold F.d0 insK
 simp only[Bool.cond_decide]
 by_cases I:k<1<;>by_cases J:16<k<;>simp[I,J]
 by_cases H:k=1
 ·simp[H]
 ·by_cases N:k=5<;>by_cases O:k=9<;>simp[H,N,O]
theorem Qhy (c:UInt8):F.d1 c=some (Qau c):=by
 unfold F.d1 Qau
 by_cases H:(97:Int)≤(c.toNat:Int)<;>by_cases I:(c.toNat:Int)≤122<;>simp[H,I]
theorem digit_eq (c:UInt8):F.eH c=some (Qgq c):=by
 unfold F.eH Qgq
 by_cases H:(48:Int)≤(c.toNat:Int)<;>by_cases I:(c.toNat:Int)≤57<;>simp[H,I]
theorem name_eq (s:ByteArray)(hs:s.size≤5000):F.eP s=some (named s):=by
 have loop:F.bL s A.FU 0=some (Qcn s.data.toList):=A.lp0 s.data.toList (fun f y=>F.bL s f y) (fun _ l=>some (Qcn l))
  (fun f=>by rw[F.bL,if_neg (by rw[Qdm];omega)];rfl)
  (fun f k x J hk N=>by
   have hk':k<s.size:=hk
   rw[F.bL,if_pos (by omega),A.ixn J,Qa,Qhy,Qa]
   cases I:Qau x with
   |true=>
    simp only[Xp,Qy,if_false,F.dt]
    rw[A.gd1 (A.r64n (by omega)),N];simp[Qcn,I]
   |false=>
    simp only[Yw,if_true,A.ixn J,Qa,digit_eq,F.dt]
    cases O:Qgq x with
    |true=>simp only[Xp,Qy,if_false];rw[A.gd1 (A.r64n (by omega)),N];simp[Qcn,I,O]
    |false=>simp[Qcn,I,O])
  (by rw[Qdm];have:=Qab;omega)
 unfold F.eP named
 by_cases H:s=ByteArray.mk #[]
 ·simp[H,F.cR]
 ·by_cases W:(16:Int)<(s.size:Int)
  ·have h2': ¬(s.size:Int)≤16:=by omega
   simp[H,W,h2',F.cR]
  ·have h2':(s.size:Int)≤16:=by omega
   have Y:=Qfl H
   have e0:A.ix s.data.toList 0=some (Z.bat s 0):=ixb Y
   simp only[H,W,h2',decide_false,cond_false,Qy,if_false,e0,Qa,Qhy,F.cR,loop,decide_true,ne_eq,not_false_eq_true,Y8,Xf]
   cases Qau (Z.bat s 0)<;>simp
theorem Qfq (s:ByteArray)(i:Nat):(s.get! i)=Z.bat s i:=by
 cases s;simp[ByteArray.get!,Z.bat,getElem!_def,Option.getD]
 rfl
theorem dec_at (s:ByteArray)(i:Nat):Utf8.decode s i=Lib.decodeN (s.size-i) (Z.bat s i).toNat (Z.bat s (i+1)).toNat (Z.bat s (i+2)).toNat (Z.bat s (i+3)).toNat:=by
 rw[Lib.decode_at,Qfq,Qfq,Qfq,Qfq]
theorem dec_lt {s:ByteArray}{i:Nat}(h:(Z.bat s i).toNat <128):Utf8.decode s i=((Z.bat s i).toNat,1):=by
 rw[dec_at];unfold Lib.decodeN;rw[if_pos h]
theorem dec_ge {s:ByteArray}{i:Nat}(h:128≤(Z.bat s i).toNat):128≤(Utf8.decode s i).1:=by
 rw[dec_at];unfold Lib.decodeN;rw[if_neg (by omega)]
 repeat' split
 all_goals first|(simp only[];omega)|decide
theorem named_eq (s:ByteArray)(hs:s.size≤9223372036854775807):F.cs s=some (named s):=by
 have loop: ∀(n p f:Nat),s.size-p≤n→n<f→F.a6 s f p=some ((if p=0∧0<s.size then Qau (Z.bat s 0)else true)&&Qcn (s.data.toList.drop p)&&(decide (s≠ByteArray.mk #[])&&decide ((s.size:Int)≤16))):=by
  intro n
  induction n with
  |zero=>
   intro p f hp hf
   obtain⟨f,rfl⟩: ∃f',f=f'+1:=⟨f-1,by omega⟩
   rw[F.a6,if_neg (by omega),Qfx (by omega),if_neg (by omega)]
   by_cases H:s=ByteArray.mk #[]<;>simp[H,Qcn]
  |succ n ih=>
   intro p f hp hf
   obtain⟨f,rfl⟩: ∃f',f=f'+1:=⟨f-1,by omega⟩
   by_cases I:p<s.size
   ·rw[F.a6,if_pos I,Qfk I]
    rcases Y4 (Z.bat s p).toNat 128 with Y|Y
    ·rw[dec_lt Y]
     have O:=ih (p+1) f (by omega) (by omega)
     rw[if_neg (fun h=>by omega)]at O
     simp only[O]
     have e1:(bif decide ((97:Int)≤((Z.bat s p).toNat:Int))then decide (((Z.bat s p).toNat:Int)≤122)else false)=decide ((97:Int)≤((Z.bat s p).toNat:Int)∧((Z.bat s p).toNat:Int)≤122):=by by_cases h:(97:Int)≤((Z.bat s p).toNat:Int)<;>simp[h]
     have e2:(bif decide ((65:Int)≤((Z.bat s p).toNat:Int))then decide (((Z.bat s p).toNat:Int)≤90)else false)=decide ((65:Int)≤((Z.bat s p).toNat:Int)∧((Z.bat s p).toNat:Int)≤90):=by by_cases h:(65:Int)≤((Z.bat s p).toNat:Int)<;>simp[h]
     rw[e1,e2]
     by_cases J:Qau (Z.bat s p)=true
     ·have hL':=J
      simp only[Qau,decide_eq_true_eq]at hL'
      have e3:(if p=0∧0<s.size then Qau (Z.bat s 0)else true)=true:=by split;rename_i h;rw[←h.1];exact J;rfl
      rw[e3]
      simp only[Qcn,Xw,J,Yu,Xf]
      by_cases H:(97:Int)≤((Z.bat s p).toNat:Int)∧((Z.bat s p).toNat:Int)≤122
      ·simp[H]
      ·have h2:=hL'.resolve_left H
       simp[H,h2]
     ·have hL':=J
      simp only[Qau,decide_eq_true_eq,not_or]at hL'
      rw[Bool.not_eq_true]at J
      simp only[hL'.1,hL'.2,decide_false,Qy,if_false,Yw,if_true]
      simp only[Qcn,Xw,J,W6]
      by_cases W:p=0
      ·subst W;simp[I,J]
      ·have h0': ¬(p:Int)=0:=by omega
       simp only[W,h0',decide_false,cond_false,false_and,if_false,Xf]
       by_cases N:Qgq (Z.bat s p)=true
       ·have hd':=N
        simp only[Qgq,decide_eq_true_eq]at hd'
        have a1: ¬((Z.bat s p).toNat:Int)<48:=by omega
        have a2: ¬(57:Int)<((Z.bat s p).toNat:Int):=by omega
        simp[a1,a2,N]
       ·have hd':=N
        simp only[Qgq,decide_eq_true_eq]at hd'
        rw[Bool.not_eq_true]at N
        by_cases a1:((Z.bat s p).toNat:Int)<48
        ·simp[a1,N]
        ·have a2:(57:Int)<((Z.bat s p).toNat:Int):=by omega
         simp[a1,a2,N]
    ·have N:=dec_ge Y
     have J:Qau (Z.bat s p)=false:=by unfold Qau;rw[decide_eq_false_iff_not];omega
     have hD:Qgq (Z.bat s p)=false:=by unfold Qgq;rw[decide_eq_false_iff_not];omega
     have b1: ¬((Utf8.decode s p).1:Int)≤122:=by omega
     have b2: ¬((Utf8.decode s p).1:Int)≤90:=by omega
     have b3:(57:Int)<((Utf8.decode s p).1:Int):=by omega
     have b4: ¬((Utf8.decode s p).1:Int)<48:=by omega
     simp[b1,b2,b3,b4,Qcn,J,hD]
   ·rw[F.a6,if_neg I,Qfx I,if_neg (by omega)]
    by_cases H:s=ByteArray.mk #[]<;>simp[H,Qcn]
 unfold F.cs
 rw[loop s.size 0 A.FU (by omega) (by have:=Qab;omega)]
 unfold named
 by_cases H:s=ByteArray.mk #[]
 ·simp[H]
 ·have W:=Qfl H
  simp only[W,and_self,if_true,Wa,ne_eq,H,not_false_eq_true,decide_true,Xf]
  congr 1
  cases Qau (Z.bat s 0)<;>cases Qcn s.data.toList<;>simp
theorem tail_eq (c:UInt8):F.cT c=some (tail5 c):=by
 unfold F.cT tail5
 by_cases H:(128:Int)≤(c.toNat:Int)<;>by_cases I:(c.toNat:Int)≤191<;>simp[H,I]
theorem ixk (s:ByteArray)(p k:Nat):A.ix s.data.toList ((p:Int)+(k:Int))=if p+k<s.size then some (Z.bat s (p+k))else none:=by
 have e:(p:Int)+(k:Int)=((p+k:Nat):Int):=by omega
 rw[e]
 by_cases h:p+k<s.size
 ·rw[if_pos h];exact ixb h
 ·rw[if_neg h,A.ix_nat];exact Q5 (by rw[Qdm];omega)
def wid (s:ByteArray)(p:Nat):Nat:=if Utf8.decode s p=(65533,1)then 0 else(Utf8.decode s p).2
theorem wid_le {s:ByteArray}{p:Nat}(h:p<s.size):p+wid s p≤s.size:=by
 unfold wid
 split
 ·omega
 ·rw[dec_at]
  unfold Lib.decodeN
  repeat' split
  all_goals simp only[]
  all_goals omega
def widN (n a b c d:Nat):Nat:=
 if a<128 then 1
 else if(194≤a∧a≤223)∧2≤n∧(128≤b∧b≤191)then 2
 else if(224≤a∧a≤239)∧3≤n∧(128≤b∧b≤191)∧(128≤c∧c≤191)∧¬(a=224∧b<160)∧¬(a=237∧159<b)then 3
 else if(240≤a∧a≤244)∧4≤n∧(128≤b∧b≤191)∧(128≤c∧c≤191)∧(128≤d∧d≤191)∧¬(a=240∧b<144)∧¬(a=244∧143<b)then 4
 else 0
theorem pq (c:Prop)[Decidable c](x w:Nat)(H:w≠1):(if(if c then(x,w)else(65533,1))=(65533,1)then 0 else(if c then(x,w)else(65533,1)).2)=if c then w else 0:=by
 by_cases h:c<;>simp[h,H]
theorem widN_eq (n a b c d:Nat)(O:a<256)(W:b<256)(Y:c<256)(hd:d<256):(if Lib.decodeN n a b c d=(65533,1)then 0 else(Lib.decodeN n a b c d).2)=widN n a b c d:=by
 unfold Lib.decodeN widN
 by_cases H:a<128
 ·simp only[H,if_true,Jg];rw[if_neg (by omega)]
 ·simp only[H,if_false]
  by_cases I:a / 32=6∧1<n∧b / 64=2
  ·simp only[if_pos I]
   rw[pq _ _ _ (by decide)]
   repeat' split
   all_goals omega
  ·simp only[if_neg I]
   by_cases J:a / 16=14∧(1<n∧b / 64=2)∧2<n∧c / 64=2
   ·simp only[if_pos J]
    rw[pq _ _ _ (by decide)]
    repeat' split
    all_goals omega
   ·simp only[if_neg J]
    by_cases N:a / 8=30∧(1<n∧b / 64=2)∧(2<n∧c / 64=2)∧3<n∧d / 64=2
    ·simp only[if_pos N]
     rw[pq _ _ _ (by decide)]
     repeat' split
     all_goals omega
    ·simp only[if_neg N,if_true]
     repeat' split
     all_goals omega
theorem wid_N (s:ByteArray)(p:Nat):wid s p=widN (s.size-p) (Z.bat s p).toNat (Z.bat s (p+1)).toNat (Z.bat s (p+2)).toNat (Z.bat s (p+3)).toNat:=by
 rw[←widN_eq _ _ _ _ _ (UInt8.toNat_lt _) (UInt8.toNat_lt _) (UInt8.toNat_lt _) (UInt8.toNat_lt _),←dec_at];rfl
theorem cnd {α:Type}{p:Prop}[Decidable p](x y:α):(bif decide p then x else y)=if p then x else y:=by by_cases h:p<;>simp[h]
set_option maxHeartbeats 4000000 in
theorem width_eq (s:ByteArray)(p:Nat)(hp:p<s.size)(hs:s.size≤5000):F.eh s p=some (wid s p:Int):=by
 have i1:A.ix s.data.toList ((p:Int)+1)=if p+1<s.size then some (Z.bat s (p+1))else none:=ixk s p 1
 have i2:A.ix s.data.toList ((p:Int)+2)=if p+2<s.size then some (Z.bat s (p+2))else none:=ixk s p 2
 have i3:A.ix s.data.toList ((p:Int)+3)=if p+3<s.size then some (Z.bat s (p+3))else none:=ixk s p 3
 have r1:Z.R64 ((p:Int)+1):=⟨by omega,by omega⟩
 have r2:Z.R64 ((p:Int)+2):=⟨by omega,by omega⟩
 have r3:Z.R64 ((p:Int)+3):=⟨by omega,by omega⟩
 unfold F.eh
 rw[A.gd1 ⟨by omega,by omega⟩,ixb hp,Qa,A.gd1 r1,i1,wid_N]
 generalize Z.bat s p=c0 at*
 generalize Z.bat s (p+1)=c1 at*
 generalize Z.bat s (p+2)=c2 at*
 generalize Z.bat s (p+3)=c3 at*
 have t (c:UInt8):tail5 c=decide (128≤c.toNat∧c.toNat≤191):=by unfold tail5;congr 1;exact propext ⟨fun h=>by omega,fun h=>by omega⟩
 by_cases h1:(1:Int)<(s.size:Int)-(p:Int)
 ·rw[if_pos h1,if_pos (by omega),Qa]
  simp only[F.c4,F.c3,F.cE,F.ci,tail_eq,Qa,t,A.gd1 r2,A.gd1 r3,i2,i3]
  unfold widN
  generalize hn:s.size-p=n
  have e2:((2:Int)≤(s.size:Int)-(p:Int))=(2≤n):=propext ⟨fun h=>by omega,fun h=>by omega⟩
  have e3:((3:Int)≤(s.size:Int)-(p:Int))=(3≤n):=propext ⟨fun h=>by omega,fun h=>by omega⟩
  have e4:((4:Int)≤(s.size:Int)-(p:Int))=(4≤n):=propext ⟨fun h=>by omega,fun h=>by omega⟩
  have f2:(p+2<s.size)=(3≤n):=propext ⟨fun h=>by omega,fun h=>by omega⟩
  have f3:(p+3<s.size)=(4≤n):=propext ⟨fun h=>by omega,fun h=>by omega⟩
  have hn2:2≤n:=by omega
  simp only[e2,e3,e4,f2,f3,A.ba,decide_eq_true_eq,hn2,and_true,true_and]
  have q0:((c0.toNat:Int)<128)=(c0.toNat<128):=propext ⟨fun h=>by omega,fun h=>by omega⟩
  have q1:((194:Int)≤(c0.toNat:Int)∧(c0.toNat:Int)≤223)=(194≤c0.toNat∧c0.toNat≤223):=propext ⟨fun h=>by omega,fun h=>by omega⟩
  have q2:((224:Int)≤(c0.toNat:Int)∧(c0.toNat:Int)≤239)=(224≤c0.toNat∧c0.toNat≤239):=propext ⟨fun h=>by omega,fun h=>by omega⟩
  have q3:((240:Int)≤(c0.toNat:Int)∧(c0.toNat:Int)≤244)=(240≤c0.toNat∧c0.toNat≤244):=propext ⟨fun h=>by omega,fun h=>by omega⟩
  have q4:((c0.toNat:Int)=224∧(c1.toNat:Int)<160)=(c0.toNat=224∧c1.toNat<160):=propext ⟨fun h=>by omega,fun h=>by omega⟩
  have q5:((c0.toNat:Int)=237∧(159:Int)<(c1.toNat:Int))=(c0.toNat=237∧159<c1.toNat):=propext ⟨fun h=>by omega,fun h=>by omega⟩
  have q6:((c0.toNat:Int)=240∧(c1.toNat:Int)<144)=(c0.toNat=240∧c1.toNat<144):=propext ⟨fun h=>by omega,fun h=>by omega⟩
  have q7:((c0.toNat:Int)=244∧(143:Int)<(c1.toNat:Int))=(c0.toNat=244∧143<c1.toNat):=propext ⟨fun h=>by omega,fun h=>by omega⟩
  simp only[q0,q1,q2,q3,q4,q5,q6,q7]
  have x1:240≤c0.toNat∧c0.toNat≤244→¬(224≤c0.toNat∧c0.toNat≤239):=fun h Y=>by omega
  have x2:240≤c0.toNat∧c0.toNat≤244→¬(194≤c0.toNat∧c0.toNat≤223):=fun h Y=>by omega
  have x3:224≤c0.toNat∧c0.toNat≤239→¬(194≤c0.toNat∧c0.toNat≤223):=fun h Y=>by omega
  by_cases K0:c0.toNat<128
  ·simp[K0]
  by_cases I:128≤c1.toNat∧c1.toNat≤191
  ·by_cases K1:194≤c0.toNat∧c0.toNat≤223
   ·simp only[if_neg K0,if_pos K1,if_pos I,K1,I,and_self,if_true];rfl
   ·by_cases K2:224≤c0.toNat∧c0.toNat≤239
    ·have K3: ¬(240≤c0.toNat∧c0.toNat≤244):=fun h=>x1 h K2
     by_cases H:3≤n
     ·by_cases J:128≤c2.toNat∧c2.toNat≤191
      ·by_cases N:c0.toNat=224∧c1.toNat<160
       ·simp only[if_neg K0,if_neg K1,if_pos (And.intro K2 H),if_pos I,if_pos H,Qa,if_pos J,eq_true N,if_true,false_and,K1,K3,eq_true N,not_true_eq_false,and_false,if_false];rfl
       ·by_cases W:c0.toNat=237∧159<c1.toNat
        ·simp only[if_neg K0,if_neg K1,if_pos (And.intro K2 H),if_pos I,if_pos H,Qa,if_pos J,if_neg N,eq_true W,if_true,false_and,K1,K3,eq_true W,not_true_eq_false,and_false,if_false];rfl
        ·simp only[if_neg K0,if_neg K1,if_pos (And.intro K2 H),if_pos I,if_pos H,Qa,if_pos J,if_neg N,if_neg W,false_and,K1,K2,H,I,J,N,W,not_false_eq_true,and_self,if_true,if_false];rfl
      ·simp only[if_neg K0,if_neg K1,if_pos (And.intro K2 H),if_pos I,if_pos H,Qa,if_neg J,if_neg K3,false_and,K1,K3,J,and_false,if_false,Qy];rfl
     ·simp only[if_neg K0,if_neg K1,H,and_false,if_neg K3,false_and,K1,K3,if_false];rfl
    ·by_cases K3:240≤c0.toNat∧c0.toNat≤244
     ·by_cases O:4≤n
      ·have H:3≤n:=by omega
       by_cases J:128≤c2.toNat∧c2.toNat≤191
       ·by_cases m3:128≤c3.toNat∧c3.toNat≤191
        ·by_cases N:c0.toNat=240∧c1.toNat<144
         ·simp only[if_neg K0,if_neg K1,if_neg K2,K2,false_and,if_pos (And.intro K3 O),if_pos I,if_pos H,if_pos O,Qa,if_pos J,if_pos m3,eq_true N,if_true,K1,eq_true N,not_true_eq_false,and_false,if_false];rfl
         ·by_cases W:c0.toNat=244∧143<c1.toNat
          ·simp only[if_neg K0,if_neg K1,if_neg K2,K2,false_and,if_pos (And.intro K3 O),if_pos I,if_pos H,if_pos O,Qa,if_pos J,if_pos m3,if_neg N,eq_true W,if_true,K1,eq_true W,not_true_eq_false,and_false,if_false];rfl
          ·simp only[if_neg K0,if_neg K1,if_neg K2,K2,false_and,if_pos (And.intro K3 O),if_pos I,if_pos H,if_pos O,Qa,if_pos J,if_pos m3,if_neg N,if_neg W,K1,K3,O,I,J,m3,N,W,not_false_eq_true,and_self,if_true,if_false];rfl
        ·simp only[if_neg K0,if_neg K1,if_neg K2,K2,false_and,if_pos (And.intro K3 O),if_pos I,if_pos H,if_pos O,Qa,if_pos J,if_neg m3,K1,m3,and_false,if_false,Qy];rfl
       ·simp only[if_neg K0,if_neg K1,if_neg K2,K2,false_and,if_pos (And.intro K3 O),if_pos I,if_pos H,Qa,if_neg J,K1,J,and_false,if_false,Qy];rfl
      ·simp only[if_neg K0,if_neg K1,if_neg K2,K2,false_and,O,and_false,K1,if_false];rfl
     ·simp only[if_neg K0,if_neg K1,if_neg K2,if_neg K3,K1,K2,K3,false_and,if_false];rfl
  ·simp[K0,I]
 ·rw[if_neg h1]
  simp only[F.c4,F.c3,F.cE,F.ci,A.ba,decide_eq_true_eq]
  unfold widN
  have w0:(c0.toNat:Int)<128↔c0.toNat<128:=⟨fun h=>by omega,fun h=>by omega⟩
  by_cases Y:c0.toNat<128
  ·rw[if_pos (w0.2 Y),if_pos Y];rfl
  ·have a1: ¬((194≤c0.toNat∧c0.toNat≤223)∧2≤s.size-p∧128≤c1.toNat∧c1.toNat≤191):=fun h=>by omega
   have a2: ¬((224≤c0.toNat∧c0.toNat≤239)∧3≤s.size-p∧(128≤c1.toNat∧c1.toNat≤191)∧(128≤c2.toNat∧c2.toNat≤191)∧¬(c0.toNat=224∧c1.toNat<160)∧¬(c0.toNat=237∧159<c1.toNat)):=fun h=>by omega
   have a3: ¬((240≤c0.toNat∧c0.toNat≤244)∧4≤s.size-p∧(128≤c1.toNat∧c1.toNat≤191)∧(128≤c2.toNat∧c2.toNat≤191)∧(128≤c3.toNat∧c3.toNat≤191)∧¬(c0.toNat=240∧c1.toNat<144)∧¬(c0.toNat=244∧143<c1.toNat)):=fun h=>by omega
   rw[if_neg (fun h=>Y (w0.1 h)),if_neg Y,if_neg a1,if_neg a2,if_neg a3]
   simp only[Qy,if_false]
   rw[if_neg (fun h=>by omega),if_neg (fun h=>by omega),if_neg (fun h=>by omega)];rfl
def vld (s:ByteArray):Nat→Nat→Bool
 |0,_=>true
 |n+1,p=>if p<s.size then(if wid s p=0 then false else vld s n (p+wid s p))else true
def cnt (s:ByteArray):Nat→Nat→Nat
 |0,_=>0
 |n+1,p=>if p<s.size then 1+cnt s n (p+(Utf8.decode s p).2)else 0
theorem wid_4 (s:ByteArray)(p:Nat):wid s p≤4:=by
 rw[wid_N];unfold widN;repeat' split
 all_goals omega
theorem wid_dec {s:ByteArray}{p:Nat}(h:wid s p≠0):(Utf8.decode s p).2=wid s p:=by
 unfold wid at h ⊢;split at h
 ·exact absurd rfl h
 ·rename_i H;rw[if_neg H]
theorem Valid_eq (s:ByteArray)(I:s.size≤5000):F.eI s=some (vld s s.size 0):=by
 have loop: ∀(n p f:Nat),s.size-p≤n→n<f→p≤5010→F.cF s f (p:Int)=some (vld s n p):=by
  intro n
  induction n with
  |zero=>
   intro p f hp J _
   obtain⟨f,rfl⟩: ∃f',f=f'+1:=⟨f-1,by omega⟩
   rw[F.cF,if_neg (by omega)];rfl
  |succ n N=>
   intro p f hp J O
   obtain⟨f,rfl⟩: ∃f',f=f'+1:=⟨f-1,by omega⟩
   rw[F.cF,vld]
   by_cases h:p<s.size
   ·rw[if_pos (by omega),if_pos h,width_eq s p h I,Qa]
    have:=wid_le h
    by_cases H:wid s p=0
    ·rw[if_pos (by omega),if_pos H]
    ·rw[if_neg (by omega),if_neg H,A.gd1 ⟨by omega,by omega⟩]
     have e:(p:Int)+(wid s p:Int)=((p+wid s p:Nat):Int):=by omega
     rw[e];exact N _ f (by omega) (by omega) (by omega)
   ·rw[if_neg (by omega),if_neg h]
 exact loop s.size 0 A.FU (by omega) (by have:=Qab;omega) (by omega)
theorem Qdq (s:ByteArray):Lib.validD s.data.toList=vld s s.size 0:=by
 have loop: ∀(n p:Nat),Lib.validGoD n (s.data.toList.drop p)=vld s n p:=by
  intro n
  induction n with
  |zero=>intro p;rfl
  |succ n N=>
   intro p
   rw[Lib.validGoD,vld]
   by_cases h:p<s.size
   ·have I:s.data.toList.drop p≠[]:=by rw[Qfk h];simp
    rw[if_neg I,if_pos h,Lib.decodeL_drop,X5]
    by_cases H:Utf8.decode s p=(65533,1)
    ·rw[if_pos (by rw[H];exact⟨rfl,rfl⟩),if_pos (by unfold wid;rw[if_pos H])]
    ·have e:wid s p=(Utf8.decode s p).2:=by unfold wid;rw[if_neg H]
     rw[if_neg (fun J=>H (Ju J.1 J.2)),if_neg (by rw[e];have:=Qgw s p;omega),N,e]
   ·rw[if_pos (Qfx h),if_neg h]
 have:=loop s.size 0
 rw[Wa]at this
 exact this
theorem Runes_eq (s:ByteArray)(hs:s.size≤5000)(H:vld s s.size 0=true): ∃l,F.eT s=some l∧l.length=cnt s s.size 0:=by
 have loop: ∀(n p f:Nat) (xs:List (Int×Int)),s.size-p≤n→n<f→xs.length≤p→p≤5010→vld s n p=true→∃l,F.aX s f xs (p:Int)=some l∧l.length=xs.length+cnt s n p:=by
  intro n
  induction n with
  |zero=>
   intro p f xs hp hf _ _ _
   obtain⟨f,rfl⟩: ∃f',f=f'+1:=⟨f-1,by omega⟩
   rw[F.aX,if_neg (by omega)];exact⟨_,rfl,rfl⟩
  |succ n ih=>
   intro p f xs hp hf hxs hp5 H
   obtain⟨f,rfl⟩: ∃f',f=f'+1:=⟨f-1,by omega⟩
   rw[F.aX]
   rw[vld]at H
   rw[cnt]
   by_cases h:p<s.size
   ·rw[if_pos h]at H
    have hl:=wid_le h
    have h4:=wid_4 s p
    by_cases J:wid s p=0
    ·rw[if_pos J]at H;cases H
    rw[if_neg J]at H
    have I: ∀(w c:Int),w=(wid s p:Int)→∃l,F.bS (F.aX s f) xs (p:Int) w c=some l∧l.length=xs.length+(1+cnt s n (p+(Utf8.decode s p).2)):=fun w c N=>by
     subst N
     rw[F.bS,A.gd1 (by simp only[Qi,Qx];omega),A.gd1 ⟨by omega,by omega⟩,wid_dec J]
     have e:(p:Int)+(wid s p:Int)=((p+wid s p:Nat):Int):=by omega
     rw[e]
     obtain⟨l,O,W⟩:=ih (p+wid s p) f (xs++[((p:Int),c)]) (by omega) (by omega) (by simp only[Ql,Qi,Qx];omega) (by omega) H
     exact⟨l,O,by rw[W,Ql];simp only[Qi,Qx];omega⟩
    have i0:=ixb (s:=s) h
    have Y:A.ix s.data.toList ((p:Int)+1)=if p+1<s.size then some (Z.bat s (p+1))else none:=ixk s p 1
    have i2:A.ix s.data.toList ((p:Int)+2)=if p+2<s.size then some (Z.bat s (p+2))else none:=ixk s p 2
    have i3:A.ix s.data.toList ((p:Int)+3)=if p+3<s.size then some (Z.bat s (p+3))else none:=ixk s p 3
    have r1:Z.R64 ((p:Int)+1):=⟨by omega,by omega⟩
    have r2:Z.R64 ((p:Int)+2):=⟨by omega,by omega⟩
    have r3:Z.R64 ((p:Int)+3):=⟨by omega,by omega⟩
    rw[if_pos (by omega),if_pos h,width_eq s p h hs,Qa]
    by_cases w1:wid s p=1
    ·rw[if_pos (by omega),i0,Qa];exact I _ _ rfl
    rw[if_neg (by omega)]
    by_cases w2:wid s p=2
    ·rw[if_pos (by omega),A.gd1 r1,i0,Qa,A.gd1 (by decide),Y,if_pos (by omega),Qa,A.gd1 (by decide)];exact I _ _ rfl
    rw[if_neg (by omega)]
    by_cases w3:wid s p=3
    ·rw[if_pos (by omega),A.gd1 ⟨r1,r2⟩,i0,Qa,A.gd1 (by decide),Y,if_pos (by omega),Qa,A.gd1 (by decide),i2,if_pos (by omega),Qa,A.gd1 (by decide)];exact I _ _ rfl
    rw[if_neg (by omega),if_pos (by omega),A.gd1 ⟨r1,r2,r3⟩,i0,Qa,A.gd1 (by decide),Y,if_pos (by omega),Qa,A.gd1 (by decide),i2,if_pos (by omega),Qa,A.gd1 (by decide),i3,if_pos (by omega),Qa,A.gd1 (by decide)];exact I _ _ rfl
   ·rw[if_neg (by omega),if_neg h];exact⟨_,rfl,rfl⟩
 obtain⟨l,O,W⟩:=loop s.size 0 A.FU [] (by omega) (by have:=Qab;omega) (by simp) (by omega) H
 exact⟨l,O,by simpa using W⟩
theorem single_eq (s:ByteArray)(J:s.size≤9223372036854775807):F.eB s=some (if cnt s s.size 0=1 then vld s s.size 0 else false):=by
 have loop: ∀(n p f:Nat) (y:Int),s.size-p≤n→n<f→0≤y→y+n≤9223372036854775807→F.cz s f p y=some (if y+(cnt s n p:Int)=1 then vld s s.size 0 else false):=by
  intro n
  induction n with
  |zero=>
   intro p f y hp H _ _
   obtain⟨f,rfl⟩: ∃f',f=f'+1:=⟨f-1,by omega⟩
   rw[F.cz,if_neg (by omega),F.b3,Qdq,Qa]
   simp only[F.cW]
   have e:y+(cnt s 0 p:Int)=y:=by rw[cnt];omega
   by_cases h:y=1
   ·rw[if_pos h,if_pos (by omega)]
   ·rw[if_neg h,if_neg (by omega)]
  |succ n I=>
   intro p f y hp H N O
   obtain⟨f,rfl⟩: ∃f',f=f'+1:=⟨f-1,by omega⟩
   rw[F.cz,cnt]
   by_cases h:p<s.size
   ·rw[if_pos h,if_pos h,A.gd1 ⟨by omega,by omega⟩]
    have W:=Qgw s p
    rw[I _ f (y+1) (by omega) (by omega) (by omega) (by omega)]
    congr 2
    exact propext ⟨fun h=>by omega,fun h=>by omega⟩
   ·rw[if_neg h,if_neg h,F.b3,Qdq,Qa]
    simp only[F.cW]
    by_cases h:y=1
    ·rw[if_pos h,if_pos (by omega)]
    ·rw[if_neg h,if_neg (by omega)]
 unfold F.eB
 rw[loop s.size 0 A.FU 0 (by omega) (by have:=Qab;omega) (by omega) (by omega)]
 congr 2
 exact propext ⟨fun h=>by omega,fun h=>by omega⟩
theorem one_small {s:ByteArray}(H:cnt s s.size 0=1)(I:vld s s.size 0=true):s.size≤4:=by
 generalize O:s.size=n at H I
 cases n with
 |zero=>omega
 |succ n=>
  rw[cnt,if_pos (by omega)]at H
  rw[vld,if_pos (by omega)]at I
  by_cases J:wid s 0=0
  ·rw[if_pos J]at I;cases I
  rw[wid_dec J]at H
  have:=wid_4 s 0
  cases n with
  |zero=>omega
  |succ n=>
   rw[cnt]at H
   by_cases N:0+wid s 0<s.size
   ·rw[if_pos N]at H;omega
   ·omega
end Go.Proofs.YtlbnpmfggfbdoaaGreatDoor
end
section
end
section
namespace Go.Proofs.YtlbnpmfggfbdoaaGreatDoor
open Go.RowKit Go.Graph
def Qfh (f:Fun):Bool:=if f.1=5 then decide (f.2.2≠ByteArray.mk #[])&&decide ((f.2.2.size:Int)≤16)&&vld f.2.2 f.2.2.size 0 else if f.1=12∨f.1=22 then decide (cnt f.2.2 f.2.2.size 0=1)&&vld f.2.2 f.2.2.size 0 else decide (f.2.2=ByteArray.mk #[])
theorem Qhm (f:Fun):F.eA f=some (Qck f):=by
 unfold F.eA F.dy F.dx Qck
 simp only[A.ba,decide_eq_true_eq]
 by_cases J:f.1=3
 ·simp[J]
 ·by_cases H:f.1=13
  ·simp[H]
  ·by_cases h6:f.1=6
   ·simp[h6]
   ·by_cases I:f.1=11<;>simp[J,H,h6,I]
theorem Qgi (f:Fun):F.eL f=some (Qck f):=Qhm f
theorem text_eq (f:Fun)(N:f.2.2.size≤9223372036854775807):F.eW f=some (Qfh f):=by
 unfold F.eW Qfh
 simp only[F.em,F.en,A.ba,single_eq _ N,F.b3,Qdq,Qa,decide_eq_true_eq]
 by_cases J:f.1=5
 ·simp only[J,if_true]
  by_cases O:f.2.2=ByteArray.mk #[]<;>by_cases W:(f.2.2.size:Int)≤16<;>simp[O,W]
 ·by_cases H:f.1=12
  ·simp[H]
  ·by_cases I:f.1=22<;>simp[J,H,I]
theorem one_le {s:ByteArray}:(1:Int)≤(s.size:Int)↔s≠ByteArray.mk #[]:=by
 constructor
 ·intro h e;subst e;exact absurd h (by decide)
 ·intro h;have:=Qfl h;omega
theorem Qip (f:Fun)(J:f.2.2.size≤5000):F.eQ f=some (Qfh f):=by
 have hj: ∀y,F.dv f y=some (if y=true then decide (cnt f.2.2 f.2.2.size 0=1)&&vld f.2.2 f.2.2.size 0 else decide (f.2.2=ByteArray.mk #[])):=by
  intro y
  unfold F.dv
  simp only[F.du,Valid_eq _ J,Qa]
  cases y with
  |false=>simp
  |true=>
   simp only[if_true]
   by_cases Y:(f.2.2.size:Int)≤4
   ·rw[if_pos Y]
    cases N:vld f.2.2 f.2.2.size 0 with
    |true=>
     obtain⟨l,H,O⟩:=Runes_eq f.2.2 J N
     rw[if_pos rfl,H,Qa,Y8]
     congr 2
     rw[O];exact propext ⟨fun h=>by omega,fun h=>by omega⟩
    |false=>simp
   ·rw[if_neg Y]
    congr 1
    cases N:vld f.2.2 f.2.2.size 0 with
    |false=>simp
    |true=>
     by_cases H:cnt f.2.2 f.2.2.size 0=1
     ·have:=one_small H N;omega
     ·simp[H]
 unfold F.eQ Qfh
 simp only[F.d5,hj,A.ba,Valid_eq _ J,Qa,decide_eq_true_eq,one_le]
 by_cases h5:f.1=5
 ·simp only[h5,if_true]
  by_cases H:f.2.2=ByteArray.mk #[]<;>by_cases O:(f.2.2.size:Int)≤16<;>simp[H,O]
 ·by_cases I:f.1=12
  ·simp[I]
  ·by_cases W:f.1=22<;>simp[h5,I,W]
def anyF (f:Fun)(l:List Int):Int:=if l.any (fun y=>decide (y=f.1)&&(Qck f&&Qfh f))=true then 0 else 60
def kinds (k:Int):List Int:=if k=2 then [1,2,3,4,5,6,7,8]else if k=3 then [11,12,13]else if k=4 then [21,22]else if k=8 then [31,32,33,34]else if k=11 then [41,42]else []
def chk (k:Int)(f:Fun):Int:=if kinds k=[]then(if f=(0,0,ByteArray.mk #[])then 0 else 60)else anyF f (kinds k)
theorem chk_l (f:Fun)(H:f.2.2.size≤9223372036854775807): ∀l,F.bI f l=some (anyF f l)
 | []=>rfl
 |y::l=>by
  have I:=chk_l f H l
  unfold F.bI
  simp only[F.dm,Qhm,text_eq _ H,Qa,I,anyF,Xo]
  by_cases h:y=f.1
  ·subst h
   cases J:Qck f<;>cases N:Qfh f<;>simp
  ·simp[h]
theorem Qjb (k:Int)(f:Fun)(H:f.2.2.size≤9223372036854775807):F.ev k f=some (chk k f):=by
 have u2:F.cg 1 8=some [1,2,3,4,5,6,7,8]:=by kernel_rfl
 have u3:F.cg 11 13=some [11,12,13]:=by kernel_rfl
 have u4:F.cg 21 22=some [21,22]:=by kernel_rfl
 have u8:F.cg 31 34=some [31,32,33,34]:=by kernel_rfl
 have u11:F.cg 41 42=some [41,42]:=by kernel_rfl
 unfold F.ev F.e3 F.eV chk kinds
 by_cases N:k=2
 ·simp[N,u2,chk_l f H]
 ·by_cases O:k=3
  ·simp[O,u3,chk_l f H]
  ·by_cases W:k=4
   ·simp[W,u4,chk_l f H]
   ·by_cases Y:k=8
    ·simp[Y,u8,chk_l f H]
    ·by_cases I:k=11
     ·simp[I,u11,chk_l f H]
     ·simp only[N,O,W,Y,I,if_false,Qa]
      rw[if_pos (by decide),if_pos trivial]
      by_cases J:f=(0,0,ByteArray.mk #[])
      ·rw[if_neg (fun h=>h J),if_pos J]
      ·rw[if_pos J,if_neg J]
theorem R06_l (f:Fun)(H:f.2.2.size≤5000)(l:List Int)(N:l.length≤100):F.be f l A.FU 0=some (anyF f l):=
 A.lp0 l (fun n y=>F.be f l n y) (fun _ t=>some (anyF f t))
  (fun n=>by rw[F.be,if_neg (by omega)];rfl)
  (fun n k x I hk J=>by
   rw[F.be,if_pos (by omega),A.ixn I,Qa]
   simp only[F.c5,Qgi,Qip _ H,Qa,J,A.gd1 (A.r64n (n:=k) (by omega)),anyF,Xo]
   by_cases h:x=f.1
   ·subst h
    cases O:Qck f<;>cases W:Qfh f<;>simp
   ·simp[h])
  (by have:=Qab;omega)
theorem Qhb (k:Int)(f:Fun)(I:f.2.2.size≤5000):F.ei k f=some (chk k f):=by
 have u2:F.cS 2=some [1,2,3,4,5,6,7,8]:=by kernel_rfl
 have u3:F.cS 3=some [11,12,13]:=by kernel_rfl
 have u4:F.cS 4=some [21,22]:=by kernel_rfl
 have u8:F.cS 8=some [31,32,33,34]:=by kernel_rfl
 have u11:F.cS 11=some [41,42]:=by kernel_rfl
 have u0:F.cf 1 0=some []:=by kernel_rfl
 unfold F.ei chk kinds
 by_cases N:k=2
 ·subst N;rw[u2,Qa,if_neg (by simp),F.bs,if_neg (by simp),R06_l f I _ (by simp)];simp
 ·by_cases O:k=3
  ·subst O;rw[u3,Qa,if_neg (by simp),F.bs,if_neg (by simp),R06_l f I _ (by simp)];simp
  ·by_cases W:k=4
   ·subst W;rw[u4,Qa,if_neg (by simp),F.bs,if_neg (by simp),R06_l f I _ (by simp)];simp
   ·by_cases Y:k=8
    ·subst Y;rw[u8,Qa,if_neg (by simp),F.bs,if_neg (by simp),R06_l f I _ (by simp)];simp
    ·by_cases H:k=11
     ·subst H;rw[u11,Qa,if_neg (by simp),F.bs,if_neg (by simp),R06_l f I _ (by simp)];simp
     ·have u:F.cS k=some []:=by unfold F.cS;simp only[N,O,W,Y,H,if_false,u0]
      rw[u,Qa,if_pos (by simp),F.bs,R06_l f I _ (by simp)]
      simp only[N,O,W,Y,H,if_false,if_true,decide_eq_true_eq,anyF,Js,Qy]
      by_cases J:f=(0,0,ByteArray.mk #[])
      ·rw[if_pos J,if_pos J]
      ·rw[if_neg J,if_neg J]
end Go.Proofs.YtlbnpmfggfbdoaaGreatDoor
end
section
end
section
namespace Go.Proofs.YtlbnpmfggfbdoaaGreatDoor
open Go.RowKit Go.Graph
def Qac (g:List Nd):List (Int×Nd):=g.map fun n=>(n.1,n)
def Inc (g:List Nd):Prop:=g.Pairwise fun a b=>a.1<b.1
theorem Qep (z:Nd)(id:Int): ∀(k:Nat) (l:List Nd),(idxF id k l= -1∧(∀n∈l,n.1≠id)∧Z.mget z (Qac l) id=z∧Z.mhas (Qac l) id=false)∨(∃j n,idxF id k l=((k+j:Nat):Int)∧l[j]?=some n∧n.1=id∧Z.mget z (Qac l) id=n∧Z.mhas (Qac l) id=true)
 |k,[]=>.inl ⟨rfl,by simp,rfl,rfl⟩
 |k,x::r=>by
  unfold idxF Qac
  simp only[Q3,Z.mget,Z.mhas]
  by_cases h:x.1=id
  ·rw[if_pos h,if_pos h.symm,if_pos h.symm]
   exact .inr ⟨0,x,rfl,rfl,h,rfl,rfl⟩
  ·rw[if_neg h,if_neg (fun e=>h e.symm),if_neg (fun e=>h e.symm)]
   rcases Qep z id (k+1) r with⟨H,I,J,N⟩|⟨j,n,H,I,J,N,W⟩
   ·refine .inl ⟨H,fun n O=>?_,J,N⟩
    rcases Qk.1 O with rfl|O
    ·exact h
    ·exact I n O
   ·exact .inr ⟨j+1,n,by rw[H];congr 1;omega,I,J,N,W⟩
theorem Qbc (z:Nd)(g:List Nd)(id:Int):(idx g id= -1∧(∀n∈g,n.1≠id)∧Z.mget z (Qac g) id=z∧Z.mhas (Qac g) id=false)∨(∃(j:Nat) (n:Nd),idx g id=(j:Int)∧g[j]?=some n∧n.1=id∧Z.mget z (Qac g) id=n∧Z.mhas (Qac g) id=true):=by
 have:=Qep z id 0 g
 simp only[Wf]at this
 exact this
theorem Inc.lt {g:List Nd}(h:Inc g){i j:Nat}{a b:Nd}(I:g[i]?=some a)(J:g[j]?=some b)(H:i<j):a.1<b.1:=by
 obtain⟨N,rfl⟩:=Qc.1 I
 obtain⟨O,rfl⟩:=Qc.1 J
 exact Xz.1 h i j N O H
theorem Inc.inj {g:List Nd}(h:Inc g){i j:Nat}{a b:Nd}(I:g[i]?=some a)(J:g[j]?=some b)(e:a.1=b.1):i=j:=by
 rcases Nat.lt_trichotomy i j with H|H|H
 ·have:=h.lt I J H;omega
 ·exact H
 ·have:=h.lt J I H;omega
theorem Inc.idx {g:List Nd}(h:Inc g){j:Nat}{n:Nd}(I:g[j]?=some n):Graph.idx g n.1=(j:Int):=by
 rcases Qbc z0 g n.1 with⟨_,H,_⟩|⟨i,m,J,H,N,_⟩
 ·exact absurd rfl (H n (Qf I))
 ·rw[J,h.inj H I N]
theorem Inc.mget {g:List Nd}(h:Inc g){j:Nat}{n z:Nd}(H:g[j]?=some n):Z.mget z (Qac g) n.1=n:=by
 rcases Qbc z g n.1 with⟨_,I,_⟩|⟨i,m,O,I,J,N,_⟩
 ·exact absurd rfl (I n (Qf H))
 ·have:=h.inj I H J
  subst this
  rw[I]at H;injection H with H;rw[N,H]
theorem Qbk (g:List Nd)(id:Int)(J:g.length≤100):F.cO g id=some (idx g id):=
 A.lp0 g (fun f y=>F.cD g id f y) (fun k l=>some (idxF id k l))
  (fun f=>by rw[F.cD,if_neg (by omega)];rfl)
  (fun f k x H hk I=>by
   rw[F.cD,if_pos (by omega),A.ixn H,Qa,idxF]
   by_cases h:x.1=id
   ·rw[if_pos h,if_pos h]
   ·rw[if_neg h,if_neg h,A.gd1 (A.r64n (by omega)),I])
  (by have:=Qab;omega)
def ownQ (n:Nd):Bool:=if n.1<1∨255<n.1∨insK n.2.1<0∨(n.2.2.1.length:Int)≠insK n.2.1 then false else if ownC n then false else if n.2.1=1∨n.2.1=15 then named n.2.2.2.2.1 else decide (n.2.2.2.2.1=ByteArray.mk #[])
theorem Qeu (k:Int):F.bv k=some (decide (k=1∨k=15)):=by
 unfold F.bv;rw[A.bo]
theorem gIns_eq (k:Int):F.d9 k=some (insK k):=(Ins_eq k).trans (Qez k)
theorem own_eq (n:Nd)(Y:n.2.2.2.2.1.size≤9223372036854775807):F.ea n=some (ownQ n):=by
 have hj: ∀y,F.cV n y=some (if y=true then false else if ownC n then false else if n.2.1=1∨n.2.1=15 then named n.2.2.2.2.1 else decide (n.2.2.2.2.1=ByteArray.mk #[])):=by
  intro y
  unfold F.cV F.cU ownC
  cases y with
  |true=>simp
  |false=>
   simp only[Qy,if_false,A.bo,decide_eq_true_eq,Qeu,Qa,named_eq _ Y,A.bn]
   by_cases I:n.2.1=14
   ·simp only[I,if_true,true_and,not_true_eq_false,ne_eq,false_and,or_false,if_false]
    by_cases H:n.2.2.2.2.2.1<1∨8<n.2.2.2.2.2.1∨n.2.2.2.2.2.2<1∨4<n.2.2.2.2.2.2
    ·have hc':((n.2.2.2.2.2.1<1∨8<n.2.2.2.2.2.1)∨n.2.2.2.2.2.2<1)∨4<n.2.2.2.2.2.2:=by omega
     rw[if_pos hc',if_pos H]
    ·have hc': ¬(((n.2.2.2.2.2.1<1∨8<n.2.2.2.2.2.1)∨n.2.2.2.2.2.2<1)∨4<n.2.2.2.2.2.2):=by omega
     rw[if_neg hc',if_neg H]
     simp
   ·simp only[I,if_false,false_and,not_false_eq_true,ne_eq,true_and,false_or,if_true]
    by_cases H: ¬n.2.2.2.2.2.1=0∨¬n.2.2.2.2.2.2=0
    ·rw[if_pos H,if_pos H]
    ·rw[if_neg H,if_neg H]
     by_cases J:n.2.1=1∨n.2.1=15
     ·rw[if_pos J,if_pos J]
     ·rw[if_neg J,if_neg J]
 unfold F.ea ownQ
 simp only[gIns_eq,Qa,hj,A.bo,decide_eq_true_eq,F.cU]
 by_cases N:n.1<1∨255<n.1
 ·rw[if_pos N,if_pos (by omega)]
 ·rw[if_neg N]
  by_cases O:insK n.2.1<0
  ·rw[if_pos O,if_pos trivial,if_pos (by omega)]
  ·rw[if_neg O]
   by_cases W:(n.2.2.1.length:Int)≠insK n.2.1
   ·rw[if_pos W,if_pos (by omega)]
   ·have hb: ¬(n.1<1∨255<n.1∨insK n.2.1<0∨(n.2.2.1.length:Int)≠insK n.2.1):=by omega
    rw[if_neg W,if_neg hb]
def twiceF (l:List Nd)(n:Nd):Bool:=l.any fun x=>decide (x.2.1=n.2.1)&&decide (x.2.2.2.2.1=n.2.2.2.2.1)
theorem twice_eq (l:List Nd)(n:Nd)(W:l.length≤100):F.l l n=some (twiceF l n):=by
 have loop:F.a l n A.FU 0=some (if twiceF l n=true then(0:Int)else-1)∨∃i:Nat,F.a l n A.FU 0=some (i:Int)∧twiceF l n=true:=by
  have key: ∀(m k f:Nat),k+m=l.length→m<f→(twiceF (l.drop k) n=true∧∃i:Nat,F.a l n f (k:Int)=some (i:Int))∨(twiceF (l.drop k) n=false∧F.a l n f (k:Int)=some (-1)):=by
   intro m
   induction m with
   |zero=>
    intro k f hk N
    obtain⟨f,rfl⟩: ∃f',f=f'+1:=⟨f-1,by omega⟩
    rw[F.a,if_neg (by omega),Q2 (by omega)]
    exact .inr ⟨rfl,rfl⟩
   |succ m O=>
    intro k f hk N
    obtain⟨f,rfl⟩: ∃f',f=f'+1:=⟨f-1,by omega⟩
    have J:l[k]?=some l[k]:=Qd (by omega)
    generalize l[k]=x at J
    rw[F.a,if_pos (by omega),A.ixn J,Qa,F.d6,Qa,A.ba,A.dropx J]
    by_cases h:x.2.1=n.2.1∧x.2.2.2.2.1=n.2.2.2.2.1
    ·left
     exact⟨by simp[twiceF,h.1,h.2],k,by rw[if_pos (by simpa using h)]⟩
    ·rw[if_neg (by simpa using h),A.gd1 (A.r64n (by omega))]
     have e:twiceF (x::l.drop (k+1)) n=twiceF (l.drop (k+1)) n:=by
      simp only[twiceF,Xo]
      rw[←Bool.decide_and,decide_eq_false h,W6]
     rw[e]
     exact O (k+1) f (by omega) (by omega)
  rcases key l.length 0 A.FU (by omega) (by have:=Qab;omega)with⟨H,i,I⟩|⟨H,I⟩
  ·rw[Wa]at H;exact .inr ⟨i,I,H⟩
  ·rw[Wa]at H;left;rw[H];exact I
 unfold F.l F.am
 rcases loop with h|⟨i,h,I⟩
 ·rw[show F.a l n A.FU 0=_ from h,Qa]
  cases twiceF l n<;>simp
 ·rw[show F.a l n A.FU 0=_ from h,Qa,I]
  simp
theorem Qfp {κ α:Type}[DecidableEq κ]: ∀{m:List (κ×α)} {k:κ} {x:α},Z.mhas m k=false→Z.mins m k x=m++[(k,x)]
 | [],_,_,_=>rfl
 |(a,y)::r,k,x,h=>by
  simp only[Z.mhas]at h
  by_cases hk:k=a
  ·rw[if_pos hk]at h;cases h
  ·rw[if_neg hk]at h
   unfold Z.mins
   rw[if_neg hk,Qfp h];rfl
theorem mhas_mapOf {l:List Nd}{k:Int}(h: ∀n∈l,n.1≠k):Z.mhas (Qac l) k=false:=by
 rcases Qbc z0 l k with⟨_,_,_,H⟩|⟨j,n,_,I,H,_⟩
 ·exact H
 ·exact absurd H (h n (Qf I))
theorem Qcw {α:Type}{l:List α}{k:Nat}{x:α}(h:l[k]?=some x):l.take (k+1)=l.take k++[x]:=by rw[Yk,h];rfl
def okL (g:List Nd):Nat→Int→List Nd→Bool
 |_,_,[]=>true
 |k,last,n::r=>if n.1≤last∨ownQ n=false∨((n.2.1=1∨n.2.1=15)∧twiceF (g.take k) n=true)then false else okL g (k+1) n.1 r
theorem whole_l6 (g:List Nd)(hg:g.length≤100)(hf: ∀x,x∈g→x.2.2.2.2.1.size≤9223372036854775807):F.aC g A.FU [] 0 0=if okL g 0 0 g=true then F.aT g (Qac g) A.FU 0 else some (none,80):=
 A.lp g (fun f (s:List (Int×Nd)×Int) y=>F.aC g f s.1 s.2 y) (fun k l s=>if okL g k s.2 l=true then F.aT g (Qac g) A.FU 0 else some (none,80)) (fun k s=>s.1=Qac (g.take k)∧∀n∈g.take k,n.1≤s.2)
  (fun f s hp=>by
   rw[F.aC,if_neg (by omega),okL,if_pos rfl,hp.1,W7 (Q1 _)])
  (fun f s k x O hk hp ih=>by
   obtain⟨hm,J⟩:=hp
   have hown:=own_eq x (hf x (Qf O))
   have hj: ∀y,F.cy (F.aC g f) s.1 s.2 (k:Int) x y=if x.1≤s.2∨ownQ x=false∨y=true then some (none,80)else F.aC g f (Z.mins s.1 x.1 x) x.1 ((k:Int)+1):=by
    intro y
    rw[F.cy]
    simp only[F.cZ,if_true]
    by_cases N:x.1≤s.2
    ·rw[if_pos N,if_pos (.inl N)]
    ·rw[if_neg N,show F.ea x=_ from hown,Qa,A.gd1 (A.r64n (by omega))]
     cases ownQ x<;>cases y<;>simp[N]
   have hnew: ¬x.1≤s.2→F.aC g f (Z.mins s.1 x.1 x) x.1 ((k:Int)+1)=if okL g (k+1) x.1 (g.drop (k+1))=true then F.aT g (Qac g) A.FU 0 else some (none,80):=fun N=>by
    rw[hm,Qfp (mhas_mapOf fun n W e=>by have:=J n W;omega)]
    refine ih (Qac (g.take k)++[(x.1,x)],x.1) ⟨?_,fun n W=>?_⟩
    ·rw[Qcw O];simp[Qac]
    ·rw[Qcw O]at W
     rcases Qn.1 W with Y|Y
     ·have:=J n Y;simp only[];omega
     ·rw[Qj]at Y;subst Y;exact Xm _
   rw[F.aC,if_pos (by omega),A.ixn O,Qa,Qeu,Qa,okL]
   by_cases ho:x.2.1=1∨x.2.1=15
   ·rw[if_pos (by simpa using ho),A.gd1 ⟨by omega,by omega⟩,show((k:Int)).toNat=k from Qs k,
     show F.l (List.take k g) x=_ from twice_eq (g.take k) x (by rw[Qu];omega),Qa,hj]
    by_cases H:x.1≤s.2∨ownQ x=false∨twiceF (g.take k) x=true
    ·have I:x.1≤s.2∨ownQ x=false∨((x.2.1=1∨x.2.1=15)∧twiceF (g.take k) x=true):=by rcases H with h|h|h;exact .inl h;exact .inr (.inl h);exact .inr (.inr ⟨ho,h⟩)
     rw[if_pos H,if_pos I,if_neg Wn]
    ·have I: ¬(x.1≤s.2∨ownQ x=false∨((x.2.1=1∨x.2.1=15)∧twiceF (g.take k) x=true)):=fun h=>H (by rcases h with h|h|h;exact .inl h;exact .inr (.inl h);exact .inr (.inr h.2))
     rw[if_neg H,if_neg I]
     exact hnew fun h=>H (.inl h)
   ·rw[if_neg (by simpa using ho),hj]
    by_cases H:x.1≤s.2∨ownQ x=false
    ·have I:x.1≤s.2∨ownQ x=false∨((x.2.1=1∨x.2.1=15)∧twiceF (g.take k) x=true):=by rcases H with h|h;exact .inl h;exact .inr (.inl h)
     rw[if_pos (by rcases H with h|h;exact .inl h;exact .inr (.inl h)),if_pos I,if_neg Wn]
    ·have I: ¬(x.1≤s.2∨ownQ x=false∨((x.2.1=1∨x.2.1=15)∧twiceF (g.take k) x=true)):=fun h=>H (by rcases h with h|h|h;exact .inl h;exact .inr h;exact absurd h.1 ho)
     rw[if_neg (fun h=>H (by rcases h with h|h|h;exact .inl h;exact .inr h;cases h)),if_neg I]
     exact hnew fun h=>H (.inl h))
  (by have:=Qab;omega) ([],0) ⟨rfl,by simp⟩
theorem whole_l5 (g:List Nd)(m:List (Int×Nd))(O:g.length≤100)(I: ∀x,x∈g→x.2.2.2.1.2.2.size≤9223372036854775807):F.aT g m A.FU 0=if g.all (fun n=>decide (chk n.2.1 n.2.2.2.1=0))=true then F.aG g m A.FU 0 else some (none,60):=
 A.lp0 g (fun f y=>F.aT g m f y) (fun _ l=>if l.all (fun n=>decide (chk n.2.1 n.2.2.2.1=0))=true then F.aG g m A.FU 0 else some (none,60))
  (fun f=>by rw[F.aT,if_neg (by omega)];rfl)
  (fun f k x H hk J=>by
   have h6:chk x.2.1 x.2.2.2.1≠0→chk x.2.1 x.2.2.2.1=60:=by
    intro h;unfold chk anyF at h ⊢;repeat' split
    all_goals first|rfl|(exfalso;simp_all;done)
   rw[F.aT,if_pos (by omega),A.ixn H,Qa,show F.ev x.2.1 x.2.2.2.1=_ from Qjb x.2.1 x.2.2.2.1 (I x (Qf H)),Qa,Xw]
   by_cases h:chk x.2.1 x.2.2.2.1=0
   ·rw[if_neg (fun N=>N h),A.gd1 (A.r64n (by omega)),J,decide_eq_true h,Xf]
   ·rw[if_pos h,decide_eq_false h,Yv,if_neg (by simp),h6 h])
  (by have:=Qab;omega)
def inOk (g:List Nd)(k:Int):Bool:=if idx g k<0 then false else decide ((at_ g (idx g k)).2.1≠15)
def sortP (g:List Nd)(m:List (Int×Nd)):Option ((Option ((List (Int×Nd))×(List Int)×(List (Int×Int))))×Int):=
 (F.bl (m,[],[]) g).bind fun r73=>(if(!r73.1)=true then(some (none,81))else((F.bh r73.2).bind fun r79=>(if(!r79.1)=true then(some (none,80))else((F.b4 r79.2 g).bind fun r85=>(if r85=true then(some (none,81))else(some (some r79.2,0)))))))
theorem whole_l4 (g:List Nd)(hg:g.length≤100)(hf: ∀x,x∈g→x.2.2.1.length≤5000):F.aG g (Qac g) A.FU 0=if g.all (fun n=>n.2.2.1.all (inOk g))=true then sortP g (Qac g)else some (none,80):=
 A.lp0 g (fun f y=>F.aG g (Qac g) f y) (fun _ l=>if l.all (fun n=>n.2.2.1.all (inOk g))=true then sortP g (Qac g)else some (none,80))
  (fun f=>by rw[F.aG,if_neg (by omega)];rfl)
  (fun f k x O hk ih=>by
   rw[F.aG,if_pos (by omega),A.ixn O,Qa]
   have hlen:=hf x (Qf O)
   have loop:=A.lp0 x.2.2.1 (fun H y=>F.b5 (F.aG g (Qac g) f) (Qac g) (k:Int) x H y) (fun _ l=>if l.all (inOk g)=true then F.aG g (Qac g) f ((k:Int)+1)else some (none,80))
    (fun H=>by rw[F.b5,if_neg (by omega),A.gd1 (A.r64n (by omega))];rfl)
    (fun H j y hy hj2 I=>by
     rw[F.b5,if_pos (by omega),A.ixn hy,Qa,A.lt,Xw]
     rcases Qbc ((0,0,[],(0,0,(ByteArray.mk #[])),(ByteArray.mk #[]),0,0):Nd) g y with⟨W,_,Y,J⟩|⟨i,n,W,h2,Y,J,h5⟩
     ·rw[Y,J]
      have:inOk g y=false:=by unfold inOk;rw[if_pos (by omega)]
      rw[this];simp
     ·rw[J,h5]
      have e:inOk g y=decide (n.2.1≠15):=by unfold inOk;rw[if_neg (by omega),Qav W h2]
      rw[e,A.gd1 (A.r64n (by omega)),I]
      by_cases N:n.2.1=15<;>simp[N])
    (by have:=Qab;omega)
   rw[loop,ih,Xw]
   cases x.2.2.1.all (inOk g)with
   |true=>rw[if_pos rfl,Xf]
   |false=>rw[if_neg Wn,Yv,if_neg Wn])
  (by have:=Qab;omega)
theorem whole_P (g:List Nd)(I:Few g):F.bJ g=if(32:Int)<(g.length:Int)then some (none,80)else if okL g 0 0 g=true then(if g.all (fun n=>decide (chk n.2.1 n.2.2.2.1=0))=true then(if g.all (fun n=>n.2.2.1.all (inOk g))=true then sortP g (Qac g)else some (none,80))else some (none,60))else some (none,80):=by
 have J:=I.1
 unfold F.bJ
 rw[whole_l6 g (by omega) (fun x H=>Wh (I.2 x H).2.1 (by decide)),whole_l5 g _ (by omega) (fun x H=>Wh (I.2 x H).2.2 (by decide)),whole_l4 g (by omega) (fun x H=>(I.2 x H).1)]
theorem Named_eq (g:List Nd)(kd:Int)(s:ByteArray)(O:g.length≤100):F.eS g kd s=some (Qcb kd s g):=
 A.lp0 g (fun f y=>F.bR g kd s f y) (fun _ l=>some (Qcb kd s l))
  (fun f=>by rw[F.bR,if_neg (by omega)];rfl)
  (fun f k x H hk J=>by
   rw[F.bR,if_pos (by omega),A.ixn H,Qa,Qcb]
   simp only[F.dG,A.ixn H,Qa,A.gd1 (A.r64n (n:=k) (by omega)),J,decide_eq_true_eq,kind,name]
   by_cases I:x.2.1=kd
   ·by_cases N:x.2.2.2.2.1=s<;>simp[I,N]
   ·simp[I])
  (by have:=Qab;omega)
theorem R_own_eq (g:List Nd)(i:Nat)(n:Nd)(hn:g[i]?=some n)(hg:g.length≤100)(hs:n.2.2.2.2.1.size≤5000):F.eY g (i:Int)=some (own g (i:Int) n):=by
 have hi:=(Qc.1 hn).1
 have W:F.d2 g n=some (ownT g n):=by
  unfold F.d2 ownT
  simp only[A.ba,decide_eq_true_eq,Named_eq g _ _ hg,name_eq _ hs,Qa]
  by_cases h:n.2.1≠1∧n.2.1≠15
  ·rw[if_pos h,if_pos h]
  ·rw[if_neg h,if_neg h];cases named n.2.2.2.2.1<;>rfl
 have Y: ∀y,F.bA g n y=some (if y=true then false else if ownC n then false else ownT g n):=by
  intro y
  unfold F.bA ownC
  cases y with
  |true=>simp
  |false=>
   simp only[Qy,if_false,A.bo,decide_eq_true_eq,W]
   by_cases O:n.2.1=14
   ·simp only[O,if_true,true_and,not_true_eq_false,ne_eq,false_and,or_false]
    by_cases H:n.2.2.2.2.2.1<1∨8<n.2.2.2.2.2.1∨n.2.2.2.2.2.2<1∨4<n.2.2.2.2.2.2
    ·rw[if_pos (by omega),if_pos H]
    ·rw[if_neg (by omega),if_neg H]
   ·simp only[O,if_false,false_and,not_false_eq_true,ne_eq,true_and,false_or]
    by_cases H: ¬n.2.2.2.2.2.1=0∨¬n.2.2.2.2.2.2=0
    ·rw[if_pos H,if_pos H]
    ·rw[if_neg H,if_neg H]
 have tail:(if insK n.2.1<0 then F.bA g n true else F.bA g n (decide ((n.2.2.1.length:Int)≠insK n.2.1)))=some (if insK n.2.1<0∨(n.2.2.1.length:Int)≠insK n.2.1 then false else if ownC n then false else ownT g n):=by
  simp only[Y,decide_eq_true_eq]
  by_cases I:insK n.2.1<0
  ·rw[if_pos I,if_pos trivial,if_pos (.inl I)]
  ·by_cases J:(n.2.2.1.length:Int)≠insK n.2.1
   ·rw[if_neg I,if_pos J,if_pos (.inr J)]
   ·have N: ¬(insK n.2.1<0∨(n.2.2.1.length:Int)≠insK n.2.1):=fun h=>h.elim I J
    rw[if_neg I,if_neg J,if_neg N]
 unfold F.eY own
 rw[A.ixn hn,Qa]
 simp only[Qez,Qa,A.bo,decide_eq_true_eq]
 by_cases I:n.1<1∨255<n.1
 ·rw[if_pos I,Y,if_pos rfl,if_pos (by omega)]
 ·rw[if_neg I]
  by_cases h0:(0:Int)<(i:Int)
  ·rw[if_pos h0,A.gd1 ⟨by omega,by omega⟩]
   have hp:g[i-1]?=some g[i-1]:=Qd (by omega)
   generalize g[i-1]=q at hp
   have e:(i:Int)-1=((i-1:Nat):Int):=by omega
   rw[e,A.ixn hp,Qa,Qav rfl hp]
   by_cases J:n.1≤q.1
   ·rw[if_pos J,Y,if_pos rfl,if_pos (by omega)]
   ·rw[if_neg J,tail]
    by_cases N:insK n.2.1<0∨(n.2.2.1.length:Int)≠insK n.2.1
    ·rw[if_pos N,if_pos (by omega)]
    ·have H: ¬(n.1<1∨255<n.1∨(0:Int)<(i:Int)∧n.1≤q.1∨insK n.2.1<0∨(n.2.2.1.length:Int)≠insK n.2.1):=by omega
     rw[if_neg N,if_neg H]
  ·rw[if_neg h0,tail]
   by_cases N:insK n.2.1<0∨(n.2.2.1.length:Int)≠insK n.2.1
   ·rw[if_pos N,if_pos (by omega)]
   ·have H: ¬(n.1<1∨255<n.1∨(0:Int)<(i:Int)∧n.1≤(at_ g ((i:Int)-1)).1∨insK n.2.1<0∨(n.2.2.1.length:Int)≠insK n.2.1):=by omega
    rw[if_neg N,if_neg H]
def okR (g:List Nd):Nat→List Nd→Bool
 |_,[]=>true
 |k,n::r=>own g (k:Int) n&&okR g (k+1) r
theorem parts_l5 (g:List Nd)(I:g.length≤100)(J: ∀x,x∈g→x.2.2.2.2.1.size≤5000):F.cj g A.FU 0=if okR g 0 g=true then F.bt g A.FU 0 else some 80:=
 A.lp0 g (fun f y=>F.cj g f y) (fun k l=>if okR g k l=true then F.bt g A.FU 0 else some 80)
  (fun f=>by rw[F.cj,if_neg (by omega)];rfl)
  (fun f k x H hk N=>by
   rw[F.cj,if_pos (by omega),R_own_eq g k x H I (J x (Qf H)),Qa,A.gd1 (A.r64n (by omega)),N,okR]
   cases own g (k:Int) x<;>simp)
  (by have:=Qab;omega)
theorem parts_l4 (g:List Nd)(O:g.length≤100)(I: ∀x,x∈g→x.2.2.2.1.2.2.size≤5000):F.bt g A.FU 0=if g.all (fun n=>decide (chk n.2.1 n.2.2.2.1=0))=true then F.aO g A.FU 0 else some 60:=
 A.lp0 g (fun f y=>F.bt g f y) (fun _ l=>if l.all (fun n=>decide (chk n.2.1 n.2.2.2.1=0))=true then F.aO g A.FU 0 else some 60)
  (fun f=>by rw[F.bt,if_neg (by omega)];rfl)
  (fun f k x H hk J=>by
   rw[F.bt,if_pos (by omega),A.ixn H,Qa,Qa,show F.ei x.2.1 x.2.2.2.1=_ from Qhb x.2.1 x.2.2.2.1 (I x (Qf H)),Qa,Xw]
   by_cases h:chk x.2.1 x.2.2.2.1=0
   ·rw[if_neg (fun N=>N h),A.gd1 (A.r64n (by omega)),J,decide_eq_true h,Xf]
   ·rw[if_pos h,decide_eq_false h,Yv,if_neg (by simp)])
  (by have:=Qab;omega)
theorem idx_get {g:List Nd}{id:Int}(h:0≤idx g id): ∃n,g[(idx g id).toNat]?=some n∧at_ g (idx g id)=n∧n.1=id:=by
 rcases Qbc z0 g id with⟨H,_⟩|⟨i,n,H,I,J,_⟩
 ·omega
 ·exact⟨n,by rw[H];exact I,Qav H I,J⟩
theorem parts_l3 (g:List Nd)(W:g.length≤100)(Y: ∀x,x∈g→x.2.2.1.length≤5000):F.aO g A.FU 0=if g.all (fun n=>n.2.2.1.all (inOk g))=true then some 0 else some 80:=
 A.lp0 g (fun f y=>F.aO g f y) (fun _ l=>if l.all (fun n=>n.2.2.1.all (inOk g))=true then some 0 else some 80)
  (fun f=>by rw[F.aO,if_neg (by omega)];rfl)
  (fun f k x I hk ih=>by
   rw[F.aO,if_pos (by omega)]
   have hlen:=Y x (Qf I)
   have loop:=A.lp0 x.2.2.1 (fun J y=>F.bT (F.aO g f) g (k:Int) J y) (fun _ l=>if l.all (inOk g)=true then F.aO g f ((k:Int)+1)else some 80)
    (fun J=>by rw[F.bT,A.ixn I,Qa,if_neg (by omega),A.gd1 (A.r64n (by omega))];rfl)
    (fun J j y hy hj2 N=>by
     rw[F.bT,A.ixn I,Qa,if_pos (by omega),Qa,A.ixn hy,Qa,Qbk g y W,Qa,Xw]
     simp only[F.dH,if_true,decide_eq_true_eq,A.gd1 (A.r64n (n:=j) (by omega)),N]
     by_cases H:idx g y<0
     ·have:inOk g y=false:=by unfold inOk;rw[if_pos H]
      rw[if_pos H,this];simp
     ·obtain⟨n,h1,h2,_⟩:=idx_get (g:=g) (id:=y) (by omega)
      have e:inOk g y=decide (n.2.1≠15):=by unfold inOk;rw[if_neg H,h2]
      rw[if_neg H,A.ixg (by omega) h1,Qa,e]
      by_cases O:n.2.1=15<;>simp[O])
    (by have:=Qab;omega)
   rw[loop,ih,Xw]
   cases x.2.2.1.all (inOk g)with
   |true=>rw[if_pos rfl,Xf]
   |false=>rw[if_neg Wn,Yv,if_neg Wn])
  (by have:=Qab;omega)
def lastOf (g:List Nd)(k:Nat):Int:=if k=0 then 0 else(at_ g ((k:Int)-1)).1
def BadP (g:List Nd)(k:Nat)(n:Nd):Prop:=n.1≤lastOf g k∨ownQ n=false∨((n.2.1=1∨n.2.1=15)∧twiceF (g.take k) n=true)
theorem Qgk {g:List Nd}{k:Nat}{n:Nd}(h:g[k]?=some n):lastOf g (k+1)=n.1:=by
 unfold lastOf;rw[if_neg (by omega),Qav (k:=k) (by omega) h]
theorem Qih (g:List Nd): ∀(m k:Nat),k+m=g.length→(okL g k (lastOf g k) (g.drop k)=true↔∀i n,k≤i→g[i]?=some n→¬BadP g i n)
 |0,k,h=>by
  rw[Q2 (by omega),okL]
  exact⟨fun _ i n N H=>by have:=(Qc.1 H).1;omega,fun _=>rfl⟩
 |m+1,k,h=>by
  have I:g[k]?=some g[k]:=Qd (by omega)
  generalize g[k]=x at I
  have O:=Qih g m (k+1) (by omega)
  rw[Qgk I]at O
  rw[A.dropx I,okL]
  by_cases J:BadP g k x
  ·have hb':x.1≤lastOf g k∨ownQ x=false∨((x.2.1=1∨x.2.1=15)∧twiceF (g.take k) x=true):=J
   rw[if_pos hb']
   exact⟨fun h=>(by cases h),fun h=>absurd J (h k x (Q1 _) I)⟩
  ·have hb': ¬(x.1≤lastOf g k∨ownQ x=false∨((x.2.1=1∨x.2.1=15)∧twiceF (g.take k) x=true)):=J
   rw[if_neg hb',O]
   refine⟨fun h i n N H=>?_,fun h i n N H=>h i n (by omega) H⟩
   rcases Nat.eq_or_lt_of_le N with rfl|W
   ·rw[I]at H;injection H with H;subst H;exact J
   ·exact h i n W H
theorem Qij (g:List Nd): ∀(m k:Nat),k+m=g.length→(okR g k (g.drop k)=true↔∀i n,k≤i→g[i]?=some n→own g (i:Int) n=true)
 |0,k,h=>by
  rw[Q2 (by omega),okR]
  exact⟨fun _ i n J H=>by have:=(Qc.1 H).1;omega,fun _=>rfl⟩
 |m+1,k,h=>by
  have I:g[k]?=some g[k]:=Qd (by omega)
  generalize g[k]=x at I
  have N:=Qij g m (k+1) (by omega)
  rw[A.dropx I,okR,Qm,N]
  refine⟨fun h i n J H=>?_,fun h=>⟨h k x (Q1 _) I,fun i n J H=>h i n (by omega) H⟩⟩
  rcases Nat.eq_or_lt_of_le J with rfl|O
  ·rw[I]at H;injection H with H;subst H;exact h.1
  ·exact h.2 i n O H
theorem inc_of {g:List Nd}(h: ∀i n,g[i]?=some n→lastOf g i<n.1):Inc g:=by
 unfold Inc
 have key: ∀(d i:Nat) (a b:Nd),g[i]?=some a→g[i+d+1]?=some b→a.1<b.1:=by
  intro d
  induction d with
  |zero=>intro i a b I H;have:=h _ b H;rw[Qgk I]at this;exact this
  |succ d N=>
   intro i a b I H
   have hl:=(Qc.1 H).1
   have J:g[i+d+1]?=some g[i+d+1]:=Qd (by omega)
   have h1:=N i a _ I J
   have O:=h _ b H
   rw[show i+(d+1)+1=(i+d+1)+1 by omega,Qgk J]at O
   omega
 refine Xz.2 fun i j W Y hij=>?_
 refine key (j-i-1) i _ _ (Qd W) ?_
 rw[show i+(j-i-1)+1=j by omega]
 exact Qd Y
theorem Qcp (kd:Int)(s:ByteArray): ∀(l:List Nd),(∃(j:Nat) (n:Nd),l[j]?=some n∧n.2.1=kd∧n.2.2.2.2.1=s∧(Qcb kd s l)=(n.1,true)∧∀(i:Nat) (m:Nd),i<j→l[i]?=some m→¬(m.2.1=kd∧m.2.2.2.2.1=s))∨(Qcb kd s l=(0,false)∧∀m∈l,¬(m.2.1=kd∧m.2.2.2.2.1=s))
 | []=>.inr ⟨rfl,by simp⟩
 |x::r=>by
  unfold Qcb
  by_cases h:x.2.1=kd∧x.2.2.2.2.1=s
  ·rw[if_pos h]
   exact .inl ⟨0,x,rfl,h.1,h.2,rfl,fun i m N=>by omega⟩
  ·have h': ¬(kind x=kd∧name x=s):=h
   rw[if_neg h']
   rcases Qcp kd s r with⟨j,n,I,J,O,W,Y⟩|⟨I,J⟩
   ·refine .inl ⟨j+1,n,I,J,O,W,fun i m N H=>?_⟩
    cases i with
    |zero=>injection H with H;subst H;exact h
    |succ i=>exact Y i m (by omega) H
   ·refine .inr ⟨I,fun m H=>?_⟩
    rcases Qk.1 H with rfl|H
    ·exact h
    ·exact J m H
theorem Qia {l:List Nd}{n:Nd}:twiceF l n=true↔∃m∈l,m.2.1=n.2.1∧m.2.2.2.2.1=n.2.2.2.2.1:=by
 simp only[twiceF,Ya,Qm,decide_eq_true_eq]
theorem own_iff {g:List Nd}(hi:Inc g){k:Nat}{n:Nd}(W:g[k]?=some n)(hl:lastOf g k<n.1):own g (k:Int) n=true↔¬BadP g k n:=by
 have hname:(n.2.1=1∨n.2.1=15)→((Qcb n.2.1 n.2.2.2.2.1 g).1=n.1↔¬twiceF (g.take k) n=true):=fun _=>by
  rcases Qcp n.2.1 n.2.2.2.2.1 g with⟨j,m,H,J,N,h4,h5⟩|⟨_,J⟩
  ·rw[h4]
   have hjk:j≤k:=by
    rcases Y4 k j with h|h
    ·exact absurd ⟨rfl,rfl⟩ (h5 k n h W)
    ·exact h
   constructor
   ·intro he O
    have:j=k:=hi.inj H W he
    subst this
    obtain⟨q,hq,h6⟩:=Qia.1 O
    obtain⟨i,I⟩:=Wp.1 hq
    rw[Xe]at I
    split at I
    ·rename_i Y;exact h5 i q Y I h6
    ·cases I
   ·intro O
    rcases Y4 j k with h|h
    ·exact absurd (Qia.2 ⟨m,Wp.2 ⟨j,by rw[Xe,if_pos h];exact H⟩,J,N⟩) O
    ·obtain rfl:j=k:=by omega
     rw[W]at H;injection H with H;rw[H]
  ·exact absurd ⟨rfl,rfl⟩ (J n (Qf W))
 have hprev: ¬((0:Int)<(k:Int)∧n.1≤(at_ g ((k:Int)-1)).1):=fun h=>by
  unfold lastOf at hl;rw[if_neg (by omega)]at hl;omega
 unfold own BadP ownQ
 by_cases H:n.1<1∨255<n.1∨insK n.2.1<0∨(n.2.2.1.length:Int)≠insK n.2.1
 ·rw[if_pos (by omega),if_pos H]
  exact⟨fun h=>(by cases h),fun h=>absurd (.inr (.inl rfl)) h⟩
 ·have hc: ¬(n.1<1∨255<n.1∨(0:Int)<(k:Int)∧n.1≤(at_ g ((k:Int)-1)).1∨insK n.2.1<0∨(n.2.2.1.length:Int)≠insK n.2.1):=by omega
  rw[if_neg hc,if_neg H]
  by_cases J:ownC n
  ·rw[if_pos J,if_pos J]
   exact⟨fun h=>(by cases h),fun h=>absurd (.inr (.inl rfl)) h⟩
  ·rw[if_neg J,if_neg J]
   unfold ownT
   by_cases N:n.2.1=1∨n.2.1=15
   ·rw[if_neg (by omega),if_pos N,Qm,decide_eq_true_eq,hname N]
    constructor
    ·rintro⟨a,b⟩ (h|h|h)
     ·omega
     ·rw[a]at h;cases h
     ·exact b h.2
    ·intro h
     refine⟨?_,fun O=>h (.inr (.inr ⟨N,O⟩))⟩
     cases hq:named n.2.2.2.2.1 with
     |true=>rfl
     |false=>exact absurd (.inr (.inl hq)) h
   ·rw[if_pos (by omega),if_neg N]
    constructor
    ·rintro a (h|h|h)
     ·omega
     ·rw[a]at h;cases h
     ·exact N h.1
    ·intro h
     cases hq:decide (n.2.2.2.2.1=ByteArray.mk #[])with
     |true=>rfl
     |false=>exact absurd (.inr (.inl hq)) h
theorem own_last {g:List Nd}{k:Nat}{n:Nd}(h:own g (k:Int) n=true):lastOf g k<n.1:=by
 unfold own at h
 by_cases H:n.1<1∨255<n.1∨(0:Int)<(k:Int)∧n.1≤(at_ g ((k:Int)-1)).1∨insK n.2.1<0∨(n.2.2.1.length:Int)≠insK n.2.1
 ·rw[if_pos H]at h;cases h
 ·unfold lastOf;split<;>omega
theorem ok_eq (g:List Nd):okL g 0 0 g=okR g 0 g:=by
 have J:=Qih g g.length 0 (by omega)
 have N:=Qij g g.length 0 (by omega)
 rw[Wa]at J N
 rw[show lastOf g 0=0 from rfl]at J
 rw[Y6,J,N]
 constructor
 ·intro h i n _ H
  have I: ∀i n,g[i]?=some n→lastOf g i<n.1:=fun i n H=>by
   have:=h i n (by omega) H
   exact Int.lt_of_not_ge fun O=>this (.inl O)
  exact(own_iff (inc_of I) H (I i n H)).2 (h i n (by omega) H)
 ·intro h i n _ H
  have I: ∀i n,g[i]?=some n→lastOf g i<n.1:=fun i n H=>own_last (h i n (by omega) H)
  exact(own_iff (inc_of I) H (I i n H)).1 (h i n (by omega) H)
theorem ok_inc {g:List Nd}(h:okR g 0 g=true):Inc g:=by
 have H:=Qij g g.length 0 (by omega)
 rw[Wa]at H
 exact inc_of fun i n I=>own_last (H.1 h i n (by omega) I)
theorem parts_eq (g:List Nd)(I:Few g):F.eJ g=if(32:Int)<(g.length:Int)then some 80 else if okR g 0 g=true then(if g.all (fun n=>decide (chk n.2.1 n.2.2.2.1=0))=true then(if g.all (fun n=>n.2.2.1.all (inOk g))=true then some 0 else some 80)else some 60)else some 80:=by
 have J:=I.1
 unfold F.eJ
 rw[parts_l5 g (by omega) (fun x H=>(I.2 x H).2.1),parts_l4 g (by omega) (fun x H=>(I.2 x H).2.2),parts_l3 g (by omega) (fun x H=>(I.2 x H).1)]
theorem fed_of {g:List Nd}(h:g.all (fun n=>n.2.2.1.all (inOk g))=true):Fed g:=fun x I k hk=>by
 have H:=Qz.1 (Qz.1 h x I) k hk
 unfold inOk at H
 by_cases J:idx g k<0
 ·rw[if_pos J]at H;cases H
 ·omega
theorem bset_len {l:List Bool}{i:Nat}:(l.set i true).length=l.length:=W5
theorem bget_get {l:List Bool}{i:Nat}(h:i<l.length):l[i]?=some (bget l (i:Int)):=by
 unfold bget;rw[Qs,Qd h];rfl
theorem bix {l:List Bool}{i:Int}(H:0≤i)(h:i<l.length):A.ix l i=some (bget l i):=by
 have e:i=((i.toNat:Nat):Int):=by omega
 rw[e];exact A.ixn (bget_get (by omega))
theorem iix {l:List Int}{i:Int}(H:0≤i)(h:i<l.length):A.ix l i=some (iget l i):=by
 refine A.ixg H ?_
 unfold iget;rw[Qd (by omega)];rfl
theorem ready_eq (g:List Nd)(n:Nd)(done:List Bool)(J:g.length≤100)(Y:done.length=g.length)(hl:n.2.2.1.length≤5000)(N: ∀k∈n.2.2.1,0≤idx g k):F.eK g n done=some (ready g done n):=
 A.lp0 n.2.2.1 (fun f y=>F.bU g n done f y) (fun k l=>some (Qei g done n.2.1 l))
  (fun f=>by rw[F.bU,if_neg (by omega)];rfl)
  (fun f k x I hk O=>by
   have W:=N x (Qf I)
   have h2:=(idx_le g x).2
   rw[F.bU,if_pos (by omega),Qei]
   simp only[F.dI,A.gd1 (A.r64n (n:=k) (by omega)),O]
   by_cases H:n.2.1=14
   ·simp[H]
   ·rw[if_pos H,A.ixn I,Qa,Qbk g x J,Qa,bix W (by omega),Qa]
    cases bget done (idx g x)<;>simp[H])
  (by have:=Qab;omega)
theorem order_l3 (g:List Nd)(Y:Few g)(hfed:Fed g)(J:List Bool→List Int→Option (List Int×Bool))(done:List Bool)(l:List Int)(hd:done.length=g.length)(hl:l.length≤100):
  F.a3 J g done l A.FU (-1) 0=if Qad g done 0 g (-1)<0 then some ([],false)else J (done.set (Qad g done 0 g (-1)).toNat true) (l++[Qad g done 0 g (-1)]):=
 A.lp g (fun f (a:Int) y=>F.a3 J g done l f a y) (fun k t a=>if Qad g done k t a<0 then some ([],false)else J (done.set (Qad g done k t a).toNat true) (l++[Qad g done k t a])) (fun k a=> -1≤a∧a<g.length)
  (fun f a hp=>by
   rw[F.a3,A.ba,if_neg (by simp),Qad]
   by_cases h:a<0
   ·rw[if_pos h,if_pos h]
   ·rw[if_neg h,if_neg h,bix (by omega) (by omega),Qa,A.gd1 (by simp only[Qi,Qx];omega)])
  (fun f a k x N hk hp O=>by
   have hlen:=Y.1
   rw[F.a3,A.ba,if_pos (by simp;omega),Qad]
   simp only[F.c6,F.dJ,A.gd1 (A.r64n (n:=k) (by omega)),Qy,if_false]
   by_cases h:a<0
   ·by_cases H:bget done (k:Int)=true
    ·have e:(if(a<0∧bget done (k:Int)=false)∧ready g done x=true then(k:Int)else a)=a:=if_neg (by rw[H];simp)
     rw[e,if_pos h,bix (by omega) (by omega),Qa,H]
     simp only[Xp,Qy,if_false]
     exact O a hp
    ·rw[Bool.not_eq_true]at H
     have I:F.eK g x done=some (ready g done x):=ready_eq g x done (by omega) hd (Y.in N) (hfed x (Qf N))
     by_cases W:ready g done x=true
     ·have e:(if(a<0∧bget done (k:Int)=false)∧ready g done x=true then(k:Int)else a)=k:=if_pos ⟨⟨h,H⟩,W⟩
      rw[e,if_pos h,bix (by omega) (by omega),Qa,H]
      simp only[Yw,if_true,A.ixn N,Qa]
      rw[I,Qa,if_pos W];exact O k (by omega)
     ·have e:(if(a<0∧bget done (k:Int)=false)∧ready g done x=true then(k:Int)else a)=a:=if_neg (fun h2=>W h2.2)
      rw[e,if_pos h,bix (by omega) (by omega),Qa,H]
      simp only[Yw,if_true,A.ixn N,Qa]
      rw[I,Qa,if_neg W];exact O a hp
   ·have e:(if(a<0∧bget done (k:Int)=false)∧ready g done x=true then(k:Int)else a)=a:=if_neg (fun h2=>h h2.1.1)
    rw[e,if_neg h];exact O a hp)
  (by have:=Qab;have:=Y.1;omega) (-1) (by omega)
def ordR (g:List Nd)(r:Nat)(done:List Bool)(l:List Int):List Int×Bool:=match Qaq g r done l with
 |some l'=>(l',true)
 |none=>([],false)
theorem order_l4 (g:List Nd)(H:Few g)(hfed:Fed g): ∀(r f:Nat) (done:List Bool) (l:List Int),r<f→l.length+r=g.length→done.length=g.length→F.bu g f done l=some (ordR g r done l)
 |0,f,done,l,J,N,I=>by
  obtain⟨f,rfl⟩: ∃f',f=f'+1:=⟨f-1,by omega⟩
  rw[F.bu,if_neg (by omega)];rfl
 |r+1,f,done,l,J,N,I=>by
  obtain⟨f,rfl⟩: ∃f',f=f'+1:=⟨f-1,by omega⟩
  have:=H.1
  rw[F.bu,if_pos (by omega),order_l3 g H hfed _ done l I (by omega),ordR,Qaq]
  by_cases h:Qad g done 0 g (-1)<0
  ·rw[if_pos h,if_pos h]
  ·rw[if_neg h,if_neg h,order_l4 g H hfed r f _ _ (by omega) (by simp only[Ql,Qi,Qx];omega) (by rw[bset_len];exact I)]
   rfl
theorem R_order_eq (g:List Nd)(H:Few g)(hfed:Fed g):F.dK g=some (ordR g g.length (List.replicate g.length false) []):=by
 have:=H.1
 unfold F.dK
 rw[A.gd1 (by omega),order_l4 g H hfed g.length A.FU _ [] (by have:=Qab;omega) (by simp) (by simp)]
def Qdz (m:List (Int×Bool))(n:Nd):Bool:=n.2.2.1.all fun k=>Z.mget false m k||decide (n.2.1=14)
def Qgp (m:List (Int×Bool)):List Nd→Option Nd
 | []=>none
 |n::r=>if Z.mget false m n.1=false∧Qdz m n=true then some n else Qgp m r
def sortS (g:List Nd):Nat→List (Int×Bool)→List Int→List Int
 |0,_,xs=>xs
 |r+1,m,xs=>match Qgp m g with
  |some n=>sortS g r (Z.mins m n.1 true) (xs++[n.1])
  |none=>sortS g r m xs
abbrev PlR:=Option (Bool×((List (Int×Nd))×(List Int)×(List (Int×Int))))
theorem sort_l4 (g:List Nd)(I:Few g)(k29:List Int→List (Int×Bool)→Int→PlR)(xs:List Int)(m:List (Int×Bool))(y:Int)(Y:xs.length≤100)(hy:0≤y∧y≤100):
  F.ae k29 g xs m y A.FU 0=match Qgp m g with
   |some n=>k29 (xs++[n.1]) (Z.mins m n.1 true) (y+1)
   |none=>k29 xs m (y+1):=
 A.lp0 g (fun f i=>F.ae k29 g xs m y f i) (fun _ l=>match Qgp m l with
   |some n=>k29 (xs++[n.1]) (Z.mins m n.1 true) (y+1)
   |none=>k29 xs m (y+1))
  (fun f=>by rw[F.ae,if_neg (by omega),F.bC,A.gd1 ⟨by omega,by omega⟩];rfl)
  (fun f k x W hk ih=>by
   have hlen:=I.1
   have hin:=I.in W
   rw[F.ae,if_pos (by omega),A.ixn W,Qa,A.lt,Qgp]
   have loop:=A.lp0 x.2.2.1 (fun J j=>F.ba k29 (F.ae k29 g xs m y f) xs m y (k:Int) x J j) (fun _ l=>if l.all (fun k=>Z.mget false m k||decide (x.2.1=14))=true then k29 (xs++[x.1]) (Z.mins m x.1 true) (y+1)else F.ae k29 g xs m y f ((k:Int)+1))
    (fun J=>by rw[F.ba,if_neg (by omega),A.gd1 (by simp only[Qi,Qx];omega),F.bC,A.gd1 ⟨by omega,by omega⟩];rfl)
    (fun J j z hz hj N=>by
     rw[F.ba,if_pos (by omega),A.ixn hz,Qa,A.lt,A.gd1 (A.r64n (by omega)),N,F.bD,A.gd1 (A.r64n (by omega)),Xw]
     cases hm:Z.mget false m z<;>by_cases O:x.2.1=14<;>simp[O])
    (by have:=Qab;omega)
   rw[loop,F.bD,A.gd1 (A.r64n (by omega)),ih]
   cases hm:Z.mget false m x.1 with
   |true=>
    have e: ¬((true:Bool)=false∧Qdz m x=true):=fun h=>by cases h.1
    rw[if_pos rfl,if_neg e]
   |false=>
    rw[if_neg Wn]
    by_cases H:Qdz m x=true
    ·have e:(false:Bool)=false∧Qdz m x=true:=⟨rfl,H⟩
     rw[if_pos (show(x.2.2.1.all fun k=>Z.mget false m k||decide (x.2.1=14))=true from H),if_pos e]
    ·have e: ¬((false:Bool)=false∧Qdz m x=true):=fun h=>H h.2
     rw[if_neg (show ¬(x.2.2.1.all fun k=>Z.mget false m k||decide (x.2.1=14))=true from H),if_neg e])
  (by have:=Qab;have:=I.1;omega)
theorem Qiz (g:List Nd)(H:Few g)(a0:(List (Int×Nd))×(List Int)×(List (Int×Int))): ∀(r f:Nat) (m:List (Int×Bool)) (xs:List Int) (y:Nat),r<f→y+r=g.length→xs.length≤y→F.au a0 g f xs m (y:Int)=some (decide (((sortS g r m xs).length:Int)=(g.length:Int)),(a0.1,sortS g r m xs,a0.2.2))
 |0,f,m,xs,y,I,J,N=>by
  obtain⟨f,rfl⟩: ∃f',f=f'+1:=⟨f-1,by omega⟩
  rw[F.au,if_neg (by omega)];rfl
 |r+1,f,m,xs,y,I,J,N=>by
  obtain⟨f,rfl⟩: ∃f',f=f'+1:=⟨f-1,by omega⟩
  have:=H.1
  rw[F.au,if_pos (by omega),sort_l4 g H _ xs m y (by omega) (by omega),sortS]
  have e:(y:Int)+1=((y+1:Nat):Int):=by omega
  cases Qgp m g with
  |none=>simp only[];rw[e,Qiz g H a0 r f m xs (y+1) (by omega) (by omega) (by omega)]
  |some n=>simp only[];rw[e,Qiz g H a0 r f _ _ (y+1) (by omega) (by omega) (by simp only[Ql,Qi,Qx];omega)]
theorem sort_eq (g:List Nd)(H:Few g)(m:List (Int×Nd)):F.bl (m,[],[]) g=some (decide (((sortS g g.length [] []).length:Int)=(g.length:Int)),(m,sortS g g.length [] [],[])):=by
 unfold F.bl
 exact Qiz g H (m,[],[]) g.length A.FU [] [] 0 (by have:=Qab;have:=H.1;omega) (by omega) (by simp)
def Rel (g:List Nd)(done:List Bool)(m:List (Int×Bool)):Prop:=∀(i:Nat) (n:Nd),g[i]?=some n→Z.mget false m n.1=bget done (i:Int)
theorem ready_rel {g:List Nd}{done:List Bool}{m:List (Int×Bool)}(h:Rel g done m){n:Nd}(H: ∀k∈n.2.2.1,0≤idx g k):Qdz m n=ready g done n:=by
 unfold Qdz ready
 generalize n.2.2.1=l at H
 induction l with
 |nil=>rfl
 |cons k r O=>
  rw[Xw,O fun x W=>H x (Qe _ W),Qei]
  have J:=H k (Qg ..)
  obtain⟨q,Y,h2,h3⟩:=idx_get J
  have N:=h _ q Y
  rw[h3,Ww J]at N
  rw[N]
  cases bget done (idx g k)<;>by_cases I:n.2.1=14<;>simp[I]
theorem Qeh (g:List Nd)(done:List Bool): ∀(k:Nat) (l:List Nd) (a:Int),0≤a→Qad g done k l a=a
 |_,[],_,_=>rfl
 |k,x::r,a,h=>by
  unfold Qad
  rw[if_neg (fun H=>by omega)]
  exact Qeh g done (k+1) r a h
theorem Qfc {g:List Nd}{done:List Bool}{m:List (Int×Bool)}(h:Rel g done m)(J:Fed g): ∀(r k:Nat),k+r=g.length→(Qad g done k (g.drop k) (-1)= -1∧Qgp m (g.drop k)=none)∨(∃(i:Nat) (n:Nd),Qad g done k (g.drop k) (-1)=(i:Int)∧g[i]?=some n∧Qgp m (g.drop k)=some n∧bget done (i:Int)=false)
 |0,k,hk=>by
  rw[Q2 (by omega)];exact .inl ⟨rfl,rfl⟩
 |r+1,k,hk=>by
  have I:g[k]?=some g[k]:=Qd (by omega)
  generalize g[k]=x at I
  rw[A.dropx I,Qad,Qgp,h k x I,ready_rel h (J x (Qf I))]
  by_cases H:bget done (k:Int)=false∧ready g done x=true
  ·rw[if_pos H,if_pos ⟨⟨by omega,H.1⟩,H.2⟩,Qeh _ _ _ _ _ (by omega)]
   exact .inr ⟨k,x,rfl,I,rfl,H.1⟩
  ·rw[if_neg H,if_neg (fun N=>H ⟨N.1.2,N.2⟩)]
   exact Qfc h J r (k+1) (by omega)
def idAt (g:List Nd)(i:Int):Int:=(at_ g i).1
theorem rel_set {g:List Nd}(J:Inc g){done:List Bool}{m:List (Int×Bool)}(h:Rel g done m)(O:done.length=g.length){i:Nat}{n:Nd}(H:g[i]?=some n):Rel g (done.set i true) (Z.mins m n.1 true):=fun j q hq=>by
 rw[Uw]
 have W:=(Qc.1 H).1
 by_cases e:q.1=n.1
 ·have:=J.inj hq H e
  subst this
  rw[if_pos e]
  unfold bget
  rw[Qs,Ys (by omega)];rfl
 ·rw[if_neg e,h j q hq]
  have I:i≠j:=fun N=>e (by subst N;rw[H]at hq;injection hq with hq;rw[hq])
  unfold bget
  rw[Qs,List.getElem?_set_ne I]
theorem Qfb {g:List Nd}(N:Inc g)(O:Fed g): ∀(r:Nat) (done:List Bool) (m:List (Int×Bool)) (l:List Int),Rel g done m→done.length=g.length→(∃l',Qaq g r done l=some l'∧sortS g r m (l.map (idAt g))=l'.map (idAt g)∧l'.length=l.length+r)∨(Qaq g r done l=none∧(sortS g r m (l.map (idAt g))).length <l.length+r)
 |0,done,m,l,_,_=>.inl ⟨l,rfl,rfl,rfl⟩
 |r+1,done,m,l,h,W=>by
  rw[Qaq,sortS]
  rcases Qfc h O g.length 0 (by omega)with⟨I,H⟩|⟨i,n,I,H,Y,h4⟩
  ·rw[Wa]at I H
   rw[I,if_pos (by omega),H]
   refine .inr ⟨rfl,?_⟩
   simp only[]
   have stay: ∀(r:Nat) (xs:List Int),sortS g r m xs=xs:=by
    intro r
    induction r with
    |zero=>intro xs;rfl
    |succ r ih=>intro xs;rw[sortS,H];exact ih xs
   rw[stay,Qw];omega
  ·rw[Wa]at I Y
   rw[I,if_neg (by omega),Y,Qs]
   simp only[]
   have e:l.map (idAt g)++[n.1]=(l++[(i:Int)]).map (idAt g):=by
    rw[Yg];simp only[Q3,Xt,idAt,Qav rfl H]
   rw[e]
   rcases Qfb N O r (done.set i true) (Z.mins m n.1 true) (l++[(i:Int)]) (rel_set N h W H) (by rw[bset_len];exact W)with⟨l',J,h6,h7⟩|⟨J,h6⟩
   ·exact .inl ⟨l',J,h6,by rw[h7];simp only[Ql,Qi,Qx];omega⟩
   ·exact .inr ⟨J,by simp only[Ql,Qi,Qx]at h6;omega⟩
theorem rel_0 (g:List Nd):Rel g (List.replicate g.length false) []:=fun i n H=>by
 unfold bget
 rw[Qs,Xc]
 split<;>rfl
theorem order_sort {g:List Nd}(J:Few g)(W:Inc g)(N:Fed g)(m:List (Int×Nd)):(∃l,F.dK g=some (l,true)∧F.bl (m,[],[]) g=some (true,(m,l.map (idAt g),[]))∧l.length=g.length∧Qaq g g.length (List.replicate g.length false) []=some l)∨(F.dK g=some ([],false)∧∃p,F.bl (m,[],[]) g=some (false,p)):=by
 rw[R_order_eq g J N,sort_eq g J m,ordR]
 rcases Qfb W N g.length (List.replicate g.length false) [] [] (rel_0 g) (by simp)with⟨l,I,H,O⟩|⟨I,H⟩
 ·rw[Xt]at H
  rw[I,H]
  left
  refine⟨l,rfl,?_,by simpa using O,rfl⟩
  rw[Qw,decide_eq_true (by simp at O;omega)]
 ·rw[Xt]at H
  rw[I]
  right
  refine⟨rfl,(m,sortS g g.length [] [],[]),?_⟩
  rw[decide_eq_false (by simp at H;omega)]
end Go.Proofs.YtlbnpmfggfbdoaaGreatDoor
end
section
namespace Go.A
theorem mrg_any {α β:Type}[DecidableEq β]{body:α→Option (Option β)}{rest:Option β}{y:β}{p:α→Bool}: ∀{l:List α},(∀x∈l,body x=if p x=true then some (some y)else some none)→mrg body rest l=if l.any p=true then some y else rest
 | [],_=>rfl
 |x::l,h=>by
  have J:=h x (Qg ..)
  have N:=mrg_any (rest:=rest) (l:=l) fun z H=>h z (Qe _ H)
  unfold mrg
  rw[J,Xo]
  cases hp:p x with
  |true=>
   simp only[Qa,if_true,Yu]
   rw[if_pos]
   rw[Qz]
   intro z H
   have I:=h z (Qe _ H)
   refine decide_eq_true ?_
   rw[I]
   cases p z<;>simp
  |false=>
   simp only[Qa,Qy,if_false,W6]
   exact N
end Go.A
namespace Go.Proofs.YtlbnpmfggfbdoaaGreatDoor
open Go.RowKit Go.Graph
theorem R_depth_eq (n:Nd)(l:List Int)(h5:n.2.1=5∨n.2.1=9→2≤l.length)(hb: -1≤d0 l∧d0 l≤4):F.ej n l=some (depthOf n l):=by
 have N:F.c9 n l (d0 l)=some (depthOf n l):=by
  unfold F.c9 depthOf Qct
  have O: ∀y,F.a4 y=some (capd y):=fun y=>by unfold F.a4 F.dL capd;split<;>rfl
  have W: ∀y,(y=true↔n.2.1=5∨n.2.1=9)→F.c8 n l (d0 l) y=some (capd (if n.2.1=5∨n.2.1=9 then(if iget l 0≠iget l 1 then-1 else d0 l)else if n.2.1=11∨n.2.1=16∨n.2.1=15 then(if d0 l≠0 then-1 else d0 l)else d0 l)):=fun y hy=>by
   unfold F.c8 F.c7
   simp only[O,decide_eq_true_eq]
   by_cases h:n.2.1=5∨n.2.1=9
   ·have:=h5 h
    rw[if_pos (hy.2 h),if_pos h,iix (i:=0) (by omega) (by omega),Qa,iix (i:=1) (by omega) (by omega),Qa]
    by_cases e:iget l 0=iget l 1
    ·rw[if_neg (fun h=>h e),if_neg (fun h=>h e)]
    ·rw[if_pos e,if_pos e]
   ·rw[if_neg (fun h2=>h (hy.1 h2)),if_neg h]
    by_cases Y:n.2.1=11
    ·simp only[Y,if_true,true_or];split<;>rfl
    ·by_cases h16:n.2.1=16
     ·simp only[h16,if_true,true_or,or_true,if_false,Int.reduceEq];split<;>rfl
     ·by_cases h15:n.2.1=15
      ·simp only[h15,if_true,or_true,if_false,Int.reduceEq];split<;>rfl
      ·simp only[Y,h16,h15,if_false,or_self]
  simp only[O]
  by_cases H:n.2.1=14
  ·rw[if_pos H,if_pos H]
  ·rw[if_neg H,if_neg H]
   by_cases I:n.2.1=12
   ·rw[if_pos I,if_pos I,A.gd1 ⟨by omega,by omega⟩]
   ·rw[if_neg I,if_neg I]
    by_cases J:n.2.1=13
    ·rw[if_pos J,if_pos J,A.gd1 ⟨by omega,by omega⟩]
    ·rw[if_neg J,if_neg J]
     by_cases h5':n.2.1=5
     ·rw[if_pos h5',W _ (by simp[h5'])]
     ·rw[if_neg h5',W _ (by simp[h5'])]
 unfold F.ej
 by_cases h:(0:Int)<(l.length:Int)
 ·rw[if_pos h,iix (i:=0) (by omega) (by omega),Qa,Qis];exact N
 ·rw[if_neg h,d0_nil (l:=l) (by omega)];exact N
def Own (g:List Nd):Prop:=∀n,n∈g→ownQ n=true
theorem own_ins {n:Nd}(h:ownQ n=true):0≤insK n.2.1∧(n.2.2.1.length:Int)=insK n.2.1:=by
 unfold ownQ at h
 by_cases H:n.1<1∨255<n.1∨insK n.2.1<0∨(n.2.2.1.length:Int)≠insK n.2.1
 ·rw[if_pos H]at h;cases h
 ·omega
theorem own_id {n:Nd}(h:ownQ n=true):1≤n.1∧n.1≤255:=by
 unfold ownQ at h
 by_cases H:n.1<1∨255<n.1∨insK n.2.1<0∨(n.2.2.1.length:Int)≠insK n.2.1
 ·rw[if_pos H]at h;cases h
 ·omega
theorem own_D {n:Nd}(h:ownQ n=true):(n.2.1=14→1≤n.2.2.2.2.2.2∧n.2.2.2.2.2.2≤4)∧(n.2.1≠14→n.2.2.2.2.2.2=0):=by
 unfold ownQ at h
 by_cases H:n.1<1∨255<n.1∨insK n.2.1<0∨(n.2.2.1.length:Int)≠insK n.2.1
 ·rw[if_pos H]at h;cases h
 ·rw[if_neg H]at h
  by_cases I:ownC n
  ·rw[if_pos I]at h;cases h
  ·unfold ownC at I;omega
theorem insK_cases (k:Int)(h:0≤insK k):(k=1∧insK k=0)∨((k=5∨k=9)∧insK k=2)∨(k≠1∧k≠5∧k≠9∧insK k=1):=by
 unfold insK at h ⊢
 by_cases H:k<1∨16<k
 ·rw[if_pos H]at h;omega
 ·rw[if_neg H]
  by_cases I:k=1
  ·rw[if_pos I];omega
  ·rw[if_neg I]
   by_cases J:k=5∨k=9
   ·rw[if_pos J];omega
   ·rw[if_neg J];omega
theorem own_len {n:Nd}(h:ownQ n=true):(n.2.1=1∧n.2.2.1.length=0)∨((n.2.1=5∨n.2.1=9)∧n.2.2.1.length=2)∨(n.2.1≠1∧n.2.1≠5∧n.2.1≠9∧n.2.2.1.length=1):=by
 have I:=own_ins h
 rcases insK_cases n.2.1 I.1 with H|H|H<;>omega
theorem Qgc {l:List Int}{i:Nat}{v:Int}:(l.set i v).length=l.length:=W5
theorem depths_l1 (g:List Nd)(l d:List Int)(y:Nat)(p:Nat)(x:Nd)(J:List Int→Int→Option (List Int×Bool))(hb:Few g)(hfed:Fed g)(ho:Own g)(hd:d.length=g.length)(N:InB d)(hp:l[y]?=some (p:Int))(hy:y<100)(O:g[p]?=some x):
  F.b0 J g l d (y:Int) x A.FU [] 0=if depthOf x (inD g d x.2.2.1)<0 then some ([],false)else J (d.set p (depthOf x (inD g d x.2.2.1))) ((y:Int)+1):=by
 have hlen:=hb.1
 have hin:=hb.in O
 have hpl:=(Qc.1 O).1
 have H:=Qf O
 have loop:=A.lp x.2.2.1 (fun f (s:List Int) i=>F.b0 J g l d (y:Int) x f s i) (fun _ t s=>if depthOf x (s++inD g d t)<0 then some ([],false)else J (d.set p (depthOf x (s++inD g d t))) ((y:Int)+1)) (fun k s=>s=inD g d (x.2.2.1.take k))
  (fun f s I=>by
   rw[W7 (Q1 _)]at I
   subst I
   have hdep:F.ej x (inD g d x.2.2.1)=some (depthOf x (inD g d x.2.2.1)):=R_depth_eq x (inD g d x.2.2.1) (fun h=>by rcases own_len (ho x H)with W|W|W<;>simp only[inD,Qw]<;>omega) (N.d0 g _)
   have e:(inD g d x.2.2.1++inD g d ([]:List Int))=inD g d x.2.2.1:=by simp[inD]
   rw[F.b0,if_neg (by omega),A.ixn hp,Qa,hdep,Qa,iix (by omega) (by omega),Qa,Qa,e,iix (by omega) (by rw[Qgc];omega),Qa,A.gd1 (A.r64n (by omega)),Qs]
   have e2:iget (d.set p (depthOf x (inD g d x.2.2.1))) (p:Int)=depthOf x (inD g d x.2.2.1):=by
    unfold iget;rw[Qs,Ys (by omega)];rfl
   rw[e2])
  (fun f s k z Y hk I ih=>by
   have h1:=hfed x H z (Qf Y)
   have W:=(idx_le g z).2
   rw[F.b0,if_pos (by omega),A.ixn Y,Qa,Qbk g z (by omega),Qa,iix h1 (by omega),Qa]
   have hs2:s++[iget d (idx g z)]=inD g d (x.2.2.1.take (k+1)):=by rw[I];exact inD_take Y
   rw[A.gd1 (by rw[I];simp only[inD,Qw,Qu,Qi,Qx];omega),A.gd1 (A.r64n (by omega)),ih _ hs2]
   simp only[inD,Q3,Wd,X3])
  (by have:=Qab;omega) [] (by simp[inD])
 rw[loop]
 rfl
theorem depths_l3 (g:List Nd)(d:List Int)(O:Few g)(hfed:Fed g)(Y:Own g)(hd:d.length=g.length):F.bf g d A.FU 0=if Qbh g d g=true then some (d,true)else some ([],false):=
 A.lp0 g (fun f y=>F.bf g d f y) (fun _ t=>if Qbh g d t=true then some (d,true)else some ([],false))
  (fun f=>by rw[F.bf,if_neg (by omega)];rfl)
  (fun f k x W hk ih=>by
   have hlen:=O.1
   have I:=Qf W
   rw[F.bf,if_pos (by omega),A.ixn W,Qa,Qbh]
   simp only[F.dl,A.gd1 (A.r64n (n:=k) (by omega)),ih,decide_eq_true_eq]
   by_cases H:x.2.1=14
   ·have hl:x.2.2.1.length=1:=by rcases own_len (Y x I)with N|N|N<;>omega
    have J:x.2.2.1[0]?=some (iget x.2.2.1 0):=by
     unfold iget
     rw[show(0:Int).toNat=0 from rfl,Qd (by omega)];rfl
    have h1:=hfed x I _ (Qf J)
    have N:=(idx_le g (iget x.2.2.1 0)).2
    rw[if_pos H,show A.ix x.2.2.1 0=_ from A.ixn J,Qa,Qbk g _ (by omega),Qa,iix h1 (by omega),Qa]
    by_cases e:iget d (idx g (iget x.2.2.1 0))≠x.2.2.2.2.2.2
    ·rw[if_pos e]
     have e2:x.2.1=14∧iget d (idx g (iget x.2.2.1 0))≠x.2.2.2.2.2.2:=⟨H,e⟩
     rw[if_pos e2,if_neg Wn]
    ·rw[if_neg e]
     have e2: ¬(x.2.1=14∧iget d (idx g (iget x.2.2.1 0))≠x.2.2.2.2.2.2):=fun h=>e h.2
     rw[if_neg e2]
   ·have e2: ¬(x.2.1=14∧iget d (idx g (iget x.2.2.1 0))≠x.2.2.2.2.2.2):=fun h=>H h.1
    rw[if_neg H,if_neg Wn,if_neg e2])
  (by have:=Qab;have:=O.1;omega)
def Plc (g:List Nd)(l:List Int):Prop:=∀(i:Nat) (p:Int),l[i]?=some p→∃(k:Nat) (n:Nd),p=(k:Int)∧g[k]?=some n
theorem depths_l4 (g:List Nd)(l:List Int)(I:Few g)(hfed:Fed g)(O:Own g)(Y:l.length≤60)(hp:Plc g l):F.dg g l=some (depths g l):=by
 have hlen:=I.1
 have loop:=A.lp l (fun f (s:List Int) i=>F.b1 g l f s i) (fun _ t s=>match Qak g t s with
  |some d=>if Qbh g d g=true then some (d,true)else some ([],false)
  |none=>some ([],false)) (fun k s=>s.length=g.length∧InB s)
  (fun f s H=>by rw[F.b1,if_neg (by omega),depths_l3 g s I hfed O H.1];rfl)
  (fun f s k x J hk H W=>by
   obtain⟨q,n,rfl,N⟩:=hp k x J
   rw[F.b1,if_pos (by omega),A.ixn J,Qa,A.ixn N,Qa,depths_l1 g l s k q n _ I hfed O H.1 H.2 J (by omega) N,Qak,Qav rfl N]
   by_cases h:depthOf n (inD g s n.2.2.1)<0
   ·rw[if_pos h,if_pos h]
   ·rw[if_neg h,if_neg h,Qs]
    exact W _ ⟨by rw[Qgc];exact H.1,H.2.set q (by omega) (Qem n _)⟩)
  (by have:=Qab;omega) (List.replicate g.length 0) ⟨by simp,InB.rep _⟩
 unfold F.dg depths
 rw[A.gd1 (by omega),loop]
 cases Qak g l (List.replicate g.length 0)with
 |none=>rfl
 |some d=>simp only[];cases Qbh g d g<;>rfl
end Go.Proofs.YtlbnpmfggfbdoaaGreatDoor
end
section
namespace Go.Proofs.YtlbnpmfggfbdoaaGreatDoor
open Go.RowKit Go.Graph
def RelD (g:List Nd)(d:List Int)(dm:List (Int×Int)):Prop:=∀(i:Nat) (n:Nd),g[i]?=some n→Z.mget 0 dm n.1=iget d (i:Int)
theorem RelD.in {g:List Nd}{d:List Int}{dm:List (Int×Int)}(h:RelD g d dm){k:Int}(H:0≤idx g k):Z.mget 0 dm k=iget d (idx g k):=by
 obtain⟨q,J,_,N⟩:=idx_get H
 have I:=h _ q J
 rw[N,Ww H]at I
 exact I
theorem iget_nat {l:List Int}{i:Nat}(h:i<l.length):l[i]?=some (iget l (i:Int)):=by
 unfold iget;rw[Qs,Qd h];rfl
theorem inD_at {g:List Nd}{d l:List Int}{i:Nat}{k:Int}(h:l[i]?=some k):iget (inD g d l) (i:Int)=iget d (idx g k):=by
 unfold iget
 rw[Qs,inD,Qt,h];rfl
theorem out_eq (g:List Nd)(d:List Int)(a0:(List (Int×Nd))×(List Int)×(List (Int×Int)))(n:Nd)(hr:RelD g d a0.2.2)(hib:InB d)(ho:ownQ n=true)(hf: ∀k∈n.2.2.1,0≤idx g k):
  ∃v b,F.cx a0 n=some (v,b)∧((b=false∧depthOf n (inD g d n.2.2.1)<0)∨(b=true∧v=depthOf n (inD g d n.2.2.1)∧0≤v)):=by
 have hlen:=own_len ho
 have hD:=own_D ho
 unfold F.cx
 by_cases h1:n.2.1=1
 ·have hl:n.2.2.1=[]:=Wo (by omega)
  rw[if_pos h1]
  refine⟨0,true,rfl,.inr ⟨rfl,?_,Xm _⟩⟩
  unfold depthOf Qct capd
  simp only[h1,hl,inD,Xt,d0];simp
 ·rw[if_neg h1]
  by_cases H:n.2.1=14
  ·rw[if_pos H]
   have:=hD.1 H
   refine⟨_,true,rfl,.inr ⟨rfl,?_,by omega⟩⟩
   unfold depthOf Qct capd
   rw[if_pos H,if_neg (by omega)]
  ·rw[if_neg H]
   have hpos:0<n.2.2.1.length:=by omega
   obtain⟨k0,I⟩: ∃k0,n.2.2.1[0]?=some k0:=⟨_,Qd hpos⟩
   have f0:=hf k0 (Qf I)
   have b0:=hib (idx g k0)
   have e0:d0 (inD g d n.2.2.1)=iget d (idx g k0):=by rw[←Qis];exact inD_at I
   rw[show A.ix n.2.2.1 0=_ from A.ixn I,Qa,A.lt,hr.in f0]
   have hj3: ∀y,(y=true↔(n.2.1=5∨n.2.1=9)∧iget (inD g d n.2.2.1) 0≠iget (inD g d n.2.2.1) 1)→∃v b,F.bY n (iget d (idx g k0)) y=some (v,b)∧((b=false∧depthOf n (inD g d n.2.2.1)<0)∨(b=true∧v=depthOf n (inD g d n.2.2.1)∧0≤v)):=fun y hy=>by
    unfold F.bY depthOf Qct
    rw[if_neg H,e0]
    by_cases J:y=true
    ·have W:=hy.1 J
     rw[if_pos J]
     refine⟨0,false,rfl,.inl ⟨rfl,?_⟩⟩
     rw[if_neg (by omega),if_neg (by omega),if_pos W.1,if_pos W.2];decide
    ·have W: ¬((n.2.1=5∨n.2.1=9)∧iget (inD g d n.2.2.1) 0≠iget (inD g d n.2.2.1) 1):=fun h=>J (hy.2 h)
     rw[if_neg J]
     simp only[F.bW,F.bX,A.ba]
     by_cases N:n.2.1=12
     ·rw[if_pos N,if_pos N,A.gd1 ⟨by omega,by omega⟩]
      unfold capd
      by_cases h4:4<iget d (idx g k0)+1
      ·exact⟨_,_,rfl,.inl ⟨decide_eq_false (by omega),by rw[if_pos h4];decide⟩⟩
      ·exact⟨_,_,rfl,.inr ⟨decide_eq_true (by omega),by rw[if_neg h4],by omega⟩⟩
     ·rw[if_neg N,if_neg N]
      by_cases O:n.2.1=13
      ·rw[if_pos O,if_pos O,A.gd1 ⟨by omega,by omega⟩]
       unfold capd
       rw[if_neg (by omega)]
       by_cases h4:0≤iget d (idx g k0)-1
       ·exact⟨_,_,rfl,.inr ⟨decide_eq_true (by omega),rfl,h4⟩⟩
       ·exact⟨_,_,rfl,.inl ⟨decide_eq_false (by omega),by omega⟩⟩
      ·rw[if_neg O,if_neg O]
       have hz: ∀x:Int,n.2.1=11∨n.2.1=16∨n.2.1=15→∃v b,(some (iget d (idx g k0),decide (iget d (idx g k0)=0)):Option (Int×Bool))=some (v,b)∧((b=false∧capd (if n.2.1=5∨n.2.1=9 then if iget (inD g d n.2.2.1) 0≠iget (inD g d n.2.2.1) 1 then-1 else iget d (idx g k0)else if n.2.1=11∨n.2.1=16∨n.2.1=15 then if iget d (idx g k0)≠0 then-1 else iget d (idx g k0)else iget d (idx g k0))<0)∨(b=true∧v=capd (if n.2.1=5∨n.2.1=9 then if iget (inD g d n.2.2.1) 0≠iget (inD g d n.2.2.1) 1 then-1 else iget d (idx g k0)else if n.2.1=11∨n.2.1=16∨n.2.1=15 then if iget d (idx g k0)≠0 then-1 else iget d (idx g k0)else iget d (idx g k0))∧0≤v)):=fun _ hk=>by
        rw[if_neg (by omega),if_pos hk]
        by_cases h0:iget d (idx g k0)=0
        ·rw[h0];exact⟨_,_,rfl,.inr ⟨rfl,rfl,Xm _⟩⟩
        ·rw[if_pos h0];exact⟨_,_,rfl,.inl ⟨decide_eq_false h0,by decide⟩⟩
       by_cases Y:n.2.1=11
       ·rw[if_pos Y];exact hz 0 (.inl Y)
       ·rw[if_neg Y]
        by_cases h16:n.2.1=16
        ·rw[if_pos h16];exact hz 0 (.inr (.inl h16))
        ·rw[if_neg h16]
         by_cases h15:n.2.1=15
         ·rw[if_pos h15];exact hz 0 (.inr (.inr h15))
         ·rw[if_neg h15]
          refine⟨_,_,rfl,.inr ⟨decide_eq_true (by omega),?_,by omega⟩⟩
          by_cases h5:n.2.1=5∨n.2.1=9
          ·rw[if_pos h5,if_neg (fun h=>W ⟨h5,h⟩)];unfold capd;rw[if_neg (by omega)]
          ·rw[if_neg h5,if_neg (by omega)];unfold capd;rw[if_neg (by omega)]
   by_cases W:(1:Int)<(n.2.2.1.length:Int)
   ·have h5:n.2.1=5∨n.2.1=9:=by omega
    obtain⟨k1,hk1⟩: ∃k1,n.2.2.1[1]?=some k1:=⟨_,Qd (by omega)⟩
    have f1:=hf k1 (Qf hk1)
    rw[if_pos W,show A.ix n.2.2.1 1=_ from A.ixn hk1,Qa,A.lt,hr.in f1]
    refine hj3 _ ?_
    rw[decide_eq_true_eq,show iget (inD g d n.2.2.1) 0=_ from inD_at I,show iget (inD g d n.2.2.1) 1=_ from inD_at hk1]
    exact⟨fun h=>⟨h5,fun e=>h e.symm⟩,fun h e=>h.2 e.symm⟩
   ·rw[if_neg W]
    exact hj3 false ⟨fun h=>(by cases h),fun h=>by omega⟩
theorem relD_set {g:List Nd}(J:Inc g){d:List Int}{dm:List (Int×Int)}(h:RelD g d dm)(O:d.length=g.length){i:Nat}{n:Nd}(H:g[i]?=some n)(v:Int):RelD g (d.set i v) (Z.mins dm n.1 v):=fun j q hq=>by
 rw[Uw]
 have W:=(Qc.1 H).1
 by_cases e:q.1=n.1
 ·have:=J.inj hq H e
  subst this
  rw[if_pos e]
  unfold iget
  rw[Qs,Ys (by omega)];rfl
 ·rw[if_neg e,h j q hq]
  have I:i≠j:=fun N=>e (by subst N;rw[H]at hq;injection hq with hq;rw[hq])
  unfold iget
  rw[Qs,List.getElem?_set_ne I]
def KeyD (g:List Nd)(l:List Int)(dm:List (Int×Int)):Prop:=∀id,Z.mhas dm id=l.any fun p=>decide (idAt g p=id)
theorem Qen (g:List Nd)(l:List Int)(hb:Few g)(hi:Inc g)(hfed:Fed g)(ho:Own g)(hl:l.length≤60)(hp:Plc g l): ∀(r k f:Nat) (d:List Int) (dm:List (Int×Int)),k+r=l.length→r<f→RelD g d dm→InB d→d.length=g.length→KeyD g (l.take k) dm→
  (∃d' dm',Qak g (l.drop k) d=some d'∧F.al (Qac g,l.map (idAt g),[]) f dm (k:Int)=A.mrg (F.bg (Qac g,l.map (idAt g),[]) dm') (some (true,(Qac g,l.map (idAt g),dm'))) (Qac g)∧RelD g d' dm'∧InB d'∧d'.length=g.length∧KeyD g l dm')∨
  (Qak g (l.drop k) d=none∧∃p,F.al (Qac g,l.map (idAt g),[]) f dm (k:Int)=some (false,p))
 |0,k,f,d,dm,hk,hf,N,O,W,Y=>by
  obtain⟨f,rfl⟩: ∃f',f=f'+1:=⟨f-1,by omega⟩
  left
  rw[W7 (by omega)]at Y
  refine⟨d,dm,by rw[Q2 (by omega)];rfl,?_,N,O,W,Y⟩
  rw[F.al,if_neg (by simp only[Qw];omega)]
 |r+1,k,f,d,dm,hk,hf,N,O,W,Y=>by
  obtain⟨f,rfl⟩: ∃f',f=f'+1:=⟨f-1,by omega⟩
  have H:l[k]?=some l[k]:=Qd (by omega)
  generalize l[k]=x at H
  obtain⟨q,n,rfl,I⟩:=hp k x H
  have hng:=Qf I
  have J:idAt g (q:Int)=n.1:=by unfold idAt;rw[Qav rfl I]
  have e1:A.ix (l.map (idAt g)) (k:Int)=some n.1:=A.ixn (by rw[Qt,H,Wj,J])
  obtain⟨v,b,ho1,ho2⟩:=out_eq g d (Qac g,l.map (idAt g),dm) n N O (ho n hng) (hfed n hng)
  have eF:F.al (Qac g,l.map (idAt g),[]) (f+1) dm (k:Int)=if(!b)=true then some (false,(Qac g,l.map (idAt g),dm))else A.gd (Z.R64 ((k:Int)+1)) (F.al (Qac g,l.map (idAt g),[]) f (Z.mins dm n.1 v) ((k:Int)+1)):=by
   rw[F.al,if_pos (by simp only[Qw];omega)]
   simp only[e1,Qa,A.lt,hi.mget I]
   rw[show F.cx (Qac g,l.map (idAt g),dm) n=_ from ho1,Qa]
  rw[A.dropx H,Qak,Qav rfl I,eF]
  rcases ho2 with⟨rfl,h5⟩|⟨rfl,h5,h6⟩
  ·right
   rw[if_pos (show depthOf n (n.2.2.1.map fun k=>iget d (idx g k))<0 from h5)]
   exact⟨rfl,_,if_pos rfl⟩
  ·subst h5
   rw[if_neg (show ¬depthOf n (n.2.2.1.map fun k=>iget d (idx g k))<0 by simp only[inD]at h6;omega),if_neg (by simp),A.gd1 (A.r64n (by omega)),Qs]
   have:=Qen g l hb hi hfed ho hl hp r (k+1) f (d.set q (depthOf n (inD g d n.2.2.1))) (Z.mins dm n.1 (depthOf n (inD g d n.2.2.1))) (by omega) (by omega) (relD_set hi N W I _) (O.set q h6 (Qem n _)) (by rw[Qgc];exact W) (fun id=>by
    rw[Z.mhas_ins,Qcw H,List.any_append,Y id,Xo,Js,Jh,J,Bool.or_comm]
    congr 1
    exact decide_eq_decide.2 ⟨fun h=>h.symm,fun h=>h.symm⟩)
   exact this
theorem Qbj (g:List Nd)(d:List Int): ∀l,Qbh g d l= !(l.any fun x=>decide (x.2.1=14∧iget d (idx g (iget x.2.2.1 0))≠x.2.2.2.2.2.2))
 | []=>rfl
 |x::r=>by
  unfold Qbh
  rw[Xo]
  by_cases h:x.2.1=14∧iget d (idx g (iget x.2.2.1 0))≠x.2.2.2.2.2.2
  ·rw[if_pos h,decide_eq_true h];rfl
  ·rw[if_neg h,decide_eq_false h,W6];exact Qbj g d r
theorem Qim (g:List Nd)(l:List Int)(Y:Few g)(hi:Inc g)(hfed:Fed g)(O:Own g)(hl:l.length≤60)(hp:Plc g l):
  (∃d dm,F.dg g l=some (d,true)∧F.bh (Qac g,l.map (idAt g),[])=some (true,(Qac g,l.map (idAt g),dm))∧RelD g d dm∧InB d∧d.length=g.length∧KeyD g l dm∧Qbh g d g=true∧Qak g l (List.replicate g.length 0)=some d)∨
  (F.dg g l=some ([],false)∧∃p,F.bh (Qac g,l.map (idAt g),[])=some (false,p)):=by
 have h0:RelD g (List.replicate g.length 0) []:=fun i n W=>by
  unfold iget;rw[Qs,Xc];split<;>rfl
 rw[depths_l4 g l Y hfed O hl hp]
 unfold F.bh depths
 rcases Qen g l Y hi hfed O hl hp l.length 0 A.FU (List.replicate g.length 0) [] (by omega) (by have:=Qab;omega) h0 (InB.rep _) (by simp) (fun id=>by simp[Z.mhas])with⟨d,dm,J,I,h3,h4,h5,h6⟩|⟨J,p,I⟩
 ·rw[Wa]at J
  rw[J]
  simp only[]
  have hm:A.mrg (F.bg (Qac g,l.map (idAt g),[]) dm) (some (true,(Qac g,l.map (idAt g),dm))) (Qac g)=if(Qac g).any (fun p=>decide (p.2.2.1=14∧iget d (idx g (iget p.2.2.2.1 0))≠p.2.2.2.2.2.2.2))=true then some (false,(Qac g,l.map (idAt g),dm))else some (true,(Qac g,l.map (idAt g),dm)):=by
   refine A.mrg_any fun p hp=>?_
   obtain⟨n,W,rfl⟩:=Qv.1 hp
   unfold F.bg F.bM
   by_cases H:n.2.1=14
   ·have hl1:n.2.2.1.length=1:=by rcases own_len (O n W)with I|I|I<;>omega
    have N:n.2.2.1[0]?=some (iget n.2.2.1 0):=iget_nat (i:=0) (by omega)
    have f0:=hfed n W _ (Qf N)
    rw[if_pos H,show A.ix n.2.2.1 0=_ from A.ixn N,Qa,A.lt,h3.in f0]
    by_cases e:iget d (idx g (iget n.2.2.1 0))≠n.2.2.2.2.2.2
    ·rw[decide_eq_true e,if_pos rfl,decide_eq_true (And.intro H e),if_pos rfl]
    ·rw[decide_eq_false e,if_neg Wn,decide_eq_false (fun h=>e h.2),if_neg Wn]
   ·rw[if_neg H,if_neg Wn,decide_eq_false (fun h=>H h.1),if_neg Wn]
  have hany:(Qac g).any (fun p=>decide (p.2.2.1=14∧iget d (idx g (iget p.2.2.2.1 0))≠p.2.2.2.2.2.2.2))=g.any fun x=>decide (x.2.1=14∧iget d (idx g (iget x.2.2.1 0))≠x.2.2.2.2.2.2):=by
   unfold Qac;rw[List.any_map];rfl
  have h2':F.al (Qac g,l.map (idAt g),[]) A.FU [] 0=_:=I.trans hm
  rw[h2',hany,Qbj]
  cases hc:g.any fun x=>decide (x.2.1=14∧iget d (idx g (iget x.2.2.1 0))≠x.2.2.2.2.2.2)with
  |true=>right;exact⟨rfl,_,rfl⟩
  |false=>left;exact⟨d,dm,rfl,rfl,h3,h4,h5,h6,by rw[Qbj,hc];rfl,rfl⟩
 ·rw[Wa]at J
  rw[J]
  right
  exact⟨rfl,p,I⟩
theorem Qcz (g:List Nd)(d:List Int)(id:Int): ∀(k:Nat) (l:List Int),(insS g d id k l).length=l.length
 |_,[]=>rfl
 |k,x::r=>by unfold insS;rw[Qi,Qi,Qcz g d id (k+1) r]
theorem Qfv (n:Nd)(v:Int):(outS n v).length≤1:=by unfold outS;split<;>simp
theorem in2 {g:List Nd}(H:Own g){n:Nd}(I:n∈g):n.2.2.1.length≤2:=by rcases own_len (H n I)with h|h|h<;>omega
theorem spots_l2P (g:List Nd)(d:List Int)(a0:(List (Int×Nd))×(List Int)×(List (Int×Int)))(H:List Sp→Int→Option (List Sp))(y:Nat)(x:Nd)(xs:List Sp)(I:RelD g d a0.2.2)(N:g[y]?=some x)(hl:x.2.2.1.length≤2)(O: ∀k∈x.2.2.1,0≤idx g k)(W:xs.length≤1000)(hy:y≤100):
  F.aP H a0 (y:Int) x A.FU xs 0=H (xs++(insS g d x.1 0 x.2.2.1++outS x (iget d (y:Int)))) ((y:Int)+1):=
 A.lp x.2.2.1 (fun f (s:List Sp) i=>F.aP H a0 (y:Int) x f s i) (fun k t s=>H (s++(insS g d x.1 k t++outS x (iget d (y:Int)))) ((y:Int)+1)) (fun k s=>s.length≤1000+k)
  (fun f s Y=>by
   rw[F.aP,if_neg (by omega),insS,Xa,outS,A.lt,I y x N]
   simp only[F.b2,A.gd1 (A.r64n (n:=y) (by omega))]
   by_cases h:x.2.1≠15
   ·rw[if_pos h,if_pos h,A.gd1 (by simp only[Qi,Qx];omega)]
   ·rw[if_neg h,if_neg h,Wk])
  (fun f s k z J hk Y ih=>by
   have h1:=O z (Qf J)
   rw[F.aP,if_pos (by omega),A.ixn J,Qa,A.lt,I.in h1,A.gd1 (by simp only[Qi,Qx];omega),A.gd1 (A.r64n (by omega)),ih _ (by simp only[Ql,Qi,Qx];omega),insS]
   simp only[Wd,X3,Xx,Xa])
  (by have:=Qab;omega) xs (by omega)
theorem Qhq (g:List Nd)(d:List Int)(a0:(List (Int×Nd))×(List Int)×(List (Int×Int)))(J:Few g)(hfed:Fed g)(N:Own g)(O:RelD g d a0.2.2):F.bB a0 g=some (spots g d):=by
 have hlen:=J.1
 have loop:=A.lp g (fun f (s:List Sp) i=>F.aJ a0 g f s i) (fun k t s=>some (s++spotsF g d k t)) (fun k s=>s.length≤3*k)
  (fun f s W=>by rw[F.aJ,if_neg (by omega),spotsF,Wk])
  (fun f s k x I hk W Y=>by
   have H:=Qf I
   have h2:=in2 N H
   have h3:=Qfv x (iget d (k:Int))
   rw[F.aJ,if_pos (by omega),A.ixn I,Qa,spots_l2P g d a0 _ k x s O I h2 (hfed x H) (by omega) (by omega),Y _ (by rw[Ql,Ql,Qcz];omega),spotsF]
   simp only[Wd])
  (by have:=Qab;omega) [] (by simp)
 unfold F.bB
 rw[loop];rfl
theorem spots_l2R (g:List Nd)(d:List Int)(H:List Sp→Int→Option (List Sp))(y:Nat)(x:Nd)(xs:List Sp)(J:g.length≤100)(hd:d.length=g.length)(N:g[y]?=some x)(hl:x.2.2.1.length≤2)(O: ∀k∈x.2.2.1,0≤idx g k)(W:xs.length≤1000)(hy:y≤100):
  F.ch H g d (y:Int) x A.FU xs 0=H (xs++(insS g d x.1 0 x.2.2.1++outS x (iget d (y:Int)))) ((y:Int)+1):=
 A.lp x.2.2.1 (fun f (s:List Sp) i=>F.ch H g d (y:Int) x f s i) (fun k t s=>H (s++(insS g d x.1 k t++outS x (iget d (y:Int)))) ((y:Int)+1)) (fun k s=>s.length≤1000+k)
  (fun f s Y=>by
   have hyl:=(Qc.1 N).1
   rw[F.ch,if_neg (by omega),insS,Xa,outS]
   simp only[F.dC,A.gd1 (A.r64n (n:=y) (by omega))]
   by_cases h:x.2.1≠15
   ·rw[if_pos h,if_pos h,iix (by omega) (by omega),Qa,A.gd1 (by simp only[Qi,Qx];omega)]
   ·rw[if_neg h,if_neg h,Wk])
  (fun f s k z I hk Y ih=>by
   have h1:=O z (Qf I)
   have h2:=(idx_le g z).2
   rw[F.ch,if_pos (by omega),A.ixn I,Qa,Qbk g z J,Qa,iix h1 (by omega),Qa,A.gd1 (by simp only[Qi,Qx];omega),A.gd1 (A.r64n (by omega)),ih _ (by simp only[Ql,Qi,Qx];omega),insS]
   simp only[Wd,X3,Xx,Xa])
  (by have:=Qab;omega) xs (by omega)
theorem Qhj (g:List Nd)(d:List Int)(J:Few g)(hfed:Fed g)(N:Own g)(O:d.length=g.length):F.eg g d=some (spots g d):=by
 have hlen:=J.1
 have loop:=A.lp g (fun f (s:List Sp) i=>F.bQ g d f s i) (fun k t s=>some (s++spotsF g d k t)) (fun k s=>s.length≤3*k)
  (fun f s W=>by rw[F.bQ,A.ba,if_neg (by simp),spotsF,Wk])
  (fun f s k x I hk W Y=>by
   have H:=Qf I
   have h2:=in2 N H
   have h3:=Qfv x (iget d (k:Int))
   rw[F.bQ,A.ba,if_pos (by simp only[decide_eq_true_eq];omega),A.ixn I,Qa,spots_l2R g d _ k x s (by omega) O I h2 (hfed x H) (by omega) (by omega),Y _ (by rw[Ql,Ql,Qcz];omega),spotsF]
   simp only[Wd])
  (by have:=Qab;omega) [] (by simp)
 unfold F.eg
 rw[loop];rfl
abbrev Ed:=Pl×Pl×Sm
theorem five {P:Int→Prop}(H:P 0)(I:P 1)(J:P 2)(N:P 3)(O:P 4)(d:Int)(W:0≤d∧d≤4):P d:=by
 have:d=0∨d=1∨d=2∨d=3∨d=4:=by omega
 rcases this with rfl|rfl|rfl|rfl|rfl<;>assumption
theorem Id_eqP (d:Int)(H:0≤d∧d≤4):F.dn d=some (idP d):=five (P:=fun d=>F.dn d=some (idP d)) (by kernel_rfl) (by kernel_rfl) (by kernel_rfl) (by kernel_rfl) (by kernel_rfl) d H
theorem Enter_eqP (d:Int)(H:0≤d∧d≤4):F.eo d=some (Qap d):=five (P:=fun d=>F.eo d=some (Qap d)) (by kernel_rfl) (by kernel_rfl) (by kernel_rfl) (by kernel_rfl) (by kernel_rfl) d H
theorem Leave_eqP (d:Int)(H:0≤d∧d≤4):F.ep d=some (Qas d):=five (P:=fun d=>F.ep d=some (Qas d)) (by kernel_rfl) (by kernel_rfl) (by kernel_rfl) (by kernel_rfl) (by kernel_rfl) d H
theorem Next_eqP (d:Int)(H:0≤d∧d≤4):F.eC d=some (Qcm d):=five (P:=fun d=>F.eC d=some (Qcm d)) (by kernel_rfl) (by kernel_rfl) (by kernel_rfl) (by kernel_rfl) (by kernel_rfl) d H
theorem Id_eqR (d:Int)(H:0≤d∧d≤4):F.eE d=some (idP d):=five (P:=fun d=>F.eE d=some (idP d)) (by kernel_rfl) (by kernel_rfl) (by kernel_rfl) (by kernel_rfl) (by kernel_rfl) d H
theorem Enter_eqR (d:Int)(H:0≤d∧d≤4):F.eF d=some (Qap d):=five (P:=fun d=>F.eF d=some (Qap d)) (by kernel_rfl) (by kernel_rfl) (by kernel_rfl) (by kernel_rfl) (by kernel_rfl) d H
theorem Leave_eqR (d:Int)(H:0≤d∧d≤4):F.eG d=some (Qas d):=five (P:=fun d=>F.eG d=some (Qas d)) (by kernel_rfl) (by kernel_rfl) (by kernel_rfl) (by kernel_rfl) (by kernel_rfl) d H
theorem Next_eqR (d:Int)(H:0≤d∧d≤4):F.eO d=some (Qcm d):=five (P:=fun d=>F.eO d=some (Qcm d)) (by kernel_rfl) (by kernel_rfl) (by kernel_rfl) (by kernel_rfl) (by kernel_rfl) d H
theorem within_eqP (n:Nd)(d:Int)(H:0≤d∧d≤4):F.cY n d=some (Qai n d):=by
 unfold F.cY Qai
 simp only[Id_eqP d H,Enter_eqP d H,Leave_eqP d H,Next_eqP d H,Qa,F.bN]
 repeat' split
 all_goals rfl
theorem within_eqR (n:Nd)(d:Int)(H:0≤d∧d≤4):F.dZ n d=some (Qai n d):=by
 unfold F.dZ Qai
 simp only[Id_eqR d H,Enter_eqR d H,Leave_eqR d H,Next_eqR d H,Qa,F.cp]
 repeat' split
 all_goals rfl
def useN (id nd:Int):Nat→List Int→List Pl
 |_,[]=>[]
 |k,z::r=>if z=id then(nd,(k:Int))::useN id nd (k+1) r else useN id nd (k+1) r
def Qar (id:Int):List Nd→List Pl
 | []=>[]
 |n::r=>useN id n.1 0 n.2.2.1++Qar id r
theorem Qdc (id nd:Int): ∀(k:Nat) (l:List Int),(useN id nd k l).length≤l.length
 |_,[]=>Q1 0
 |k,z::r=>by
  unfold useN
  have:=Qdc id nd (k+1) r
  split<;>simp only[Qi]<;>omega
theorem Qay (id:Int): ∀(l:List Nd),(∀n∈l,n.2.2.1.length≤2)→(Qar id l).length≤2*l.length
 | [],_=>Q1 0
 |n::r,h=>by
  unfold Qar
  have I:=Qay id r fun x H=>h x (Qe _ H)
  have J:=Qdc id n.1 0 n.2.2.1
  have N:=h n (Qg ..)
  rw[Ql,Qi];omega
theorem Values_eq (g:List Nd)(J:g.length≤100):F.aL g=some g:=
 A.lp0 g (fun f y=>F.w g f y) (fun _ l=>some l)
  (fun f=>by rw[F.w,if_neg (by omega)])
  (fun f k x H hk I=>by rw[F.w,if_pos (by omega),A.ixn H,Qa,A.gd1 (A.r64n (by omega)),I];rfl)
  (by have:=Qab;omega)
theorem users_l2 (id:Int)(n:Nd)(H:List Pl→Option (List Pl))(xs:List Pl)(W:n.2.2.1.length≤2)(J:xs.length≤1000):F.a7 H id n A.FU xs 0=H (xs++useN id n.1 0 n.2.2.1):=
 A.lp n.2.2.1 (fun f (s:List Pl) i=>F.a7 H id n f s i) (fun k t s=>H (s++useN id n.1 k t)) (fun k s=>s.length≤1000+k)
  (fun f s N=>by rw[F.a7,if_neg (by omega),useN,Wk])
  (fun f s k z O hk N I=>by
   rw[F.a7,if_pos (by omega),A.ixn O,Qa,useN]
   simp only[F.cX,A.gd1 (A.r64n (n:=k) (by omega))]
   by_cases h:z=id
   ·rw[if_pos h,if_pos h,A.gd1 (by simp only[Qi,Qx];omega),I _ (by simp only[Ql,Qi,Qx];omega)]
    simp only[Wd,X3,Xx,Xa]
   ·rw[if_neg h,if_neg h,I _ (by omega)])
  (by have:=Qab;omega) xs (by omega)
theorem users_l3 (id:Int): ∀(l:List Nd) (xs:List Pl),(∀n∈l,n.2.2.1.length≤2)→xs.length+2*l.length≤900→F.a8 id l xs=some (xs++Qar id l)
 | [],xs,_,_=>by rw[F.a8,Qar,Wk]
 |n::r,xs,h,H=>by
  have I:=h n (Qg ..)
  have J:=Qdc id n.1 0 n.2.2.1
  rw[Qi]at H
  rw[F.a8,users_l2 id n _ xs I (by omega),users_l3 id r _ (fun x H=>h x (Qe _ H)) (by rw[Ql];omega),Qar,Wd]
theorem users_eq (g:List Nd)(id:Int)(H:Few g)(I: ∀n∈g,n.2.2.1.length≤2):F.d3 g id=some (Qar id g):=by
 have:=H.1
 unfold F.d3 F.a5
 rw[Qa,Values_eq g (by omega),Qa,users_l3 id g [] I (by simp;omega)];rfl
def inE (g:List Nd)(d:List Int)(n:Nd):Nat→List Int→List Ed
 |_,[]=>[]
 |k,z::r=>((n.1,(k:Int)),(n.1,2),Qai n (iget d (idx g z)))::inE g d n (k+1) r
def outE (g:List Nd)(n:Nd)(v:Int):List Ed:=(Qar n.1 g).map fun u=>((n.1,2),u,(idP v).1)
def edgesF (g:List Nd)(d:List Int):Nat→List Nd→List Ed
 |_,[]=>[]
 |i,n::r=>if n.2.1=15 then edgesF g d (i+1) r else inE g d n 0 n.2.2.1++(outE g n (iget d (i:Int))++edgesF g d (i+1) r)
def edges (g:List Nd)(d:List Int):List Ed:=edgesF g d 0 g
theorem Qgm (g:List Nd)(d:List Int)(n:Nd): ∀(k:Nat) (l:List Int),(inE g d n k l).length=l.length
 |_,[]=>rfl
 |k,x::r=>by unfold inE;rw[Qi,Qi,Qgm g d n (k+1) r]
theorem edges_l2P (k30:List Ed→Int→Option (List Ed))(y:Nat)(n:Nd)(s:Sm)(us:List Pl)(xs:List Ed)(O:y≤100)(W:us.length≤1000)(H:xs.length≤10000):
  F.aK k30 (y:Int) n s.1 s.2.1 s.2.2.1 s.2.2.2.1 s.2.2.2.2.1 s.2.2.2.2.2.1 s.2.2.2.2.2.2.1 s.2.2.2.2.2.2.2 us A.FU xs 0=k30 (xs++us.map fun u=>((n.1,2),u,s)) ((y:Int)+1):=
 A.lp us (fun f (t:List Ed) i=>F.aK k30 (y:Int) n s.1 s.2.1 s.2.2.1 s.2.2.2.1 s.2.2.2.2.1 s.2.2.2.2.2.1 s.2.2.2.2.2.2.1 s.2.2.2.2.2.2.2 us f t i) (fun k t e=>k30 (e++t.map fun u=>((n.1,2),u,s)) ((y:Int)+1)) (fun k t=>t.length≤10000+k)
  (fun f t I=>by rw[F.aK,if_neg (by omega),F.bm,A.gd1 (A.r64n (by omega)),Xt,Wk])
  (fun f t k z J hk I N=>by
   rw[F.aK,if_pos (by omega),A.ixn J,Qa,A.gd1 (by simp only[Qi,Qx];omega),A.gd1 (A.r64n (by omega)),N _ (by simp only[Ql,Qi,Qx];omega)]
   simp only[Wd,X3,Xx,Xa,Q3])
  (by have:=Qab;omega) xs (by omega)
theorem edges_l4P (g:List Nd)(d:List Int)(a0:(List (Int×Nd))×(List Int)×(List (Int×Int)))(k30:List Ed→Int→Option (List Ed))(y:Nat)(n:Nd)(xs:List Ed)(O:Few g)(H:Own g)(I:InB d)(W:RelD g d a0.2.2)(J:g[y]?=some n)(hf: ∀k∈n.2.2.1,0≤idx g k)(hxs:xs.length≤9000):
  F.aQ k30 a0 g (y:Int) n A.FU xs 0=k30 (xs++(inE g d n 0 n.2.2.1++outE g n (iget d (y:Int)))) ((y:Int)+1):=
 A.lp n.2.2.1 (fun f (t:List Ed) i=>F.aQ k30 a0 g (y:Int) n f t i) (fun k t e=>k30 (e++(inE g d n k t++outE g n (iget d (y:Int)))) ((y:Int)+1)) (fun k t=>t.length≤9000+k)
  (fun f t ht=>by
   have hlen:=O.1
   have hyl:=(Qc.1 J).1
   have h2:=in2 H (Qf J)
   have hu:=Qay n.1 g fun x N=>in2 H N
   rw[F.aQ,if_neg (by omega),A.lt,W y n J,Id_eqP _ (I _),Qa,F.cG,users_eq g n.1 O (fun x N=>in2 H N),Qa,
    show F.aK k30 (y:Int) n _ _ _ _ _ _ _ _ (Qar n.1 g) A.FU t 0=_ from edges_l2P k30 y n (idP (iget d (y:Int))).1 (Qar n.1 g) t (by omega) (by omega) (by omega),inE,Xa]
   rfl)
  (fun f t k z Y hk ht ih=>by
   have h1:=hf z (Qf Y)
   have h2:=in2 H (Qf J)
   rw[F.aQ,if_pos (by omega),A.ixn Y,Qa,A.lt,W.in h1,show F.cY n _=_ from within_eqP n _ (I _),Qa,A.gd1 (by simp only[Qi,Qx];omega),A.gd1 (A.r64n (by omega)),ih _ (by simp only[Ql,Qi,Qx];omega),inE]
   simp only[Wd,X3,Xx,Xa])
  (by have:=Qab;have:=in2 H (Qf J);omega) xs (by omega)
theorem Qib (g:List Nd)(d:List Int)(a0:(List (Int×Nd))×(List Int)×(List (Int×Int)))(O:Few g)(hfed:Fed g)(J:Own g)(N:InB d)(Y:RelD g d a0.2.2):F.bb a0 g=some (edges g d):=by
 have hlen:=O.1
 have loop:=A.lp g (fun f (s:List Ed) i=>F.ak a0 g f s i) (fun k t s=>some (s++edgesF g d k t)) (fun k s=>s.length≤83*k)
  (fun f s hs=>by rw[F.ak,if_neg (by omega),edgesF,Wk])
  (fun f s k x H hk hs W=>by
   have I:=Qf H
   have h2:=in2 J I
   have hu:=Qay x.1 g fun x H=>in2 J H
   rw[F.ak,if_pos (by omega),A.ixn H,Qa,edgesF]
   by_cases h:x.2.1=15
   ·rw[if_pos h,if_pos h,F.bm,A.gd1 (A.r64n (by omega)),W _ (by omega)]
   ·rw[if_neg h,if_neg h,edges_l4P g d a0 _ k x s O J N Y H (hfed x I) (by omega),W _ (by rw[Ql,Ql,Qgm,outE,Qw];omega)]
    simp only[Wd])
  (by have:=Qab;omega) [] (by simp)
 unfold F.bb
 rw[loop];rfl
theorem Find_eq (g:List Nd)(I:Few g){j:Nat}{n:Nd}(J:Inc g)(H:g[j]?=some n):F.ex g n.1=some (n,true):=by
 have:=I.1
 have N:=I.in H
 unfold F.ex
 rw[Qbk g _ (by omega),Qa,J.idx H,if_neg (by omega),A.ixn H,Qa,A.gd1 (by simp only[Qx];omega)]
 rfl
theorem edges_l4R (g:List Nd)(k37:List Ed→Int→Option (List Ed))(sp:Sp)(r18:Nd×Bool)(r59:Sm×Int)(j:Nat)(m:Nd)(xs:List Ed)(Y:g.length≤100)(H:g[j]?=some m)(hl:m.2.2.1.length≤2)(J:xs.length≤20000):
  F.bq k37 g sp r18 r59 (j:Int) A.FU xs 0=k37 (xs++(useN r18.1.1 m.1 0 m.2.2.1).map fun u=>(sp.1,u,r59.1)) ((j:Int)+1):=
 A.lp m.2.2.1 (fun f (t:List Ed) i=>F.bq k37 g sp r18 r59 (j:Int) f t i) (fun k t e=>k37 (e++(useN r18.1.1 m.1 k t).map fun u=>(sp.1,u,r59.1)) ((j:Int)+1)) (fun k t=>t.length≤20000+k)
  (fun f t N=>by
   have O:=(Qc.1 H).1
   rw[F.bq,A.ixn H,Qa,if_neg (by omega),A.gd1 (A.r64n (by omega)),useN,Xt,Wk])
  (fun f t k z W hk N I=>by
   rw[F.bq,A.ixn H,Qa,if_pos (by omega),Qa,A.ixn W,Qa,useN]
   simp only[F.dE,A.gd1 (A.r64n (n:=k) (by omega)),Qa]
   by_cases h:z=r18.1.1
   ·rw[if_pos h,if_pos h,A.gd1 (by simp only[Qi,Qx];omega),I _ (by simp only[Ql,Qi,Qx];omega)]
    simp only[Wd,X3,Xx,Xa,Q3]
   ·rw[if_neg h,if_neg h,I _ (by omega)])
  (by have:=Qab;omega) xs (by omega)
theorem edges_l5R (g:List Nd)(k30:List Ed→Int→Option (List Ed))(y:Nat)(sp:Sp)(r18:Nd×Bool)(r59:Sm×Int)(xs:List Ed)(H:Few g)(J:Own g)(N:xs.length≤15000)(hy:y≤1000):
  F.br k30 g (y:Int) sp r18 r59 A.FU xs 0=k30 (xs++(Qar r18.1.1 g).map fun u=>(sp.1,u,r59.1)) ((y:Int)+1):=
 A.lp g (fun f (t:List Ed) i=>F.br k30 g (y:Int) sp r18 r59 f t i) (fun k t e=>k30 (e++(Qar r18.1.1 t).map fun u=>(sp.1,u,r59.1)) ((y:Int)+1)) (fun k t=>t.length≤15000+2*k)
  (fun f t O=>by rw[F.br,if_neg (by omega),F.c2,A.gd1 (A.r64n (by omega)),Qar,Xt,Wk])
  (fun f t k m I hk O W=>by
   have hlen:=H.1
   have Y:=in2 J (Qf I)
   have h3:=Qdc r18.1.1 m.1 0 m.2.2.1
   rw[F.br,if_pos (by omega),edges_l4R g _ sp r18 r59 k m t (by omega) I Y (by omega),W _ (by rw[Ql,Qw];omega),Qar,Yg,Wd])
  (by have:=Qab;have:=H.1;omega) xs (by omega)
def edOf (g:List Nd)(sp:Sp):List Ed:=if sp.1.2≠2 then(if(find g sp.1.1).1.2.1≠15 then [(sp.1,((find g sp.1.1).1.1,2),Qai (find g sp.1.1).1 sp.2)]else [])else(Qar (find g sp.1.1).1.1 g).map fun u=>(sp.1,u,(idP sp.2).1)
def edS (g:List Nd):List Sp→List Ed
 | []=>[]
 |sp::r=>edOf g sp++edS g r
def SpOk (g:List Nd)(sp:Sp):Prop:=(∃(j:Nat) (n:Nd),g[j]?=some n∧n.1=sp.1.1)∧0≤sp.2∧sp.2≤4
theorem Qee {g:List Nd}(I:Inc g){j:Nat}{n:Nd}(H:g[j]?=some n):find g n.1=(n,true):=by
 unfold find
 rw[I.idx H,if_neg (by omega),Qav rfl H]
theorem edgesR_l6 (g:List Nd)(l:List Sp)(O:Few g)(Y:Inc g)(ho:Own g)(hl:l.length≤130)(hs: ∀sp∈l,SpOk g sp):F.dF g l=some (edS g l):=by
 have hlen:=O.1
 have loop:=A.lp l (fun f (s:List Ed) i=>F.aN g l f s i) (fun k t s=>some (s++edS g t)) (fun k s=>s.length≤83*k)
  (fun f s hs=>by rw[F.aN,if_neg (by omega),edS,Wk])
  (fun f s k x J hk hp W=>by
   obtain⟨⟨j,n,hn,I⟩,hd⟩:=hs x (Qf J)
   have hu:=Qay n.1 g fun x J=>in2 ho J
   rw[F.aN,if_pos (by omega),A.ixn J,Qa,←I,Find_eq g O Y hn,Qa,edS,edOf,←I,Qee Y hn]
   simp only[F.dD,F.c2,A.gd1 (A.r64n (n:=k) (by omega)),Qa]
   by_cases N:x.1.2≠2
   ·rw[if_pos N,if_pos N]
    by_cases H:n.2.1≠15
    ·rw[if_pos H,if_pos H,show F.dZ n x.2=_ from within_eqR n x.2 hd,Qa,A.gd1 (by simp only[Qi,Qx];omega),W _ (by simp only[Ql,Qi,Qx];omega),I]
     simp only[Wd]
    ·rw[if_neg H,if_neg H,W _ (by omega),Xa]
   ·rw[if_neg N,if_neg N,Id_eqR x.2 hd,Qa,edges_l5R g _ k x (n,true) (idP x.2) s O ho (by omega) (by omega),W _ (by rw[Ql,Qw];show s.length+(Qar n.1 g).length≤_;omega),Wd])
  (by have:=Qab;omega) [] (by simp)
 unfold F.dF
 rw[loop];rfl
theorem Qiw (g:List Nd): ∀(a b:List Sp),edS g (a++b)=edS g a++edS g b
 | [],_=>rfl
 |x::a,b=>by rw[Xx,edS,edS,Qiw g a b,Wd]
theorem edS_ins {g:List Nd}(I:Inc g)(d:List Int){j:Nat}{n:Nd}(J:g[j]?=some n): ∀(k:Nat) (l:List Int),k+l.length≤2→edS g (insS g d n.1 k l)=if n.2.1=15 then []else inE g d n k l
 |k,[],_=>by unfold insS inE edS;split<;>rfl
 |k,z::r,h=>by
  rw[Qi]at h
  have N:((k:Int):Int)≠2:=by omega
  unfold insS inE
  rw[edS,edS_ins I d J (k+1) r (by omega),edOf]
  simp only[Qee I J]
  rw[if_pos N]
  by_cases H:n.2.1=15
  ·simp[H]
  ·rw[if_neg H,if_neg H,if_pos H];rfl
theorem Qig {g:List Nd}(J:Inc g)(N:Own g)(d:List Int): ∀(m k:Nat),k+m=g.length→edS g (spotsF g d k (g.drop k))=edgesF g d k (g.drop k)
 |0,k,h=>by rw[Q2 (by omega)];rfl
 |m+1,k,h=>by
  have I:g[k]?=some g[k]:=Qd (by omega)
  generalize g[k]=x at I
  have O:=in2 N (Qf I)
  rw[A.dropx I,spotsF,edgesF,Qiw,Qiw,Qig J N d m (k+1) (by omega),edS_ins J d I 0 _ (by omega)]
  by_cases H:x.2.1=15
  ·rw[if_pos H,if_pos H,outS,if_neg (fun h=>h H),edS];rfl
  ·rw[if_neg H,if_neg H,outS,if_pos H,edS,edOf]
   simp only[Qee J I]
   rw[if_neg (fun h=>h rfl),edS,Wk];rfl
theorem o_bN {g:List Nd}{d:List Int}(H:InB d){j:Nat}{n:Nd}(I:g[j]?=some n): ∀(k:Nat) (l:List Int),∀sp∈insS g d n.1 k l,SpOk g sp
 |_,[],sp,h=>by cases h
 |k,z::r,sp,h=>by
  unfold insS at h
  rcases Qk.1 h with rfl|h
  ·exact⟨⟨j,n,I,rfl⟩,H _⟩
  ·exact o_bN H I (k+1) r sp h
theorem o_aV {g:List Nd}{d:List Int}(I:InB d): ∀(m k:Nat),k+m=g.length→∀sp∈spotsF g d k (g.drop k),SpOk g sp
 |0,k,h,sp,H=>by rw[Q2 (by omega)]at H;cases H
 |m+1,k,h,sp,H=>by
  have J:g[k]?=some g[k]:=Qd (by omega)
  generalize g[k]=x at J
  rw[A.dropx J,spotsF]at H
  rcases Qn.1 H with H|H
  ·exact o_bN I J 0 _ sp H
  ·rcases Qn.1 H with H|H
   ·unfold outS at H
    split at H
    ·rw[Qj]at H;subst H;exact⟨⟨k,x,J,rfl⟩,I _⟩
    ·cases H
   ·exact o_aV I m (k+1) (by omega) sp H
theorem Qch {g:List Nd}(I:Own g)(d:List Int): ∀(m k:Nat),k+m=g.length→(spotsF g d k (g.drop k)).length≤3*m
 |0,k,h=>by rw[Q2 (by omega)];exact Q1 0
 |m+1,k,h=>by
  have H:g[k]?=some g[k]:=Qd (by omega)
  generalize g[k]=x at H
  have J:=in2 I (Qf H)
  have N:=Qfv x (iget d (k:Int))
  have O:=Qch I d m (k+1) (by omega)
  rw[A.dropx H,spotsF,Ql,Ql,Qcz];omega
theorem Qhv (g:List Nd)(d:List Int)(J:Few g)(N:Inc g)(H:Own g)(I:InB d):F.dF g (spots g d)=some (edges g d):=by
 have Y:=Qch H d g.length 0 (by omega)
 have O:=o_aV (d:=d) (g:=g) I g.length 0 (by omega)
 have W:=Qig N H d g.length 0 (by omega)
 rw[Wa]at Y O W
 have:=J.1
 rw[edgesR_l6 g (spots g d) J N H (by unfold spots;omega) O]
 exact congrArg some W
inductive Rch {α:Type} (R:α→α→Prop) (a:α):α→Prop
 |one {b:α} (h:R a b):Rch R a b
 |step {b c:α} (h:Rch R a b) (h2:R b c):Rch R a c
theorem Qdi (g:List Nd)(d:List Int)(id:Int): ∀(k:Nat) (l:List Int) (p:Pl) (v:Int),(p,v)∈insS g d id k l→p.1=id∧(k:Int)≤p.2∧p.2<(k:Int)+l.length
 |_,[],_,_,h=>by cases h
 |k,z::r,p,v,h=>by
  unfold insS at h
  rw[Qi]
  rcases Qk.1 h with h|h
  ·injection h with H I;subst H;refine⟨rfl,Xm _,?_⟩;simp only[];omega
  ·have:=Qdi g d id (k+1) r p v h;omega
theorem Qeo (g:List Nd)(d:List Int)(id:Int): ∀(k:Nat) (l:List Int),((insS g d id k l).map (·.1)).Nodup
 |_,[]=>X6
 |k,z::r=>by
  unfold insS
  rw[Q3,Wm]
  refine⟨fun h=>?_,Qeo g d id (k+1) r⟩
  obtain⟨⟨p,v⟩,I,H⟩:=Qv.1 h
  have:=Qdi g d id (k+1) r p v I
  simp only[]at H
  rw[H]at this;simp only[]at this;omega
theorem Qex {g:List Nd}(d:List Int): ∀(k:Nat) (l:List Nd) (sp:Sp),sp∈spotsF g d k l→∃n∈l,n.1=sp.1.1
 |_,[],_,h=>by cases h
 |k,n::r,sp,h=>by
  unfold spotsF at h
  rcases Qn.1 h with h|h
  ·exact⟨n,Qg ..,(Qdi g d n.1 0 _ sp.1 sp.2 h).1.symm⟩
  ·rcases Qn.1 h with h|h
   ·unfold outS at h
    split at h
    ·rw[Qj]at h;subst h;exact⟨n,Qg ..,rfl⟩
    ·cases h
   ·obtain⟨m,H,I⟩:=Qex d (k+1) r sp h
    exact⟨m,Qe _ H,I⟩
theorem Qcq {g:List Nd}(d:List Int): ∀(k:Nat) (l:List Nd),l.Pairwise (fun a b=>a.1<b.1)→(∀n∈l,n.2.2.1.length≤2)→((spotsF g d k l).map (·.1)).Nodup
 |_,[],_,_=>X6
 |k,n::r,hp,Y=>by
  rw[Wi]at hp
  have h2:=Y n (Qg ..)
  unfold spotsF
  rw[Yg,Wz,Yg,Wz]
  have hrest: ∀p∈(spotsF g d (k+1) r).map (·.1),p.1≠n.1:=fun p H e=>by
   obtain⟨sp,N,rfl⟩:=Qv.1 H
   obtain⟨m,I,h4⟩:=Qex d (k+1) r sp N
   have:=hp.1 m I;omega
  have hout: ∀p∈(outS n (iget d (k:Int))).map (·.1),p=(n.1,2):=fun p H=>by
   unfold outS at H
   split at H
   ·simpa using H
   ·cases H
  have O: ∀p∈(insS g d n.1 0 n.2.2.1).map (·.1),p.1=n.1∧p.2<2:=fun p H=>by
   obtain⟨⟨q,v⟩,N,rfl⟩:=Qv.1 H
   have:=Qdi g d n.1 0 _ q v N
   simp only[];omega
  refine⟨Qeo g d n.1 0 _,⟨?_,Qcq d (k+1) r hp.2 (fun x hx=>Y x (Qe _ hx)),?_⟩,?_⟩
  ·unfold outS;split<;>simp
  ·intro a W b J e
   have I:=hout a W
   subst e
   exact hrest a J (by rw[I])
  ·intro a W b J e
   subst e
   have I:=O a W
   rcases Qn.1 J with J|J
   ·have:=hout a J;rw[this]at I;simp only[]at I;omega
   ·exact hrest a J I.1
theorem useN_mem (id nd:Int): ∀(k:Nat) (l:List Int) (u:Pl),u∈useN id nd k l→u.1=nd∧∃j:Nat,u.2=(k:Int)+j∧j<l.length
 |_,[],u,h=>by cases h
 |k,z::r,u,h=>by
  unfold useN at h
  have hrec:u∈useN id nd (k+1) r→u.1=nd∧∃j:Nat,u.2=(k:Int)+j∧j<(z::r).length:=fun h=>by
   obtain⟨H,j,I,J⟩:=useN_mem id nd (k+1) r u h
   exact⟨H,j+1,by omega,by rw[Qi];omega⟩
  split at h
  ·rcases Qk.1 h with rfl|h
   ·exact⟨rfl,0,by simp,by rw[Qi];omega⟩
   ·exact hrec h
  ·exact hrec h
theorem insS_get (g:List Nd)(d:List Int)(id:Int): ∀(k:Nat) (l:List Int) (j:Nat),j<l.length→∃v,((id,(k:Int)+j),v)∈insS g d id k l
 |_,[],j,h=>by simp at h
 |k,z::r,j,h=>by
  unfold insS
  cases j with
  |zero=>exact⟨iget d (idx g z),by simp⟩
  |succ j=>
   rw[Qi]at h
   obtain⟨v,H⟩:=insS_get g d id (k+1) r j (by omega)
   refine⟨v,Qe _ ?_⟩
   have e:(k:Int)+((j+1:Nat):Int)=((k+1:Nat):Int)+(j:Int):=by omega
   rw[e];exact H
theorem Qax {g:List Nd}(d:List Int): ∀(k:Nat) (l:List Nd) (n:Nd),n∈l→∀sp∈insS g d n.1 0 n.2.2.1,sp∈spotsF g d k l
 |_,[],_,h,_,_=>by cases h
 |k,m::r,n,h,sp,H=>by
  unfold spotsF
  rcases Qk.1 h with rfl|h
  ·exact Q6 _ H
  ·exact Q8 _ (Q8 _ (Qax d (k+1) r n h sp H))
theorem Qfa {g:List Nd}(d:List Int): ∀(k:Nat) (l:List Nd) (n:Nd),n∈l→n.2.1≠15→∃v,((n.1,2),v)∈spotsF g d k l
 |_,[],_,h,_=>by cases h
 |k,m::r,n,h,H=>by
  unfold spotsF
  rcases Qk.1 h with rfl|h
  ·exact⟨iget d (k:Int),Q8 _ (Q6 _ (by unfold outS;rw[if_pos H];simp))⟩
  ·obtain⟨v,I⟩:=Qfa d (k+1) r n h H
   exact⟨v,Q8 _ (Q8 _ I)⟩
theorem Qhc (id:Int): ∀(l:List Nd) (u:Pl),u∈Qar id l→∃n∈l,u.1=n.1∧∃j:Nat,u.2=(j:Int)∧j<n.2.2.1.length
 | [],u,h=>by cases h
 |n::r,u,h=>by
  unfold Qar at h
  rcases Qn.1 h with h|h
  ·obtain⟨H,j,I,J⟩:=useN_mem id n.1 0 _ u h
   exact⟨n,Qg ..,H,j,by omega,J⟩
  ·obtain⟨m,H,I⟩:=Qhc id r u h
   exact⟨m,Qe _ H,I⟩
theorem inE_mem (g:List Nd)(d:List Int)(n:Nd): ∀(k:Nat) (l:List Int) (e:Ed),e∈inE g d n k l→e.1.1=n.1∧(k:Int)≤e.1.2∧e.1.2<(k:Int)+l.length∧e.2.1=(n.1,2)
 |_,[],_,h=>by cases h
 |k,z::r,e,h=>by
  unfold inE at h
  rw[Qi]
  rcases Qk.1 h with rfl|h
  ·refine⟨rfl,Xm _,?_,rfl⟩;simp only[];omega
  ·have:=inE_mem g d n (k+1) r e h
   refine⟨this.1,by omega,by omega,this.2.2.2⟩
theorem Qbi {g:List Nd}(d:List Int): ∀(k:Nat) (l:List Nd) (e:Ed),e∈edgesF g d k l→∃n∈l,e.1.1=n.1∧((n.2.1≠15∧e.2.1=(n.1,2)∧0≤e.1.2∧e.1.2<n.2.2.1.length)∨(e.1.2=2∧∃m∈g,e.2.1.1=m.1∧∃j:Nat,e.2.1.2=(j:Int)∧j<m.2.2.1.length))
 |_,[],_,h=>by cases h
 |k,n::r,e,h=>by
  unfold edgesF at h
  have hrec:e∈edgesF g d (k+1) r→∃m∈n::r,e.1.1=m.1∧((m.2.1≠15∧e.2.1=(m.1,2)∧0≤e.1.2∧e.1.2<m.2.2.1.length)∨(e.1.2=2∧∃q∈g,e.2.1.1=q.1∧∃j:Nat,e.2.1.2=(j:Int)∧j<q.2.2.1.length)):=fun h=>by
   obtain⟨m,H,I⟩:=Qbi d (k+1) r e h
   exact⟨m,Qe _ H,I⟩
  split at h
  ·exact hrec h
  ·rename_i J
   rcases Qn.1 h with h|h
   ·obtain⟨H,I,W,N⟩:=inE_mem g d n 0 _ e h
    exact⟨n,Qg ..,H,.inl ⟨J,N,by omega,by omega⟩⟩
   ·rcases Qn.1 h with h|h
    ·unfold outE at h
     obtain⟨u,O,rfl⟩:=Qv.1 h
     obtain⟨m,H,I⟩:=Qhc n.1 g u O
     exact⟨n,Qg ..,rfl,.inr ⟨rfl,m,H,I⟩⟩
    ·exact hrec h
theorem edge_to {g:List Nd}(d:List Int){e:Ed}(I:e∈edges g d): ∃v,(e.2.1,v)∈spots g d:=by
 obtain⟨n,J,h1,h|h⟩:=Qbi d 0 g e I
 ·obtain⟨v,H⟩:=Qfa d 0 g n J h.1
  exact⟨v,by rw[h.2.1];exact H⟩
 ·obtain⟨_,m,N,O,j,W,Y⟩:=h
  obtain⟨v,H⟩:=insS_get g d m.1 0 m.2.2.1 j Y
  refine⟨v,Qax d 0 g m N _ ?_⟩
  have e1:e.2.1=(m.1,((0:Nat):Int)+(j:Int)):=Ju O (by rw[W];simp)
  rw[e1];exact H
theorem Qid {g:List Nd}(d:List Int){e:Ed}(H:e∈edges g d): ∃n∈g,e.1.1=n.1:=by
 obtain⟨n,I,J,_⟩:=Qbi d 0 g e H
 exact⟨n,I,J⟩
theorem edge_out {g:List Nd}(d:List Int)(H:Own g){e:Ed}(I:e∈edges g d)(W:e.2.1.2=2):e.1.1=e.2.1.1∧e.1.2≠2:=by
 obtain⟨n,J,N,h|h⟩:=Qbi d 0 g e I
 ·have:=in2 H J
  exact⟨by rw[N,h.2.1],by omega⟩
 ·obtain⟨_,m,O,_,j,Y,h4⟩:=h
  have:=in2 H O
  omega
theorem atS_mem {p:Pl}: ∀{l:List Sp} {v:Int},(l.map (·.1)).Nodup→(p,v)∈l→atS p l=v
 | [],_,_,h=>by cases h
 |x::r,v,H,h=>by
  rw[Q3,Wm]at H
  unfold atS
  rcases Qk.1 h with rfl|h
  ·rw[if_pos rfl]
  ·rw[if_neg (fun e=>H.1 (by rw[e];exact List.mem_map_of_mem (f:=(·.1)) h))]
   exact atS_mem H.2 h
theorem R_at_eq (l:List Sp)(p:Pl)(J:l.length≤100000):F.e0 l p=some (atS p l):=
 A.lp0 l (fun f y=>F.dN l p f y) (fun _ t=>some (atS p t))
  (fun f=>by rw[F.dN,if_neg (by omega)];rfl)
  (fun f k x H hk I=>by
   rw[F.dN,if_pos (by omega),A.ixn H,Qa,Qa,atS]
   by_cases h:x.1=p
   ·rw[if_pos (show x.1=p from h),if_pos h]
   ·rw[if_neg (show ¬x.1=p from h),if_neg h,A.gd1 (A.r64n (by omega)),I])
  (by have:=Qab;omega)
theorem R_on_eq (l:List Pl)(p:Pl)(N:l.length≤100000):F.eR l p=some (decide (p∈l)):=
 A.lp0 l (fun f y=>F.dM l p f y) (fun _ t=>some (decide (p∈t)))
  (fun f=>by rw[F.dM,if_neg (by omega)];simp)
  (fun f k x I hk J=>by
   rw[F.dM,if_pos (by omega),A.ixn I,Qa]
   by_cases h:x=p
   ·rw[if_pos (show x=p from h)];simp[h]
   ·rw[if_neg (show ¬x=p from h),A.gd1 (A.r64n (by omega)),J]
    congr 1
    exact decide_eq_decide.2 ⟨fun H=>Qe _ H,fun H=>(Qk.1 H).resolve_left fun e=>h e.symm⟩)
  (by have:=Qab;omega)
def Qbm (g:List Nd)(S:List Sp)(dd:Int)(e:Ed):Bool:=decide (dd≤atS e.2.1 S)&&(decide ((find g e.1.1).1.2.1≠14)||decide ((find g e.1.1).1.2.2.2.2.2.2≠dd)||decide (e.1.2=2))
theorem R_open_eq (g:List Nd)(S:List Sp)(e:Ed)(dd:Int)(J:Few g)(H:Inc g)(N:S.length≤100000)(O: ∃n∈g,e.1.1=n.1):F.ey g S e dd=some (Qbm g S dd e):=by
 obtain⟨n,W,Y⟩:=O
 obtain⟨j,I⟩:=Wp.1 W
 unfold F.ey Qbm
 rw[Y,Find_eq g J H I,Qa,show F.e0 S e.2.1=_ from R_at_eq S e.2.1 N,Qa,Qee H I]
 by_cases h:dd≤atS e.2.1 S
 ·rw[if_pos h,decide_eq_true h,Xf]
  congr 1
 ·rw[if_neg h,decide_eq_false h,Yv]
def addR (g:List Nd)(S:List Sp)(dd:Int)(cur:Pl):List Ed→List Pl→List Pl
 | [],r=>r
 |e::t,r=>addR g S dd cur t (if e.1=cur∧Qbm g S dd e=true∧e.2.1∉r then r++[e.2.1]else r)
theorem round_l3 (g:List Nd)(S:List Sp)(E:List Ed)(from_:Sp)(H:List Pl→List Pl→Int→Option Bool)(y:Nat)(cur:Pl)(r:List Pl)(hb:Few g)(hi:Inc g)(hS:S.length≤100000)(hE:E.length≤5000)(hf: ∀e∈E,∃n∈g,e.1.1=n.1)(hc:(from_.1::r)[y]?=some cur)(hy:y≤10000)(hr:r.length≤9000)(hall: ∀k,(addR g S from_.2 cur (E.take k) r).length≤9000):
  F.aY H g S E from_ (y:Int) A.FU r (from_.1::r) 0=H (addR g S from_.2 cur E r) (from_.1::addR g S from_.2 cur E r) ((y:Int)+1):=
 A.lp E (fun f (s:List Pl×List Pl) i=>F.aY H g S E from_ (y:Int) f s.1 s.2 i) (fun k t s=>H (addR g S from_.2 cur t s.1) (from_.1::addR g S from_.2 cur t s.1) ((y:Int)+1)) (fun k s=>s.2=from_.1::s.1∧s.2[y]?=some cur∧s.1=addR g S from_.2 cur (E.take k) r)
  (fun f s hs=>by
   rw[F.aY,if_neg (by omega),A.gd1 (A.r64n (by omega)),hs.1];rfl)
  (fun f s k e N hk hs ih=>by
   obtain⟨q,r'⟩:=s
   obtain⟨O,I,h3⟩:=hs
   simp only[]at O I h3
   have hlen:q.length≤9000:=by rw[h3];exact hall _
   have hsnoc: ∀(t:List Ed) (e:Ed) (r:List Pl),addR g S from_.2 cur (t++[e]) r=(if e.1=cur∧Qbm g S from_.2 e=true∧e.2.1∉addR g S from_.2 cur t r then addR g S from_.2 cur t r++[e.2.1]else addR g S from_.2 cur t r):=by
    intro t
    induction t with
    |nil=>intro e r;rfl
    |cons x t iht=>intro e r;rw[Xx,addR,addR];exact iht e _
   have hnext:addR g S from_.2 cur (E.take (k+1)) r=if e.1=cur∧Qbm g S from_.2 e=true∧e.2.1∉q then q++[e.2.1]else q:=by
    rw[Qcw N,hsnoc,←h3]
   have hopen:=R_open_eq g S e from_.2 hb hi hS (hf e (Qf N))
   rw[F.aY,if_pos (by omega),A.ixn N,Qa,A.ixn I,Qa,addR]
   simp only[F.da,F.dO,A.ixn N,Qa,A.gd1 (A.r64n (n:=k) (by omega)),Qy,if_false]
   have stay: ¬(e.1=cur∧Qbm g S from_.2 e=true∧e.2.1∉q)→F.aY H g S E from_ (y:Int) f q r' ((k:Int)+1)=H (addR g S from_.2 cur (E.drop (k+1)) (if e.1=cur∧Qbm g S from_.2 e=true∧e.2.1∉q then q++[e.2.1]else q)) (from_.1::addR g S from_.2 cur (E.drop (k+1)) (if e.1=cur∧Qbm g S from_.2 e=true∧e.2.1∉q then q++[e.2.1]else q)) ((y:Int)+1):=fun hn=>by
    rw[if_neg hn]at hnext ⊢
    exact ih (q,r') ⟨O,I,hnext.symm⟩
   by_cases hcur:e.1=cur
   ·rw[if_pos (show e.1=cur from hcur),show F.ey g S e from_.2=_ from hopen,Qa]
    by_cases W:Qbm g S from_.2 e=true
    ·rw[if_pos W,show F.eR q e.2.1=_ from R_on_eq q e.2.1 (by omega),Qa]
     by_cases Y:e.2.1∈q
     ·rw[decide_eq_true Y,Xp,if_neg Wn]
      exact stay fun h=>h.2.2 Y
     ·have J:e.1=cur∧Qbm g S from_.2 e=true∧e.2.1∉q:=⟨hcur,W,Y⟩
      rw[decide_eq_false Y,Yw,if_pos rfl,A.gd1 (by simp only[Qi,Qx];omega),A.gd1 (by rw[O];simp only[Qi,Qx];omega),if_pos J]
      rw[if_pos J]at hnext
      refine ih (q++[e.2.1],r'++[e.2.1]) ⟨?_,?_,hnext.symm⟩
      ·simp only[O,Xx]
      ·simp only[]
       rw[Q7 (Qc.1 I).1];exact I
    ·rw[if_neg W]
     exact stay fun h=>W h.2.1
   ·rw[if_neg (show ¬e.1=cur from hcur)]
    exact stay fun h=>hcur h.1)
  (by have:=Qab;omega) (r,from_.1::r) ⟨rfl,hc,rfl⟩
def okE (g:List Nd)(S:List Sp)(E:List Ed)(dd:Int)(p q:Pl):Prop:=∃e∈E,e.1=p∧e.2.1=q∧Qbm g S dd e=true
theorem Qcc (g:List Nd)(S:List Sp)(dd:Int)(cur:Pl): ∀(t:List Ed) (r:List Pl),∃x,addR g S dd cur t r=r++x∧(∀p∈x,∃e∈t,e.1=cur∧e.2.1=p∧Qbm g S dd e=true)∧(r.Nodup→(r++x).Nodup)∧(∀e∈t,e.1=cur→Qbm g S dd e=true→e.2.1∈r++x)
 | [],r=>⟨[],by rw[addR,Wk],by simp,by simp,by simp⟩
 |e::t,r=>by
  rw[addR]
  by_cases h:e.1=cur∧Qbm g S dd e=true∧e.2.1∉r
  ·rw[if_pos h]
   obtain⟨x,I,J,N,O⟩:=Qcc g S dd cur t (r++[e.2.1])
   refine⟨e.2.1::x,by rw[I];simp,fun p hp=>?_,fun hn=>?_,fun e2 H a b=>?_⟩
   ·rcases Qk.1 hp with rfl|hp
    ·exact⟨e,Qg ..,h.1,rfl,h.2.1⟩
    ·obtain⟨e2,a,b⟩:=J p hp;exact⟨e2,Qe _ a,b⟩
   ·have:=N (Wz.2 ⟨hn,by simp,fun a ha b W=>by rw[Qj]at W;subst W;intro e2;subst e2;exact h.2.2 ha⟩)
    simpa using this
   ·rcases Qk.1 H with rfl|H
    ·simp
    ·have:=O e2 H a b;simpa using this
  ·rw[if_neg h]
   obtain⟨x,I,J,N,O⟩:=Qcc g S dd cur t r
   refine⟨x,I,fun p hp=>?_,N,fun e2 H a b=>?_⟩
   ·obtain⟨e2,a,b⟩:=J p hp;exact⟨e2,Qe _ a,b⟩
   ·rcases Qk.1 H with rfl|H
    ·refine Q6 _ ?_
     by_cases Y:e2.2.1∈r
     ·exact Y
     ·exact absurd ⟨a,b,Y⟩ h
    ·exact O e2 H a b
theorem nodup_len {α:Type}[DecidableEq α]: ∀{l m:List α},l.Nodup→(∀x∈l,x∈m)→l.length≤m.length
 | [],m,_,_=>Xq _
 |a::l,m,H,h=>by
  rw[Wm]at H
  have I:=h a (Qg ..)
  have:=nodup_len (l:=l) (m:=m.erase a) H.2 fun x J=>(List.mem_erase_of_ne (fun e=>by subst e;exact H.1 J)).2 (h x (Qe _ J))
  rw[Y3 I]at this
  have hpos:0<m.length:=Y5 I
  rw[Qi];omega
theorem round_eq (g:List Nd)(S:List Sp)(E:List Ed)(from_:Sp)(hb:Few g)(hi:Inc g)(hS:S.length≤100000)(hE:E.length≤4000)(hf: ∀e∈E,∃n∈g,e.1.1=n.1):
  ∃b,F.ek g S E from_=some b∧(b=true↔Rch (okE g S E from_.2) from_.1 from_.1):=by
 have sub: ∀(r:List Pl),r.Nodup→(∀p∈r,∃e∈E,e.2.1=p)→r.length≤4000:=fun r I h=>by
  have:=nodup_len (m:=E.map fun e=>e.2.1) I fun p hp=>by obtain⟨e,W,O⟩:=h p hp;exact Qv.2 ⟨e,W,O⟩
  rw[Qw]at this;omega
 have main: ∀(n f y:Nat) (r:List Pl),y+n=4002→n<f→r.Nodup→y≤1+r.length→(∀p∈r,∃e∈E,e.2.1=p)→(∀p∈r,Rch (okE g S E from_.2) from_.1 p)→(∀i p q,i<y→(from_.1::r)[i]?=some p→okE g S E from_.2 p q→q∈r)→
   ∃b,F.bV g S E from_ f r (from_.1::r) (y:Int)=some b∧(b=true↔Rch (okE g S E from_.2) from_.1 from_.1):=by
  intro n
  induction n with
  |zero=>
   intro f y r hy hf' I Y hsub _ _
   have:=sub r I hsub
   omega
  |succ n ih=>
   intro f y r hy hf' I Y hsub hreach hclosed
   obtain⟨f,rfl⟩: ∃f',f=f'+1:=⟨f-1,by omega⟩
   have hl:=sub r I hsub
   rw[F.bV]
   by_cases h:y<1+r.length
   ·obtain⟨cur,hcur⟩: ∃c,(from_.1::r)[y]?=some c:=⟨_,Qd (by rw[Qi];omega)⟩
    obtain⟨x,W,O,h3,h4⟩:=Qcc g S from_.2 cur E r
    have hsub2: ∀p∈r++x,∃e∈E,e.2.1=p:=fun p hp=>by
     rcases Qn.1 hp with hp|hp
     ·exact hsub p hp
     ·obtain⟨e,a,_,b,_⟩:=O p hp;exact⟨e,a,b⟩
    have hall: ∀k,(addR g S from_.2 cur (E.take k) r).length≤9000:=fun k=>by
     obtain⟨x',a,b,c,_⟩:=Qcc g S from_.2 cur (E.take k) r
     have:=sub (r++x') (c I) fun p hp=>by
      rcases Qn.1 hp with hp|hp
      ·exact hsub p hp
      ·obtain⟨e,a2,_,b2,_⟩:=b p hp;exact⟨e,Yc a2,b2⟩
     rw[a];omega
    rw[if_pos (by rw[Qi];omega),round_l3 g S E from_ _ y cur r hb hi hS (by omega) hf hcur (by omega) (by omega) hall,W]
    have e1:(y:Int)+1=((y+1:Nat):Int):=by omega
    rw[e1]
    have H:cur=from_.1∨Rch (okE g S E from_.2) from_.1 cur:=by
     cases y with
     |zero=>injection hcur with hcur;exact .inl hcur.symm
     |succ y=>exact .inr (hreach cur (Qf (by simpa using hcur)))
    refine ih f (y+1) (r++x) (by omega) (by omega) (h3 I) (by rw[Ql];omega) hsub2 (fun p hp=>?_) fun i p q hi2 hp J=>?_
    ·rcases Qn.1 hp with hp|hp
     ·exact hreach p hp
     ·obtain⟨e,a,b,c,d2⟩:=O p hp
      rcases H with H|H
      ·exact .one ⟨e,a,b.trans H,c,d2⟩
      ·exact .step H ⟨e,a,b,c,d2⟩
    ·rw[←Xx,Q7 (by rw[Qi];omega)]at hp
     rcases Y4 i y with h5|h5
     ·exact Q6 _ (hclosed i p q h5 hp J)
     ·obtain rfl:i=y:=by omega
      rw[hcur]at hp;injection hp with hp;subst hp
      obtain⟨e,a,b,c,d2⟩:=J
      rw[←c];exact h4 e a b d2
   ·rw[if_neg (by rw[Qi];omega),show F.eR r from_.1=_ from R_on_eq r from_.1 (by omega),Qa]
    refine⟨_,rfl,?_⟩
    rw[decide_eq_true_eq]
    refine⟨hreach _,fun hr=>?_⟩
    have hin: ∀q,Rch (okE g S E from_.2) from_.1 q→q∈r:=fun q hq=>by
     induction hq with
     |one h6=>exact hclosed 0 _ _ (by omega) rfl h6
     |step h6 h7 ih2=>
      obtain⟨i,N⟩:=Wp.1 ih2
      have:=(Qc.1 N).1
      exact hclosed (i+1) _ _ (by omega) (by simpa using N) h7
    exact hin _ hr
 exact main 4002 A.FU 0 [] (by omega) (by have:=Qab;omega) X6 (by simp) (by simp) (by simp) (fun i p q h=>by omega)
abbrev Seen:=List (Pl×Bool)
def seen (m:Seen)(v:Pl):Prop:=Z.mget false m v=true
def addP (deep:List Sp)(from_:Pl)(dd:Int):List Pl→Seen→List Pl→Option (Seen×List Pl)
 | [],m,xs=>some (m,xs)
 |t::r,m,xs=>if t=from_ then none else if dd≤Z.mget 0 deep t∧Z.mget false m t=false then addP deep from_ dd r (Z.mins m t true) (xs++[t])else addP deep from_ dd r m xs
theorem reaches_l3 (deep:List Sp)(from_:Pl)(dd:Int)(I:Seen→List Pl→Option Bool)(tos:List Pl)(m:Seen)(xs:List Pl)(hl:tos.length≤4000)(hx:xs.length≤10000):
  F.af I deep from_ dd tos A.FU m xs 0=match addP deep from_ dd tos m xs with
   |none=>some true
   |some s=>I s.1 s.2:=
 A.lp tos (fun f (s:Seen×List Pl) i=>F.af I deep from_ dd tos f s.1 s.2 i) (fun _ t s=>match addP deep from_ dd t s.1 s.2 with
   |none=>some true
   |some s=>I s.1 s.2) (fun k s=>s.2.length≤10000+k)
  (fun f s hs=>by rw[F.af,if_neg (by omega),addP])
  (fun f s k t ht hk hs O=>by
   rw[F.af,if_pos (by omega),A.ixn ht,Qa,addP,A.lt]
   simp only[F.bF,F.bE,A.lt,A.gd1 (A.r64n (n:=k) (by omega)),Qy,if_false]
   by_cases h:t=from_
   ·rw[if_pos (show t=from_ from h),if_pos h]
   ·rw[if_neg (show ¬t=from_ from h),if_neg h]
    by_cases J:dd≤Z.mget 0 deep t
    ·rw[if_pos (show dd≤Z.mget 0 deep t from J)]
     by_cases N:Z.mget false s.1 t=false
     ·have W:dd≤Z.mget 0 deep t∧Z.mget false s.1 t=false:=⟨J,N⟩
      rw[if_pos W,show Z.mget false s.1 t=false from N,Yw,if_pos rfl,A.gd1 (by simp only[Qi,Qx];omega)]
      exact O (Z.mins s.1 t true,s.2++[t]) (by simp only[Ql,Qi,Qx];omega)
     ·have Y:Z.mget false s.1 t=true:=by cases H:Z.mget false s.1 t with
       |true=>rfl
       |false=>exact absurd H N
      have W: ¬(dd≤Z.mget 0 deep t∧Z.mget false s.1 t=false):=fun H=>N H.2
      rw[if_neg W,show Z.mget false s.1 t=true from Y,Xp,if_neg Wn]
      exact O s (by omega)
    ·rw[if_neg (show ¬dd≤Z.mget 0 deep t from J),if_neg (fun H=>J H.1)]
     exact O s (by omega))
  (by have:=Qab;omega) (m,xs) (by simp only[];omega)
def un (T:List Pl)(m:Seen):Nat:=(T.filter fun t=> !(Z.mget false m t)).length
theorem un_ins {T:List Pl}{m:Seen}{t:Pl}(H:t∈T)(I:Z.mget false m t=false):un T (Z.mins m t true)+1≤un T m:=by
 unfold un
 have mono: ∀(l:List Pl),(l.filter fun t'=> !(Z.mget false (Z.mins m t true) t')).length≤(l.filter fun t'=> !(Z.mget false m t')).length:=by
  intro l
  induction l with
  |nil=>exact Q1 _
  |cons a l J=>
   rw[Xk,Xk,Uw]
   by_cases e:a=t
   ·rw[if_pos e,e,I];simp only[Xp,Qy,if_false,Yw,if_true,Qi];omega
   ·rw[if_neg e];split<;>(try simp only[Qi])<;>omega
 induction T with
 |nil=>cases H
 |cons a l J=>
  rw[Xk,Xk,Uw]
  have:=mono l
  by_cases e:a=t
  ·rw[if_pos e,e,I];simp only[Xp,Qy,if_false,Yw,if_true,Qi];omega
  ·have:=J ((Qk.1 H).resolve_left fun h=>e h.symm)
   rw[if_neg e];split<;>(try simp only[Qi])<;>omega
theorem Qdw {deep:List Sp}{from_:Pl}{dd:Int}: ∀{tos:List Pl} {m:Seen} {xs:List Pl},addP deep from_ dd tos m xs=none→from_∈tos
 | [],_,_,h=>by cases h
 |t::r,m,xs,h=>by
  rw[addP]at h
  by_cases e:t=from_
  ·rw[e];exact Qg ..
  ·rw[if_neg e]at h
   split at h
   ·exact Qe _ (Qdw h)
   ·exact Qe _ (Qdw h)
theorem Qcg {m:Seen}{t v:Pl}:seen (Z.mins m t true) v↔v=t∨seen m v:=by
 unfold seen
 rw[Uw]
 by_cases e:v=t
 ·rw[if_pos e];simp[e]
 ·rw[if_neg e];simp[e]
theorem addP_some {deep:List Sp}{from_:Pl}{dd:Int}{T:List Pl}: ∀{tos:List Pl} {m m':Seen} {xs xs':List Pl},(∀t∈tos,t∈T)→addP deep from_ dd tos m xs=some (m',xs')→
  from_∉tos∧(∀v,seen m v→seen m' v)∧(∀v,seen m' v→seen m v∨(v∈tos∧dd≤Z.mget 0 deep v))∧(∀t∈tos,dd≤Z.mget 0 deep t→seen m' t)∧(∀v∈xs,v∈xs')∧(∀v∈xs',v∈xs∨seen m' v)∧(∀v,seen m' v→seen m v∨v∈xs')∧xs'.length+un T m'≤xs.length+un T m
 | [],m,m',xs,xs',_,h=>by
  injection h with h;injection h with h1 H;subst h1;subst H
  exact⟨by simp,fun v h=>h,fun v h=>.inl h,by simp,fun v h=>h,fun v h=>.inl h,fun v h=>.inl h,Q1 _⟩
 |t::r,m,m',xs,xs',Y,h=>by
  rw[addP]at h
  by_cases e:t=from_
  ·rw[if_pos e]at h;cases h
  ·rw[if_neg e]at h
   by_cases W:dd≤Z.mget 0 deep t∧Z.mget false m t=false
   ·rw[if_pos W]at h
    obtain⟨a1,a2,a3,a4,a5,a6,a7,a8⟩:=addP_some (fun x I=>Y x (Qe _ I)) h
    have hun:=un_ins (Y t (Qg ..)) W.2
    refine⟨fun H=>(Qk.1 H).elim (fun O=>e O.symm) a1,fun v J=>a2 v (Qcg.2 (.inr J)),fun v J=>?_,fun x I N=>?_,fun v J=>a5 v (Q6 _ J),fun v J=>?_,fun v J=>?_,by rw[Ql]at a8;simp only[Qi,Qx]at a8;omega⟩
    ·rcases a3 v J with H|H
     ·rcases Qcg.1 H with rfl|O
      ·exact .inr ⟨Qg ..,W.1⟩
      ·exact .inl O
     ·exact .inr ⟨Qe _ H.1,H.2⟩
    ·rcases Qk.1 I with rfl|I
     ·exact a2 _ (Qcg.2 (.inl rfl))
     ·exact a4 x I N
    ·rcases a6 v J with H|H
     ·rcases Qn.1 H with H|H
      ·exact .inl H
      ·rw[Qj]at H;subst H;exact .inr (a2 _ (Qcg.2 (.inl rfl)))
     ·exact .inr H
    ·rcases a7 v J with H|H
     ·rcases Qcg.1 H with rfl|O
      ·exact .inr (a5 _ (Q8 _ (Qj.2 rfl)))
      ·exact .inl O
     ·exact .inr H
   ·rw[if_neg W]at h
    obtain⟨a1,a2,a3,a4,a5,a6,a7,a8⟩:=addP_some (fun x I=>Y x (Qe _ I)) h
    refine⟨fun H=>(Qk.1 H).elim (fun O=>e O.symm) a1,a2,fun v J=>?_,fun x I N=>?_,a5,a6,a7,a8⟩
    ·rcases a3 v J with H|H
     ·exact .inl H
     ·exact .inr ⟨Qe _ H.1,H.2⟩
    ·rcases Qk.1 I with rfl|I
     ·refine a2 _ ?_
      unfold seen
      cases H:Z.mget false m x with
      |true=>rfl
      |false=>exact absurd ⟨N,H⟩ W
     ·exact a4 x I N
def blk (g:List Nd)(dd:Int)(p:Pl):Prop:=(Z.mget ((0,0,[],(0,0,(ByteArray.mk #[])),(ByteArray.mk #[]),0,0):Nd) (Qac g) p.1).2.1=14∧(Z.mget ((0,0,[],(0,0,(ByteArray.mk #[])),(ByteArray.mk #[]),0,0):Nd) (Qac g) p.1).2.2.2.2.2.2=dd
def okP (g:List Nd)(steps:List (Pl×List Pl))(deep:List Sp)(dd:Int)(p q:Pl):Prop:=q∈Z.mget [] steps p∧¬blk g dd p∧dd≤Z.mget 0 deep q
theorem reaches_eq (g:List Nd)(a0:(List (Int×Nd))×(List Int)×(List (Int×Int)))(h0:a0.1=Qac g)(steps:List (Pl×List Pl))(deep:List Sp)(from_:Pl)(dd:Int)(T:List Pl)(hT:T.length≤4000)(hst: ∀p q,q∈Z.mget [] steps p→q∈T)(hsl: ∀p,(Z.mget [] steps p).length≤4000)(hfd:dd≤Z.mget 0 deep from_):
  ∃b,F.bc a0 steps deep from_ dd=some b∧(b=true↔Rch (okP g steps deep dd) from_ from_):=by
 have main: ∀(n f:Nat) (m:Seen) (xs:List Pl),xs.length+un T m≤n→n<f→xs.length≤9000→xs.length+un T m≤9000→(∀v,seen m v→Rch (okP g steps deep dd) from_ v)→(∀t∈xs,t=from_∨seen m t)→(∀v,v=from_∨seen m v→v∉xs→∀w,okP g steps deep dd v w→w≠from_∧seen m w)→
   ∃b,F.ag a0 steps deep from_ dd f m xs=some b∧(b=true↔Rch (okP g steps deep dd) from_ from_):=by
  intro n
  induction n with
  |zero=>
   intro f m xs hn hf hx900 _ i1 i2 O
   obtain⟨f,rfl⟩: ∃f',f=f'+1:=⟨f-1,by omega⟩
   have hx:xs=[]:=Wo (by omega)
   subst hx
   rw[F.ag,if_neg (by simp)]
   refine⟨false,rfl,fun h=>(by cases h),fun h=>?_⟩
   have W: ∀q,Rch (okP g steps deep dd) from_ q→q≠from_∧seen m q:=fun q hq=>by
    induction hq with
    |one h6=>exact O from_ (.inl rfl) (by simp) _ h6
    |step h6 h7 Y=>exact O _ (.inr Y.2) (by simp) _ h7
   exact absurd rfl (W _ h).1
  |succ n ih=>
   intro f m xs hn hf hx900 hu900 i1 i2 O
   obtain⟨f,rfl⟩: ∃f',f=f'+1:=⟨f-1,by omega⟩
   rw[F.ag]
   by_cases hne:xs=[]
   ·subst hne
    rw[if_neg (by simp)]
    refine⟨false,rfl,fun h=>(by cases h),fun h=>?_⟩
    have W: ∀q,Rch (okP g steps deep dd) from_ q→q≠from_∧seen m q:=fun q hq=>by
     induction hq with
     |one h6=>exact O from_ (.inl rfl) (by simp) _ h6
     |step h6 h7 Y=>exact O _ (.inr Y.2) (by simp) _ h7
    exact absurd rfl (W _ h).1
   ·obtain⟨ys,at_,rfl⟩: ∃ys a,xs=ys++[a]:=⟨xs.dropLast,xs.getLast hne,(List.dropLast_concat_getLast hne).symm⟩
    have hl:(ys++[at_]).length=ys.length+1:=by simp
    have e1:(((ys++[at_]).length:Int)-1)=(ys.length:Int):=by rw[hl];omega
    have hat:(ys++[at_])[ys.length]?=some at_:=by simp
    rw[if_pos (by omega),A.gd1 ⟨by omega,by omega⟩,e1,A.ixn hat,Qa,A.gd1 ⟨by omega,by omega⟩,A.gd1 ⟨by omega,by rw[Qs];omega⟩,A.lt,F.cl,e1,Qs,A.ba,h0]
    have htake:List.take ys.length (ys++[at_])=ys:=by simp
    rw[htake]
    have hatr:at_=from_∨seen m at_:=i2 at_ (by simp)
    by_cases hb:blk g dd at_
    ·rw[if_pos (show decide ((Z.mget ((0,0,[],(0,0,(ByteArray.mk #[])),(ByteArray.mk #[]),0,0):Nd) (Qac g) at_.1).2.1=14∧(Z.mget ((0,0,[],(0,0,(ByteArray.mk #[])),(ByteArray.mk #[]),0,0):Nd) (Qac g) at_.1).2.2.2.2.2.2=dd)=true from decide_eq_true hb)]
     refine ih f m ys (by omega) (by omega) (by omega) (by omega) i1 (fun t ht=>i2 t (Q6 _ ht)) fun v hv J w N=>?_
     by_cases e:v=at_
     ·subst e;exact absurd hb N.2.1
     ·exact O v hv (fun h=>by
       rcases Qn.1 h with h|h
       ·exact J h
       ·exact e (Qj.1 h)) w N
    ·rw[if_neg (show ¬decide ((Z.mget ((0,0,[],(0,0,(ByteArray.mk #[])),(ByteArray.mk #[]),0,0):Nd) (Qac g) at_.1).2.1=14∧(Z.mget ((0,0,[],(0,0,(ByteArray.mk #[])),(ByteArray.mk #[]),0,0):Nd) (Qac g) at_.1).2.2.2.2.2.2=dd)=true from fun h=>hb (by have h9:=of_decide_eq_true h;exact h9)),A.lt,show Z.mget [] steps at_=Z.mget [] steps at_ from rfl,reaches_l3 deep from_ dd _ _ m ys (hsl at_) (by omega)]
     cases hadd:addP deep from_ dd (Z.mget [] steps at_) m ys with
     |none=>
      have hfrom:=Qdw hadd
      have H:okP g steps deep dd at_ from_:=⟨hfrom,hb,hfd⟩
      refine⟨true,rfl,fun _=>?_,fun _=>rfl⟩
      rcases hatr with h|h
      ·rw[h]at H;exact .one H
      ·exact .step (i1 at_ h) H
     |some s=>
      obtain⟨m',xs'⟩:=s
      obtain⟨a1,a2,a3,a4,a5,a6,a7,a8⟩:=addP_some (T:=T) (hst at_) hadd
      simp only[]
      refine ih f m' xs' (by omega) (by omega) (by omega) (by omega) (fun v hv=>?_) (fun t ht=>?_) fun v hv J w N=>?_
      ·rcases a3 v hv with h|h
       ·exact i1 v h
       ·have H:okP g steps deep dd at_ v:=⟨h.1,hb,h.2⟩
        rcases hatr with I|I
        ·rw[I]at H;exact .one H
        ·exact .step (i1 at_ I) H
      ·rcases a6 t ht with h|h
       ·rcases i2 t (Q6 _ h)with I|I
        ·exact .inl I
        ·exact .inr (a2 t I)
       ·exact .inr h
      ·have hv2:v=from_∨seen m v:=by
        rcases hv with h|h
        ·exact .inl h
        ·rcases a7 v h with I|I
         ·exact .inr I
         ·exact absurd I J
       by_cases e:v=at_
       ·subst e
        exact⟨fun h=>a1 (h▸N.1),a4 w N.1 N.2.2⟩
       ·obtain⟨h1,I⟩:=O v hv2 (fun h=>by
         rcases Qn.1 h with h|h
         ·exact J (a5 v h)
         ·exact e (Qj.1 h)) w N
        exact⟨h1,a2 w I⟩
 have hu:un T []≤T.length:=X4 _ _
 exact main (1+T.length) A.FU [] [from_] (by simp;omega) (by have:=Qab;omega) (by simp) (by simp;omega) (fun v h=>by cases h) (fun t ht=>.inl (Qj.1 ht)) (fun v hv hx w N=>by
  rcases hv with h|h
  ·exact absurd (Qj.2 h) hx
  ·cases h)
theorem mget_mem {p:Pl}: ∀{l:List Sp} {v:Int},(l.map (·.1)).Nodup→(p,v)∈l→Z.mget 0 l p=v
 | [],_,_,h=>by cases h
 |(a,w)::r,v,H,h=>by
  rw[Q3,Wm]at H
  unfold Z.mget
  rcases Qk.1 h with h|h
  ·injection h with I J;rw[if_pos I,J]
  ·rw[if_neg (fun e=>H.1 (by rw[←e];exact List.mem_map_of_mem (f:=(·.1)) h))]
   exact mget_mem H.2 h
theorem mhas_app {l:List Sp}{p:Pl}(h:p∉l.map (·.1)):Z.mhas l p=false:=by
 induction l with
 |nil=>rfl
 |cons a r H=>
  rw[Q3,Qk,not_or]at h
  obtain⟨q,v⟩:=a
  unfold Z.mhas
  rw[if_neg h.1];exact H h.2
def toOf (E:List Ed)(p:Pl):List Pl:=(E.filter fun e=>decide (e.1=p)).map fun e=>e.2.1
theorem turns_l2 (a0:(List (Int×Nd))×(List Int)×(List (Int×Int)))(S:List Sp)(E:List Ed)(O:E.length≤4000): ∃st,(∀p,Z.mget [] st p=toOf E p)∧F.aF a0 S E A.FU [] 0=A.mrg (F.a9 a0 S st) (some false) S:=by
 have main: ∀(n k f:Nat) (m:List (Pl×List Pl)),k+n=E.length→n<f→(∀p,Z.mget [] m p=toOf (E.take k) p)→∃st,(∀p,Z.mget [] st p=toOf E p)∧F.aF a0 S E f m (k:Int)=A.mrg (F.a9 a0 S st) (some false) S:=by
  intro n
  induction n with
  |zero=>
   intro k f m hk J H
   obtain⟨f,rfl⟩: ∃f',f=f'+1:=⟨f-1,by omega⟩
   rw[W7 (by omega)]at H
   exact⟨m,H,by rw[F.aF,if_neg (by omega)]⟩
  |succ n N=>
   intro k f m hk J H
   obtain⟨f,rfl⟩: ∃f',f=f'+1:=⟨f-1,by omega⟩
   have I:E[k]?=some E[k]:=Qd (by omega)
   generalize E[k]=x at I
   have hlen:(Z.mget [] m x.1).length≤4000:=by
    rw[H];unfold toOf
    rw[Qw]
    have:=X4 (fun e:Ed=>decide (e.1=x.1)) (E.take k)
    rw[Qu]at this;omega
   rw[F.aF,if_pos (by omega),A.ixn I,Qa,A.gd1 (by rw[show Z.mget [] m x.1=Z.mget [] m x.1 from rfl];simp only[Qi,Qx];omega),A.gd1 (A.r64n (by omega))]
   refine N (k+1) f _ (by omega) (by omega) fun p=>?_
   rw[show Z.mins m x.1 (Z.mget [] m x.1++[x.2.1])=Z.mins m x.1 (Z.mget [] m x.1++[x.2.1])from rfl,Uw,Qcw I]
   unfold toOf
   rw[List.filter_append,Yg,Xk,List.filter_nil]
   by_cases e:p=x.1
   ·subst e
    rw[if_pos rfl,H,if_pos (decide_eq_true rfl)];rfl
   ·rw[if_neg e,H,if_neg (by simp only[decide_eq_true_eq];exact fun h=>e h.symm),Xt,Wk];rfl
 exact main E.length 0 A.FU [] (by omega) (by have:=Qab;omega) (fun p=>rfl)
theorem turns_l3 (g:List Nd)(a0:(List (Int×Nd))×(List Int)×(List (Int×Int)))(S:List Sp)(E:List Ed)(Y:S.length≤4000)(N:(S.map (·.1)).Nodup)(O:F.bb a0 g=some E):F.aR a0 g S A.FU [] 0=F.aF a0 S E A.FU [] 0:=
 A.lp S (fun f (m:List Sp) i=>F.aR a0 g S f m i) (fun _ _ _=>F.aF a0 S E A.FU [] 0) (fun k m=>m=S.take k)
  (fun f m H=>by
   rw[W7 (Q1 _)]at H
   rw[F.aR,if_neg (by omega),show F.bb a0 g=some E from O,Qa,H])
  (fun f m k x I hk H W=>by
   rw[F.aR,if_pos (by omega),A.ixn I,Qa,A.gd1 (A.r64n (by omega))]
   refine W _ ?_
   rw[show Z.mins m x.1 x.2=Z.mins m x.1 x.2 from rfl,Qfp (mhas_app ?_),H,Qcw I]
   rw[H]
   intro h
   rw[List.map_take]at h
   have J:=N
   rw[←Xg k (S.map (·.1)),Wz]at J
   refine J.2.2 _ h _ ?_ rfl
   rw[←List.map_drop,A.dropx I,Q3];exact Qg ..)
  (by have:=Qab;omega) [] (by simp)
theorem nodeAt {g:List Nd}(H:Inc g){n:Nd}(J:n∈g)(z:Nd):Z.mget z (Qac g) n.1=n∧find g n.1=(n,true):=by
 obtain⟨j,I⟩:=Wp.1 J
 exact⟨H.mget I,Qee H I⟩
theorem mem_st {g:List Nd}{d:List Int}{st:List (Pl×List Pl)}(H: ∀p,Z.mget [] st p=toOf (edges g d) p){p q:Pl}:q∈Z.mget [] st p↔∃e∈edges g d,e.1=p∧e.2.1=q:=by
 rw[H];unfold toOf
 constructor
 ·intro h
  obtain⟨e,I,J⟩:=Qv.1 h
  obtain⟨N,O⟩:=Yn.1 I
  exact⟨e,N,of_decide_eq_true O,J⟩
 ·rintro⟨e,I,J,N⟩
  exact Qv.2 ⟨e,Yn.2 ⟨I,decide_eq_true J⟩,N⟩
theorem nodup_S {g:List Nd}{d:List Int}(H:Inc g)(I:Own g):((spots g d).map (·.1)).Nodup:=Qcq d 0 g H fun n J=>in2 I J
theorem ok_iff {g:List Nd}{d:List Int}(O:Inc g)(ho:Own g){dd:Int}{p q:Pl}:okE g (spots g d) (edges g d) dd p q↔(∃e∈edges g d,e.1=p∧e.2.1=q)∧dd≤Z.mget 0 (spots g d) q∧(¬blk g dd p∨p.2=2):=by
 have W:=nodup_S (d:=d) O ho
 have key: ∀e∈edges g d,(Qbm g (spots g d) dd e=true↔dd≤Z.mget 0 (spots g d) e.2.1∧(¬blk g dd e.1∨e.1.2=2)):=fun e Y=>by
  obtain⟨v,hv⟩:=edge_to d Y
  obtain⟨n,hn,H⟩:=Qid d Y
  obtain⟨I,J⟩:=nodeAt O hn ((0,0,[],(0,0,(ByteArray.mk #[])),(ByteArray.mk #[]),0,0):Nd)
  unfold Qbm blk
  rw[mget_mem W hv,atS_mem W hv,H,J,I,Qm,decide_eq_true_eq,Yy,Yy,decide_eq_true_eq,decide_eq_true_eq,decide_eq_true_eq]
  constructor
  ·rintro⟨a,(b|b)|b⟩
   ·exact⟨a,.inl fun h=>b h.1⟩
   ·exact⟨a,.inl fun h=>b h.2⟩
   ·exact⟨a,.inr b⟩
  ·rintro⟨a,b|b⟩
   ·by_cases c:n.2.1=14
    ·exact⟨a,.inl (.inr fun h=>b ⟨c,h⟩)⟩
    ·exact⟨a,.inl (.inl c)⟩
   ·exact⟨a,.inr b⟩
 constructor
 ·rintro⟨e,H,I,J,N⟩
  have:=(key e H).1 N
  rw[I,J]at this
  exact⟨⟨e,H,I,J⟩,this⟩
 ·rintro⟨⟨e,H,I,J⟩,N⟩
  refine⟨e,H,I,J,(key e H).2 ?_⟩
  rw[I,J];exact N
theorem rch_iff {g:List Nd}{d:List Int}{st:List (Pl×List Pl)}(hi:Inc g)(W:Own g)(N: ∀p,Z.mget [] st p=toOf (edges g d) p){dd:Int}{a:Pl}:Rch (okP g st (spots g d) dd) a a↔Rch (okE g (spots g d) (edges g d) dd) a a:=by
 have up: ∀{p q},okP g st (spots g d) dd p q→okE g (spots g d) (edges g d) dd p q:=fun {p q} h=>
  (ok_iff hi W).2 ⟨(mem_st N).1 h.1,h.2.2,.inl h.2.1⟩
 have down: ∀{p q},okE g (spots g d) (edges g d) dd p q→(p.2≠2∨¬blk g dd p)→okP g st (spots g d) dd p q:=fun {p q} h H=>by
  obtain⟨I,Y,h5⟩:=(ok_iff hi W).1 h
  refine⟨(mem_st N).2 I,?_,Y⟩
  rcases H with H|H
  ·exact h5.resolve_right H
  ·exact H
 have blk_same: ∀{p q:Pl},p.1=q.1→(blk g dd p↔blk g dd q):=fun {p q} e=>by unfold blk;rw[e]
 constructor
 ·intro h
  have: ∀b,Rch (okP g st (spots g d) dd) a b→Rch (okE g (spots g d) (edges g d) dd) a b:=fun b h=>by
   induction h with
   |one h=>exact .one (up h)
   |step _ H J=>exact .step J (up H)
  exact this a h
 ·intro h
  have key: ∀b,Rch (okE g (spots g d) (edges g d) dd) a b→Rch (okP g st (spots g d) dd) a b∨(a.2=2∧blk g dd a):=fun b h=>by
   induction h with
   |one h=>
    by_cases H:a.2=2∧blk g dd a
    ·exact .inr H
    ·exact .inl (.one (down h (by
      by_cases I:a.2=2
      ·exact .inr fun Y=>H ⟨I,Y⟩
      ·exact .inl I)))
   | @step b c _ H J=>
    rcases J with J|J
    ·refine .inl (.step J (down H ?_))
     by_cases I:b.2=2
     ·refine .inr fun Y=>?_
      have hlast: ∃p,okP g st (spots g d) dd p b:=by cases J with
       |one h=>exact⟨_,h⟩
       |step _ h=>exact⟨_,h⟩
      obtain⟨p,hp⟩:=hlast
      obtain⟨e,h5,h6,h7⟩:=(mem_st N).1 hp.1
      have O:=edge_out d W h5 (by rw[h7];exact I)
      rw[h6,h7]at O
      exact hp.2.1 ((blk_same O.1).2 Y)
     ·exact .inl I
    ·exact .inr J
  rcases key a h with H|⟨H,I⟩
  ·exact H
  ·have hlast: ∃p,okE g (spots g d) (edges g d) dd p a:=by cases h with
    |one h=>exact⟨_,h⟩
    |step _ h=>exact⟨_,h⟩
   obtain⟨p,hp⟩:=hlast
   obtain⟨⟨e,h5,h6,h7⟩,_,h9⟩:=(ok_iff hi W).1 hp
   have O:=edge_out d W h5 (by rw[h7];exact H)
   rw[h6,h7]at O
   rcases h9 with h9|h9
   ·exact absurd ((blk_same O.1).2 I) h9
   ·exact absurd h9 O.2
theorem Qhk {g:List Nd}(I:Own g)(J:g.length≤40)(d:List Int): ∀(m k:Nat),k+m=g.length→(edgesF g d k (g.drop k)).length≤83*m
 |0,k,h=>by rw[Q2 (by omega)];exact Q1 0
 |m+1,k,h=>by
  have H:g[k]?=some g[k]:=Qd (by omega)
  generalize g[k]=x at H
  have N:=in2 I (Qf H)
  have O:=Qay x.1 g fun x H=>in2 I H
  have W:=Qhk I J d m (k+1) (by omega)
  rw[A.dropx H,edgesF]
  split
  ·omega
  ·rw[Ql,Ql,Qgm,outE,Qw];omega
theorem Qes {g:List Nd}(H:Own g)(d:List Int): ∀(k:Nat) (l:List Nd),(∀n∈l,n∈g)→∀sp∈spotsF g d k l,0≤sp.1.2∧sp.1.2≤2
 |_,[],_,_,h=>by cases h
 |k,n::r,I,sp,h=>by
  have N:=in2 H (I n (Qg ..))
  unfold spotsF at h
  rcases Qn.1 h with h|h
  ·have:=Qdi g d n.1 0 _ sp.1 sp.2 h;omega
  ·rcases Qn.1 h with h|h
   ·unfold outS at h
    split at h
    ·rw[Qj]at h;subst h;simp
    ·cases h
   ·exact Qes H d (k+1) r (fun x J=>I x (Qe _ J)) sp h
theorem turns_same (g:List Nd)(d:List Int)(a0:(List (Int×Nd))×(List Int)×(List (Int×Int)))(h0:a0.1=Qac g)(hb:Few g)(hi:Inc g)(hfed:Fed g)(J:Own g)(W:InB d)(hr:RelD g d a0.2.2)(hd:d.length=g.length):
  ∃b,F.b4 a0 g=some b∧(∀Y r9,F.ck g Y r9 (spots g d) (edges g d) A.FU 0=some (if b=true then([],[],81)else(Y.1,r9.1,0)))∧(b=true↔∃sp∈spots g d,Rch (okE g (spots g d) (edges g d) sp.2) sp.1 sp.1):=by
 have hlen:=hb.1
 have hS:(spots g d).length≤120:=by
  have:=Qch J d g.length 0 (by omega);rw[Wa]at this;unfold spots;omega
 have hE:(edges g d).length≤4000:=by
  have:=Qhk J hlen d g.length 0 (by omega);rw[Wa]at this;unfold edges;omega
 have hN:=nodup_S (d:=d) hi J
 have hok: ∀sp∈spots g d,SpOk g sp:=by
  have:=o_aV (d:=d) (g:=g) W g.length 0 (by omega);rw[Wa]at this;exact this
 obtain⟨st,N,hl2⟩:=turns_l2 a0 (spots g d) (edges g d) hE
 have hto: ∀p q,q∈Z.mget [] st p→q∈(edges g d).map fun e=>e.2.1:=fun p q h=>by
  obtain⟨e,H,_,h3⟩:=(mem_st N).1 h
  exact Qv.2 ⟨e,H,h3⟩
 have htl: ∀p,(Z.mget [] st p).length≤4000:=fun p=>by
  rw[N];unfold toOf;rw[Qw]
  exact Wh (X4 _ _) hE
 have hval: ∀sp∈spots g d,∃b,F.bc a0 st (spots g d) sp.1 sp.2=some b∧F.ek g (spots g d) (edges g d) sp=some b∧(b=true↔Rch (okE g (spots g d) (edges g d) sp.2) sp.1 sp.1):=fun sp I=>by
  obtain⟨b,H,O⟩:=reaches_eq g a0 h0 st (spots g d) sp.1 sp.2 ((edges g d).map fun e=>e.2.1) (by rw[Qw];exact hE) hto htl (by rw[mget_mem hN (p:=sp.1) (v:=sp.2) I];exact Xm _)
  obtain⟨b',h3,h4⟩:=round_eq g (spots g d) (edges g d) sp hb hi (by omega) hE (fun e he=>Qid d he)
  refine⟨b,H,?_,O.trans (rch_iff hi J N)⟩
  rw[h3];congr 1
  rw[Y6,h4,O]
  exact(rch_iff hi J N).symm
 let p:Sp→Bool:=fun sp=>(F.bc a0 st (spots g d) sp.1 sp.2).getD false
 have hp: ∀sp∈spots g d,(p sp=true↔Rch (okE g (spots g d) (edges g d) sp.2) sp.1 sp.1):=fun sp I=>by
  obtain⟨b,H,_,h3⟩:=hval sp I
  rw[show p sp=b from congrArg (fun o=>Option.getD o false) H];exact h3
 refine⟨(spots g d).any p,?_,fun Y r9=>?_,?_⟩
 ·unfold F.b4
  rw[show F.bB a0 g=_ from Qhq g d a0 hb hfed J hr,Qa,turns_l3 g a0 (spots g d) (edges g d) (by omega) hN (Qib g d a0 hb hfed J W hr),hl2]
  have:=A.mrg_any (body:=F.a9 a0 (spots g d) st) (rest:=some false) (y:=true) (p:=p) (l:=spots g d) fun sp I=>by
   obtain⟨b,H,_,_⟩:=hval sp I
   obtain⟨⟨j,n,hn,hid⟩,hdd⟩:=hok sp I
   have hng:=Qf hn
   have hids:=own_id (J n hng)
   have hport:0≤sp.1.2∧sp.1.2≤2:=Qes J d 0 g (fun n hn=>hn) sp I
   unfold F.a9
   have hh:decide (A.h6 sp.1.1)=true∧decide (A.h6 sp.1.2)=true:=⟨decide_eq_true (J2 ⟨by omega,by omega⟩),decide_eq_true (J2 ⟨by omega,by omega⟩)⟩
   rw[A.gd1 hh,show F.bc a0 st (spots g d) sp.1 sp.2=_ from H,Qa,show p sp=b from congrArg (fun o=>Option.getD o false) H]
  rw[this]
  cases (spots g d).any p<;>rfl
 ·have loop:=A.lp0 (spots g d) (fun f y=>F.ck g Y r9 (spots g d) (edges g d) f y) (fun _ t=>some (if t.any p=true then([],[],81)else(Y.1,r9.1,0)))
   (fun f=>by rw[F.ck,if_neg (by omega)];rfl)
   (fun f k x hx hk ih=>by
    obtain⟨b,H,O,_⟩:=hval x (Qf hx)
    rw[F.ck,if_pos (by omega),A.ixn hx,Qa,show F.ek g (spots g d) (edges g d) x=_ from O,Qa,Xo,show p x=b from congrArg (fun o=>Option.getD o false) H]
    cases b with
    |true=>rfl
    |false=>rw[if_neg Wn,A.gd1 (A.r64n (by omega)),ih,W6])
   (by have:=Qab;omega)
  exact loop
 ·rw[Ya]
  exact⟨fun⟨sp,H,O⟩=>⟨sp,H,(hp sp H).1 O⟩,fun⟨sp,H,O⟩=>⟨sp,H,(hp sp H).2 O⟩⟩
theorem own_of {g:List Nd}(h:okL g 0 0 g=true):Own g:=fun n I=>by
 obtain⟨j,J⟩:=Wp.1 I
 have H:=Qih g g.length 0 (by omega)
 rw[Wa,show lastOf g 0=0 from rfl]at H
 have:=H.1 h j n (by omega) J
 cases hq:ownQ n with
 |true=>rfl
 |false=>exact absurd (.inr (.inl hq)) this
theorem Qev (g:List Nd): ∀(r:Nat) (done:List Bool) (l l':List Int),Qaq g r done l=some l'→Plc g l→Plc g l'
 |0,done,l,l',h,hp=>by injection h with h;subst h;exact hp
 |r+1,done,l,l',h,hp=>by
  rw[Qaq]at h
  by_cases I:Qad g done 0 g (-1)<0
  ·rw[if_pos I]at h;cases h
  ·rw[if_neg I]at h
   by_cases J:g.length=0
   ·have:=Qdl g done 0 g (-1) (by omega)
    have e:g=[]:=Wo J
    subst e
    simp[Qad]at I
   ·have N:=Qdl g done 0 g (-1) (by omega) (by omega)
    refine Qev g r _ _ l' h fun i p H=>?_
    rw[List.getElem?_append]at H
    split at H
    ·exact hp i p H
    ·rename_i O
     have:i-l.length=0:=by
      have:=(Qc.1 H).1
      simp only[Qi,Qx]at this;omega
     rw[this]at H
     injection H with H
     subst H
     exact⟨(Qad g done 0 g (-1)).toNat,g[(Qad g done 0 g (-1)).toNat]'(by omega),by omega,Qd (by omega)⟩
structure Whole (g:List Nd) (l d:List Int) (dm:List (Int×Int)):Prop where
 inc:Inc g
 fed:Fed g
 own:Own g
 rel:RelD g d dm
 inb:InB d
 dlen:d.length=g.length
 key:KeyD g l dm
 plc:Plc g l
 llen:l.length=g.length
 ord:Qaq g g.length (List.replicate g.length false) []=some l
 dep:Qak g l (List.replicate g.length 0)=some d
 lps:Qbh g d g=true
 nort: ∀sp∈spots g d,¬Rch (okE g (spots g d) (edges g d) sp.2) sp.1 sp.1
 kin:g.all (fun n=>n.2.2.1.all (inOk g))=true
 okr:okR g 0 g=true
 chk:g.all (fun n=>decide (chk n.2.1 n.2.2.2.1=0))=true
 l32:g.length≤32
theorem whole_same (g:List Nd)(O:Few g):
  (∃e,e≠0∧F.bJ g=some (none,e)∧F.el g=some ([],[],e))∨
  (∃l d dm,F.bJ g=some (some (Qac g,l.map (idAt g),dm),0)∧F.el g=some (l,d,0)∧Whole g l d dm):=by
 rw[whole_P g O]
 unfold F.el
 rw[parts_eq g O,ok_eq]
 by_cases N:(32:Int)<(g.length:Int)
 ·rw[if_pos N,if_pos N]
  exact .inl ⟨80,by decide,rfl,rfl⟩
 rw[if_neg N,if_neg N]
 by_cases H:okR g 0 g=true
 case neg=>rw[if_neg H,if_neg H];exact .inl ⟨80,by decide,rfl,rfl⟩
 rw[if_pos H,if_pos H]
 by_cases J:g.all (fun n=>decide (chk n.2.1 n.2.2.2.1=0))=true
 case neg=>rw[if_neg J,if_neg J];exact .inl ⟨60,by decide,rfl,rfl⟩
 rw[if_pos J,if_pos J]
 by_cases I:g.all (fun n=>n.2.2.1.all (inOk g))=true
 case neg=>rw[if_neg I,if_neg I];exact .inl ⟨80,by decide,rfl,rfl⟩
 rw[if_pos I,if_pos I,Qa,if_neg (by decide)]
 have W:=ok_inc H
 have hfed:=fed_of I
 have Y:=own_of (by rw[ok_eq];exact H)
 have hlen:=O.1
 unfold sortP
 rcases order_sort O W hfed (Qac g)with⟨l,h1,h2,h3,h4⟩|⟨h1,p,h2⟩
 case inr=>rw[h1,h2];exact .inl ⟨81,by decide,rfl,rfl⟩
 rw[h1,h2]
 simp only[Qa,Xp,Qy,if_false]
 have hplc:Plc g l:=Qev g g.length _ [] l h4 fun i p h=>by cases h
 rcases Qim g l O W hfed Y (by omega) hplc with⟨d,dm,d1,d2,d3,d4,d5,d6,d7,d8⟩|⟨d1,p,d2⟩
 case inr=>rw[d1,d2];exact .inl ⟨80,by decide,rfl,rfl⟩
 rw[d1,d2]
 simp only[Qa,Xp,Qy,if_false]
 obtain⟨b,t1,t2,t3⟩:=turns_same g d (Qac g,l.map (idAt g),dm) rfl O W hfed Y d4 d3 d5
 rw[t1,Qhj g d O hfed Y d5]
 simp only[Qa]
 rw[Qhv g d O W Y d4]
 simp only[Qa,t2]
 cases b with
 |true=>exact .inl ⟨81,by decide,rfl,rfl⟩
 |false=>exact .inr ⟨l,d,dm,rfl,rfl,W,hfed,Y,d3,d4,d5,d6,hplc,h3,h4,d8,d7,fun sp h1 h2=>Bool.noConfusion (t3.2 ⟨sp,h1,h2⟩),I,H,J,by omega⟩
theorem Qds (a b:Int):F.aM a b=some (if a<b then-1 else if b<a then 1 else 0):=by
 unfold F.aM F.dh
 simp only[Qa,ne_eq,not_true_eq_false,decide_false,Qy,if_false]
 split
 ·rfl
 ·split<;>rfl
def orF:List Int→Int
 | []=>0
 |x::r=>if x≠0 then x else orF r
theorem Or_eq (l:List Int)(J:l.length≤100):F.cM l=some (orF l):=by
 have loop:=A.lp0 l (fun f y=>F.cn l f y) (fun _ t=>some (orF t)) (fun f=>by rw[F.cn,if_neg (by omega)];rfl)
  (fun f k x H hk I=>by
   rw[F.cn,if_pos (by omega),A.ixn H,Qa,orF]
   by_cases h:x≠0
   ·rw[if_pos h,if_pos h]
   ·rw[if_neg h,if_neg h,A.gd1 (A.r64n (by omega)),I])
  (by have:=Qab;omega)
 exact loop
def cmpI (a b:Int):Int:=if a<b then-1 else if b<a then 1 else 0
def cmpP (p q:Pl):Int:=orF [cmpI p.1 q.1,cmpI p.2 q.2]
def cmpE (x y:Ed):Int:=orF [cmpP x.1 y.1,cmpP x.2.1 y.2.1]
theorem place_eq (p q:Pl):F.dp p q=some (cmpP p q):=by
 unfold F.dp
 rw[Qds,Qa,Qds,Qa,Or_eq _ (by simp),Qa];rfl
theorem Edges1_eq (x y:Ed):F.bw x y=some (cmpE x y):=by
 unfold F.bw
 rw[place_eq,Qa,place_eq,Qa,Or_eq _ (by simp),Qa];rfl
def ltP (p q:Pl):Prop:=p.1<q.1∨p.1=q.1∧p.2<q.2
def ltE (x y:Ed):Prop:=ltP x.1 y.1∨x.1=y.1∧ltP x.2.1 y.2.1
theorem Qiu {a b:Int}(h:a<b):cmpI b a=1:=by unfold cmpI;rw[if_neg (by omega),if_pos h]
theorem Qcf (a:Int):cmpI a a=0:=by unfold cmpI;rw[if_neg (by omega),if_neg (by omega)]
theorem cmpP_lt {p q:Pl}(h:ltP p q):cmpP q p=1:=by
 unfold cmpP
 rcases h with h|⟨H,I⟩
 ·rw[Qiu h];rfl
 ·rw[H,Qcf,Qiu I];rfl
theorem cmpP_self (p:Pl):cmpP p p=0:=by
 unfold cmpP;rw[Qcf,Qcf];rfl
theorem cmpE_lt {x y:Ed}(h:ltE x y):cmpE y x=1:=by
 unfold cmpE
 rcases h with h|⟨H,I⟩
 ·rw[cmpP_lt h];rfl
 ·rw[H,cmpP_self,cmpP_lt I];rfl
def Od (l:List Ed):Prop:=l.Pairwise ltE
theorem Od.cmp {l:List Ed}(h:Od l){i j:Nat}(H:i<j)(I:j<l.length): ∃x y,l[i]?=some x∧l[j]?=some y∧cmpE y x=1:=by
 refine⟨l[i],l[j],Qd (by omega),Qd I,cmpE_lt ?_⟩
 exact Xz.1 h i j (by omega) I H
theorem Od.less {l:List Ed}(h:Od l){i j:Nat}(H:i<j)(I:j<l.length){β:Type}(K:Int→Option β):
  ((A.ix l (j:Int)).bind fun y=>(A.ix l (i:Int)).bind fun x=>(F.bw y x).bind K)=K 1:=by
 obtain⟨x,y,J,N,O⟩:=h.cmp H I
 rw[A.ixn N,Qa,A.ixn J,Qa,Edges1_eq,Qa,O]
theorem ins_l2 {l:List Ed}(h:Od l)(N:l.length≤1000000)(H:Int→Option Unit)(a j:Nat)(J:j<l.length)(f:Nat):
  F.u H l (a:Int) (j:Int) (f+1)=H ((j:Int)+1):=by
 have e:F.k H l (j:Int) false=H ((j:Int)+1):=by
  unfold F.k
  rw[if_neg (by simp),A.gd1 (A.r64n (by omega))]
 rw[F.u]
 by_cases I:(a:Int)<(j:Int)
 ·rw[if_pos I,A.gd1 ⟨by omega,by omega⟩]
  obtain⟨i,rfl⟩: ∃i:Nat,j=i+1:=⟨j-1,by omega⟩
  rw[show(((i+1:Nat):Int)-1)=(i:Int) by omega]
  exact(h.less (i:=i) (j:=i+1) (by omega) J _).trans e
 ·rw[if_neg I];exact e
theorem ins_l3 {l:List Ed}(h:Od l)(H:l.length≤1000000)(a b:Nat)(N:b≤l.length): ∀(n j f:Nat),b≤j+n→n<f→
  F.e l (a:Int) (b:Int) f (j:Int)=some ()
 |n,j,0,O,I=>absurd I (by omega)
 |n,j,f+1,O,I=>by
  rw[F.e]
  by_cases J:(j:Int)<(b:Int)
  ·rw[if_pos J]
   obtain⟨m,W⟩: ∃m,A.FU=m+1:=⟨A.FU-1,by have:=Qab;omega⟩
   rw[W,ins_l2 h H _ a j (by omega) m]
   exact ins_l3 h H a b N (n-1) (j+1) f (by omega) (by omega)
  ·rw[if_neg J]
theorem ins_eq {l:List Ed}(h:Od l)(H:l.length≤1000000)(a b:Nat)(J:a≤l.length)(I:b≤l.length):F.m l (a:Int) (b:Int)=some ():=by
 unfold F.m
 rw[A.gd1 (A.r64n (by omega))]
 exact ins_l3 h H a b I b (a+1) A.FU (by omega) (by have:=Qab;omega)
theorem half (a b:Nat)(h:a+b≤100000000):IntKind.u64.wrap ((a:Int)+(b:Int)) / 2^((1:Int)).toNat=(((a+b) / 2:Nat):Int):=by
 rw[Z.u64_in _ (by omega)]
 show((a:Int)+(b:Int)) / 2=_
 omega
theorem r64h (a b:Nat)(h:a+b≤100000000):Z.R64 ((a:Int)+(b:Int))∧(0≤(1:Int)∧(1:Int)≤64)∧Z.R64 ((((a+b) / 2:Nat):Int)):=⟨⟨by omega,by omega⟩,⟨by omega,by omega⟩,⟨by omega,by omega⟩⟩
theorem r64i {x:Int}(h:0≤x∧x≤1000000000):Z.R64 x:=⟨by omega,by omega⟩
theorem sym_l1 (l:List Ed)(a m f:Nat)(H:a+1=m)(I:m≤1000000):F.z l (a:Int) (m:Int) (f+1)=some ():=by
 rw[F.z,A.gd1 (r64i (by omega)),if_neg (by omega)]
theorem sym_l2 {l:List Ed}(h:Od l)(N:l.length≤1000000)(a m:Nat)(H:a+1=m): ∀(n j f:Nat),m≤j→j≤l.length→j≤m+n→n<f→
  F.g l (a:Int) f (m:Int) (j:Int)=some ()
 |n,j,0,O,W,Y,I=>absurd I (by omega)
 |n,j,f+1,O,W,Y,I=>by
  rw[F.g]
  by_cases J:(m:Int)<(j:Int)
  ·rw[if_pos J,half m j (by omega),A.gd1 (r64h m j (by omega))]
   refine(h.less (i:=a) (j:=(m+j) / 2) (by omega) (by omega) _).trans ?_
   show(if(1:Int)<0 then _ else _)=_
   rw[if_neg (by decide)]
   exact sym_l2 h N a m H (n-1) ((m+j) / 2) f (by omega) (by omega) (by omega) (by omega)
  ·obtain⟨q,hq⟩: ∃q,A.FU=q+1:=⟨A.FU-1,by have:=Qab;omega⟩
   rw[if_neg J,hq,sym_l1 l a m q H (by omega)]
theorem sym_l4 {l:List Ed}(h:Od l)(N:l.length≤1000000)(m:Nat)(H:m<l.length): ∀(n i f:Nat),i≤m→m≤i+n→n<f→
  F.h l (m:Int) f (i:Int) (m:Int)=some ()
 |n,i,0,O,W,I=>absurd I (by omega)
 |n,i,f+1,O,W,I=>by
  rw[F.h]
  by_cases J:(i:Int)<(m:Int)
  ·rw[if_pos J,half i m (by omega),A.gd1 (r64h i m (by omega))]
   refine(h.less (i:=(i+m) / 2) (j:=m) (by omega) H _).trans ?_
   show(if(!decide ((1:Int)<0))=true then _ else _)=_
   rw[if_pos (by decide),A.gd1 (A.r64n (by omega))]
   exact sym_l4 h N m H (n-1) ((i+m) / 2+1) f (by omega) (by omega) (by omega)
  ·obtain⟨q,hq⟩: ∃q,A.FU=q+1:=⟨A.FU-1,by have:=Qab;omega⟩
   obtain rfl:i=m:=by omega
   rw[if_neg J,hq,F.an,if_neg (by omega)]
theorem sym_l6 {l:List Ed}(h:Od l)(J:l.length≤1000000)(rc:List Ed→Int→Int→Int→Option Unit)(a m b mid r s:Nat)(hmid:(a+b) / 2=mid)(N:a≤1000000)(O:b≤1000000)(W:r≤1000000)(Y:m≤1000000)
  (hp: ∀c,s≤c→c<r→c<mid+m-1-c∧mid+m-1-c<l.length) (H:F.b l (a:Int) (m:Int) (b:Int) rc 1 (r:Int) (r:Int)=some ()): ∀(n c f:Nat),s≤c→c≤r→r≤c+n→n<f→
  F.b l (a:Int) (m:Int) (b:Int) rc f (c:Int) (r:Int)=some ()
 |n,c,0,hs,hi,hn,I=>absurd I (by omega)
 |n,c,f+1,hs,hi,hn,I=>by
  by_cases hc:c<r
  ·obtain⟨p1,p2⟩:=hp ((c+r) / 2) (by omega) (by omega)
   rw[F.b,if_pos (by omega),half c r (by omega),half a b (by omega),hmid,A.gd1 (r64h c r (by omega)),show((((mid:Nat):Int)+(m:Int))-1)-(((c+r) / 2:Nat):Int)=((mid+m-1-(c+r) / 2:Nat):Int) by omega,A.gd1 (r64i (by omega))]
   refine(h.less (i:=(c+r) / 2) (j:=mid+m-1-(c+r) / 2) p1 p2 _).trans ?_
   show(if(!decide ((1:Int)<0))=true then _ else _)=_
   rw[if_pos (by decide),A.gd1 (A.r64n (by omega))]
   exact sym_l6 h J rc a m b mid r s hmid N O W Y hp H (n-1) ((c+r) / 2+1) f (by omega) (by omega) (by omega) (by omega)
  ·obtain rfl:c=r:=by omega
   rw[F.b,if_neg (by omega)]at H ⊢
   exact H
theorem sym_eq {l:List Ed}(h:Od l)(H:l.length≤1000000): ∀(n f a m b:Nat),a<m→m<b→b≤l.length→b≤a+n→n<f→
  F.c f l (a:Int) (m:Int) (b:Int)=some ()
 |n,0,a,m,b,J,N,I,W,O=>absurd O (by omega)
 |n,f+1,a,m,b,J,N,I,W,O=>by
  have hFU:=Qab
  rw[F.c,F.ax,A.gd1 (r64i (by omega))]
  by_cases c1:(m:Int)-(a:Int)=1
  ·rw[if_pos c1]
   exact sym_l2 h H a m (by omega) b b A.FU (by omega) I (by omega) (by omega)
  rw[if_neg c1,A.gd1 (r64i (by omega))]
  by_cases c2:(b:Int)-(m:Int)=1
  ·rw[if_pos c2]
   exact sym_l4 h H m (by omega) m a A.FU (by omega) (by omega) (by omega)
  rw[if_neg c2,half a b (by omega),A.gd1 (r64h a b (by omega)),A.gd1 (r64i (by omega))]
  generalize hmid:(a+b) / 2=mid
  by_cases c3:(mid:Int)<(m:Int)
  ·rw[if_pos c3,A.gd1 (r64i (by omega)),F.n,half a b (by omega),hmid,A.gd1 (r64i (by omega)),show(mid:Int)+(m:Int)-(b:Int)=((mid+m-b:Nat):Int) by omega]
   refine sym_l6 h H (F.c f) a m b mid mid (mid+m-b) hmid (by omega) (by omega) (by omega) (by omega) (fun c Y g2=>⟨by omega,by omega⟩) ?_ mid (mid+m-b) A.FU (by omega) (by omega) (by omega) (by omega)
   rw[F.b,if_neg (by omega),half a b (by omega),hmid,A.gd1 (r64i (by omega)),show(mid:Int)+(m:Int)-(mid:Int)=(m:Int) by omega,A.ba,A.ba,if_neg (by rw[decide_eq_true_iff];omega),if_neg (by rw[decide_eq_true_iff];omega),F.i,half a b (by omega),hmid,show(mid:Int)+(m:Int)-(mid:Int)=(m:Int) by omega,A.ba,if_pos (by rw[decide_eq_true_iff];omega),sym_eq h H (n-1) f mid m b (by omega) N I (by omega) (by omega),Qa]
  ·rw[if_neg c3,F.n,half a b (by omega),hmid,A.gd1 (r64i (by omega))]
   refine sym_l6 h H (F.c f) a m b mid m a hmid (by omega) (by omega) (by omega) (by omega) (fun c Y g2=>⟨by omega,by omega⟩) ?_ m a A.FU (by omega) (by omega) (by omega) (by omega)
   have e5:F.i l (a:Int) (m:Int) (b:Int) (F.c f) (m:Int)=some ():=by
    rw[F.i,half a b (by omega),hmid,A.ba,if_neg (by rw[decide_eq_true_iff];omega)]
   rw[F.b,if_neg (by omega),half a b (by omega),hmid,A.gd1 (r64i (by omega)),A.ba,A.ba,if_neg (by rw[decide_eq_true_iff];omega),e5]
   by_cases c4:(m:Int)<(mid:Int)
   ·rw[if_pos (by rw[decide_eq_true_iff];omega),sym_eq h H (n-1) f a m mid J (by omega) (by omega) (by omega) (by omega),Qa]
   ·rw[if_neg (by rw[decide_eq_true_iff];omega)]
theorem stb_l2 {l:List Ed}(h:Od l)(H:l.length≤1000000)(k12:Int→Option Unit)(s:Nat)(W:0<s)(I:s<l.length)(hk:k12 ((s*2:Nat):Int)=some ()): ∀(n a f:Nat),l.length≤a+n→n<f→a≤l.length→
  F.r k12 l (l.length:Int) (s:Int) f (a:Int) ((a+2*s:Nat):Int)=some ()
 |n,a,0,Y,J,ha=>absurd J (by omega)
 |n,a,f+1,Y,J,ha=>by
  have hFU:=Qab
  have e1:F.q k12 (s:Int)=some ():=by
   rw[F.q,A.gd1 (r64i (by omega)),show(s:Int)*2=((s*2:Nat):Int) by omega,hk]
  rw[F.r]
  by_cases N:((a+2*s:Nat):Int)≤(l.length:Int)
  ·rw[if_pos N,A.gd1 (r64i (by omega)),show(a:Int)+(s:Int)=((a+s:Nat):Int) by omega,sym_eq h H l.length A.FU a (a+s) (a+2*s) (by omega) (by omega) (by omega) (by omega) (by omega),Qa,A.gd1 ⟨r64i (by omega),r64i (by omega)⟩,show((a+2*s:Nat):Int)+2*(s:Int)=((a+2*s+2*s:Nat):Int) by omega]
   exact stb_l2 h H k12 s W I hk (n-1) (a+2*s) f (by omega) (by omega) (by omega)
  ·rw[if_neg N,A.gd1 (r64i (by omega)),show(a:Int)+(s:Int)=((a+s:Nat):Int) by omega]
   by_cases O:((a+s:Nat):Int)<(l.length:Int)
   ·rw[if_pos O,sym_eq h H l.length A.FU a (a+s) l.length (by omega) (by omega) (by omega) (by omega) (by omega),Qa,e1]
   ·rw[if_neg O,e1]
theorem stb_l3 {l:List Ed}(h:Od l)(H:l.length≤1000000): ∀(n s f:Nat),0<s→l.length≤s+n→n<f→
  F.f l (l.length:Int) f (s:Int)=some ()
 |n,s,0,I,O,J=>absurd J (by omega)
 |n,s,f+1,I,O,J=>by
  have hFU:=Qab
  rw[F.f]
  by_cases N:(s:Int)<(l.length:Int)
  ·rw[if_pos N,A.gd1 (r64i (by omega)),show 2*(s:Int)=((0+2*s:Nat):Int) by omega]
   exact stb_l2 h H _ s I (by omega) (stb_l3 h H (n-1) (s*2) f (by omega) (by omega) (by omega)) l.length 0 A.FU (by omega) (by omega) (by omega)
  ·rw[if_neg N]
theorem stb_l4 {l:List Ed}(h:Od l)(H:l.length≤1000000): ∀(n a f:Nat),l.length≤a+n→n<f→a≤l.length→
  F.s l (l.length:Int) f (a:Int) ((a+20:Nat):Int)=some ()
 |n,a,0,N,I,O=>absurd I (by omega)
 |n,a,f+1,N,I,O=>by
  have hFU:=Qab
  rw[F.s]
  by_cases J:((a+20:Nat):Int)≤(l.length:Int)
  ·rw[if_pos J,ins_eq h H a (a+20) (by omega) (by omega),Qa,A.gd1 (r64i (by omega)),show((a+20:Nat):Int)+20=((a+20+20:Nat):Int) by omega]
   exact stb_l4 h H (n-1) (a+20) f (by omega) (by omega) (by omega)
  ·rw[if_neg J,ins_eq h H a l.length (by omega) (by omega),Qa]
   exact stb_l3 h H l.length 20 A.FU (by omega) (by omega) (by omega)
theorem sorted_eq {l:List Ed}(h:Od l)(H:l.length≤1000000):F.v l=some ():=by
 unfold F.v F.aB
 have hFU:=Qab
 have e:=stb_l4 h H l.length 0 A.FU (by omega) (by omega) (by omega)
 rw[show(20:Int)=((0+20:Nat):Int) by rfl,show(0:Int)=((0:Nat):Int) by rfl,e];rfl
theorem useN_memO (id nd:Int): ∀(k:Nat) (l:List Int) (u:Pl),u∈useN id nd k l→u.1=nd∧(k:Int)≤u.2
 |_,[],u,h=>by cases h
 |k,z::r,u,h=>by
  unfold useN at h
  split at h
  ·rcases Qk.1 h with rfl|h
   ·exact⟨rfl,Xm _⟩
   ·have:=useN_memO id nd (k+1) r u h;exact⟨this.1,by have:=this.2;omega⟩
  ·have:=useN_memO id nd (k+1) r u h;exact⟨this.1,by have:=this.2;omega⟩
theorem Qio (id nd:Int): ∀(k:Nat) (l:List Int),(useN id nd k l).Pairwise ltP
 |_,[]=>List.Pairwise.nil
 |k,z::r=>by
  unfold useN
  split
  ·refine Wi.2 ⟨fun u h=>?_,Qio id nd (k+1) r⟩
   have:=useN_memO id nd (k+1) r u h
   exact .inr ⟨this.1.symm,by have:=this.2;show(k:Int)<u.2;omega⟩
  ·exact Qio id nd (k+1) r
theorem Qfe (id:Int): ∀(l:List Nd) (u:Pl),u∈Qar id l→∃n∈l,u.1=n.1
 | [],u,h=>by cases h
 |n::r,u,h=>by
  unfold Qar at h
  rcases Qn.1 h with h|h
  ·exact⟨n,Qg ..,(useN_memO id n.1 0 n.2.2.1 u h).1⟩
  ·obtain⟨m,H,I⟩:=Qfe id r u h;exact⟨m,Qe _ H,I⟩
theorem usesF_od (id:Int): ∀(l:List Nd),Inc l→(Qar id l).Pairwise ltP
 | [],_=>List.Pairwise.nil
 |n::r,h=>by
  have h':=Wi.1 h
  unfold Qar
  refine Y2.2 ⟨Qio id n.1 0 n.2.2.1,usesF_od id r h'.2,fun a H b I=>.inl ?_⟩
  obtain⟨m,J,N⟩:=Qfe id r b I
  rw[(useN_memO id n.1 0 n.2.2.1 a H).1,N];exact h'.1 m J
theorem Qde (g:List Nd)(d:List Int)(n:Nd): ∀(k:Nat) (l:List Int) (e:Ed),e∈inE g d n k l→e.1.1=n.1∧(k:Int)≤e.1.2∧e.1.2<(k:Int)+l.length
 |_,[],e,h=>by cases h
 |k,z::r,e,h=>by
  unfold inE at h
  rcases Qk.1 h with rfl|h
  ·refine⟨rfl,Xm _,?_⟩
   rw[Qi];show(k:Int)<_;omega
  ·have:=Qde g d n (k+1) r e h
   rw[Qi]
   exact⟨this.1,by omega,by omega⟩
theorem inE_od (g:List Nd)(d:List Int)(n:Nd): ∀(k:Nat) (l:List Int),(inE g d n k l).Pairwise ltE
 |_,[]=>List.Pairwise.nil
 |k,z::r=>by
  unfold inE
  refine Wi.2 ⟨fun e h=>.inl (.inr ?_),inE_od g d n (k+1) r⟩
  have:=Qde g d n (k+1) r e h
  exact⟨this.1.symm,by show(k:Int)<e.1.2;omega⟩
theorem Qbr (g:List Nd)(d:List Int): ∀(i:Nat) (l:List Nd) (e:Ed),e∈edgesF g d i l→∃n∈l,e.1.1=n.1
 |_,[],e,h=>by cases h
 |i,n::r,e,h=>by
  unfold edgesF at h
  split at h
  ·obtain⟨m,H,I⟩:=Qbr g d (i+1) r e h;exact⟨m,Qe _ H,I⟩
  ·rcases Qn.1 h with h|h
   ·exact⟨n,Qg ..,(Qde g d n 0 n.2.2.1 e h).1⟩
   ·rcases Qn.1 h with h|h
    ·unfold outE at h
     obtain⟨u,_,rfl⟩:=Qv.1 h
     exact⟨n,Qg ..,rfl⟩
    ·obtain⟨m,H,I⟩:=Qbr g d (i+1) r e h;exact⟨m,Qe _ H,I⟩
theorem Qhu (g:List Nd)(d:List Int)(N:Inc g): ∀(i:Nat) (l:List Nd),Inc l→(∀n∈l,n.2.2.1.length≤2)→Od (edgesF g d i l)
 |_,[],_,_=>List.Pairwise.nil
 |i,n::r,h,O=>by
  have h':=Wi.1 h
  have W:=Qhu g d N (i+1) r h'.2 fun m Y=>O m (Qe _ Y)
  have hn2:=O n (Qg ..)
  unfold edgesF
  split
  ·exact W
  ·have later: ∀(a:Ed),a.1.1=n.1→∀b,b∈edgesF g d (i+1) r→ltE a b:=fun a I b H=>by
    obtain⟨m,h3,h4⟩:=Qbr g d (i+1) r b H
    exact .inl (.inl (by rw[I,h4];exact h'.1 m h3))
   have out: ∀b,b∈outE g n (iget d (i:Int))→b.1=(n.1,2):=fun b H=>by
    unfold outE at H;obtain⟨u,_,rfl⟩:=Qv.1 H;rfl
   refine Y2.2 ⟨inE_od g d n 0 n.2.2.1,Y2.2 ⟨?_,W,fun a I b H=>later a (by rw[out a I]) b H⟩,fun a I b H=>?_⟩
   ·unfold outE
    exact Jb.2 ((usesF_od n.1 g N).imp fun {a b} J=>.inr ⟨rfl,J⟩)
   ·have ha':=Qde g d n 0 n.2.2.1 a I
    rcases Qn.1 H with H|H
    ·rw[ltE,out b H]
     exact .inl (.inr ⟨ha'.1,by show a.1.2<2;omega⟩)
    ·exact later a ha'.1 b H
theorem Qer (g:List Nd)(d:List Int): ∀(i:Nat) (l:List Nd),g.length≤100→(∀n∈g,n.2.2.1.length≤2)→(∀n∈l,n.2.2.1.length≤2)→(edgesF g d i l).length≤300*l.length
 |_,[],_,_,_=>Xq _
 |i,n::r,J,H,I=>by
  have O:=Qer g d (i+1) r J H fun m N=>I m (Qe _ N)
  have W:=I n (Qg ..)
  have Y:=Qay n.1 g H
  unfold edgesF
  rw[Qi]
  split
  ·omega
  ·rw[Ql,Ql,Qgm,outE,Qw];omega
theorem Qfg (g:List Nd)(done:List Bool): ∀(r:List Nd) (i:Nat) (a:Int),0≤Qad g done i r a→(0≤a∧Qad g done i r a=a)∨(∃j:Nat,Qad g done i r a=(j:Int)∧j<i+r.length∧bget done (j:Int)=false)
 | [],i,a,h=>.inl ⟨h,rfl⟩
 |x::r,i,a,h=>by
  unfold Qad at h ⊢
  rcases Qfg g done r (i+1) _ h with⟨I,H⟩|⟨j,I,H,N⟩
  ·by_cases J:(a<0∧bget done i=false)∧ready g done x=true
   ·rw[if_pos J]at H ⊢
    exact .inr ⟨i,H,by simp only[Qi];omega,J.1.2⟩
   ·rw[if_neg J]at I H ⊢
    exact .inl ⟨I,H⟩
  ·exact .inr ⟨j,I,by simp only[Qi];omega,N⟩
theorem Qge (l:List Bool)(j k:Nat)(H:j<l.length):bget (l.set j true) (k:Int)=if j=k then true else bget l (k:Int):=by
 unfold bget
 rw[Qs,Ja]
 by_cases h:j=k
 ·subst h;simp[H]
 ·rw[if_neg h,if_neg h]
theorem Qed (g:List Nd): ∀(r:Nat) (done:List Bool) (acc l:List Int),Qaq g r done acc=some l→done.length=g.length→acc.Nodup→(∀p∈acc,∃j:Nat,p=(j:Int)∧bget done (j:Int)=true)→l.Nodup
 |0,done,acc,l,h,_,H,_=>by unfold Qaq at h;injection h with h;subst h;exact H
 |r+1,done,acc,l,h,Y,H,J=>by
  unfold Qaq at h
  split at h
  ·cases h
  ·rename_i h0
   rcases Qfg g done g 0 (-1) (by omega)with⟨N,_⟩|⟨j,N,h2,O⟩
   ·omega
   ·rw[N,Qs]at h
    refine Qed g r _ _ l h (by rw[W5];exact Y) ?_ fun p hp=>?_
    ·rw[Wz]
     refine⟨H,by simp,fun a ha' b W=>?_⟩
     rw[Qj]at W
     obtain⟨i,e,I⟩:=J a ha'
     intro e2
     rw[e,W]at e2
     have:i=j:=by omega
     subst this
     rw[I]at O;cases O
    ·rcases Qn.1 hp with hp|hp
     ·obtain⟨i,e,I⟩:=J p hp
      exact⟨i,e,by rw[Qge _ _ _ (by omega)];split<;>first|rfl|exact I⟩
     ·rw[Qj]at hp
      exact⟨j,hp,by rw[Qge _ _ _ (by omega),if_pos rfl]⟩
theorem Whole.all {g:List Nd}{l d:List Int}{dm:List (Int×Int)}(W:Whole g l d dm){j:Nat}(I:j<g.length):(j:Int)∈l:=by
 have J:=Qed g _ _ [] l W.ord (by simp) (by simp) (by simp)
 by_cases h:(j:Int)∈l
 ·exact h
 ·exfalso
  have N:=nodup_len (l:=(j:Int)::l) (m:=(List.range g.length).map Int.ofNat) (Wm.2 ⟨h,J⟩) fun x H=>by
   rcases Qk.1 H with rfl|H
   ·exact Qv.2 ⟨j,Xj.2 I,rfl⟩
   ·obtain⟨i,O,e⟩:=Xh H
    obtain⟨k,n,e2,hk⟩:=W.plc i x (by rw[Qd O,e])
    exact Qv.2 ⟨k,Xj.2 (Qc.1 hk).1,e2.symm⟩
  rw[Qi,Qw,X2,W.llen]at N
  omega
theorem o_a6 (g:List Nd)(done:List Bool): ∀(r k:Nat) (a:Int),k+r=g.length→0≤Qad g done k (g.drop k) a→(0≤a∧Qad g done k (g.drop k) a=a)∨∃(j:Nat) (n:Nd),Qad g done k (g.drop k) a=(j:Int)∧g[j]?=some n∧bget done (j:Int)=false∧ready g done n=true
 |0,k,a,hk,h=>by rw[Q2 (by omega)]at h ⊢;exact .inl ⟨h,rfl⟩
 |r+1,k,a,hk,h=>by
  have N:g[k]?=some g[k]:=Qd (by omega)
  rw[firstF_x N]at h ⊢
  rcases o_a6 g done r (k+1) _ (by omega) h with⟨H,I⟩|H
  ·by_cases J:(a<0∧bget done k=false)∧ready g done g[k]=true
   ·rw[if_pos J]at I ⊢;exact .inr ⟨k,g[k],I,N,J.1.2,J.2⟩
   ·rw[if_neg J]at H I ⊢;exact .inl ⟨H,I⟩
  ·exact .inr H
theorem Qeq (g:List Nd)(done:List Bool)(kd:Int): ∀l:List Int,Qei g done kd l=true↔(kd≠14→∀k∈l,bget done (idx g k)=true)
 | []=>⟨fun _ _ k hk=>(by cases hk),fun _=>rfl⟩
 |k::r=>by
  unfold Qei
  by_cases h:kd≠14∧bget done (idx g k)=false
  ·rw[if_pos h]
   refine⟨fun h=>(by cases h),fun H=>?_⟩
   have:=H h.1 k (Qg ..)
   rw[h.2]at this;cases this
  ·rw[if_neg h,Qeq g done kd r]
   refine⟨fun H J x I=>?_,fun H J x I=>H J x (Qe _ I)⟩
   rcases Qk.1 I with rfl|I
   ·cases N:bget done (idx g x)with
    |true=>rfl
    |false=>exact absurd ⟨J,N⟩ h
   ·exact H J x I
def OrdOk (g:List Nd)(l:List Int):Prop:=∀(i:Nat) (p:Int),l[i]?=some p→∃(j:Nat) (n:Nd),p=(j:Int)∧g[j]?=some n∧(n.2.1≠14→∀k∈n.2.2.1,idx g k∈l.take i)
structure Syn (g:List Nd) (done:List Bool) (l:List Int):Prop where
 len:done.length=g.length
 nod:l.Nodup
 syn: ∀j:Nat,j<g.length→(bget done (j:Int)=true↔(j:Int)∈l)
 ord:OrdOk g l
theorem Syn.zero (g:List Nd):Syn g (List.replicate g.length false) []:=by
 refine⟨by simp,X6,fun j H=>?_,fun i p h=>by cases h⟩
 unfold bget
 rw[Qs,Xc,if_pos H];simp
theorem Syn.step {g:List Nd}{done:List Bool}{l:List Int}(h:Syn g done l)(hf:Fed g){j:Nat}{n:Nd}(O:g[j]?=some n)(hb:bget done (j:Int)=false)(hr:ready g done n=true):Syn g (done.set j true) (l++[(j:Int)]):=by
 have hj:=(Qc.1 O).1
 have W:(j:Int)∉l:=fun hm=>by rw[(h.syn j hj).2 hm]at hb;cases hb
 refine⟨by rw[W5];exact h.len,?_,fun i hi=>?_,fun i p hp=>?_⟩
 ·rw[Wz]
  refine⟨h.nod,by simp,fun a ha b J=>?_⟩
  rw[Qj]at J
  intro e;rw[e,J]at ha;exact W ha
 ·rw[Qge _ _ _ (by rw[h.len];exact hj),Qn,Qj]
  by_cases e:j=i
  ·subst e;simp
  ·rw[if_neg e,h.syn i hi]
   exact⟨.inl,fun Y=>Y.elim (fun I=>I) (fun I=>absurd I (by omega))⟩
 ·by_cases hil:i<l.length
  ·rw[Q7 hil]at hp
   obtain⟨k,m,e1,e2,e3⟩:=h.ord i p hp
   refine⟨k,m,e1,e2,fun H x N=>?_⟩
   rw[X0 (by omega)];exact e3 H x N
  ·have hi2:i=l.length:=by
    have:=(Qc.1 hp).1
    simp only[Ql,Qi,Qx]at this;omega
   subst hi2
   rw[We (Q1 _),Nat.sub_self]at hp
   injection hp with hp
   refine⟨j,n,hp.symm,O,fun H x N=>?_⟩
   rw[List.take_left]
   have h0:=hf n (Qf O) x N
   obtain⟨m,e1,_,_⟩:=idx_get h0
   have Y:=(Qeq g done n.2.1 n.2.2.1).1 hr H x N
   have I:=(h.syn _ (Qc.1 e1).1)
   rw[Ww h0]at I
   exact I.1 Y
theorem Qic (g:List Nd)(H:Fed g): ∀(r:Nat) (done:List Bool) (l l':List Int),Syn g done l→Qaq g r done l=some l'→∃done',Syn g done' l'
 |0,done,l,l',h,e=>by unfold Qaq at e;injection e with e;subst e;exact⟨done,h⟩
 |r+1,done,l,l',h,e=>by
  unfold Qaq at e
  split at e
  ·cases e
  ·rename_i W
   have hk:=o_a6 g done g.length 0 (-1) (by omega) (by rw[Wa];omega)
   rw[Wa]at hk
   rcases hk with⟨I,_⟩|⟨j,n,I,J,N,O⟩
   ·omega
   ·rw[I,Qs]at e
    exact Qic g H r _ _ l' (h.step H J N O) e
theorem Whole.syn {g:List Nd}{l d:List Int}{dm:List (Int×Int)}(W:Whole g l d dm): ∃done,Syn g done l:=Qic g W.fed _ _ _ l (Syn.zero g) W.ord
def dOf (g:List Nd)(d:List Int)(k:Int):Int:=iget d (idx g k)
theorem depthOf_14 {n:Nd}(h:n.2.1=14)(a b:List Int):depthOf n a=depthOf n b:=by unfold depthOf Qct;rw[if_pos h,if_pos h]
theorem inc_idx {g:List Nd}(H:Inc g){j:Nat}{n:Nd}(I:g[j]?=some n):idx g n.1=(j:Int):=H.idx I
theorem Qfo (d:List Int)(j k:Nat)(v:Int)(H:j<d.length):iget (d.set j v) (k:Int)=if j=k then v else iget d (k:Int):=by
 unfold iget
 rw[Qs,Ja]
 by_cases h:j=k
 ·subst h;simp[H]
 ·rw[if_neg h,if_neg h]
theorem at_nat {g:List Nd}{j:Nat}{n:Nd}(H:g[j]?=some n):at_ g (j:Int)=n:=Qav rfl H
theorem Qfd {g:List Nd}{l:List Int}(hf:Fed g)(ho:OrdOk g l)(N:l.Nodup): ∀(r k:Nat) (d d':List Int),k+r=l.length→d.length=g.length→Qak g (l.drop k) d=some d'→d'.length=g.length∧(∀j:Nat,(j:Int)∈l.take k→iget d' (j:Int)=iget d (j:Int))∧∀(i:Nat) (j:Nat) (n:Nd),k≤i→l[i]?=some (j:Int)→g[j]?=some n→iget d' (j:Int)=depthOf n (n.2.2.1.map (dOf g d'))∧0≤iget d' (j:Int)
 |0,k,d,d',hk,hd,h=>by
  rw[Q2 (by omega)]at h
  injection h with h;subst h
  exact⟨hd,fun j _=>rfl,fun i j n hi I _=>by have:=(Qc.1 I).1;omega⟩
 |r+1,k,d,d',hk,hd,h=>by
  have J:l[k]?=some l[k]:=Qd (by omega)
  obtain⟨j,n,e1,hn,hin⟩:=ho k _ J
  have hj:=(Qc.1 hn).1
  rw[depthsF_x (n:=n) J (by rw[e1];exact at_nat hn)]at h
  split at h
  ·cases h
  rename_i h0
  rw[e1,Qs]at h
  obtain⟨a1,a2,a3⟩:=Qfd hf ho N r (k+1) _ d' (by omega) (by rw[W5];exact hd) h
  have O:(j:Int)∈l.take (k+1):=by rw[Qcw J,e1];simp
  have hjk:(j:Int)∉l.take k:=fun hm=>by
   have h3:=N
   rw[←Xg k l,Wz]at h3
   refine h3.2.2 _ hm (j:Int) ?_ rfl
   rw[A.dropx J,e1];simp
  have keep: ∀i:Nat,(i:Int)∈l.take k→iget d' (i:Int)=iget d (i:Int):=fun i hi=>by
   rw[a2 i (by rw[Qcw J];exact Q6 _ hi),Qfo _ _ _ _ (by omega),if_neg (fun e=>hjk (by rw[e];exact hi))]
  have hjv:iget d' (j:Int)=depthOf n (n.2.2.1.map (dOf g d')):=by
   rw[a2 j O,Qfo _ _ _ _ (by omega),if_pos rfl]
   by_cases W:n.2.1=14
   ·exact depthOf_14 W _ _
   ·congr 1
    refine List.map_congr_left fun x Y=>?_
    have h4:=hin W x Y
    have h5:=hf n (Qf hn) x Y
    unfold dOf
    have h6:=keep (idx g x).toNat
    rw[Ww h5]at h6
    exact(h6 h4).symm
  have hj0:0≤iget d' (j:Int):=by
   rw[a2 j O,Qfo _ _ _ _ (by omega),if_pos rfl];omega
  refine⟨a1,keep,fun i j2 n2 hi I H=>?_⟩
  by_cases hik:i=k
  ·subst hik
   rw[J,e1]at I;injection I with I
   have:j=j2:=by omega
   subst this
   rw[hn]at H;injection H with H;subst H
   exact⟨hjv,hj0⟩
  ·exact a3 i j2 n2 (by omega) I H
theorem Whole.fix {g:List Nd}{l d:List Int}{dm:List (Int×Int)}(W:Whole g l d dm){n:Nd}(J:n∈g):dOf g d n.1=depthOf n (n.2.2.1.map (dOf g d))∧0≤dOf g d n.1:=by
 obtain⟨done,S⟩:=W.syn
 obtain⟨j,H,e⟩:=Xh J
 have I:g[j]?=some n:=by rw[Qd H,e]
 obtain⟨i,N,e2⟩:=Xh (W.all H)
 have h:=Qfd W.fed S.ord S.nod l.length 0 (List.replicate g.length 0) d (by omega) (by simp) (by rw[Wa];exact W.dep)
 have:=h.2.2 i j n (Xq _) (by rw[Qd N,e2]) I
 unfold dOf
 rw[inc_idx W.inc I];exact this
end Go.Proofs.YtlbnpmfggfbdoaaGreatDoor
end
