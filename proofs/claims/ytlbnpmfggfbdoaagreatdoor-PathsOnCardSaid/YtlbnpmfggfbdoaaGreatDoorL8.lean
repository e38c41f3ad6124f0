/- The law 'PathsOn' as it is given: whatever the input, the call returns true, and each argument reads behind it as it read before. No condition but that utf8's two tables hold what the library's text lays, which the card ties. -/
import Derived.Test.YtlbnpmfggfbdoaaGreatDoorL7
import Derived.Test.YtlbnpmfggfbdoaaGreatDoorL0
import Derived.OpenShut
import Derived.ShutString
import Derived.ChangeOld
import Derived.ChangeArms
import Derived.DataReads
import Derived.Test.YtlbnpmfggfbdoaaGreatDoorRows
import Derived.Test.YtlbnpmfggfbdoaaGreatDoorTie
import Derived.Test.YtlbnpmfggfbdoaaGreatDoorCards
import Derived.Test.YtlbnpmfggfbdoaaGreatDoorL6
import Derived.WalkKit
import Derived.ProofKit
import Derived.Below
import Derived.LaidMore
import Derived.Stop.Joined
import Derived.SevenTiedAt
import Derived.Lib.LaidIn
import Derived.Lib.LaidU8T
import Derived.PinnedBridge
import Derived.SizedLaws
set_option linter.unusedVariables false
set_option linter.unusedSimpArgs false
set_option synthInstance.maxSize 1000000
set_option synthInstance.maxHeartbeats 400000
set_option linter.unusedSectionVars false
section
namespace Go.Proofs.YtlbnpmfggfbdoaaGreatDoor
open Go.RowKit Go.Graph
theorem Qcc (g:List Nd)(d:List Int)(id:Int): ∀(k:Nat) (l:List Int) (sp:Sp),sp∈insS g d id k l→sp.1.1=id∧(k:Int)≤sp.1.2∧sp.1.2<(k:Int)+l.length
 |_,[],sp,h=>by cases h
 |k,y::r,sp,h=>by
  unfold insS at h
  rcases Qk.1 h with rfl|h
  ·refine⟨rfl,Xa _,?_⟩
   rw[Qh];show(k:Int)<_;omega
  ·have:=Qcc g d id (k+1) r sp h
   rw[Qh]
   exact⟨this.1,by omega,by omega⟩
theorem insS_od (g:List Nd)(d:List Int)(id:Int): ∀(k:Nat) (l:List Int),(insS g d id k l).Pairwise fun a b=>ltP a.1 b.1
 |_,[]=>List.Pairwise.nil
 |k,y::r=>by
  unfold insS
  refine W5.2 ⟨fun sp h=>.inr ?_,insS_od g d id (k+1) r⟩
  have:=Qcc g d id (k+1) r sp h
  exact⟨this.1.symm,by show(k:Int)<sp.1.2;omega⟩
theorem Qbx {g:List Nd}(d:List Int): ∀(i:Nat) (l:List Nd),(∀n∈l,n.2.2.1.length≤2)→∀sp∈spotsF g d i l,∃n∈l,sp.1.1=n.1∧0≤sp.1.2∧sp.1.2≤2
 |_,[],_,sp,h=>by cases h
 |i,n::r,H,sp,h=>by
  have Y:=H n (Qf ..)
  unfold spotsF at h
  rcases Qn.1 h with h|h
  ·have:=Qcc g d n.1 0 n.2.2.1 sp h
   exact⟨n,Qf ..,this.1,by omega,by omega⟩
  ·rcases Qn.1 h with h|h
   ·unfold outS at h
    split at h
    ·rw[Qj]at h
     subst h
     exact⟨n,Qf ..,rfl,by show(0:Int)≤2;omega,by show(2:Int)≤2;omega⟩
    ·cases h
   ·obtain⟨m,I,J⟩:=Qbx d (i+1) r (fun m O=>H m (Qe _ O)) sp h
    exact⟨m,Qe _ I,J⟩
theorem Qhv {g:List Nd}(d:List Int): ∀(i:Nat) (l:List Nd),Inc l→(∀n∈l,n.2.2.1.length≤2)→(spotsF g d i l).Pairwise fun a b=>ltP a.1 b.1
 |_,[],_,_=>List.Pairwise.nil
 |i,n::r,h,J=>by
  have h':=W5.1 h
  have h2r:=fun m O=>J m (Qe n O)
  have hn:=J n (Qf ..)
  have later: ∀a:Sp,a.1.1=n.1→∀b∈spotsF g d (i+1) r,ltP a.1 b.1:=fun a I b H=>by
   obtain⟨m,Y,h4,_⟩:=Qbx d (i+1) r h2r b H
   exact .inl (by rw[I,h4];exact h'.1 m Y)
  have out: ∀b∈outS n (iget d (i:Int)),b.1=(n.1,2):=fun b H=>by
   unfold outS at H
   split at H
   ·rw[Qj]at H;subst H;rfl
   ·cases H
  unfold spotsF
  refine Y2.2 ⟨insS_od g d n.1 0 n.2.2.1,Y2.2 ⟨?_,Qhv d (i+1) r h'.2 h2r,fun a I b H=>later a (by rw[out a I]) b H⟩,fun a I b H=>?_⟩
  ·unfold outS
   split
   ·exact Ym ..
   ·exact List.Pairwise.nil
  ·have ha':=Qcc g d n.1 0 n.2.2.1 a I
   rcases Qn.1 H with H|H
   ·rw[out b H];exact .inr ⟨ha'.1,by show a.1.2<2;omega⟩
   ·exact later a ha'.1 b H
theorem CloneS (l:List Sm)(H:l.length≤1000000000):F.an l=some l:=by
 unfold F.an
 simp[A.gd]
 try omega
section
variable {g:List Nd}{l d:List Int}{dm:List (Int×Int)}(W:Whole g l d dm)
def rowMax:Nat:=66^4
include W
theorem row_len {T:Pl→Pl→List Sm}(I:Pth.Inv (EN g d) (i0N g d) ctr ltS (GN g d) T){p q:Pl}{y:Int}(hq:(q,y)∈spots g d):(T p q).length≤rowMax:=by
 have H:=I.len (netN W) (syN W) p q
 have h2:=lps32 W
 have J:=dp4 W hq
 have O:dpN g d q≤4:=by unfold dpN;rw[J.1];omega
 have Y:2*((lpsN g).length+1)≤66:=by omega
 exact Wk H (Wk (Nat.pow_le_pow_left Y _) (Nat.pow_le_pow_right (show 0<66 by decide) O))
theorem then_eq {e:Ed}(he:e∈edges g d){p:Pl}(l:List Sm)(hl:l.length≤1000000000)(hG: ∀s∈l,GN g d p e.1 s):F.dZ l e.2.2=some (l.filterMap (thnN g d (eNt e))):=by
 have:=A.lp l (fun f (xs:List Sm) z=>F.bJ l e.2.2 f xs z) (fun k t xs=>some (xs++t.filterMap (thnN g d (eNt e)))) (fun k xs=>xs.length≤k)
  (fun f xs H=>by rw[F.bJ,if_neg (by omega),List.filterMap_nil,Wm])
  (fun f xs k s O hk H Y=>by
   rw[F.bJ,if_pos (by omega),A.ixn O,Qb,List.filterMap_cons]
   unfold F.dv
   rcases Qht W he (hG s (Qg O))with⟨m,I,J,_⟩|⟨I,z,J,_⟩
   ·rw[show F.bS (_,_,_,_,(_,_,_,_)) (_,_,_,_,(_,_,_,_))=_ from J,Qb,if_pos rfl,A.gd1 (by rw[Yw];omega),A.gd1 (A.r64n (by omega)),I,Y _ (by rw[Qm,Yw];omega),Wf]
    rfl
   ·rw[show F.bS (_,_,_,_,(_,_,_,_)) (_,_,_,_,(_,_,_,_))=_ from J,Qb,if_neg (show(12:Int)≠0 by decide),A.gd1 (A.r64n (by omega)),I,Y _ (by omega)])
  (by have:=Qab;omega) [] (by simp)
 exact this
end
def tbl (m:Tab0):Pl→Pl→List Sm:=fun p q=>Z.mget [] m (p,q)
theorem Qcs (m:Tab0)(p q:Pl)(r:List Sm):tbl (Z.mins m (p,q) r)=Pth.put (tbl m) p q r:=by
 funext p' q'
 unfold tbl Pth.put
 rw[Ut]
 by_cases h:p'=p∧q'=q
 ·rw[if_pos h,if_pos (by rw[h.1,h.2])]
 ·rw[if_neg h,if_neg (fun e=>h ⟨congrArg Prod.fst e,congrArg Prod.snd e⟩)]
theorem add_eq {x y:Int}(m:Tab0)(p q:Pl)(more:List Sm)(hl:(tbl m p q).length≤100000000)(I:more.length≤100000000)(J: ∀s∈tbl m p q++more,GS x y s): ∃r,Pth.IsLst ctr ltS (tbl m p q++more) r∧
  F.aC m (p,q) more=some (if tbl m p q=r then(false,m)else(true,Z.mins m (p,q) r)):=by
 obtain⟨r,O,Y⟩:=Least_P (tbl m p q++more) (by rw[Qm];omega) J
 refine⟨r,Y,?_⟩
 unfold F.aC
 show((F.an (tbl m p q)).bind fun H=>(A.gd ((List.length (α:=Sm) H+List.length (α:=Sm) more)*64≤140737488355328) ((F.dY (H++more)).bind fun r14=>(if r14.2≠0 then(F.bo m (p,q) r14 true)else((F.aS (tbl m p q) r14.1).bind fun r20=>(F.bo m (p,q) r14 r20))))))=_
 rw[CloneS _ (by omega),Qb,A.gd1 (by omega),O,Qb,if_neg (fun h=>h rfl),EqualS _ _ (by omega),Qb]
 unfold F.bo
 by_cases h:tbl m p q=r
 ·rw[decide_eq_true h,if_pos rfl,if_pos h]
 ·rw[decide_eq_false h,if_neg (by decide),if_neg h]
def Cl (g:List Nd)(d:List Int)(T:Pl→Pl→List Sm)(p:Pl)(e:Ed):Prop:=∀u∈T p e.1,∀v,thnN g d (eNt e) u=some v→∃w∈T p e.2.1,Pth.le (ctr w) (ctr v)
structure MI (g:List Nd) (d:List Int) (m:Tab0):Prop where
 inv:Pth.Inv (EN g d) (i0N g d) ctr ltS (GN g d) (tbl m)
 nd:(m.map Prod.fst).Nodup
 ne: ∀x∈m,x.2≠[]
 ks: ∀x∈m,(∃a,(x.1.1,a)∈spots g d)∧∃b,(x.1.2,b)∈spots g d
def prs (g:List Nd)(d:List Int):List (Pl×Pl):=(spots g d).flatMap fun s=>(spots g d).map fun t=>(s.1,t.1)
theorem prs_mem {g:List Nd}{d:List Int}{p q:Pl}{a b:Int}(hp:(p,a)∈spots g d)(hq:(q,b)∈spots g d):(p,q)∈prs g d:=Xk.2 ⟨_,hp,Qv.2 ⟨_,hq,rfl⟩⟩
abbrev muN (g:List Nd) (d:List Int) (P:List (Pl×Pl)) (T:Pl→Pl→List Sm):Nat:=Pth.mu (dpN g d) ctr (lpsN g).length P T
section
variable {g:List Nd}{l d:List Int}{dm:List (Int×Int)}(W:Whole g l d dm)
theorem tbl_mem {m:Tab0}{p q:Pl}(h:tbl m p q≠[]):((p,q),tbl m p q)∈m:=by
 refine Z.mget_mem ?_
 cases H:Z.mhas m (p,q)with
 |true=>rfl
 |false=>exact absurd (Z.mget_none H) h
theorem MI.ins {m:Tab0}(M:MI g d m){p q:Pl}{a b:Int}(hp:(p,a)∈spots g d)(hq:(q,b)∈spots g d){r:List Sm}(Y:r≠[])(hI:Pth.Inv (EN g d) (i0N g d) ctr ltS (GN g d) (Pth.put (tbl m) p q r)):MI g d (Z.mins m (p,q) r):=by
 refine⟨by rw[Qcs];exact hI,Z.mins_nodup M.nd _ _,fun z J=>?_,fun z J=>?_⟩
 all_goals have H:z.1∈(Z.mins m (p,q) r).map Prod.fst:=Qv.2 ⟨z,J,rfl⟩
 all_goals rw[Z.mins_keys]at H
 ·obtain⟨i,hi⟩:=Xo J
  have I:=(Z.mget_get (z:=[]) (Z.mins_nodup M.nd (p,q) r) hi).1
  rw[Ut]at I
  split at I
  ·rw[←I];exact Y
  ·rename_i hk
   have O:z.1∈m.map Prod.fst:=by
    split at H
    ·exact H
    ·rcases Qn.1 H with H|H
     ·exact H
     ·exact absurd (Qj.1 H) hk
   rw[←I]
   have h6:=Z.mget_mem (z:=[]) ((Z.mhas_iff m z.1).2 O)
   exact M.ne _ h6
 ·have old:z.1∈m.map Prod.fst→(∃a,(z.1.1,a)∈spots g d)∧∃b,(z.1.2,b)∈spots g d:=fun O=>by
   obtain⟨z',hz',h6⟩:=Qv.1 O
   have:=M.ks z' hz'
   rw[h6]at this;exact this
  split at H
  ·exact old H
  ·rcases Qn.1 H with H|H
   ·exact old H
   ·rw[Qj.1 H];exact⟨⟨a,hp⟩,⟨b,hq⟩⟩
include W
theorem step_eq {m:Tab0}(M:MI g d m){p:Pl}{a:Int}(hp:(p,a)∈spots g d){e:Ed}(he:e∈edges g d)(h0:tbl m p e.1≠[]):
  ∃b m',((F.dZ (tbl m p e.1) e.2.2).bind fun r70=>F.aC m (p,e.2.1) r70)=some (b,m')∧((b=false∧m'=m∧Cl g d (tbl m) p e)∨(b=true∧MI g d m'∧Pth.Cv ctr (tbl m) (tbl m')∧muN g d (prs g d) (tbl m')<muN g d (prs g d) (tbl m))):=by
 have F':=Qao W he
 obtain⟨⟨x,hx⟩,⟨y,hy⟩⟩:=F'.ends
 have l1:=row_len W M.inv (p:=p) hx
 have l2:=row_len W M.inv (p:=p) hy
 unfold rowMax at l1 l2
 have gd:=fun s (H:s∈tbl m p e.1)=>M.inv.good p e.1 s H
 have hm: ∀v∈(tbl m p e.1).filterMap (thnN g d (eNt e)),∃s,Pth.Good (EN g d) (i0N g d) ctr (GN g d) (tbl m) p e.1 s∧thnN g d (eNt e) s=some v:=fun v I=>by
  obtain⟨s,H,O⟩:=Yv.1 I
  exact⟨s,gd s H,O⟩
 have hE:eNt e∈EN g d:=Qv.2 ⟨e,he,rfl⟩
 obtain⟨r,O,h2⟩:=add_eq m p e.2.1 ((tbl m p e.1).filterMap (thnN g d (eNt e))) (by omega) (Wk (List.length_filterMap_le _ _) (by omega)) fun s H=>by
  rcases Qn.1 H with H|H
  ·exact(M.inv.good p e.2.1 s H).1
  ·obtain⟨u,hu,h3⟩:=hm s H
   exact((syN W).some hE hu.1 h3).1
 have A':=M.inv.add (netN W) (syN W) (p:=p) hE hm O
 rw[then_eq W he (tbl m p e.1) (by omega) fun s H=>(gd s H).1,Qb,h2]
 by_cases Y:tbl m p e.2.1=r
 ·rw[if_pos Y]
  refine⟨_,_,rfl,.inl ⟨rfl,rfl,fun u hu v I=>?_⟩⟩
  have:=A'.2.2.1 v (Yv.2 ⟨u,hu,I⟩)
  rw[←Y]at this;exact this
 ·rw[if_neg Y]
  have J:r≠tbl m p e.2.1:=fun h=>Y h.symm
  have hrne:r≠[]:=fun h=>by
   obtain⟨v,I,_⟩:=A'.2.2.2 J
   obtain⟨w,hw,_⟩:=A'.2.2.1 v I
   rw[h]at hw;cases hw
  refine⟨_,_,rfl,.inr ⟨rfl,M.ins hp hy hrne A'.1,?_,?_⟩⟩
  ·rw[Qcs];exact A'.2.1
  ·rw[Qcs];exact M.inv.add_lt (netN W) (syN W) hE hm O (prs_mem hp hy) J
theorem table_l2 (k60:Tab0→Option (List Pth×Int))(k65:Tab0→Int→Option (List Pth×Int))(H:Int)(y:Nat)(hy:y≤1000000){s:Sp}(hs:s∈spots g d){m:Tab0}(M:MI g d m)(hE:(edges g d).length≤1000000): ∀(n k f:Nat),k+n=(edges g d).length→n<f→
  (∃m',MI g d m'∧Pth.Cv ctr (tbl m) (tbl m')∧muN g d (prs g d) (tbl m')<muN g d (prs g d) (tbl m)∧F.au k60 k65 (edges g d,H) (y:Int) s f m (k:Int)=k60 m')∨((∀e∈(edges g d).drop k,Cl g d (tbl m) s.1 e)∧F.au k60 k65 (edges g d,H) (y:Int) s f m (k:Int)=k65 m ((y:Int)+1)):=by
 intro n
 induction n with
 |zero=>
  intro k f hk hf
  obtain⟨f,rfl⟩: ∃f',f=f'+1:=⟨f-1,by omega⟩
  refine .inr ⟨fun e I=>(by rw[Q2 (by omega)]at I;cases I),?_⟩
  rw[F.au,if_neg (by show ¬(k:Int)<((edges g d).length:Int);omega),A.gd1 (A.r64n (by omega))]
 |succ n ih=>
  intro k f hk hf
  obtain⟨f,rfl⟩: ∃f',f=f'+1:=⟨f-1,by omega⟩
  obtain⟨x,O⟩: ∃x,(edges g d)[k]?=some x:=⟨_,Qd (by omega)⟩
  have Y:=Qg O
  have next:Cl g d (tbl m) s.1 x→(∃m',MI g d m'∧Pth.Cv ctr (tbl m) (tbl m')∧muN g d (prs g d) (tbl m')<muN g d (prs g d) (tbl m)∧F.au k60 k65 (edges g d,H) (y:Int) s f m ((k:Int)+1)=k60 m')∨((∀e∈(edges g d).drop k,Cl g d (tbl m) s.1 e)∧F.au k60 k65 (edges g d,H) (y:Int) s f m ((k:Int)+1)=k65 m ((y:Int)+1)):=fun hc=>by
   rcases ih (k+1) f (by omega) (by omega)with h|⟨h1,h2⟩
   ·exact .inl h
   ·refine .inr ⟨fun e I=>?_,h2⟩
    rw[A.dropx O]at I
    rcases Qk.1 I with rfl|I
    ·exact hc
    ·exact h1 e I
  have e:F.au k60 k65 (edges g d,H) (y:Int) s (f+1) m (k:Int)=(if(0:Int)<((tbl m s.1 x.1).length:Int)then(((F.dZ (tbl m s.1 x.1) x.2.2).bind fun r70=>F.aC m (s.1,x.2.1) r70).bind fun r74=>F.bT k60 (F.au k60 k65 (edges g d,H) (y:Int) s f) (k:Int) r74.2 r74.1)else F.bT k60 (F.au k60 k65 (edges g d,H) (y:Int) s f) (k:Int) m false):=by
   rw[F.au,if_pos (by show(k:Int)<((edges g d).length:Int);omega),show A.ix ((edges g d,H):List Ed×Int).1 (k:Int)=some x from A.ixn O,Qb,Option.bind_assoc];rfl
  rw[e]
  by_cases J:tbl m s.1 x.1=[]
  ·rw[J,if_neg (by simp)]
   unfold F.bT
   rw[if_neg (by decide),A.gd1 (A.r64n (by omega))]
   exact next fun u hu=>by rw[J]at hu;cases hu
  ·rw[if_pos (by have:=List.length_pos_iff.2 J;omega)]
   obtain⟨b,m',h1,h2⟩:=step_eq W M (p:=s.1) (a:=s.2) hs Y J
   rw[h1,Qb]
   unfold F.bT
   rcases h2 with⟨rfl,rfl,hc⟩|⟨rfl,M',hcv,hmu⟩
   ·rw[if_neg (show ¬(false:Bool)=true by decide),A.gd1 (A.r64n (by omega))];exact next hc
   ·rw[if_pos rfl];exact .inl ⟨m',M',hcv,hmu,rfl⟩
theorem table_l4 (k60:Tab0→Option (List Pth×Int))(H I:Int){m:Tab0}(M:MI g d m)(hE:(edges g d).length≤1000000)(hS:(spots g d).length≤1000000): ∀(n k f:Nat),k+n=(spots g d).length→n<f→
  (∃m',MI g d m'∧Pth.Cv ctr (tbl m) (tbl m')∧muN g d (prs g d) (tbl m')<muN g d (prs g d) (tbl m)∧F.o k60 (spots g d,I) (edges g d,H) f m (k:Int)=k60 m')∨((∀s∈(spots g d).drop k,∀e∈edges g d,Cl g d (tbl m) s.1 e)∧F.o k60 (spots g d,I) (edges g d,H) f m (k:Int)=F.aO m A.FU [] []):=by
 intro n
 induction n with
 |zero=>
  intro k f hk hf
  obtain⟨f,rfl⟩: ∃f',f=f'+1:=⟨f-1,by omega⟩
  refine .inr ⟨fun e he=>(by rw[Q2 (by omega)]at he;cases he),?_⟩
  rw[F.o,if_neg (by show ¬(k:Int)<((spots g d).length:Int);omega)]
 |succ n ih=>
  intro k f hk hf
  obtain⟨f,rfl⟩: ∃f',f=f'+1:=⟨f-1,by omega⟩
  obtain⟨s,Y⟩: ∃s,(spots g d)[k]?=some s:=⟨_,Qd (by omega)⟩
  rw[F.o,if_pos (by show(k:Int)<((spots g d).length:Int);omega),show A.ix ((spots g d,I):List Sp×Int).1 (k:Int)=some s from A.ixn Y,Qb]
  rcases table_l2 W k60 (F.o k60 (spots g d,I) (edges g d,H) f) H k (by omega) (Qg Y) M hE (edges g d).length 0 A.FU (by omega) (by have:=Qab;omega)with⟨m',J,h2,h3,h4⟩|⟨J,h2⟩
  ·exact .inl ⟨m',J,h2,h3,h4⟩
  ·rw[Wc]at J
   rw[show F.au k60 (F.o k60 (spots g d,I) (edges g d,H) f) (edges g d,H) (k:Int) s A.FU m 0=_ from h2]
   rcases ih (k+1) f (by omega) (by omega)with h|⟨h3,h4⟩
   ·exact .inl h
   ·refine .inr ⟨fun t O=>?_,h4⟩
    rw[A.dropx Y]at O
    rcases Qk.1 O with rfl|O
    ·exact J
    ·exact h3 t O
theorem table_l5 (J O:Int)(hE:(edges g d).length≤1000000)(hS:(spots g d).length≤1000000): ∀(n f:Nat) (m:Tab0),MI g d m→muN g d (prs g d) (tbl m)≤n→n<f→
  ∃m',MI g d m'∧Pth.Cv ctr (tbl m) (tbl m')∧(∀s∈spots g d,∀e∈edges g d,Cl g d (tbl m') s.1 e)∧F.z (spots g d,O) (edges g d,J) f m=F.aO m' A.FU [] []:=by
 intro n
 induction n with
 |zero=>
  intro f m M Y hf
  obtain⟨f,rfl⟩: ∃f',f=f'+1:=⟨f-1,by omega⟩
  rw[F.z]
  rcases table_l4 W (F.z (spots g d,O) (edges g d,J) f) J O M hE hS (spots g d).length 0 A.FU (by omega) (by have:=Qab;omega)with⟨m',H,I,h3,h4⟩|⟨H,I⟩
  ·omega
  ·exact⟨m,M,Pth.Cv.refl _,by rw[Wc]at H;exact H,I⟩
 |succ n ih=>
  intro f m M Y hf
  obtain⟨f,rfl⟩: ∃f',f=f'+1:=⟨f-1,by omega⟩
  rw[F.z]
  rcases table_l4 W (F.z (spots g d,O) (edges g d,J) f) J O M hE hS (spots g d).length 0 A.FU (by omega) (by have:=Qab;omega)with⟨m',H,I,h3,h4⟩|⟨H,I⟩
  ·obtain⟨m2,h5,h6,h7,h8⟩:=ih f m' H (by omega) (by omega)
   exact⟨m2,h5,I.trans (netN W) (syN W) (fun p q s hs=>(syN W).ok (M.inv.good p q s hs).1) (fun p q s hs=>(syN W).ok (h5.inv.good p q s hs).1) h6,h7,h4.trans h8⟩
  ·exact⟨m,M,Pth.Cv.refl _,by rw[Wc]at H;exact H,I⟩
end
theorem orF2 (a b:Int):orF [a,b]=if a≠0 then a else b:=by
 unfold orF
 by_cases h:a≠0
 ·rw[if_pos h,if_pos h]
 ·rw[if_neg h,if_neg h]
  unfold orF
  by_cases H:b≠0
  ·rw[if_pos H]
  ·rw[if_neg H];unfold orF;omega
theorem cmpI_iff (a b:Int):(cmpI a b<0↔a<b)∧(cmpI a b=0↔a=b):=by
 unfold cmpI
 split
 ·exact⟨⟨fun _=>by assumption,fun _=>by decide⟩,⟨fun h=>absurd h (by decide),fun h=>by omega⟩⟩
 ·(split)
  ·exact⟨⟨fun h=>absurd h (by decide),fun h=>by omega⟩,⟨fun h=>absurd h (by decide),fun h=>by omega⟩⟩
  ·exact⟨⟨fun h=>absurd h (by decide),fun h=>by omega⟩,⟨fun _=>by omega,fun _=>rfl⟩⟩
theorem cmpP_iff (p q:Pl):(cmpP p q<0↔ltP p q)∧(cmpP p q=0↔p=q):=by
 have J:=cmpI_iff p.1 q.1
 have O:=cmpI_iff p.2 q.2
 have e:p=q↔p.1=q.1∧p.2=q.2:=⟨fun h=>by rw[h];exact⟨rfl,rfl⟩,fun h=>Jv h.1 h.2⟩
 unfold cmpP ltP
 rw[orF2,e]
 by_cases h:cmpI p.1 q.1≠0
 ·rw[if_pos h]
  have I: ¬p.1=q.1:=fun H=>h (J.2.2 H)
  exact⟨⟨fun H=>.inl (J.1.1 H),fun H=>J.1.2 (H.resolve_right fun Y=>I Y.1)⟩,⟨fun H=>absurd H h,fun H=>absurd H.1 I⟩⟩
 ·rw[if_neg h]
  have I:p.1=q.1:=J.2.1 (Jp.1 h)
  exact⟨⟨fun H=>.inr ⟨I,O.1.1 H⟩,fun H=>O.1.2 (H.resolve_left (by omega)).2⟩,⟨fun H=>⟨I,O.2.1 H⟩,fun H=>O.2.2 H.2⟩⟩
def cK (x y:Pth):Int:=orF [cmpP x.1 y.1,cmpP x.2.1 y.2.1]
def ltK (x y:Pth):Prop:=ltP x.1 y.1∨x.1=y.1∧ltP x.2.1 y.2.1
theorem cK_iff (x y:Pth):(cK x y<0↔ltK x y)∧(cK x y=0↔x.1=y.1∧x.2.1=y.2.1):=by
 have J:=cmpP_iff x.1 y.1
 have O:=cmpP_iff x.2.1 y.2.1
 have irr: ∀p:Pl,¬ltP p p:=fun p h=>by rcases h with h|h<;>omega
 unfold cK ltK
 rw[orF2]
 by_cases h:cmpP x.1 y.1≠0
 ·rw[if_pos h]
  have I: ¬x.1=y.1:=fun H=>h (J.2.2 H)
  exact⟨⟨fun H=>.inl (J.1.1 H),fun H=>J.1.2 (H.resolve_right fun Y=>I Y.1)⟩,⟨fun H=>absurd H h,fun H=>absurd H.1 I⟩⟩
 ·rw[if_neg h]
  have I:x.1=y.1:=J.2.1 (Jp.1 h)
  exact⟨⟨fun H=>.inr ⟨I,O.1.1 H⟩,fun H=>O.1.2 (H.resolve_left (by rw[I];exact irr _)).2⟩,⟨fun H=>⟨I,O.2.1 H⟩,fun H=>O.2.2 H.2⟩⟩
theorem Qia (p q:Pl):F.dD p q=some (cmpP p q):=by
 unfold F.dD
 rw[Qdq,Qb,Qdq,Qb,Or_eq _ (by simp),Qb];rfl
theorem Qik (x y:Pth):F.aT x y=some (cK x y):=by
 unfold F.aT
 rw[Qia,Qb,Qia,Qb,Or_eq _ (by simp),Qb];rfl
theorem ltP_tr {p q r:Pl}(H:ltP p q)(I:ltP q r):ltP p r:=by
 rcases H with H|⟨H,J⟩<;>rcases I with I|⟨I,O⟩
 ·exact .inl (by omega)
 ·exact .inl (by omega)
 ·exact .inl (by omega)
 ·exact .inr ⟨by omega,by omega⟩
theorem ltP_no {p:Pl}: ¬ltP p p:=fun h=>by rcases h with h|h<;>omega
theorem ltP_tri {p q:Pl}(h:p≠q):ltP p q∨ltP q p:=by
 have I: ¬(p.1=q.1∧p.2=q.2):=fun H=>h (Jv H.1 H.2)
 unfold ltP;omega
theorem ltK_tr {x y z:Pth}(H:ltK x y)(I:ltK y z):ltK x z:=by
 rcases H with H|⟨H,J⟩<;>rcases I with I|⟨I,O⟩
 ·exact .inl (ltP_tr H I)
 ·exact .inl (by rw[←I];exact H)
 ·exact .inl (by rw[H];exact I)
 ·exact .inr ⟨by rw[H,I],ltP_tr J O⟩
theorem ltK_no {x:Pth}: ¬ltK x x:=fun h=>by
 rcases h with h|⟨_,h⟩
 ·exact ltP_no h
 ·exact ltP_no h
theorem ltK_tri {x y:Pth}(h: ¬(x.1=y.1∧x.2.1=y.2.1)):ltK x y∨ltK y x:=by
 by_cases I:x.1=y.1
 ·rcases ltP_tri (fun J=>h ⟨I,J⟩)with H|H
  ·exact .inl (.inr ⟨I,H⟩)
  ·exact .inr (.inr ⟨I.symm,H⟩)
 ·rcases ltP_tri I with H|H
  ·exact .inl (.inl H)
  ·exact .inr (.inl H)
abbrev rlK (a b:Pth):Bool:=decide (cK a b<0)
theorem Qbe (a b:Pth):rlK a b=true↔ltK a b:=(decide_eq_true_iff).trans (cK_iff a b).1
theorem ordK (xs:List Pth)(hk: ∀x∈xs,∀y∈xs,x.1=y.1→x.2.1=y.2.1→x=y):A.ordB (fun x y=>F.aT x y) xs=true∧A.cl0 (fun x y=>F.aT x y)=rlK∧A.OrdOn rlK xs:=by
 have e:A.cl0 (fun x y=>F.aT x y)=rlK:=by
  funext a b
  show(match F.aT a b with|some c=>decide (c<0)|none=>false)=_
  rw[Qik]
 have asy: ∀a b,rlK a b=true→rlK b a=false:=fun a b h=>by
  rw[Xx]
  exact fun H=>ltK_no (ltK_tr ((Qbe a b).1 h) ((Qbe b a).1 H))
 have tri: ∀a∈xs,∀b∈xs,rlK a b=false→rlK b a=false→a=b:=fun a ha b hb I H=>Q4 fun h=>by
  rcases ltK_tri (x:=a) (y:=b) (fun h3=>h (hk a ha b hb h3.1 h3.2))with J|J
  ·rw[(Qbe a b).2 J]at I;cases I
  ·rw[(Qbe b a).2 J]at H;cases H
 have tr: ∀a b c,rlK a b=true→rlK b c=true→rlK a c=true:=fun a b c I H=>(Qbe a c).2 (ltK_tr ((Qbe a b).1 I) ((Qbe b c).1 H))
 refine⟨?_,e,fun x _ y _ h=>asy x y h,fun x O y Y I H=>tri x O y Y I H,fun x _ y _ z _ I H=>tr x y z I H⟩
 unfold A.ordB
 rw[Qy]
 intro x O
 rw[Qy]
 intro y Y
 rw[e,Ql,Ql]
 refine⟨⟨by show(F.aT x y).isSome=true;rw[Qik];rfl,?_⟩,?_⟩
 ·cases I:rlK x y with
  |true=>rw[asy x y I];rfl
  |false=>
   cases H:rlK y x with
   |true=>rfl
   |false=>rw[decide_eq_true (tri x O y Y I H)];rfl
 ·rw[Qy]
  intro z hz
  cases I:rlK x y with
  |false=>rfl
  |true=>
   cases H:rlK y z with
   |false=>rfl
   |true=>rw[tr x y z I H];rfl
structure TT (g:List Nd) (d:List Int) (T:Pl→Pl→List Sm):Prop where
 inv:Pth.Inv (EN g d) (i0N g d) ctr ltS (GN g d) T
 tab:Pth.Tab (E:=EN g d) (i0:=i0N g d) fun p q=>(T p q).map ctr
 ini: ∀s∈spots g d,T s.1 s.1≠[]
 sp: ∀p q,T p q≠[]→(∃a,(p,a)∈spots g d)∧∃b,(q,b)∈spots g d
def tabL (g:List Nd)(d:List Int)(T:Pl→Pl→List Sm):List Pth:=(spots g d).flatMap fun s=>(spots g d).filterMap fun t=>if T s.1 t.1=[]then none else some (s.1,t.1,T s.1 t.1)
section
variable {g:List Nd}{l d:List Int}{dm:List (Int×Int)}(W:Whole g l d dm)
theorem Qci {T:Pl→Pl→List Sm}{x:Pth}:x∈tabL g d T↔(∃a,(x.1,a)∈spots g d)∧(∃b,(x.2.1,b)∈spots g d)∧T x.1 x.2.1≠[]∧x.2.2=T x.1 x.2.1:=by
 unfold tabL
 rw[Xk]
 constructor
 ·rintro⟨s,I,h⟩
  obtain⟨t,J,h⟩:=Yv.1 h
  split at h
  ·cases h
  ·rename_i H
   obtain rfl:=Qo h
   exact⟨⟨s.2,I⟩,⟨t.2,J⟩,H,rfl⟩
 ·rintro⟨⟨a,O⟩,⟨b,Y⟩,H,h2⟩
  refine⟨_,O,Yv.2 ⟨_,Y,?_⟩⟩
  rw[if_neg H,←h2]
include W
theorem spots_pw:(spots g d).Pairwise fun a b=>ltP a.1 b.1:=Qhv d 0 g W.inc fun n H=>in2 W.own H
theorem tabL_pw (T:Pl→Pl→List Sm):(tabL g d T).Pairwise ltK:=by
 have O:=spots_pw W
 unfold tabL
 rw[List.flatMap,List.pairwise_flatten]
 refine⟨fun r Y=>?_,Jb.2 (O.imp fun {a b} J x H y I=>?_)⟩
 ·obtain⟨s,_,rfl⟩:=Qv.1 Y
  refine List.Pairwise.filterMap _ (fun a b J x H y I=>?_) O
  split at H
  ·cases H
  ·split at I
   ·cases I
   ·obtain rfl:=Qo H
    obtain rfl:=Qo I
    exact .inr ⟨rfl,J⟩
 ·obtain⟨t,_,H⟩:=Yv.1 H
  obtain⟨u,_,I⟩:=Yv.1 I
  split at H
  ·cases H
  ·split at I
   ·cases I
   ·obtain rfl:=Qo H
    obtain rfl:=Qo I
    exact .inl J
theorem Qgs:(spots g d).length≤96:=by
 have H:=Qcf W.own d g.length 0 (by omega)
 rw[Wc]at H
 have:=W.l32
 unfold spots;omega
theorem tabL_len {T:Pl→Pl→List Sm}:(tabL g d T).length≤10000:=by
 have H:=Qgs W
 have I: ∀(r:List Sp),((r.flatMap fun s=>(spots g d).filterMap fun t=>if T s.1 t.1=[]then none else some (s.1,t.1,T s.1 t.1)):List Pth).length≤r.length*96:=by
  intro r
  induction r with
  |nil=>simp
  |cons s r J=>
   rw[List.flatMap_cons,Qm,Qh]
   have:=List.length_filterMap_le (fun t:Sp=>if T s.1 t.1=[]then none else some ((s.1,t.1,T s.1 t.1):Pth)) (spots g d)
   omega
 have:=I (spots g d)
 unfold tabL
 omega
theorem prs_len:(prs g d).length≤9216:=by
 have H:=Qgs W
 unfold prs
 rw[Pth.flat_len (k:=(spots g d).length) fun x _=>by rw[Qw]]
 exact Nat.mul_le_mul H H
theorem mu_fu (T:Pl→Pl→List Sm):muN g d (prs g d) T≤9216*66^4:=by
 have H:=Pth.mu_max (netN W) (syN W) (T:=T) (prs g d) fun x I=>by
  obtain⟨s,hs,h⟩:=Xk.1 I
  obtain⟨t,J,rfl⟩:=Qv.1 h
  have:=dp4 W (p:=t.1) (a:=t.2) J
  unfold dpN;rw[this.1];show t.2.toNat≤4;omega
 have O:=prs_len W
 have h3:=lps32 W
 have Y:2*((lpsN g).length+1)≤66:=by omega
 exact Wk H (Nat.mul_le_mul O (Nat.pow_le_pow_left Y 4))
omit W in
theorem isLst1 (s:Sm):Pth.IsLst ctr ltS [s] [s]:=by
 refine⟨Ym ..,fun u=>⟨fun h=>⟨h,fun x H I=>?_⟩,fun h=>h.1⟩⟩
 rw[Qj]at h H
 subst h;subst H
 exact Pth.less_irr linS _ I
theorem table_l6 (e0 e1:Int): ∀(n k f:Nat) (m:Tab0),k+n=(spots g d).length→n<f→MI g d m→(∀s∈(spots g d).take k,∃u∈tbl m s.1 s.1,Pth.le (ctr u) (i0N g d s.1))→(∀p q,tbl m p q≠[]→∃s∈(spots g d).take k,s.1=p)→
  ∃m',MI g d m'∧(∀s∈spots g d,∃u∈tbl m' s.1 s.1,Pth.le (ctr u) (i0N g d s.1))∧F.aP (spots g d,e1) (edges g d,e0) f m (k:Int)=F.z (spots g d,e1) (edges g d,e0) A.FU m':=by
 have h96:=Qgs W
 intro n
 induction n with
 |zero=>
  intro k f m hk hf M h1 h2
  obtain⟨f,rfl⟩: ∃f',f=f'+1:=⟨f-1,by omega⟩
  rw[Ws (by omega)]at h1
  refine⟨m,M,h1,?_⟩
  rw[F.aP,if_neg (by show ¬(k:Int)<((spots g d).length:Int);omega)]
 |succ n ih=>
  intro k f m hk hf M h1 h2
  obtain⟨f,rfl⟩: ∃f',f=f'+1:=⟨f-1,by omega⟩
  obtain⟨x,hx⟩: ∃x,(spots g d)[k]?=some x:=⟨_,Qd (by omega)⟩
  have J:=Qg hx
  obtain⟨i1,_,_,i4,i5⟩:=o_b1 W (p:=x.1) (x:=x.2) J
  have I: ∀q,tbl m x.1 q=[]:=fun q=>Q4 fun h=>by
   obtain⟨s,H,Y⟩:=h2 x.1 q h
   obtain⟨j,hj⟩:=Xo H
   rw[Xg]at hj
   split at hj
   ·rename_i hjk
    have h4:=X2.1 (spots_pw W) j k (by omega) (by omega) hjk
    obtain⟨_,e1⟩:=Qc.1 hj
    obtain⟨_,e2⟩:=Qc.1 hx
    rw[e1,e2,Y]at h4
    exact ltP_no h4
   ·cases hj
  have hG: ∀s∈tbl m x.1 x.1++[(idP x.2).1],GN g d x.1 x.1 s:=fun s H=>by
   rw[I,Wv,Qj]at H
   rw[H];exact i4
  obtain⟨r,Y,h4⟩:=add_eq m x.1 x.1 [(idP x.2).1] (by rw[I];simp) (by simp) hG
  rw[I,Wv]at Y
  obtain rfl:=Y.uniq linS (isLst1 _)
  rw[I,if_neg (fun h=>by cases h)]at h4
  have M':MI g d (Z.mins m (x.1,x.1) [(idP x.2).1]):=M.ins J J (fun h=>by cases h) (M.inv.first (netN W) (syN W) I i4 i5)
  have hself:tbl (Z.mins m (x.1,x.1) [(idP x.2).1]) x.1 x.1=[(idP x.2).1]:=by rw[Qcs,Pth.put_self]
  obtain⟨m',h5,h6,h7⟩:=ih (k+1) f _ (by omega) (by omega) M' (fun s H=>by
   rw[Xw,hx]at H
   by_cases O:s.1=x.1
   ·rw[O,hself]
    exact⟨_,Yd _,by rw[i5];exact Pth.le_refl _⟩
   ·rcases Qn.1 H with H|H
    ·obtain⟨u,hu,h⟩:=h1 s H
     refine⟨u,?_,h⟩
     rw[Qcs];unfold Pth.put;rw[if_neg (fun h=>O h.1)];exact hu
    ·rw[Jj,Qj]at H
     exact absurd (by rw[H]) O) (fun p q h=>by
   rw[Xw,hx]
   rw[Qcs]at h
   unfold Pth.put at h
   split at h
   ·rename_i hpq
    exact⟨x,Q9 _ (by rw[Jj];exact Yd _),hpq.1.symm⟩
   ·obtain⟨s,H,Y⟩:=h2 p q h
    exact⟨s,Q6 _ H,Y⟩)
  refine⟨m',h5,h6,?_⟩
  rw[F.aP,if_pos (by show(k:Int)<((spots g d).length:Int);omega),show A.ix ((spots g d,e1):List Sp×Int).1 (k:Int)=some x from A.ixn hx,Qb,i1,Qb,
   show F.aC m (x.1,x.1) _=_ from h4,Qb,A.gd1 (A.r64n (by omega))]
  exact h7
theorem table_P (hid: ∀n∈g,A.h6 n.1)(hE:(edges g d).length≤1000000)(h1:F.cm g=some (spots g d,0))(h2:F.cF g=some (edges g d,0)): ∃T,TT g d T∧F.a9 g=some (tabL g d T,0):=by
 have h96:=Qgs W
 have M0:MI g d []:=⟨⟨fun p q s I=>(by cases I),fun p q=>List.Pairwise.nil,fun p q s I=>(by cases I)⟩,X7,fun x O=>(by cases O),fun x O=>(by cases O)⟩
 obtain⟨m1,M1,i1,e1⟩:=table_l6 W 0 0 (spots g d).length 0 A.FU [] (by omega) (by have:=Qab;omega) M0 (fun s I=>by rw[List.take_zero]at I;cases I) (fun p q h=>absurd rfl h)
 obtain⟨m,M,hc,cl,e2⟩:=table_l5 W 0 0 hE (by omega) _ A.FU m1 M1 (Q0 _) (Nat.lt_of_le_of_lt (mu_fu W _) (by decide))
 have ini: ∀s∈spots g d,∃u∈tbl m s.1 s.1,Pth.le (ctr u) (i0N g d s.1):=fun s I=>by
  obtain⟨u,hu,J⟩:=i1 s I
  obtain⟨v,hv,Y⟩:=hc s.1 s.1 u hu
  exact⟨v,hv,Pth.le_trans ((syN W).ok (M.inv.good _ _ v hv).1) ((netN W).iok _) Y J⟩
 have sp: ∀p q,tbl m p q≠[]→(∃a,(p,a)∈spots g d)∧∃b,(q,b)∈spots g d:=fun p q h=>M.ks _ (tbl_mem h)
 have hT:TT g d (tbl m):=by
  refine⟨M.inv,M.inv.tab (netN W) (syN W) (fun p h=>?_) (fun p e he s I v hv=>?_),fun s I h=>?_,sp⟩
  ·obtain⟨q,hq⟩:=h
   obtain⟨a,H⟩:=(sp p q hq).1
   exact ini _ H
  ·obtain⟨e,hE2,rfl⟩:=Qv.1 he
   obtain⟨a,H⟩:=(sp p _ (List.ne_nil_of_mem I)).1
   exact cl _ H e hE2 s I v hv
  ·obtain⟨u,hu,_⟩:=ini s I
   rw[h]at hu;cases hu
 refine⟨tbl m,hT,?_⟩
 have hk: ∀x∈m,∀y∈m,x.1=y.1→x=y:=fun x O y hy h=>by
  obtain⟨i,hi⟩:=Xo O
  obtain⟨j,hj⟩:=Xo hy
  have a1:=(Z.mget_get (z:=[]) M.nd hi).1
  have a2:=(Z.mget_get (z:=[]) M.nd hj).1
  rw[h,a2]at a1
  exact Jv h a1.symm
 obtain⟨o1,o2,o3⟩:=ordK (m.map Qda) fun x O y hy J Y=>by
  obtain⟨a,H,rfl⟩:=Qv.1 O
  obtain⟨b,hb,rfl⟩:=Qv.1 hy
  rw[hk a H b hb (Jv J Y)]
 have hperm:(tabL g d (tbl m)).Perm (m.map Qda):=by
  have hn1:(tabL g d (tbl m)).Nodup:=List.Pairwise.imp (S:=fun a b=>a≠b) (fun {a b} h e=>ltK_no (x:=b) (by rw[e]at h;exact h)) (tabL_pw W (tbl m))
  refine(List.perm_ext_iff_of_nodup hn1 ?_).2 fun x=>?_
  ·refine Jb.2 (List.Pairwise.imp_of_mem (S:=fun a b=>Qda a≠Qda b) (fun {a b} H hb h e=>h ?_) (Jb.1 M.nd))
   have h5:a.1=b.1:=Jv (congrArg (fun z:Pth=>z.1) e) (congrArg (fun z:Pth=>z.2.1) e)
   exact h5
  ·rw[Qci,Qv]
   constructor
   ·rintro⟨_,_,J,Y⟩
    refine⟨_,tbl_mem J,?_⟩
    show(x.1,x.2.1,tbl m x.1 x.2.1)=x
    rw[←Y]
   ·rintro⟨a,H,rfl⟩
    obtain⟨i,hi⟩:=Xo H
    have a1:tbl m a.1.1 a.1.2=a.2:=(Z.mget_get (z:=[]) M.nd hi).1
    refine⟨(M.ks a H).1,(M.ks a H).2,?_,a1.symm⟩
    show tbl m a.1.1 a.1.2≠[]
    rw[a1];exact M.ne a H
 have hhas: ∀(p:Pl) (a:Int),(p,a)∈spots g d→A.h6 p.1∧A.h6 p.2:=fun p a h=>by
  obtain⟨n,hn,J,Y,h5⟩:=Qbx d 0 g (fun n hn=>in2 W.own hn) (p,a) h
  have J:p.1=n.1:=J
  have Y:0≤p.2:=Y
  have h5:p.2≤2:=h5
  refine⟨by rw[J];exact hid n hn,?_⟩
  exact⟨by show-9223372036854775808≤p.2;omega,by show p.2≤9223372036854775807;omega⟩
 have hend:=Qhx m (fun x O=>by
   obtain⟨⟨a,H⟩,⟨b,hb⟩⟩:=M.ks x O
   exact⟨(hhas _ _ H).1,(hhas _ _ H).2,(hhas _ _ hb).1,(hhas _ _ hb).2⟩) M.ne (by
   have J:=hperm.length_eq
   rw[Qw]at J
   have:=tabL_len W (T:=tbl m)
   omega) o1
 rw[o2,←A.srt_uniq o3 hperm ((tabL_pw W (tbl m)).imp fun {a b} h=>by
  rw[Xx]
  exact fun h2=>ltK_no (ltK_tr h ((Qbe b a).1 h2)))]at hend
 unfold F.a9
 rw[h1,Qb,if_neg (fun h=>h rfl),h2,Qb,if_neg (fun h=>h rfl)]
 exact e1.trans (e2.trans hend)
end
abbrev Kn:=List Pl×List (List Sm)
def zt (st:Kn)(p:Pl):Pl→Pl→List Sm:=fun p' q=>if p'=p then Z.mget [] (st.1.zip st.2) q else []
structure KI (g:List Nd) (d:List Int) (p:Pl) (st:Kn):Prop where
 inv:Pth.Inv (EN g d) (i0N g d) ctr ltS (GN g d) (zt st p)
 len:st.1.length=st.2.length
 nd:st.1.Nodup
 ne: ∀r∈st.2,r≠[]
 ks: ∀q∈st.1,∃b,(q,b)∈spots g d
section
variable {g:List Nd}{l d:List Int}{dm:List (Int×Int)}(W:Whole g l d dm)
include W
end
def fewF (s:Int):List Nd→Int
 | []=>s
 |x::r=>fewF (min (s+min (x.2.2.1.length:Int) 1048576+min (x.2.2.2.2.1.size:Int) 1048576+min (x.2.2.2.1.2.2.size:Int) 1048576) 1048576) r
theorem Qhy: ∀(l:List Nd) (s:Int),0≤s→s≤1048576→s≤fewF s l
 | [],s,_,_=>Xa s
 |x::r,s,h,H=>by
  unfold fewF
  have:=Qhy r (min (s+min (x.2.2.1.length:Int) 1048576+min (x.2.2.2.2.1.size:Int) 1048576+min (x.2.2.2.1.2.2.size:Int) 1048576) 1048576) (by omega) (by omega)
  omega
theorem fewF_le: ∀(l:List Nd) (s:Int),0≤s→s≤1048576→fewF s l≤5000→∀x∈l,x.2.2.1.length≤5000∧x.2.2.2.2.1.size≤5000∧x.2.2.2.1.2.2.size≤5000
 | [],_,_,_,_,x,H=>by cases H
 |y::r,s,h,J,I,x,H=>by
  unfold fewF at I
  have O:=Qhy r (min (s+min (y.2.2.1.length:Int) 1048576+min (y.2.2.2.2.1.size:Int) 1048576+min (y.2.2.2.1.2.2.size:Int) 1048576) 1048576) (by omega) (by omega)
  rcases Qk.1 H with rfl|H
  ·omega
  ·exact fewF_le r _ (by omega) (by omega) I x H
theorem few10_eq (g:List Nd): ∃b,F.eS g=some b∧(b=true→Few g∧g.length≤18):=by
 unfold F.eS
 rw[A.gd1 (by omega)]
 have hlen:(List.take (min (g.length:Int) 99).toNat g).length≤99:=by rw[Qs];omega
 have:=A.lp (List.take (min (g.length:Int) 99).toNat g) (fun f s y=>F.dq g f s y) (fun _ l s=>some (bif decide ((g.length:Int)≤18)then decide (fewF s l≤2000)else false)) (fun _ s=>0≤s∧s≤1048576)
  (fun f s _=>by rw[F.dq,if_neg (by omega)];rfl)
  (fun f s k x J hk hp O=>by
   rw[F.dq,if_pos (by omega),A.ixn J,Qb,A.gd1 ⟨⟨by omega,by omega⟩,⟨by omega,by omega⟩,⟨by omega,by omega⟩⟩,A.gd1 (A.r64n (by omega)),O _ (by omega)]
   rfl)
  (by have:=Qab;omega) 0 (by omega)
 rw[this]
 refine⟨_,rfl,fun H=>?_⟩
 by_cases I:(g.length:Int)≤18
 ·simp only[I,decide_true,cond_true,decide_eq_true_eq]at H
  have e:List.take (min (g.length:Int) 99).toNat g=g:=Ws (by omega)
  rw[e]at H
  exact⟨⟨by omega,fewF_le g 0 (by omega) (by omega) (by omega)⟩,by omega⟩
 ·simp[I]at H
theorem graph_tell (g:List Nd)(H:Few g):(∃e,e≠0∧F.cm g=some ([],e)∧F.dp g=some ([],e)∧F.cF g=some ([],e)∧F.eP g=some ([],e))∨
  ∃l d dm,Whole g l d dm∧F.cm g=some (spots g d,0)∧F.dp g=some (spots g d,0)∧F.cF g=some (edges g d,0)∧F.eP g=some (edges g d,0)∧(edges g d).length≤1000000:=by
 have hlen:=H.1
 unfold F.eP F.cm F.dp F.cF
 rcases whole_same g H with⟨e,h0,I,J⟩|⟨l,d,dm,I,J,W⟩
 ·rw[I,J]
  simp only[Qb,A.om,if_pos h0]
  exact .inl ⟨e,h0,rfl,rfl,rfl,rfl⟩
 ·right
  have O: ∀n∈g,n.2.2.1.length≤2:=fun n hn=>in2 W.own hn
  have he:(edges g d).length≤1000000:=Wk (Qep g d 0 g (by omega) O O) (by omega)
  have Y:Od (edges g d):=Qhn g d W.inc 0 g W.inc O
  rw[I,J]
  simp only[Qb,A.om,ne_eq,not_true_eq_false,if_false]
  rw[Qgy g d H W.fed W.own W.dlen,Qie g d _ H W.fed W.own W.rel,Qic g d _ H W.fed W.own W.inb W.rel]
  simp only[Qb,ne_eq,not_true_eq_false,if_false]
  rw[Qhd g d H W.inc W.own W.inb,sorted_eq Y he]
  exact⟨l,d,dm,W,rfl,rfl,rfl,rfl,he⟩
theorem tabL_tbl {g:List Nd}{l d:List Int}{dm:List (Int×Int)}(W:Whole g l d dm){T:Pl→Pl→List Sm}(H:TT g d T):Tbl (tabL g d T):=by
 refine⟨Wk (tabL_len W) (by decide),fun x I=>?_⟩
 obtain⟨_,⟨b,J⟩,_,O⟩:=Qci.1 I
 have:=row_len W H.inv (p:=x.1) J
 unfold rowMax at this
 rw[O];omega
theorem Qff {p q:Pl}{r:List Sm}: ∀{l:List Pth},(∀x∈l,x.1=p→x.2.1=q→x.2.2=r)→(∃x∈l,x.1=p∧x.2.1=q)→Qbf p q l=r
 | [],_,h=>by obtain⟨x,H,_⟩:=h;cases H
 |y::l,h,O=>by
  unfold Qbf
  by_cases I:y.1=p∧y.2.1=q
  ·rw[if_pos I];exact h y (Qf ..) I.1 I.2
  ·rw[if_neg I]
   refine Qff (fun x H=>h x (Qe _ H)) ?_
   obtain⟨x,H,J⟩:=O
   rcases Qk.1 H with rfl|H
   ·exact absurd J I
   ·exact⟨x,H,J⟩
theorem Qfd {p q:Pl}: ∀{l:List Pth},(∀x∈l,¬(x.1=p∧x.2.1=q))→Qbf p q l=[]
 | [],_=>rfl
 |y::l,h=>by
  unfold Qbf
  rw[if_neg (h y (Qf ..))]
  exact Qfd fun x H=>h x (Qe _ H)
theorem sums_tab {g:List Nd}{d:List Int}{T:Pl→Pl→List Sm}(J:TT g d T)(p q:Pl):Qbf p q (tabL g d T)=T p q:=by
 by_cases h:T p q=[]
 ·rw[h]
  refine Qfd fun x I H=>?_
  obtain⟨_,_,O,_⟩:=Qci.1 I
  rw[H.1,H.2]at O
  exact O h
 ·refine Qff (fun x I Y H=>?_) ⟨(p,q,T p q),Qci.2 ⟨(J.sp p q h).1,(J.sp p q h).2,h,rfl⟩,rfl,rfl⟩
  rw[(Qci.1 I).2.2.2,Y,H]
theorem Qiv {α:Type}{xs:List α}(h:(xs.length:Int)≠0)(b:UInt8): ∃x,A.ix xs (Int.tmod (b.toNat:Int) (xs.length:Int))=some x∧x∈xs:=by
 have e:Int.tmod (b.toNat:Int) (xs.length:Int)=((b.toNat%xs.length:Nat):Int):=by rw[Int.tmod_eq_emod_of_nonneg (by omega)];rfl
 have H:b.toNat%xs.length<xs.length:=Jh _ (by omega)
 rw[e]
 exact⟨_,A.ixn (Qd H),List.getElem_mem H⟩
theorem table_any (g:List Nd)(Y:(Z.Ty.slice T83).ok g):(∃e,e≠0∧F.a9 g=some ([],e))∨
  ∃l d dm T,Whole g l d dm∧TT g d T∧F.dp g=some (spots g d,0)∧F.eP g=some (edges g d,0)∧(edges g d).length≤1000000∧F.a9 g=some (tabL g d T,0):=by
 have I: ∀n∈g,A.h6 n.1:=fun n hn=>by
  obtain⟨h,_⟩:=Y.2 n hn
  exact h
 have J: ∀x∈g,x.2.2.2.2.1.size≤9223372036854775807∧x.2.2.2.1.2.2.size≤9223372036854775807:=fun x hx=>by
  obtain⟨_,_,_,⟨_,_,hS⟩,hN,_,_⟩:=Y.2 x hx
  exact⟨hN,hS⟩
 rcases whole_all g J with hF|⟨e,H,hw⟩
 ·rcases graph_tell g hF with⟨e,H,O,_,_,_⟩|⟨l,d,dm,W,O,h2,h3,h4,hE⟩
  ·refine .inl ⟨e,H,?_⟩
   unfold F.a9;rw[O,Qb,if_pos H]
  ·obtain⟨T,hT,h5⟩:=table_P W I hE O h3
   exact .inr ⟨l,d,dm,T,W,hT,h2,h4,hE,h5⟩
 ·refine .inl ⟨e,H,?_⟩
  unfold F.a9 F.cm
  rw[hw]
  simp only[Qb,A.om,if_pos H]
section
variable {g:List Nd}{l d:List Int}{dm:List (Int×Int)}(W:Whole g l d dm)
include W
end
end Go.Proofs.YtlbnpmfggfbdoaaGreatDoor
end
section
namespace Go.Pth
def comp:D→D→D
 |x::a,c::b=>(if c.1=true then(x.1,x.2+c.2)else c)::comp a b
 | [],b=>b
 |_::_,[]=>[]
theorem comp_rep: ∀(a:D),comp a (List.replicate a.length (true,0))=a
 | []=>rfl
 |x::a=>by
  rw[Qh,List.replicate_succ,comp,comp_rep a,if_pos rfl]
  show(x.1,x.2+0)::a=x::a
  rw[Int.add_zero]
theorem Qhu: ∀(k:Nat) (a b:D),comp a (b.take k)=(comp a b).take k
 |0,[],b=>by simp[comp]
 |0,_::_,b=>by simp[comp]
 |k+1,[],b=>by simp[comp]
 |k+1,x::a,[]=>by simp[comp]
 |k+1,x::a,c::b=>by rw[List.take_succ_cons,comp,comp,List.take_succ_cons,Qhu k a b]
theorem Qgw: ∀(n:Nat) (a:D),comp a (List.replicate n (false,0))=List.replicate n (false,0)
 |0,[]=>rfl
 |0,_::_=>rfl
 |n+1,[]=>rfl
 |n+1,x::a=>by rw[List.replicate_succ,comp,Qgw n a];rfl
theorem comp_app: ∀(a b:D) (n:Nat),comp a (b++List.replicate n (false,0))=comp a b++List.replicate n (false,0)
 | [],b,n=>rfl
 |x::a,[],n=>by rw[Wv,Qgw];rfl
 |x::a,c::b,n=>by rw[Xb,comp,comp,comp_app a b n,Xb]
theorem comp_len: ∀(a b:D),(comp a b).length=b.length
 | [],b=>rfl
 |_::_,[]=>rfl
 |x::a,c::b=>by rw[comp,Qh,Qh,comp_len a b]
theorem comp_get: ∀(a b:D) (i:Nat) (x c:Ctr),a[i]?=some x→b[i]?=some c→(comp a b)[i]?=some (if c.1=true then(x.1,x.2+c.2)else c)
 |x::a,c::b,0,y,e,H,I=>by simp at H I;subst H;subst I;rfl
 |x::a,c::b,i+1,y,e,H,I=>by
  rw[comp,Wj]
  exact comp_get a b i y e (by simpa using H) (by simpa using I)
 | [],_,_,_,_,H,_=>by simp at H
 |_::_,[],_,_,_,_,I=>by simp at I
theorem comp_get0: ∀(a b:D) (i:Nat) (c:Ctr),b[i]?=some c→c.1=false→(comp a b)[i]?=some c
 | [],b,i,c,h,_=>h
 |x::a,d::b,0,c,h,H=>by simp at h;subst h;rw[comp,H];rfl
 |x::a,d::b,i+1,c,h,H=>by
  rw[comp,Wj]
  exact comp_get0 a b i c (by simpa using h) H
 |_::_,[],_,_,h,_=>by simp at h
theorem bump_comp {n B:Int}(hB:2*B≤1048576): ∀{a w v:D},(∀x∈a,x.2≤B)→(∀c∈v,c.2≤B)→bump n w=some v→bump n (comp a w)=some (comp a v)
 | [],w,v,_,_,h=>by
  have e: ∀z:D,comp [] z=z:=fun z=>rfl
  rw[e,e];exact h
 |x::a,[],v,_,_,h=>by rw[bump]at h;obtain rfl:=Qo h;rfl
 |x::a,[c],v,I,J,h=>by
  have hx:=I x (Qf ..)
  unfold bump at h
  split at h
  ·rename_i hc
   obtain rfl:=Qo h
   have h3:=J _ (Qf ..)
   simp only at h3
   have e1:comp (x::a) [c]=[if c.1=true then(x.1,x.2+c.2)else c]:=by cases a<;>rfl
   have e2:comp (x::a) [(c.1,c.2+n)]=[if c.1=true then(x.1,x.2+(c.2+n))else(c.1,c.2+n)]:=by cases a<;>rfl
   rw[e1,e2]
   by_cases H:c.1=true
   ·rw[if_pos H,if_pos H,bump,if_pos (by show x.2+c.2+n≤1048576;omega)]
    show some [(x.1,x.2+c.2+n)]=_
    rw[Int.add_assoc]
   ·rw[if_neg H,if_neg H,bump,if_pos hc]
  ·cases h
 |x::a,c::c2::w,v,I,J,h=>by
  rw[bump]at h
  obtain⟨v',H,rfl⟩:=Wn.1 h
  have Y:=bump_comp hB (a:=a) (w:=c2::w) (fun y O=>I y (Qe _ O)) (fun y O=>J y (Qe _ O)) H
  rw[comp,comp]
  obtain⟨y,r,hr⟩: ∃y r,comp a (c2::w)=y::r:=by
   have:=comp_len a (c2::w)
   cases h2:comp a (c2::w)with
   |nil=>rw[h2]at this;simp at this
   |cons y r=>exact⟨y,r,rfl⟩
  rw[hr]at Y ⊢
  rw[bump,Y];rfl
section
variable {V:Type}[DecidableEq V]{E:List (Ed (V:=V))}{i0:V→D}{dep:V→Nat}{loops:List V}(N:Net E i0 dep loops)
include N
theorem way_comp {B:Int}(hB:2*B≤1048576)(hl:(loops.length:Int)≤B){p q:V}{a:D}(O:Way E i0 p q a)(H: ∀x∈a,x.2≤B){r:V}{b:D}{vis:List (V×D)}(h:NW E i0 q r b vis):Way E i0 p r (comp a b):=by
 induction h with
 |nil=>rw[N.i0e,←O.len N,comp_rep];exact O
 | @step r s s' vis e h Y hq I hn ih=>
  refine .step ih Y hq ?_
  have J:NW E i0 q e.tgt s' ((e.tgt,s')::vis):=.step h Y hq I hn
  unfold Op.app at I ⊢
  obtain⟨v,h1,rfl⟩:=Wn.1 I
  rw[←Qhu,bump_comp hB H (fun c hc=>Int.le_trans (J.le_loops N c (Q6 _ hc)) hl) h1]
  show some (comp a v++_)=_
  rw[comp_app]
end
def act (c:Ctr)(x:Int):Int:=if c.1=true then x+c.2 else c.2
theorem act_le {c1 c2:Ctr}(h:leC c1 c2)(H:c2.2<1048576){x:Int}(I:0≤x):act c1 x≤act c2 x:=by
 obtain⟨b1,J⟩:=c1
 obtain⟨b2,O⟩:=c2
 unfold leC at h
 unfold act
 simp only at*
 cases b1<;>cases b2<;>simp at* <;>omega
theorem le_get: ∀{a b:D} (i:Nat) {x y:Ctr},le a b→a[i]?=some x→b[i]?=some y→leC x y
 |x::a,y::b,0,_,_,h,H,I=>by simp at H I;subst H;subst I;exact h.1
 |x::a,y::b,i+1,_,_,h,H,I=>le_get i h.2 (by simpa using H) (by simpa using I)
 | [],_,_,_,_,_,H,_=>by simp at H
 |_::_,[],_,_,_,_,_,I=>by simp at I
end Go.Pth
end
section
namespace Go.Proofs.YtlbnpmfggfbdoaaGreatDoor
open Go.RowKit Go.Graph
def tg (t:Tm)(i:Nat):Int:=(tms t).getD i 0
def ap (s:Sm)(t:Tm)(i:Nat):Int:=if(i:Int)<s.2.1+s.2.2.2.1 then Pth.act (cg s i) (tg t i)else 0
def apW (s:Sm)(t:Tm):Tm:=(t.1,s.2.1+s.2.2.2.1,(ap s t 0,ap s t 1,ap s t 2,ap s t 3))
theorem tg_ix (t:Tm){i:Nat}(H:i<4):A.ix [t.2.2.1,t.2.2.2.1,t.2.2.2.2.1,t.2.2.2.2.2] (i:Int)=some (tg t i):=by
 refine A.ixn ?_
 unfold tg
 rw[Yu,show [t.2.2.1,t.2.2.2.1,t.2.2.2.2.1,t.2.2.2.2.2]=tms t from rfl]
 rw[Qd (show i<(tms t).length from H)];rfl
theorem okT_tg {t:Tm}:okT t↔(0≤t.1∧t.1≤1073741824∧0≤t.2.1∧t.2.1≤4∧∀i:Nat,i<4→0≤tg t i∧tg t i≤1048576∧(t.2.1≤(i:Int)→tg t i=0)):=by
 unfold okT
 constructor
 ·rintro⟨H,I,J,O,Y,h6,h7,h8⟩
  refine⟨H,I,J,O,fun i hi=>?_⟩
  match i,hi with
  |0,_=>exact Y
  |1,_=>exact h6
  |2,_=>exact h7
  |3,_=>exact h8
 ·rintro⟨H,I,J,O,h⟩
  exact⟨H,I,J,O,h 0 (by decide),h 1 (by decide),h 2 (by decide),h 3 (by decide)⟩
theorem apply_step {s:Sm}(I:OkS s){t:Tm}(ht:okT t){i:Nat}(J:i<4)(f:Nat)(e D y0 y1 y2 y3:Int):F.h s t (f+1) e D y0 y1 y2 y3 (i:Int)=
  F.h s t f e D (if(i:Int)=0 then ap s t i else y0) (if(i:Int)=1 then ap s t i else y1) (if(i:Int)=2 then ap s t i else y2) (if(i:Int)=3 then ap s t i else y3) ((i:Int)+1):=by
 have hk:=I.k
 have hf:=I.f
 have hn:=I.n
 have ha:=I.a
 have hti:=(okT_tg.1 ht).2.2.2.2 i J
 obtain⟨c1,c2⟩:=cg_ix I J
 obtain⟨z,O,_⟩:=ix4 (a:=y0) (b:=y1) (c:=y2) (d:=y3) (i:=(i:Int)) (by omega)
 have Y: ∀a b c d:Int,F.ag (F.h s t f) e D (i:Int) a b c d=F.h s t f e D a b c d ((i:Int)+1):=fun a b c d=>by
  unfold F.ag
  rw[A.gd1 (A.r64n (by omega))]
 have g1:Z.R64 (s.2.1-1):=⟨by omega,by omega⟩
 rw[F.h,if_pos (by omega),A.gd1 g1,A.gd1 g1]
 by_cases h1:(i:Int)<s.2.1-1
 ·have H:ap s t i=tg t i:=by
   unfold ap
   rw[if_pos (by omega),c2 (by omega),if_neg (by omega)]
   show tg t i+0=_
   omega
  rw[if_pos h1,tg_ix t J,Qb,O,Qb,Y,H]
 rw[if_neg h1]
 by_cases h2:(i:Int)=s.2.1-1
 ·have H:ap s t i=tg t i+s.2.2.1:=by
   unfold ap
   rw[if_pos (by omega),c2 (by omega),if_pos h2];rfl
  rw[if_pos h2,tg_ix t J,Qb,A.gd1 ⟨by omega,by omega⟩,O,Qb,Y,H]
 rw[if_neg h2,A.gd1 ⟨by omega,by omega⟩]
 by_cases h3:(i:Int)<s.2.1+s.2.2.2.1
 ·obtain⟨x,h4,h5⟩:=c1 (by omega)
  have H:ap s t i=x:=by
   unfold ap
   rw[if_pos h3,h5];rfl
  rw[if_pos h3,A.gd1 ⟨by omega,by omega⟩,h4,Qb,O,Qb,Y,H]
 ·have H:ap s t i=0:=by
   unfold ap
   rw[if_neg h3]
  rw[if_neg h3,O,Qb,Y,H]
theorem Apply_R {s:Sm}(H:OkS s){t:Tm}(I:okT t)(O:t.2.1=s.1):F.af s t=(F.j (apW s t)).bind fun r=>if r≠0 then some ((0,0,(0,0,0,0)),12)else some (apW s t,0):=by
 have hk:=H.k
 have hf:=H.f
 have hn:=H.n
 have Y:F.j t=some 0:=(Qac t).elim (fun h=>h.1) fun h=>absurd I h.2
 obtain⟨n,J⟩: ∃n,A.FU=n+5:=⟨A.FU-5,by decide⟩
 unfold F.af
 rw[show F.ad (_,_,_,_,(_,_,_,_))=some 0 from o_a H,Qb,if_neg (fun h=>h rfl),show F.j t=some 0 from Y,Qb,if_neg (fun h=>h rfl),if_neg (fun h=>h O),A.gd1 ⟨by omega,by omega⟩,J]
 rw[show F.h s t (n+5) t.1 (s.2.1+s.2.2.2.1) 0 0 0 0 0=_ from apply_step H I (i:=0) (by decide) (n+4) t.1 (s.2.1+s.2.2.2.1) 0 0 0 0]
 rw[show ∀a b c d,F.h s t (n+4) t.1 (s.2.1+s.2.2.2.1) a b c d (((0:Nat):Int)+1)=_ from fun a b c d=>apply_step H I (i:=1) (by decide) (n+3) t.1 (s.2.1+s.2.2.2.1) a b c d]
 rw[show ∀a b c d,F.h s t (n+3) t.1 (s.2.1+s.2.2.2.1) a b c d (((1:Nat):Int)+1)=_ from fun a b c d=>apply_step H I (i:=2) (by decide) (n+2) t.1 (s.2.1+s.2.2.2.1) a b c d]
 rw[show ∀a b c d,F.h s t (n+2) t.1 (s.2.1+s.2.2.2.1) a b c d (((2:Nat):Int)+1)=_ from fun a b c d=>apply_step H I (i:=3) (by decide) (n+1) t.1 (s.2.1+s.2.2.2.1) a b c d]
 rw[F.h,if_neg (by decide)]
 rfl
theorem Qen {s:Sm}(J:OkS s){t v:Tm}(h:F.af s t=some (v,0)):okT t∧t.2.1=s.1∧v=apW s t∧okT (apW s t):=by
 have O:okT t:=by
  rcases Qac t with⟨_,H⟩|⟨H,_⟩
  ·exact H
  ·unfold F.af at h
   rw[show F.ad (_,_,_,_,(_,_,_,_))=some 0 from o_a J,Qb,if_neg (fun h=>h rfl),show F.j t=some 10 from H,Qb,if_pos (by decide)]at h
   exact absurd (congrArg Prod.snd (Qo h)) (show ¬(10:Int)=0 by decide)
 have I:t.2.1=s.1:=by
  refine Q4 fun I=>?_
  have Y:F.j t=some 0:=(Qac t).elim (fun h=>h.1) fun h=>absurd O h.2
  unfold F.af at h
  rw[show F.ad (_,_,_,_,(_,_,_,_))=some 0 from o_a J,Qb,if_neg (fun h=>h rfl),show F.j t=some 0 from Y,Qb,if_neg (fun h=>h rfl),if_pos I]at h
  exact absurd (congrArg Prod.snd (Qo h)) (show ¬(11:Int)=0 by decide)
 rw[Apply_R J O I]at h
 rcases Qac (apW s t)with⟨H,h2⟩|⟨H,_⟩
 ·rw[H,Qb,if_neg (fun h=>h rfl)]at h
  exact⟨O,I,(congrArg Prod.fst (Qo h)).symm,h2⟩
 ·rw[H,Qb,if_pos (by decide)]at h
  exact absurd (congrArg Prod.snd (Qo h)) (show ¬(12:Int)=0 by decide)
theorem Apply_ok2 {s:Sm}(H:OkS s){t:Tm}(I:okT t)(J:t.2.1=s.1)(h:okT (apW s t)):F.af s t=some (apW s t,0):=by
 have O:F.j (apW s t)=some 0:=(Qac (apW s t)).elim (fun h=>h.1) fun Y=>absurd h Y.2
 rw[Apply_R H I J,O,Qb,if_neg (fun h=>h rfl)]
def leT (a b:Tm):Prop:=okT a∧okT b∧a.2.1=b.2.1∧a.1≤b.1∧∀i:Nat,i<4→tg a i≤tg b i
theorem TLeq_iff (a b:Tm): ∃r,F.dm a b=some r∧(r=true↔leT a b):=by
 have loop: ∀(n f i:Nat),i+n=4→n<f→∃r,F.bL a b f (i:Int)=some r∧(r=true↔∀j:Nat,i≤j→j<4→tg a j≤tg b j):=by
  intro n
  induction n with
  |zero=>
   intro f i I J
   obtain⟨f,rfl⟩: ∃f',f=f'+1:=⟨f-1,by omega⟩
   rw[F.bL,if_neg (by omega)]
   exact⟨true,rfl,fun _ j H O=>by omega,fun _=>rfl⟩
  |succ n ih=>
   intro f i I J
   obtain⟨f,rfl⟩: ∃f',f=f'+1:=⟨f-1,by omega⟩
   rw[F.bL,if_pos (by omega),tg_ix a (by omega),Qb,tg_ix b (by omega),Qb]
   by_cases H:tg b i<tg a i
   ·rw[if_pos H]
    exact⟨false,rfl,fun h=>(by cases h),fun h=>by have:=h i (Q0 _) (by omega);omega⟩
   ·rw[if_neg H,A.gd1 (A.r64n (by omega))]
    obtain⟨r,O,Y⟩:=ih f (i+1) (by omega) (by omega)
    refine⟨r,O,Y.trans ⟨fun h j h6 h7=>?_,fun h j h6 h7=>h j (by omega) h7⟩⟩
    by_cases hij:j=i
    ·rw[hij];omega
    ·exact h j (by omega) h7
 unfold F.dm F.c1
 rcases Qac a with⟨I,oa⟩|⟨I,na⟩
 ·rw[show F.j a=some 0 from I,Qb,if_neg (fun h=>h rfl)]
  rcases Qac b with⟨J,ob⟩|⟨J,nb⟩
  ·rw[show F.j b=some 0 from J,Qb]
   by_cases H:a.2.1=b.2.1
   ·by_cases O:b.1<a.1
    ·rw[if_pos (by simp[O])]
     exact⟨false,rfl,fun h=>(by cases h),fun h=>by have:=h.2.2.2.1;omega⟩
    ·rw[if_neg (by simp[H,O])]
     obtain⟨r,Y,h6⟩:=loop 4 A.FU 0 (by omega) (by decide)
     exact⟨r,Y,h6.trans ⟨fun h=>⟨oa,ob,H,by omega,fun i hi=>h i (by omega) hi⟩,fun h j _ hj=>h.2.2.2.2 j hj⟩⟩
   ·rw[if_pos (by simp[H])]
    exact⟨false,rfl,fun h=>(by cases h),fun h=>absurd h.2.2.1 H⟩
  ·rw[show F.j b=some 10 from J,Qb]
   exact⟨false,rfl,fun h=>(by cases h),fun h=>absurd h.2.1 nb⟩
 ·rw[show F.j a=some 10 from I,Qb,if_pos (by decide)]
  exact⟨false,rfl,fun h=>(by cases h),fun h=>absurd h.1 na⟩
theorem Qei {s:Sm}(Y:OkS s)(t u:Tm):Qba t u s=true↔okT t∧t.2.1=s.1∧leT (apW s t) u:=by
 obtain⟨_,v,e,J,h2⟩:=could1 t u s
 obtain⟨r,H,I⟩:=TLeq_iff v u
 constructor
 ·intro h
  rcases h2 with⟨O,h6⟩|⟨_,h6⟩
  ·subst O
   obtain⟨a1,a2,a3,_⟩:=Qen Y J
   rw[h6,h]at H
   obtain rfl:=Qo H
   rw[a3]at I
   exact⟨a1,a2,I.1 rfl⟩
  ·rw[h]at h6;cases h6
 ·rintro⟨a1,a2,a3⟩
  rw[Apply_ok2 Y a1 a2 a3.1]at J
  have e1:=Qo J
  have e2:v=apW s t:=(congrArg Prod.fst e1).symm
  have e3:e=0:=(congrArg Prod.snd e1).symm
  rcases h2 with⟨_,h6⟩|⟨O,_⟩
  ·rw[h6]at H
   rw[Qo H]
   rw[e2]at I
   exact I.2 a3
  ·exact absurd e3 O
section
variable {g:List Nd}{l d:List Int}{dm:List (Int×Int)}(W:Whole g l d dm)
theorem cg_get {s:Sm}(H:OkS s){i:Nat}(I:(i:Int)<s.2.1+s.2.2.2.1):(ctr s)[i]?=some (cg s i):=by
 unfold ctr
 rw[Qu,Yo (by omega)];rfl
include W
theorem on_could {T:Pl→Pl→List Sm}(hT:TT g d T){p q r:Pl}(hp: ∃a,(p,a)∈spots g d){t u v:Tm}(h1:(T p q).any (Qba t u)=true)(h2:(T q r).any (Qba u v)=true):(T p r).any (Qba t v)=true:=by
 obtain⟨Y,m1,c1⟩:=Xq.1 h1
 obtain⟨H,m2,c2⟩:=Xq.1 h2
 have g1:=hT.inv.good _ _ Y m1
 have g2:=hT.inv.good _ _ H m2
 obtain⟨t1,t2,t3⟩:=(Qei g1.1.1 t u).1 c1
 obtain⟨u1,u2,u3⟩:=(Qei g2.1.1 u v).1 c2
 obtain⟨vis1,nw1,_⟩:=g1.2
 obtain⟨vis2,nw2,_⟩:=g2.2
 have h32:=lps32 W
 have b1: ∀x∈ctr Y,x.2≤32:=fun x hx=>by have:=nw1.le_loops (netN W) x hx;omega
 have b2: ∀x∈ctr H,x.2≤32:=fun x hx=>by have:=nw2.le_loops (netN W) x hx;omega
 have hw:=Pth.way_comp (netN W) (B:=32) (by decide) (by omega) nw1.way b1 nw2
 obtain⟨a,ha⟩:=hp
 obtain⟨D3,h3,h4⟩:=hT.tab.all (netN W) ⟨p,fun e=>hT.ini _ ha (List.map_eq_nil_iff.1 e)⟩ hw
 obtain⟨I,m3,rfl⟩:=Qv.1 h3
 have g3:=hT.inv.good _ _ I m3
 refine Xq.2 ⟨I,m3,(Qei g3.1.1 t v).2 ⟨t1,?_,?_⟩⟩
 ·rw[t2,g1.1.2.1,g3.1.2.1]
 obtain⟨tE1,tE2,tD1,tD2,tI⟩:=okT_tg.1 t1
 obtain⟨v0,ov,vD,vE,vI⟩:=u3
 obtain⟨x0,ou,xD,xE,xI⟩:=t3
 obtain⟨vE1,vE2,vD1,vD2,vV⟩:=okT_tg.1 ov
 have d1:Y.2.1+Y.2.2.2.1=dpN g d q:=g1.1.2.2
 have d2:H.2.1+H.2.2.2.1=dpN g d r:=g2.1.2.2
 have d3:I.2.1+I.2.2.2.1=dpN g d r:=g3.1.2.2
 have f2:H.1=dpN g d q:=g2.1.2.1
 have k2:=g2.1.1.k
 have apv: ∀(s:Sm) (t:Tm) (i:Nat),i<4→tg (apW s t) i=ap s t i:=fun s t i J=>by
  match i,J with
  |0,_=>rfl
  |1,_=>rfl
  |2,_=>rfl
  |3,_=>rfl
 have key: ∀i:Nat,i<4→0≤ap I t i∧ap I t i≤tg v i∧(I.2.1+I.2.2.2.1≤(i:Int)→ap I t i=0):=fun i J=>by
  have hti:=tI i J
  by_cases hlt:(i:Int)<I.2.1+I.2.2.2.1
  ·have e3:ap I t i=Pth.act (cg I i) (tg t i):=by unfold ap;rw[if_pos hlt]
   have c3:=o_cd g3.1.1 i
   have q3:=cg_get g3.1.1 hlt
   have q2:=cg_get g2.1.1 (i:=i) (by omega)
   have b2i:=b2 _ (Qg q2)
   have hy:=vI i J
   rw[apv _ _ _ J]at hy
   have e2:ap H u i=Pth.act (cg H i) (tg u i):=by unfold ap;rw[if_pos (by omega)]
   refine⟨?_,?_,fun h=>by omega⟩
   ·rw[e3]
    unfold Pth.act
    unfold Pth.okC at c3
    split<;>omega
   ·rw[e3]
    by_cases O:(cg H i).1=true
    ·have hik:(i:Int)<H.2.1:=Q4 fun hn=>by
      obtain⟨z,_,hz⟩:=(cg_ix g2.1.1 J).1 (by omega)
      rw[hz]at O;cases O
     have q1:=cg_get g1.1.1 (i:=i) (by omega)
     have b1i:=b1 _ (Qg q1)
     have hcp:=Pth.comp_get _ _ i _ _ q1 q2
     rw[if_pos O]at hcp
     have hle:=Pth.le_get i h4 q3 hcp
     have ha3:=Pth.act_le hle (by show(cg Y i).2+(cg H i).2<1048576;omega) hti.1
     have hx:=xI i J
     rw[apv _ _ _ J]at hx
     have e1:ap Y t i=Pth.act (cg Y i) (tg t i):=by unfold ap;rw[if_pos (by omega)]
     have e4:Pth.act ((cg Y i).1,(cg Y i).2+(cg H i).2) (tg t i)=Pth.act (cg Y i) (tg t i)+(cg H i).2:=by
      unfold Pth.act
      simp only
      split<;>omega
     have e5:Pth.act (cg H i) (tg u i)=tg u i+(cg H i).2:=by unfold Pth.act;rw[if_pos O]
     omega
    ·have hf:(cg H i).1=false:=Xx.2 O
     have hcp:=Pth.comp_get0 (ctr Y) _ i _ q2 hf
     have hle:=Pth.le_get i h4 q3 hcp
     have ha3:=Pth.act_le hle (by omega) hti.1
     have e5:Pth.act (cg H i) (tg t i)=(cg H i).2:=by unfold Pth.act;rw[if_neg O]
     have e6:Pth.act (cg H i) (tg u i)=(cg H i).2:=by unfold Pth.act;rw[if_neg O]
     omega
  ·have e3:ap I t i=0:=by unfold ap;rw[if_neg hlt]
   rw[e3]
   exact⟨by omega,(vV i J).1,fun _=>rfl⟩
 have k3:=g3.1.1.k
 have n3:=g3.1.1.n
 have kn3:=g3.1.1.kn
 have eD:(apW I t).2.1=v.2.1:=by
  have:(apW H u).2.1=v.2.1:=vD
  show I.2.1+I.2.2.2.1=_
  rw[←this]
  show _=H.2.1+H.2.2.2.1
  omega
 have eE:t.1≤v.1:=Int.le_trans (show t.1≤u.1 from xE) (show u.1≤v.1 from vE)
 refine⟨okT_tg.2 ⟨tE1,tE2,by show 0≤I.2.1+I.2.2.2.1;omega,by show I.2.1+I.2.2.2.1≤4;omega,fun i J=>?_⟩,ov,eD,eE,fun i J=>?_⟩
 ·rw[apv _ _ _ J]
  have:=key i J
  have:=vV i J
  exact⟨by omega,by omega,(key i J).2.2⟩
 ·rw[apv _ _ _ J];exact(key i J).2.1
theorem way_wy {p:Pl}{a:Int}(hp:(p,a)∈spots g d){q:Pl}{D:Pth.D}(h:Pth.Way (EN g d) (i0N g d) p q D): ∃s,GN g d p q s∧ctr s=D∧((p=q∧s=(idP a).1)∨Wy g d p q s):=by
 obtain⟨_,_,i3,i4,i5⟩:=o_b1 W (p:=p) (x:=a) hp
 have J:=dp4 W hp
 induction h with
 |nil=>exact⟨_,i4,i5,.inl ⟨rfl,rfl⟩⟩
 | @step q s0 s' e h he hq O ih=>
  obtain⟨s,Y,h2,h3⟩:=ih
  obtain⟨e,I,rfl⟩:=Qv.1 he
  subst hq
  rw[←h2]at O
  rcases Qht W I Y with⟨m,h4,_,h5⟩|⟨h4,_⟩
  ·obtain⟨h6,h7⟩:=(syN W).some he Y h4
   rw[h7]at O
   refine⟨m,h6,Qo O,.inr ?_⟩
   obtain⟨m2,e2,h8,h9⟩:=o_cg Y.1 (o_az (Qao W I).form (Qao W I).src)
   rw[h5]at h8
   have e3:=Qo h8
   have e4:m=m2:=congrArg Prod.fst e3
   have e5:(0:Int)=e2:=congrArg Prod.snd e3
   have hTh:=(h9 e5.symm).2
   rw[←e4]at hTh
   rcases h3 with⟨H,h11⟩|H
   ·rw[h11,i3]at hTh
    exact way_step W (pk:=e.1) (s:=(a,a,0,0,(0,0,0,0))) ⟨J.1.symm,by rw[←show p=e.1 from H,J.1];show a+0=a;omega,by rw[←show p=e.1 from H,J.1];exact⟨Xa _,Xa _⟩,Xa _,.inl H,.inr ⟨p,by show(p,a)∈spots g d;exact hp,.inl rfl,.inl H⟩⟩ I rfl hTh
   ·exact way_step W H.weak I rfl hTh
  ·rw[(syN W).none he Y h4]at O;cases O
theorem on_l2 {T:Pl→Pl→List Sm}(hT:TT g d T){p:Pl}{a:Int}(hp:(p,a)∈spots g d)(t:Tm):F.a8 t ((T p p).filter fun s=> !stayB s) A.FU 0=some true:=by
 have O:=row_len W hT.inv (p:=p) hp
 unfold rowMax at O
 have Y:=Xs (fun s=> !stayB s) (T p p)
 obtain⟨R,hR⟩: ∃R,R=(T p p).filter fun s=> !stayB s:=⟨_,rfl⟩
 rw[←hR]at Y ⊢
 exact A.lp0 R (fun f z=>F.a8 t R f z) (fun _ _=>some true)
  (fun f=>by rw[F.a8,if_neg (by omega)])
  (fun f k s hs hk ih=>by
   obtain⟨hsT,H⟩:=Yh.1 (by rw[←hR];exact Qg hs)
   have gs:=hT.inv.good _ _ s hsT
   obtain⟨vis,nw,_⟩:=gs.2
   obtain⟨s',h1,h2,h3⟩:=way_wy W hp nw.way
   obtain rfl:=(syN W).inj h1 gs.1 h2
   obtain⟨_,_,i3,_,_⟩:=o_b1 W (p:=p) (x:=a) hp
   have hw:Wy g d p p s':=h3.resolve_left fun h=>by
    rw[h.2,i3]at H
    unfold stayB at H
    simp at H
   have hadd:=way_turn W hw
   have hk1:=gs.1.1.k
   have hf1:=gs.1.1.f
   have hk0:=gs.1.1.k0
   have no:F.cM (F.a8 t R f) (k:Int) false=some true:=by
    unfold F.cM
    rw[if_neg (by decide),A.gd1 (A.r64n (by omega))]
    exact ih
   rw[F.a8,if_pos (by omega),A.ixn hs,Qb]
   obtain⟨v,e,h4,_⟩:=o_b6 gs.1.1 t
   rw[show F.af (_,_,_,_,(_,_,_,_)) t=_ from h4,Qb]
   by_cases he:e=0
   ·subst he
    rw[if_pos rfl]
    obtain⟨a1,a2,a3,a4⟩:=Qen gs.1.1 h4
    obtain⟨r,h5,h6⟩:=TLeq_iff v t
    rw[show F.dm v t=_ from h5,Qb]
    have hr:r=false:=Xx.2 fun h=>by
     obtain⟨_,_,_,_,h7⟩:=h6.1 h
     have kn:=gs.1.1.kn
     have nn:=gs.1.1.n
     have I:=h7 (s'.2.1.toNat-1) (by omega)
     rw[a3]at I
     have e1:tg (apW s' t) (s'.2.1.toNat-1)=ap s' t (s'.2.1.toNat-1):=by
      have J:s'.2.1.toNat-1<4:=by omega
      generalize s'.2.1.toNat-1=i at J ⊢
      match i,J with
      |0,_=>rfl
      |1,_=>rfl
      |2,_=>rfl
      |3,_=>rfl
     rw[e1]at I
     unfold ap at I
     rw[if_pos (by omega),(cg_ix gs.1.1 (i:=s'.2.1.toNat-1) (by omega)).2 (by omega),if_pos (by omega)]at I
     have h9:tg t (s'.2.1.toNat-1)+s'.2.2.1≤tg t (s'.2.1.toNat-1):=I
     omega
    rw[hr]
    exact no
   ·rw[if_neg he];exact no)
  (by have:=Qab;omega)
end
theorem far_eq (t:Tm): ∃b,F.br t=some b:=by
 unfold F.br F.bN
 repeat' split
 all_goals exact⟨_,rfl⟩
theorem pathsOn_plain {P2 P3 P4 P5 P6 P7:Prop}(g:List Nd)(a b c:UInt8)(t u v:Tm)(hg:(Z.Ty.slice T83).ok g)(_:P2)(_:P3)(_:P4)(_:P5)(_:P6)(_:P7):F.d9 g a b c t u v=some true:=by
 obtain⟨bf,hf,hb⟩:=few10_eq g
 have out: ∀r:List Pth×Int,F.ck g a b c t u v r true=some true:=fun r=>by
  unfold F.ck;rw[if_pos rfl,begunP];rfl
 unfold F.d9
 rcases table_any g hg with⟨e,h0,O⟩|⟨l,d,dm,T,W,I,h2,h3,hE,O⟩
 ·rw[O,Qb,begunP,Qb,if_neg (by decide),hf,Qb]
  simp only[decide_eq_true h0]
  cases bf<;>exact out _
 ·rw[O,Qb,begunP,Qb,if_neg (by decide),hf,Qb]
  cases bf with
  |false=>exact out _
  |true=>
   simp only[Xh,cond_false,ne_eq,not_true_eq_false,decide_false]
   unfold F.ck
   rw[if_neg (by decide),h2,Qb]
   by_cases H:((spots g d).length:Int)=0
   ·rw[if_pos H]
   obtain⟨p,Y,J⟩:=Qiv H a
   obtain⟨q,hq1,hq2⟩:=Qiv H b
   obtain⟨r,hr1,hr2⟩:=Qiv H c
   have la:=a.toNat_lt
   have lb:=b.toNat_lt
   have lc:=c.toNat_lt
   rw[if_neg H,A.gd1 ⟨⟨by omega,by omega⟩,⟨by omega,by omega⟩,⟨by omega,by omega⟩,H,H,H⟩,Y,Qb,hq1,Qb,hr1,Qb]
   have hTbl:=tabL_tbl W I
   have fin:F.bj t (tabL g d T,0) p.1.1 p.1.2 false=some true:=by
    unfold F.bj
    rw[if_neg (by decide),show F.dl ((tabL g d T,0):List Pth×Int).1 p.1=_ from Rounds_P _ p.1 hTbl,Qb,sums_tab I]
    exact on_l2 W I J t
   have cd: ∀(x y:Pl) (s w:Tm),F.cJ ((tabL g d T,0):List Pth×Int).1 x s y w=some ((T x y).any (Qba s w)):=fun x y s w=>by
    rw[←sums_tab I];exact Could_P _ x y s w hTbl
   unfold F.d5
   obtain⟨b1,f1⟩:=far_eq t
   obtain⟨b2,f2⟩:=far_eq u
   obtain⟨b3,f3⟩:=far_eq v
   rw[show F.br t=_ from f1,Qb]
   split
   ·rw[show F.br u=_ from f2,Qb]
    split
    ·rw[show F.br v=_ from f3,Qb]
     split
     ·rw[cd p.1 q.1 t u,Qb]
      split
      ·rename_i c1
       rw[cd q.1 r.1 u v,Qb]
       split
       ·rename_i c2
        rw[cd p.1 r.1 t v,Qb,on_could W I ⟨p.2,J⟩ c1 c2]
        exact fin
       ·exact fin
      ·exact fin
     ·exact fin
    ·exact fin
   ·exact fin
end Go.Proofs.YtlbnpmfggfbdoaaGreatDoor
end
section
namespace Go.Z
open Go.RowKit
def OpenT (P:Program)(T:TypeId)(t:Ty):Prop:=
 P.cellsOf T=t.size∧∀(H:Type) (enc:TypeId×Value→H) (w:World) (base:Nat) (spare:Nat→Bool) (held:Bool) (fuel:Nat) (cs:List Value) (x:DataW H×List MemPlace),
  DataW.trod enc P w base spare held fuel T cs=some x→∃y:t.den,t.rep w (nt []) cs y
section
variable {P:Program}{T e:TypeId}
theorem ot_int {k:IntKind}(J:P.cellsOf T=1)(O:P.underlying T=some (.int k)):OpenT P T (.int k):=⟨J,fun H enc w base spare held fuel cs x h=>by
 obtain⟨n,rfl,_,I⟩:=DataW.trod_int O h
 refine⟨n,rfl,?_⟩
 simp only[Lit.wf,Ql,decide_eq_true_eq]at I
 exact I⟩
theorem ot_byte (I:P.cellsOf T=1)(J:P.underlying T=some (.int .u8)):OpenT P T .byte:=⟨I,fun H enc w base spare held fuel cs x h=>by
 obtain⟨n,rfl,_,O⟩:=DataW.trod_int J h
 simp[Lit.wf,IntKind.min,IntKind.max,IntKind.signed,IntKind.bits]at O
 exact⟨UInt8.ofNat n.toNat,congrArg (fun z=>[Value.int .u8 z]) (u8_of (by omega))⟩⟩
theorem ot_str (I:P.cellsOf T=1)(J:P.underlying T=some .string):OpenT P T .str:=⟨I,fun H enc w base spare held fuel cs x h=>by
 obtain⟨s,rfl,_,O⟩:=DataW.trod_string J h
 exact⟨s,rfl,O⟩⟩
def OpenPs (P:Program):List (TypeId×Nat)→Nat→Ty→Prop
 | [],_,_=>False
 | [(T,o')],o,t=>o'=o∧OpenT P T t
 |(T,o')::p::ps,o,.pair a b=>o'=o∧OpenT P T a∧OpenPs P (p::ps) (o+a.size) b
 |_::_::_,_,_=>False
theorem Qip {H:Type}{enc:TypeId×Value→H}{w:World}{base:Nat}{spare:Nat→Bool}{held:Bool}{fuel:Nat}{cs:List Value}:
  ∀(ps:List (TypeId×Nat)) (o:Nat) (t:Ty),OpenPs P ps o t→(∀p∈ps,∃x,DataW.trod enc P w base spare held fuel p.1 ((cs.drop p.2).take (P.cellsOf p.1))=some x)→∃y:t.den,t.rep w (nt []) ((cs.drop o).take t.size) y
 | [],_,_,h,_=>h.elim
 | [(T,o')],o,t,h,I=>by
  obtain⟨rfl,⟨J,O⟩⟩:=h
  obtain⟨x,I⟩:=I (T,o') (Qj.2 rfl)
  rw[←J];exact O _ _ _ _ _ _ _ _ _ I
 |(T,o')::p::ps,o,.pair a b,h,I=>by
  obtain⟨rfl,⟨J,O⟩,hr⟩:=h
  obtain⟨x,h1⟩:=I (T,o') (Qf ..)
  obtain⟨ya,Y⟩:=O _ _ _ _ _ _ _ _ _ h1
  obtain⟨yb,hyb⟩:=Qip (p::ps) _ b hr fun q hq=>I q (Qe _ hq)
  refine⟨(ya,yb),_,_,?_,Y,hyb⟩
  show(cs.drop o').take (a.size+b.size)=_
  rw[J,List.take_add,X5]
 |_::_::_,_,.int _,h,_=>h.elim
 |_::_::_,_,.byte,h,_=>h.elim
 |_::_::_,_,.bool,h,_=>h.elim
 |_::_::_,_,.str,h,_=>h.elim
 |_::_::_,_,.slice _,h,_=>h.elim
theorem ot_struct {fs:List Field}{t:Ty}(Y:P.cellsOf T=t.size)(ht:P.underlying T=some (.struct fs.toArray))(h:OpenPs P (fs.map fun f=>(f.type,f.offset)) 0 t):OpenT P T t:=⟨Y,fun H enc w base spare held fuel cs x hx=>by
 obtain⟨xs,n,_,_,hl,hs,hf⟩:=DataW.trod_struct ht hx
 have I:cs=(cs.drop 0).take t.size:=by rw[Wc,Ws (by omega)]
 rw[I]
 refine Qip (fuel:=n) (enc:=enc) (base:=base) (spare:=spare) (held:=held) _ 0 t h fun p hp=>?_
 obtain⟨f,J,rfl⟩:=Qv.1 hp
 obtain⟨i,O,he⟩:=Xe J
 have h1:=hf i f (by rw[Ww,Qd O,he])
 rw[h1,Qd (by rw[hs];simpa using O)]
 exact⟨_,rfl⟩⟩
theorem ot_array {n c:Nat}{t:Ty}(J:P.cellsOf T=t.size)(O:P.underlying T=some (.array n e))(Y:P.cellsOf e=c)(h:OpenPs P ((List.range n).map fun i=>(e,i*c)) 0 t):OpenT P T t:=⟨J,fun H enc w base spare held fuel cs x hx=>by
 subst Y
 obtain⟨xs,m,_,_,hl,hs,hf⟩:=DataW.trod_array O hx
 have I:cs=(cs.drop 0).take t.size:=by rw[Wc,Ws (by omega)]
 rw[I]
 refine Qip (fuel:=m) (enc:=enc) (base:=base) (spare:=spare) (held:=held) _ 0 t h fun p hp=>?_
 obtain⟨i,hi,rfl⟩:=Qv.1 hp
 have hi':=Xf.1 hi
 rw[hf i hi',Qd (by omega)]
 exact⟨_,rfl⟩⟩
theorem rows_of {t:Ty}{w:World}{g:Addr}: ∀(n:Nat),(∀i,i<n→∃(cs:List Value) (y:t.den),cs.length=t.size∧(∀j u,cs[j]?=some u→w.cell? (g.add (i*t.size+j))=some u)∧t.rep w (nt []) cs y)→
  ∃(cells:List Value) (ys:List t.den),ys.length=n∧cells.length=n*t.size∧(∀j u,cells[j]?=some u→w.cell? (g.add j)=some u)∧∀(i:Nat) (y:t.den),ys[i]?=some y→t.rep w (nt []) ((cells.drop (i*t.size)).take t.size) y
 |0,_=>⟨[],[],rfl,by simp,by simp,by simp⟩
 |n+1,h=>by
  obtain⟨cells,ys,Y,J,h3,h4⟩:=rows_of n fun i H=>h i (by omega)
  obtain⟨cs,y,c1,c2,c3⟩:=h n (by omega)
  refine⟨cells++cs,ys++[y],by simp[Y],by rw[Qm,J,c1,Nat.succ_mul],fun j u I=>?_,?_⟩
  ·by_cases O:j<cells.length
   ·rw[Q8 O]at I;exact h3 j u I
   ·rw[Wg (by omega)]at I
    have:=c2 _ u I
    rwa[J,show n*t.size+(j-n*t.size)=j by omega]at this
  ·refine Qfa (xs:=ys) (ys:=[y]) (by rw[J,Y]) h4 fun i y' H=>?_
   have:i=0:=by have:=(Qc.1 H).1;simp at this;omega
   subst this
   simp at H;subst H
   rw[Nat.zero_mul,Wc,Ws (by omega)];exact c3
theorem ot_slice {t:Ty}(hc:P.cellsOf T=1)(ht:P.underlying T=some (.slice e))(h:OpenT P e t):OpenT P T (.slice t):=⟨hc,fun H enc w base spare held fuel cs x hx=>by
 rcases DataW.trod_slice ht hx with⟨rfl,_⟩|⟨ad,len,cap,elems,rest,n,_,rfl,_,hb,hl,hm,hlen,hel,_,_⟩
 ·exact⟨[],Qdw _⟩
 ·have each: ∀i,i<len→∃(cs:List Value) (y:t.den),cs.length=t.size∧(∀j u,cs[j]?=some u→w.cell? (ad.add (i*t.size+j))=some u)∧t.rep w (nt []) cs y:=fun i hi=>by
   have I:=hel i hi
   rw[Qd (by omega),Jl]at I
   obtain⟨cs',O,Y⟩:=I
   obtain⟨_,h4,h5⟩:=World.cells?_some O
   obtain⟨y,hy⟩:=h.2 _ _ _ _ _ _ _ _ _ Y
   rw[h.1]at h4 h5
   refine⟨cs',y,h4,fun j u hj=>?_,hy⟩
   have J:=(Qc.1 hj).1
   have:=h5 j (by omega)
   rw[add_add]at this
   rw[this,hj]
  obtain⟨cells,ys,I,O,Y,h4⟩:=rows_of len each
  by_cases hz:len=0
  ·subst hz
   have:ys=[]:=Wq I
   subst this
   exact⟨[],some ad,cap,[],rfl,by simp,hm,by simp,.inl rfl,by simp⟩
  ·have hp:=Qan t
   have J:0<cells.length:=by rw[O];exact Nat.mul_pos (by omega) hp
   have h0:=Y 0 _ (Qd J)
   have hspot:=World.cell?_spot h0
   obtain⟨b,off,spot⟩:=ad
   simp only[Addr.add]at hspot
   subst hspot
   refine⟨ys,some ⟨b,off,none⟩,cap,cells,by rw[I],by omega,hm,by rw[I];exact O,.inr ⟨b,off,rfl,by simp[nt],fun j u hj=>?_⟩,h4⟩
   have:=Y j u hj
   rwa[Addr.add_lit]at this⟩
end
end Go.Z
end
section
namespace Go.Proofs.YtlbnpmfggfbdoaaGreatDoor.pathsOnDone
open Go.ChangeShapes Go.WideShapes Go.ChangeAt Go.RowKit
theorem own:ownKnob Tryz.prog.godebug=none:=by kernel_rfl
theorem laidOut:laidOutB Tryz.prog=true:=by kernel_rfl
theorem ot3:Z.OpenT Tryz.prog 3 A.ti:=Z.ot_int (by kernel_rfl) Tryz.underlying3
theorem ot80:Z.OpenT Tryz.prog 80 A.TI:=Z.ot_slice (by kernel_rfl) Tryz.underlying80 ot3
theorem ot2:Z.OpenT Tryz.prog 2 A.ti:=Z.ot_int (by kernel_rfl) Tryz.underlying2
theorem ot9:Z.OpenT Tryz.prog 9 Z.Ty.str:=Z.ot_str (by kernel_rfl) Tryz.underlying9
theorem ot82:Z.OpenT Tryz.prog 82 T81:=Z.ot_struct (by kernel_rfl) Tryz.underlying82 ⟨rfl,ot3,rfl,ot2,rfl,ot9⟩
theorem ot84:Z.OpenT Tryz.prog 84 T83:=Z.ot_struct (by kernel_rfl) Tryz.underlying84 ⟨rfl,ot3,rfl,ot3,rfl,ot80,rfl,ot82,rfl,ot9,rfl,ot2,rfl,ot3⟩
theorem ot22:Z.OpenT Tryz.prog 22 (Z.Ty.slice T83):=Z.ot_slice (by kernel_rfl) Tryz.underlying22 ot84
theorem ot24:Z.OpenT Tryz.prog 24 T23:=Z.ot_struct (by kernel_rfl) Tryz.underlying24 ⟨rfl,ot22⟩
theorem ot5:Z.OpenT Tryz.prog 5 Z.Ty.byte:=Z.ot_byte (by kernel_rfl) Tryz.underlying5
theorem ot43:Z.OpenT Tryz.prog 43 T43:=Z.ot_array (c:=1) (by kernel_rfl) Tryz.underlying43 (by kernel_rfl) (show Z.OpenPs _ [(2,0),(2,1),(2,2),(2,3)] 0 _ from⟨rfl,ot2,rfl,ot2,rfl,ot2,rfl,ot2⟩)
theorem ot63:Z.OpenT Tryz.prog 63 T62:=Z.ot_struct (by kernel_rfl) Tryz.underlying63 ⟨rfl,ot2,rfl,ot3,rfl,ot43⟩
set_option maxRecDepth 100000 in
theorem laid_met (os:Os)(args:Array Value):laidMetH Tryz.prog Rows.pathsOnRow.laid (({World.holding Tryz.prog os ⟨#[],#[],[]⟩with heap:=((World.holding Tryz.prog os ⟨#[],#[],[]⟩).heap.modify 0 (A.putCells A.tabF)).modify 1 (A.putCells A.tabA)}:World).forCall (fun _ _=>0) ⟨#[],args,[]⟩).memory:=by
 rw[MakeChecks.laidMetH_plain _ _ _ (by kernel_rfl)]
 exact(LaidIn.of_run (l:=Rows.pathsOnRow.laid) [1,0] 8 (by kernel_rfl) (by kernel_rfl) (by kernel_rfl) (by kernel_rfl)).met
theorem of_laid {W:World}(h:laidMetH Tryz.prog Rows.pathsOnRow.laid W):Lib.Utf8Tabs 0 1 W:=by
 rw[MakeChecks.laidMetH_plain _ _ _ (by kernel_rfl)]at h
 have H:=Lib.laidMet.reads h (.tail _ (.head _))
 rw[show Rows.laid_unicode_utf8_first=Lib.firstData from Pinned.utf8First_eq]at H
 have I:=Lib.laidMet.reads h (.head _)
 rw[show(Rows.laid_unicode_utf8_acceptRanges:DataW Unit)=Lib.acceptData by kernel_rfl]at I
 exact utf8Tabs_of_readsT (U8Types.of196 Tryz.laysValid) ⟨by kernel_rfl,by kernel_rfl,by kernel_rfl,by kernel_rfl,by kernel_rfl,by kernel_rfl,by kernel_rfl⟩ H I
set_option maxHeartbeats 1000000 in
set_option maxRecDepth 100000 in
theorem lifted (os:Os)(started:os.Started)(H:Type)(enc:TypeId×Value→H):
  ReturnsInHanded {} Tryz.checked os 6 .any (fun w args=>(Rows.pathsOnSpec.pre enc Tryz.prog Tryz.f6 [] false w args∧laidMetH Tryz.prog Rows.pathsOnRow.laid w)∧sizedMet enc Tryz.prog Tryz.f6 (OpenSpec.ofChange Rows.pathsOnSpec) false w args) (Rows.pathsOnSpec.post enc Tryz.prog Tryz.f6 false true false false):=by
 refine returnsInHanded_of_change_and (C:=Tryz.checked) (X:=fun w _=>laidMetH Tryz.prog Rows.pathsOnRow.laid w) (fun _ _ _ hh h=>h.of_heap hh) own started (by kernel_rfl) Tryz.func6
  (ChangeSpec.witness_shaped (enc:=enc) (C:=Tryz.checked) (os:=os) (X:=fun w _=>laidMetH Tryz.prog Rows.pathsOnRow.laid w) false ({World.holding Tryz.prog os ⟨#[],#[],[]⟩with heap:=((World.holding Tryz.prog os ⟨#[],#[],[]⟩).heap.modify 0 (A.putCells A.tabF)).modify 1 (A.putCells A.tabA)}) #[.agg #[.slice none 0 0],.int .u8 0,.int .u8 0,.int .u8 0,.agg #[A.i 0,A.i 0,A.i 0,A.i 0,A.i 0,A.i 0],.agg #[A.i 0,A.i 0,A.i 0,A.i 0,A.i 0,A.i 0],.agg #[A.i 0,A.i 0,A.i 0,A.i 0,A.i 0,A.i 0]] 16 rfl (World.shaped_of_RefB (by kernel_rfl) (by kernel_rfl)) (by kernel_rfl) (by kernel_rfl) (by kernel_rfl) (laid_met os _)) ?_
 intro W base args ds gs before hval0 hW hcnd hsz0 hL _
 have hval: ∀(j:Nat) t v,Tryz.f6.params[j]?=some t→args[j]?=some v→Value.okWide Tryz.prog W .any base t v:=hval0
 have hW':=hW
 obtain⟨p,q,hA0,hV,rfl,hfz,hnd⟩:=hW
 have hA:DataW.TrodAll enc Tryz.prog W 0 (fun _=>true) true Tryz.f6.params.toList args.toList ds p:=hA0
 rw[Tryz.params6]at hA hval
 obtain⟨v0,vs0,d0,ds0,p0,q0,hargs,rfl,rfl,h0,r0⟩:=trodAll_cons hA
 obtain⟨v1,vs1,d1,ds1,p1,q1,rfl,rfl,rfl,h1,r1⟩:=trodAll_cons r0
 obtain⟨v2,vs2,d2,ds2,p2,q2,rfl,rfl,rfl,h2,r2⟩:=trodAll_cons r1
 obtain⟨v3,vs3,d3,ds3,p3,q3,rfl,rfl,rfl,h3,r3⟩:=trodAll_cons r2
 obtain⟨v4,vs4,d4,ds4,p4,q4,rfl,rfl,rfl,h4,r4⟩:=trodAll_cons r3
 obtain⟨v5,vs5,d5,ds5,p5,q5,rfl,rfl,rfl,h5,r5⟩:=trodAll_cons r4
 obtain⟨v6,vs6,d6,ds6,p6,q6,rfl,rfl,rfl,h6,r6⟩:=trodAll_cons r5
 obtain⟨rfl,rfl,rfl⟩:=trodAll_nil r6
 obtain rfl:args=#[v0,v1,v2,v3,v4,v5,v6]:=by cases args;simp_all
 obtain⟨rfl,rfl⟩:=trodVars_none hV
 have k0:=h0
 have lt0: ∀x∈p0,x.block<W.heap.size:=by obtain⟨m,I⟩:=k0;exact DataW.trod_lt m _ _ _ I
 obtain⟨fu0,hf0⟩:=h0
 obtain⟨x0,J⟩:=ot24.2 _ _ _ _ _ _ _ _ _ hf0
 obtain⟨cs0,rfl,_⟩:=okWide_struct Tryz.underlying24 (hval 0 24 v0 rfl rfl)
 replace J:T23.rep W (Z.nt []) cs0.toList x0:=J
 have hok0:=Z.rep_ok _ J
 obtain⟨a0,c0,hc0⟩: ∃a c,cs0.toList=[.slice a x0.length c]:=by obtain⟨a,c,_,h,_⟩:=J;exact⟨a,c,h⟩
 obtain rfl:cs0=#[.slice a0 x0.length c0]:=by rw[←Wt (xs:=cs0),hc0]
 have k1:=h1
 have lt1: ∀x∈p1,x.block<W.heap.size:=by obtain⟨m,I⟩:=k1;exact DataW.trod_lt m _ _ _ I
 obtain⟨fu1,hf1⟩:=h1
 obtain⟨x1,hx1⟩:=ot5.2 _ _ _ _ _ _ _ _ _ hf1
 obtain⟨u1,rfl⟩:=okWide_int Tryz.underlying5 (hval 1 5 v1 rfl rfl)
 have he1:=hx1
 replace he1:u1=(x1.toNat:Int):=by simpa[Value.cells,Z.Ty.rep] using he1
 subst he1
 have k2:=h2
 have lt2: ∀x∈p2,x.block<W.heap.size:=by obtain⟨m,I⟩:=k2;exact DataW.trod_lt m _ _ _ I
 obtain⟨fu2,hf2⟩:=h2
 obtain⟨x2,hx2⟩:=ot5.2 _ _ _ _ _ _ _ _ _ hf2
 obtain⟨u2,rfl⟩:=okWide_int Tryz.underlying5 (hval 2 5 v2 rfl rfl)
 have he2:=hx2
 replace he2:u2=(x2.toNat:Int):=by simpa[Value.cells,Z.Ty.rep] using he2
 subst he2
 have k3:=h3
 have lt3: ∀x∈p3,x.block<W.heap.size:=by obtain⟨m,I⟩:=k3;exact DataW.trod_lt m _ _ _ I
 obtain⟨fu3,hf3⟩:=h3
 obtain⟨x3,hx3⟩:=ot5.2 _ _ _ _ _ _ _ _ _ hf3
 obtain⟨u3,rfl⟩:=okWide_int Tryz.underlying5 (hval 3 5 v3 rfl rfl)
 have O:=hx3
 replace O:u3=(x3.toNat:Int):=by simpa[Value.cells,Z.Ty.rep] using O
 subst O
 have k4:=h4
 have lt4: ∀x∈p4,x.block<W.heap.size:=by obtain⟨m,I⟩:=k4;exact DataW.trod_lt m _ _ _ I
 obtain⟨fu4,hf4⟩:=h4
 obtain⟨Y,hx4⟩:=ot63.2 _ _ _ _ _ _ _ _ _ hf4
 obtain⟨cs4,rfl,_⟩:=okWide_struct Tryz.underlying63 (hval 4 63 v4 rfl rfl)
 replace hx4:T62.rep W (Z.nt []) cs4.toList Y:=hx4
 have hok4:=Z.rep_ok _ hx4
 obtain⟨ca1,cb2,O,hr4,hr5⟩:=hx4
 have he6:=hr4.1
 obtain⟨ca7,cb8,he9,hr10,hr11⟩:=hr5
 have he12:=hr10.1
 obtain⟨ca13,cb14,he15,hr16,hr17⟩:=hr11
 have he18:=hr16.1
 obtain⟨ca19,cb20,he21,hr22,hr23⟩:=hr17
 have he24:=hr22.1
 obtain⟨ca25,cb26,he27,hr28,hr29⟩:=hr23
 have he30:=hr28.1
 have he31:=hr29.1
 have he4:cs4.toList=(A.rab Y):=by simp only[O,he6,he9,he12,he15,he18,he21,he24,he27,he30,he31,Xb,Wv]
 obtain rfl:cs4=#[A.i Y.1,A.i Y.2.1,A.i Y.2.2.1,A.i Y.2.2.2.1,A.i Y.2.2.2.2.1,A.i Y.2.2.2.2.2]:=by rw[←Wt (xs:=cs4),he4]
 have k5:=h5
 have lt5: ∀x∈p5,x.block<W.heap.size:=by obtain⟨m,I⟩:=k5;exact DataW.trod_lt m _ _ _ I
 obtain⟨fu5,hf5⟩:=h5
 obtain⟨x5,hx5⟩:=ot63.2 _ _ _ _ _ _ _ _ _ hf5
 obtain⟨cs5,rfl,_⟩:=okWide_struct Tryz.underlying63 (hval 5 63 v5 rfl rfl)
 replace hx5:T62.rep W (Z.nt []) cs5.toList x5:=hx5
 have hok5:=Z.rep_ok _ hx5
 obtain⟨ca32,cb33,he34,hr35,hr36⟩:=hx5
 have he37:=hr35.1
 obtain⟨ca38,cb39,he40,hr41,hr42⟩:=hr36
 have he43:=hr41.1
 obtain⟨ca44,cb45,he46,hr47,hr48⟩:=hr42
 have he49:=hr47.1
 obtain⟨ca50,cb51,he52,hr53,hr54⟩:=hr48
 have he55:=hr53.1
 obtain⟨ca56,cb57,he58,hr59,hr60⟩:=hr54
 have he61:=hr59.1
 have he62:=hr60.1
 have he5:cs5.toList=(A.rab x5):=by simp only[he34,he37,he40,he43,he46,he49,he52,he55,he58,he61,he62,Xb,Wv]
 obtain rfl:cs5=#[A.i x5.1,A.i x5.2.1,A.i x5.2.2.1,A.i x5.2.2.2.1,A.i x5.2.2.2.2.1,A.i x5.2.2.2.2.2]:=by rw[←Wt (xs:=cs5),he5]
 have k6:=h6
 have lt6: ∀x∈p6,x.block<W.heap.size:=by obtain⟨m,I⟩:=k6;exact DataW.trod_lt m _ _ _ I
 obtain⟨fu6,hf6⟩:=h6
 obtain⟨x6,hx6⟩:=ot63.2 _ _ _ _ _ _ _ _ _ hf6
 obtain⟨cs6,rfl,_⟩:=okWide_struct Tryz.underlying63 (hval 6 63 v6 rfl rfl)
 replace hx6:T62.rep W (Z.nt []) cs6.toList x6:=hx6
 have hok6:=Z.rep_ok _ hx6
 obtain⟨ca63,cb64,he65,hr66,hr67⟩:=hx6
 have he68:=hr66.1
 obtain⟨ca69,cb70,he71,hr72,hr73⟩:=hr67
 have he74:=hr72.1
 obtain⟨ca75,cb76,he77,hr78,hr79⟩:=hr73
 have he80:=hr78.1
 obtain⟨ca81,cb82,he83,hr84,hr85⟩:=hr79
 have he86:=hr84.1
 obtain⟨ca87,cb88,he89,hr90,hr91⟩:=hr85
 have he92:=hr90.1
 have he93:=hr91.1
 have he6:cs6.toList=(A.rab x6):=by simp only[he65,he68,he71,he74,he77,he80,he83,he86,he89,he92,he93,Xb,Wv]
 obtain rfl:cs6=#[A.i x6.1,A.i x6.2.1,A.i x6.2.2.1,A.i x6.2.2.2.1,A.i x6.2.2.2.2.1,A.i x6.2.2.2.2.2]:=by rw[←Wt (xs:=cs6),he6]
 clear hA0 hval0
 have htab:=of_laid hL
 have hF:F.d9 x0 x1 x2 x3 Y x5 x6=some true:=pathsOn_plain x0 x1 x2 x3 Y x5 x6 hok0 trivial trivial trivial hok4 hok5 hok6
 have hct:=o_bb a0 c0 x0 x1 x2 x3 Y x5 x6 hok4.1 hok4.2.1 hok4.2.2.1 hok4.2.2.2.1 hok4.2.2.2.2.1 hok4.2.2.2.2.2 hok5.1 hok5.2.1 hok5.2.2.1 hok5.2.2.2.1 hok5.2.2.2.2.1 hok5.2.2.2.2.2 hok6.1 hok6.2.1 hok6.2.2.1 hok6.2.2.2.1 hok6.2.2.2.2.1 hok6.2.2.2.2.2 true hF
 refine(hct W (fun _=>True) (A.Hp.start ⟨A.Hall.sh J,A.Hall.tabs htab⟩)).mono ?_
 rintro e W' ⟨v,H',rfl,⟨rfl,rfl⟩,hh⟩
 have bel:=hh.ch.below
 exact⟨_,rfl,_,_,_,[],_,[],hW',trodAll_mk1 (shut_bool Tryz.underlying4 _),(trodAll_cons_mk (Below.trod laidOut (by kernel_rfl) (of_decide_eq_true (by kernel_rfl)) k0 bel lt0) (trodAll_cons_mk (Below.trod laidOut (by kernel_rfl) (of_decide_eq_true (by kernel_rfl)) k1 bel lt1) (trodAll_cons_mk (Below.trod laidOut (by kernel_rfl) (of_decide_eq_true (by kernel_rfl)) k2 bel lt2) (trodAll_cons_mk (Below.trod laidOut (by kernel_rfl) (of_decide_eq_true (by kernel_rfl)) k3 bel lt3) (trodAll_cons_mk (Below.trod laidOut (by kernel_rfl) (of_decide_eq_true (by kernel_rfl)) k4 bel lt4) (trodAll_cons_mk (Below.trod laidOut (by kernel_rfl) (of_decide_eq_true (by kernel_rfl)) k5 bel lt5) (trodAll_cons_mk (Below.trod laidOut (by kernel_rfl) (of_decide_eq_true (by kernel_rfl)) k6 bel lt6) trodAll_mk0))))))),rfl,bel.frame _,fun h=>by cases h⟩
theorem over:Rows.pathsOnRow.holds Tryz.pinned (OpenSpec.ofChange Rows.pathsOnSpec):=
 OpenClaim.holds_of_wide 6 Tryz.f6 rfl rfl rfl rfl rfl rfl rfl ⟨rfl,rfl,rfl,rfl,rfl⟩ rfl rfl rfl rfl rfl (by kernel_rfl) Tryz.func6 (by kernel_rfl)
  (of_decide_eq_true (by kernel_rfl)) (by unfold Func.isWrapper;first|(rw[if_pos (by decide+kernel)];kernel_rfl)|(rw[if_neg (by decide+kernel)];exact⟨rfl,rfl⟩))
  (fun os started H enc _=>lifted os started H enc)
theorem proved:Rows.PathsOnCardSaid:=
 Claim7.holds_tied_plain_at .later [] [.data,.pinned] true (true,"0af9d568bb84d7a8a7896f1e0d35c96323cc734ed9264ae90a39a3d574a26123") false
  over (fun _ h=>by cases h) (by kernel_rfl) (fun _ h=>by cases h) pathsOn_row_tie rfl ⟨rfl,rfl⟩ (by kernel_rfl) rfl
  (fun f fn J H=>by
   obtain rfl:f=6:=Qo ((show Tryz.prog.funcNamed Rows.pathsOnRow.func=some 6 by kernel_rfl).symm.trans J) |>.symm
   obtain rfl:fn=Tryz.f6:=(Qo (Tryz.func6.symm.trans H)).symm
   exact⟨by kernel_rfl,fun j t I=>by
    rw[Tryz.params6]at I
    have O:t∈[24,5,5,5,63,63,63]:=by simpa using Array.mem_of_getElem? I
    have hall:([24,5,5,5,63,63,63].all fun u=> !Tryz.prog.wantsStandIn u)=true:=by kernel_rfl
    exact(show Tryz.prog.wantsStandIn t=false by simpa using Qy.1 hall t O)⟩)
  (by kernel_rfl)
#print axioms proved
end Go.Proofs.YtlbnpmfggfbdoaaGreatDoor.pathsOnDone
end
