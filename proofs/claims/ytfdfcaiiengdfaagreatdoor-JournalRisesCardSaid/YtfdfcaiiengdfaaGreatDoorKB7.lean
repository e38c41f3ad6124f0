/- Plain: journals: what the document's answer tells of one is the same. * Plain: which journals are few. * Plain: what rules an epoch, behind what is noted. * Plain: journals by the document's answer: what rules an epoch, what is open, what was done; the statements 'JournalTells' and 'JournalRises' on data. * A small logic over the model's walk, continued: arguments of a row, opened: what a reader treads reads as a datum. No program in sight. * The law 'JournalRises' as it is given: whatever the input, the call returns true, and each argument reads behind it as it read before. No condition but that utf8's two tables hold what the library's text lays, which the card ties. -/
import Derived.Test.YtfdfcaiiengdfaaGreatDoorKB6
import Derived.Test.YtfdfcaiiengdfaaGreatDoorKB0
import Derived.OpenShut
import Derived.ShutString
import Derived.ChangeOld
import Derived.ChangeArms
import Derived.DataReads
import Derived.Test.YtfdfcaiiengdfaaGreatDoorRows
import Derived.Test.YtfdfcaiiengdfaaGreatDoorTie
import Derived.Test.YtfdfcaiiengdfaaGreatDoorCards
import Derived.Test.YtfdfcaiiengdfaaGreatDoorKB5
import Derived.WalkKit
import Derived.ProofKit
import Derived.Below
import Derived.LaidMore
import Derived.Stop.Joined
import Derived.SevenTiedAt
import Derived.Lib.LaidIn
import Derived.Lib.LaidU8T
import Derived.PinnedBridge
import Derived.SizedLaws
section
set_option linter.unusedVariables false
set_option linter.unusedSimpArgs false
set_option synthInstance.maxSize 1000000
set_option synthInstance.maxHeartbeats 400000
namespace Go.Proofs.YtfdfcaiiengdfaaGreatDoor
open Go.RowKit Go.Graph
abbrev Rr:=List Nd×Int×Int×Bool×Nt×List (List Nd)×List Int×List Dl
def prR (s:RS)(w:Nt):Rr:=(s.g,s.ver,s.cut,s.op.isSome,s.op.getD w,s.hs.map (·.1),s.hs.map (·.2.1),s.hs.map (·.2.2))
def jokR (x:Option RS)(b:Bool)(u:Rr):Prop:=match x with
 |some t=>b=true∧∃w,u=prR t w
 |none=>b=false
theorem R_step {f:List Nd}{s:RS}{k:Nat}(w n:Nt)(h:JI f s k)(hk:k≤2000)(hn:SmD n.2.2.2.1): ∃b u,F.bZ (prR s w) n=some (b,u)∧jokR (jst s n) b u:=by
 have hlen:=h.len
 have hv:Z.R64 (s.ver+1):=by have h1:=h.ver;exact⟨by omega,by omega⟩
 unfold F.bZ jst
 rw[show F.eb n.2.2.2.1 ([],[],[])=some (decide (n.2.2.2.1=nilD))from R_SameD n.2.2.2.1 nilD hn.sz,Option.bind_some]
 have e1:(prR s w).2.1=s.ver:=rfl
 have e2:(prR s w).2.2.1=s.cut:=rfl
 have e3:(prR s w).2.2.2.1=s.op.isSome:=rfl
 have e4:(prR s w).2.2.2.2.1=s.op.getD w:=rfl
 have e0:(prR s w).1=s.g:=rfl
 by_cases h1:n.1=1
 ·rw[if_pos h1,if_pos h1]
  have hc0:=h.cut.1
  cases ho:s.op with
  |some o=>
   rw[if_pos (by rw[e3,ho];simp),F.aK,if_pos rfl]
   refine⟨false,_,rfl,?_⟩
   rw[if_neg (by simp)];rfl
  |none=>
   by_cases hc:((((n.2.1≠s.ver)∨n.2.2.1<1)∨1073741824<n.2.2.1)∨n.2.2.1≤s.cut)∨n.2.2.2.2≠0
   ·rw[if_pos (by simp only[e1,e2,e3,ho,Option.isSome_none,cond_false,A.bo,decide_eq_true_eq];exact hc),F.aK,if_pos rfl]
    refine⟨false,_,rfl,?_⟩
    rw[if_neg (by omega)];rfl
   ·rw[if_neg (by simp only[e1,e2,e3,ho,Option.isSome_none,cond_false,A.bo,decide_eq_true_eq];exact hc)]
    rw[show F.bW (prR s w).1 n.2.2.2.1=some (apV s.g n.2.2.2.1).2 from(apV_eq h.gs hn).2.2.1,Option.bind_some,F.aK]
    by_cases hz:(apV s.g n.2.2.2.1).2=0
    ·rw[decide_eq_false (fun k=>k hz),if_neg Bool.false_ne_true]
     refine⟨true,_,rfl,?_⟩
     rw[if_pos (by refine⟨by simp,?_⟩;omega)];exact⟨rfl,n,rfl⟩
    ·rw[decide_eq_true hz,if_pos rfl]
     refine⟨false,_,rfl,?_⟩
     rw[if_neg (fun h=>hz h.2.2.2.2.2)];rfl
 rw[if_neg h1,if_neg h1]
 by_cases h2:n.1=2
 ·rw[if_pos h2]
  rw[A.gd1 (show(!(prR s w).2.2.2.1)=false→Z.R64 ((prR s w).2.1+1)from fun _=>hv)]
  cases ho:s.op with
  |none=>
   rw[if_pos (by rw[e3,ho];rfl)]
   exact⟨false,_,rfl,rfl⟩
  |some o=>
   obtain⟨p1,p2,p3,p4⟩:=h.op o ho
   have e5:(prR s w).2.2.2.2.1=o:=by rw[e4,ho];rfl
   simp only
   have hd:(bif bif bif bif !(prR s w).2.2.2.1 then true else decide (n.2.1≠(prR s w).2.1+1)then true else decide (n.2.2.1≠(prR s w).2.2.2.2.1.2.2.1)then true else !(decide (n.2.2.2.1=nilD))then true else decide (n.2.2.2.2≠0))=decide ((((n.2.1≠s.ver+1)∨n.2.2.1≠o.2.2.1)∨¬n.2.2.2.1=nilD)∨n.2.2.2.2≠0):=by
    rw[e5,e1,e3,ho]
    simp only[Option.isSome_some,Bool.not_true,cond_false,A.bn,A.bo]
   rw[hd]
   by_cases hc:(((n.2.1≠s.ver+1)∨n.2.2.1≠o.2.2.1)∨¬n.2.2.2.1=nilD)∨n.2.2.2.2≠0
   ·rw[if_pos (decide_eq_true hc)]
    refine⟨false,_,rfl,?_⟩
    by_cases hq:n.2.2.1=o.2.2.1∧n.2.2.2.1=nilD
    ·rw[if_pos hq,if_pos h2,if_neg (fun k=>by
      rcases hc with((hc|hc)|hc)|hc
      ·exact hc k.1
      ·exact hc hq.1
      ·exact hc hq.2
      ·exact hc k.2)];rfl
    ·rw[if_neg hq];rfl
   ·rw[if_neg (fun k=>hc (of_decide_eq_true k)),A.gd1 (show Z.R64 ((prR s w).2.1+1)from hv)]
    simp only[not_or,ne_eq,Decidable.not_not]at hc
    obtain⟨⟨⟨q1,q2⟩,q3⟩,q4⟩:=hc
    rw[if_pos ⟨q2,q3⟩,if_pos h2,if_pos ⟨q1,q4⟩]
    have ea:F.cO (prR s w).1 ((prR s w).2.2.2.2.1.2.2.2.1.1,(prR s w).2.2.2.2.1.2.2.2.1.2.1,(prR s w).2.2.2.2.1.2.2.2.1.2.2)=some (apV s.g o.2.2.2.1):=by
     show F.cO s.g (prR s w).2.2.2.2.1.2.2.2.1=_
     rw[e5];exact(apV_eq h.gs p1).2.2.2.1
    rw[ea,Option.bind_some,A.gd1 (by show(List.length (s.hs.map _)+1)*24≤_;rw[List.length_map];omega),A.gd1 (by show(List.length (s.hs.map _)+1)*8≤_;rw[List.length_map];omega),A.gd1 (by show(List.length (s.hs.map _)+1)*72≤_;rw[List.length_map];omega)]
    refine⟨true,_,rfl,rfl,o,?_⟩
    show(_,_,_,_,(prR s w).2.2.2.2.1,_,_,_++[(prR s w).2.2.2.2.1.2.2.2.1])=_
    rw[e5]
    unfold prR
    simp only[List.map_append,List.map_cons,List.map_nil,q2]
    rfl
 rw[if_neg h2]
 by_cases h3:n.1=3
 ·rw[if_pos h3]
  cases ho:s.op with
  |none=>
   rw[if_pos (by rw[e3,ho];rfl)]
   exact⟨false,_,rfl,rfl⟩
  |some o=>
   have e5:(prR s w).2.2.2.2.1=o:=by rw[e4,ho];rfl
   simp only
   have hd:(bif bif bif bif !(prR s w).2.2.2.1 then true else decide (n.2.1≠(prR s w).2.1)then true else decide (n.2.2.1≠(prR s w).2.2.2.2.1.2.2.1)then true else !(decide (n.2.2.2.1=nilD))then true else decide (n.2.2.2.2=0))=decide ((((n.2.1≠s.ver)∨n.2.2.1≠o.2.2.1)∨¬n.2.2.2.1=nilD)∨n.2.2.2.2=0):=by
    rw[e5,e1,e3,ho]
    simp only[Option.isSome_some,Bool.not_true,cond_false,A.bn,A.bo]
   rw[hd]
   by_cases hc:(((n.2.1≠s.ver)∨n.2.2.1≠o.2.2.1)∨¬n.2.2.2.1=nilD)∨n.2.2.2.2=0
   ·rw[if_pos (decide_eq_true hc)]
    refine⟨false,_,rfl,?_⟩
    by_cases hq:n.2.2.1=o.2.2.1∧n.2.2.2.1=nilD
    ·rw[if_pos hq,if_neg h2,if_pos h3,if_neg (fun k=>by
      rcases hc with((hc|hc)|hc)|hc
      ·exact hc k.1
      ·exact hc hq.1
      ·exact hc hq.2
      ·exact k.2 hc)];rfl
    ·rw[if_neg hq];rfl
   ·rw[if_neg (fun k=>hc (of_decide_eq_true k))]
    simp only[not_or,ne_eq,Decidable.not_not]at hc
    obtain⟨⟨⟨q1,q2⟩,q3⟩,q4⟩:=hc
    rw[if_pos ⟨q2,q3⟩,if_neg h2,if_pos h3,if_pos ⟨q1,q4⟩]
    refine⟨true,_,rfl,rfl,o,?_⟩
    show(_,_,_,_,(prR s w).2.2.2.2.1,_,_,_)=_
    rw[e5];rfl
 ·rw[if_neg h3]
  refine⟨false,_,rfl,?_⟩
  cases s.op with
  |none=>rfl
  |some o=>
   simp only
   split<;>rfl
def rdR (l:Lg)(x:Option Rr×Int):Prop:=match(jwh l).1 with
 |none=>x=(none,(jwh l).2)
 |some s=>∃w,x=(some (prR s w),0)
theorem R_read (l:Lg)(hl:SmL l): ∃x,F.ec l=some x∧rdR l x:=by
 have hl2:=hl.len
 obtain⟨c1,c2,c3⟩:=chkG_eq hl.first
 unfold F.ec rdR jwh
 rw[c2,Option.bind_some]
 by_cases h0:chkG l.1=0
 case neg=>rw[if_pos h0,if_pos h0];exact⟨_,rfl,rfl⟩
 rw[if_neg (show ¬chkG l.1≠0 from fun k=>k h0),if_neg (show ¬chkG l.1≠0 from fun k=>k h0),if_neg (by omega)]
 have main: ∀(n k f:Nat) (s:RS) (w:Nt),k+n=l.2.length→n<f→JI l.1 s k→∃x,F.cr l f (prR s w).1 (prR s w).2.2.2.2.1.2.2.2.1.1 (prR s w).2.2.2.2.1.2.2.2.1.2.1 (prR s w).2.2.2.2.1.2.2.2.1.2.2 (prR s w).2.2.2.2.2.1 (prR s w).2.2.2.2.2.2.1 (prR s w).2.2.2.2.2.2.2 (prR s w).2.1 (prR s w).2.2.1 (prR s w).2.2.2.1 (prR s w).2.2.2.2.1.1 (prR s w).2.2.2.2.1.2.1 (prR s w).2.2.2.2.1.2.2.1 (prR s w).2.2.2.2.1.2.2.2.2 (k:Int)=some x∧(match jrun s (l.2.drop k)with|none=>x=(none,220)|some t=>∃w,x=(some (prR t w),0)):=by
  intro n
  induction n with
  |zero=>
   intro k f s w hk hf hJ
   obtain⟨f,rfl⟩: ∃f',f=f'+1:=⟨f-1,by omega⟩
   rw[F.cr,if_neg (by omega),List.drop_eq_nil_of_le (by omega)]
   exact⟨_,rfl,w,rfl⟩
  |succ n ih=>
   intro k f s w hk hf hJ
   obtain⟨f,rfl⟩: ∃f',f=f'+1:=⟨f-1,by omega⟩
   have hx:l.2[k]?=some l.2[k]:=List.getElem?_eq_getElem (by omega)
   have hsm:=hl.notes _ (List.mem_of_getElem? hx)
   obtain⟨b,u,e1,e2⟩:=R_step w l.2[k] hJ (by omega) hsm
   rw[F.cr,if_pos (by omega),A.ixn hx,Option.bind_some,show F.bZ _ _=_ from e1,Option.bind_some,A.dropx hx]
   unfold jrun
   cases hj:jst s l.2[k]with
   |none=>
    rw[hj]at e2;obtain rfl:=(show b=false from e2)
    exact⟨_,rfl,rfl⟩
   |some t=>
    rw[hj]at e2
    obtain⟨rfl,w',rfl⟩:=(show b=true∧∃w,u=prR t w from e2)
    rw[if_neg (by simp),A.gd1 (A.r64n (by omega))]
    exact ih (k+1) f t w' (by omega) (by omega) (jst_inv hJ hsm hj)
 obtain⟨x,h1,h2⟩:=main l.2.length 0 A.FU (s0 l.1) nilN (by omega) (by have:=FU_big;omega) (ji0 (c3 h0))
 refine⟨x,h1,?_⟩
 rw[List.drop_zero]at h2
 revert h2
 cases jrun (s0 l.1) l.2<;>exact fun h=>h
theorem R_Check (l:Lg)(hl:SmL l):F.dU l=some (jwh l).2:=by
 obtain⟨x,h1,h2⟩:=R_read l hl
 unfold F.dU
 rw[show F.ec l=some x from h1,Option.bind_some]
 unfold rdR at h2
 cases hs:(jwh l).1 with
 |none=>rw[hs]at h2;obtain rfl:=(show x=(none,(jwh l).2)from h2);rfl
 |some s=>
  rw[hs]at h2;obtain⟨w,rfl⟩:=(show ∃w,x=(some (prR s w),0)from h2)
  rw[(jwh_some hl hs).2.1];rfl
def thin22 (n:Nd):Bool:= !decide (((10:Int)<(n.2.2.1.length:Int)∨(100:Int)<(n.2.2.2.2.1.size:Int))∨(200:Int)<(n.2.2.2.1.2.2.size:Int))
theorem nodes_l1 (g:List Nd)(h:g.length≤50):F.bG g A.FU 0=some (g.all thin22):=
 A.lp0 g (fun f i=>F.bG g f i) (fun _ l=>some (l.all thin22))
  (fun f=>by rw[F.bG,if_neg (by omega)];rfl)
  (fun f k x hx hk ih=>by
   rw[F.bG,if_pos (by omega),A.ixn hx,Option.bind_some,A.bo,A.bo]
   have e:(x::g.drop (k+1)).all thin22=(thin22 x&&(g.drop (k+1)).all thin22):=rfl
   rw[e]
   unfold thin22
   by_cases c:((10:Int)<(x.2.2.1.length:Int)∨(100:Int)<(x.2.2.2.2.1.size:Int))∨(200:Int)<(x.2.2.2.1.2.2.size:Int)
   ·rw[if_pos (decide_eq_true c),decide_eq_true c];rfl
   ·rw[if_neg (fun k=>c (of_decide_eq_true k)),A.gd1 (A.r64n (by omega)),ih,decide_eq_false c];rfl)
  (by have:=FU_big;omega)
theorem nodes22 (g:List Nd):F.dN g=some (decide (g.length≤50)&&g.all thin22):=by
 unfold F.dN
 by_cases h:g.length≤50
 ·rw[if_neg (by omega),nodes_l1 g h,decide_eq_true h,Bool.true_and]
 ·rw[if_pos (by omega),decide_eq_false h,Bool.false_and]
theorem nodes22_sml {g:List Nd}(h:(decide (g.length≤50)&&g.all thin22)=true):g.length≤50∧Sml g:=by
 rw[Bool.and_eq_true,decide_eq_true_iff,List.all_eq_true]at h
 refine⟨h.1,by omega,fun n hn=>?_⟩
 have:=h.2 n hn
 unfold thin22 at this
 rw[Bool.not_eq_true',decide_eq_false_iff_not]at this
 omega
def thinD (d:Dl):Bool:=((decide (d.2.1.length≤50)&&d.2.1.all thin22)&&decide (((d.1).length:Int)≤50))&&decide (((d.2.2).length:Int)≤40)
theorem thin22_eq (d:Dl):F.d5 d=some (thinD d):=by
 unfold F.d5 thinD
 rw[nodes22,Option.bind_some]
 simp only[Bool.cond_eq_ite]
 cases (decide (d.2.1.length≤50)&&d.2.1.all thin22)<;>by_cases h:((d.1).length:Int)≤50<;>simp[h]
theorem thinD_sm {d:Dl}(h:thinD d=true):SmD d:=by
 unfold thinD at h
 rw[Bool.and_eq_true,Bool.and_eq_true,decide_eq_true_iff,decide_eq_true_iff]at h
 obtain⟨h1,h2⟩:=nodes22_sml h.1.1
 exact⟨h2,by omega,by omega,by omega⟩
def fewL (l:Lg):Bool:=(decide (l.1.length≤50)&&l.1.all thin22)&&(decide (l.2.length≤30)&&l.2.all fun n=>thinD n.2.2.2.1)
theorem few22_l1 (l:Lg)(h:l.2.length≤30):F.ch l A.FU 0=some (l.2.all fun n=>thinD n.2.2.2.1):=
 A.lp0 l.2 (fun f i=>F.ch l f i) (fun _ r=>some (r.all fun n=>thinD n.2.2.2.1))
  (fun f=>by rw[F.ch,if_neg (by omega)];rfl)
  (fun f k x hx hk ih=>by
   rw[F.ch,if_pos (by omega),A.ixn hx,Option.bind_some,show F.d5 x.2.2.2.1=_ from thin22_eq x.2.2.2.1,Option.bind_some]
   have e:(x::l.2.drop (k+1)).all (fun n=>thinD n.2.2.2.1)=(thinD x.2.2.2.1&&(l.2.drop (k+1)).all fun n=>thinD n.2.2.2.1):=rfl
   rw[e]
   cases thinD x.2.2.2.1 with
   |true=>rw[if_neg (by simp),A.gd1 (A.r64n (by omega)),ih,Bool.true_and]
   |false=>rfl)
  (by have:=FU_big;omega)
theorem few22 (l:Lg):F.es l=some (fewL l):=by
 unfold F.es fewL
 rw[nodes22,Option.bind_some]
 cases (decide (l.1.length≤50)&&l.1.all thin22)with
 |false=>rfl
 |true=>
  rw[Bool.not_true,cond_false,Bool.true_and]
  by_cases h:l.2.length≤30
  ·rw[if_neg (fun k=>by have:=of_decide_eq_true k;omega),few22_l1 l h,decide_eq_true h,Bool.true_and]
  ·rw[if_pos (decide_eq_true (by omega)),decide_eq_false h,Bool.false_and]
theorem fewL_sm {l:Lg}(h:fewL l=true):SmL l∧l.2.length≤30:=by
 unfold fewL at h
 obtain⟨ha,hb⟩:=(Bool.and_eq_true_iff ..).1 h
 rw[Bool.and_eq_true,decide_eq_true_iff,List.all_eq_true]at hb
 obtain⟨h1,h2⟩:=nodes22_sml ha
 exact⟨⟨h2,by omega,fun n hn=>thinD_sm (hb.2 n hn),by omega⟩,hb.1⟩
theorem live22:F.eM=some true:=by kernel_rfl
theorem Chn.mem: ∀{l:Hs} {g:List Nd} {c:Int} {g':List Nd} {c':Int},Chn g c l g' c'→∀x∈l,SmD x.2.2
 | [],_,_,_,_,_,x,hx=>by cases hx
 |y::l,g,c,g',c',h,x,hx=>by
  obtain⟨a1,a2,a3,a4,a5⟩:=h
  rcases List.mem_cons.1 hx with rfl|hx
  ·exact a2
  ·exact Chn.mem a5 x hx
theorem rul_lo {e:Int}: ∀{hs:Hs} {g:List Nd} {c:Int} {g':List Nd} {c':Int} (v:Int),Chn g c hs g' c'→(∀x∈hs,x.2.1≤e)→rul e g v hs=(g',v+(hs.length:Int),0)
 | [],g,c,g',c',v,h,_=>by obtain⟨rfl,_,_⟩:=h;unfold rul;simp
 |x::hs,g,c,g',c',v,h,hl=>by
  obtain⟨a1,a2,a3,a4,a5⟩:=h
  have h1:=hl x (List.mem_cons_self ..)
  unfold rul
  rw[if_neg (by omega),rul_lo (v+1) a5 (fun y hy=>hl y (List.mem_cons_of_mem _ hy)),List.length_cons]
  congr 2;omega
structure Asked (l:Lg) (d:Dl) (cut:Int) (s:RS):Prop where
 wh:(jwh l).1=some s
 op:s.op=none
 cu:s.cut<cut∧1≤cut∧cut≤1073741824
 ok:(apV s.g d).2=0
 res:jof l eL (askJ l d cut)=((l.1,l.2++[(1,s.ver,cut,d,0)]),0)
def askd (s:RS)(d:Dl)(cut:Int):RS:=⟨s.g,s.ver,s.cut,some (1,s.ver,cut,d,0),s.hs⟩
theorem Asked.jst {l:Lg}{d:Dl}{cut:Int}{s:RS}(h:Asked l d cut s):jst s (1,s.ver,cut,d,0)=some (askd s d cut):=by
 have h1:=h.cu
 unfold Go.Proofs.YtfdfcaiiengdfaaGreatDoor.jst
 rw[if_pos rfl,if_pos ⟨by rw[h.op];rfl,rfl,rfl,h1.1,h1.2.2,h.ok⟩];rfl
theorem turns_sz {l:Lg}(hl:SmL l):(jTurns l).length≤1000∧∀x∈jTurns l,SzD x.1:=by
 unfold jTurns
 cases hs:(jwh l).1 with
 |none=>exact⟨by simp,fun x hx=>by cases hx⟩
 |some s=>
  have J:=(jwh_some hl hs).1
  refine⟨by rw[List.length_map];have:=J.len;have:=hl.len;omega,fun x hx=>?_⟩
  obtain⟨y,hy,rfl⟩:=List.mem_map.1 hx
  exact(J.chn.mem y hy).sz
theorem rises_l1 (l:Lg): ∀{hs:Hs} {g:List Nd} {c:Int} {g':List Nd} {c':Int} (k:Nat),Chn g c hs g' c'→k+hs.length≤2000→F.o l (nm k (hs.map tn)) k c=F.o l [] ((k+hs.length:Nat):Int) c'
 | [],g,c,g',c',k,h,_=>by obtain⟨_,rfl,_⟩:=h;rfl
 |x::hs,g,c,g',c',k,h,hl=>by
  obtain⟨a1,a2,a3,a4,a5⟩:=h
  rw[List.length_cons]at hl
  rw[List.map_cons]
  refine Eq.trans (b:=F.o l (nm (k+1) (hs.map tn)) ((k:Int)+1) x.2.1) ?_ ((rises_l1 l (k+1) a5 (by omega)).trans ?_)
  ·show F.o l (((k:Int)+1,tn x)::nm (k+1) (hs.map tn)) k c=_
   generalize nm (k+1) (hs.map tn)=r
   conv=>lhs;unfold F.o
   rw[A.gd1 (A.r64n (by omega)),if_neg (by rw[A.bo,decide_eq_true_iff];rintro(h|h);exact h rfl;exact absurd h (by show ¬x.2.1≤c;omega))];rfl
  rw[List.length_cons]
  congr 1;omega
theorem journalRises_plain {P:Prop}(l:Lg)(_:P):F.b7 l=some true:=by
 unfold F.b7
 rw[live22,Option.bind_some,if_neg (by simp),show F.es l=_ from few22 l,Option.bind_some]
 cases h1:fewL l with
 |false=>rfl
 |true=>
  obtain⟨hl,hl2⟩:=fewL_sm h1
  rw[if_neg (by simp),show F.dU l=_ from R_Check l hl,Option.bind_some]
  unfold F.bt
  by_cases h0:(jwh l).2=0
  case neg=>rw[if_pos (decide_eq_true h0)]
  rw[if_neg (fun k=>(of_decide_eq_true k) h0),show F.bp l=_ from P_Turns l hl,Option.bind_some,P_it _ (by have:=(turns_sz hl).1;omega),Option.bind_some]
  cases hs:(jwh l).1 with
  |none=>exact absurd h0 (jwh_none hs)
  |some s=>
   obtain⟨J,_,hr,hc⟩:=jwh_some hl hs
   have hj:=J.len;have hl3:=hl.len
   have e1:jTurns l=s.hs.map tn:=by unfold jTurns;rw[hs]
   rw[e1]
   refine(rises_l1 l 0 J.chn (by omega)).trans ?_
   rw[F.o,show F.cZ l=_ from P_Now l hl,Option.bind_some,show F.cg l 1073741824=_ from P_At l 1073741824 hl,Option.bind_some]
   have e2:jNow l=(s.g,s.ver,0):=by unfold jNow;rw[hs]
   have e3:jAt l 1073741824=(s.g,0+(s.hs.length:Int),0):=by
    unfold jAt;rw[hs]
    show(if _ then _ else _)=_
    rw[if_neg (by omega)]
    refine rul_lo 0 J.chn fun x hx=>?_
    have h2:=(J.chn.le.2 x hx).2;have h3:=J.cut.2;omega
   rw[e2,e3]
   simp only[J.ver]
   simp
end Go.Proofs.YtfdfcaiiengdfaaGreatDoor
end
section
namespace Go.Z
open Go.RowKit
def OpenT (P:Program)(T:TypeId)(t:Ty):Prop:=
 P.cellsOf T=t.size∧∀(H:Type) (enc:TypeId×Value→H) (w:World) (base:Nat) (spare:Nat→Bool) (held:Bool) (fuel:Nat) (cs:List Value) (x:DataW H×List MemPlace),
  DataW.trod enc P w base spare held fuel T cs=some x→∃y:t.den,t.rep w (nt []) cs y
section
variable {P:Program}{T e:TypeId}
theorem ot_int {k:IntKind}(hc:P.cellsOf T=1)(ht:P.underlying T=some (.int k)):OpenT P T (.int k):=⟨hc,fun H enc w base spare held fuel cs x h=>by
 obtain⟨n,rfl,_,hw⟩:=DataW.trod_int ht h
 refine⟨n,rfl,?_⟩
 simp only[Lit.wf,Bool.and_eq_true,decide_eq_true_eq]at hw
 exact hw⟩
theorem ot_str (hc:P.cellsOf T=1)(ht:P.underlying T=some .string):OpenT P T .str:=⟨hc,fun H enc w base spare held fuel cs x h=>by
 obtain⟨s,rfl,_,hs⟩:=DataW.trod_string ht h
 exact⟨s,rfl,hs⟩⟩
def OpenPs (P:Program):List (TypeId×Nat)→Nat→Ty→Prop
 | [],_,_=>False
 | [(T,o')],o,t=>o'=o∧OpenT P T t
 |(T,o')::p::ps,o,.pair a b=>o'=o∧OpenT P T a∧OpenPs P (p::ps) (o+a.size) b
 |_::_::_,_,_=>False
theorem open_ps {H:Type}{enc:TypeId×Value→H}{w:World}{base:Nat}{spare:Nat→Bool}{held:Bool}{fuel:Nat}{cs:List Value}:
  ∀(ps:List (TypeId×Nat)) (o:Nat) (t:Ty),OpenPs P ps o t→(∀p∈ps,∃x,DataW.trod enc P w base spare held fuel p.1 ((cs.drop p.2).take (P.cellsOf p.1))=some x)→∃y:t.den,t.rep w (nt []) ((cs.drop o).take t.size) y
 | [],_,_,h,_=>h.elim
 | [(T,o')],o,t,h,hx=>by
  obtain⟨rfl,⟨hc,ho⟩⟩:=h
  obtain⟨x,hx⟩:=hx (T,o') (List.mem_singleton.2 rfl)
  rw[←hc];exact ho _ _ _ _ _ _ _ _ _ hx
 |(T,o')::p::ps,o,.pair a b,h,hx=>by
  obtain⟨rfl,⟨hc,ho⟩,hr⟩:=h
  obtain⟨x,h1⟩:=hx (T,o') (List.mem_cons_self ..)
  obtain⟨ya,hya⟩:=ho _ _ _ _ _ _ _ _ _ h1
  obtain⟨yb,hyb⟩:=open_ps (p::ps) _ b hr fun q hq=>hx q (List.mem_cons_of_mem _ hq)
  refine⟨(ya,yb),_,_,?_,hya,hyb⟩
  show(cs.drop o').take (a.size+b.size)=_
  rw[hc,List.take_add,List.drop_drop]
 |_::_::_,_,.int _,h,_=>h.elim
 |_::_::_,_,.byte,h,_=>h.elim
 |_::_::_,_,.bool,h,_=>h.elim
 |_::_::_,_,.str,h,_=>h.elim
 |_::_::_,_,.slice _,h,_=>h.elim
theorem ot_struct {fs:List Field}{t:Ty}(hc:P.cellsOf T=t.size)(ht:P.underlying T=some (.struct fs.toArray))(h:OpenPs P (fs.map fun f=>(f.type,f.offset)) 0 t):OpenT P T t:=⟨hc,fun H enc w base spare held fuel cs x hx=>by
 obtain⟨xs,n,_,_,hl,hs,hf⟩:=DataW.trod_struct ht hx
 have hcs:cs=(cs.drop 0).take t.size:=by rw[List.drop_zero,List.take_of_length_le (by omega)]
 rw[hcs]
 refine open_ps (fuel:=n) (enc:=enc) (base:=base) (spare:=spare) (held:=held) _ 0 t h fun p hp=>?_
 obtain⟨f,hf1,rfl⟩:=List.mem_map.1 hp
 obtain⟨i,hi,he⟩:=List.getElem_of_mem hf1
 have h1:=hf i f (by rw[List.getElem?_toArray,List.getElem?_eq_getElem hi,he])
 rw[h1,List.getElem?_eq_getElem (by rw[hs];simpa using hi)]
 exact⟨_,rfl⟩⟩
theorem rows_of {t:Ty}{w:World}{g:Addr}: ∀(n:Nat),(∀i,i<n→∃(cs:List Value) (y:t.den),cs.length=t.size∧(∀j u,cs[j]?=some u→w.cell? (g.add (i*t.size+j))=some u)∧t.rep w (nt []) cs y)→
  ∃(cells:List Value) (ys:List t.den),ys.length=n∧cells.length=n*t.size∧(∀j u,cells[j]?=some u→w.cell? (g.add j)=some u)∧∀(i:Nat) (y:t.den),ys[i]?=some y→t.rep w (nt []) ((cells.drop (i*t.size)).take t.size) y
 |0,_=>⟨[],[],rfl,by simp,by simp,by simp⟩
 |n+1,h=>by
  obtain⟨cells,ys,h1,h2,h3,h4⟩:=rows_of n fun i hi=>h i (by omega)
  obtain⟨cs,y,c1,c2,c3⟩:=h n (by omega)
  refine⟨cells++cs,ys++[y],by simp[h1],by rw[List.length_append,h2,c1,Nat.succ_mul],fun j u hj=>?_,?_⟩
  ·by_cases hlt:j<cells.length
   ·rw[List.getElem?_append_left hlt]at hj;exact h3 j u hj
   ·rw[List.getElem?_append_right (by omega)]at hj
    have:=c2 _ u hj
    rwa[h2,show n*t.size+(j-n*t.size)=j by omega]at this
  ·refine rep_append (xs:=ys) (ys:=[y]) (by rw[h2,h1]) h4 fun i y' hi=>?_
   have:i=0:=by have:=(List.getElem?_eq_some_iff.1 hi).1;simp at this;omega
   subst this
   simp at hi;subst hi
   rw[Nat.zero_mul,List.drop_zero,List.take_of_length_le (by omega)];exact c3
theorem ot_slice {t:Ty}(hc:P.cellsOf T=1)(ht:P.underlying T=some (.slice e))(h:OpenT P e t):OpenT P T (.slice t):=⟨hc,fun H enc w base spare held fuel cs x hx=>by
 rcases DataW.trod_slice ht hx with⟨rfl,_⟩|⟨ad,len,cap,elems,rest,n,_,rfl,_,hb,hl,hm,hlen,hel,_,_⟩
 ·exact⟨[],rep_nil _⟩
 ·have each: ∀i,i<len→∃(cs:List Value) (y:t.den),cs.length=t.size∧(∀j u,cs[j]?=some u→w.cell? (ad.add (i*t.size+j))=some u)∧t.rep w (nt []) cs y:=fun i hi=>by
   have h1:=hel i hi
   rw[List.getElem?_eq_getElem (by omega),Option.bind_eq_some_iff]at h1
   obtain⟨cs',h2,h3⟩:=h1
   obtain⟨_,h4,h5⟩:=World.cells?_some h2
   obtain⟨y,hy⟩:=h.2 _ _ _ _ _ _ _ _ _ h3
   rw[h.1]at h4 h5
   refine⟨cs',y,h4,fun j u hj=>?_,hy⟩
   have hlt:=(List.getElem?_eq_some_iff.1 hj).1
   have:=h5 j (by omega)
   rw[add_add]at this
   rw[this,hj]
  obtain⟨cells,ys,h1,h2,h3,h4⟩:=rows_of len each
  by_cases hz:len=0
  ·subst hz
   have:ys=[]:=List.eq_nil_of_length_eq_zero h1
   subst this
   exact⟨[],some ad,cap,[],rfl,by simp,hm,by simp,.inl rfl,by simp⟩
  ·have hp:=pos_size t
   have hlt:0<cells.length:=by rw[h2];exact Nat.mul_pos (by omega) hp
   have h0:=h3 0 _ (List.getElem?_eq_getElem hlt)
   have hspot:=World.cell?_spot h0
   obtain⟨b,off,spot⟩:=ad
   simp only[Addr.add]at hspot
   subst hspot
   refine⟨ys,some ⟨b,off,none⟩,cap,cells,by rw[h1],by omega,hm,by rw[h1];exact h2,.inr ⟨b,off,rfl,by simp[nt],fun j u hj=>?_⟩,h4⟩
   have:=h3 j u hj
   rwa[Addr.add_lit]at this⟩
end
end Go.Z
end
section
namespace Go.Proofs.YtfdfcaiiengdfaaGreatDoor.journalRisesDone
open Go.ChangeShapes Go.WideShapes Go.ChangeAt Go.RowKit
set_option linter.unusedVariables false
theorem own:ownKnob Tryz.prog.godebug=none:=by kernel_rfl
theorem laidOut:laidOutB Tryz.prog=true:=by kernel_rfl
theorem ot3:Z.OpenT Tryz.prog 3 A.ti:=Z.ot_int (by kernel_rfl) Tryz.underlying3
theorem ot28:Z.OpenT Tryz.prog 28 A.TI:=Z.ot_slice (by kernel_rfl) Tryz.underlying28 ot3
theorem ot2:Z.OpenT Tryz.prog 2 A.ti:=Z.ot_int (by kernel_rfl) Tryz.underlying2
theorem ot9:Z.OpenT Tryz.prog 9 Z.Ty.str:=Z.ot_str (by kernel_rfl) Tryz.underlying9
theorem ot69:Z.OpenT Tryz.prog 69 T68:=Z.ot_struct (by kernel_rfl) Tryz.underlying69 ⟨rfl,ot3,rfl,ot2,rfl,ot9⟩
theorem ot71:Z.OpenT Tryz.prog 71 T70:=Z.ot_struct (by kernel_rfl) Tryz.underlying71 ⟨rfl,ot3,rfl,ot3,rfl,ot28,rfl,ot69,rfl,ot9,rfl,ot2,rfl,ot3⟩
theorem ot22:Z.OpenT Tryz.prog 22 (Z.Ty.slice T70):=Z.ot_slice (by kernel_rfl) Tryz.underlying22 ot71
theorem ot24:Z.OpenT Tryz.prog 24 T23:=Z.ot_struct (by kernel_rfl) Tryz.underlying24 ⟨rfl,ot22⟩
theorem ot95:Z.OpenT Tryz.prog 95 T94:=Z.ot_struct (by kernel_rfl) Tryz.underlying95 ⟨rfl,ot3,rfl,ot3,rfl,ot3,rfl,ot2,rfl,ot69⟩
theorem ot29:Z.OpenT Tryz.prog 29 (Z.Ty.slice T94):=Z.ot_slice (by kernel_rfl) Tryz.underlying29 ot95
theorem ot31:Z.OpenT Tryz.prog 31 T30:=Z.ot_struct (by kernel_rfl) Tryz.underlying31 ⟨rfl,ot28,rfl,ot22,rfl,ot29⟩
theorem ot32:Z.OpenT Tryz.prog 32 A.ti:=Z.ot_int (by kernel_rfl) Tryz.underlying32
theorem ot56:Z.OpenT Tryz.prog 56 T55:=Z.ot_struct (by kernel_rfl) Tryz.underlying56 ⟨rfl,ot3,rfl,ot2,rfl,ot2,rfl,ot31,rfl,ot32⟩
theorem ot25:Z.OpenT Tryz.prog 25 (Z.Ty.slice T55):=Z.ot_slice (by kernel_rfl) Tryz.underlying25 ot56
theorem ot27:Z.OpenT Tryz.prog 27 T26:=Z.ot_struct (by kernel_rfl) Tryz.underlying27 ⟨rfl,ot24,rfl,ot25⟩
set_option maxRecDepth 100000 in
theorem laid_met (os:Os)(args:Array Value):laidMetH Tryz.prog Rows.journalRisesRow.laid (({World.holding Tryz.prog os ⟨#[],#[],[]⟩with heap:=((World.holding Tryz.prog os ⟨#[],#[],[]⟩).heap.modify 0 (A.putCells A.tabF)).modify 1 (A.putCells A.tabA)}:World).forCall (fun _ _=>0) ⟨#[],args,[]⟩).memory:=by
 rw[MakeChecks.laidMetH_plain _ _ _ (by kernel_rfl)]
 exact(LaidIn.of_run (l:=Rows.journalRisesRow.laid) [1,0] 8 (by kernel_rfl) (by kernel_rfl) (by kernel_rfl) (by kernel_rfl)).met
theorem of_laid {W:World}(h:laidMetH Tryz.prog Rows.journalRisesRow.laid W):Lib.Utf8Tabs 0 1 W:=by
 rw[MakeChecks.laidMetH_plain _ _ _ (by kernel_rfl)]at h
 have h1:=Lib.laidMet.reads h (.tail _ (.head _))
 rw[show Rows.laid_unicode_utf8_first=Lib.firstData from Pinned.utf8First_eq]at h1
 have h2:=Lib.laidMet.reads h (.head _)
 rw[show(Rows.laid_unicode_utf8_acceptRanges:DataW Unit)=Lib.acceptData by kernel_rfl]at h2
 exact utf8Tabs_of_readsT (U8Types.of196 Tryz.laysValid) ⟨by kernel_rfl,by kernel_rfl,by kernel_rfl,by kernel_rfl,by kernel_rfl,by kernel_rfl,by kernel_rfl⟩ h1 h2
set_option maxHeartbeats 1000000 in
set_option maxRecDepth 100000 in
theorem lifted (os:Os)(started:os.Started)(H:Type)(enc:TypeId×Value→H):
  ReturnsInHanded {} Tryz.checked os 4 .any (fun w args=>(Rows.journalRisesSpec.pre enc Tryz.prog Tryz.f4 [] false w args∧laidMetH Tryz.prog Rows.journalRisesRow.laid w)∧sizedMet enc Tryz.prog Tryz.f4 (OpenSpec.ofChange Rows.journalRisesSpec) false w args) (Rows.journalRisesSpec.post enc Tryz.prog Tryz.f4 false true false false):=by
 refine returnsInHanded_of_change_and (C:=Tryz.checked) (X:=fun w _=>laidMetH Tryz.prog Rows.journalRisesRow.laid w) (fun _ _ _ hh h=>h.of_heap hh) own started (by kernel_rfl) Tryz.func4
  (ChangeSpec.witness_shaped (enc:=enc) (C:=Tryz.checked) (os:=os) (X:=fun w _=>laidMetH Tryz.prog Rows.journalRisesRow.laid w) false ({World.holding Tryz.prog os ⟨#[],#[],[]⟩with heap:=((World.holding Tryz.prog os ⟨#[],#[],[]⟩).heap.modify 0 (A.putCells A.tabF)).modify 1 (A.putCells A.tabA)}) #[.agg #[.slice none 0 0,.slice none 0 0]] 16 rfl (World.shaped_of_RefB (by kernel_rfl) (by kernel_rfl)) (by kernel_rfl) (by kernel_rfl) (by kernel_rfl) (laid_met os _)) ?_
 intro W base args ds gs before hval0 hW hcnd _ hL _
 have hval: ∀(j:Nat) t v,Tryz.f4.params[j]?=some t→args[j]?=some v→Value.okWide Tryz.prog W .any base t v:=hval0
 have hW':=hW
 obtain⟨p,q,hA0,hV,rfl,hfz,hnd⟩:=hW
 have hA:DataW.TrodAll enc Tryz.prog W 0 (fun _=>true) true Tryz.f4.params.toList args.toList ds p:=hA0
 rw[Tryz.params4]at hA hval
 obtain⟨v0,vs0,d0,ds0,p0,q0,hargs,rfl,rfl,h0,r0⟩:=trodAll_cons hA
 obtain⟨rfl,rfl,rfl⟩:=trodAll_nil r0
 obtain rfl:args=#[v0]:=by cases args;simp_all
 obtain⟨rfl,rfl⟩:=trodVars_none hV
 have k0:=h0
 have lt0: ∀x∈p0,x.block<W.heap.size:=by obtain⟨m,hm⟩:=k0;exact DataW.trod_lt m _ _ _ hm
 obtain⟨fu0,hf0⟩:=h0
 obtain⟨x0,hx0⟩:=ot27.2 _ _ _ _ _ _ _ _ _ hf0
 obtain⟨cs0,rfl,_⟩:=okWide_struct Tryz.underlying27 (hval 0 27 v0 rfl rfl)
 replace hx0:T26.rep W (Z.nt []) cs0.toList x0:=hx0
 have hok0:=Z.rep_ok _ hx0
 obtain⟨ca1,cb2,he3,hr4,hr5⟩:=hx0
 obtain⟨A6,c7,he8,hn9,hn10⟩:=Z.rep_slice hr4
 rw[he8]at hr4
 have hle_A6:=Z.rep_le hr4
 obtain⟨A11,c12,he13,hn14,hn15⟩:=Z.rep_slice hr5
 rw[he13]at hr5
 have hle_A11:=Z.rep_le hr5
 have he0:cs0.toList=[.slice A6 x0.1.length c7,.slice A11 x0.2.length c12]:=by simp only[he3,he8,he13,List.cons_append,List.nil_append]
 obtain rfl:cs0=#[.slice A6 x0.1.length c7,.slice A11 x0.2.length c12]:=by rw[←Array.toArray_toList (xs:=cs0),he0]
 clear hA0 hval0
 have htab:=of_laid hL
 have hF:F.b7 x0=some true:=journalRises_plain x0 hok0
 have hct:=o_av x0 A6 c7 A11 c12 true hF
 refine(hct W (fun _=>True) (A.Hp.start ⟨A.Hall.sh hr4,A.Hall.sh hr5,A.Hall.tabs htab⟩)).mono ?_
 rintro e W' ⟨v,H',rfl,⟨rfl,rfl⟩,hh⟩
 have bel:=hh.ch.below
 exact⟨_,rfl,_,_,_,[],_,[],hW',trodAll_mk1 (shut_bool Tryz.underlying4 _),(trodAll_cons_mk (Below.trod laidOut (by kernel_rfl) (of_decide_eq_true (by kernel_rfl)) k0 bel lt0) trodAll_mk0),rfl,bel.frame _,fun h=>by cases h⟩
theorem over:Rows.journalRisesRow.holds Tryz.pinned (OpenSpec.ofChange Rows.journalRisesSpec):=
 OpenClaim.holds_of_wide 4 Tryz.f4 rfl rfl rfl rfl rfl rfl rfl ⟨rfl,rfl,rfl,rfl,rfl⟩ rfl rfl rfl rfl rfl (by kernel_rfl) Tryz.func4 (by kernel_rfl)
  (of_decide_eq_true (by kernel_rfl)) (by unfold Func.isWrapper;first|(rw[if_pos (by decide+kernel)];kernel_rfl)|(rw[if_neg (by decide+kernel)];exact⟨rfl,rfl⟩))
  (fun os started H enc _=>lifted os started H enc)
theorem proved:Rows.JournalRisesCardSaid:=
 Claim7.holds_tied_plain_at .later [] [.data,.pinned] true (true,"dcf9895dc01dd190c890d480028fc795193f40708716d6b48c7f1189faf6d443") false
  over (fun _ h=>by cases h) (by kernel_rfl) (fun _ h=>by cases h) journalRises_row_tie rfl ⟨rfl,rfl⟩ (by kernel_rfl) rfl
  (fun f fn hf hfn=>by
   obtain rfl:f=4:=Option.some.inj ((show Tryz.prog.funcNamed Rows.journalRisesRow.func=some 4 by kernel_rfl).symm.trans hf) |>.symm
   obtain rfl:fn=Tryz.f4:=(Option.some.inj (Tryz.func4.symm.trans hfn)).symm
   exact⟨by kernel_rfl,fun j t ht=>by
    rw[Tryz.params4]at ht
    have hm:t∈[27]:=by simpa using Array.mem_of_getElem? ht
    have hall:([27].all fun u=> !Tryz.prog.wantsStandIn u)=true:=by kernel_rfl
    exact(show Tryz.prog.wantsStandIn t=false by simpa using List.all_eq_true.1 hall t hm)⟩)
  (by kernel_rfl)
#print axioms proved
end Go.Proofs.YtfdfcaiiengdfaaGreatDoor.journalRisesDone
end
