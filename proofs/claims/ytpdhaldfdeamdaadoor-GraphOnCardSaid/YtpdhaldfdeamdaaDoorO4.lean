/- Plain: the first part of what may be wrong with a graph, by the reference: the same. * Plain: the order of nodes, by the program and by the reference: the same. * Plain: the depths of nodes, by the program and by the reference: the same. * Plain: the depths of nodes by the program: the same as the reference's. * Plain: the places of a graph and the steps from place to place, by the program and by the reference: the same. * Plain: the steps from place to place by the reference: the same as the program's. * Plain: whether a place comes back to itself, by the reference. * Plain: whether a place comes back to itself, by the reference: a search by breadth. * Plain: whether a place comes back to itself, by the program: a search by depth. * Plain: what is wrong with a graph, its order, its depths: the program and the reference tell the same. * Plain: the stable sort of rows that are in order already: nothing is moved. * Plain: how great the graphs of this cluster are. * Plain: the statement 'GraphSteps' on data. * Plain: in order stands each node. * Plain: a graph without its captures may be, if it may. * Plain: what is true of places and steps: depths, and how often an input is fed. * Plain: the first thing that passes a test; those that do not, in place. * Plain: the general part of Hv, for a seat that does not reach GraphOrder. * Plain: the reference's summaries: which may be, one behind the other, and what they make of a time. No walk of the program in sight. * Plain: ways in a graph, their depths, and what a way that comes back makes of a counter. No walk of the program in sight. * Plain: the statement 'GraphOn' on data. * A small logic over the model's walk, continued: arguments of a row, opened: what a reader treads reads as a datum. No program in sight. -/
import Derived.Test.YtpdhaldfdeamdaaDoorO3
import Derived.Test.YtpdhaldfdeamdaaDoorO0
import Derived.OpenShut
import Derived.ShutString
import Derived.ChangeOld
import Derived.ChangeArms
import Derived.DataReads
section
set_option linter.unusedVariables false
set_option linter.unusedSimpArgs false
namespace Go.Proofs.YtpdhaldfdeamdaaDoor
open Go.RowKit Go.Graph
theorem Named_eq (g:List Nd)(kd:Int)(s:ByteArray)(hg:g.length≤100):F.R08_Named g kd s=some (namedF kd s g):=
 A.lp0 g (fun f y=>F.R08_Named_l2 g kd s f y) (fun _ l=>some (namedF kd s l))
  (fun f=>by rw[F.R08_Named_l2,if_neg (by omega)];rfl)
  (fun f k x hx hk ih=>by
   rw[F.R08_Named_l2,if_pos (by omega),A.ixn hx,Option.bind_some,namedF]
   simp only[F.R08_Named_j1,A.ixn hx,Option.bind_some,A.gd1 (A.r64n (n:=k) (by omega)),ih,decide_eq_true_eq,kind,name]
   by_cases h1:x.2.1=kd
   ·by_cases h2:x.2.2.2.2.1=s<;>simp[h1,h2]
   ·simp[h1])
  (by have:=FU_big;omega)
theorem R_own_eq (g:List Nd)(i:Nat)(n:Nd)(hn:g[i]?=some n)(hg:g.length≤100)(hs:n.2.2.2.2.1.size≤5000):F.R08_own g (i:Int)=some (own g (i:Int) n):=by
 have hi:=(List.getElem?_eq_some_iff.1 hn).1
 have hj1:F.R08_own_j1 g n=some (ownT g n):=by
  unfold F.R08_own_j1 ownT
  simp only[A.ba,decide_eq_true_eq,Named_eq g _ _ hg,name_eq _ hs,Option.bind_some]
  by_cases h:n.2.1≠1∧n.2.1≠15
  ·rw[if_pos h,if_pos h]
  ·rw[if_neg h,if_neg h];cases named n.2.2.2.2.1<;>rfl
 have hj: ∀y,F.R08_own_j2 g n y=some (if y=true then false else if ownC n then false else ownT g n):=by
  intro y
  unfold F.R08_own_j2 ownC
  cases y with
  |true=>simp
  |false=>
   simp only[Bool.false_eq_true,if_false,A.bo,decide_eq_true_eq,hj1]
   by_cases h14:n.2.1=14
   ·simp only[h14,if_true,true_and,not_true_eq_false,ne_eq,false_and,or_false]
    by_cases hc:n.2.2.2.2.2.1<1∨8<n.2.2.2.2.2.1∨n.2.2.2.2.2.2<1∨4<n.2.2.2.2.2.2
    ·rw[if_pos (by omega),if_pos hc]
    ·rw[if_neg (by omega),if_neg hc]
   ·simp only[h14,if_false,false_and,not_false_eq_true,ne_eq,true_and,false_or]
    by_cases hc: ¬n.2.2.2.2.2.1=0∨¬n.2.2.2.2.2.2=0
    ·rw[if_pos hc,if_pos hc]
    ·rw[if_neg hc,if_neg hc]
 have tail:(if insK n.2.1<0 then F.R08_own_j2 g n true else F.R08_own_j2 g n (decide ((n.2.2.1.length:Int)≠insK n.2.1)))=some (if insK n.2.1<0∨(n.2.2.1.length:Int)≠insK n.2.1 then false else if ownC n then false else ownT g n):=by
  simp only[hj,decide_eq_true_eq]
  by_cases h1:insK n.2.1<0
  ·rw[if_pos h1,if_pos trivial,if_pos (.inl h1)]
  ·by_cases h2:(n.2.2.1.length:Int)≠insK n.2.1
   ·rw[if_neg h1,if_pos h2,if_pos (.inr h2)]
   ·have hb: ¬(insK n.2.1<0∨(n.2.2.1.length:Int)≠insK n.2.1):=fun h=>h.elim h1 h2
    rw[if_neg h1,if_neg h2,if_neg hb]
 unfold F.R08_own own
 rw[A.ixn hn,Option.bind_some]
 simp only[R08_Ins_eq,Option.bind_some,A.bo,decide_eq_true_eq]
 by_cases h1:n.1<1∨255<n.1
 ·rw[if_pos h1,hj,if_pos rfl,if_pos (by omega)]
 ·rw[if_neg h1]
  by_cases h0:(0:Int)<(i:Int)
  ·rw[if_pos h0,A.gd1 ⟨by omega,by omega⟩]
   have hp:g[i-1]?=some g[i-1]:=List.getElem?_eq_getElem (by omega)
   generalize g[i-1]=q at hp
   have e:(i:Int)-1=((i-1:Nat):Int):=by omega
   rw[e,A.ixn hp,Option.bind_some,at_some rfl hp]
   by_cases h2:n.1≤q.1
   ·rw[if_pos h2,hj,if_pos rfl,if_pos (by omega)]
   ·rw[if_neg h2,tail]
    by_cases hb:insK n.2.1<0∨(n.2.2.1.length:Int)≠insK n.2.1
    ·rw[if_pos hb,if_pos (by omega)]
    ·have hc: ¬(n.1<1∨255<n.1∨(0:Int)<(i:Int)∧n.1≤q.1∨insK n.2.1<0∨(n.2.2.1.length:Int)≠insK n.2.1):=by omega
     rw[if_neg hb,if_neg hc]
  ·rw[if_neg h0,tail]
   by_cases hb:insK n.2.1<0∨(n.2.2.1.length:Int)≠insK n.2.1
   ·rw[if_pos hb,if_pos (by omega)]
   ·have hc: ¬(n.1<1∨255<n.1∨(0:Int)<(i:Int)∧n.1≤(at_ g ((i:Int)-1)).1∨insK n.2.1<0∨(n.2.2.1.length:Int)≠insK n.2.1):=by omega
    rw[if_neg hb,if_neg hc]
def okR (g:List Nd):Nat→List Nd→Bool
 |_,[]=>true
 |k,n::r=>own g (k:Int) n&&okR g (k+1) r
theorem parts_l5 (g:List Nd)(hg:g.length≤100)(hf: ∀x,x∈g→x.2.2.2.2.1.size≤5000):F.R08_parts_l5 g A.FU 0=if okR g 0 g=true then F.R08_parts_l4 g A.FU 0 else some 80:=
 A.lp0 g (fun f y=>F.R08_parts_l5 g f y) (fun k l=>if okR g k l=true then F.R08_parts_l4 g A.FU 0 else some 80)
  (fun f=>by rw[F.R08_parts_l5,if_neg (by omega)];rfl)
  (fun f k x hx hk ih=>by
   rw[F.R08_parts_l5,if_pos (by omega),R_own_eq g k x hx hg (hf x (List.mem_of_getElem? hx)),Option.bind_some,A.gd1 (A.r64n (by omega)),ih,okR]
   cases own g (k:Int) x<;>simp)
  (by have:=FU_big;omega)
theorem parts_l4 (g:List Nd)(hg:g.length≤100)(hf: ∀x,x∈g→x.2.2.2.1.2.2.size≤5000):F.R08_parts_l4 g A.FU 0=if g.all (fun n=>decide (chk n.2.1 n.2.2.2.1=0))=true then F.R08_parts_l3 g A.FU 0 else some 60:=
 A.lp0 g (fun f y=>F.R08_parts_l4 g f y) (fun _ l=>if l.all (fun n=>decide (chk n.2.1 n.2.2.2.1=0))=true then F.R08_parts_l3 g A.FU 0 else some 60)
  (fun f=>by rw[F.R08_parts_l4,if_neg (by omega)];rfl)
  (fun f k x hx hk ih=>by
   rw[F.R08_parts_l4,if_pos (by omega),A.ixn hx,Option.bind_some,Option.bind_some,show F.R06_Check x.2.1 (x.2.2.2.1.1,x.2.2.2.1.2.1,x.2.2.2.1.2.2)=_ from R06_Check_eq x.2.1 x.2.2.2.1 (hf x (List.mem_of_getElem? hx)),Option.bind_some,List.all_cons]
   by_cases h:chk x.2.1 x.2.2.2.1=0
   ·rw[if_neg (fun h2=>h2 h),A.gd1 (A.r64n (by omega)),ih,decide_eq_true h,Bool.true_and]
   ·rw[if_pos h,decide_eq_false h,Bool.false_and,if_neg (by simp)])
  (by have:=FU_big;omega)
theorem idx_get {g:List Nd}{id:Int}(h:0≤idx g id): ∃n,g[(idx g id).toNat]?=some n∧at_ g (idx g id)=n∧n.1=id:=by
 rcases idx_cases z0 g id with⟨h1,_⟩|⟨i,n,h1,h2,h3,_⟩
 ·omega
 ·exact⟨n,by rw[h1];exact h2,at_some h1 h2,h3⟩
theorem parts_l3 (g:List Nd)(hg:g.length≤100)(hf: ∀x,x∈g→x.2.2.1.length≤5000):F.R08_parts_l3 g A.FU 0=if g.all (fun n=>n.2.2.1.all (inOk g))=true then some 0 else some 80:=
 A.lp0 g (fun f y=>F.R08_parts_l3 g f y) (fun _ l=>if l.all (fun n=>n.2.2.1.all (inOk g))=true then some 0 else some 80)
  (fun f=>by rw[F.R08_parts_l3,if_neg (by omega)];rfl)
  (fun f k x hx hk ih=>by
   rw[F.R08_parts_l3,if_pos (by omega)]
   have hlen:=hf x (List.mem_of_getElem? hx)
   have loop:=A.lp0 x.2.2.1 (fun f2 y=>F.R08_parts_l2 (F.R08_parts_l3 g f) g (k:Int) f2 y) (fun _ l=>if l.all (inOk g)=true then F.R08_parts_l3 g f ((k:Int)+1)else some 80)
    (fun f2=>by rw[F.R08_parts_l2,A.ixn hx,Option.bind_some,if_neg (by omega),A.gd1 (A.r64n (by omega))];rfl)
    (fun f2 j y hy hj2 ih2=>by
     rw[F.R08_parts_l2,A.ixn hx,Option.bind_some,if_pos (by omega),Option.bind_some,A.ixn hy,Option.bind_some,index_eq g y hg,Option.bind_some,List.all_cons]
     simp only[F.R08_parts_j1,if_true,decide_eq_true_eq,A.gd1 (A.r64n (n:=j) (by omega)),ih2]
     by_cases h0:idx g y<0
     ·have:inOk g y=false:=by unfold inOk;rw[if_pos h0]
      rw[if_pos h0,this];simp
     ·obtain⟨n,h1,h2,_⟩:=idx_get (g:=g) (id:=y) (by omega)
      have e:inOk g y=decide (n.2.1≠15):=by unfold inOk;rw[if_neg h0,h2]
      rw[if_neg h0,A.ixg (by omega) h1,Option.bind_some,e]
      by_cases h15:n.2.1=15<;>simp[h15])
    (by have:=FU_big;omega)
   rw[loop,ih,List.all_cons]
   cases x.2.2.1.all (inOk g)with
   |true=>rw[if_pos rfl,Bool.true_and]
   |false=>rw[if_neg Bool.false_ne_true,Bool.false_and,if_neg Bool.false_ne_true])
  (by have:=FU_big;omega)
def lastOf (g:List Nd)(k:Nat):Int:=if k=0 then 0 else(at_ g ((k:Int)-1)).1
def BadP (g:List Nd)(k:Nat)(n:Nd):Prop:=n.1≤lastOf g k∨ownQ n=false∨((n.2.1=1∨n.2.1=15)∧twiceF (g.take k) n=true)
theorem lastOf_s {g:List Nd}{k:Nat}{n:Nd}(h:g[k]?=some n):lastOf g (k+1)=n.1:=by
 unfold lastOf;rw[if_neg (by omega),at_some (k:=k) (by omega) h]
theorem okL_iff (g:List Nd): ∀(m k:Nat),k+m=g.length→(okL g k (lastOf g k) (g.drop k)=true↔∀i n,k≤i→g[i]?=some n→¬BadP g i n)
 |0,k,h=>by
  rw[List.drop_eq_nil_of_le (by omega),okL]
  exact⟨fun _ i n hi hn=>by have:=(List.getElem?_eq_some_iff.1 hn).1;omega,fun _=>rfl⟩
 |m+1,k,h=>by
  have hx:g[k]?=some g[k]:=List.getElem?_eq_getElem (by omega)
  generalize g[k]=x at hx
  have ih:=okL_iff g m (k+1) (by omega)
  rw[lastOf_s hx]at ih
  rw[A.dropx hx,okL]
  by_cases hb:BadP g k x
  ·have hb':x.1≤lastOf g k∨ownQ x=false∨((x.2.1=1∨x.2.1=15)∧twiceF (g.take k) x=true):=hb
   rw[if_pos hb']
   exact⟨fun h=>(by cases h),fun h=>absurd hb (h k x (Nat.le_refl _) hx)⟩
  ·have hb': ¬(x.1≤lastOf g k∨ownQ x=false∨((x.2.1=1∨x.2.1=15)∧twiceF (g.take k) x=true)):=hb
   rw[if_neg hb',ih]
   refine⟨fun h i n hi hn=>?_,fun h i n hi hn=>h i n (by omega) hn⟩
   rcases Nat.eq_or_lt_of_le hi with rfl|h2
   ·rw[hx]at hn;injection hn with hn;subst hn;exact hb
   ·exact h i n h2 hn
theorem okR_iff (g:List Nd): ∀(m k:Nat),k+m=g.length→(okR g k (g.drop k)=true↔∀i n,k≤i→g[i]?=some n→own g (i:Int) n=true)
 |0,k,h=>by
  rw[List.drop_eq_nil_of_le (by omega),okR]
  exact⟨fun _ i n hi hn=>by have:=(List.getElem?_eq_some_iff.1 hn).1;omega,fun _=>rfl⟩
 |m+1,k,h=>by
  have hx:g[k]?=some g[k]:=List.getElem?_eq_getElem (by omega)
  generalize g[k]=x at hx
  have ih:=okR_iff g m (k+1) (by omega)
  rw[A.dropx hx,okR,Bool.and_eq_true,ih]
  refine⟨fun h i n hi hn=>?_,fun h=>⟨h k x (Nat.le_refl _) hx,fun i n hi hn=>h i n (by omega) hn⟩⟩
  rcases Nat.eq_or_lt_of_le hi with rfl|h2
  ·rw[hx]at hn;injection hn with hn;subst hn;exact h.1
  ·exact h.2 i n h2 hn
theorem inc_of {g:List Nd}(h: ∀i n,g[i]?=some n→lastOf g i<n.1):Inc g:=by
 unfold Inc
 have key: ∀(d i:Nat) (a b:Nd),g[i]?=some a→g[i+d+1]?=some b→a.1<b.1:=by
  intro d
  induction d with
  |zero=>intro i a b ha hb;have:=h _ b hb;rw[lastOf_s ha]at this;exact this
  |succ d ih=>
   intro i a b ha hb
   have hl:=(List.getElem?_eq_some_iff.1 hb).1
   have hc:g[i+d+1]?=some g[i+d+1]:=List.getElem?_eq_getElem (by omega)
   have h1:=ih i a _ ha hc
   have h2:=h _ b hb
   rw[show i+(d+1)+1=(i+d+1)+1 by omega,lastOf_s hc]at h2
   omega
 refine List.pairwise_iff_getElem.2 fun i j hi hj hij=>?_
 refine key (j-i-1) i _ _ (List.getElem?_eq_getElem hi) ?_
 rw[show i+(j-i-1)+1=j by omega]
 exact List.getElem?_eq_getElem hj
theorem namedF_first (kd:Int)(s:ByteArray): ∀(l:List Nd),(∃(j:Nat) (n:Nd),l[j]?=some n∧n.2.1=kd∧n.2.2.2.2.1=s∧(namedF kd s l)=(n.1,true)∧∀(i:Nat) (m:Nd),i<j→l[i]?=some m→¬(m.2.1=kd∧m.2.2.2.2.1=s))∨(namedF kd s l=(0,false)∧∀m∈l,¬(m.2.1=kd∧m.2.2.2.2.1=s))
 | []=>.inr ⟨rfl,by simp⟩
 |x::r=>by
  unfold namedF
  by_cases h:x.2.1=kd∧x.2.2.2.2.1=s
  ·rw[if_pos h]
   exact .inl ⟨0,x,rfl,h.1,h.2,rfl,fun i m hi=>by omega⟩
  ·have h': ¬(kind x=kd∧name x=s):=h
   rw[if_neg h']
   rcases namedF_first kd s r with⟨j,n,h1,h2,h3,h4,h5⟩|⟨h1,h2⟩
   ·refine .inl ⟨j+1,n,h1,h2,h3,h4,fun i m hi hm=>?_⟩
    cases i with
    |zero=>injection hm with hm;subst hm;exact h
    |succ i=>exact h5 i m (by omega) hm
   ·refine .inr ⟨h1,fun m hm=>?_⟩
    rcases List.mem_cons.1 hm with rfl|hm
    ·exact h
    ·exact h2 m hm
theorem twice_iff {l:List Nd}{n:Nd}:twiceF l n=true↔∃m∈l,m.2.1=n.2.1∧m.2.2.2.2.1=n.2.2.2.2.1:=by
 simp only[twiceF,List.any_eq_true,Bool.and_eq_true,decide_eq_true_eq]
theorem own_iff {g:List Nd}(hi:Inc g){k:Nat}{n:Nd}(hn:g[k]?=some n)(hl:lastOf g k<n.1):own g (k:Int) n=true↔¬BadP g k n:=by
 have hname:(n.2.1=1∨n.2.1=15)→((namedF n.2.1 n.2.2.2.2.1 g).1=n.1↔¬twiceF (g.take k) n=true):=fun _=>by
  rcases namedF_first n.2.1 n.2.2.2.2.1 g with⟨j,m,h1,h2,h3,h4,h5⟩|⟨_,h2⟩
  ·rw[h4]
   have hjk:j≤k:=by
    rcases Nat.lt_or_ge k j with h|h
    ·exact absurd ⟨rfl,rfl⟩ (h5 k n h hn)
    ·exact h
   constructor
   ·intro he ht
    have:j=k:=hi.inj h1 hn he
    subst this
    obtain⟨q,hq,h6⟩:=twice_iff.1 ht
    obtain⟨i,hiq⟩:=List.mem_iff_getElem?.1 hq
    rw[List.getElem?_take]at hiq
    split at hiq
    ·rename_i hij;exact h5 i q hij hiq h6
    ·cases hiq
   ·intro ht
    rcases Nat.lt_or_ge j k with h|h
    ·exact absurd (twice_iff.2 ⟨m,List.mem_iff_getElem?.2 ⟨j,by rw[List.getElem?_take,if_pos h];exact h1⟩,h2,h3⟩) ht
    ·obtain rfl:j=k:=by omega
     rw[hn]at h1;injection h1 with h1;rw[h1]
  ·exact absurd ⟨rfl,rfl⟩ (h2 n (List.mem_of_getElem? hn))
 have hprev: ¬((0:Int)<(k:Int)∧n.1≤(at_ g ((k:Int)-1)).1):=fun h=>by
  unfold lastOf at hl;rw[if_neg (by omega)]at hl;omega
 unfold own BadP ownQ
 by_cases h1:n.1<1∨255<n.1∨insK n.2.1<0∨(n.2.2.1.length:Int)≠insK n.2.1
 ·rw[if_pos (by omega),if_pos h1]
  exact⟨fun h=>(by cases h),fun h=>absurd (.inr (.inl rfl)) h⟩
 ·have hc: ¬(n.1<1∨255<n.1∨(0:Int)<(k:Int)∧n.1≤(at_ g ((k:Int)-1)).1∨insK n.2.1<0∨(n.2.2.1.length:Int)≠insK n.2.1):=by omega
  rw[if_neg hc,if_neg h1]
  by_cases h2:ownC n
  ·rw[if_pos h2,if_pos h2]
   exact⟨fun h=>(by cases h),fun h=>absurd (.inr (.inl rfl)) h⟩
  ·rw[if_neg h2,if_neg h2]
   unfold ownT
   by_cases h3:n.2.1=1∨n.2.1=15
   ·rw[if_neg (by omega),if_pos h3,Bool.and_eq_true,decide_eq_true_eq,hname h3]
    constructor
    ·rintro⟨a,b⟩ (h|h|h)
     ·omega
     ·rw[a]at h;cases h
     ·exact b h.2
    ·intro h
     refine⟨?_,fun ht=>h (.inr (.inr ⟨h3,ht⟩))⟩
     cases hq:named n.2.2.2.2.1 with
     |true=>rfl
     |false=>exact absurd (.inr (.inl hq)) h
   ·rw[if_pos (by omega),if_neg h3]
    constructor
    ·rintro a (h|h|h)
     ·omega
     ·rw[a]at h;cases h
     ·exact h3 h.1
    ·intro h
     cases hq:decide (n.2.2.2.2.1=ByteArray.mk #[])with
     |true=>rfl
     |false=>exact absurd (.inr (.inl hq)) h
theorem own_last {g:List Nd}{k:Nat}{n:Nd}(h:own g (k:Int) n=true):lastOf g k<n.1:=by
 unfold own at h
 by_cases hc:n.1<1∨255<n.1∨(0:Int)<(k:Int)∧n.1≤(at_ g ((k:Int)-1)).1∨insK n.2.1<0∨(n.2.2.1.length:Int)≠insK n.2.1
 ·rw[if_pos hc]at h;cases h
 ·unfold lastOf;split<;>omega
theorem ok_eq (g:List Nd):okL g 0 0 g=okR g 0 g:=by
 have hL:=okL_iff g g.length 0 (by omega)
 have hR:=okR_iff g g.length 0 (by omega)
 rw[List.drop_zero]at hL hR
 rw[show lastOf g 0=0 from rfl]at hL
 rw[Bool.eq_iff_iff,hL,hR]
 constructor
 ·intro h i n _ hn
  have hl: ∀i n,g[i]?=some n→lastOf g i<n.1:=fun i n hn=>by
   have:=h i n (by omega) hn
   exact Int.lt_of_not_ge fun h2=>this (.inl h2)
  exact(own_iff (inc_of hl) hn (hl i n hn)).2 (h i n (by omega) hn)
 ·intro h i n _ hn
  have hl: ∀i n,g[i]?=some n→lastOf g i<n.1:=fun i n hn=>own_last (h i n (by omega) hn)
  exact(own_iff (inc_of hl) hn (hl i n hn)).1 (h i n (by omega) hn)
theorem ok_inc {g:List Nd}(h:okR g 0 g=true):Inc g:=by
 have hR:=okR_iff g g.length 0 (by omega)
 rw[List.drop_zero]at hR
 exact inc_of fun i n hn=>own_last (hR.1 h i n (by omega) hn)
theorem parts_eq (g:List Nd)(hb:Few g):F.R08_parts g=if(32:Int)<(g.length:Int)then some 80 else if okR g 0 g=true then(if g.all (fun n=>decide (chk n.2.1 n.2.2.2.1=0))=true then(if g.all (fun n=>n.2.2.1.all (inOk g))=true then some 0 else some 80)else some 60)else some 80:=by
 have hl:=hb.1
 unfold F.R08_parts
 rw[parts_l5 g (by omega) (fun x hx=>(hb.2 x hx).2.1),parts_l4 g (by omega) (fun x hx=>(hb.2 x hx).2.2),parts_l3 g (by omega) (fun x hx=>(hb.2 x hx).1)]
end Go.Proofs.YtpdhaldfdeamdaaDoor
end
section
set_option linter.unusedVariables false
set_option linter.unusedSimpArgs false
namespace Go.Proofs.YtpdhaldfdeamdaaDoor
open Go.RowKit Go.Graph
theorem fed_of {g:List Nd}(h:g.all (fun n=>n.2.2.1.all (inOk g))=true):Fed g:=fun x hx k hk=>by
 have h1:=List.all_eq_true.1 (List.all_eq_true.1 h x hx) k hk
 unfold inOk at h1
 by_cases h0:idx g k<0
 ·rw[if_pos h0]at h1;cases h1
 ·omega
theorem bset_len {l:List Bool}{i:Nat}:(l.set i true).length=l.length:=List.length_set
theorem bget_get {l:List Bool}{i:Nat}(h:i<l.length):l[i]?=some (bget l (i:Int)):=by
 unfold bget;rw[Int.toNat_natCast,List.getElem?_eq_getElem h];rfl
theorem bix {l:List Bool}{i:Int}(h0:0≤i)(h:i<l.length):A.ix l i=some (bget l i):=by
 have e:i=((i.toNat:Nat):Int):=by omega
 rw[e];exact A.ixn (bget_get (by omega))
theorem iix {l:List Int}{i:Int}(h0:0≤i)(h:i<l.length):A.ix l i=some (iget l i):=by
 refine A.ixg h0 ?_
 unfold iget;rw[List.getElem?_eq_getElem (by omega)];rfl
theorem ready_eq (g:List Nd)(n:Nd)(done:List Bool)(hg:g.length≤100)(hd:done.length=g.length)(hl:n.2.2.1.length≤5000)(hf: ∀k∈n.2.2.1,0≤idx g k):F.R08_ready g n done=some (ready g done n):=
 A.lp0 n.2.2.1 (fun f y=>F.R08_ready_l2 g n done f y) (fun k l=>some (readyF g done n.2.1 l))
  (fun f=>by rw[F.R08_ready_l2,if_neg (by omega)];rfl)
  (fun f k x hx hk ih=>by
   have h1:=hf x (List.mem_of_getElem? hx)
   have h2:=(idx_le g x).2
   rw[F.R08_ready_l2,if_pos (by omega),readyF]
   simp only[F.R08_ready_j1,A.gd1 (A.r64n (n:=k) (by omega)),ih]
   by_cases h14:n.2.1=14
   ·simp[h14]
   ·rw[if_pos h14,A.ixn hx,Option.bind_some,index_eq g x hg,Option.bind_some,bix h1 (by omega),Option.bind_some]
    cases bget done (idx g x)<;>simp[h14])
  (by have:=FU_big;omega)
theorem order_l3 (g:List Nd)(hb:Few g)(hfed:Fed g)(k4:List Bool→List Int→Option (List Int×Bool))(done:List Bool)(l:List Int)(hd:done.length=g.length)(hl:l.length≤100):
  F.R08_order_l3 k4 g done l A.FU (-1) 0=if firstF g done 0 g (-1)<0 then some ([],false)else k4 (done.set (firstF g done 0 g (-1)).toNat true) (l++[firstF g done 0 g (-1)]):=
 A.lp g (fun f (a:Int) y=>F.R08_order_l3 k4 g done l f a y) (fun k t a=>if firstF g done k t a<0 then some ([],false)else k4 (done.set (firstF g done k t a).toNat true) (l++[firstF g done k t a])) (fun k a=> -1≤a∧a<g.length)
  (fun f a hp=>by
   rw[F.R08_order_l3,A.ba,if_neg (by simp),firstF]
   by_cases h:a<0
   ·rw[if_pos h,if_pos h]
   ·rw[if_neg h,if_neg h,bix (by omega) (by omega),Option.bind_some,A.gd1 (by simp only[List.length_cons,List.length_nil];omega)])
  (fun f a k x hx hk hp ih=>by
   have hlen:=hb.1
   rw[F.R08_order_l3,A.ba,if_pos (by simp;omega),firstF]
   simp only[F.R08_order_j2,F.R08_order_j1,A.gd1 (A.r64n (n:=k) (by omega)),Bool.false_eq_true,if_false]
   by_cases h:a<0
   ·by_cases hbd:bget done (k:Int)=true
    ·have e:(if(a<0∧bget done (k:Int)=false)∧ready g done x=true then(k:Int)else a)=a:=if_neg (by rw[hbd];simp)
     rw[e,if_pos h,bix (by omega) (by omega),Option.bind_some,hbd]
     simp only[Bool.not_true,Bool.false_eq_true,if_false]
     exact ih a hp
    ·rw[Bool.not_eq_true]at hbd
     have hrd:F.R08_ready g (x.1,x.2.1,x.2.2.1,(x.2.2.2.1.1,x.2.2.2.1.2.1,x.2.2.2.1.2.2),x.2.2.2.2.1,x.2.2.2.2.2.1,x.2.2.2.2.2.2) done=some (ready g done x):=ready_eq g x done (by omega) hd (hb.in hx) (hfed x (List.mem_of_getElem? hx))
     by_cases hr:ready g done x=true
     ·have e:(if(a<0∧bget done (k:Int)=false)∧ready g done x=true then(k:Int)else a)=k:=if_pos ⟨⟨h,hbd⟩,hr⟩
      rw[e,if_pos h,bix (by omega) (by omega),Option.bind_some,hbd]
      simp only[Bool.not_false,if_true,A.ixn hx,Option.bind_some]
      rw[hrd,Option.bind_some,if_pos hr];exact ih k (by omega)
     ·have e:(if(a<0∧bget done (k:Int)=false)∧ready g done x=true then(k:Int)else a)=a:=if_neg (fun h2=>hr h2.2)
      rw[e,if_pos h,bix (by omega) (by omega),Option.bind_some,hbd]
      simp only[Bool.not_false,if_true,A.ixn hx,Option.bind_some]
      rw[hrd,Option.bind_some,if_neg hr];exact ih a hp
   ·have e:(if(a<0∧bget done (k:Int)=false)∧ready g done x=true then(k:Int)else a)=a:=if_neg (fun h2=>h h2.1.1)
    rw[e,if_neg h];exact ih a hp)
  (by have:=FU_big;have:=hb.1;omega) (-1) (by omega)
def ordR (g:List Nd)(r:Nat)(done:List Bool)(l:List Int):List Int×Bool:=match orderF g r done l with
 |some l'=>(l',true)
 |none=>([],false)
theorem order_l4 (g:List Nd)(hb:Few g)(hfed:Fed g): ∀(r f:Nat) (done:List Bool) (l:List Int),r<f→l.length+r=g.length→done.length=g.length→F.R08_order_l4 g f done l=some (ordR g r done l)
 |0,f,done,l,hf,hl,hd=>by
  obtain⟨f,rfl⟩: ∃f',f=f'+1:=⟨f-1,by omega⟩
  rw[F.R08_order_l4,if_neg (by omega)];rfl
 |r+1,f,done,l,hf,hl,hd=>by
  obtain⟨f,rfl⟩: ∃f',f=f'+1:=⟨f-1,by omega⟩
  have:=hb.1
  rw[F.R08_order_l4,if_pos (by omega),order_l3 g hb hfed _ done l hd (by omega),ordR,orderF]
  by_cases h:firstF g done 0 g (-1)<0
  ·rw[if_pos h,if_pos h]
  ·rw[if_neg h,if_neg h,order_l4 g hb hfed r f _ _ (by omega) (by simp only[List.length_append,List.length_cons,List.length_nil];omega) (by rw[bset_len];exact hd)]
   rfl
theorem R_order_eq (g:List Nd)(hb:Few g)(hfed:Fed g):F.R08_order g=some (ordR g g.length (List.replicate g.length false) []):=by
 have:=hb.1
 unfold F.R08_order
 rw[A.gd1 (by omega),order_l4 g hb hfed g.length A.FU _ [] (by have:=FU_big;omega) (by simp) (by simp)]
def readyP (m:List (Int×Bool))(n:Nd):Bool:=n.2.2.1.all fun k=>Z.mget false m k||decide (n.2.1=14)
def findP (m:List (Int×Bool)):List Nd→Option Nd
 | []=>none
 |n::r=>if Z.mget false m n.1=false∧readyP m n=true then some n else findP m r
def sortS (g:List Nd):Nat→List (Int×Bool)→List Int→List Int
 |0,_,xs=>xs
 |r+1,m,xs=>match findP m g with
  |some n=>sortS g r (Z.mins m n.1 true) (xs++[n.1])
  |none=>sortS g r m xs
abbrev PlR:=Option (Bool×((List (Int×Nd))×(List Int)×(List (Int×Int))))
theorem sort_l4 (g:List Nd)(hb:Few g)(k29:List Int→List (Int×Bool)→Int→PlR)(xs:List Int)(m:List (Int×Bool))(y:Int)(hxs:xs.length≤100)(hy:0≤y∧y≤100):
  F.graph_plan_sort_l4 k29 g xs m y A.FU 0=match findP m g with
   |some n=>k29 (xs++[n.1]) (Z.mins m n.1 true) (y+1)
   |none=>k29 xs m (y+1):=
 A.lp0 g (fun f i=>F.graph_plan_sort_l4 k29 g xs m y f i) (fun _ l=>match findP m l with
   |some n=>k29 (xs++[n.1]) (Z.mins m n.1 true) (y+1)
   |none=>k29 xs m (y+1))
  (fun f=>by rw[F.graph_plan_sort_l4,if_neg (by omega),F.graph_plan_sort_j1,A.gd1 ⟨by omega,by omega⟩];rfl)
  (fun f k x hx hk ih=>by
   have hlen:=hb.1
   have hin:=hb.in hx
   rw[F.graph_plan_sort_l4,if_pos (by omega),A.ixn hx,Option.bind_some,A.lt,findP]
   have loop:=A.lp0 x.2.2.1 (fun f2 j=>F.graph_plan_sort_l3 k29 (F.graph_plan_sort_l4 k29 g xs m y f) xs m y (k:Int) x f2 j) (fun _ l=>if l.all (fun k=>Z.mget false m k||decide (x.2.1=14))=true then k29 (xs++[x.1]) (Z.mins m x.1 true) (y+1)else F.graph_plan_sort_l4 k29 g xs m y f ((k:Int)+1))
    (fun f2=>by rw[F.graph_plan_sort_l3,if_neg (by omega),A.gd1 (by simp only[List.length_cons,List.length_nil];omega),F.graph_plan_sort_j1,A.gd1 ⟨by omega,by omega⟩];rfl)
    (fun f2 j z hz hj ih2=>by
     rw[F.graph_plan_sort_l3,if_pos (by omega),A.ixn hz,Option.bind_some,A.lt,A.gd1 (A.r64n (by omega)),ih2,F.graph_plan_sort_j2,A.gd1 (A.r64n (by omega)),List.all_cons]
     cases hm:Z.mget false m z<;>by_cases h14:x.2.1=14<;>simp[h14])
    (by have:=FU_big;omega)
   rw[loop,F.graph_plan_sort_j2,A.gd1 (A.r64n (by omega)),ih]
   cases hm:Z.mget false m x.1 with
   |true=>
    have e: ¬((true:Bool)=false∧readyP m x=true):=fun h=>by cases h.1
    rw[if_pos rfl,if_neg e]
   |false=>
    rw[if_neg Bool.false_ne_true]
    by_cases hr:readyP m x=true
    ·have e:(false:Bool)=false∧readyP m x=true:=⟨rfl,hr⟩
     rw[if_pos (show(x.2.2.1.all fun k=>Z.mget false m k||decide (x.2.1=14))=true from hr),if_pos e]
    ·have e: ¬((false:Bool)=false∧readyP m x=true):=fun h=>hr h.2
     rw[if_neg (show ¬(x.2.2.1.all fun k=>Z.mget false m k||decide (x.2.1=14))=true from hr),if_neg e])
  (by have:=FU_big;have:=hb.1;omega)
theorem sort_l5 (g:List Nd)(hb:Few g)(a0:(List (Int×Nd))×(List Int)×(List (Int×Int))): ∀(r f:Nat) (m:List (Int×Bool)) (xs:List Int) (y:Nat),r<f→y+r=g.length→xs.length≤y→F.graph_plan_sort_l5 a0 g f xs m (y:Int)=some (decide (((sortS g r m xs).length:Int)=(g.length:Int)),(a0.1,sortS g r m xs,a0.2.2))
 |0,f,m,xs,y,hf,hy,hx=>by
  obtain⟨f,rfl⟩: ∃f',f=f'+1:=⟨f-1,by omega⟩
  rw[F.graph_plan_sort_l5,if_neg (by omega)];rfl
 |r+1,f,m,xs,y,hf,hy,hx=>by
  obtain⟨f,rfl⟩: ∃f',f=f'+1:=⟨f-1,by omega⟩
  have:=hb.1
  rw[F.graph_plan_sort_l5,if_pos (by omega),sort_l4 g hb _ xs m y (by omega) (by omega),sortS]
  have e:(y:Int)+1=((y+1:Nat):Int):=by omega
  cases findP m g with
  |none=>simp only[];rw[e,sort_l5 g hb a0 r f m xs (y+1) (by omega) (by omega) (by omega)]
  |some n=>simp only[];rw[e,sort_l5 g hb a0 r f _ _ (y+1) (by omega) (by omega) (by simp only[List.length_append,List.length_cons,List.length_nil];omega)]
theorem sort_eq (g:List Nd)(hb:Few g)(m:List (Int×Nd)):F.graph_plan_sort (m,[],[]) g=some (decide (((sortS g g.length [] []).length:Int)=(g.length:Int)),(m,sortS g g.length [] [],[])):=by
 unfold F.graph_plan_sort
 exact sort_l5 g hb (m,[],[]) g.length A.FU [] [] 0 (by have:=FU_big;have:=hb.1;omega) (by omega) (by simp)
def Rel (g:List Nd)(done:List Bool)(m:List (Int×Bool)):Prop:=∀(i:Nat) (n:Nd),g[i]?=some n→Z.mget false m n.1=bget done (i:Int)
theorem ready_rel {g:List Nd}{done:List Bool}{m:List (Int×Bool)}(h:Rel g done m){n:Nd}(hf: ∀k∈n.2.2.1,0≤idx g k):readyP m n=ready g done n:=by
 unfold readyP ready
 generalize n.2.2.1=l at hf
 induction l with
 |nil=>rfl
 |cons k r ih=>
  rw[List.all_cons,ih fun x hx=>hf x (List.mem_cons_of_mem _ hx),readyF]
  have h0:=hf k (List.mem_cons_self ..)
  obtain⟨q,h1,h2,h3⟩:=idx_get h0
  have h4:=h _ q h1
  rw[h3,Int.toNat_of_nonneg h0]at h4
  rw[h4]
  cases bget done (idx g k)<;>by_cases h14:n.2.1=14<;>simp[h14]
theorem firstF_keep (g:List Nd)(done:List Bool): ∀(k:Nat) (l:List Nd) (a:Int),0≤a→firstF g done k l a=a
 |_,[],_,_=>rfl
 |k,x::r,a,h=>by
  unfold firstF
  rw[if_neg (fun h2=>by omega)]
  exact firstF_keep g done (k+1) r a h
theorem first_find {g:List Nd}{done:List Bool}{m:List (Int×Bool)}(h:Rel g done m)(hf:Fed g): ∀(r k:Nat),k+r=g.length→(firstF g done k (g.drop k) (-1)= -1∧findP m (g.drop k)=none)∨(∃(i:Nat) (n:Nd),firstF g done k (g.drop k) (-1)=(i:Int)∧g[i]?=some n∧findP m (g.drop k)=some n∧bget done (i:Int)=false)
 |0,k,hk=>by
  rw[List.drop_eq_nil_of_le (by omega)];exact .inl ⟨rfl,rfl⟩
 |r+1,k,hk=>by
  have hx:g[k]?=some g[k]:=List.getElem?_eq_getElem (by omega)
  generalize g[k]=x at hx
  rw[A.dropx hx,firstF,findP,h k x hx,ready_rel h (hf x (List.mem_of_getElem? hx))]
  by_cases hc:bget done (k:Int)=false∧ready g done x=true
  ·rw[if_pos hc,if_pos ⟨⟨by omega,hc.1⟩,hc.2⟩,firstF_keep _ _ _ _ _ (by omega)]
   exact .inr ⟨k,x,rfl,hx,rfl,hc.1⟩
  ·rw[if_neg hc,if_neg (fun h2=>hc ⟨h2.1.2,h2.2⟩)]
   exact first_find h hf r (k+1) (by omega)
def idAt (g:List Nd)(i:Int):Int:=(at_ g i).1
theorem rel_set {g:List Nd}(hi:Inc g){done:List Bool}{m:List (Int×Bool)}(h:Rel g done m)(hd:done.length=g.length){i:Nat}{n:Nd}(hn:g[i]?=some n):Rel g (done.set i true) (Z.mins m n.1 true):=fun j q hq=>by
 rw[Z.mget_ins]
 have hl:=(List.getElem?_eq_some_iff.1 hn).1
 by_cases e:q.1=n.1
 ·have:=hi.inj hq hn e
  subst this
  rw[if_pos e]
  unfold bget
  rw[Int.toNat_natCast,List.getElem?_set_self (by omega)];rfl
 ·rw[if_neg e,h j q hq]
  have hne:i≠j:=fun h2=>e (by subst h2;rw[hn]at hq;injection hq with hq;rw[hq])
  unfold bget
  rw[Int.toNat_natCast,List.getElem?_set_ne hne]
theorem sort_order {g:List Nd}(hi:Inc g)(hf:Fed g): ∀(r:Nat) (done:List Bool) (m:List (Int×Bool)) (l:List Int),Rel g done m→done.length=g.length→(∃l',orderF g r done l=some l'∧sortS g r m (l.map (idAt g))=l'.map (idAt g)∧l'.length=l.length+r)∨(orderF g r done l=none∧(sortS g r m (l.map (idAt g))).length <l.length+r)
 |0,done,m,l,_,_=>.inl ⟨l,rfl,rfl,rfl⟩
 |r+1,done,m,l,h,hd=>by
  rw[orderF,sortS]
  rcases first_find h hf g.length 0 (by omega)with⟨h1,h2⟩|⟨i,n,h1,h2,h3,h4⟩
  ·rw[List.drop_zero]at h1 h2
   rw[h1,if_pos (by omega),h2]
   refine .inr ⟨rfl,?_⟩
   simp only[]
   have stay: ∀(r:Nat) (xs:List Int),sortS g r m xs=xs:=by
    intro r
    induction r with
    |zero=>intro xs;rfl
    |succ r ih=>intro xs;rw[sortS,h2];exact ih xs
   rw[stay,List.length_map];omega
  ·rw[List.drop_zero]at h1 h3
   rw[h1,if_neg (by omega),h3,Int.toNat_natCast]
   simp only[]
   have e:l.map (idAt g)++[n.1]=(l++[(i:Int)]).map (idAt g):=by
    rw[List.map_append];simp only[List.map_cons,List.map_nil,idAt,at_some rfl h2]
   rw[e]
   rcases sort_order hi hf r (done.set i true) (Z.mins m n.1 true) (l++[(i:Int)]) (rel_set hi h hd h2) (by rw[bset_len];exact hd)with⟨l',h5,h6,h7⟩|⟨h5,h6⟩
   ·exact .inl ⟨l',h5,h6,by rw[h7];simp only[List.length_append,List.length_cons,List.length_nil];omega⟩
   ·exact .inr ⟨h5,by simp only[List.length_append,List.length_cons,List.length_nil]at h6;omega⟩
theorem rel_0 (g:List Nd):Rel g (List.replicate g.length false) []:=fun i n hn=>by
 unfold bget
 rw[Int.toNat_natCast,List.getElem?_replicate]
 split<;>rfl
theorem order_sort {g:List Nd}(hb:Few g)(hi:Inc g)(hf:Fed g)(m:List (Int×Nd)):(∃l,F.R08_order g=some (l,true)∧F.graph_plan_sort (m,[],[]) g=some (true,(m,l.map (idAt g),[]))∧l.length=g.length∧orderF g g.length (List.replicate g.length false) []=some l)∨(F.R08_order g=some ([],false)∧∃p,F.graph_plan_sort (m,[],[]) g=some (false,p)):=by
 rw[R_order_eq g hb hf,sort_eq g hb m,ordR]
 rcases sort_order hi hf g.length (List.replicate g.length false) [] [] (rel_0 g) (by simp)with⟨l,h1,h2,h3⟩|⟨h1,h2⟩
 ·rw[List.map_nil]at h2
  rw[h1,h2]
  left
  refine⟨l,rfl,?_,by simpa using h3,rfl⟩
  rw[List.length_map,decide_eq_true (by simp at h3;omega)]
 ·rw[List.map_nil]at h2
  rw[h1]
  right
  refine⟨rfl,(m,sortS g g.length [] [],[]),?_⟩
  rw[decide_eq_false (by simp at h2;omega)]
end Go.Proofs.YtpdhaldfdeamdaaDoor
end
section
set_option linter.unusedVariables false
set_option linter.unusedSimpArgs false
namespace Go.A
theorem mrg_any {α β:Type}[DecidableEq β]{body:α→Option (Option β)}{rest:Option β}{y:β}{p:α→Bool}: ∀{l:List α},(∀x∈l,body x=if p x=true then some (some y)else some none)→mrg body rest l=if l.any p=true then some y else rest
 | [],_=>rfl
 |x::l,h=>by
  have hx:=h x (List.mem_cons_self ..)
  have ih:=mrg_any (rest:=rest) (l:=l) fun z hz=>h z (List.mem_cons_of_mem _ hz)
  unfold mrg
  rw[hx,List.any_cons]
  cases hp:p x with
  |true=>
   simp only[Option.bind_some,if_true,Bool.true_or]
   rw[if_pos]
   rw[List.all_eq_true]
   intro z hz
   have hz2:=h z (List.mem_cons_of_mem _ hz)
   refine decide_eq_true ?_
   rw[hz2]
   cases p z<;>simp
  |false=>
   simp only[Option.bind_some,Bool.false_eq_true,if_false,Bool.false_or]
   exact ih
end Go.A
namespace Go.Proofs.YtpdhaldfdeamdaaDoor
open Go.RowKit Go.Graph
theorem R_depth_eq (n:Nd)(l:List Int)(h5:n.2.1=5∨n.2.1=9→2≤l.length)(hb: -1≤d0 l∧d0 l≤4):F.R08_depth n l=some (depthOf n l):=by
 have hj5:F.R08_depth_j5 n l (d0 l)=some (depthOf n l):=by
  unfold F.R08_depth_j5 depthOf depthA
  have hj2: ∀y,F.R08_depth_j2 y=some (capd y):=fun y=>by unfold F.R08_depth_j2 F.R08_depth_j1 capd;split<;>rfl
  have hj4: ∀y,(y=true↔n.2.1=5∨n.2.1=9)→F.R08_depth_j4 n l (d0 l) y=some (capd (if n.2.1=5∨n.2.1=9 then(if iget l 0≠iget l 1 then-1 else d0 l)else if n.2.1=11∨n.2.1=16∨n.2.1=15 then(if d0 l≠0 then-1 else d0 l)else d0 l)):=fun y hy=>by
   unfold F.R08_depth_j4 F.R08_depth_j3
   simp only[hj2,decide_eq_true_eq]
   by_cases h:n.2.1=5∨n.2.1=9
   ·have:=h5 h
    rw[if_pos (hy.2 h),if_pos h,iix (i:=0) (by omega) (by omega),Option.bind_some,iix (i:=1) (by omega) (by omega),Option.bind_some]
    by_cases e:iget l 0=iget l 1
    ·rw[if_neg (fun h=>h e),if_neg (fun h=>h e)]
    ·rw[if_pos e,if_pos e]
   ·rw[if_neg (fun h2=>h (hy.1 h2)),if_neg h]
    by_cases h11:n.2.1=11
    ·simp only[h11,if_true,true_or];split<;>rfl
    ·by_cases h16:n.2.1=16
     ·simp only[h16,if_true,true_or,or_true,if_false,Int.reduceEq];split<;>rfl
     ·by_cases h15:n.2.1=15
      ·simp only[h15,if_true,or_true,if_false,Int.reduceEq];split<;>rfl
      ·simp only[h11,h16,h15,if_false,or_self]
  simp only[hj2]
  by_cases h14:n.2.1=14
  ·rw[if_pos h14,if_pos h14]
  ·rw[if_neg h14,if_neg h14]
   by_cases h12:n.2.1=12
   ·rw[if_pos h12,if_pos h12,A.gd1 ⟨by omega,by omega⟩]
   ·rw[if_neg h12,if_neg h12]
    by_cases h13:n.2.1=13
    ·rw[if_pos h13,if_pos h13,A.gd1 ⟨by omega,by omega⟩]
    ·rw[if_neg h13,if_neg h13]
     by_cases h5':n.2.1=5
     ·rw[if_pos h5',hj4 _ (by simp[h5'])]
     ·rw[if_neg h5',hj4 _ (by simp[h5'])]
 unfold F.R08_depth
 by_cases h:(0:Int)<(l.length:Int)
 ·rw[if_pos h,iix (i:=0) (by omega) (by omega),Option.bind_some,d0_iget];exact hj5
 ·rw[if_neg h,d0_nil (l:=l) (by omega)];exact hj5
def Own (g:List Nd):Prop:=∀n,n∈g→ownQ n=true
theorem own_ins {n:Nd}(h:ownQ n=true):0≤insK n.2.1∧(n.2.2.1.length:Int)=insK n.2.1:=by
 unfold ownQ at h
 by_cases hc:n.1<1∨255<n.1∨insK n.2.1<0∨(n.2.2.1.length:Int)≠insK n.2.1
 ·rw[if_pos hc]at h;cases h
 ·omega
theorem own_id {n:Nd}(h:ownQ n=true):1≤n.1∧n.1≤255:=by
 unfold ownQ at h
 by_cases hc:n.1<1∨255<n.1∨insK n.2.1<0∨(n.2.2.1.length:Int)≠insK n.2.1
 ·rw[if_pos hc]at h;cases h
 ·omega
theorem own_D {n:Nd}(h:ownQ n=true):(n.2.1=14→1≤n.2.2.2.2.2.2∧n.2.2.2.2.2.2≤4)∧(n.2.1≠14→n.2.2.2.2.2.2=0):=by
 unfold ownQ at h
 by_cases hc:n.1<1∨255<n.1∨insK n.2.1<0∨(n.2.2.1.length:Int)≠insK n.2.1
 ·rw[if_pos hc]at h;cases h
 ·rw[if_neg hc]at h
  by_cases h2:ownC n
  ·rw[if_pos h2]at h;cases h
  ·unfold ownC at h2;omega
theorem insK_cases (k:Int)(h:0≤insK k):(k=1∧insK k=0)∨((k=5∨k=9)∧insK k=2)∨(k≠1∧k≠5∧k≠9∧insK k=1):=by
 unfold insK at h ⊢
 by_cases h1:k<1∨16<k
 ·rw[if_pos h1]at h;omega
 ·rw[if_neg h1]
  by_cases h2:k=1
  ·rw[if_pos h2];omega
  ·rw[if_neg h2]
   by_cases h3:k=5∨k=9
   ·rw[if_pos h3];omega
   ·rw[if_neg h3];omega
theorem own_len {n:Nd}(h:ownQ n=true):(n.2.1=1∧n.2.2.1.length=0)∨((n.2.1=5∨n.2.1=9)∧n.2.2.1.length=2)∨(n.2.1≠1∧n.2.1≠5∧n.2.1≠9∧n.2.2.1.length=1):=by
 have h1:=own_ins h
 rcases insK_cases n.2.1 h1.1 with h2|h2|h2<;>omega
theorem iset_len {l:List Int}{i:Nat}{v:Int}:(l.set i v).length=l.length:=List.length_set
theorem depths_l1 (g:List Nd)(l d:List Int)(y:Nat)(p:Nat)(x:Nd)(k5:List Int→Int→Option (List Int×Bool))(hb:Few g)(hfed:Fed g)(ho:Own g)(hd:d.length=g.length)(hib:InB d)(hp:l[y]?=some (p:Int))(hy:y<100)(hx:g[p]?=some x):
  F.R08_depths_l1 k5 g l d (y:Int) x A.FU [] 0=if depthOf x (inD g d x.2.2.1)<0 then some ([],false)else k5 (d.set p (depthOf x (inD g d x.2.2.1))) ((y:Int)+1):=by
 have hlen:=hb.1
 have hin:=hb.in hx
 have hpl:=(List.getElem?_eq_some_iff.1 hx).1
 have hxg:=List.mem_of_getElem? hx
 have loop:=A.lp x.2.2.1 (fun f (s:List Int) i=>F.R08_depths_l1 k5 g l d (y:Int) x f s i) (fun _ t s=>if depthOf x (s++inD g d t)<0 then some ([],false)else k5 (d.set p (depthOf x (s++inD g d t))) ((y:Int)+1)) (fun k s=>s=inD g d (x.2.2.1.take k))
  (fun f s hs=>by
   rw[List.take_of_length_le (Nat.le_refl _)]at hs
   subst hs
   have hdep:F.R08_depth (x.1,x.2.1,x.2.2.1,(x.2.2.2.1.1,x.2.2.2.1.2.1,x.2.2.2.1.2.2),x.2.2.2.2.1,x.2.2.2.2.2.1,x.2.2.2.2.2.2) (inD g d x.2.2.1)=some (depthOf x (inD g d x.2.2.1)):=R_depth_eq x (inD g d x.2.2.1) (fun h=>by rcases own_len (ho x hxg)with h2|h2|h2<;>simp only[inD,List.length_map]<;>omega) (hib.d0 g _)
   have e:(inD g d x.2.2.1++inD g d ([]:List Int))=inD g d x.2.2.1:=by simp[inD]
   rw[F.R08_depths_l1,if_neg (by omega),A.ixn hp,Option.bind_some,hdep,Option.bind_some,iix (by omega) (by omega),Option.bind_some,Option.bind_some,e,iix (by omega) (by rw[iset_len];omega),Option.bind_some,A.gd1 (A.r64n (by omega)),Int.toNat_natCast]
   have e2:iget (d.set p (depthOf x (inD g d x.2.2.1))) (p:Int)=depthOf x (inD g d x.2.2.1):=by
    unfold iget;rw[Int.toNat_natCast,List.getElem?_set_self (by omega)];rfl
   rw[e2])
  (fun f s k z hz hk hs ih=>by
   have h1:=hfed x hxg z (List.mem_of_getElem? hz)
   have h2:=(idx_le g z).2
   rw[F.R08_depths_l1,if_pos (by omega),A.ixn hz,Option.bind_some,index_eq g z (by omega),Option.bind_some,iix h1 (by omega),Option.bind_some]
   have hs2:s++[iget d (idx g z)]=inD g d (x.2.2.1.take (k+1)):=by rw[hs];exact inD_take hz
   rw[A.gd1 (by rw[hs];simp only[inD,List.length_map,List.length_take,List.length_cons,List.length_nil];omega),A.gd1 (A.r64n (by omega)),ih _ hs2]
   simp only[inD,List.map_cons,List.append_assoc,List.singleton_append])
  (by have:=FU_big;omega) [] (by simp[inD])
 rw[loop]
 rfl
theorem depths_l3 (g:List Nd)(d:List Int)(hb:Few g)(hfed:Fed g)(ho:Own g)(hd:d.length=g.length):F.R08_depths_l3 g d A.FU 0=if loopsF g d g=true then some (d,true)else some ([],false):=
 A.lp0 g (fun f y=>F.R08_depths_l3 g d f y) (fun _ t=>if loopsF g d t=true then some (d,true)else some ([],false))
  (fun f=>by rw[F.R08_depths_l3,if_neg (by omega)];rfl)
  (fun f k x hx hk ih=>by
   have hlen:=hb.1
   have hxg:=List.mem_of_getElem? hx
   rw[F.R08_depths_l3,if_pos (by omega),A.ixn hx,Option.bind_some,loopsF]
   simp only[F.R08_depths_j2,A.gd1 (A.r64n (n:=k) (by omega)),ih,decide_eq_true_eq]
   by_cases h14:x.2.1=14
   ·have hl:x.2.2.1.length=1:=by rcases own_len (ho x hxg)with h2|h2|h2<;>omega
    have hk0:x.2.2.1[0]?=some (iget x.2.2.1 0):=by
     unfold iget
     rw[show(0:Int).toNat=0 from rfl,List.getElem?_eq_getElem (by omega)];rfl
    have h1:=hfed x hxg _ (List.mem_of_getElem? hk0)
    have h2:=(idx_le g (iget x.2.2.1 0)).2
    rw[if_pos h14,show A.ix x.2.2.1 0=_ from A.ixn hk0,Option.bind_some,index_eq g _ (by omega),Option.bind_some,iix h1 (by omega),Option.bind_some]
    by_cases e:iget d (idx g (iget x.2.2.1 0))≠x.2.2.2.2.2.2
    ·rw[if_pos e]
     have e2:x.2.1=14∧iget d (idx g (iget x.2.2.1 0))≠x.2.2.2.2.2.2:=⟨h14,e⟩
     rw[if_pos e2,if_neg Bool.false_ne_true]
    ·rw[if_neg e]
     have e2: ¬(x.2.1=14∧iget d (idx g (iget x.2.2.1 0))≠x.2.2.2.2.2.2):=fun h=>e h.2
     rw[if_neg e2]
   ·have e2: ¬(x.2.1=14∧iget d (idx g (iget x.2.2.1 0))≠x.2.2.2.2.2.2):=fun h=>h14 h.1
    rw[if_neg h14,if_neg Bool.false_ne_true,if_neg e2])
  (by have:=FU_big;have:=hb.1;omega)
def Plc (g:List Nd)(l:List Int):Prop:=∀(i:Nat) (p:Int),l[i]?=some p→∃(k:Nat) (n:Nd),p=(k:Int)∧g[k]?=some n
theorem depths_l4 (g:List Nd)(l:List Int)(hb:Few g)(hfed:Fed g)(ho:Own g)(hl:l.length≤60)(hp:Plc g l):F.R08_depths g l=some (depths g l):=by
 have hlen:=hb.1
 have loop:=A.lp l (fun f (s:List Int) i=>F.R08_depths_l4 g l f s i) (fun _ t s=>match depthsF g t s with
  |some d=>if loopsF g d g=true then some (d,true)else some ([],false)
  |none=>some ([],false)) (fun k s=>s.length=g.length∧InB s)
  (fun f s hs=>by rw[F.R08_depths_l4,if_neg (by omega),depths_l3 g s hb hfed ho hs.1];rfl)
  (fun f s k x hx hk hs ih=>by
   obtain⟨q,n,rfl,hn⟩:=hp k x hx
   rw[F.R08_depths_l4,if_pos (by omega),A.ixn hx,Option.bind_some,A.ixn hn,Option.bind_some,depths_l1 g l s k q n _ hb hfed ho hs.1 hs.2 hx (by omega) hn,depthsF,at_some rfl hn]
   by_cases h:depthOf n (inD g s n.2.2.1)<0
   ·rw[if_pos h,if_pos h]
   ·rw[if_neg h,if_neg h,Int.toNat_natCast]
    exact ih _ ⟨by rw[iset_len];exact hs.1,hs.2.set q (by omega) (depthOf_le n _)⟩)
  (by have:=FU_big;omega) (List.replicate g.length 0) ⟨by simp,InB.rep _⟩
 unfold F.R08_depths depths
 rw[A.gd1 (by omega),loop]
 cases depthsF g l (List.replicate g.length 0)with
 |none=>rfl
 |some d=>simp only[];cases loopsF g d g<;>rfl
end Go.Proofs.YtpdhaldfdeamdaaDoor
end
section
set_option linter.unusedVariables false
set_option linter.unusedSimpArgs false
set_option synthInstance.maxSize 1000000
set_option synthInstance.maxHeartbeats 400000
namespace Go.Proofs.YtpdhaldfdeamdaaDoor
open Go.RowKit Go.Graph
def RelD (g:List Nd)(d:List Int)(dm:List (Int×Int)):Prop:=∀(i:Nat) (n:Nd),g[i]?=some n→Z.mget 0 dm n.1=iget d (i:Int)
theorem RelD.in {g:List Nd}{d:List Int}{dm:List (Int×Int)}(h:RelD g d dm){k:Int}(h0:0≤idx g k):Z.mget 0 dm k=iget d (idx g k):=by
 obtain⟨q,h1,_,h3⟩:=idx_get h0
 have h4:=h _ q h1
 rw[h3,Int.toNat_of_nonneg h0]at h4
 exact h4
theorem iget_nat {l:List Int}{i:Nat}(h:i<l.length):l[i]?=some (iget l (i:Int)):=by
 unfold iget;rw[Int.toNat_natCast,List.getElem?_eq_getElem h];rfl
theorem inD_at {g:List Nd}{d l:List Int}{i:Nat}{k:Int}(h:l[i]?=some k):iget (inD g d l) (i:Int)=iget d (idx g k):=by
 unfold iget
 rw[Int.toNat_natCast,inD,List.getElem?_map,h];rfl
theorem out_eq (g:List Nd)(d:List Int)(a0:(List (Int×Nd))×(List Int)×(List (Int×Int)))(n:Nd)(hr:RelD g d a0.2.2)(hib:InB d)(ho:ownQ n=true)(hf: ∀k∈n.2.2.1,0≤idx g k):
  ∃v b,F.graph_plan_out a0 n=some (v,b)∧((b=false∧depthOf n (inD g d n.2.2.1)<0)∨(b=true∧v=depthOf n (inD g d n.2.2.1)∧0≤v)):=by
 have hlen:=own_len ho
 have hD:=own_D ho
 unfold F.graph_plan_out
 by_cases h1:n.2.1=1
 ·have hl:n.2.2.1=[]:=List.eq_nil_of_length_eq_zero (by omega)
  rw[if_pos h1]
  refine⟨0,true,rfl,.inr ⟨rfl,?_,Int.le_refl _⟩⟩
  unfold depthOf depthA capd
  simp only[h1,hl,inD,List.map_nil,d0];simp
 ·rw[if_neg h1]
  by_cases h14:n.2.1=14
  ·rw[if_pos h14]
   have:=hD.1 h14
   refine⟨_,true,rfl,.inr ⟨rfl,?_,by omega⟩⟩
   unfold depthOf depthA capd
   rw[if_pos h14,if_neg (by omega)]
  ·rw[if_neg h14]
   have hpos:0<n.2.2.1.length:=by omega
   obtain⟨k0,hk0⟩: ∃k0,n.2.2.1[0]?=some k0:=⟨_,List.getElem?_eq_getElem hpos⟩
   have f0:=hf k0 (List.mem_of_getElem? hk0)
   have b0:=hib (idx g k0)
   have e0:d0 (inD g d n.2.2.1)=iget d (idx g k0):=by rw[←d0_iget];exact inD_at hk0
   rw[show A.ix n.2.2.1 0=_ from A.ixn hk0,Option.bind_some,A.lt,hr.in f0]
   have hj3: ∀y,(y=true↔(n.2.1=5∨n.2.1=9)∧iget (inD g d n.2.2.1) 0≠iget (inD g d n.2.2.1) 1)→∃v b,F.graph_plan_out_j3 n (iget d (idx g k0)) y=some (v,b)∧((b=false∧depthOf n (inD g d n.2.2.1)<0)∨(b=true∧v=depthOf n (inD g d n.2.2.1)∧0≤v)):=fun y hy=>by
    unfold F.graph_plan_out_j3 depthOf depthA
    rw[if_neg h14,e0]
    by_cases hyt:y=true
    ·have h2:=hy.1 hyt
     rw[if_pos hyt]
     refine⟨0,false,rfl,.inl ⟨rfl,?_⟩⟩
     rw[if_neg (by omega),if_neg (by omega),if_pos h2.1,if_pos h2.2];decide
    ·have h2: ¬((n.2.1=5∨n.2.1=9)∧iget (inD g d n.2.2.1) 0≠iget (inD g d n.2.2.1) 1):=fun h=>hyt (hy.2 h)
     rw[if_neg hyt]
     simp only[F.graph_plan_out_j1,F.graph_plan_out_j2,A.ba]
     by_cases h12:n.2.1=12
     ·rw[if_pos h12,if_pos h12,A.gd1 ⟨by omega,by omega⟩]
      unfold capd
      by_cases h4:4<iget d (idx g k0)+1
      ·exact⟨_,_,rfl,.inl ⟨decide_eq_false (by omega),by rw[if_pos h4];decide⟩⟩
      ·exact⟨_,_,rfl,.inr ⟨decide_eq_true (by omega),by rw[if_neg h4],by omega⟩⟩
     ·rw[if_neg h12,if_neg h12]
      by_cases h13:n.2.1=13
      ·rw[if_pos h13,if_pos h13,A.gd1 ⟨by omega,by omega⟩]
       unfold capd
       rw[if_neg (by omega)]
       by_cases h4:0≤iget d (idx g k0)-1
       ·exact⟨_,_,rfl,.inr ⟨decide_eq_true (by omega),rfl,h4⟩⟩
       ·exact⟨_,_,rfl,.inl ⟨decide_eq_false (by omega),by omega⟩⟩
      ·rw[if_neg h13,if_neg h13]
       have hz: ∀x:Int,n.2.1=11∨n.2.1=16∨n.2.1=15→∃v b,(some (iget d (idx g k0),decide (iget d (idx g k0)=0)):Option (Int×Bool))=some (v,b)∧((b=false∧capd (if n.2.1=5∨n.2.1=9 then if iget (inD g d n.2.2.1) 0≠iget (inD g d n.2.2.1) 1 then-1 else iget d (idx g k0)else if n.2.1=11∨n.2.1=16∨n.2.1=15 then if iget d (idx g k0)≠0 then-1 else iget d (idx g k0)else iget d (idx g k0))<0)∨(b=true∧v=capd (if n.2.1=5∨n.2.1=9 then if iget (inD g d n.2.2.1) 0≠iget (inD g d n.2.2.1) 1 then-1 else iget d (idx g k0)else if n.2.1=11∨n.2.1=16∨n.2.1=15 then if iget d (idx g k0)≠0 then-1 else iget d (idx g k0)else iget d (idx g k0))∧0≤v)):=fun _ hk=>by
        rw[if_neg (by omega),if_pos hk]
        by_cases h0:iget d (idx g k0)=0
        ·rw[h0];exact⟨_,_,rfl,.inr ⟨rfl,rfl,Int.le_refl _⟩⟩
        ·rw[if_pos h0];exact⟨_,_,rfl,.inl ⟨decide_eq_false h0,by decide⟩⟩
       by_cases h11:n.2.1=11
       ·rw[if_pos h11];exact hz 0 (.inl h11)
       ·rw[if_neg h11]
        by_cases h16:n.2.1=16
        ·rw[if_pos h16];exact hz 0 (.inr (.inl h16))
        ·rw[if_neg h16]
         by_cases h15:n.2.1=15
         ·rw[if_pos h15];exact hz 0 (.inr (.inr h15))
         ·rw[if_neg h15]
          refine⟨_,_,rfl,.inr ⟨decide_eq_true (by omega),?_,by omega⟩⟩
          by_cases h5:n.2.1=5∨n.2.1=9
          ·rw[if_pos h5,if_neg (fun h=>h2 ⟨h5,h⟩)];unfold capd;rw[if_neg (by omega)]
          ·rw[if_neg h5,if_neg (by omega)];unfold capd;rw[if_neg (by omega)]
   by_cases h2:(1:Int)<(n.2.2.1.length:Int)
   ·have h5:n.2.1=5∨n.2.1=9:=by omega
    obtain⟨k1,hk1⟩: ∃k1,n.2.2.1[1]?=some k1:=⟨_,List.getElem?_eq_getElem (by omega)⟩
    have f1:=hf k1 (List.mem_of_getElem? hk1)
    rw[if_pos h2,show A.ix n.2.2.1 1=_ from A.ixn hk1,Option.bind_some,A.lt,hr.in f1]
    refine hj3 _ ?_
    rw[decide_eq_true_eq,show iget (inD g d n.2.2.1) 0=_ from inD_at hk0,show iget (inD g d n.2.2.1) 1=_ from inD_at hk1]
    exact⟨fun h=>⟨h5,fun e=>h e.symm⟩,fun h e=>h.2 e.symm⟩
   ·rw[if_neg h2]
    exact hj3 false ⟨fun h=>(by cases h),fun h=>by omega⟩
theorem relD_set {g:List Nd}(hi:Inc g){d:List Int}{dm:List (Int×Int)}(h:RelD g d dm)(hd:d.length=g.length){i:Nat}{n:Nd}(hn:g[i]?=some n)(v:Int):RelD g (d.set i v) (Z.mins dm n.1 v):=fun j q hq=>by
 rw[Z.mget_ins]
 have hl:=(List.getElem?_eq_some_iff.1 hn).1
 by_cases e:q.1=n.1
 ·have:=hi.inj hq hn e
  subst this
  rw[if_pos e]
  unfold iget
  rw[Int.toNat_natCast,List.getElem?_set_self (by omega)];rfl
 ·rw[if_neg e,h j q hq]
  have hne:i≠j:=fun h2=>e (by subst h2;rw[hn]at hq;injection hq with hq;rw[hq])
  unfold iget
  rw[Int.toNat_natCast,List.getElem?_set_ne hne]
def KeyD (g:List Nd)(l:List Int)(dm:List (Int×Int)):Prop:=∀id,Z.mhas dm id=l.any fun p=>decide (idAt g p=id)
theorem depths_l3P (g:List Nd)(l:List Int)(hb:Few g)(hi:Inc g)(hfed:Fed g)(ho:Own g)(hl:l.length≤60)(hp:Plc g l): ∀(r k f:Nat) (d:List Int) (dm:List (Int×Int)),k+r=l.length→r<f→RelD g d dm→InB d→d.length=g.length→KeyD g (l.take k) dm→
  (∃d' dm',depthsF g (l.drop k) d=some d'∧F.graph_plan_depths_l3 (mapOf g,l.map (idAt g),[]) f dm (k:Int)=A.mrg (F.graph_plan_depths_b2 (mapOf g,l.map (idAt g),[]) dm') (some (true,(mapOf g,l.map (idAt g),dm'))) (mapOf g)∧RelD g d' dm'∧InB d'∧d'.length=g.length∧KeyD g l dm')∨
  (depthsF g (l.drop k) d=none∧∃p,F.graph_plan_depths_l3 (mapOf g,l.map (idAt g),[]) f dm (k:Int)=some (false,p))
 |0,k,f,d,dm,hk,hf,h1,h2,h3,h4=>by
  obtain⟨f,rfl⟩: ∃f',f=f'+1:=⟨f-1,by omega⟩
  left
  rw[List.take_of_length_le (by omega)]at h4
  refine⟨d,dm,by rw[List.drop_eq_nil_of_le (by omega)];rfl,?_,h1,h2,h3,h4⟩
  rw[F.graph_plan_depths_l3,if_neg (by simp only[List.length_map];omega)]
 |r+1,k,f,d,dm,hk,hf,h1,h2,h3,h4=>by
  obtain⟨f,rfl⟩: ∃f',f=f'+1:=⟨f-1,by omega⟩
  have hx:l[k]?=some l[k]:=List.getElem?_eq_getElem (by omega)
  generalize l[k]=x at hx
  obtain⟨q,n,rfl,hn⟩:=hp k x hx
  have hng:=List.mem_of_getElem? hn
  have hid:idAt g (q:Int)=n.1:=by unfold idAt;rw[at_some rfl hn]
  have e1:A.ix (l.map (idAt g)) (k:Int)=some n.1:=A.ixn (by rw[List.getElem?_map,hx,Option.map_some,hid])
  obtain⟨v,b,ho1,ho2⟩:=out_eq g d (mapOf g,l.map (idAt g),dm) n h1 h2 (ho n hng) (hfed n hng)
  have eF:F.graph_plan_depths_l3 (mapOf g,l.map (idAt g),[]) (f+1) dm (k:Int)=if(!b)=true then some (false,(mapOf g,l.map (idAt g),dm))else A.gd (Z.R64 ((k:Int)+1)) (F.graph_plan_depths_l3 (mapOf g,l.map (idAt g),[]) f (Z.mins dm n.1 v) ((k:Int)+1)):=by
   rw[F.graph_plan_depths_l3,if_pos (by simp only[List.length_map];omega)]
   simp only[e1,Option.bind_some,A.lt,hi.mget hn]
   rw[show F.graph_plan_out (mapOf g,l.map (idAt g),dm) (n.1,n.2.1,n.2.2.1,(n.2.2.2.1.1,n.2.2.2.1.2.1,n.2.2.2.1.2.2),n.2.2.2.2.1,n.2.2.2.2.2.1,n.2.2.2.2.2.2)=_ from ho1,Option.bind_some]
  rw[A.dropx hx,depthsF,at_some rfl hn,eF]
  rcases ho2 with⟨rfl,h5⟩|⟨rfl,h5,h6⟩
  ·right
   rw[if_pos (show depthOf n (n.2.2.1.map fun k=>iget d (idx g k))<0 from h5)]
   exact⟨rfl,_,if_pos rfl⟩
  ·subst h5
   rw[if_neg (show ¬depthOf n (n.2.2.1.map fun k=>iget d (idx g k))<0 by simp only[inD]at h6;omega),if_neg (by simp),A.gd1 (A.r64n (by omega)),Int.toNat_natCast]
   have:=depths_l3P g l hb hi hfed ho hl hp r (k+1) f (d.set q (depthOf n (inD g d n.2.2.1))) (Z.mins dm n.1 (depthOf n (inD g d n.2.2.1))) (by omega) (by omega) (relD_set hi h1 h3 hn _) (h2.set q h6 (depthOf_le n _)) (by rw[iset_len];exact h3) (fun id=>by
    rw[Z.mhas_ins,take_s hx,List.any_append,h4 id,List.any_cons,List.any_nil,Bool.or_false,hid,Bool.or_comm]
    congr 1
    exact decide_eq_decide.2 ⟨fun h=>h.symm,fun h=>h.symm⟩)
   exact this
theorem loopsF_any (g:List Nd)(d:List Int): ∀l,loopsF g d l= !(l.any fun x=>decide (x.2.1=14∧iget d (idx g (iget x.2.2.1 0))≠x.2.2.2.2.2.2))
 | []=>rfl
 |x::r=>by
  unfold loopsF
  rw[List.any_cons]
  by_cases h:x.2.1=14∧iget d (idx g (iget x.2.2.1 0))≠x.2.2.2.2.2.2
  ·rw[if_pos h,decide_eq_true h];rfl
  ·rw[if_neg h,decide_eq_false h,Bool.false_or];exact loopsF_any g d r
theorem depths_same (g:List Nd)(l:List Int)(hb:Few g)(hi:Inc g)(hfed:Fed g)(ho:Own g)(hl:l.length≤60)(hp:Plc g l):
  (∃d dm,F.R08_depths g l=some (d,true)∧F.graph_plan_depths (mapOf g,l.map (idAt g),[])=some (true,(mapOf g,l.map (idAt g),dm))∧RelD g d dm∧InB d∧d.length=g.length∧KeyD g l dm∧loopsF g d g=true∧depthsF g l (List.replicate g.length 0)=some d)∨
  (F.R08_depths g l=some ([],false)∧∃p,F.graph_plan_depths (mapOf g,l.map (idAt g),[])=some (false,p)):=by
 have h0:RelD g (List.replicate g.length 0) []:=fun i n hn=>by
  unfold iget;rw[Int.toNat_natCast,List.getElem?_replicate];split<;>rfl
 rw[depths_l4 g l hb hfed ho hl hp]
 unfold F.graph_plan_depths depths
 rcases depths_l3P g l hb hi hfed ho hl hp l.length 0 A.FU (List.replicate g.length 0) [] (by omega) (by have:=FU_big;omega) h0 (InB.rep _) (by simp) (fun id=>by simp[Z.mhas])with⟨d,dm,h1,h2,h3,h4,h5,h6⟩|⟨h1,p,h2⟩
 ·rw[List.drop_zero]at h1
  rw[h1]
  simp only[]
  have hm:A.mrg (F.graph_plan_depths_b2 (mapOf g,l.map (idAt g),[]) dm) (some (true,(mapOf g,l.map (idAt g),dm))) (mapOf g)=if(mapOf g).any (fun p=>decide (p.2.2.1=14∧iget d (idx g (iget p.2.2.2.1 0))≠p.2.2.2.2.2.2.2))=true then some (false,(mapOf g,l.map (idAt g),dm))else some (true,(mapOf g,l.map (idAt g),dm)):=by
   refine A.mrg_any fun p hp=>?_
   obtain⟨n,hn,rfl⟩:=List.mem_map.1 hp
   unfold F.graph_plan_depths_b2 F.graph_plan_depths_j1
   by_cases h14:n.2.1=14
   ·have hl1:n.2.2.1.length=1:=by rcases own_len (ho n hn)with h2|h2|h2<;>omega
    have hk0:n.2.2.1[0]?=some (iget n.2.2.1 0):=iget_nat (i:=0) (by omega)
    have f0:=hfed n hn _ (List.mem_of_getElem? hk0)
    rw[if_pos h14,show A.ix n.2.2.1 0=_ from A.ixn hk0,Option.bind_some,A.lt,h3.in f0]
    by_cases e:iget d (idx g (iget n.2.2.1 0))≠n.2.2.2.2.2.2
    ·rw[decide_eq_true e,if_pos rfl,decide_eq_true (And.intro h14 e),if_pos rfl]
    ·rw[decide_eq_false e,if_neg Bool.false_ne_true,decide_eq_false (fun h=>e h.2),if_neg Bool.false_ne_true]
   ·rw[if_neg h14,if_neg Bool.false_ne_true,decide_eq_false (fun h=>h14 h.1),if_neg Bool.false_ne_true]
  have hany:(mapOf g).any (fun p=>decide (p.2.2.1=14∧iget d (idx g (iget p.2.2.2.1 0))≠p.2.2.2.2.2.2.2))=g.any fun x=>decide (x.2.1=14∧iget d (idx g (iget x.2.2.1 0))≠x.2.2.2.2.2.2):=by
   unfold mapOf;rw[List.any_map];rfl
  have h2':F.graph_plan_depths_l3 (mapOf g,l.map (idAt g),[]) A.FU [] 0=_:=h2.trans hm
  rw[h2',hany,loopsF_any]
  cases hc:g.any fun x=>decide (x.2.1=14∧iget d (idx g (iget x.2.2.1 0))≠x.2.2.2.2.2.2)with
  |true=>right;exact⟨rfl,_,rfl⟩
  |false=>left;exact⟨d,dm,rfl,rfl,h3,h4,h5,h6,by rw[loopsF_any,hc];rfl,rfl⟩
 ·rw[List.drop_zero]at h1
  rw[h1]
  right
  exact⟨rfl,p,h2⟩
end Go.Proofs.YtpdhaldfdeamdaaDoor
end
section
set_option linter.unusedVariables false
set_option linter.unusedSimpArgs false
set_option synthInstance.maxSize 1000000
set_option synthInstance.maxHeartbeats 400000
namespace Go.Proofs.YtpdhaldfdeamdaaDoor
open Go.RowKit Go.Graph
theorem insS_len (g:List Nd)(d:List Int)(id:Int): ∀(k:Nat) (l:List Int),(insS g d id k l).length=l.length
 |_,[]=>rfl
 |k,x::r=>by unfold insS;rw[List.length_cons,List.length_cons,insS_len g d id (k+1) r]
theorem outS_len (n:Nd)(v:Int):(outS n v).length≤1:=by unfold outS;split<;>simp
theorem in2 {g:List Nd}(ho:Own g){n:Nd}(hn:n∈g):n.2.2.1.length≤2:=by rcases own_len (ho n hn)with h|h|h<;>omega
theorem spots_l2P (g:List Nd)(d:List Int)(a0:(List (Int×Nd))×(List Int)×(List (Int×Int)))(k8:List Sp→Int→Option (List Sp))(y:Nat)(x:Nd)(xs:List Sp)(hr:RelD g d a0.2.2)(hx:g[y]?=some x)(hl:x.2.2.1.length≤2)(hf: ∀k∈x.2.2.1,0≤idx g k)(hxs:xs.length≤1000)(hy:y≤100):
  F.graph_plan_spots_l2 k8 a0 (y:Int) x A.FU xs 0=k8 (xs++(insS g d x.1 0 x.2.2.1++outS x (iget d (y:Int)))) ((y:Int)+1):=
 A.lp x.2.2.1 (fun f (s:List Sp) i=>F.graph_plan_spots_l2 k8 a0 (y:Int) x f s i) (fun k t s=>k8 (s++(insS g d x.1 k t++outS x (iget d (y:Int)))) ((y:Int)+1)) (fun k s=>s.length≤1000+k)
  (fun f s hs=>by
   rw[F.graph_plan_spots_l2,if_neg (by omega),insS,List.nil_append,outS,A.lt,hr y x hx]
   simp only[F.graph_plan_spots_j1,A.gd1 (A.r64n (n:=y) (by omega))]
   by_cases h:x.2.1≠15
   ·rw[if_pos h,if_pos h,A.gd1 (by simp only[List.length_cons,List.length_nil];omega)]
   ·rw[if_neg h,if_neg h,List.append_nil])
  (fun f s k z hz hk hs ih=>by
   have h1:=hf z (List.mem_of_getElem? hz)
   rw[F.graph_plan_spots_l2,if_pos (by omega),A.ixn hz,Option.bind_some,A.lt,hr.in h1,A.gd1 (by simp only[List.length_cons,List.length_nil];omega),A.gd1 (A.r64n (by omega)),ih _ (by simp only[List.length_append,List.length_cons,List.length_nil];omega),insS]
   simp only[List.append_assoc,List.singleton_append,List.cons_append,List.nil_append])
  (by have:=FU_big;omega) xs (by omega)
theorem spotsP_eq (g:List Nd)(d:List Int)(a0:(List (Int×Nd))×(List Int)×(List (Int×Int)))(hb:Few g)(hfed:Fed g)(ho:Own g)(hr:RelD g d a0.2.2):F.graph_plan_spots a0 g=some (spots g d):=by
 have hlen:=hb.1
 have loop:=A.lp g (fun f (s:List Sp) i=>F.graph_plan_spots_l3 a0 g f s i) (fun k t s=>some (s++spotsF g d k t)) (fun k s=>s.length≤3*k)
  (fun f s hs=>by rw[F.graph_plan_spots_l3,if_neg (by omega),spotsF,List.append_nil])
  (fun f s k x hx hk hs ih=>by
   have hxg:=List.mem_of_getElem? hx
   have h2:=in2 ho hxg
   have h3:=outS_len x (iget d (k:Int))
   rw[F.graph_plan_spots_l3,if_pos (by omega),A.ixn hx,Option.bind_some,spots_l2P g d a0 _ k x s hr hx h2 (hfed x hxg) (by omega) (by omega),ih _ (by rw[List.length_append,List.length_append,insS_len];omega),spotsF]
   simp only[List.append_assoc])
  (by have:=FU_big;omega) [] (by simp)
 unfold F.graph_plan_spots
 rw[loop];rfl
theorem spots_l2R (g:List Nd)(d:List Int)(k8:List Sp→Int→Option (List Sp))(y:Nat)(x:Nd)(xs:List Sp)(hg:g.length≤100)(hd:d.length=g.length)(hx:g[y]?=some x)(hl:x.2.2.1.length≤2)(hf: ∀k∈x.2.2.1,0≤idx g k)(hxs:xs.length≤1000)(hy:y≤100):
  F.R08_spots_l2 k8 g d (y:Int) x A.FU xs 0=k8 (xs++(insS g d x.1 0 x.2.2.1++outS x (iget d (y:Int)))) ((y:Int)+1):=
 A.lp x.2.2.1 (fun f (s:List Sp) i=>F.R08_spots_l2 k8 g d (y:Int) x f s i) (fun k t s=>k8 (s++(insS g d x.1 k t++outS x (iget d (y:Int)))) ((y:Int)+1)) (fun k s=>s.length≤1000+k)
  (fun f s hs=>by
   have hyl:=(List.getElem?_eq_some_iff.1 hx).1
   rw[F.R08_spots_l2,if_neg (by omega),insS,List.nil_append,outS]
   simp only[F.R08_spots_j1,A.gd1 (A.r64n (n:=y) (by omega))]
   by_cases h:x.2.1≠15
   ·rw[if_pos h,if_pos h,iix (by omega) (by omega),Option.bind_some,A.gd1 (by simp only[List.length_cons,List.length_nil];omega)]
   ·rw[if_neg h,if_neg h,List.append_nil])
  (fun f s k z hz hk hs ih=>by
   have h1:=hf z (List.mem_of_getElem? hz)
   have h2:=(idx_le g z).2
   rw[F.R08_spots_l2,if_pos (by omega),A.ixn hz,Option.bind_some,index_eq g z hg,Option.bind_some,iix h1 (by omega),Option.bind_some,A.gd1 (by simp only[List.length_cons,List.length_nil];omega),A.gd1 (A.r64n (by omega)),ih _ (by simp only[List.length_append,List.length_cons,List.length_nil];omega),insS]
   simp only[List.append_assoc,List.singleton_append,List.cons_append,List.nil_append])
  (by have:=FU_big;omega) xs (by omega)
theorem spotsR_eq (g:List Nd)(d:List Int)(hb:Few g)(hfed:Fed g)(ho:Own g)(hd:d.length=g.length):F.R08_spots g d=some (spots g d):=by
 have hlen:=hb.1
 have loop:=A.lp g (fun f (s:List Sp) i=>F.R08_spots_l3 g d f s i) (fun k t s=>some (s++spotsF g d k t)) (fun k s=>s.length≤3*k)
  (fun f s hs=>by rw[F.R08_spots_l3,A.ba,if_neg (by simp),spotsF,List.append_nil])
  (fun f s k x hx hk hs ih=>by
   have hxg:=List.mem_of_getElem? hx
   have h2:=in2 ho hxg
   have h3:=outS_len x (iget d (k:Int))
   rw[F.R08_spots_l3,A.ba,if_pos (by simp only[decide_eq_true_eq];omega),A.ixn hx,Option.bind_some,spots_l2R g d _ k x s (by omega) hd hx h2 (hfed x hxg) (by omega) (by omega),ih _ (by rw[List.length_append,List.length_append,insS_len];omega),spotsF]
   simp only[List.append_assoc])
  (by have:=FU_big;omega) [] (by simp)
 unfold F.R08_spots
 rw[loop];rfl
abbrev Ed:=Pl×Pl×Sm
theorem five {P:Int→Prop}(h0:P 0)(h1:P 1)(h2:P 2)(h3:P 3)(h4:P 4)(d:Int)(hd:0≤d∧d≤4):P d:=by
 have:d=0∨d=1∨d=2∨d=3∨d=4:=by omega
 rcases this with rfl|rfl|rfl|rfl|rfl<;>assumption
theorem Id_eqP (d:Int)(hd:0≤d∧d≤4):F.summ_Id d=some (idP d):=five (P:=fun d=>F.summ_Id d=some (idP d)) (by kernel_rfl) (by kernel_rfl) (by kernel_rfl) (by kernel_rfl) (by kernel_rfl) d hd
theorem Enter_eqP (d:Int)(hd:0≤d∧d≤4):F.summ_Enter d=some (enterP d):=five (P:=fun d=>F.summ_Enter d=some (enterP d)) (by kernel_rfl) (by kernel_rfl) (by kernel_rfl) (by kernel_rfl) (by kernel_rfl) d hd
theorem Leave_eqP (d:Int)(hd:0≤d∧d≤4):F.summ_Leave d=some (leaveP d):=five (P:=fun d=>F.summ_Leave d=some (leaveP d)) (by kernel_rfl) (by kernel_rfl) (by kernel_rfl) (by kernel_rfl) (by kernel_rfl) d hd
theorem Next_eqP (d:Int)(hd:0≤d∧d≤4):F.summ_Next d=some (nextP d):=five (P:=fun d=>F.summ_Next d=some (nextP d)) (by kernel_rfl) (by kernel_rfl) (by kernel_rfl) (by kernel_rfl) (by kernel_rfl) d hd
theorem Id_eqR (d:Int)(hd:0≤d∧d≤4):F.R02_Id d=some (idP d):=five (P:=fun d=>F.R02_Id d=some (idP d)) (by kernel_rfl) (by kernel_rfl) (by kernel_rfl) (by kernel_rfl) (by kernel_rfl) d hd
theorem Enter_eqR (d:Int)(hd:0≤d∧d≤4):F.R02_Enter d=some (enterP d):=five (P:=fun d=>F.R02_Enter d=some (enterP d)) (by kernel_rfl) (by kernel_rfl) (by kernel_rfl) (by kernel_rfl) (by kernel_rfl) d hd
theorem Leave_eqR (d:Int)(hd:0≤d∧d≤4):F.R02_Leave d=some (leaveP d):=five (P:=fun d=>F.R02_Leave d=some (leaveP d)) (by kernel_rfl) (by kernel_rfl) (by kernel_rfl) (by kernel_rfl) (by kernel_rfl) d hd
theorem Next_eqR (d:Int)(hd:0≤d∧d≤4):F.R02_Next d=some (nextP d):=five (P:=fun d=>F.R02_Next d=some (nextP d)) (by kernel_rfl) (by kernel_rfl) (by kernel_rfl) (by kernel_rfl) (by kernel_rfl) d hd
theorem within_eqP (n:Nd)(d:Int)(hd:0≤d∧d≤4):F.graph_within n d=some (withinP n d):=by
 unfold F.graph_within withinP
 simp only[Id_eqP d hd,Enter_eqP d hd,Leave_eqP d hd,Next_eqP d hd,Option.bind_some,F.graph_within_j1]
 repeat' split
 all_goals rfl
theorem within_eqR (n:Nd)(d:Int)(hd:0≤d∧d≤4):F.R08_within n d=some (withinP n d):=by
 unfold F.R08_within withinP
 simp only[Id_eqR d hd,Enter_eqR d hd,Leave_eqR d hd,Next_eqR d hd,Option.bind_some,F.R08_within_j1]
 repeat' split
 all_goals rfl
def useN (id nd:Int):Nat→List Int→List Pl
 |_,[]=>[]
 |k,z::r=>if z=id then(nd,(k:Int))::useN id nd (k+1) r else useN id nd (k+1) r
def usesF (id:Int):List Nd→List Pl
 | []=>[]
 |n::r=>useN id n.1 0 n.2.2.1++usesF id r
theorem useN_len (id nd:Int): ∀(k:Nat) (l:List Int),(useN id nd k l).length≤l.length
 |_,[]=>Nat.le_refl 0
 |k,z::r=>by
  unfold useN
  have:=useN_len id nd (k+1) r
  split<;>simp only[List.length_cons]<;>omega
theorem usesF_len (id:Int): ∀(l:List Nd),(∀n∈l,n.2.2.1.length≤2)→(usesF id l).length≤2*l.length
 | [],_=>Nat.le_refl 0
 |n::r,h=>by
  unfold usesF
  have h1:=usesF_len id r fun x hx=>h x (List.mem_cons_of_mem _ hx)
  have h2:=useN_len id n.1 0 n.2.2.1
  have h3:=h n (List.mem_cons_self ..)
  rw[List.length_append,List.length_cons];omega
theorem Values_eq (g:List Nd)(hg:g.length≤100):F.slices_Values_api_Node_api_Node_1_it g=some g:=
 A.lp0 g (fun f y=>F.slices_Values_api_Node_api_Node_1_it_l1 g f y) (fun _ l=>some l)
  (fun f=>by rw[F.slices_Values_api_Node_api_Node_1_it_l1,if_neg (by omega)])
  (fun f k x hx hk ih=>by rw[F.slices_Values_api_Node_api_Node_1_it_l1,if_pos (by omega),A.ixn hx,Option.bind_some,A.gd1 (A.r64n (by omega)),ih];rfl)
  (by have:=FU_big;omega)
theorem users_l2 (id:Int)(n:Nd)(k4:List Pl→Option (List Pl))(xs:List Pl)(hl:n.2.2.1.length≤2)(hxs:xs.length≤1000):F.graph_users_l2 k4 id n A.FU xs 0=k4 (xs++useN id n.1 0 n.2.2.1):=
 A.lp n.2.2.1 (fun f (s:List Pl) i=>F.graph_users_l2 k4 id n f s i) (fun k t s=>k4 (s++useN id n.1 k t)) (fun k s=>s.length≤1000+k)
  (fun f s hs=>by rw[F.graph_users_l2,if_neg (by omega),useN,List.append_nil])
  (fun f s k z hz hk hs ih=>by
   rw[F.graph_users_l2,if_pos (by omega),A.ixn hz,Option.bind_some,useN]
   simp only[F.graph_users_j1,A.gd1 (A.r64n (n:=k) (by omega))]
   by_cases h:z=id
   ·rw[if_pos h,if_pos h,A.gd1 (by simp only[List.length_cons,List.length_nil];omega),ih _ (by simp only[List.length_append,List.length_cons,List.length_nil];omega)]
    simp only[List.append_assoc,List.singleton_append,List.cons_append,List.nil_append]
   ·rw[if_neg h,if_neg h,ih _ (by omega)])
  (by have:=FU_big;omega) xs (by omega)
theorem users_l3 (id:Int): ∀(l:List Nd) (xs:List Pl),(∀n∈l,n.2.2.1.length≤2)→xs.length+2*l.length≤900→F.graph_users_l3 id l xs=some (xs++usesF id l)
 | [],xs,_,_=>by rw[F.graph_users_l3,usesF,List.append_nil]
 |n::r,xs,h,hx=>by
  have h3:=h n (List.mem_cons_self ..)
  have h2:=useN_len id n.1 0 n.2.2.1
  rw[List.length_cons]at hx
  rw[F.graph_users_l3,users_l2 id n _ xs h3 (by omega),users_l3 id r _ (fun x hx=>h x (List.mem_cons_of_mem _ hx)) (by rw[List.length_append];omega),usesF,List.append_assoc]
theorem users_eq (g:List Nd)(id:Int)(hb:Few g)(h2: ∀n∈g,n.2.2.1.length≤2):F.graph_users g id=some (usesF id g):=by
 have:=hb.1
 unfold F.graph_users F.slices_Values_api_Node_api_Node
 rw[Option.bind_some,Values_eq g (by omega),Option.bind_some,users_l3 id g [] h2 (by simp;omega)];rfl
def inE (g:List Nd)(d:List Int)(n:Nd):Nat→List Int→List Ed
 |_,[]=>[]
 |k,z::r=>((n.1,(k:Int)),(n.1,2),withinP n (iget d (idx g z)))::inE g d n (k+1) r
def outE (g:List Nd)(n:Nd)(v:Int):List Ed:=(usesF n.1 g).map fun u=>((n.1,2),u,(idP v).1)
def edgesF (g:List Nd)(d:List Int):Nat→List Nd→List Ed
 |_,[]=>[]
 |i,n::r=>if n.2.1=15 then edgesF g d (i+1) r else inE g d n 0 n.2.2.1++(outE g n (iget d (i:Int))++edgesF g d (i+1) r)
def edges (g:List Nd)(d:List Int):List Ed:=edgesF g d 0 g
theorem inE_len (g:List Nd)(d:List Int)(n:Nd): ∀(k:Nat) (l:List Int),(inE g d n k l).length=l.length
 |_,[]=>rfl
 |k,x::r=>by unfold inE;rw[List.length_cons,List.length_cons,inE_len g d n (k+1) r]
theorem edges_l2P (k30:List Ed→Int→Option (List Ed))(y:Nat)(n:Nd)(s:Sm)(us:List Pl)(xs:List Ed)(hy:y≤100)(hu:us.length≤1000)(hxs:xs.length≤10000):
  F.graph_plan_edges_l2 k30 (y:Int) n s.1 s.2.1 s.2.2.1 s.2.2.2.1 s.2.2.2.2.1 s.2.2.2.2.2.1 s.2.2.2.2.2.2.1 s.2.2.2.2.2.2.2 us A.FU xs 0=k30 (xs++us.map fun u=>((n.1,2),u,s)) ((y:Int)+1):=
 A.lp us (fun f (t:List Ed) i=>F.graph_plan_edges_l2 k30 (y:Int) n s.1 s.2.1 s.2.2.1 s.2.2.2.1 s.2.2.2.2.1 s.2.2.2.2.2.1 s.2.2.2.2.2.2.1 s.2.2.2.2.2.2.2 us f t i) (fun k t e=>k30 (e++t.map fun u=>((n.1,2),u,s)) ((y:Int)+1)) (fun k t=>t.length≤10000+k)
  (fun f t ht=>by rw[F.graph_plan_edges_l2,if_neg (by omega),F.graph_plan_edges_j1,A.gd1 (A.r64n (by omega)),List.map_nil,List.append_nil])
  (fun f t k z hz hk ht ih=>by
   rw[F.graph_plan_edges_l2,if_pos (by omega),A.ixn hz,Option.bind_some,A.gd1 (by simp only[List.length_cons,List.length_nil];omega),A.gd1 (A.r64n (by omega)),ih _ (by simp only[List.length_append,List.length_cons,List.length_nil];omega)]
   simp only[List.append_assoc,List.singleton_append,List.cons_append,List.nil_append,List.map_cons])
  (by have:=FU_big;omega) xs (by omega)
theorem edges_l4P (g:List Nd)(d:List Int)(a0:(List (Int×Nd))×(List Int)×(List (Int×Int)))(k30:List Ed→Int→Option (List Ed))(y:Nat)(n:Nd)(xs:List Ed)(hb:Few g)(ho:Own g)(hib:InB d)(hr:RelD g d a0.2.2)(hn:g[y]?=some n)(hf: ∀k∈n.2.2.1,0≤idx g k)(hxs:xs.length≤9000):
  F.graph_plan_edges_l4 k30 a0 g (y:Int) n A.FU xs 0=k30 (xs++(inE g d n 0 n.2.2.1++outE g n (iget d (y:Int)))) ((y:Int)+1):=
 A.lp n.2.2.1 (fun f (t:List Ed) i=>F.graph_plan_edges_l4 k30 a0 g (y:Int) n f t i) (fun k t e=>k30 (e++(inE g d n k t++outE g n (iget d (y:Int)))) ((y:Int)+1)) (fun k t=>t.length≤9000+k)
  (fun f t ht=>by
   have hlen:=hb.1
   have hyl:=(List.getElem?_eq_some_iff.1 hn).1
   have h2:=in2 ho (List.mem_of_getElem? hn)
   have hu:=usesF_len n.1 g fun x hx=>in2 ho hx
   rw[F.graph_plan_edges_l4,if_neg (by omega),A.lt,hr y n hn,Id_eqP _ (hib _),Option.bind_some,F.graph_plan_edges_j3,users_eq g n.1 hb (fun x hx=>in2 ho hx),Option.bind_some,
    show F.graph_plan_edges_l2 k30 (y:Int) n _ _ _ _ _ _ _ _ (usesF n.1 g) A.FU t 0=_ from edges_l2P k30 y n (idP (iget d (y:Int))).1 (usesF n.1 g) t (by omega) (by omega) (by omega),inE,List.nil_append]
   rfl)
  (fun f t k z hz hk ht ih=>by
   have h1:=hf z (List.mem_of_getElem? hz)
   have h2:=in2 ho (List.mem_of_getElem? hn)
   rw[F.graph_plan_edges_l4,if_pos (by omega),A.ixn hz,Option.bind_some,A.lt,hr.in h1,show F.graph_within (n.1,n.2.1,n.2.2.1,(n.2.2.2.1.1,n.2.2.2.1.2.1,n.2.2.2.1.2.2),n.2.2.2.2.1,n.2.2.2.2.2.1,n.2.2.2.2.2.2) _=_ from within_eqP n _ (hib _),Option.bind_some,A.gd1 (by simp only[List.length_cons,List.length_nil];omega),A.gd1 (A.r64n (by omega)),ih _ (by simp only[List.length_append,List.length_cons,List.length_nil];omega),inE]
   simp only[List.append_assoc,List.singleton_append,List.cons_append,List.nil_append])
  (by have:=FU_big;have:=in2 ho (List.mem_of_getElem? hn);omega) xs (by omega)
theorem edgesP_eq (g:List Nd)(d:List Int)(a0:(List (Int×Nd))×(List Int)×(List (Int×Int)))(hb:Few g)(hfed:Fed g)(ho:Own g)(hib:InB d)(hr:RelD g d a0.2.2):F.graph_plan_edges a0 g=some (edges g d):=by
 have hlen:=hb.1
 have loop:=A.lp g (fun f (s:List Ed) i=>F.graph_plan_edges_l5 a0 g f s i) (fun k t s=>some (s++edgesF g d k t)) (fun k s=>s.length≤83*k)
  (fun f s hs=>by rw[F.graph_plan_edges_l5,if_neg (by omega),edgesF,List.append_nil])
  (fun f s k x hx hk hs ih=>by
   have hxg:=List.mem_of_getElem? hx
   have h2:=in2 ho hxg
   have hu:=usesF_len x.1 g fun x hx=>in2 ho hx
   rw[F.graph_plan_edges_l5,if_pos (by omega),A.ixn hx,Option.bind_some,edgesF]
   by_cases h:x.2.1=15
   ·rw[if_pos h,if_pos h,F.graph_plan_edges_j1,A.gd1 (A.r64n (by omega)),ih _ (by omega)]
   ·rw[if_neg h,if_neg h,edges_l4P g d a0 _ k x s hb ho hib hr hx (hfed x hxg) (by omega),ih _ (by rw[List.length_append,List.length_append,inE_len,outE,List.length_map];omega)]
    simp only[List.append_assoc])
  (by have:=FU_big;omega) [] (by simp)
 unfold F.graph_plan_edges
 rw[loop];rfl
end Go.Proofs.YtpdhaldfdeamdaaDoor
end
section
set_option linter.unusedVariables false
set_option linter.unusedSimpArgs false
set_option synthInstance.maxSize 1000000
set_option synthInstance.maxHeartbeats 400000
namespace Go.Proofs.YtpdhaldfdeamdaaDoor
open Go.RowKit Go.Graph
theorem Find_eq (g:List Nd)(hb:Few g){j:Nat}{n:Nd}(hi:Inc g)(hn:g[j]?=some n):F.R08_Find g n.1=some (n,true):=by
 have:=hb.1
 have hin:=hb.in hn
 unfold F.R08_Find
 rw[index_eq g _ (by omega),Option.bind_some,hi.idx hn,if_neg (by omega),A.ixn hn,Option.bind_some,A.gd1 (by simp only[List.length_nil];omega)]
 rfl
theorem edges_l4R (g:List Nd)(k37:List Ed→Int→Option (List Ed))(sp:Sp)(r18:Nd×Bool)(r59:Sm×Int)(j:Nat)(m:Nd)(xs:List Ed)(hg:g.length≤100)(hm:g[j]?=some m)(hl:m.2.2.1.length≤2)(hxs:xs.length≤20000):
  F.R08_edges_l4 k37 g sp r18 r59 (j:Int) A.FU xs 0=k37 (xs++(useN r18.1.1 m.1 0 m.2.2.1).map fun u=>(sp.1,u,r59.1)) ((j:Int)+1):=
 A.lp m.2.2.1 (fun f (t:List Ed) i=>F.R08_edges_l4 k37 g sp r18 r59 (j:Int) f t i) (fun k t e=>k37 (e++(useN r18.1.1 m.1 k t).map fun u=>(sp.1,u,r59.1)) ((j:Int)+1)) (fun k t=>t.length≤20000+k)
  (fun f t ht=>by
   have hjl:=(List.getElem?_eq_some_iff.1 hm).1
   rw[F.R08_edges_l4,A.ixn hm,Option.bind_some,if_neg (by omega),A.gd1 (A.r64n (by omega)),useN,List.map_nil,List.append_nil])
  (fun f t k z hz hk ht ih=>by
   rw[F.R08_edges_l4,A.ixn hm,Option.bind_some,if_pos (by omega),Option.bind_some,A.ixn hz,Option.bind_some,useN]
   simp only[F.R08_edges_j3,A.gd1 (A.r64n (n:=k) (by omega)),Option.bind_some]
   by_cases h:z=r18.1.1
   ·rw[if_pos h,if_pos h,A.gd1 (by simp only[List.length_cons,List.length_nil];omega),ih _ (by simp only[List.length_append,List.length_cons,List.length_nil];omega)]
    simp only[List.append_assoc,List.singleton_append,List.cons_append,List.nil_append,List.map_cons]
   ·rw[if_neg h,if_neg h,ih _ (by omega)])
  (by have:=FU_big;omega) xs (by omega)
theorem edges_l5R (g:List Nd)(k30:List Ed→Int→Option (List Ed))(y:Nat)(sp:Sp)(r18:Nd×Bool)(r59:Sm×Int)(xs:List Ed)(hb:Few g)(ho:Own g)(hxs:xs.length≤15000)(hy:y≤1000):
  F.R08_edges_l5 k30 g (y:Int) sp r18 r59 A.FU xs 0=k30 (xs++(usesF r18.1.1 g).map fun u=>(sp.1,u,r59.1)) ((y:Int)+1):=
 A.lp g (fun f (t:List Ed) i=>F.R08_edges_l5 k30 g (y:Int) sp r18 r59 f t i) (fun k t e=>k30 (e++(usesF r18.1.1 t).map fun u=>(sp.1,u,r59.1)) ((y:Int)+1)) (fun k t=>t.length≤15000+2*k)
  (fun f t ht=>by rw[F.R08_edges_l5,if_neg (by omega),F.R08_edges_j1,A.gd1 (A.r64n (by omega)),usesF,List.map_nil,List.append_nil])
  (fun f t k m hm hk ht ih=>by
   have hlen:=hb.1
   have h2:=in2 ho (List.mem_of_getElem? hm)
   have h3:=useN_len r18.1.1 m.1 0 m.2.2.1
   rw[F.R08_edges_l5,if_pos (by omega),edges_l4R g _ sp r18 r59 k m t (by omega) hm h2 (by omega),ih _ (by rw[List.length_append,List.length_map];omega),usesF,List.map_append,List.append_assoc])
  (by have:=FU_big;have:=hb.1;omega) xs (by omega)
def edOf (g:List Nd)(sp:Sp):List Ed:=if sp.1.2≠2 then(if(find g sp.1.1).1.2.1≠15 then [(sp.1,((find g sp.1.1).1.1,2),withinP (find g sp.1.1).1 sp.2)]else [])else(usesF (find g sp.1.1).1.1 g).map fun u=>(sp.1,u,(idP sp.2).1)
def edS (g:List Nd):List Sp→List Ed
 | []=>[]
 |sp::r=>edOf g sp++edS g r
def SpOk (g:List Nd)(sp:Sp):Prop:=(∃(j:Nat) (n:Nd),g[j]?=some n∧n.1=sp.1.1)∧0≤sp.2∧sp.2≤4
theorem find_eq {g:List Nd}(hi:Inc g){j:Nat}{n:Nd}(hn:g[j]?=some n):find g n.1=(n,true):=by
 unfold find
 rw[hi.idx hn,if_neg (by omega),at_some rfl hn]
theorem edgesR_l6 (g:List Nd)(l:List Sp)(hb:Few g)(hi:Inc g)(ho:Own g)(hl:l.length≤130)(hs: ∀sp∈l,SpOk g sp):F.R08_edges g l=some (edS g l):=by
 have hlen:=hb.1
 have loop:=A.lp l (fun f (s:List Ed) i=>F.R08_edges_l6 g l f s i) (fun k t s=>some (s++edS g t)) (fun k s=>s.length≤83*k)
  (fun f s hs=>by rw[F.R08_edges_l6,if_neg (by omega),edS,List.append_nil])
  (fun f s k x hx hk hp ih=>by
   obtain⟨⟨j,n,hn,hid⟩,hd⟩:=hs x (List.mem_of_getElem? hx)
   have hu:=usesF_len n.1 g fun x hx=>in2 ho hx
   rw[F.R08_edges_l6,if_pos (by omega),A.ixn hx,Option.bind_some,←hid,Find_eq g hb hi hn,Option.bind_some,edS,edOf,←hid,find_eq hi hn]
   simp only[F.R08_edges_j2,F.R08_edges_j1,A.gd1 (A.r64n (n:=k) (by omega)),Option.bind_some]
   by_cases h2:x.1.2≠2
   ·rw[if_pos h2,if_pos h2]
    by_cases h15:n.2.1≠15
    ·rw[if_pos h15,if_pos h15,show F.R08_within (n.1,n.2.1,n.2.2.1,(n.2.2.2.1.1,n.2.2.2.1.2.1,n.2.2.2.1.2.2),n.2.2.2.2.1,n.2.2.2.2.2.1,n.2.2.2.2.2.2) x.2=_ from within_eqR n x.2 hd,Option.bind_some,A.gd1 (by simp only[List.length_cons,List.length_nil];omega),ih _ (by simp only[List.length_append,List.length_cons,List.length_nil];omega),hid]
     simp only[List.append_assoc]
    ·rw[if_neg h15,if_neg h15,ih _ (by omega),List.nil_append]
   ·rw[if_neg h2,if_neg h2,Id_eqR x.2 hd,Option.bind_some,edges_l5R g _ k x (n,true) (idP x.2) s hb ho (by omega) (by omega),ih _ (by rw[List.length_append,List.length_map];show s.length+(usesF n.1 g).length≤_;omega),List.append_assoc])
  (by have:=FU_big;omega) [] (by simp)
 unfold F.R08_edges
 rw[loop];rfl
theorem edS_app (g:List Nd): ∀(a b:List Sp),edS g (a++b)=edS g a++edS g b
 | [],_=>rfl
 |x::a,b=>by rw[List.cons_append,edS,edS,edS_app g a b,List.append_assoc]
theorem edS_ins {g:List Nd}(hi:Inc g)(d:List Int){j:Nat}{n:Nd}(hn:g[j]?=some n): ∀(k:Nat) (l:List Int),k+l.length≤2→edS g (insS g d n.1 k l)=if n.2.1=15 then []else inE g d n k l
 |k,[],_=>by unfold insS inE edS;split<;>rfl
 |k,z::r,h=>by
  rw[List.length_cons]at h
  have h2:((k:Int):Int)≠2:=by omega
  unfold insS inE
  rw[edS,edS_ins hi d hn (k+1) r (by omega),edOf]
  simp only[find_eq hi hn]
  rw[if_pos h2]
  by_cases h15:n.2.1=15
  ·simp[h15]
  ·rw[if_neg h15,if_neg h15,if_pos h15];rfl
theorem edS_spots {g:List Nd}(hi:Inc g)(ho:Own g)(d:List Int): ∀(m k:Nat),k+m=g.length→edS g (spotsF g d k (g.drop k))=edgesF g d k (g.drop k)
 |0,k,h=>by rw[List.drop_eq_nil_of_le (by omega)];rfl
 |m+1,k,h=>by
  have hx:g[k]?=some g[k]:=List.getElem?_eq_getElem (by omega)
  generalize g[k]=x at hx
  have h2:=in2 ho (List.mem_of_getElem? hx)
  rw[A.dropx hx,spotsF,edgesF,edS_app,edS_app,edS_spots hi ho d m (k+1) (by omega),edS_ins hi d hx 0 _ (by omega)]
  by_cases h15:x.2.1=15
  ·rw[if_pos h15,if_pos h15,outS,if_neg (fun h=>h h15),edS];rfl
  ·rw[if_neg h15,if_neg h15,outS,if_pos h15,edS,edOf]
   simp only[find_eq hi hx]
   rw[if_neg (fun h=>h rfl),edS,List.append_nil];rfl
theorem insS_ok {g:List Nd}{d:List Int}(hib:InB d){j:Nat}{n:Nd}(hn:g[j]?=some n): ∀(k:Nat) (l:List Int),∀sp∈insS g d n.1 k l,SpOk g sp
 |_,[],sp,h=>by cases h
 |k,z::r,sp,h=>by
  unfold insS at h
  rcases List.mem_cons.1 h with rfl|h
  ·exact⟨⟨j,n,hn,rfl⟩,hib _⟩
  ·exact insS_ok hib hn (k+1) r sp h
theorem spots_ok {g:List Nd}{d:List Int}(hib:InB d): ∀(m k:Nat),k+m=g.length→∀sp∈spotsF g d k (g.drop k),SpOk g sp
 |0,k,h,sp,hs=>by rw[List.drop_eq_nil_of_le (by omega)]at hs;cases hs
 |m+1,k,h,sp,hs=>by
  have hx:g[k]?=some g[k]:=List.getElem?_eq_getElem (by omega)
  generalize g[k]=x at hx
  rw[A.dropx hx,spotsF]at hs
  rcases List.mem_append.1 hs with hs|hs
  ·exact insS_ok hib hx 0 _ sp hs
  ·rcases List.mem_append.1 hs with hs|hs
   ·unfold outS at hs
    split at hs
    ·rw[List.mem_singleton]at hs;subst hs;exact⟨⟨k,x,hx,rfl⟩,hib _⟩
    ·cases hs
   ·exact spots_ok hib m (k+1) (by omega) sp hs
theorem spots_len {g:List Nd}(ho:Own g)(d:List Int): ∀(m k:Nat),k+m=g.length→(spotsF g d k (g.drop k)).length≤3*m
 |0,k,h=>by rw[List.drop_eq_nil_of_le (by omega)];exact Nat.le_refl 0
 |m+1,k,h=>by
  have hx:g[k]?=some g[k]:=List.getElem?_eq_getElem (by omega)
  generalize g[k]=x at hx
  have h2:=in2 ho (List.mem_of_getElem? hx)
  have h3:=outS_len x (iget d (k:Int))
  have h4:=spots_len ho d m (k+1) (by omega)
  rw[A.dropx hx,spotsF,List.length_append,List.length_append,insS_len];omega
theorem edgesR_eq (g:List Nd)(d:List Int)(hb:Few g)(hi:Inc g)(ho:Own g)(hib:InB d):F.R08_edges g (spots g d)=some (edges g d):=by
 have h1:=spots_len ho d g.length 0 (by omega)
 have h2:=spots_ok (d:=d) (g:=g) hib g.length 0 (by omega)
 have h3:=edS_spots hi ho d g.length 0 (by omega)
 rw[List.drop_zero]at h1 h2 h3
 have:=hb.1
 rw[edgesR_l6 g (spots g d) hb hi ho (by unfold spots;omega) h2]
 exact congrArg some h3
end Go.Proofs.YtpdhaldfdeamdaaDoor
end
section
set_option linter.unusedVariables false
set_option linter.unusedSimpArgs false
set_option synthInstance.maxSize 1000000
set_option synthInstance.maxHeartbeats 400000
namespace Go.Proofs.YtpdhaldfdeamdaaDoor
open Go.RowKit Go.Graph
inductive Rch {α:Type} (R:α→α→Prop) (a:α):α→Prop
 |one {b:α} (h:R a b):Rch R a b
 |step {b c:α} (h:Rch R a b) (h2:R b c):Rch R a c
theorem insS_at (g:List Nd)(d:List Int)(id:Int): ∀(k:Nat) (l:List Int) (p:Pl) (v:Int),(p,v)∈insS g d id k l→p.1=id∧(k:Int)≤p.2∧p.2<(k:Int)+l.length
 |_,[],_,_,h=>by cases h
 |k,z::r,p,v,h=>by
  unfold insS at h
  rw[List.length_cons]
  rcases List.mem_cons.1 h with h|h
  ·injection h with h1 h2;subst h1;refine⟨rfl,Int.le_refl _,?_⟩;simp only[];omega
  ·have:=insS_at g d id (k+1) r p v h;omega
theorem insS_nodup (g:List Nd)(d:List Int)(id:Int): ∀(k:Nat) (l:List Int),((insS g d id k l).map (·.1)).Nodup
 |_,[]=>List.nodup_nil
 |k,z::r=>by
  unfold insS
  rw[List.map_cons,List.nodup_cons]
  refine⟨fun h=>?_,insS_nodup g d id (k+1) r⟩
  obtain⟨⟨p,v⟩,h1,h2⟩:=List.mem_map.1 h
  have:=insS_at g d id (k+1) r p v h1
  simp only[]at h2
  rw[h2]at this;simp only[]at this;omega
theorem spotsF_ids {g:List Nd}(d:List Int): ∀(k:Nat) (l:List Nd) (sp:Sp),sp∈spotsF g d k l→∃n∈l,n.1=sp.1.1
 |_,[],_,h=>by cases h
 |k,n::r,sp,h=>by
  unfold spotsF at h
  rcases List.mem_append.1 h with h|h
  ·exact⟨n,List.mem_cons_self ..,(insS_at g d n.1 0 _ sp.1 sp.2 h).1.symm⟩
  ·rcases List.mem_append.1 h with h|h
   ·unfold outS at h
    split at h
    ·rw[List.mem_singleton]at h;subst h;exact⟨n,List.mem_cons_self ..,rfl⟩
    ·cases h
   ·obtain⟨m,h1,h2⟩:=spotsF_ids d (k+1) r sp h
    exact⟨m,List.mem_cons_of_mem _ h1,h2⟩
theorem spotsF_nodup {g:List Nd}(d:List Int): ∀(k:Nat) (l:List Nd),l.Pairwise (fun a b=>a.1<b.1)→(∀n∈l,n.2.2.1.length≤2)→((spotsF g d k l).map (·.1)).Nodup
 |_,[],_,_=>List.nodup_nil
 |k,n::r,hp,hl=>by
  rw[List.pairwise_cons]at hp
  have h2:=hl n (List.mem_cons_self ..)
  unfold spotsF
  rw[List.map_append,List.nodup_append,List.map_append,List.nodup_append]
  have hrest: ∀p∈(spotsF g d (k+1) r).map (·.1),p.1≠n.1:=fun p hp2 e=>by
   obtain⟨sp,h1,rfl⟩:=List.mem_map.1 hp2
   obtain⟨m,h3,h4⟩:=spotsF_ids d (k+1) r sp h1
   have:=hp.1 m h3;omega
  have hout: ∀p∈(outS n (iget d (k:Int))).map (·.1),p=(n.1,2):=fun p hp2=>by
   unfold outS at hp2
   split at hp2
   ·simpa using hp2
   ·cases hp2
  have hin: ∀p∈(insS g d n.1 0 n.2.2.1).map (·.1),p.1=n.1∧p.2<2:=fun p hp2=>by
   obtain⟨⟨q,v⟩,h1,rfl⟩:=List.mem_map.1 hp2
   have:=insS_at g d n.1 0 _ q v h1
   simp only[];omega
  refine⟨insS_nodup g d n.1 0 _,⟨?_,spotsF_nodup d (k+1) r hp.2 (fun x hx=>hl x (List.mem_cons_of_mem _ hx)),?_⟩,?_⟩
  ·unfold outS;split<;>simp
  ·intro a ha b hb e
   have h3:=hout a ha
   subst e
   exact hrest a hb (by rw[h3])
  ·intro a ha b hb e
   subst e
   have h3:=hin a ha
   rcases List.mem_append.1 hb with hb|hb
   ·have:=hout a hb;rw[this]at h3;simp only[]at h3;omega
   ·exact hrest a hb h3.1
theorem useN_mem (id nd:Int): ∀(k:Nat) (l:List Int) (u:Pl),u∈useN id nd k l→u.1=nd∧∃j:Nat,u.2=(k:Int)+j∧j<l.length
 |_,[],u,h=>by cases h
 |k,z::r,u,h=>by
  unfold useN at h
  have hrec:u∈useN id nd (k+1) r→u.1=nd∧∃j:Nat,u.2=(k:Int)+j∧j<(z::r).length:=fun h=>by
   obtain⟨h1,j,h2,h3⟩:=useN_mem id nd (k+1) r u h
   exact⟨h1,j+1,by omega,by rw[List.length_cons];omega⟩
  split at h
  ·rcases List.mem_cons.1 h with rfl|h
   ·exact⟨rfl,0,by simp,by rw[List.length_cons];omega⟩
   ·exact hrec h
  ·exact hrec h
theorem insS_get (g:List Nd)(d:List Int)(id:Int): ∀(k:Nat) (l:List Int) (j:Nat),j<l.length→∃v,((id,(k:Int)+j),v)∈insS g d id k l
 |_,[],j,h=>by simp at h
 |k,z::r,j,h=>by
  unfold insS
  cases j with
  |zero=>exact⟨iget d (idx g z),by simp⟩
  |succ j=>
   rw[List.length_cons]at h
   obtain⟨v,hv⟩:=insS_get g d id (k+1) r j (by omega)
   refine⟨v,List.mem_cons_of_mem _ ?_⟩
   have e:(k:Int)+((j+1:Nat):Int)=((k+1:Nat):Int)+(j:Int):=by omega
   rw[e];exact hv
theorem spotsF_ins {g:List Nd}(d:List Int): ∀(k:Nat) (l:List Nd) (n:Nd),n∈l→∀sp∈insS g d n.1 0 n.2.2.1,sp∈spotsF g d k l
 |_,[],_,h,_,_=>by cases h
 |k,m::r,n,h,sp,hs=>by
  unfold spotsF
  rcases List.mem_cons.1 h with rfl|h
  ·exact List.mem_append_left _ hs
  ·exact List.mem_append_right _ (List.mem_append_right _ (spotsF_ins d (k+1) r n h sp hs))
theorem spotsF_out {g:List Nd}(d:List Int): ∀(k:Nat) (l:List Nd) (n:Nd),n∈l→n.2.1≠15→∃v,((n.1,2),v)∈spotsF g d k l
 |_,[],_,h,_=>by cases h
 |k,m::r,n,h,h15=>by
  unfold spotsF
  rcases List.mem_cons.1 h with rfl|h
  ·exact⟨iget d (k:Int),List.mem_append_right _ (List.mem_append_left _ (by unfold outS;rw[if_pos h15];simp))⟩
  ·obtain⟨v,hv⟩:=spotsF_out d (k+1) r n h h15
   exact⟨v,List.mem_append_right _ (List.mem_append_right _ hv)⟩
theorem usesF_mem (id:Int): ∀(l:List Nd) (u:Pl),u∈usesF id l→∃n∈l,u.1=n.1∧∃j:Nat,u.2=(j:Int)∧j<n.2.2.1.length
 | [],u,h=>by cases h
 |n::r,u,h=>by
  unfold usesF at h
  rcases List.mem_append.1 h with h|h
  ·obtain⟨h1,j,h2,h3⟩:=useN_mem id n.1 0 _ u h
   exact⟨n,List.mem_cons_self ..,h1,j,by omega,h3⟩
  ·obtain⟨m,h1,h2⟩:=usesF_mem id r u h
   exact⟨m,List.mem_cons_of_mem _ h1,h2⟩
theorem inE_mem (g:List Nd)(d:List Int)(n:Nd): ∀(k:Nat) (l:List Int) (e:Ed),e∈inE g d n k l→e.1.1=n.1∧(k:Int)≤e.1.2∧e.1.2<(k:Int)+l.length∧e.2.1=(n.1,2)
 |_,[],_,h=>by cases h
 |k,z::r,e,h=>by
  unfold inE at h
  rw[List.length_cons]
  rcases List.mem_cons.1 h with rfl|h
  ·refine⟨rfl,Int.le_refl _,?_,rfl⟩;simp only[];omega
  ·have:=inE_mem g d n (k+1) r e h
   refine⟨this.1,by omega,by omega,this.2.2.2⟩
theorem edgesF_mem {g:List Nd}(d:List Int): ∀(k:Nat) (l:List Nd) (e:Ed),e∈edgesF g d k l→∃n∈l,e.1.1=n.1∧((n.2.1≠15∧e.2.1=(n.1,2)∧0≤e.1.2∧e.1.2<n.2.2.1.length)∨(e.1.2=2∧∃m∈g,e.2.1.1=m.1∧∃j:Nat,e.2.1.2=(j:Int)∧j<m.2.2.1.length))
 |_,[],_,h=>by cases h
 |k,n::r,e,h=>by
  unfold edgesF at h
  have hrec:e∈edgesF g d (k+1) r→∃m∈n::r,e.1.1=m.1∧((m.2.1≠15∧e.2.1=(m.1,2)∧0≤e.1.2∧e.1.2<m.2.2.1.length)∨(e.1.2=2∧∃q∈g,e.2.1.1=q.1∧∃j:Nat,e.2.1.2=(j:Int)∧j<q.2.2.1.length)):=fun h=>by
   obtain⟨m,h1,h2⟩:=edgesF_mem d (k+1) r e h
   exact⟨m,List.mem_cons_of_mem _ h1,h2⟩
  split at h
  ·exact hrec h
  ·rename_i h15
   rcases List.mem_append.1 h with h|h
   ·obtain⟨h1,h2,h3,h4⟩:=inE_mem g d n 0 _ e h
    exact⟨n,List.mem_cons_self ..,h1,.inl ⟨h15,h4,by omega,by omega⟩⟩
   ·rcases List.mem_append.1 h with h|h
    ·unfold outE at h
     obtain⟨u,hu,rfl⟩:=List.mem_map.1 h
     obtain⟨m,h1,h2⟩:=usesF_mem n.1 g u hu
     exact⟨n,List.mem_cons_self ..,rfl,.inr ⟨rfl,m,h1,h2⟩⟩
    ·exact hrec h
theorem edge_to {g:List Nd}(d:List Int){e:Ed}(he:e∈edges g d): ∃v,(e.2.1,v)∈spots g d:=by
 obtain⟨n,hn,h1,h|h⟩:=edgesF_mem d 0 g e he
 ·obtain⟨v,hv⟩:=spotsF_out d 0 g n hn h.1
  exact⟨v,by rw[h.2.1];exact hv⟩
 ·obtain⟨_,m,hm,h2,j,h3,h4⟩:=h
  obtain⟨v,hv⟩:=insS_get g d m.1 0 m.2.2.1 j h4
  refine⟨v,spotsF_ins d 0 g m hm _ ?_⟩
  have e1:e.2.1=(m.1,((0:Nat):Int)+(j:Int)):=Prod.ext h2 (by rw[h3];simp)
  rw[e1];exact hv
theorem edge_from {g:List Nd}(d:List Int){e:Ed}(he:e∈edges g d): ∃n∈g,e.1.1=n.1:=by
 obtain⟨n,hn,h1,_⟩:=edgesF_mem d 0 g e he
 exact⟨n,hn,h1⟩
theorem edge_out {g:List Nd}(d:List Int)(ho:Own g){e:Ed}(he:e∈edges g d)(h2:e.2.1.2=2):e.1.1=e.2.1.1∧e.1.2≠2:=by
 obtain⟨n,hn,h1,h|h⟩:=edgesF_mem d 0 g e he
 ·have:=in2 ho hn
  exact⟨by rw[h1,h.2.1],by omega⟩
 ·obtain⟨_,m,hm,_,j,h3,h4⟩:=h
  have:=in2 ho hm
  omega
theorem atS_mem {p:Pl}: ∀{l:List Sp} {v:Int},(l.map (·.1)).Nodup→(p,v)∈l→atS p l=v
 | [],_,_,h=>by cases h
 |x::r,v,hn,h=>by
  rw[List.map_cons,List.nodup_cons]at hn
  unfold atS
  rcases List.mem_cons.1 h with rfl|h
  ·rw[if_pos rfl]
  ·rw[if_neg (fun e=>hn.1 (by rw[e];exact List.mem_map_of_mem (f:=(·.1)) h))]
   exact atS_mem hn.2 h
theorem R_at_eq (l:List Sp)(p:Pl)(hl:l.length≤100000):F.R08_at l p=some (atS p l):=
 A.lp0 l (fun f y=>F.R08_at_l1 l p f y) (fun _ t=>some (atS p t))
  (fun f=>by rw[F.R08_at_l1,if_neg (by omega)];rfl)
  (fun f k x hx hk ih=>by
   rw[F.R08_at_l1,if_pos (by omega),A.ixn hx,Option.bind_some,Option.bind_some,atS]
   by_cases h:x.1=p
   ·rw[if_pos (show(x.1.1,x.1.2)=(p.1,p.2)from h),if_pos h]
   ·rw[if_neg (show ¬(x.1.1,x.1.2)=(p.1,p.2)from h),if_neg h,A.gd1 (A.r64n (by omega)),ih])
  (by have:=FU_big;omega)
theorem R_on_eq (l:List Pl)(p:Pl)(hl:l.length≤100000):F.R08_on l p=some (decide (p∈l)):=
 A.lp0 l (fun f y=>F.R08_on_l1 l p f y) (fun _ t=>some (decide (p∈t)))
  (fun f=>by rw[F.R08_on_l1,if_neg (by omega)];simp)
  (fun f k x hx hk ih=>by
   rw[F.R08_on_l1,if_pos (by omega),A.ixn hx,Option.bind_some]
   by_cases h:x=p
   ·rw[if_pos (show(x.1,x.2)=(p.1,p.2)from h)];simp[h]
   ·rw[if_neg (show ¬(x.1,x.2)=(p.1,p.2)from h),A.gd1 (A.r64n (by omega)),ih]
    congr 1
    exact decide_eq_decide.2 ⟨fun h2=>List.mem_cons_of_mem _ h2,fun h2=>(List.mem_cons.1 h2).resolve_left fun e=>h e.symm⟩)
  (by have:=FU_big;omega)
end Go.Proofs.YtpdhaldfdeamdaaDoor
end
section
set_option linter.unusedVariables false
set_option linter.unusedSimpArgs false
set_option synthInstance.maxSize 1000000
set_option synthInstance.maxHeartbeats 400000
namespace Go.Proofs.YtpdhaldfdeamdaaDoor
open Go.RowKit Go.Graph
def openB (g:List Nd)(S:List Sp)(dd:Int)(e:Ed):Bool:=decide (dd≤atS e.2.1 S)&&(decide ((find g e.1.1).1.2.1≠14)||decide ((find g e.1.1).1.2.2.2.2.2.2≠dd)||decide (e.1.2=2))
theorem R_open_eq (g:List Nd)(S:List Sp)(e:Ed)(dd:Int)(hb:Few g)(hi:Inc g)(hS:S.length≤100000)(hf: ∃n∈g,e.1.1=n.1):F.R08_open g S e dd=some (openB g S dd e):=by
 obtain⟨n,hn,h1⟩:=hf
 obtain⟨j,hj⟩:=List.mem_iff_getElem?.1 hn
 unfold F.R08_open openB
 rw[h1,Find_eq g hb hi hj,Option.bind_some,show F.R08_at S (e.2.1.1,e.2.1.2)=_ from R_at_eq S e.2.1 hS,Option.bind_some,find_eq hi hj]
 by_cases h:dd≤atS e.2.1 S
 ·rw[if_pos h,decide_eq_true h,Bool.true_and]
  congr 1
 ·rw[if_neg h,decide_eq_false h,Bool.false_and]
def addR (g:List Nd)(S:List Sp)(dd:Int)(cur:Pl):List Ed→List Pl→List Pl
 | [],r=>r
 |e::t,r=>addR g S dd cur t (if e.1=cur∧openB g S dd e=true∧e.2.1∉r then r++[e.2.1]else r)
theorem round_l3 (g:List Nd)(S:List Sp)(E:List Ed)(from_:Sp)(k3:List Pl→List Pl→Int→Option Bool)(y:Nat)(cur:Pl)(r:List Pl)(hb:Few g)(hi:Inc g)(hS:S.length≤100000)(hE:E.length≤5000)(hf: ∀e∈E,∃n∈g,e.1.1=n.1)(hc:(from_.1::r)[y]?=some cur)(hy:y≤10000)(hr:r.length≤9000)(hall: ∀k,(addR g S from_.2 cur (E.take k) r).length≤9000):
  F.R08_round_l3 k3 g S E from_ (y:Int) A.FU r (from_.1::r) 0=k3 (addR g S from_.2 cur E r) (from_.1::addR g S from_.2 cur E r) ((y:Int)+1):=
 A.lp E (fun f (s:List Pl×List Pl) i=>F.R08_round_l3 k3 g S E from_ (y:Int) f s.1 s.2 i) (fun k t s=>k3 (addR g S from_.2 cur t s.1) (from_.1::addR g S from_.2 cur t s.1) ((y:Int)+1)) (fun k s=>s.2=from_.1::s.1∧s.2[y]?=some cur∧s.1=addR g S from_.2 cur (E.take k) r)
  (fun f s hs=>by
   rw[F.R08_round_l3,if_neg (by omega),A.gd1 (A.r64n (by omega)),hs.1];rfl)
  (fun f s k e he hk hs ih=>by
   obtain⟨q,r'⟩:=s
   obtain⟨h1,h2,h3⟩:=hs
   simp only[]at h1 h2 h3
   have hlen:q.length≤9000:=by rw[h3];exact hall _
   have hsnoc: ∀(t:List Ed) (e:Ed) (r:List Pl),addR g S from_.2 cur (t++[e]) r=(if e.1=cur∧openB g S from_.2 e=true∧e.2.1∉addR g S from_.2 cur t r then addR g S from_.2 cur t r++[e.2.1]else addR g S from_.2 cur t r):=by
    intro t
    induction t with
    |nil=>intro e r;rfl
    |cons x t iht=>intro e r;rw[List.cons_append,addR,addR];exact iht e _
   have hnext:addR g S from_.2 cur (E.take (k+1)) r=if e.1=cur∧openB g S from_.2 e=true∧e.2.1∉q then q++[e.2.1]else q:=by
    rw[take_s he,hsnoc,←h3]
   have hopen:=R_open_eq g S e from_.2 hb hi hS (hf e (List.mem_of_getElem? he))
   rw[F.R08_round_l3,if_pos (by omega),A.ixn he,Option.bind_some,A.ixn h2,Option.bind_some,addR]
   simp only[F.R08_round_j2,F.R08_round_j1,A.ixn he,Option.bind_some,A.gd1 (A.r64n (n:=k) (by omega)),Bool.false_eq_true,if_false]
   have stay: ¬(e.1=cur∧openB g S from_.2 e=true∧e.2.1∉q)→F.R08_round_l3 k3 g S E from_ (y:Int) f q r' ((k:Int)+1)=k3 (addR g S from_.2 cur (E.drop (k+1)) (if e.1=cur∧openB g S from_.2 e=true∧e.2.1∉q then q++[e.2.1]else q)) (from_.1::addR g S from_.2 cur (E.drop (k+1)) (if e.1=cur∧openB g S from_.2 e=true∧e.2.1∉q then q++[e.2.1]else q)) ((y:Int)+1):=fun hn=>by
    rw[if_neg hn]at hnext ⊢
    exact ih (q,r') ⟨h1,h2,hnext.symm⟩
   by_cases hcur:e.1=cur
   ·rw[if_pos (show(e.1.1,e.1.2)=(cur.1,cur.2)from hcur),show F.R08_open g S ((e.1.1,e.1.2),(e.2.1.1,e.2.1.2),(e.2.2.1,e.2.2.2.1,e.2.2.2.2.1,e.2.2.2.2.2.1,(e.2.2.2.2.2.2.1,e.2.2.2.2.2.2.2.1,e.2.2.2.2.2.2.2.2.1,e.2.2.2.2.2.2.2.2.2))) from_.2=_ from hopen,Option.bind_some]
    by_cases ho:openB g S from_.2 e=true
    ·rw[if_pos ho,show F.R08_on q (e.2.1.1,e.2.1.2)=_ from R_on_eq q e.2.1 (by omega),Option.bind_some]
     by_cases hm:e.2.1∈q
     ·rw[decide_eq_true hm,Bool.not_true,if_neg Bool.false_ne_true]
      exact stay fun h=>h.2.2 hm
     ·have hc3:e.1=cur∧openB g S from_.2 e=true∧e.2.1∉q:=⟨hcur,ho,hm⟩
      rw[decide_eq_false hm,Bool.not_false,if_pos rfl,A.gd1 (by simp only[List.length_cons,List.length_nil];omega),A.gd1 (by rw[h1];simp only[List.length_cons,List.length_nil];omega),if_pos hc3]
      rw[if_pos hc3]at hnext
      refine ih (q++[e.2.1],r'++[e.2.1]) ⟨?_,?_,hnext.symm⟩
      ·simp only[h1,List.cons_append]
      ·simp only[]
       rw[List.getElem?_append_left (List.getElem?_eq_some_iff.1 h2).1];exact h2
    ·rw[if_neg ho]
     exact stay fun h=>ho h.2.1
   ·rw[if_neg (show ¬(e.1.1,e.1.2)=(cur.1,cur.2)from hcur)]
    exact stay fun h=>hcur h.1)
  (by have:=FU_big;omega) (r,from_.1::r) ⟨rfl,hc,rfl⟩
def okE (g:List Nd)(S:List Sp)(E:List Ed)(dd:Int)(p q:Pl):Prop:=∃e∈E,e.1=p∧e.2.1=q∧openB g S dd e=true
theorem addR_mono (g:List Nd)(S:List Sp)(dd:Int)(cur:Pl): ∀(t:List Ed) (r:List Pl),∃x,addR g S dd cur t r=r++x∧(∀p∈x,∃e∈t,e.1=cur∧e.2.1=p∧openB g S dd e=true)∧(r.Nodup→(r++x).Nodup)∧(∀e∈t,e.1=cur→openB g S dd e=true→e.2.1∈r++x)
 | [],r=>⟨[],by rw[addR,List.append_nil],by simp,by simp,by simp⟩
 |e::t,r=>by
  rw[addR]
  by_cases h:e.1=cur∧openB g S dd e=true∧e.2.1∉r
  ·rw[if_pos h]
   obtain⟨x,h1,h2,h3,h4⟩:=addR_mono g S dd cur t (r++[e.2.1])
   refine⟨e.2.1::x,by rw[h1];simp,fun p hp=>?_,fun hn=>?_,fun e2 he2 a b=>?_⟩
   ·rcases List.mem_cons.1 hp with rfl|hp
    ·exact⟨e,List.mem_cons_self ..,h.1,rfl,h.2.1⟩
    ·obtain⟨e2,a,b⟩:=h2 p hp;exact⟨e2,List.mem_cons_of_mem _ a,b⟩
   ·have:=h3 (List.nodup_append.2 ⟨hn,by simp,fun a ha b hb=>by rw[List.mem_singleton]at hb;subst hb;intro e2;subst e2;exact h.2.2 ha⟩)
    simpa using this
   ·rcases List.mem_cons.1 he2 with rfl|he2
    ·simp
    ·have:=h4 e2 he2 a b;simpa using this
  ·rw[if_neg h]
   obtain⟨x,h1,h2,h3,h4⟩:=addR_mono g S dd cur t r
   refine⟨x,h1,fun p hp=>?_,h3,fun e2 he2 a b=>?_⟩
   ·obtain⟨e2,a,b⟩:=h2 p hp;exact⟨e2,List.mem_cons_of_mem _ a,b⟩
   ·rcases List.mem_cons.1 he2 with rfl|he2
    ·refine List.mem_append_left _ ?_
     by_cases hm:e2.2.1∈r
     ·exact hm
     ·exact absurd ⟨a,b,hm⟩ h
    ·exact h4 e2 he2 a b
theorem nodup_len {α:Type}[DecidableEq α]: ∀{l m:List α},l.Nodup→(∀x∈l,x∈m)→l.length≤m.length
 | [],m,_,_=>Nat.zero_le _
 |a::l,m,hn,h=>by
  rw[List.nodup_cons]at hn
  have ha:=h a (List.mem_cons_self ..)
  have:=nodup_len (l:=l) (m:=m.erase a) hn.2 fun x hx=>(List.mem_erase_of_ne (fun e=>by subst e;exact hn.1 hx)).2 (h x (List.mem_cons_of_mem _ hx))
  rw[List.length_erase_of_mem ha]at this
  have hpos:0<m.length:=List.length_pos_of_mem ha
  rw[List.length_cons];omega
theorem round_eq (g:List Nd)(S:List Sp)(E:List Ed)(from_:Sp)(hb:Few g)(hi:Inc g)(hS:S.length≤100000)(hE:E.length≤4000)(hf: ∀e∈E,∃n∈g,e.1.1=n.1):
  ∃b,F.R08_round g S E from_=some b∧(b=true↔Rch (okE g S E from_.2) from_.1 from_.1):=by
 have sub: ∀(r:List Pl),r.Nodup→(∀p∈r,∃e∈E,e.2.1=p)→r.length≤4000:=fun r hn h=>by
  have:=nodup_len (m:=E.map fun e=>e.2.1) hn fun p hp=>by obtain⟨e,h1,h2⟩:=h p hp;exact List.mem_map.2 ⟨e,h1,h2⟩
  rw[List.length_map]at this;omega
 have main: ∀(n f y:Nat) (r:List Pl),y+n=4002→n<f→r.Nodup→y≤1+r.length→(∀p∈r,∃e∈E,e.2.1=p)→(∀p∈r,Rch (okE g S E from_.2) from_.1 p)→(∀i p q,i<y→(from_.1::r)[i]?=some p→okE g S E from_.2 p q→q∈r)→
   ∃b,F.R08_round_l4 g S E from_ f r (from_.1::r) (y:Int)=some b∧(b=true↔Rch (okE g S E from_.2) from_.1 from_.1):=by
  intro n
  induction n with
  |zero=>
   intro f y r hy hf' hn hyl hsub _ _
   have:=sub r hn hsub
   omega
  |succ n ih=>
   intro f y r hy hf' hn hyl hsub hreach hclosed
   obtain⟨f,rfl⟩: ∃f',f=f'+1:=⟨f-1,by omega⟩
   have hl:=sub r hn hsub
   rw[F.R08_round_l4]
   by_cases h:y<1+r.length
   ·obtain⟨cur,hcur⟩: ∃c,(from_.1::r)[y]?=some c:=⟨_,List.getElem?_eq_getElem (by rw[List.length_cons];omega)⟩
    obtain⟨x,h1,h2,h3,h4⟩:=addR_mono g S from_.2 cur E r
    have hsub2: ∀p∈r++x,∃e∈E,e.2.1=p:=fun p hp=>by
     rcases List.mem_append.1 hp with hp|hp
     ·exact hsub p hp
     ·obtain⟨e,a,_,b,_⟩:=h2 p hp;exact⟨e,a,b⟩
    have hall: ∀k,(addR g S from_.2 cur (E.take k) r).length≤9000:=fun k=>by
     obtain⟨x',a,b,c,_⟩:=addR_mono g S from_.2 cur (E.take k) r
     have:=sub (r++x') (c hn) fun p hp=>by
      rcases List.mem_append.1 hp with hp|hp
      ·exact hsub p hp
      ·obtain⟨e,a2,_,b2,_⟩:=b p hp;exact⟨e,List.mem_of_mem_take a2,b2⟩
     rw[a];omega
    rw[if_pos (by rw[List.length_cons];omega),round_l3 g S E from_ _ y cur r hb hi hS (by omega) hf hcur (by omega) (by omega) hall,h1]
    have e1:(y:Int)+1=((y+1:Nat):Int):=by omega
    rw[e1]
    have hcr:cur=from_.1∨Rch (okE g S E from_.2) from_.1 cur:=by
     cases y with
     |zero=>injection hcur with hcur;exact .inl hcur.symm
     |succ y=>exact .inr (hreach cur (List.mem_of_getElem? (by simpa using hcur)))
    refine ih f (y+1) (r++x) (by omega) (by omega) (h3 hn) (by rw[List.length_append];omega) hsub2 (fun p hp=>?_) fun i p q hi2 hp hok=>?_
    ·rcases List.mem_append.1 hp with hp|hp
     ·exact hreach p hp
     ·obtain⟨e,a,b,c,d2⟩:=h2 p hp
      rcases hcr with hcr|hcr
      ·exact .one ⟨e,a,b.trans hcr,c,d2⟩
      ·exact .step hcr ⟨e,a,b,c,d2⟩
    ·rw[←List.cons_append,List.getElem?_append_left (by rw[List.length_cons];omega)]at hp
     rcases Nat.lt_or_ge i y with h5|h5
     ·exact List.mem_append_left _ (hclosed i p q h5 hp hok)
     ·obtain rfl:i=y:=by omega
      rw[hcur]at hp;injection hp with hp;subst hp
      obtain⟨e,a,b,c,d2⟩:=hok
      rw[←c];exact h4 e a b d2
   ·rw[if_neg (by rw[List.length_cons];omega),show F.R08_on r (from_.1.1,from_.1.2)=_ from R_on_eq r from_.1 (by omega),Option.bind_some]
    refine⟨_,rfl,?_⟩
    rw[decide_eq_true_eq]
    refine⟨hreach _,fun hr=>?_⟩
    have hin: ∀q,Rch (okE g S E from_.2) from_.1 q→q∈r:=fun q hq=>by
     induction hq with
     |one h6=>exact hclosed 0 _ _ (by omega) rfl h6
     |step h6 h7 ih2=>
      obtain⟨i,hi3⟩:=List.mem_iff_getElem?.1 ih2
      have:=(List.getElem?_eq_some_iff.1 hi3).1
      exact hclosed (i+1) _ _ (by omega) (by simpa using hi3) h7
    exact hin _ hr
 exact main 4002 A.FU 0 [] (by omega) (by have:=FU_big;omega) List.nodup_nil (by simp) (by simp) (by simp) (fun i p q h=>by omega)
end Go.Proofs.YtpdhaldfdeamdaaDoor
end
section
set_option linter.unusedVariables false
set_option linter.unusedSimpArgs false
set_option synthInstance.maxSize 1000000
set_option synthInstance.maxHeartbeats 400000
namespace Go.Proofs.YtpdhaldfdeamdaaDoor
open Go.RowKit Go.Graph
abbrev Seen:=List (Pl×Bool)
def seen (m:Seen)(v:Pl):Prop:=Z.mget false m v=true
def addP (deep:List Sp)(from_:Pl)(dd:Int):List Pl→Seen→List Pl→Option (Seen×List Pl)
 | [],m,xs=>some (m,xs)
 |t::r,m,xs=>if t=from_ then none else if dd≤Z.mget 0 deep t∧Z.mget false m t=false then addP deep from_ dd r (Z.mins m t true) (xs++[t])else addP deep from_ dd r m xs
theorem reaches_l3 (deep:List Sp)(from_:Pl)(dd:Int)(k3:Seen→List Pl→Option Bool)(tos:List Pl)(m:Seen)(xs:List Pl)(hl:tos.length≤4000)(hx:xs.length≤10000):
  F.graph_plan_reaches_l3 k3 deep from_ dd tos A.FU m xs 0=match addP deep from_ dd tos m xs with
   |none=>some true
   |some s=>k3 s.1 s.2:=
 A.lp tos (fun f (s:Seen×List Pl) i=>F.graph_plan_reaches_l3 k3 deep from_ dd tos f s.1 s.2 i) (fun _ t s=>match addP deep from_ dd t s.1 s.2 with
   |none=>some true
   |some s=>k3 s.1 s.2) (fun k s=>s.2.length≤10000+k)
  (fun f s hs=>by rw[F.graph_plan_reaches_l3,if_neg (by omega),addP])
  (fun f s k t ht hk hs ih=>by
   rw[F.graph_plan_reaches_l3,if_pos (by omega),A.ixn ht,Option.bind_some,addP,A.lt]
   simp only[F.graph_plan_reaches_j2,F.graph_plan_reaches_j1,A.lt,A.gd1 (A.r64n (n:=k) (by omega)),Bool.false_eq_true,if_false]
   by_cases h:t=from_
   ·rw[if_pos (show(t.1,t.2)=(from_.1,from_.2)from h),if_pos h]
   ·rw[if_neg (show ¬(t.1,t.2)=(from_.1,from_.2)from h),if_neg h]
    by_cases hd:dd≤Z.mget 0 deep t
    ·rw[if_pos (show dd≤Z.mget 0 deep (t.1,t.2)from hd)]
     by_cases hm:Z.mget false s.1 t=false
     ·have hc:dd≤Z.mget 0 deep t∧Z.mget false s.1 t=false:=⟨hd,hm⟩
      rw[if_pos hc,show Z.mget false s.1 (t.1,t.2)=false from hm,Bool.not_false,if_pos rfl,A.gd1 (by simp only[List.length_cons,List.length_nil];omega)]
      exact ih (Z.mins s.1 t true,s.2++[t]) (by simp only[List.length_append,List.length_cons,List.length_nil];omega)
     ·have hm2:Z.mget false s.1 t=true:=by cases h2:Z.mget false s.1 t with
       |true=>rfl
       |false=>exact absurd h2 hm
      have hc: ¬(dd≤Z.mget 0 deep t∧Z.mget false s.1 t=false):=fun h2=>hm h2.2
      rw[if_neg hc,show Z.mget false s.1 (t.1,t.2)=true from hm2,Bool.not_true,if_neg Bool.false_ne_true]
      exact ih s (by omega)
    ·rw[if_neg (show ¬dd≤Z.mget 0 deep (t.1,t.2)from hd),if_neg (fun h2=>hd h2.1)]
     exact ih s (by omega))
  (by have:=FU_big;omega) (m,xs) (by simp only[];omega)
def un (T:List Pl)(m:Seen):Nat:=(T.filter fun t=> !(Z.mget false m t)).length
theorem un_ins {T:List Pl}{m:Seen}{t:Pl}(ht:t∈T)(hm:Z.mget false m t=false):un T (Z.mins m t true)+1≤un T m:=by
 unfold un
 have mono: ∀(l:List Pl),(l.filter fun t'=> !(Z.mget false (Z.mins m t true) t')).length≤(l.filter fun t'=> !(Z.mget false m t')).length:=by
  intro l
  induction l with
  |nil=>exact Nat.le_refl _
  |cons a l ih=>
   rw[List.filter_cons,List.filter_cons,Z.mget_ins]
   by_cases e:a=t
   ·rw[if_pos e,e,hm];simp only[Bool.not_true,Bool.false_eq_true,if_false,Bool.not_false,if_true,List.length_cons];omega
   ·rw[if_neg e];split<;>(try simp only[List.length_cons])<;>omega
 induction T with
 |nil=>cases ht
 |cons a l ih=>
  rw[List.filter_cons,List.filter_cons,Z.mget_ins]
  have:=mono l
  by_cases e:a=t
  ·rw[if_pos e,e,hm];simp only[Bool.not_true,Bool.false_eq_true,if_false,Bool.not_false,if_true,List.length_cons];omega
  ·have:=ih ((List.mem_cons.1 ht).resolve_left fun h=>e h.symm)
   rw[if_neg e];split<;>(try simp only[List.length_cons])<;>omega
theorem addP_none {deep:List Sp}{from_:Pl}{dd:Int}: ∀{tos:List Pl} {m:Seen} {xs:List Pl},addP deep from_ dd tos m xs=none→from_∈tos
 | [],_,_,h=>by cases h
 |t::r,m,xs,h=>by
  rw[addP]at h
  by_cases e:t=from_
  ·rw[e];exact List.mem_cons_self ..
  ·rw[if_neg e]at h
   split at h
   ·exact List.mem_cons_of_mem _ (addP_none h)
   ·exact List.mem_cons_of_mem _ (addP_none h)
theorem seen_ins {m:Seen}{t v:Pl}:seen (Z.mins m t true) v↔v=t∨seen m v:=by
 unfold seen
 rw[Z.mget_ins]
 by_cases e:v=t
 ·rw[if_pos e];simp[e]
 ·rw[if_neg e];simp[e]
theorem addP_some {deep:List Sp}{from_:Pl}{dd:Int}{T:List Pl}: ∀{tos:List Pl} {m m':Seen} {xs xs':List Pl},(∀t∈tos,t∈T)→addP deep from_ dd tos m xs=some (m',xs')→
  from_∉tos∧(∀v,seen m v→seen m' v)∧(∀v,seen m' v→seen m v∨(v∈tos∧dd≤Z.mget 0 deep v))∧(∀t∈tos,dd≤Z.mget 0 deep t→seen m' t)∧(∀v∈xs,v∈xs')∧(∀v∈xs',v∈xs∨seen m' v)∧(∀v,seen m' v→seen m v∨v∈xs')∧xs'.length+un T m'≤xs.length+un T m
 | [],m,m',xs,xs',_,h=>by
  injection h with h;injection h with h1 h2;subst h1;subst h2
  exact⟨by simp,fun v h=>h,fun v h=>.inl h,by simp,fun v h=>h,fun v h=>.inl h,fun v h=>.inl h,Nat.le_refl _⟩
 |t::r,m,m',xs,xs',hT,h=>by
  rw[addP]at h
  by_cases e:t=from_
  ·rw[if_pos e]at h;cases h
  ·rw[if_neg e]at h
   by_cases hc:dd≤Z.mget 0 deep t∧Z.mget false m t=false
   ·rw[if_pos hc]at h
    obtain⟨a1,a2,a3,a4,a5,a6,a7,a8⟩:=addP_some (fun x hx=>hT x (List.mem_cons_of_mem _ hx)) h
    have hun:=un_ins (hT t (List.mem_cons_self ..)) hc.2
    refine⟨fun h2=>(List.mem_cons.1 h2).elim (fun h3=>e h3.symm) a1,fun v hv=>a2 v (seen_ins.2 (.inr hv)),fun v hv=>?_,fun x hx hdx=>?_,fun v hv=>a5 v (List.mem_append_left _ hv),fun v hv=>?_,fun v hv=>?_,by rw[List.length_append]at a8;simp only[List.length_cons,List.length_nil]at a8;omega⟩
    ·rcases a3 v hv with h2|h2
     ·rcases seen_ins.1 h2 with rfl|h3
      ·exact .inr ⟨List.mem_cons_self ..,hc.1⟩
      ·exact .inl h3
     ·exact .inr ⟨List.mem_cons_of_mem _ h2.1,h2.2⟩
    ·rcases List.mem_cons.1 hx with rfl|hx
     ·exact a2 _ (seen_ins.2 (.inl rfl))
     ·exact a4 x hx hdx
    ·rcases a6 v hv with h2|h2
     ·rcases List.mem_append.1 h2 with h2|h2
      ·exact .inl h2
      ·rw[List.mem_singleton]at h2;subst h2;exact .inr (a2 _ (seen_ins.2 (.inl rfl)))
     ·exact .inr h2
    ·rcases a7 v hv with h2|h2
     ·rcases seen_ins.1 h2 with rfl|h3
      ·exact .inr (a5 _ (List.mem_append_right _ (List.mem_singleton.2 rfl)))
      ·exact .inl h3
     ·exact .inr h2
   ·rw[if_neg hc]at h
    obtain⟨a1,a2,a3,a4,a5,a6,a7,a8⟩:=addP_some (fun x hx=>hT x (List.mem_cons_of_mem _ hx)) h
    refine⟨fun h2=>(List.mem_cons.1 h2).elim (fun h3=>e h3.symm) a1,a2,fun v hv=>?_,fun x hx hdx=>?_,a5,a6,a7,a8⟩
    ·rcases a3 v hv with h2|h2
     ·exact .inl h2
     ·exact .inr ⟨List.mem_cons_of_mem _ h2.1,h2.2⟩
    ·rcases List.mem_cons.1 hx with rfl|hx
     ·refine a2 _ ?_
      unfold seen
      cases h2:Z.mget false m x with
      |true=>rfl
      |false=>exact absurd ⟨hdx,h2⟩ hc
     ·exact a4 x hx hdx
def blk (g:List Nd)(dd:Int)(p:Pl):Prop:=(Z.mget ((0,0,[],(0,0,(ByteArray.mk #[])),(ByteArray.mk #[]),0,0):Nd) (mapOf g) p.1).2.1=14∧(Z.mget ((0,0,[],(0,0,(ByteArray.mk #[])),(ByteArray.mk #[]),0,0):Nd) (mapOf g) p.1).2.2.2.2.2.2=dd
def okP (g:List Nd)(steps:List (Pl×List Pl))(deep:List Sp)(dd:Int)(p q:Pl):Prop:=q∈Z.mget [] steps p∧¬blk g dd p∧dd≤Z.mget 0 deep q
theorem reaches_eq (g:List Nd)(a0:(List (Int×Nd))×(List Int)×(List (Int×Int)))(h0:a0.1=mapOf g)(steps:List (Pl×List Pl))(deep:List Sp)(from_:Pl)(dd:Int)(T:List Pl)(hT:T.length≤4000)(hst: ∀p q,q∈Z.mget [] steps p→q∈T)(hsl: ∀p,(Z.mget [] steps p).length≤4000)(hfd:dd≤Z.mget 0 deep from_):
  ∃b,F.graph_plan_reaches a0 steps deep from_ dd=some b∧(b=true↔Rch (okP g steps deep dd) from_ from_):=by
 have main: ∀(n f:Nat) (m:Seen) (xs:List Pl),xs.length+un T m≤n→n<f→xs.length≤9000→xs.length+un T m≤9000→(∀v,seen m v→Rch (okP g steps deep dd) from_ v)→(∀t∈xs,t=from_∨seen m t)→(∀v,v=from_∨seen m v→v∉xs→∀w,okP g steps deep dd v w→w≠from_∧seen m w)→
   ∃b,F.graph_plan_reaches_l5 a0 steps deep from_ dd f m xs=some b∧(b=true↔Rch (okP g steps deep dd) from_ from_):=by
  intro n
  induction n with
  |zero=>
   intro f m xs hn hf hx900 _ i1 i2 i3
   obtain⟨f,rfl⟩: ∃f',f=f'+1:=⟨f-1,by omega⟩
   have hx:xs=[]:=List.eq_nil_of_length_eq_zero (by omega)
   subst hx
   rw[F.graph_plan_reaches_l5,if_neg (by simp)]
   refine⟨false,rfl,fun h=>(by cases h),fun h=>?_⟩
   have hin: ∀q,Rch (okP g steps deep dd) from_ q→q≠from_∧seen m q:=fun q hq=>by
    induction hq with
    |one h6=>exact i3 from_ (.inl rfl) (by simp) _ h6
    |step h6 h7 ih2=>exact i3 _ (.inr ih2.2) (by simp) _ h7
   exact absurd rfl (hin _ h).1
  |succ n ih=>
   intro f m xs hn hf hx900 hu900 i1 i2 i3
   obtain⟨f,rfl⟩: ∃f',f=f'+1:=⟨f-1,by omega⟩
   rw[F.graph_plan_reaches_l5]
   by_cases hne:xs=[]
   ·subst hne
    rw[if_neg (by simp)]
    refine⟨false,rfl,fun h=>(by cases h),fun h=>?_⟩
    have hin: ∀q,Rch (okP g steps deep dd) from_ q→q≠from_∧seen m q:=fun q hq=>by
     induction hq with
     |one h6=>exact i3 from_ (.inl rfl) (by simp) _ h6
     |step h6 h7 ih2=>exact i3 _ (.inr ih2.2) (by simp) _ h7
    exact absurd rfl (hin _ h).1
   ·obtain⟨ys,at_,rfl⟩: ∃ys a,xs=ys++[a]:=⟨xs.dropLast,xs.getLast hne,(List.dropLast_concat_getLast hne).symm⟩
    have hl:(ys++[at_]).length=ys.length+1:=by simp
    have e1:(((ys++[at_]).length:Int)-1)=(ys.length:Int):=by rw[hl];omega
    have hat:(ys++[at_])[ys.length]?=some at_:=by simp
    rw[if_pos (by omega),A.gd1 ⟨by omega,by omega⟩,e1,A.ixn hat,Option.bind_some,A.gd1 ⟨by omega,by omega⟩,A.gd1 ⟨by omega,by rw[Int.toNat_natCast];omega⟩,A.lt,F.graph_plan_reaches_j4,e1,Int.toNat_natCast,A.ba,h0]
    have htake:List.take ys.length (ys++[at_])=ys:=by simp
    rw[htake]
    have hatr:at_=from_∨seen m at_:=i2 at_ (by simp)
    by_cases hb:blk g dd at_
    ·rw[if_pos (show decide ((Z.mget ((0,0,[],(0,0,(ByteArray.mk #[])),(ByteArray.mk #[]),0,0):Nd) (mapOf g) at_.1).2.1=14∧(Z.mget ((0,0,[],(0,0,(ByteArray.mk #[])),(ByteArray.mk #[]),0,0):Nd) (mapOf g) at_.1).2.2.2.2.2.2=dd)=true from decide_eq_true hb)]
     refine ih f m ys (by omega) (by omega) (by omega) (by omega) i1 (fun t ht=>i2 t (List.mem_append_left _ ht)) fun v hv hvx w hw=>?_
     by_cases e:v=at_
     ·subst e;exact absurd hb hw.2.1
     ·exact i3 v hv (fun h=>by
       rcases List.mem_append.1 h with h|h
       ·exact hvx h
       ·exact e (List.mem_singleton.1 h)) w hw
    ·rw[if_neg (show ¬decide ((Z.mget ((0,0,[],(0,0,(ByteArray.mk #[])),(ByteArray.mk #[]),0,0):Nd) (mapOf g) at_.1).2.1=14∧(Z.mget ((0,0,[],(0,0,(ByteArray.mk #[])),(ByteArray.mk #[]),0,0):Nd) (mapOf g) at_.1).2.2.2.2.2.2=dd)=true from fun h=>hb (by have h9:=of_decide_eq_true h;exact h9)),A.lt,show Z.mget [] steps (at_.1,at_.2)=Z.mget [] steps at_ from rfl,reaches_l3 deep from_ dd _ _ m ys (hsl at_) (by omega)]
     cases hadd:addP deep from_ dd (Z.mget [] steps at_) m ys with
     |none=>
      have hfrom:=addP_none hadd
      have hok:okP g steps deep dd at_ from_:=⟨hfrom,hb,hfd⟩
      refine⟨true,rfl,fun _=>?_,fun _=>rfl⟩
      rcases hatr with h|h
      ·rw[h]at hok;exact .one hok
      ·exact .step (i1 at_ h) hok
     |some s=>
      obtain⟨m',xs'⟩:=s
      obtain⟨a1,a2,a3,a4,a5,a6,a7,a8⟩:=addP_some (T:=T) (hst at_) hadd
      simp only[]
      refine ih f m' xs' (by omega) (by omega) (by omega) (by omega) (fun v hv=>?_) (fun t ht=>?_) fun v hv hvx w hw=>?_
      ·rcases a3 v hv with h|h
       ·exact i1 v h
       ·have hok:okP g steps deep dd at_ v:=⟨h.1,hb,h.2⟩
        rcases hatr with h2|h2
        ·rw[h2]at hok;exact .one hok
        ·exact .step (i1 at_ h2) hok
      ·rcases a6 t ht with h|h
       ·rcases i2 t (List.mem_append_left _ h)with h2|h2
        ·exact .inl h2
        ·exact .inr (a2 t h2)
       ·exact .inr h
      ·have hv2:v=from_∨seen m v:=by
        rcases hv with h|h
        ·exact .inl h
        ·rcases a7 v h with h2|h2
         ·exact .inr h2
         ·exact absurd h2 hvx
       by_cases e:v=at_
       ·subst e
        exact⟨fun h=>a1 (h▸hw.1),a4 w hw.1 hw.2.2⟩
       ·obtain⟨h1,h2⟩:=i3 v hv2 (fun h=>by
         rcases List.mem_append.1 h with h|h
         ·exact hvx (a5 v h)
         ·exact e (List.mem_singleton.1 h)) w hw
        exact⟨h1,a2 w h2⟩
 have hu:un T []≤T.length:=List.length_filter_le _ _
 exact main (1+T.length) A.FU [] [from_] (by simp;omega) (by have:=FU_big;omega) (by simp) (by simp;omega) (fun v h=>by cases h) (fun t ht=>.inl (List.mem_singleton.1 ht)) (fun v hv hx w hw=>by
  rcases hv with h|h
  ·exact absurd (List.mem_singleton.2 h) hx
  ·cases h)
end Go.Proofs.YtpdhaldfdeamdaaDoor
end
section
set_option linter.unusedVariables false
set_option linter.unusedSimpArgs false
set_option synthInstance.maxSize 1000000
set_option synthInstance.maxHeartbeats 400000
namespace Go.Proofs.YtpdhaldfdeamdaaDoor
open Go.RowKit Go.Graph
theorem mget_mem {p:Pl}: ∀{l:List Sp} {v:Int},(l.map (·.1)).Nodup→(p,v)∈l→Z.mget 0 l p=v
 | [],_,_,h=>by cases h
 |(a,w)::r,v,hn,h=>by
  rw[List.map_cons,List.nodup_cons]at hn
  unfold Z.mget
  rcases List.mem_cons.1 h with h|h
  ·injection h with h1 h2;rw[if_pos h1,h2]
  ·rw[if_neg (fun e=>hn.1 (by rw[←e];exact List.mem_map_of_mem (f:=(·.1)) h))]
   exact mget_mem hn.2 h
theorem mhas_app {l:List Sp}{p:Pl}(h:p∉l.map (·.1)):Z.mhas l p=false:=by
 induction l with
 |nil=>rfl
 |cons a r ih=>
  rw[List.map_cons,List.mem_cons,not_or]at h
  obtain⟨q,v⟩:=a
  unfold Z.mhas
  rw[if_neg h.1];exact ih h.2
def toOf (E:List Ed)(p:Pl):List Pl:=(E.filter fun e=>decide (e.1=p)).map fun e=>e.2.1
theorem turns_l2 (a0:(List (Int×Nd))×(List Int)×(List (Int×Int)))(S:List Sp)(E:List Ed)(hE:E.length≤4000): ∃st,(∀p,Z.mget [] st p=toOf E p)∧F.graph_plan_turns_l2 a0 S E A.FU [] 0=A.mrg (F.graph_plan_turns_b1 a0 S st) (some false) S:=by
 have main: ∀(n k f:Nat) (m:List (Pl×List Pl)),k+n=E.length→n<f→(∀p,Z.mget [] m p=toOf (E.take k) p)→∃st,(∀p,Z.mget [] st p=toOf E p)∧F.graph_plan_turns_l2 a0 S E f m (k:Int)=A.mrg (F.graph_plan_turns_b1 a0 S st) (some false) S:=by
  intro n
  induction n with
  |zero=>
   intro k f m hk hf hm
   obtain⟨f,rfl⟩: ∃f',f=f'+1:=⟨f-1,by omega⟩
   rw[List.take_of_length_le (by omega)]at hm
   exact⟨m,hm,by rw[F.graph_plan_turns_l2,if_neg (by omega)]⟩
  |succ n ih=>
   intro k f m hk hf hm
   obtain⟨f,rfl⟩: ∃f',f=f'+1:=⟨f-1,by omega⟩
   have hx:E[k]?=some E[k]:=List.getElem?_eq_getElem (by omega)
   generalize E[k]=x at hx
   have hlen:(Z.mget [] m x.1).length≤4000:=by
    rw[hm];unfold toOf
    rw[List.length_map]
    have:=List.length_filter_le (fun e:Ed=>decide (e.1=x.1)) (E.take k)
    rw[List.length_take]at this;omega
   rw[F.graph_plan_turns_l2,if_pos (by omega),A.ixn hx,Option.bind_some,A.gd1 (by rw[show Z.mget [] m (x.1.1,x.1.2)=Z.mget [] m x.1 from rfl];simp only[List.length_cons,List.length_nil];omega),A.gd1 (A.r64n (by omega))]
   refine ih (k+1) f _ (by omega) (by omega) fun p=>?_
   rw[show Z.mins m (x.1.1,x.1.2) (Z.mget [] m (x.1.1,x.1.2)++[(x.2.1.1,x.2.1.2)])=Z.mins m x.1 (Z.mget [] m x.1++[x.2.1])from rfl,Z.mget_ins,take_s hx]
   unfold toOf
   rw[List.filter_append,List.map_append,List.filter_cons,List.filter_nil]
   by_cases e:p=x.1
   ·subst e
    rw[if_pos rfl,hm,if_pos (decide_eq_true rfl)];rfl
   ·rw[if_neg e,hm,if_neg (by simp only[decide_eq_true_eq];exact fun h=>e h.symm),List.map_nil,List.append_nil];rfl
 exact main E.length 0 A.FU [] (by omega) (by have:=FU_big;omega) (fun p=>rfl)
theorem turns_l3 (g:List Nd)(a0:(List (Int×Nd))×(List Int)×(List (Int×Int)))(S:List Sp)(E:List Ed)(hS:S.length≤4000)(hn:(S.map (·.1)).Nodup)(hE:F.graph_plan_edges a0 g=some E):F.graph_plan_turns_l3 a0 g S A.FU [] 0=F.graph_plan_turns_l2 a0 S E A.FU [] 0:=
 A.lp S (fun f (m:List Sp) i=>F.graph_plan_turns_l3 a0 g S f m i) (fun _ _ _=>F.graph_plan_turns_l2 a0 S E A.FU [] 0) (fun k m=>m=S.take k)
  (fun f m hm=>by
   rw[List.take_of_length_le (Nat.le_refl _)]at hm
   rw[F.graph_plan_turns_l3,if_neg (by omega),show F.graph_plan_edges (a0.1,a0.2.1,a0.2.2) g=some E from hE,Option.bind_some,hm])
  (fun f m k x hx hk hm ih=>by
   rw[F.graph_plan_turns_l3,if_pos (by omega),A.ixn hx,Option.bind_some,A.gd1 (A.r64n (by omega))]
   refine ih _ ?_
   rw[show Z.mins m (x.1.1,x.1.2) x.2=Z.mins m x.1 x.2 from rfl,mins_new (mhas_app ?_),hm,take_s hx]
   rw[hm]
   intro h
   rw[List.map_take]at h
   have hd:=hn
   rw[←List.take_append_drop k (S.map (·.1)),List.nodup_append]at hd
   refine hd.2.2 _ h _ ?_ rfl
   rw[←List.map_drop,A.dropx hx,List.map_cons];exact List.mem_cons_self ..)
  (by have:=FU_big;omega) [] (by simp)
theorem nodeAt {g:List Nd}(hi:Inc g){n:Nd}(hn:n∈g)(z:Nd):Z.mget z (mapOf g) n.1=n∧find g n.1=(n,true):=by
 obtain⟨j,hj⟩:=List.mem_iff_getElem?.1 hn
 exact⟨hi.mget hj,find_eq hi hj⟩
theorem mem_st {g:List Nd}{d:List Int}{st:List (Pl×List Pl)}(hst: ∀p,Z.mget [] st p=toOf (edges g d) p){p q:Pl}:q∈Z.mget [] st p↔∃e∈edges g d,e.1=p∧e.2.1=q:=by
 rw[hst];unfold toOf
 constructor
 ·intro h
  obtain⟨e,h1,h2⟩:=List.mem_map.1 h
  obtain⟨h3,h4⟩:=List.mem_filter.1 h1
  exact⟨e,h3,of_decide_eq_true h4,h2⟩
 ·rintro⟨e,h1,h2,h3⟩
  exact List.mem_map.2 ⟨e,List.mem_filter.2 ⟨h1,decide_eq_true h2⟩,h3⟩
theorem nodup_S {g:List Nd}{d:List Int}(hi:Inc g)(ho:Own g):((spots g d).map (·.1)).Nodup:=spotsF_nodup d 0 g hi fun n hn=>in2 ho hn
theorem ok_iff {g:List Nd}{d:List Int}(hi:Inc g)(ho:Own g){dd:Int}{p q:Pl}:okE g (spots g d) (edges g d) dd p q↔(∃e∈edges g d,e.1=p∧e.2.1=q)∧dd≤Z.mget 0 (spots g d) q∧(¬blk g dd p∨p.2=2):=by
 have hN:=nodup_S (d:=d) hi ho
 have key: ∀e∈edges g d,(openB g (spots g d) dd e=true↔dd≤Z.mget 0 (spots g d) e.2.1∧(¬blk g dd e.1∨e.1.2=2)):=fun e he=>by
  obtain⟨v,hv⟩:=edge_to d he
  obtain⟨n,hn,h1⟩:=edge_from d he
  obtain⟨h2,h3⟩:=nodeAt hi hn ((0,0,[],(0,0,(ByteArray.mk #[])),(ByteArray.mk #[]),0,0):Nd)
  unfold openB blk
  rw[mget_mem hN hv,atS_mem hN hv,h1,h3,h2,Bool.and_eq_true,decide_eq_true_eq,Bool.or_eq_true,Bool.or_eq_true,decide_eq_true_eq,decide_eq_true_eq,decide_eq_true_eq]
  constructor
  ·rintro⟨a,(b|b)|b⟩
   ·exact⟨a,.inl fun h=>b h.1⟩
   ·exact⟨a,.inl fun h=>b h.2⟩
   ·exact⟨a,.inr b⟩
  ·rintro⟨a,b|b⟩
   ·by_cases c:n.2.1=14
    ·exact⟨a,.inl (.inr fun h=>b ⟨c,h⟩)⟩
    ·exact⟨a,.inl (.inl c)⟩
   ·exact⟨a,.inr b⟩
 constructor
 ·rintro⟨e,h1,h2,h3,h4⟩
  have:=(key e h1).1 h4
  rw[h2,h3]at this
  exact⟨⟨e,h1,h2,h3⟩,this⟩
 ·rintro⟨⟨e,h1,h2,h3⟩,h4⟩
  refine⟨e,h1,h2,h3,(key e h1).2 ?_⟩
  rw[h2,h3];exact h4
theorem rch_iff {g:List Nd}{d:List Int}{st:List (Pl×List Pl)}(hi:Inc g)(ho:Own g)(hst: ∀p,Z.mget [] st p=toOf (edges g d) p){dd:Int}{a:Pl}:Rch (okP g st (spots g d) dd) a a↔Rch (okE g (spots g d) (edges g d) dd) a a:=by
 have up: ∀{p q},okP g st (spots g d) dd p q→okE g (spots g d) (edges g d) dd p q:=fun {p q} h=>
  (ok_iff hi ho).2 ⟨(mem_st hst).1 h.1,h.2.2,.inl h.2.1⟩
 have down: ∀{p q},okE g (spots g d) (edges g d) dd p q→(p.2≠2∨¬blk g dd p)→okP g st (spots g d) dd p q:=fun {p q} h h2=>by
  obtain⟨h3,h4,h5⟩:=(ok_iff hi ho).1 h
  refine⟨(mem_st hst).2 h3,?_,h4⟩
  rcases h2 with h2|h2
  ·exact h5.resolve_right h2
  ·exact h2
 have blk_same: ∀{p q:Pl},p.1=q.1→(blk g dd p↔blk g dd q):=fun {p q} e=>by unfold blk;rw[e]
 constructor
 ·intro h
  have: ∀b,Rch (okP g st (spots g d) dd) a b→Rch (okE g (spots g d) (edges g d) dd) a b:=fun b h=>by
   induction h with
   |one h=>exact .one (up h)
   |step _ h2 ih=>exact .step ih (up h2)
  exact this a h
 ·intro h
  have key: ∀b,Rch (okE g (spots g d) (edges g d) dd) a b→Rch (okP g st (spots g d) dd) a b∨(a.2=2∧blk g dd a):=fun b h=>by
   induction h with
   |one h=>
    by_cases h2:a.2=2∧blk g dd a
    ·exact .inr h2
    ·exact .inl (.one (down h (by
      by_cases h3:a.2=2
      ·exact .inr fun h4=>h2 ⟨h3,h4⟩
      ·exact .inl h3)))
   | @step b c _ h2 ih=>
    rcases ih with ih|ih
    ·refine .inl (.step ih (down h2 ?_))
     by_cases h3:b.2=2
     ·refine .inr fun h4=>?_
      have hlast: ∃p,okP g st (spots g d) dd p b:=by cases ih with
       |one h=>exact⟨_,h⟩
       |step _ h=>exact⟨_,h⟩
      obtain⟨p,hp⟩:=hlast
      obtain⟨e,h5,h6,h7⟩:=(mem_st hst).1 hp.1
      have h8:=edge_out d ho h5 (by rw[h7];exact h3)
      rw[h6,h7]at h8
      exact hp.2.1 ((blk_same h8.1).2 h4)
     ·exact .inl h3
    ·exact .inr ih
  rcases key a h with h2|⟨h2,h3⟩
  ·exact h2
  ·have hlast: ∃p,okE g (spots g d) (edges g d) dd p a:=by cases h with
    |one h=>exact⟨_,h⟩
    |step _ h=>exact⟨_,h⟩
   obtain⟨p,hp⟩:=hlast
   obtain⟨⟨e,h5,h6,h7⟩,_,h9⟩:=(ok_iff hi ho).1 hp
   have h8:=edge_out d ho h5 (by rw[h7];exact h2)
   rw[h6,h7]at h8
   rcases h9 with h9|h9
   ·exact absurd ((blk_same h8.1).2 h3) h9
   ·exact absurd h9 h8.2
theorem edges_len {g:List Nd}(ho:Own g)(hg:g.length≤40)(d:List Int): ∀(m k:Nat),k+m=g.length→(edgesF g d k (g.drop k)).length≤83*m
 |0,k,h=>by rw[List.drop_eq_nil_of_le (by omega)];exact Nat.le_refl 0
 |m+1,k,h=>by
  have hx:g[k]?=some g[k]:=List.getElem?_eq_getElem (by omega)
  generalize g[k]=x at hx
  have h2:=in2 ho (List.mem_of_getElem? hx)
  have h3:=usesF_len x.1 g fun x hx=>in2 ho hx
  have h4:=edges_len ho hg d m (k+1) (by omega)
  rw[A.dropx hx,edgesF]
  split
  ·omega
  ·rw[List.length_append,List.length_append,inE_len,outE,List.length_map];omega
theorem spots_port {g:List Nd}(ho:Own g)(d:List Int): ∀(k:Nat) (l:List Nd),(∀n∈l,n∈g)→∀sp∈spotsF g d k l,0≤sp.1.2∧sp.1.2≤2
 |_,[],_,_,h=>by cases h
 |k,n::r,hl,sp,h=>by
  have h2:=in2 ho (hl n (List.mem_cons_self ..))
  unfold spotsF at h
  rcases List.mem_append.1 h with h|h
  ·have:=insS_at g d n.1 0 _ sp.1 sp.2 h;omega
  ·rcases List.mem_append.1 h with h|h
   ·unfold outS at h
    split at h
    ·rw[List.mem_singleton]at h;subst h;simp
    ·cases h
   ·exact spots_port ho d (k+1) r (fun x hx=>hl x (List.mem_cons_of_mem _ hx)) sp h
theorem turns_same (g:List Nd)(d:List Int)(a0:(List (Int×Nd))×(List Int)×(List (Int×Int)))(h0:a0.1=mapOf g)(hb:Few g)(hi:Inc g)(hfed:Fed g)(ho:Own g)(hib:InB d)(hr:RelD g d a0.2.2)(hd:d.length=g.length):
  ∃b,F.graph_plan_turns a0 g=some b∧(∀r5 r9,F.R08_whole_l1 g r5 r9 (spots g d) (edges g d) A.FU 0=some (if b=true then([],[],81)else(r5.1,r9.1,0)))∧(b=true↔∃sp∈spots g d,Rch (okE g (spots g d) (edges g d) sp.2) sp.1 sp.1):=by
 have hlen:=hb.1
 have hS:(spots g d).length≤120:=by
  have:=spots_len ho d g.length 0 (by omega);rw[List.drop_zero]at this;unfold spots;omega
 have hE:(edges g d).length≤4000:=by
  have:=edges_len ho hlen d g.length 0 (by omega);rw[List.drop_zero]at this;unfold edges;omega
 have hN:=nodup_S (d:=d) hi ho
 have hok: ∀sp∈spots g d,SpOk g sp:=by
  have:=spots_ok (d:=d) (g:=g) hib g.length 0 (by omega);rw[List.drop_zero]at this;exact this
 obtain⟨st,hst,hl2⟩:=turns_l2 a0 (spots g d) (edges g d) hE
 have hto: ∀p q,q∈Z.mget [] st p→q∈(edges g d).map fun e=>e.2.1:=fun p q h=>by
  obtain⟨e,h1,_,h3⟩:=(mem_st hst).1 h
  exact List.mem_map.2 ⟨e,h1,h3⟩
 have htl: ∀p,(Z.mget [] st p).length≤4000:=fun p=>by
  rw[hst];unfold toOf;rw[List.length_map]
  exact Nat.le_trans (List.length_filter_le _ _) hE
 have hval: ∀sp∈spots g d,∃b,F.graph_plan_reaches a0 st (spots g d) sp.1 sp.2=some b∧F.R08_round g (spots g d) (edges g d) sp=some b∧(b=true↔Rch (okE g (spots g d) (edges g d) sp.2) sp.1 sp.1):=fun sp hsp=>by
  obtain⟨b,h1,h2⟩:=reaches_eq g a0 h0 st (spots g d) sp.1 sp.2 ((edges g d).map fun e=>e.2.1) (by rw[List.length_map];exact hE) hto htl (by rw[mget_mem hN (p:=sp.1) (v:=sp.2) hsp];exact Int.le_refl _)
  obtain⟨b',h3,h4⟩:=round_eq g (spots g d) (edges g d) sp hb hi (by omega) hE (fun e he=>edge_from d he)
  refine⟨b,h1,?_,h2.trans (rch_iff hi ho hst)⟩
  rw[h3];congr 1
  rw[Bool.eq_iff_iff,h4,h2]
  exact(rch_iff hi ho hst).symm
 let p:Sp→Bool:=fun sp=>(F.graph_plan_reaches a0 st (spots g d) sp.1 sp.2).getD false
 have hp: ∀sp∈spots g d,(p sp=true↔Rch (okE g (spots g d) (edges g d) sp.2) sp.1 sp.1):=fun sp hsp=>by
  obtain⟨b,h1,_,h3⟩:=hval sp hsp
  rw[show p sp=b from congrArg (fun o=>Option.getD o false) h1];exact h3
 refine⟨(spots g d).any p,?_,fun r5 r9=>?_,?_⟩
 ·unfold F.graph_plan_turns
  rw[show F.graph_plan_spots (a0.1,a0.2.1,a0.2.2) g=_ from spotsP_eq g d a0 hb hfed ho hr,Option.bind_some,turns_l3 g a0 (spots g d) (edges g d) (by omega) hN (edgesP_eq g d a0 hb hfed ho hib hr),hl2]
  have:=A.mrg_any (body:=F.graph_plan_turns_b1 a0 (spots g d) st) (rest:=some false) (y:=true) (p:=p) (l:=spots g d) fun sp hsp=>by
   obtain⟨b,h1,_,_⟩:=hval sp hsp
   obtain⟨⟨j,n,hn,hid⟩,hdd⟩:=hok sp hsp
   have hng:=List.mem_of_getElem? hn
   have hids:=own_id (ho n hng)
   have hport:0≤sp.1.2∧sp.1.2≤2:=spots_port ho d 0 g (fun n hn=>hn) sp hsp
   unfold F.graph_plan_turns_b1
   have hh:decide (IntKind.i64.has sp.1.1)=true∧decide (IntKind.i64.has sp.1.2)=true:=⟨decide_eq_true (Z.i64_has ⟨by omega,by omega⟩),decide_eq_true (Z.i64_has ⟨by omega,by omega⟩)⟩
   rw[A.gd1 hh,show F.graph_plan_reaches (a0.1,a0.2.1,a0.2.2) st (spots g d) (sp.1.1,sp.1.2) sp.2=_ from h1,Option.bind_some,show p sp=b from congrArg (fun o=>Option.getD o false) h1]
  rw[this]
  cases (spots g d).any p<;>rfl
 ·have loop:=A.lp0 (spots g d) (fun f y=>F.R08_whole_l1 g r5 r9 (spots g d) (edges g d) f y) (fun _ t=>some (if t.any p=true then([],[],81)else(r5.1,r9.1,0)))
   (fun f=>by rw[F.R08_whole_l1,if_neg (by omega)];rfl)
   (fun f k x hx hk ih=>by
    obtain⟨b,h1,h2,_⟩:=hval x (List.mem_of_getElem? hx)
    rw[F.R08_whole_l1,if_pos (by omega),A.ixn hx,Option.bind_some,show F.R08_round g (spots g d) (edges g d) ((x.1.1,x.1.2),x.2)=_ from h2,Option.bind_some,List.any_cons,show p x=b from congrArg (fun o=>Option.getD o false) h1]
    cases b with
    |true=>rfl
    |false=>rw[if_neg Bool.false_ne_true,A.gd1 (A.r64n (by omega)),ih,Bool.false_or])
   (by have:=FU_big;omega)
  exact loop
 ·rw[List.any_eq_true]
  exact⟨fun⟨sp,h1,h2⟩=>⟨sp,h1,(hp sp h1).1 h2⟩,fun⟨sp,h1,h2⟩=>⟨sp,h1,(hp sp h1).2 h2⟩⟩
theorem own_of {g:List Nd}(h:okL g 0 0 g=true):Own g:=fun n hn=>by
 obtain⟨j,hj⟩:=List.mem_iff_getElem?.1 hn
 have hL:=okL_iff g g.length 0 (by omega)
 rw[List.drop_zero,show lastOf g 0=0 from rfl]at hL
 have:=hL.1 h j n (by omega) hj
 cases hq:ownQ n with
 |true=>rfl
 |false=>exact absurd (.inr (.inl hq)) this
theorem orderF_plc (g:List Nd): ∀(r:Nat) (done:List Bool) (l l':List Int),orderF g r done l=some l'→Plc g l→Plc g l'
 |0,done,l,l',h,hp=>by injection h with h;subst h;exact hp
 |r+1,done,l,l',h,hp=>by
  rw[orderF]at h
  by_cases hc:firstF g done 0 g (-1)<0
  ·rw[if_pos hc]at h;cases h
  ·rw[if_neg hc]at h
   by_cases hg:g.length=0
   ·have:=firstF_le g done 0 g (-1) (by omega)
    have e:g=[]:=List.eq_nil_of_length_eq_zero hg
    subst e
    simp[firstF]at hc
   ·have hle:=firstF_le g done 0 g (-1) (by omega) (by omega)
    refine orderF_plc g r _ _ l' h fun i p hip=>?_
    rw[List.getElem?_append]at hip
    split at hip
    ·exact hp i p hip
    ·rename_i hil
     have:i-l.length=0:=by
      have:=(List.getElem?_eq_some_iff.1 hip).1
      simp only[List.length_cons,List.length_nil]at this;omega
     rw[this]at hip
     injection hip with hip
     subst hip
     exact⟨(firstF g done 0 g (-1)).toNat,g[(firstF g done 0 g (-1)).toNat]'(by omega),by omega,List.getElem?_eq_getElem (by omega)⟩
structure Whole (g:List Nd) (l d:List Int) (dm:List (Int×Int)):Prop where
 inc:Inc g
 fed:Fed g
 own:Own g
 rel:RelD g d dm
 inb:InB d
 dlen:d.length=g.length
 key:KeyD g l dm
 plc:Plc g l
 llen:l.length=g.length
 ord:orderF g g.length (List.replicate g.length false) []=some l
 dep:depthsF g l (List.replicate g.length 0)=some d
 lps:loopsF g d g=true
 nort: ∀sp∈spots g d,¬Rch (okE g (spots g d) (edges g d) sp.2) sp.1 sp.1
 kin:g.all (fun n=>n.2.2.1.all (inOk g))=true
 okr:okR g 0 g=true
 chk:g.all (fun n=>decide (chk n.2.1 n.2.2.2.1=0))=true
 l32:g.length≤32
theorem whole_same (g:List Nd)(hb:Few g):
  (∃e,e≠0∧F.graph_whole g=some (none,e)∧F.R08_whole g=some ([],[],e))∨
  (∃l d dm,F.graph_whole g=some (some (mapOf g,l.map (idAt g),dm),0)∧F.R08_whole g=some (l,d,0)∧Whole g l d dm):=by
 rw[whole_P g hb]
 unfold F.R08_whole
 rw[parts_eq g hb,ok_eq]
 by_cases h32:(32:Int)<(g.length:Int)
 ·rw[if_pos h32,if_pos h32]
  exact .inl ⟨80,by decide,rfl,rfl⟩
 rw[if_neg h32,if_neg h32]
 by_cases hok:okR g 0 g=true
 case neg=>rw[if_neg hok,if_neg hok];exact .inl ⟨80,by decide,rfl,rfl⟩
 rw[if_pos hok,if_pos hok]
 by_cases hfn:g.all (fun n=>decide (chk n.2.1 n.2.2.2.1=0))=true
 case neg=>rw[if_neg hfn,if_neg hfn];exact .inl ⟨60,by decide,rfl,rfl⟩
 rw[if_pos hfn,if_pos hfn]
 by_cases hin:g.all (fun n=>n.2.2.1.all (inOk g))=true
 case neg=>rw[if_neg hin,if_neg hin];exact .inl ⟨80,by decide,rfl,rfl⟩
 rw[if_pos hin,if_pos hin,Option.bind_some,if_neg (by decide)]
 have hi:=ok_inc hok
 have hfed:=fed_of hin
 have ho:=own_of (by rw[ok_eq];exact hok)
 have hlen:=hb.1
 unfold sortP
 rcases order_sort hb hi hfed (mapOf g)with⟨l,h1,h2,h3,h4⟩|⟨h1,p,h2⟩
 case inr=>rw[h1,h2];exact .inl ⟨81,by decide,rfl,rfl⟩
 rw[h1,h2]
 simp only[Option.bind_some,Bool.not_true,Bool.false_eq_true,if_false]
 have hplc:Plc g l:=orderF_plc g g.length _ [] l h4 fun i p h=>by cases h
 rcases depths_same g l hb hi hfed ho (by omega) hplc with⟨d,dm,d1,d2,d3,d4,d5,d6,d7,d8⟩|⟨d1,p,d2⟩
 case inr=>rw[d1,d2];exact .inl ⟨80,by decide,rfl,rfl⟩
 rw[d1,d2]
 simp only[Option.bind_some,Bool.not_true,Bool.false_eq_true,if_false]
 obtain⟨b,t1,t2,t3⟩:=turns_same g d (mapOf g,l.map (idAt g),dm) rfl hb hi hfed ho d4 d3 d5
 rw[t1,spotsR_eq g d hb hfed ho d5]
 simp only[Option.bind_some]
 rw[edgesR_eq g d hb hi ho d4]
 simp only[Option.bind_some,t2]
 cases b with
 |true=>exact .inl ⟨81,by decide,rfl,rfl⟩
 |false=>exact .inr ⟨l,d,dm,rfl,rfl,hi,hfed,ho,d3,d4,d5,d6,hplc,h3,h4,d8,d7,fun sp h1 h2=>Bool.noConfusion (t3.2 ⟨sp,h1,h2⟩),hin,hok,hfn,by omega⟩
end Go.Proofs.YtpdhaldfdeamdaaDoor
end
section
set_option linter.unusedVariables false
set_option linter.unusedSimpArgs false
set_option synthInstance.maxSize 1000000
set_option synthInstance.maxHeartbeats 400000
namespace Go.Proofs.YtpdhaldfdeamdaaDoor
open Go.RowKit Go.Graph
theorem Cmp_eq (a b:Int):F.cmp_Compare_int a b=some (if a<b then-1 else if b<a then 1 else 0):=by
 unfold F.cmp_Compare_int F.cmp_isNaN_int
 simp only[Option.bind_some,ne_eq,not_true_eq_false,decide_false,Bool.false_eq_true,if_false]
 split
 ·rfl
 ·split<;>rfl
def orF:List Int→Int
 | []=>0
 |x::r=>if x≠0 then x else orF r
theorem Or_eq (l:List Int)(hl:l.length≤100):F.cmp_Or_int l=some (orF l):=by
 have loop:=A.lp0 l (fun f y=>F.cmp_Or_int_l1 l f y) (fun _ t=>some (orF t)) (fun f=>by rw[F.cmp_Or_int_l1,if_neg (by omega)];rfl)
  (fun f k x hx hk ih=>by
   rw[F.cmp_Or_int_l1,if_pos (by omega),A.ixn hx,Option.bind_some,orF]
   by_cases h:x≠0
   ·rw[if_pos h,if_pos h]
   ·rw[if_neg h,if_neg h,A.gd1 (A.r64n (by omega)),ih])
  (by have:=FU_big;omega)
 exact loop
def cmpI (a b:Int):Int:=if a<b then-1 else if b<a then 1 else 0
def cmpP (p q:Pl):Int:=orF [cmpI p.1 q.1,cmpI p.2 q.2]
def cmpE (x y:Ed):Int:=orF [cmpP x.1 y.1,cmpP x.2.1 y.2.1]
theorem place_eq (p q:Pl):F.graph_place p q=some (cmpP p q):=by
 unfold F.graph_place
 rw[Cmp_eq,Option.bind_some,Cmp_eq,Option.bind_some,Or_eq _ (by simp),Option.bind_some];rfl
theorem Edges1_eq (x y:Ed):F.graph_Edges_1 x y=some (cmpE x y):=by
 unfold F.graph_Edges_1
 rw[place_eq,Option.bind_some,place_eq,Option.bind_some,Or_eq _ (by simp),Option.bind_some];rfl
def ltP (p q:Pl):Prop:=p.1<q.1∨p.1=q.1∧p.2<q.2
def ltE (x y:Ed):Prop:=ltP x.1 y.1∨x.1=y.1∧ltP x.2.1 y.2.1
theorem cmpI_lt {a b:Int}(h:a<b):cmpI b a=1:=by unfold cmpI;rw[if_neg (by omega),if_pos h]
theorem cmpI_self (a:Int):cmpI a a=0:=by unfold cmpI;rw[if_neg (by omega),if_neg (by omega)]
theorem cmpP_lt {p q:Pl}(h:ltP p q):cmpP q p=1:=by
 unfold cmpP
 rcases h with h|⟨h1,h2⟩
 ·rw[cmpI_lt h];rfl
 ·rw[h1,cmpI_self,cmpI_lt h2];rfl
theorem cmpP_self (p:Pl):cmpP p p=0:=by
 unfold cmpP;rw[cmpI_self,cmpI_self];rfl
theorem cmpE_lt {x y:Ed}(h:ltE x y):cmpE y x=1:=by
 unfold cmpE
 rcases h with h|⟨h1,h2⟩
 ·rw[cmpP_lt h];rfl
 ·rw[h1,cmpP_self,cmpP_lt h2];rfl
def Od (l:List Ed):Prop:=l.Pairwise ltE
theorem Od.cmp {l:List Ed}(h:Od l){i j:Nat}(hij:i<j)(hj:j<l.length): ∃x y,l[i]?=some x∧l[j]?=some y∧cmpE y x=1:=by
 refine⟨l[i],l[j],List.getElem?_eq_getElem (by omega),List.getElem?_eq_getElem hj,cmpE_lt ?_⟩
 exact List.pairwise_iff_getElem.1 h i j (by omega) hj hij
theorem Od.less {l:List Ed}(h:Od l){i j:Nat}(hij:i<j)(hj:j<l.length){β:Type}(K:Int→Option β):
  ((A.ix l (j:Int)).bind fun y=>(A.ix l (i:Int)).bind fun x=>(F.graph_Edges_1 y x).bind K)=K 1:=by
 obtain⟨x,y,h1,h2,h3⟩:=h.cmp hij hj
 rw[A.ixn h2,Option.bind_some,A.ixn h1,Option.bind_some,Edges1_eq,Option.bind_some,h3]
theorem ins_l2 {l:List Ed}(h:Od l)(hl:l.length≤1000000)(k3:Int→Option Unit)(a j:Nat)(hj:j<l.length)(f:Nat):
  F.slices_insertionSortCmpFunc_api_Edge_graph_Edges_1_l2 k3 l (a:Int) (j:Int) (f+1)=k3 ((j:Int)+1):=by
 have e:F.slices_insertionSortCmpFunc_api_Edge_graph_Edges_1_j1 k3 l (j:Int) false=k3 ((j:Int)+1):=by
  unfold F.slices_insertionSortCmpFunc_api_Edge_graph_Edges_1_j1
  rw[if_neg (by simp),A.gd1 (A.r64n (by omega))]
 rw[F.slices_insertionSortCmpFunc_api_Edge_graph_Edges_1_l2]
 by_cases hc:(a:Int)<(j:Int)
 ·rw[if_pos hc,A.gd1 ⟨by omega,by omega⟩]
  obtain⟨i,rfl⟩: ∃i:Nat,j=i+1:=⟨j-1,by omega⟩
  rw[show(((i+1:Nat):Int)-1)=(i:Int) by omega]
  exact(h.less (i:=i) (j:=i+1) (by omega) hj _).trans e
 ·rw[if_neg hc];exact e
theorem ins_l3 {l:List Ed}(h:Od l)(hl:l.length≤1000000)(a b:Nat)(hb:b≤l.length): ∀(n j f:Nat),b≤j+n→n<f→
  F.slices_insertionSortCmpFunc_api_Edge_graph_Edges_1_l3 l (a:Int) (b:Int) f (j:Int)=some ()
 |n,j,0,hn,hf=>absurd hf (by omega)
 |n,j,f+1,hn,hf=>by
  rw[F.slices_insertionSortCmpFunc_api_Edge_graph_Edges_1_l3]
  by_cases hc:(j:Int)<(b:Int)
  ·rw[if_pos hc]
   obtain⟨m,hm⟩: ∃m,A.FU=m+1:=⟨A.FU-1,by have:=FU_big;omega⟩
   rw[hm,ins_l2 h hl _ a j (by omega) m]
   exact ins_l3 h hl a b hb (n-1) (j+1) f (by omega) (by omega)
  ·rw[if_neg hc]
theorem ins_eq {l:List Ed}(h:Od l)(hl:l.length≤1000000)(a b:Nat)(ha:a≤l.length)(hb:b≤l.length):F.slices_insertionSortCmpFunc_api_Edge_graph_Edges_1 l (a:Int) (b:Int)=some ():=by
 unfold F.slices_insertionSortCmpFunc_api_Edge_graph_Edges_1
 rw[A.gd1 (A.r64n (by omega))]
 exact ins_l3 h hl a b hb b (a+1) A.FU (by omega) (by have:=FU_big;omega)
theorem half (a b:Nat)(h:a+b≤100000000):IntKind.u64.wrap ((a:Int)+(b:Int)) / 2^((1:Int)).toNat=(((a+b) / 2:Nat):Int):=by
 rw[Z.u64_in _ (by omega)]
 show((a:Int)+(b:Int)) / 2=_
 omega
theorem r64h (a b:Nat)(h:a+b≤100000000):Z.R64 ((a:Int)+(b:Int))∧(0≤(1:Int)∧(1:Int)≤64)∧Z.R64 ((((a+b) / 2:Nat):Int)):=⟨⟨by omega,by omega⟩,⟨by omega,by omega⟩,⟨by omega,by omega⟩⟩
theorem r64i {x:Int}(h:0≤x∧x≤1000000000):Z.R64 x:=⟨by omega,by omega⟩
theorem sym_l1 (l:List Ed)(a m f:Nat)(ham:a+1=m)(hm:m≤1000000):F.slices_symMergeCmpFunc_api_Edge_graph_Edges_1_l1 l (a:Int) (m:Int) (f+1)=some ():=by
 rw[F.slices_symMergeCmpFunc_api_Edge_graph_Edges_1_l1,A.gd1 (r64i (by omega)),if_neg (by omega)]
theorem sym_l2 {l:List Ed}(h:Od l)(hl:l.length≤1000000)(a m:Nat)(ham:a+1=m): ∀(n j f:Nat),m≤j→j≤l.length→j≤m+n→n<f→
  F.slices_symMergeCmpFunc_api_Edge_graph_Edges_1_l2 l (a:Int) f (m:Int) (j:Int)=some ()
 |n,j,0,hm,hj,hn,hf=>absurd hf (by omega)
 |n,j,f+1,hm,hj,hn,hf=>by
  rw[F.slices_symMergeCmpFunc_api_Edge_graph_Edges_1_l2]
  by_cases hc:(m:Int)<(j:Int)
  ·rw[if_pos hc,half m j (by omega),A.gd1 (r64h m j (by omega))]
   refine(h.less (i:=a) (j:=(m+j) / 2) (by omega) (by omega) _).trans ?_
   show(if(1:Int)<0 then _ else _)=_
   rw[if_neg (by decide)]
   exact sym_l2 h hl a m ham (n-1) ((m+j) / 2) f (by omega) (by omega) (by omega) (by omega)
  ·obtain⟨q,hq⟩: ∃q,A.FU=q+1:=⟨A.FU-1,by have:=FU_big;omega⟩
   rw[if_neg hc,hq,sym_l1 l a m q ham (by omega)]
theorem sym_l4 {l:List Ed}(h:Od l)(hl:l.length≤1000000)(m:Nat)(hm:m<l.length): ∀(n i f:Nat),i≤m→m≤i+n→n<f→
  F.slices_symMergeCmpFunc_api_Edge_graph_Edges_1_l4 l (m:Int) f (i:Int) (m:Int)=some ()
 |n,i,0,hi,hn,hf=>absurd hf (by omega)
 |n,i,f+1,hi,hn,hf=>by
  rw[F.slices_symMergeCmpFunc_api_Edge_graph_Edges_1_l4]
  by_cases hc:(i:Int)<(m:Int)
  ·rw[if_pos hc,half i m (by omega),A.gd1 (r64h i m (by omega))]
   refine(h.less (i:=(i+m) / 2) (j:=m) (by omega) hm _).trans ?_
   show(if(!decide ((1:Int)<0))=true then _ else _)=_
   rw[if_pos (by decide),A.gd1 (A.r64n (by omega))]
   exact sym_l4 h hl m hm (n-1) ((i+m) / 2+1) f (by omega) (by omega) (by omega)
  ·obtain⟨q,hq⟩: ∃q,A.FU=q+1:=⟨A.FU-1,by have:=FU_big;omega⟩
   obtain rfl:i=m:=by omega
   rw[if_neg hc,hq,F.slices_symMergeCmpFunc_api_Edge_graph_Edges_1_l3,if_neg (by omega)]
theorem sym_l6 {l:List Ed}(h:Od l)(hl:l.length≤1000000)(rc:List Ed→Int→Int→Int→Option Unit)(a m b mid r s:Nat)(hmid:(a+b) / 2=mid)(ha:a≤1000000)(hb:b≤1000000)(hr:r≤1000000)(hm:m≤1000000)
  (hp: ∀c,s≤c→c<r→c<mid+m-1-c∧mid+m-1-c<l.length) (he:F.slices_symMergeCmpFunc_api_Edge_graph_Edges_1_l6 l (a:Int) (m:Int) (b:Int) rc 1 (r:Int) (r:Int)=some ()): ∀(n c f:Nat),s≤c→c≤r→r≤c+n→n<f→
  F.slices_symMergeCmpFunc_api_Edge_graph_Edges_1_l6 l (a:Int) (m:Int) (b:Int) rc f (c:Int) (r:Int)=some ()
 |n,c,0,hs,hi,hn,hf=>absurd hf (by omega)
 |n,c,f+1,hs,hi,hn,hf=>by
  by_cases hc:c<r
  ·obtain⟨p1,p2⟩:=hp ((c+r) / 2) (by omega) (by omega)
   rw[F.slices_symMergeCmpFunc_api_Edge_graph_Edges_1_l6,if_pos (by omega),half c r (by omega),half a b (by omega),hmid,A.gd1 (r64h c r (by omega)),show((((mid:Nat):Int)+(m:Int))-1)-(((c+r) / 2:Nat):Int)=((mid+m-1-(c+r) / 2:Nat):Int) by omega,A.gd1 (r64i (by omega))]
   refine(h.less (i:=(c+r) / 2) (j:=mid+m-1-(c+r) / 2) p1 p2 _).trans ?_
   show(if(!decide ((1:Int)<0))=true then _ else _)=_
   rw[if_pos (by decide),A.gd1 (A.r64n (by omega))]
   exact sym_l6 h hl rc a m b mid r s hmid ha hb hr hm hp he (n-1) ((c+r) / 2+1) f (by omega) (by omega) (by omega) (by omega)
  ·obtain rfl:c=r:=by omega
   rw[F.slices_symMergeCmpFunc_api_Edge_graph_Edges_1_l6,if_neg (by omega)]at he ⊢
   exact he
theorem sym_eq {l:List Ed}(h:Od l)(hl:l.length≤1000000): ∀(n f a m b:Nat),a<m→m<b→b≤l.length→b≤a+n→n<f→
  F.slices_symMergeCmpFunc_api_Edge_graph_Edges_1_r f l (a:Int) (m:Int) (b:Int)=some ()
 |n,0,a,m,b,h1,h2,h3,hn,hf=>absurd hf (by omega)
 |n,f+1,a,m,b,h1,h2,h3,hn,hf=>by
  have hFU:=FU_big
  rw[F.slices_symMergeCmpFunc_api_Edge_graph_Edges_1_r,F.slices_symMergeCmpFunc_api_Edge_graph_Edges_1,A.gd1 (r64i (by omega))]
  by_cases c1:(m:Int)-(a:Int)=1
  ·rw[if_pos c1]
   exact sym_l2 h hl a m (by omega) b b A.FU (by omega) h3 (by omega) (by omega)
  rw[if_neg c1,A.gd1 (r64i (by omega))]
  by_cases c2:(b:Int)-(m:Int)=1
  ·rw[if_pos c2]
   exact sym_l4 h hl m (by omega) m a A.FU (by omega) (by omega) (by omega)
  rw[if_neg c2,half a b (by omega),A.gd1 (r64h a b (by omega)),A.gd1 (r64i (by omega))]
  generalize hmid:(a+b) / 2=mid
  by_cases c3:(mid:Int)<(m:Int)
  ·rw[if_pos c3,A.gd1 (r64i (by omega)),F.slices_symMergeCmpFunc_api_Edge_graph_Edges_1_j7,half a b (by omega),hmid,A.gd1 (r64i (by omega)),show(mid:Int)+(m:Int)-(b:Int)=((mid+m-b:Nat):Int) by omega]
   refine sym_l6 h hl (F.slices_symMergeCmpFunc_api_Edge_graph_Edges_1_r f) a m b mid mid (mid+m-b) hmid (by omega) (by omega) (by omega) (by omega) (fun c g1 g2=>⟨by omega,by omega⟩) ?_ mid (mid+m-b) A.FU (by omega) (by omega) (by omega) (by omega)
   rw[F.slices_symMergeCmpFunc_api_Edge_graph_Edges_1_l6,if_neg (by omega),half a b (by omega),hmid,A.gd1 (r64i (by omega)),show(mid:Int)+(m:Int)-(mid:Int)=(m:Int) by omega,A.ba,A.ba,if_neg (by rw[decide_eq_true_iff];omega),if_neg (by rw[decide_eq_true_iff];omega),F.slices_symMergeCmpFunc_api_Edge_graph_Edges_1_j5,half a b (by omega),hmid,show(mid:Int)+(m:Int)-(mid:Int)=(m:Int) by omega,A.ba,if_pos (by rw[decide_eq_true_iff];omega),sym_eq h hl (n-1) f mid m b (by omega) h2 h3 (by omega) (by omega),Option.bind_some]
  ·rw[if_neg c3,F.slices_symMergeCmpFunc_api_Edge_graph_Edges_1_j7,half a b (by omega),hmid,A.gd1 (r64i (by omega))]
   refine sym_l6 h hl (F.slices_symMergeCmpFunc_api_Edge_graph_Edges_1_r f) a m b mid m a hmid (by omega) (by omega) (by omega) (by omega) (fun c g1 g2=>⟨by omega,by omega⟩) ?_ m a A.FU (by omega) (by omega) (by omega) (by omega)
   have e5:F.slices_symMergeCmpFunc_api_Edge_graph_Edges_1_j5 l (a:Int) (m:Int) (b:Int) (F.slices_symMergeCmpFunc_api_Edge_graph_Edges_1_r f) (m:Int)=some ():=by
    rw[F.slices_symMergeCmpFunc_api_Edge_graph_Edges_1_j5,half a b (by omega),hmid,A.ba,if_neg (by rw[decide_eq_true_iff];omega)]
   rw[F.slices_symMergeCmpFunc_api_Edge_graph_Edges_1_l6,if_neg (by omega),half a b (by omega),hmid,A.gd1 (r64i (by omega)),A.ba,A.ba,if_neg (by rw[decide_eq_true_iff];omega),e5]
   by_cases c4:(m:Int)<(mid:Int)
   ·rw[if_pos (by rw[decide_eq_true_iff];omega),sym_eq h hl (n-1) f a m mid h1 (by omega) (by omega) (by omega) (by omega),Option.bind_some]
   ·rw[if_neg (by rw[decide_eq_true_iff];omega)]
theorem stb_l2 {l:List Ed}(h:Od l)(hl:l.length≤1000000)(k12:Int→Option Unit)(s:Nat)(hs:0<s)(hsl:s<l.length)(hk:k12 ((s*2:Nat):Int)=some ()): ∀(n a f:Nat),l.length≤a+n→n<f→a≤l.length→
  F.slices_stableCmpFunc_api_Edge_graph_Edges_1_l2 k12 l (l.length:Int) (s:Int) f (a:Int) ((a+2*s:Nat):Int)=some ()
 |n,a,0,hn,hf,ha=>absurd hf (by omega)
 |n,a,f+1,hn,hf,ha=>by
  have hFU:=FU_big
  have e1:F.slices_stableCmpFunc_api_Edge_graph_Edges_1_j1 k12 (s:Int)=some ():=by
   rw[F.slices_stableCmpFunc_api_Edge_graph_Edges_1_j1,A.gd1 (r64i (by omega)),show(s:Int)*2=((s*2:Nat):Int) by omega,hk]
  rw[F.slices_stableCmpFunc_api_Edge_graph_Edges_1_l2]
  by_cases hc:((a+2*s:Nat):Int)≤(l.length:Int)
  ·rw[if_pos hc,A.gd1 (r64i (by omega)),show(a:Int)+(s:Int)=((a+s:Nat):Int) by omega,sym_eq h hl l.length A.FU a (a+s) (a+2*s) (by omega) (by omega) (by omega) (by omega) (by omega),Option.bind_some,A.gd1 ⟨r64i (by omega),r64i (by omega)⟩,show((a+2*s:Nat):Int)+2*(s:Int)=((a+2*s+2*s:Nat):Int) by omega]
   exact stb_l2 h hl k12 s hs hsl hk (n-1) (a+2*s) f (by omega) (by omega) (by omega)
  ·rw[if_neg hc,A.gd1 (r64i (by omega)),show(a:Int)+(s:Int)=((a+s:Nat):Int) by omega]
   by_cases h2:((a+s:Nat):Int)<(l.length:Int)
   ·rw[if_pos h2,sym_eq h hl l.length A.FU a (a+s) l.length (by omega) (by omega) (by omega) (by omega) (by omega),Option.bind_some,e1]
   ·rw[if_neg h2,e1]
theorem stb_l3 {l:List Ed}(h:Od l)(hl:l.length≤1000000): ∀(n s f:Nat),0<s→l.length≤s+n→n<f→
  F.slices_stableCmpFunc_api_Edge_graph_Edges_1_l3 l (l.length:Int) f (s:Int)=some ()
 |n,s,0,hs,hn,hf=>absurd hf (by omega)
 |n,s,f+1,hs,hn,hf=>by
  have hFU:=FU_big
  rw[F.slices_stableCmpFunc_api_Edge_graph_Edges_1_l3]
  by_cases hc:(s:Int)<(l.length:Int)
  ·rw[if_pos hc,A.gd1 (r64i (by omega)),show 2*(s:Int)=((0+2*s:Nat):Int) by omega]
   exact stb_l2 h hl _ s hs (by omega) (stb_l3 h hl (n-1) (s*2) f (by omega) (by omega) (by omega)) l.length 0 A.FU (by omega) (by omega) (by omega)
  ·rw[if_neg hc]
theorem stb_l4 {l:List Ed}(h:Od l)(hl:l.length≤1000000): ∀(n a f:Nat),l.length≤a+n→n<f→a≤l.length→
  F.slices_stableCmpFunc_api_Edge_graph_Edges_1_l4 l (l.length:Int) f (a:Int) ((a+20:Nat):Int)=some ()
 |n,a,0,hn,hf,ha=>absurd hf (by omega)
 |n,a,f+1,hn,hf,ha=>by
  have hFU:=FU_big
  rw[F.slices_stableCmpFunc_api_Edge_graph_Edges_1_l4]
  by_cases hc:((a+20:Nat):Int)≤(l.length:Int)
  ·rw[if_pos hc,ins_eq h hl a (a+20) (by omega) (by omega),Option.bind_some,A.gd1 (r64i (by omega)),show((a+20:Nat):Int)+20=((a+20+20:Nat):Int) by omega]
   exact stb_l4 h hl (n-1) (a+20) f (by omega) (by omega) (by omega)
  ·rw[if_neg hc,ins_eq h hl a l.length (by omega) (by omega),Option.bind_some]
   exact stb_l3 h hl l.length 20 A.FU (by omega) (by omega) (by omega)
theorem sorted_eq {l:List Ed}(h:Od l)(hl:l.length≤1000000):F.slices_SortStableFunc_api_Edge_api_Edge_graph_Edges_1 l=some ():=by
 unfold F.slices_SortStableFunc_api_Edge_api_Edge_graph_Edges_1 F.slices_stableCmpFunc_api_Edge_graph_Edges_1
 have hFU:=FU_big
 have e:=stb_l4 h hl l.length 0 A.FU (by omega) (by omega) (by omega)
 rw[show(20:Int)=((0+20:Nat):Int) by rfl,show(0:Int)=((0:Nat):Int) by rfl,e];rfl
end Go.Proofs.YtpdhaldfdeamdaaDoor
end
section
set_option linter.unusedVariables false
set_option linter.unusedSimpArgs false
namespace Go.Proofs.YtpdhaldfdeamdaaDoor
open Go.RowKit Go.Graph
def fewF (s:Int):List Nd→Int
 | []=>s
 |x::r=>fewF (min (s+min (x.2.2.1.length:Int) 1048576+min (x.2.2.2.2.1.size:Int) 1048576+min (x.2.2.2.1.2.2.size:Int) 1048576) 1048576) r
theorem fewF_mono: ∀(l:List Nd) (s:Int),0≤s→s≤1048576→s≤fewF s l
 | [],s,_,_=>Int.le_refl s
 |x::r,s,h,h2=>by
  unfold fewF
  have:=fewF_mono r (min (s+min (x.2.2.1.length:Int) 1048576+min (x.2.2.2.2.1.size:Int) 1048576+min (x.2.2.2.1.2.2.size:Int) 1048576) 1048576) (by omega) (by omega)
  omega
theorem fewF_le: ∀(l:List Nd) (s:Int),0≤s→s≤1048576→fewF s l≤5000→∀x∈l,x.2.2.1.length≤5000∧x.2.2.2.2.1.size≤5000∧x.2.2.2.1.2.2.size≤5000
 | [],_,_,_,_,x,hx=>by cases hx
 |y::r,s,h,h2,h3,x,hx=>by
  unfold fewF at h3
  have h4:=fewF_mono r (min (s+min (y.2.2.1.length:Int) 1048576+min (y.2.2.2.2.1.size:Int) 1048576+min (y.2.2.2.1.2.2.size:Int) 1048576) 1048576) (by omega) (by omega)
  rcases List.mem_cons.1 hx with rfl|hx
  ·omega
  ·exact fewF_le r _ (by omega) (by omega) h3 x hx
theorem few_eq (g:List Nd): ∃b,F.L08_few g=some b∧(b=true→Few g):=by
 unfold F.L08_few
 rw[A.gd1 (by omega)]
 have hlen:(List.take (min (g.length:Int) 99).toNat g).length≤99:=by rw[List.length_take];omega
 have:=A.lp (List.take (min (g.length:Int) 99).toNat g) (fun f s y=>F.L08_few_l1 g f s y) (fun _ l s=>some (bif decide ((g.length:Int)≤40)then decide (fewF s l≤5000)else false)) (fun _ s=>0≤s∧s≤1048576)
  (fun f s _=>by rw[F.L08_few_l1,if_neg (by omega)];rfl)
  (fun f s k x hx hk hp ih=>by
   rw[F.L08_few_l1,if_pos (by omega),A.ixn hx,Option.bind_some,A.gd1 ⟨⟨by omega,by omega⟩,⟨by omega,by omega⟩,⟨by omega,by omega⟩⟩,A.gd1 (A.r64n (by omega)),ih _ (by omega)]
   rfl)
  (by have:=FU_big;omega) 0 (by omega)
 rw[this]
 refine⟨_,rfl,fun hb=>?_⟩
 by_cases h1:(g.length:Int)≤40
 ·simp only[h1,decide_true,cond_true,decide_eq_true_eq]at hb
  have e:List.take (min (g.length:Int) 99).toNat g=g:=List.take_of_length_le (by omega)
  rw[e]at hb
  exact⟨by omega,fewF_le g 0 (by omega) (by omega) hb⟩
 ·simp[h1]at hb
end Go.Proofs.YtpdhaldfdeamdaaDoor
end
section
set_option linter.unusedVariables false
set_option linter.unusedSimpArgs false
set_option synthInstance.maxSize 1000000
set_option synthInstance.maxHeartbeats 400000
namespace Go.Proofs.YtpdhaldfdeamdaaDoor
open Go.RowKit Go.Graph
theorem useN_memO (id nd:Int): ∀(k:Nat) (l:List Int) (u:Pl),u∈useN id nd k l→u.1=nd∧(k:Int)≤u.2
 |_,[],u,h=>by cases h
 |k,z::r,u,h=>by
  unfold useN at h
  split at h
  ·rcases List.mem_cons.1 h with rfl|h
   ·exact⟨rfl,Int.le_refl _⟩
   ·have:=useN_memO id nd (k+1) r u h;exact⟨this.1,by have:=this.2;omega⟩
  ·have:=useN_memO id nd (k+1) r u h;exact⟨this.1,by have:=this.2;omega⟩
theorem useN_od (id nd:Int): ∀(k:Nat) (l:List Int),(useN id nd k l).Pairwise ltP
 |_,[]=>List.Pairwise.nil
 |k,z::r=>by
  unfold useN
  split
  ·refine List.pairwise_cons.2 ⟨fun u h=>?_,useN_od id nd (k+1) r⟩
   have:=useN_memO id nd (k+1) r u h
   exact .inr ⟨this.1.symm,by have:=this.2;show(k:Int)<u.2;omega⟩
  ·exact useN_od id nd (k+1) r
theorem usesF_memO (id:Int): ∀(l:List Nd) (u:Pl),u∈usesF id l→∃n∈l,u.1=n.1
 | [],u,h=>by cases h
 |n::r,u,h=>by
  unfold usesF at h
  rcases List.mem_append.1 h with h|h
  ·exact⟨n,List.mem_cons_self ..,(useN_memO id n.1 0 n.2.2.1 u h).1⟩
  ·obtain⟨m,h1,h2⟩:=usesF_memO id r u h;exact⟨m,List.mem_cons_of_mem _ h1,h2⟩
theorem usesF_od (id:Int): ∀(l:List Nd),Inc l→(usesF id l).Pairwise ltP
 | [],_=>List.Pairwise.nil
 |n::r,h=>by
  have h':=List.pairwise_cons.1 h
  unfold usesF
  refine List.pairwise_append.2 ⟨useN_od id n.1 0 n.2.2.1,usesF_od id r h'.2,fun a ha b hb=>.inl ?_⟩
  obtain⟨m,h1,h2⟩:=usesF_memO id r b hb
  rw[(useN_memO id n.1 0 n.2.2.1 a ha).1,h2];exact h'.1 m h1
theorem inE_memO (g:List Nd)(d:List Int)(n:Nd): ∀(k:Nat) (l:List Int) (e:Ed),e∈inE g d n k l→e.1.1=n.1∧(k:Int)≤e.1.2∧e.1.2<(k:Int)+l.length
 |_,[],e,h=>by cases h
 |k,z::r,e,h=>by
  unfold inE at h
  rcases List.mem_cons.1 h with rfl|h
  ·refine⟨rfl,Int.le_refl _,?_⟩
   rw[List.length_cons];show(k:Int)<_;omega
  ·have:=inE_memO g d n (k+1) r e h
   rw[List.length_cons]
   exact⟨this.1,by omega,by omega⟩
theorem inE_od (g:List Nd)(d:List Int)(n:Nd): ∀(k:Nat) (l:List Int),(inE g d n k l).Pairwise ltE
 |_,[]=>List.Pairwise.nil
 |k,z::r=>by
  unfold inE
  refine List.pairwise_cons.2 ⟨fun e h=>.inl (.inr ?_),inE_od g d n (k+1) r⟩
  have:=inE_memO g d n (k+1) r e h
  exact⟨this.1.symm,by show(k:Int)<e.1.2;omega⟩
theorem edgesF_memO (g:List Nd)(d:List Int): ∀(i:Nat) (l:List Nd) (e:Ed),e∈edgesF g d i l→∃n∈l,e.1.1=n.1
 |_,[],e,h=>by cases h
 |i,n::r,e,h=>by
  unfold edgesF at h
  split at h
  ·obtain⟨m,h1,h2⟩:=edgesF_memO g d (i+1) r e h;exact⟨m,List.mem_cons_of_mem _ h1,h2⟩
  ·rcases List.mem_append.1 h with h|h
   ·exact⟨n,List.mem_cons_self ..,(inE_memO g d n 0 n.2.2.1 e h).1⟩
   ·rcases List.mem_append.1 h with h|h
    ·unfold outE at h
     obtain⟨u,_,rfl⟩:=List.mem_map.1 h
     exact⟨n,List.mem_cons_self ..,rfl⟩
    ·obtain⟨m,h1,h2⟩:=edgesF_memO g d (i+1) r e h;exact⟨m,List.mem_cons_of_mem _ h1,h2⟩
theorem edgesF_od (g:List Nd)(d:List Int)(hg:Inc g): ∀(i:Nat) (l:List Nd),Inc l→(∀n∈l,n.2.2.1.length≤2)→Od (edgesF g d i l)
 |_,[],_,_=>List.Pairwise.nil
 |i,n::r,h,h2=>by
  have h':=List.pairwise_cons.1 h
  have ih:=edgesF_od g d hg (i+1) r h'.2 fun m hm=>h2 m (List.mem_cons_of_mem _ hm)
  have hn2:=h2 n (List.mem_cons_self ..)
  unfold edgesF
  split
  ·exact ih
  ·have later: ∀(a:Ed),a.1.1=n.1→∀b,b∈edgesF g d (i+1) r→ltE a b:=fun a ha b hb=>by
    obtain⟨m,h3,h4⟩:=edgesF_memO g d (i+1) r b hb
    exact .inl (.inl (by rw[ha,h4];exact h'.1 m h3))
   have out: ∀b,b∈outE g n (iget d (i:Int))→b.1=(n.1,2):=fun b hb=>by
    unfold outE at hb;obtain⟨u,_,rfl⟩:=List.mem_map.1 hb;rfl
   refine List.pairwise_append.2 ⟨inE_od g d n 0 n.2.2.1,List.pairwise_append.2 ⟨?_,ih,fun a ha b hb=>later a (by rw[out a ha]) b hb⟩,fun a ha b hb=>?_⟩
   ·unfold outE
    exact List.pairwise_map.2 ((usesF_od n.1 g hg).imp fun {a b} hab=>.inr ⟨rfl,hab⟩)
   ·have ha':=inE_memO g d n 0 n.2.2.1 a ha
    rcases List.mem_append.1 hb with hb|hb
    ·rw[ltE,out b hb]
     exact .inl (.inr ⟨ha'.1,by show a.1.2<2;omega⟩)
    ·exact later a ha'.1 b hb
theorem edgesF_len (g:List Nd)(d:List Int): ∀(i:Nat) (l:List Nd),g.length≤100→(∀n∈g,n.2.2.1.length≤2)→(∀n∈l,n.2.2.1.length≤2)→(edgesF g d i l).length≤300*l.length
 |_,[],_,_,_=>Nat.zero_le _
 |i,n::r,hg,h2,h3=>by
  have ih:=edgesF_len g d (i+1) r hg h2 fun m hm=>h3 m (List.mem_cons_of_mem _ hm)
  have hn:=h3 n (List.mem_cons_self ..)
  have hu:=usesF_len n.1 g h2
  unfold edgesF
  rw[List.length_cons]
  split
  ·omega
  ·rw[List.length_append,List.length_append,inE_len,outE,List.length_map];omega
end Go.Proofs.YtpdhaldfdeamdaaDoor
end
section
set_option linter.unusedVariables false
set_option linter.unusedSimpArgs false
set_option synthInstance.maxSize 1000000
set_option synthInstance.maxHeartbeats 400000
namespace Go.Proofs.YtpdhaldfdeamdaaDoor
open Go.RowKit Go.Graph
theorem firstF_new (g:List Nd)(done:List Bool): ∀(r:List Nd) (i:Nat) (a:Int),0≤firstF g done i r a→(0≤a∧firstF g done i r a=a)∨(∃j:Nat,firstF g done i r a=(j:Int)∧j<i+r.length∧bget done (j:Int)=false)
 | [],i,a,h=>.inl ⟨h,rfl⟩
 |x::r,i,a,h=>by
  unfold firstF at h ⊢
  rcases firstF_new g done r (i+1) _ h with⟨h1,h2⟩|⟨j,h1,h2,h3⟩
  ·by_cases hc:(a<0∧bget done i=false)∧ready g done x=true
   ·rw[if_pos hc]at h2 ⊢
    exact .inr ⟨i,h2,by simp only[List.length_cons];omega,hc.1.2⟩
   ·rw[if_neg hc]at h1 h2 ⊢
    exact .inl ⟨h1,h2⟩
  ·exact .inr ⟨j,h1,by simp only[List.length_cons];omega,h3⟩
theorem bget_set (l:List Bool)(j k:Nat)(hj:j<l.length):bget (l.set j true) (k:Int)=if j=k then true else bget l (k:Int):=by
 unfold bget
 rw[Int.toNat_natCast,List.getElem?_set]
 by_cases h:j=k
 ·subst h;simp[hj]
 ·rw[if_neg h,if_neg h]
theorem order_nodup (g:List Nd): ∀(r:Nat) (done:List Bool) (acc l:List Int),orderF g r done acc=some l→done.length=g.length→acc.Nodup→(∀p∈acc,∃j:Nat,p=(j:Int)∧bget done (j:Int)=true)→l.Nodup
 |0,done,acc,l,h,_,hn,_=>by unfold orderF at h;injection h with h;subst h;exact hn
 |r+1,done,acc,l,h,hd,hn,ha=>by
  unfold orderF at h
  split at h
  ·cases h
  ·rename_i h0
   rcases firstF_new g done g 0 (-1) (by omega)with⟨h1,_⟩|⟨j,h1,h2,h3⟩
   ·omega
   ·rw[h1,Int.toNat_natCast]at h
    refine order_nodup g r _ _ l h (by rw[List.length_set];exact hd) ?_ fun p hp=>?_
    ·rw[List.nodup_append]
     refine⟨hn,by simp,fun a ha' b hb=>?_⟩
     rw[List.mem_singleton]at hb
     obtain⟨i,e,hi⟩:=ha a ha'
     intro e2
     rw[e,hb]at e2
     have:i=j:=by omega
     subst this
     rw[hi]at h3;cases h3
    ·rcases List.mem_append.1 hp with hp|hp
     ·obtain⟨i,e,hi⟩:=ha p hp
      exact⟨i,e,by rw[bget_set _ _ _ (by omega)];split<;>first|rfl|exact hi⟩
     ·rw[List.mem_singleton]at hp
      exact⟨j,hp,by rw[bget_set _ _ _ (by omega),if_pos rfl]⟩
theorem Whole.all {g:List Nd}{l d:List Int}{dm:List (Int×Int)}(W:Whole g l d dm){j:Nat}(hj:j<g.length):(j:Int)∈l:=by
 have hn:=order_nodup g _ _ [] l W.ord (by simp) (by simp) (by simp)
 by_cases h:(j:Int)∈l
 ·exact h
 ·exfalso
  have hm:=nodup_len (l:=(j:Int)::l) (m:=(List.range g.length).map Int.ofNat) (List.nodup_cons.2 ⟨h,hn⟩) fun x hx=>by
   rcases List.mem_cons.1 hx with rfl|hx
   ·exact List.mem_map.2 ⟨j,List.mem_range.2 hj,rfl⟩
   ·obtain⟨i,hi,e⟩:=List.getElem_of_mem hx
    obtain⟨k,n,e2,hk⟩:=W.plc i x (by rw[List.getElem?_eq_getElem hi,e])
    exact List.mem_map.2 ⟨k,List.mem_range.2 (List.getElem?_eq_some_iff.1 hk).1,e2.symm⟩
  rw[List.length_cons,List.length_map,List.length_range,W.llen]at hm
  omega
end Go.Proofs.YtpdhaldfdeamdaaDoor
end
section
set_option linter.unusedVariables false
set_option linter.unusedSimpArgs false
set_option synthInstance.maxSize 1000000
set_option synthInstance.maxHeartbeats 400000
namespace Go.Proofs.YtpdhaldfdeamdaaDoor
open Go.RowKit Go.Graph
theorem firstF_ok (g:List Nd)(done:List Bool): ∀(r k:Nat) (a:Int),k+r=g.length→0≤firstF g done k (g.drop k) a→(0≤a∧firstF g done k (g.drop k) a=a)∨∃(j:Nat) (n:Nd),firstF g done k (g.drop k) a=(j:Int)∧g[j]?=some n∧bget done (j:Int)=false∧ready g done n=true
 |0,k,a,hk,h=>by rw[List.drop_eq_nil_of_le (by omega)]at h ⊢;exact .inl ⟨h,rfl⟩
 |r+1,k,a,hk,h=>by
  have hx:g[k]?=some g[k]:=List.getElem?_eq_getElem (by omega)
  rw[firstF_x hx]at h ⊢
  rcases firstF_ok g done r (k+1) _ (by omega) h with⟨h1,h2⟩|h1
  ·by_cases hc:(a<0∧bget done k=false)∧ready g done g[k]=true
   ·rw[if_pos hc]at h2 ⊢;exact .inr ⟨k,g[k],h2,hx,hc.1.2,hc.2⟩
   ·rw[if_neg hc]at h1 h2 ⊢;exact .inl ⟨h1,h2⟩
  ·exact .inr h1
theorem readyF_iff (g:List Nd)(done:List Bool)(kd:Int): ∀l:List Int,readyF g done kd l=true↔(kd≠14→∀k∈l,bget done (idx g k)=true)
 | []=>⟨fun _ _ k hk=>(by cases hk),fun _=>rfl⟩
 |k::r=>by
  unfold readyF
  by_cases h:kd≠14∧bget done (idx g k)=false
  ·rw[if_pos h]
   refine⟨fun h=>(by cases h),fun h2=>?_⟩
   have:=h2 h.1 k (List.mem_cons_self ..)
   rw[h.2]at this;cases this
  ·rw[if_neg h,readyF_iff g done kd r]
   refine⟨fun h2 h3 x hx=>?_,fun h2 h3 x hx=>h2 h3 x (List.mem_cons_of_mem _ hx)⟩
   rcases List.mem_cons.1 hx with rfl|hx
   ·cases hb:bget done (idx g x)with
    |true=>rfl
    |false=>exact absurd ⟨h3,hb⟩ h
   ·exact h2 h3 x hx
def OrdOk (g:List Nd)(l:List Int):Prop:=∀(i:Nat) (p:Int),l[i]?=some p→∃(j:Nat) (n:Nd),p=(j:Int)∧g[j]?=some n∧(n.2.1≠14→∀k∈n.2.2.1,idx g k∈l.take i)
structure Syn (g:List Nd) (done:List Bool) (l:List Int):Prop where
 len:done.length=g.length
 nod:l.Nodup
 syn: ∀j:Nat,j<g.length→(bget done (j:Int)=true↔(j:Int)∈l)
 ord:OrdOk g l
theorem Syn.plc {g:List Nd}{done:List Bool}{l:List Int}(h:Syn g done l): ∀p∈l,∃j:Nat,p=(j:Int)∧j<g.length:=fun p hp=>by
 obtain⟨i,hi,e⟩:=List.getElem_of_mem hp
 obtain⟨j,n,e2,hn,_⟩:=h.ord i p (by rw[List.getElem?_eq_getElem hi,e])
 exact⟨j,e2,(List.getElem?_eq_some_iff.1 hn).1⟩
theorem Syn.zero (g:List Nd):Syn g (List.replicate g.length false) []:=by
 refine⟨by simp,List.nodup_nil,fun j hj=>?_,fun i p h=>by cases h⟩
 unfold bget
 rw[Int.toNat_natCast,List.getElem?_replicate,if_pos hj];simp
theorem Syn.step {g:List Nd}{done:List Bool}{l:List Int}(h:Syn g done l)(hf:Fed g){j:Nat}{n:Nd}(hn:g[j]?=some n)(hb:bget done (j:Int)=false)(hr:ready g done n=true):Syn g (done.set j true) (l++[(j:Int)]):=by
 have hj:=(List.getElem?_eq_some_iff.1 hn).1
 have hnl:(j:Int)∉l:=fun hm=>by rw[(h.syn j hj).2 hm]at hb;cases hb
 refine⟨by rw[List.length_set];exact h.len,?_,fun i hi=>?_,fun i p hp=>?_⟩
 ·rw[List.nodup_append]
  refine⟨h.nod,by simp,fun a ha b hb2=>?_⟩
  rw[List.mem_singleton]at hb2
  intro e;rw[e,hb2]at ha;exact hnl ha
 ·rw[bget_set _ _ _ (by rw[h.len];exact hj),List.mem_append,List.mem_singleton]
  by_cases e:j=i
  ·subst e;simp
  ·rw[if_neg e,h.syn i hi]
   exact⟨.inl,fun h2=>h2.elim (fun h3=>h3) (fun h3=>absurd h3 (by omega))⟩
 ·by_cases hil:i<l.length
  ·rw[List.getElem?_append_left hil]at hp
   obtain⟨k,m,e1,e2,e3⟩:=h.ord i p hp
   refine⟨k,m,e1,e2,fun h14 x hx=>?_⟩
   rw[List.take_append_of_le_length (by omega)];exact e3 h14 x hx
  ·have hi2:i=l.length:=by
    have:=(List.getElem?_eq_some_iff.1 hp).1
    simp only[List.length_append,List.length_cons,List.length_nil]at this;omega
   subst hi2
   rw[List.getElem?_append_right (Nat.le_refl _),Nat.sub_self]at hp
   injection hp with hp
   refine⟨j,n,hp.symm,hn,fun h14 x hx=>?_⟩
   rw[List.take_left]
   have h0:=hf n (List.mem_of_getElem? hn) x hx
   obtain⟨m,e1,_,_⟩:=idx_get h0
   have h2:=(readyF_iff g done n.2.1 n.2.2.1).1 hr h14 x hx
   have h3:=(h.syn _ (List.getElem?_eq_some_iff.1 e1).1)
   rw[Int.toNat_of_nonneg h0]at h3
   exact h3.1 h2
theorem order_syn (g:List Nd)(hf:Fed g): ∀(r:Nat) (done:List Bool) (l l':List Int),Syn g done l→orderF g r done l=some l'→∃done',Syn g done' l'
 |0,done,l,l',h,e=>by unfold orderF at e;injection e with e;subst e;exact⟨done,h⟩
 |r+1,done,l,l',h,e=>by
  unfold orderF at e
  split at e
  ·cases e
  ·rename_i h0
   have hk:=firstF_ok g done g.length 0 (-1) (by omega) (by rw[List.drop_zero];omega)
   rw[List.drop_zero]at hk
   rcases hk with⟨h1,_⟩|⟨j,n,h1,h2,h3,h4⟩
   ·omega
   ·rw[h1,Int.toNat_natCast]at e
    exact order_syn g hf r _ _ l' (h.step hf h2 h3 h4) e
theorem Whole.syn {g:List Nd}{l d:List Int}{dm:List (Int×Int)}(W:Whole g l d dm): ∃done,Syn g done l:=order_syn g W.fed _ _ _ l (Syn.zero g) W.ord
def dOf (g:List Nd)(d:List Int)(k:Int):Int:=iget d (idx g k)
theorem depthOf_14 {n:Nd}(h:n.2.1=14)(a b:List Int):depthOf n a=depthOf n b:=by unfold depthOf depthA;rw[if_pos h,if_pos h]
theorem inc_idx {g:List Nd}(hi:Inc g){j:Nat}{n:Nd}(hn:g[j]?=some n):idx g n.1=(j:Int):=hi.idx hn
theorem iget_set (d:List Int)(j k:Nat)(v:Int)(hj:j<d.length):iget (d.set j v) (k:Int)=if j=k then v else iget d (k:Int):=by
 unfold iget
 rw[Int.toNat_natCast,List.getElem?_set]
 by_cases h:j=k
 ·subst h;simp[hj]
 ·rw[if_neg h,if_neg h]
theorem at_nat {g:List Nd}{j:Nat}{n:Nd}(hn:g[j]?=some n):at_ g (j:Int)=n:=at_some rfl hn
theorem depths_fix {g:List Nd}{l:List Int}(hf:Fed g)(ho:OrdOk g l)(hnd:l.Nodup): ∀(r k:Nat) (d d':List Int),k+r=l.length→d.length=g.length→depthsF g (l.drop k) d=some d'→d'.length=g.length∧(∀j:Nat,(j:Int)∈l.take k→iget d' (j:Int)=iget d (j:Int))∧∀(i:Nat) (j:Nat) (n:Nd),k≤i→l[i]?=some (j:Int)→g[j]?=some n→iget d' (j:Int)=depthOf n (n.2.2.1.map (dOf g d'))∧0≤iget d' (j:Int)
 |0,k,d,d',hk,hd,h=>by
  rw[List.drop_eq_nil_of_le (by omega)]at h
  injection h with h;subst h
  exact⟨hd,fun j _=>rfl,fun i j n hi hl _=>by have:=(List.getElem?_eq_some_iff.1 hl).1;omega⟩
 |r+1,k,d,d',hk,hd,h=>by
  have hx:l[k]?=some l[k]:=List.getElem?_eq_getElem (by omega)
  obtain⟨j,n,e1,hn,hin⟩:=ho k _ hx
  have hj:=(List.getElem?_eq_some_iff.1 hn).1
  rw[depthsF_x (n:=n) hx (by rw[e1];exact at_nat hn)]at h
  split at h
  ·cases h
  rename_i h0
  rw[e1,Int.toNat_natCast]at h
  obtain⟨a1,a2,a3⟩:=depths_fix hf ho hnd r (k+1) _ d' (by omega) (by rw[List.length_set];exact hd) h
  have hjt:(j:Int)∈l.take (k+1):=by rw[take_s hx,e1];simp
  have hjk:(j:Int)∉l.take k:=fun hm=>by
   have h3:=hnd
   rw[←List.take_append_drop k l,List.nodup_append]at h3
   refine h3.2.2 _ hm (j:Int) ?_ rfl
   rw[A.dropx hx,e1];simp
  have keep: ∀i:Nat,(i:Int)∈l.take k→iget d' (i:Int)=iget d (i:Int):=fun i hi=>by
   rw[a2 i (by rw[take_s hx];exact List.mem_append_left _ hi),iget_set _ _ _ _ (by omega),if_neg (fun e=>hjk (by rw[e];exact hi))]
  have hjv:iget d' (j:Int)=depthOf n (n.2.2.1.map (dOf g d')):=by
   rw[a2 j hjt,iget_set _ _ _ _ (by omega),if_pos rfl]
   by_cases h14:n.2.1=14
   ·exact depthOf_14 h14 _ _
   ·congr 1
    refine List.map_congr_left fun x hx2=>?_
    have h4:=hin h14 x hx2
    have h5:=hf n (List.mem_of_getElem? hn) x hx2
    unfold dOf
    have h6:=keep (idx g x).toNat
    rw[Int.toNat_of_nonneg h5]at h6
    exact(h6 h4).symm
  have hj0:0≤iget d' (j:Int):=by
   rw[a2 j hjt,iget_set _ _ _ _ (by omega),if_pos rfl];omega
  refine⟨a1,keep,fun i j2 n2 hi hl hn2=>?_⟩
  by_cases hik:i=k
  ·subst hik
   rw[hx,e1]at hl;injection hl with hl
   have:j=j2:=by omega
   subst this
   rw[hn]at hn2;injection hn2 with hn2;subst hn2
   exact⟨hjv,hj0⟩
  ·exact a3 i j2 n2 (by omega) hl hn2
theorem Whole.fix {g:List Nd}{l d:List Int}{dm:List (Int×Int)}(W:Whole g l d dm){n:Nd}(hn:n∈g):dOf g d n.1=depthOf n (n.2.2.1.map (dOf g d))∧0≤dOf g d n.1:=by
 obtain⟨done,S⟩:=W.syn
 obtain⟨j,hj,e⟩:=List.getElem_of_mem hn
 have hg:g[j]?=some n:=by rw[List.getElem?_eq_getElem hj,e]
 obtain⟨i,hi,e2⟩:=List.getElem_of_mem (W.all hj)
 have h:=depths_fix W.fed S.ord S.nod l.length 0 (List.replicate g.length 0) d (by omega) (by simp) (by rw[List.drop_zero];exact W.dep)
 have:=h.2.2 i j n (Nat.zero_le _) (by rw[List.getElem?_eq_getElem hi,e2]) hg
 unfold dOf
 rw[inc_idx W.inc hg];exact this
end Go.Proofs.YtpdhaldfdeamdaaDoor
end
section
set_option linter.unusedVariables false
set_option linter.unusedSimpArgs false
set_option synthInstance.maxSize 1000000
set_option synthInstance.maxHeartbeats 400000
namespace Go.Proofs.YtpdhaldfdeamdaaDoor
open Go.RowKit Go.Graph
def F.R02_Ends (a0:Int×Int×Int×Int×(Int×Int×Int×Int)):Option Int:=(F.R02_Check a0).bind fun r=>if r≠0 then some 0 else some (a0.2.1+a0.2.2.2.1)
theorem insS_in (g:List Nd)(d:List Int)(id:Int): ∀(k:Nat) (l:List Int) (j:Nat) (z:Int),l[j]?=some z→((id,((k+j:Nat):Int)),iget d (idx g z))∈insS g d id k l
 |_,[],j,z,h=>by simp at h
 |k,y::r,j,z,h=>by
  unfold insS
  cases j with
  |zero=>simp at h;subst h;exact List.mem_cons_self ..
  |succ j=>
   have:=insS_in g d id (k+1) r j z (by simpa using h)
   rw[show k+1+j=k+(j+1) by omega]at this
   exact List.mem_cons_of_mem _ this
theorem spotsF_outP {g:List Nd}(d:List Int): ∀(i:Nat) (l:List Nd) (j:Nat) (n:Nd),l[j]?=some n→n.2.1≠15→((n.1,2),iget d ((i+j:Nat):Int))∈spotsF g d i l
 |_,[],j,n,h,_=>by simp at h
 |i,m::r,j,n,h,h15=>by
  unfold spotsF
  cases j with
  |zero=>
   simp at h;subst h
   exact List.mem_append_right _ (List.mem_append_left _ (by unfold outS;rw[if_pos h15];exact List.mem_singleton_self _))
  |succ j=>
   have:=spotsF_outP (g:=g) d (i+1) r j n (by simpa using h) h15
   rw[show i+1+j=i+(j+1) by omega]at this
   exact List.mem_append_right _ (List.mem_append_right _ this)
theorem useN_inv (id nd:Int): ∀(k:Nat) (l:List Int) (u:Pl),u∈useN id nd k l→∃j:Nat,u=(nd,((k+j:Nat):Int))∧l[j]?=some id
 |_,[],u,h=>by cases h
 |k,z::r,u,h=>by
  have go:u∈useN id nd (k+1) r→∃j:Nat,u=(nd,((k+j:Nat):Int))∧(z::r)[j]?=some id:=fun h=>by
   obtain⟨j,h1,h2⟩:=useN_inv id nd (k+1) r u h
   exact⟨j+1,by rw[h1,show k+1+j=k+(j+1) by omega],by simpa using h2⟩
  unfold useN at h
  split at h
  ·rename_i hz
   rcases List.mem_cons.1 h with rfl|h
   ·exact⟨0,rfl,by rw[←hz];rfl⟩
   ·exact go h
  ·exact go h
theorem usesF_inv (id:Int): ∀(l:List Nd) (u:Pl),u∈usesF id l→∃n∈l,∃j:Nat,u=(n.1,(j:Int))∧n.2.2.1[j]?=some id
 | [],u,h=>by cases h
 |n::r,u,h=>by
  unfold usesF at h
  rcases List.mem_append.1 h with h|h
  ·obtain⟨j,h1,h2⟩:=useN_inv id n.1 0 n.2.2.1 u h
   rw[Nat.zero_add]at h1
   exact⟨n,List.mem_cons_self ..,j,h1,h2⟩
  ·obtain⟨m,h1,h2⟩:=usesF_inv id r u h
   exact⟨m,List.mem_cons_of_mem _ h1,h2⟩
theorem inE_inv (g:List Nd)(d:List Int)(n:Nd): ∀(k:Nat) (l:List Int) (e:Ed),e∈inE g d n k l→∃(j:Nat) (z:Int),l[j]?=some z∧e=((n.1,((k+j:Nat):Int)),(n.1,2),withinP n (iget d (idx g z)))
 |_,[],e,h=>by cases h
 |k,z::r,e,h=>by
  unfold inE at h
  rcases List.mem_cons.1 h with rfl|h
  ·exact⟨0,z,rfl,rfl⟩
  ·obtain⟨j,y,h1,h2⟩:=inE_inv g d n (k+1) r e h
   exact⟨j+1,y,by simpa using h1,by rw[h2,show k+1+j=k+(j+1) by omega]⟩
theorem edgesF_inv {g:List Nd}(d:List Int): ∀(i:Nat) (l:List Nd) (e:Ed),e∈edgesF g d i l→∃(j:Nat) (n:Nd),l[j]?=some n∧n.2.1≠15∧(e∈inE g d n 0 n.2.2.1∨e∈outE g n (iget d ((i+j:Nat):Int)))
 |_,[],e,h=>by cases h
 |i,n::r,e,h=>by
  have go:e∈edgesF g d (i+1) r→∃(j:Nat) (m:Nd),(n::r)[j]?=some m∧m.2.1≠15∧(e∈inE g d m 0 m.2.2.1∨e∈outE g m (iget d ((i+j:Nat):Int))):=fun h=>by
   obtain⟨j,m,h1,h2,h3⟩:=edgesF_inv d (i+1) r e h
   rw[show i+1+j=i+(j+1) by omega]at h3
   exact⟨j+1,m,by simpa using h1,h2,h3⟩
  unfold edgesF at h
  split at h
  ·exact go h
  ·rename_i h15
   rcases List.mem_append.1 h with h|h
   ·exact⟨0,n,rfl,h15,.inl h⟩
   ·rcases List.mem_append.1 h with h|h
    ·exact⟨0,n,rfl,h15,.inr h⟩
    ·exact go h
theorem EndsId (d:Int)(hd:0≤d∧d≤4):(idP d).1.1=d∧F.R02_Ends (idP d).1=some d:=five (P:=fun d=>(idP d).1.1=d∧F.R02_Ends (idP d).1=some d) ⟨rfl,by kernel_rfl⟩ ⟨rfl,by kernel_rfl⟩ ⟨rfl,by kernel_rfl⟩ ⟨rfl,by kernel_rfl⟩ ⟨rfl,by kernel_rfl⟩ d hd
theorem EndsEnter (d:Int)(hd:0≤d∧d≤4):d≤3→(enterP d).1.1=d∧F.R02_Ends (enterP d).1=some (d+1):=five (P:=fun d=>d≤3→(enterP d).1.1=d∧F.R02_Ends (enterP d).1=some (d+1)) (fun _=>⟨rfl,by kernel_rfl⟩) (fun _=>⟨rfl,by kernel_rfl⟩) (fun _=>⟨rfl,by kernel_rfl⟩) (fun _=>⟨rfl,by kernel_rfl⟩) (fun h=>absurd h (by decide)) d hd
theorem EndsLeave (d:Int)(hd:0≤d∧d≤4):1≤d→(leaveP d).1.1=d∧F.R02_Ends (leaveP d).1=some (d-1):=five (P:=fun d=>1≤d→(leaveP d).1.1=d∧F.R02_Ends (leaveP d).1=some (d-1)) (fun h=>absurd h (by decide)) (fun _=>⟨rfl,by kernel_rfl⟩) (fun _=>⟨rfl,by kernel_rfl⟩) (fun _=>⟨rfl,by kernel_rfl⟩) (fun _=>⟨rfl,by kernel_rfl⟩) d hd
theorem EndsNext (d:Int)(hd:0≤d∧d≤4):1≤d→(nextP d).1.1=d∧F.R02_Ends (nextP d).1=some d:=five (P:=fun d=>1≤d→(nextP d).1.1=d∧F.R02_Ends (nextP d).1=some d) (fun h=>absurd h (by decide)) (fun _=>⟨rfl,by kernel_rfl⟩) (fun _=>⟨rfl,by kernel_rfl⟩) (fun _=>⟨rfl,by kernel_rfl⟩) (fun _=>⟨rfl,by kernel_rfl⟩) d hd
theorem within_ends {n:Nd}{L:List Int}{x:Int}{j:Nat}(hL:L[j]?=some x)(hq:ownQ n=true)(hlen:L.length=n.2.2.1.length)(h15:n.2.1≠15)(h0:0≤depthOf n L)(hx:0≤x∧x≤4)(h14:n.2.1=14→x=n.2.2.2.2.2.2∧1≤x):
  (withinP n x).1=x∧F.R02_Ends (withinP n x)=some (depthOf n L):=by
 have hj:=(List.getElem?_eq_some_iff.1 hL).1
 have hin:=own_ins hq
 have hl:=own_len hq
 unfold depthOf capd depthA at h0 ⊢
 unfold withinP
 have one:n.2.1≠5→n.2.1≠9→d0 L=x:=fun a b=>by
  have h1:L.length=1:=by rcases hl with h|h|h<;>omega
  obtain⟨y,rfl⟩: ∃y,L=[y]:=by
   cases L with
   |nil=>simp at h1
   |cons y r=>cases r with
    |nil=>exact⟨y,rfl⟩
    |cons _ _=>simp at h1
  obtain rfl:j=0:=by simp at hj;exact hj
  simp at hL;subst hL;rfl
 by_cases c14:n.2.1=14
 ·obtain⟨e1,e2⟩:=h14 c14
  rw[if_neg (by omega),if_neg (by omega),if_pos c14,if_pos c14,←e1,if_neg (by omega)]
  exact EndsNext x hx e2
 rw[if_neg c14]at h0
 rw[if_neg c14,if_neg c14]
 by_cases c12:n.2.1=12
 ·rw[if_pos c12,one (by omega) (by omega)]at h0 ⊢
  rw[if_pos c12]
  have h3:x≤3:=by split at h0<;>omega
  rw[if_neg (by omega)]
  exact EndsEnter x hx h3
 rw[if_neg c12]at h0 ⊢
 rw[if_neg c12]
 by_cases c13:n.2.1=13
 ·rw[if_pos c13,one (by omega) (by omega)]at h0 ⊢
  rw[if_pos c13]
  have h3:1≤x:=by split at h0<;>omega
  rw[if_neg (by omega)]
  exact EndsLeave x hx h3
 rw[if_neg c13]at h0 ⊢
 rw[if_neg c13]
 suffices h:(if 4<(if n.2.1=5∨n.2.1=9 then(if iget L 0≠iget L 1 then-1 else d0 L)else if n.2.1=11∨n.2.1=16∨n.2.1=15 then(if d0 L≠0 then-1 else d0 L)else d0 L)then-1 else(if n.2.1=5∨n.2.1=9 then(if iget L 0≠iget L 1 then-1 else d0 L)else if n.2.1=11∨n.2.1=16∨n.2.1=15 then(if d0 L≠0 then-1 else d0 L)else d0 L))=x by
  rw[h];exact EndsId x hx
 by_cases c59:n.2.1=5∨n.2.1=9
 ·rw[if_pos c59]at h0 ⊢
  have h1:L.length=2:=by rcases hl with h|h|h<;>omega
  obtain⟨y,z,rfl⟩: ∃y z,L=[y,z]:=by
   cases L with
   |nil=>simp at h1
   |cons y r=>cases r with
    |nil=>simp at h1
    |cons z r=>cases r with
     |nil=>exact⟨y,z,rfl⟩
     |cons _ _=>simp at h1
  have e0:iget [y,z] 0=y:=rfl
  have e1:iget [y,z] 1=z:=rfl
  have e2:d0 [y,z]=y:=rfl
  rw[e0,e1,e2]at h0 ⊢
  by_cases hyz:y≠z
  ·rw[if_pos hyz]at h0;rw[if_neg (by omega)]at h0;omega
  ·rw[if_neg hyz]at h0 ⊢
   have hyz:y=z:=Classical.byContradiction hyz
   subst hyz
   have hxy:y=x:=by
    rcases Nat.lt_or_ge j 1 with hj1|hj1
    ·obtain rfl:j=0:=by omega
     simpa using hL
    ·obtain rfl:j=1:=by simp at hj;omega
     simpa using hL
   subst hxy
   rw[if_neg (by omega)]
 ·rw[if_neg c59,one (by omega) (by omega)]at h0 ⊢
  by_cases c:n.2.1=11∨n.2.1=16∨n.2.1=15
  ·rw[if_pos c]at h0 ⊢
   by_cases hx0:x≠0
   ·rw[if_pos hx0]at h0;rw[if_neg (by omega)]at h0;omega
   ·rw[if_neg hx0,if_neg (by omega)]
  ·rw[if_neg c,if_neg (by omega)]
end Go.Proofs.YtpdhaldfdeamdaaDoor
end
section
set_option linter.unusedVariables false
set_option linter.unusedSimpArgs false
namespace Go.A
theorem fst {α:Type}(l:List α)(p:α→Bool)(L:Nat→Int→Option Int)(h0: ∀f,L (f+1) (l.length:Int)=some (-1))
  (h1: ∀f (k:Nat) x,l[k]?=some x→k<l.length→L (f+1) (k:Int)=if p x=true then some (k:Int)else L f ((k:Int)+1)) (hl:l.length<FU):
  (L FU 0=some (-1)∧∀x∈l,p x=false)∨∃(k:Nat) (x:α),l[k]?=some x∧L FU 0=some (k:Int)∧p x=true∧∀y∈l.take k,p y=false:=by
 have main: ∀(n k f:Nat),k+n=l.length→n<f→(∀y∈l.take k,p y=false)→(L f (k:Int)=some (-1)∧∀x∈l,p x=false)∨∃(i:Nat) (x:α),l[i]?=some x∧L f (k:Int)=some (i:Int)∧p x=true∧∀y∈l.take i,p y=false:=by
  intro n
  induction n with
  |zero=>
   intro k f hk hf hp
   obtain⟨f,rfl⟩: ∃f',f=f'+1:=⟨f-1,by omega⟩
   obtain rfl:k=l.length:=by omega
   rw[List.take_of_length_le (Nat.le_refl _)]at hp
   exact .inl ⟨h0 f,hp⟩
  |succ n ih=>
   intro k f hk hf hp
   obtain⟨f,rfl⟩: ∃f',f=f'+1:=⟨f-1,by omega⟩
   have hx:l[k]?=some l[k]:=List.getElem?_eq_getElem (by omega)
   rw[h1 f k _ hx (by omega)]
   cases hb:p l[k]with
   |true=>rw[if_pos rfl];exact .inr ⟨k,_,hx,rfl,hb,hp⟩
   |false=>
    rw[if_neg Bool.false_ne_true]
    refine ih (k+1) f (by omega) (by omega) fun y hy=>?_
    rw[List.take_add_one,hx]at hy
    rcases List.mem_append.1 hy with h|h
    ·exact hp y h
    ·rw[Option.toList_some,List.mem_singleton]at h;rw[h];exact hb
 exact main l.length 0 FU (by omega) hl (by simp)
end Go.A
end
section
set_option linter.unusedVariables false
set_option linter.unusedSimpArgs false
set_option synthInstance.maxSize 1000000
set_option synthInstance.maxHeartbeats 400000
namespace Go.Proofs.YtpdhaldfdeamdaaDoor
open Go.RowKit Go.Graph
theorem own_c {n:Nd}(h:ownQ n=true): ¬ownC n:=fun hc=>by
 unfold ownQ at h
 split at h
 ·cases h
 ·first|cases h|(rw[if_pos hc]at h;cases h)
theorem named_16 {s:ByteArray}(h:named s=true):s.size≤16:=by
 unfold named at h
 simp only[Bool.and_eq_true,decide_eq_true_eq]at h
 omega
theorem own_16 {n:Nd}(h:ownQ n=true):n.2.2.2.2.1.size≤16:=by
 unfold ownQ at h
 split at h
 ·cases h
 ·split at h
  ·cases h
  ·split at h
   ·exact named_16 h
   ·rw[decide_eq_true_iff]at h;rw[h];decide
theorem dec_4 (s:ByteArray)(p:Nat):(Utf8.decode s p).2≤4:=by
 have h:=wid_4 s p
 unfold wid at h
 split at h
 ·rename_i e;rw[e];decide
 ·exact h
theorem cnt_4 {s:ByteArray}(h:cnt s s.size 0=1):s.size≤4:=by
 cases hs:s.size with
 |zero=>omega
 |succ n=>
  rw[hs,cnt,if_pos (by omega)]at h
  have h4:=dec_4 s 0
  cases n with
  |zero=>omega
  |succ n=>
   rw[cnt]at h
   split at h
   ·omega
   ·omega
theorem text_16 {f:Fun}(h:textP f=true):f.2.2.size≤16:=by
 unfold textP at h
 split at h
 ·simp only[Bool.and_eq_true,decide_eq_true_eq]at h;omega
 ·split at h
  ·simp only[Bool.and_eq_true,decide_eq_true_eq]at h
   have:=cnt_4 h.1;omega
  ·rw[decide_eq_true_iff]at h;rw[h];decide
theorem chk_16 {k:Int}{f:Fun}(h:chk k f=0):f.2.2.size≤16:=by
 unfold chk at h
 split at h
 ·split at h
  ·rename_i hf;rw[hf];decide
  ·cases h
 ·unfold anyF at h
  split at h
  ·rename_i ha
   obtain⟨y,_,hy⟩:=List.any_eq_true.1 ha
   simp only[Bool.and_eq_true]at hy
   exact text_16 hy.2.2
  ·cases h
theorem small_of {g:List Nd}(h32:g.length≤32)(hok:okL g 0 0 g=true)(hc:g.all (fun n=>decide (chk n.2.1 n.2.2.2.1=0))=true):Few g:=by
 have ho:=own_of hok
 refine⟨by omega,fun x hx=>⟨by have:=in2 ho hx;omega,by have:=own_16 (ho x hx);omega,?_⟩⟩
 have:=chk_16 (of_decide_eq_true (List.all_eq_true.1 hc x hx))
 omega
theorem whole_all (g:List Nd)(h: ∀x∈g,x.2.2.2.2.1.size≤9223372036854775807∧x.2.2.2.1.2.2.size≤9223372036854775807):Few g∨∃e,e≠0∧F.graph_whole g=some (none,e):=by
 unfold F.graph_whole
 by_cases h32:(32:Int)<(g.length:Int)
 ·rw[if_pos h32];exact .inr ⟨80,by decide,rfl⟩
 rw[if_neg h32,whole_l6 g (by omega) (fun x hx=>(h x hx).1)]
 by_cases hok:okL g 0 0 g=true
 case neg=>rw[if_neg hok];exact .inr ⟨80,by decide,rfl⟩
 rw[if_pos hok,whole_l5 g _ (by omega) (fun x hx=>(h x hx).2)]
 by_cases hc:g.all (fun n=>decide (chk n.2.1 n.2.2.2.1=0))=true
 case neg=>rw[if_neg hc];exact .inr ⟨60,by decide,rfl⟩
 exact .inl (small_of (by omega) hok hc)
end Go.Proofs.YtpdhaldfdeamdaaDoor
end
section
set_option linter.unusedVariables false
set_option linter.unusedSimpArgs false
set_option synthInstance.maxSize 1000000
set_option synthInstance.maxHeartbeats 400000
namespace Go.Proofs.YtpdhaldfdeamdaaDoor
open Go.RowKit Go.Graph
abbrev Tm:=Int×Int×(Int×Int×Int×Int)
def pus (s:Sm):List Int:=[s.2.2.2.2.1,s.2.2.2.2.2.1,s.2.2.2.2.2.2.1,s.2.2.2.2.2.2.2]
def tms (t:Tm):List Int:=[t.2.2.1,t.2.2.2.1,t.2.2.2.2.1,t.2.2.2.2.2]
structure OkS (s:Sm):Prop where
 f:0≤s.1∧s.1≤4
 n:0≤s.2.2.2.1∧s.2.2.2.1≤4
 k:0≤s.2.1∧s.2.1≤s.1
 kn:s.2.1+s.2.2.2.1≤4
 a:0≤s.2.2.1∧s.2.2.1≤1048576
 k0:s.2.1=0→s.2.2.1=0
 p: ∀(i:Nat) (x:Int),(pus s)[i]?=some x→0≤x∧x≤1048576∧(s.2.2.2.1≤(i:Int)→x=0)
theorem ix4 {a b c d i:Int}(h:0≤i∧i<4): ∃x,A.ix [a,b,c,d] i=some x∧[a,b,c,d][i.toNat]?=some x:=by
 have:i=0∨i=1∨i=2∨i=3:=by omega
 rcases this with rfl|rfl|rfl|rfl
 ·exact⟨a,rfl,rfl⟩
 ·exact⟨b,rfl,rfl⟩
 ·exact⟨c,rfl,rfl⟩
 ·exact⟨d,rfl,rfl⟩
theorem ix4s {a b c d i x:Int}(h:0≤i∧i<4):A.ix [if i=0 then x else a,if i=1 then x else b,if i=2 then x else c,if i=3 then x else d] i=some x:=by
 have:i=0∨i=1∨i=2∨i=3:=by omega
 rcases this with rfl|rfl|rfl|rfl<;>rfl
theorem ix4n {a b c d i j x:Int}(h:0≤i∧i<4)(hj:0≤j∧j<4)(hne:i≠j):A.ix [if i=0 then x else a,if i=1 then x else b,if i=2 then x else c,if i=3 then x else d] j=A.ix [a,b,c,d] j:=by
 have h1:i=0∨i=1∨i=2∨i=3:=by omega
 have h2:j=0∨j=1∨j=2∨j=3:=by omega
 rcases h1 with rfl|rfl|rfl|rfl<;>rcases h2 with rfl|rfl|rfl|rfl<;>first|rfl|exact absurd rfl hne
def pok (n:Int):Nat→List Int→Bool
 |_,[]=>true
 |k,x::r=>decide (0≤x∧x≤1048576∧(n≤(k:Int)→x=0))&&pok n (k+1) r
theorem pok_iff (n:Int): ∀(k:Nat) (l:List Int),pok n k l=true↔∀(i:Nat) (x:Int),l[i]?=some x→0≤x∧x≤1048576∧(n≤((k+i:Nat):Int)→x=0)
 |_,[]=>by simp[pok]
 |k,y::r=>by
  rw[pok,Bool.and_eq_true,decide_eq_true_iff,pok_iff n (k+1) r]
  constructor
  ·intro ⟨h1,h2⟩ i x hx
   cases i with
   |zero=>simp at hx;subst hx;exact h1
   |succ i=>
    have:=h2 i x (by simpa using hx)
    rw[show k+1+i=k+(i+1) by omega]at this;exact this
  ·intro h
   refine⟨h 0 y rfl,fun i x hx=>?_⟩
   have:=h (i+1) x (by simpa using hx)
   rw[show k+1+i=k+(i+1) by omega];exact this
theorem Check_l2 (a:Sm):F.R02_Check_l2 a A.FU 0=some (if pok a.2.2.2.1 0 (pus a)=true then 0 else 20):=
 A.lp0 (pus a) (fun f z=>F.R02_Check_l2 a f z) (fun k l=>some (if pok a.2.2.2.1 k l=true then 0 else 20))
  (fun f=>by rw[F.R02_Check_l2,if_neg (by show ¬((4:Nat):Int)<4;omega)];rfl)
  (fun f k x hx hk ih=>by
   have hk4:k<4:=hk
   rw[F.R02_Check_l2,if_pos (by omega),show A.ix [a.2.2.2.2.1,a.2.2.2.2.2.1,a.2.2.2.2.2.2.1,a.2.2.2.2.2.2.2] (k:Int)=some x from A.ixn hx]
   simp only[Option.bind_some,F.R02_Check_j1]
   rw[pok]
   by_cases h1:x<0
   ·rw[if_pos h1,if_pos trivial,if_neg (by simp;intro;omega)]
   rw[if_neg h1]
   by_cases h2:(1048576:Int)<x
   ·rw[if_pos h2,if_pos trivial,if_neg (by simp;intro;omega)]
   rw[if_neg h2]
   by_cases h3:a.2.2.2.1≤(k:Int)
   ·rw[if_pos h3]
    by_cases h4:x=0
    ·rw[if_neg (by simp[h4]),A.gd1 (A.r64n (by omega)),ih]
     rw[decide_eq_true (by omega:0≤x∧x≤1048576∧(a.2.2.2.1≤(k:Int)→x=0)),Bool.true_and]
    ·rw[if_pos (by simp[h4]),if_neg (by simp only[Bool.and_eq_true,decide_eq_true_eq];intro ⟨⟨_,_,h⟩,_⟩;exact h4 (h h3))]
   ·rw[if_neg h3,if_neg (by simp),A.gd1 (A.r64n (by omega)),ih]
    rw[decide_eq_true (by omega:0≤x∧x≤1048576∧(a.2.2.2.1≤(k:Int)→x=0)),Bool.true_and])
  (by show 4<A.FU;decide)
theorem Check_cases (s:Sm):(F.R02_Check s=some 0∧OkS s)∨(F.R02_Check s=some 20∧¬OkS s):=by
 unfold F.R02_Check
 simp only[A.bo]
 rw[A.gd1 (fun h=>by have:=of_decide_eq_false h;exact⟨by omega,by omega⟩)]
 split
 ·rename_i h
  have h:=of_decide_eq_true h
  exact .inr ⟨rfl,fun o=>by have:=o.f;have:=o.n;have:=o.k;have:=o.kn;have:=o.a;omega⟩
 ·rename_i h
  have h1:=of_decide_eq_false (Bool.eq_false_iff.2 h)
  split
  ·rename_i h2
   simp only[A.ba,decide_eq_true_eq]at h2
   exact .inr ⟨rfl,fun o=>h2.2 (o.k0 h2.1)⟩
  ·rename_i h2
   simp only[A.ba,decide_eq_true_eq]at h2
   rw[Check_l2]
   by_cases hp:pok s.2.2.2.1 0 (pus s)=true
   ·rw[if_pos hp]
    refine .inl ⟨rfl,⟨by omega,by omega,by omega,by omega,by omega,fun h=>Classical.byContradiction fun h3=>h2 ⟨h,h3⟩,fun i x hx=>?_⟩⟩
    have:=(pok_iff _ 0 _).1 hp i x hx
    rw[Nat.zero_add]at this;exact this
   ·rw[if_neg hp]
    refine .inr ⟨rfl,fun o=>hp ((pok_iff _ 0 _).2 fun i x hx=>?_)⟩
    rw[Nat.zero_add];exact o.p i x hx
theorem Check_ok {s:Sm}(h:OkS s):F.R02_Check s=some 0:=(Check_cases s).elim (fun h=>h.1) fun h2=>absurd h h2.2
structure Th (a b s:Sm):Prop where
 from_:s.1=a.1
 keep:s.2.1=min a.2.1 b.2.1
 add:s.2.2.1=(if a.2.1≤b.2.1 then a.2.2.1 else 0)+(if b.2.1≤a.2.1 then b.2.2.1 else 0)
 ends:s.2.1+s.2.2.2.1=b.2.1+b.2.2.2.1
theorem then_l2 {b:Sm}(hb:OkS b): ∀(k f:Nat) (y51 y53 y55 y57 y59 y61 y63 y65 y67:Int),y67+k=b.2.2.2.1→0≤y67→0≤y57→y57+k≤4→k<f→
  ∃s e,F.R02_Then_l2 b f y51 y53 y55 y57 y59 y61 y63 y65 y67=some (s,e)∧(e=0→OkS s∧s.1=y51∧s.2.1=y53∧s.2.2.1=y55∧s.2.2.2.1=y57+k):=by
 intro k
 induction k with
 |zero=>
  intro f y51 y53 y55 y57 y59 y61 y63 y65 y67 h1 h2 h3 h4 hf
  obtain⟨f,rfl⟩: ∃f',f=f'+1:=⟨f-1,by omega⟩
  rw[F.R02_Then_l2,if_neg (by omega)]
  rcases Check_cases (y51,y53,y55,y57,(y59,y61,y63,y65))with⟨h,o⟩|⟨h,_⟩
  ·rw[h,Option.bind_some,if_neg (fun h=>h rfl)]
   exact⟨_,_,rfl,fun _=>⟨o,rfl,rfl,rfl,by show y57=y57+((0:Nat):Int);omega⟩⟩
  ·rw[h,Option.bind_some,if_pos (by decide)]
   exact⟨_,_,rfl,fun h=>absurd h (by decide)⟩
 |succ k ih=>
  intro f y51 y53 y55 y57 y59 y61 y63 y65 y67 h1 h2 h3 h4 hf
  obtain⟨f,rfl⟩: ∃f',f=f'+1:=⟨f-1,by omega⟩
  have hn:=hb.n
  obtain⟨x,hx,_⟩:=ix4 (a:=b.2.2.2.2.1) (b:=b.2.2.2.2.2.1) (c:=b.2.2.2.2.2.2.1) (d:=b.2.2.2.2.2.2.2) (i:=y67) (by omega)
  obtain⟨z,hz,_⟩:=ix4 (a:=y59) (b:=y61) (c:=y63) (d:=y65) (i:=y57) (by omega)
  rw[F.R02_Then_l2,if_pos (by omega),hx,Option.bind_some,hz,Option.bind_some,A.gd1 ⟨by omega,by omega⟩,A.gd1 ⟨by omega,by omega⟩]
  obtain⟨s,e,h5,h6⟩:=ih f y51 y53 y55 (y57+1) (if y57=0 then x else y59) (if y57=1 then x else y61) (if y57=2 then x else y63) (if y57=3 then x else y65) (y67+1) (by omega) (by omega) (by omega) (by omega) (by omega)
  exact⟨s,e,h5,fun he=>by obtain⟨a1,a2,a3,a4,a5⟩:=h6 he;exact⟨a1,a2,a3,a4,by omega⟩⟩
theorem then_l3 {a b:Sm}(ha:OkS a)(hb:OkS b): ∀(k f:Nat) (y11 y13 y15 y17 y19 y21 y23 y25 y27:Int),(b.2.1-y27).toNat=k→a.2.1≤y27→y17=y27-a.2.1→y17+k+b.2.2.2.1≤4→k<f→
  ∃s e,F.R02_Then_l3 a b f y11 y13 y15 y17 y19 y21 y23 y25 y27=some (s,e)∧(e=0→OkS s∧s.1=y11∧s.2.1=y13∧s.2.2.1=y15∧s.2.2.2.1=y17+k+b.2.2.2.1):=by
 intro k
 induction k with
 |zero=>
  intro f y11 y13 y15 y17 y19 y21 y23 y25 y27 h1 h2 h3 h4 hf
  obtain⟨f,rfl⟩: ∃f',f=f'+1:=⟨f-1,by omega⟩
  have hn:=hb.n
  rw[F.R02_Then_l3,if_neg (by omega)]
  obtain⟨s,e,h5,h6⟩:=then_l2 hb b.2.2.2.1.toNat A.FU y11 y13 y15 y17 y19 y21 y23 y25 0 (by omega) (by omega) (by omega) (by omega) (by have:=FU_big;omega)
  exact⟨s,e,h5,fun he=>by obtain⟨a1,a2,a3,a4,a5⟩:=h6 he;exact⟨a1,a2,a3,a4,by omega⟩⟩
 |succ k ih=>
  intro f y11 y13 y15 y17 y19 y21 y23 y25 y27 h1 h2 h3 h4 hf
  obtain⟨f,rfl⟩: ∃f',f=f'+1:=⟨f-1,by omega⟩
  have hn:=hb.n
  have hk:=ha.k
  have hbk:=hb.k
  have hbf:=hb.f
  have hba:=hb.a
  obtain⟨x,hx,hx2⟩:=ix4 (a:=a.2.2.2.2.1) (b:=a.2.2.2.2.2.1) (c:=a.2.2.2.2.2.2.1) (d:=a.2.2.2.2.2.2.2) (i:=y27-a.2.1) (by omega)
  have hxr:=ha.p _ _ hx2
  obtain⟨z,hz,_⟩:=ix4 (a:=y19) (b:=y21) (c:=y23) (d:=y25) (i:=y17) (by omega)
  rw[F.R02_Then_l3,if_pos (by omega),A.gd1 ⟨by omega,by omega⟩,hx,Option.bind_some,hz,Option.bind_some,A.gd1 ⟨by omega,by omega⟩,ix4s (by omega)]
  simp only[Option.bind_some,F.R02_Then_j1]
  have hadd:Z.R64 (x+b.2.2.1):=⟨by omega,by omega⟩
  have h17:Z.R64 (y17+1):=⟨by omega,by omega⟩
  have h27:Z.R64 (y27+1):=⟨by omega,by omega⟩
  rw[A.gd1 hadd,A.gd1 h17,A.gd1 h27]
  by_cases hy:y27=b.2.1-1
  ·rw[if_pos hy]
   obtain⟨s,e,h5,h6⟩:=ih f y11 y13 y15 (y17+1) (if y17=0 then x+b.2.2.1 else(if y17=0 then x else y19)) (if y17=1 then x+b.2.2.1 else(if y17=1 then x else y21)) (if y17=2 then x+b.2.2.1 else(if y17=2 then x else y23)) (if y17=3 then x+b.2.2.1 else(if y17=3 then x else y25)) (y27+1) (by omega) (by omega) (by omega) (by omega) (by omega)
   exact⟨s,e,h5,fun he=>by obtain⟨a1,a2,a3,a4,a5⟩:=h6 he;exact⟨a1,a2,a3,a4,by omega⟩⟩
  ·rw[if_neg hy,A.gd1 h17,A.gd1 h27]
   obtain⟨s,e,h5,h6⟩:=ih f y11 y13 y15 (y17+1) (if y17=0 then x else y19) (if y17=1 then x else y21) (if y17=2 then x else y23) (if y17=3 then x else y25) (y27+1) (by omega) (by omega) (by omega) (by omega) (by omega)
   exact⟨s,e,h5,fun he=>by obtain⟨a1,a2,a3,a4,a5⟩:=h6 he;exact⟨a1,a2,a3,a4,by omega⟩⟩
theorem Then_ok {a b:Sm}(ha:OkS a)(hb:OkS b): ∃s e,F.R02_Then a b=some (s,e)∧(e=0→OkS s∧Th a b s):=by
 have hak:=ha.k
 have han:=ha.n
 have haf:=ha.f
 have haa:=ha.a
 have hbk:=hb.k
 have hbn:=hb.n
 have hbf:=hb.f
 have hba:=hb.a
 have hbkn:=hb.kn
 unfold F.R02_Then
 rw[show F.R02_Check (a.1,a.2.1,a.2.2.1,a.2.2.2.1,(a.2.2.2.2.1,a.2.2.2.2.2.1,a.2.2.2.2.2.2.1,a.2.2.2.2.2.2.2))=some 0 from Check_ok ha,Option.bind_some,if_neg (fun h=>h rfl)]
 rw[show F.R02_Check (b.1,b.2.1,b.2.2.1,b.2.2.2.1,(b.2.2.2.2.1,b.2.2.2.2.2.1,b.2.2.2.2.2.2.1,b.2.2.2.2.2.2.2))=some 0 from Check_ok hb,Option.bind_some]
 unfold F.R02_Then_j6
 rw[if_neg (by simp),A.gd1 ⟨by omega,by omega⟩]
 by_cases hd:a.2.1+a.2.2.2.1≠b.1
 ·rw[if_pos hd];exact⟨_,_,rfl,fun h=>absurd h (by decide)⟩
 rw[if_neg hd]
 have go: ∀y9:Int,∃s e,F.R02_Then_j4 a b y9=some (s,e)∧(e=0→OkS s∧s.1=a.1∧s.2.1=min a.2.1 b.2.1∧s.2.2.1=y9∧s.2.1+s.2.2.2.1=b.2.1+b.2.2.2.1):=fun y9=>by
  unfold F.R02_Then_j4
  obtain⟨s,e,h5,h6⟩:=then_l3 ha hb (b.2.1-a.2.1).toNat A.FU a.1 (min a.2.1 b.2.1) y9 0 0 0 0 0 a.2.1 rfl (Int.le_refl _) (by omega) (by omega) (by have:=FU_big;omega)
  exact⟨s,e,h5,fun he=>by obtain⟨a1,a2,a3,a4,a5⟩:=h6 he;exact⟨a1,a2,a3,a4,by omega⟩⟩
 have go2: ∀y7:Int,0≤y7→y7≤1048576→∃s e,F.R02_Then_j5 a b y7=some (s,e)∧(e=0→OkS s∧s.1=a.1∧s.2.1=min a.2.1 b.2.1∧s.2.2.1=y7+(if b.2.1≤a.2.1 then b.2.2.1 else 0)∧s.2.1+s.2.2.2.1=b.2.1+b.2.2.2.1):=fun y7 h1 h2=>by
  unfold F.R02_Then_j5
  by_cases h3:b.2.1≤a.2.1
  ·rw[if_pos h3,if_pos h3,A.gd1 ⟨by omega,by omega⟩];exact go _
  ·rw[if_neg h3,if_neg h3,Int.add_zero];exact go _
 by_cases h4:a.2.1≤b.2.1
 ·rw[if_pos h4]
  obtain⟨s,e,h5,h6⟩:=go2 a.2.2.1 haa.1 haa.2
  exact⟨s,e,h5,fun he=>by obtain⟨a1,a2,a3,a4,a5⟩:=h6 he;exact⟨a1,a2,a3,by rw[if_pos h4];exact a4,a5⟩⟩
 ·rw[if_neg h4]
  obtain⟨s,e,h5,h6⟩:=go2 0 (by omega) (by omega)
  exact⟨s,e,h5,fun he=>by obtain⟨a1,a2,a3,a4,a5⟩:=h6 he;exact⟨a1,a2,a3,by rw[if_neg h4];exact a4,a5⟩⟩
theorem TCheck_l2 (t:Tm): ∃e,F.R01_Check_l2 t A.FU 0=some e∧(e=0→∀x∈tms t,0≤x∧x≤1048576):=by
 have main: ∀(n f:Nat) (i:Nat),i+n=4→n<f→∃e,F.R01_Check_l2 t f (i:Int)=some e∧(e=0→∀(j:Nat) x,i≤j→(tms t)[j]?=some x→0≤x∧x≤1048576):=by
  intro n
  induction n with
  |zero=>
   intro f i h1 h2
   obtain⟨f,rfl⟩: ∃f',f=f'+1:=⟨f-1,by omega⟩
   rw[F.R01_Check_l2,if_neg (by omega)]
   exact⟨0,rfl,fun _ j x hj hx=>by have:=(List.getElem?_eq_some_iff.1 hx).1;have h4:(tms t).length=4:=rfl;omega⟩
  |succ n main=>
   intro f i h1 h2
   obtain⟨f,rfl⟩: ∃f',f=f'+1:=⟨f-1,by omega⟩
   obtain⟨x,hx,hx2⟩:=ix4 (a:=t.2.2.1) (b:=t.2.2.2.1) (c:=t.2.2.2.2.1) (d:=t.2.2.2.2.2) (i:=(i:Int)) (by omega)
   rw[Int.toNat_natCast]at hx2
   obtain⟨e,h3,h4⟩:=main f (i+1) (by omega) (by omega)
   have hr:Z.R64 ((i:Int)+1):=⟨by omega,by omega⟩
   have h3:F.R01_Check_l2 t f ((i:Int)+1)=some e:=h3
   rw[F.R01_Check_l2,if_pos (by omega),hx]
   simp only[Option.bind_some,F.R01_Check_j1]
   by_cases g1:x<0
   ·rw[if_pos g1,if_pos trivial];exact⟨10,rfl,fun h=>absurd h (by decide)⟩
   rw[if_neg g1]
   by_cases g2:(1048576:Int)<x
   ·rw[if_pos g2,if_pos trivial];exact⟨10,rfl,fun h=>absurd h (by decide)⟩
   rw[if_neg g2]
   have rest: ∀b:Bool,∃e',(if b=true then some 10 else A.gd (Z.R64 ((i:Int)+1)) (F.R01_Check_l2 t f ((i:Int)+1)))=some e'∧(e'=0→∀(j:Nat) x,i≤j→(tms t)[j]?=some x→0≤x∧x≤1048576):=fun b=>by
    cases b with
    |true=>exact⟨10,rfl,fun h=>absurd h (by decide)⟩
    |false=>
     rw[if_neg (by simp),A.gd1 hr]
     refine⟨e,h3,fun he j y hj hy=>?_⟩
     by_cases hij:j=i
     ·subst hij
      have:(tms t)[j]?=some x:=hx2
      rw[hy]at this;obtain rfl:=Option.some.inj this;omega
     ·exact h4 he j y (by omega) hy
   by_cases g3:t.2.1≤(i:Int)
   ·rw[if_pos g3];exact rest _
   ·rw[if_neg g3];exact rest _
 obtain⟨e,h1,h2⟩:=main 4 A.FU 0 rfl (by decide)
 exact⟨e,h1,fun he x hx=>by
  obtain⟨j,hj,rfl⟩:=List.getElem_of_mem hx
  exact h2 he j _ (by omega) (List.getElem?_eq_getElem hj)⟩
theorem TCheck_ok (t:Tm): ∃e,F.R01_Check t=some e∧(e=0→∀x∈tms t,0≤x∧x≤1048576):=by
 unfold F.R01_Check
 split
 ·exact⟨10,rfl,fun h=>absurd h (by decide)⟩
 ·exact TCheck_l2 t
theorem apply_l2 {s:Sm}(hs:OkS s){t:Tm}(ht: ∀x∈tms t,0≤x∧x≤1048576): ∀(n f:Nat) (y12 y14 y16 y18 y20 y22 y24:Int),y24+n=4→0≤y24→n<f→
  ∃u e,F.R02_Apply_l2 s t f y12 y14 y16 y18 y20 y22 y24=some (u,e)∧(e=0→1≤s.2.1→(y24≤s.2.1-1→∃x,A.ix (tms t) (s.2.1-1)=some x∧A.ix (tms u) (s.2.1-1)=some (x+s.2.2.1))∧(s.2.1-1<y24→A.ix (tms u) (s.2.1-1)=A.ix [y16,y18,y20,y22] (s.2.1-1))):=by
 intro n
 induction n with
 |zero=>
  intro f y12 y14 y16 y18 y20 y22 y24 h1 h2 h3
  obtain⟨f,rfl⟩: ∃f',f=f'+1:=⟨f-1,by omega⟩
  have hk:=hs.k
  have hf:=hs.f
  rw[F.R02_Apply_l2,if_neg (by omega)]
  obtain⟨e,h4,h5⟩:=TCheck_ok (y12,y14,(y16,y18,y20,y22))
  rw[h4,Option.bind_some]
  by_cases he:e≠0
  ·rw[if_pos he];exact⟨_,_,rfl,fun h=>absurd h (by decide)⟩
  ·rw[if_neg he];exact⟨_,_,rfl,fun _ _=>⟨fun h=>by omega,fun _=>rfl⟩⟩
 |succ n ih=>
  intro f y12 y14 y16 y18 y20 y22 y24 h1 h2 h3
  obtain⟨f,rfl⟩: ∃f',f=f'+1:=⟨f-1,by omega⟩
  have hk:=hs.k
  have hf:=hs.f
  have hn:=hs.n
  have hkn:=hs.kn
  have ha:=hs.a
  have hr:Z.R64 (y24+1):=⟨by omega,by omega⟩
  obtain⟨z,hz,_⟩:=ix4 (a:=y16) (b:=y18) (c:=y20) (d:=y22) (i:=y24) (by omega)
  obtain⟨x,hx,hx2⟩:=ix4 (a:=t.2.2.1) (b:=t.2.2.2.1) (c:=t.2.2.2.2.1) (d:=t.2.2.2.2.2) (i:=y24) (by omega)
  have hxr:=ht x (List.mem_of_getElem? hx2)
  rw[F.R02_Apply_l2,if_pos (by omega),A.gd1 ⟨by omega,by omega⟩,hx,hz]
  simp only[Option.bind_some,F.R02_Apply_j1]
  rw[A.gd1 hr,A.gd1 ⟨by omega,by omega⟩]
  have fin: ∀v:Int,(y24=s.2.1-1→v=x+s.2.2.1)→∃u e,F.R02_Apply_l2 s t f y12 y14 (if y24=0 then v else y16) (if y24=1 then v else y18) (if y24=2 then v else y20) (if y24=3 then v else y22) (y24+1)=some (u,e)∧(e=0→1≤s.2.1→(y24≤s.2.1-1→∃x,A.ix (tms t) (s.2.1-1)=some x∧A.ix (tms u) (s.2.1-1)=some (x+s.2.2.1))∧(s.2.1-1<y24→A.ix (tms u) (s.2.1-1)=A.ix [y16,y18,y20,y22] (s.2.1-1))):=fun v hv=>by
   obtain⟨u,e,h5,h6⟩:=ih f y12 y14 (if y24=0 then v else y16) (if y24=1 then v else y18) (if y24=2 then v else y20) (if y24=3 then v else y22) (y24+1) (by omega) (by omega) (by omega)
   refine⟨u,e,h5,fun he h1k=>?_⟩
   obtain⟨h7,h8⟩:=h6 he h1k
   refine⟨fun hle=>?_,fun hlt=>?_⟩
   ·by_cases hq:y24=s.2.1-1
    ·refine⟨x,by rw[←hq];exact hx,?_⟩
     rw[h8 (by omega),←hq,ix4s (by omega),hv hq]
    ·exact h7 (by omega)
   ·rw[h8 (by omega),ix4n (by omega) (by omega) (by omega)]
  by_cases c1:y24<s.2.1-1
  ·rw[if_pos c1];exact fin x fun h=>by omega
  rw[if_neg c1]
  by_cases c2:y24=s.2.1-1
  ·rw[if_pos c2,A.gd1 ⟨by omega,by omega⟩,A.gd1 hr];exact fin (x+s.2.2.1) fun _=>rfl
  rw[if_neg c2,A.gd1 ⟨by omega,by omega⟩]
  by_cases c3:y24<s.2.1+s.2.2.2.1
  ·obtain⟨v,hv,_⟩:=ix4 (a:=s.2.2.2.2.1) (b:=s.2.2.2.2.2.1) (c:=s.2.2.2.2.2.2.1) (d:=s.2.2.2.2.2.2.2) (i:=y24-s.2.1) (by omega)
   rw[if_pos c3,A.gd1 ⟨by omega,by omega⟩,hv,Option.bind_some,A.gd1 hr];exact fin v fun h=>absurd h c2
  ·rw[if_neg c3,A.gd1 hr];exact fin 0 fun h=>absurd h c2
theorem Apply_ok {s:Sm}(hs:OkS s)(t:Tm): ∃u e,F.R02_Apply s t=some (u,e)∧(e=0→1≤s.2.1→∃x,A.ix (tms t) (s.2.1-1)=some x∧A.ix (tms u) (s.2.1-1)=some (x+s.2.2.1)):=by
 have hk:=hs.k
 have hf:=hs.f
 have hn:=hs.n
 unfold F.R02_Apply
 rw[show F.R02_Check (s.1,s.2.1,s.2.2.1,s.2.2.2.1,(s.2.2.2.2.1,s.2.2.2.2.2.1,s.2.2.2.2.2.2.1,s.2.2.2.2.2.2.2))=some 0 from Check_ok hs,Option.bind_some,if_neg (fun h=>h rfl)]
 obtain⟨e,h1,h2⟩:=TCheck_ok t
 rw[show F.R01_Check (t.1,t.2.1,(t.2.2.1,t.2.2.2.1,t.2.2.2.2.1,t.2.2.2.2.2))=some e from h1,Option.bind_some]
 by_cases he:e≠0
 ·rw[if_pos he];exact⟨_,_,rfl,fun h=>absurd h he⟩
 rw[if_neg he]
 split
 ·exact⟨_,_,rfl,fun h=>absurd h (by decide)⟩
 ·rw[A.gd1 ⟨by omega,by omega⟩]
  obtain⟨u,e2,h5,h6⟩:=apply_l2 hs (h2 (Classical.not_not.1 he)) 4 A.FU t.1 (s.2.1+s.2.2.2.1) 0 0 0 0 0 (by omega) (by omega) (by decide)
  exact⟨u,e2,h5,fun h7 h8=>(h6 h7 h8).1 (by omega)⟩
theorem leq_step {s:Sm}(hs:OkS s)(h1:1≤s.2.2.1){i:Int}(h0:0≤i)(hi:i≤s.2.1-1):F.R02_leq s (idP s.1).1 i=some (decide (i<s.2.1-1)):=by
 have hk:=hs.k
 have hf:=hs.f
 have e:idP s.1=((s.1,s.1,0,0,(0,0,0,0)),0):=by unfold idP stepP;rw[if_neg (by omega)]
 rw[e]
 unfold F.R02_leq F.R02_leq_j4 F.R02_leq_j3 F.R02_leq_j2 F.R02_leq_j1
 rw[A.gd1 ⟨by omega,by omega⟩]
 have c1:(s.2.1≤i)=False:=eq_false (by omega)
 have c2:(s.1≤i)=False:=eq_false (by omega)
 simp only[A.gd1 (show Z.R64 (s.1-1)from⟨by omega,by omega⟩),c1,c2,if_false,decide_false,Bool.cond_self,Bool.false_eq_true,ite_self]
 by_cases h2:i=s.2.1-1
 ·rw[if_pos h2,decide_eq_false (by omega),decide_eq_false (by omega)]
 ·rw[if_neg h2,decide_eq_true (by omega),decide_eq_true (by omega)]
theorem Leq_id {s:Sm}(hs:OkS s)(h1:1≤s.2.2.1):F.R02_Leq s (idP s.1).1=some false:=by
 have hk:=hs.k
 have hf:=hs.f
 have hn:=hs.n
 have hk0:=hs.k0
 have e:idP s.1=((s.1,s.1,0,0,(0,0,0,0)),0):=by unfold idP stepP;rw[if_neg (by omega)]
 have ho:OkS (idP s.1).1:=by
  rw[e]
  refine⟨by show 0≤s.1∧s.1≤4;omega,by show(0:Int)≤0∧(0:Int)≤4;omega,by show 0≤s.1∧s.1≤s.1;omega,by show s.1+0≤4;omega,by show(0:Int)≤0∧(0:Int)≤1048576;omega,fun _=>rfl,fun i x hx=>?_⟩
  have:x∈[(0:Int),0,0,0]:=List.mem_of_getElem? hx
  simp at this;subst this;omega
 have loop: ∀(n f:Nat) (i:Int),i+n=s.2.1-1→0≤i→n<f→F.R02_Leq_l1 s (idP s.1).1 f i=some false:=by
  intro n
  induction n with
  |zero=>
   intro f i h2 h3 h4
   obtain⟨f,rfl⟩: ∃f',f=f'+1:=⟨f-1,by omega⟩
   rw[F.R02_Leq_l1,A.gd1 ⟨by omega,by omega⟩,if_pos (by omega),show F.R02_leq (s.1,s.2.1,s.2.2.1,s.2.2.2.1,(s.2.2.2.2.1,s.2.2.2.2.2.1,s.2.2.2.2.2.2.1,s.2.2.2.2.2.2.2)) _ i=_ from leq_step hs h1 h3 (by omega),Option.bind_some,decide_eq_false (by omega)]
   rfl
  |succ n ih=>
   intro f i h2 h3 h4
   obtain⟨f,rfl⟩: ∃f',f=f'+1:=⟨f-1,by omega⟩
   rw[F.R02_Leq_l1,A.gd1 ⟨by omega,by omega⟩,if_pos (by omega),show F.R02_leq (s.1,s.2.1,s.2.2.1,s.2.2.2.1,(s.2.2.2.2.1,s.2.2.2.2.2.1,s.2.2.2.2.2.2.1,s.2.2.2.2.2.2.2)) _ i=_ from leq_step hs h1 h3 (by omega),Option.bind_some,decide_eq_true (by omega),if_neg (by decide),A.gd1 ⟨by omega,by omega⟩]
   exact ih f (i+1) (by omega) (by omega) (by omega)
 unfold F.R02_Leq
 rw[show F.R02_Check (s.1,s.2.1,s.2.2.1,s.2.2.2.1,(s.2.2.2.2.1,s.2.2.2.2.2.1,s.2.2.2.2.2.2.1,s.2.2.2.2.2.2.2))=some 0 from Check_ok hs,Option.bind_some,if_neg (fun h=>h rfl)]
 rw[show F.R02_Check ((idP s.1).1.1,(idP s.1).1.2.1,(idP s.1).1.2.2.1,(idP s.1).1.2.2.2.1,((idP s.1).1.2.2.2.2.1,(idP s.1).1.2.2.2.2.2.1,(idP s.1).1.2.2.2.2.2.2.1,(idP s.1).1.2.2.2.2.2.2.2))=some 0 from Check_ok ho,Option.bind_some]
 rw[A.gd1 ⟨fun _=>⟨by omega,by omega⟩,fun _=>by rw[e];exact⟨by show _≤s.1+0;omega,by show s.1+0≤_;omega⟩⟩]
 unfold F.R02_Leq_j2
 split
 ·rfl
 ·exact loop (s.2.1-1).toNat A.FU 0 (by omega) (by omega) (by have:=FU_big;omega)
end Go.Proofs.YtpdhaldfdeamdaaDoor
end
section
set_option linter.unusedVariables false
set_option linter.unusedSimpArgs false
set_option synthInstance.maxSize 1000000
set_option synthInstance.maxHeartbeats 400000
namespace Go.Proofs.YtpdhaldfdeamdaaDoor
open Go.RowKit Go.Graph
def RT {α:Type}(R:α→α→Prop)(a b:α):Prop:=a=b∨Rch R a b
theorem Rch.mono {α:Type}{R S:α→α→Prop}(h: ∀a b,R a b→S a b){a b:α}(hr:Rch R a b):Rch S a b:=by
 induction hr with
 |one h1=>exact .one (h _ _ h1)
 |step _ h1 ih=>exact .step ih (h _ _ h1)
theorem RT.mono {α:Type}{R S:α→α→Prop}(h: ∀a b,R a b→S a b){a b:α}(hr:RT R a b):RT S a b:=hr.imp id fun h2=>h2.mono h
theorem Rch.app {α:Type}{R:α→α→Prop}{a b c:α}(h1:Rch R a b)(h2:Rch R b c):Rch R a c:=by
 induction h2 with
 |one h=>exact .step h1 h
 |step _ h ih=>exact .step ih h
theorem RT.app {α:Type}{R:α→α→Prop}{a b c:α}(h1:RT R a b)(h2:Rch R b c):Rch R a c:=by
 rcases h1 with rfl|h1
 ·exact h2
 ·exact h1.app h2
theorem RT.app2 {α:Type}{R:α→α→Prop}{a b c:α}(h1:Rch R a b)(h2:RT R b c):Rch R a c:=by
 rcases h2 with rfl|h2
 ·exact h1
 ·exact h1.app h2
theorem RT.snoc {α:Type}{R:α→α→Prop}{a b c:α}(h1:RT R a b)(h2:R b c):Rch R a c:=RT.app h1 (.one h2)
structure Kd (s:Sm) (a b:Int) (up:Prop):Prop where
 from_:s.1=a
 ends:s.2.1+s.2.2.2.1=b
 kept:(s.2.1=a∧a≤b)∨(s.2.1=b∧b=a-1∧s.2.2.1=0)
 add0:0≤s.2.2.1
 addU:up→s.2.1=a∧s.2.2.1=1
theorem kd_id {x b:Int}(hx:0≤x∧x≤4)(h:F.R02_Ends (idP x).1=some b){up:Prop}(hu: ¬up):Kd (idP x).1 x b up:=by
 have h2:=EndsId x hx
 rw[h2.2]at h
 obtain rfl:=Option.some.inj h
 have e:idP x=((x,x,0,0,(0,0,0,0)),0):=by unfold idP stepP;rw[if_neg (by omega)]
 rw[e]
 exact⟨rfl,by show x+0=x;omega,.inl ⟨rfl,Int.le_refl _⟩,Int.le_refl _,fun h=>absurd h hu⟩
theorem kd_enter {x b:Int}(hx:0≤x∧x≤4)(h1:(enterP x).1.1=x)(h:F.R02_Ends (enterP x).1=some b){up:Prop}(hu: ¬up):Kd (enterP x).1 x b up:=by
 have h3:x≤3:=by
  by_cases h4:x≤3
  ·exact h4
  ·have e:enterP x=(z8,11):=by unfold enterP stepP;rw[if_pos (.inr (by omega))]
   rw[e]at h1
   have:(0:Int)=x:=h1
   omega
 have h2:=EndsEnter x hx h3
 rw[h2.2]at h
 obtain rfl:=Option.some.inj h
 have e:enterP x=((x,x,0,1,(0,0,0,0)),0):=by unfold enterP stepP;rw[if_neg (by omega)]
 rw[e]
 exact⟨rfl,rfl,.inl ⟨rfl,by omega⟩,Int.le_refl _,fun h=>absurd h hu⟩
theorem kd_leave {x b:Int}(hx:0≤x∧x≤4)(hx1:1≤x)(h:F.R02_Ends (leaveP x).1=some b){up:Prop}(hu: ¬up):Kd (leaveP x).1 x b up:=by
 have h2:=EndsLeave x hx hx1
 rw[h2.2]at h
 obtain rfl:=Option.some.inj h
 have e:leaveP x=((x,x-1,0,0,(0,0,0,0)),0):=by unfold leaveP stepP;rw[if_neg (by omega)]
 rw[e]
 exact⟨rfl,by show x-1+0=x-1;omega,.inr ⟨rfl,rfl,rfl⟩,Int.le_refl _,fun h=>absurd h hu⟩
theorem kd_next {x b:Int}(hx:0≤x∧x≤4)(hx1:1≤x)(h:F.R02_Ends (nextP x).1=some b){up:Prop}:Kd (nextP x).1 x b up:=by
 have h2:=EndsNext x hx hx1
 rw[h2.2]at h
 obtain rfl:=Option.some.inj h
 have e:nextP x=((x,x,1,0,(0,0,0,0)),0):=by unfold nextP stepP;rw[if_neg (by omega)]
 rw[e]
 exact⟨rfl,by show x+0=x;omega,.inl ⟨rfl,Int.le_refl _⟩,by show(0:Int)≤1;omega,fun _=>⟨rfl,rfl⟩⟩
theorem node_one {g:List Nd}(hi:Inc g){n m:Nd}(hn:n∈g)(hm:m∈g)(h:m.1=n.1):m=n:=by
 have h1:=(nodeAt hi hn ((0,0,[],(0,0,(ByteArray.mk #[])),(ByteArray.mk #[]),0,0):Nd)).2
 have h2:=(nodeAt hi hm ((0,0,[],(0,0,(ByteArray.mk #[])),(ByteArray.mk #[]),0,0):Nd)).2
 rw[h,h1]at h2
 injection h2 with h2
 exact h2.symm
theorem edge_kd {g:List Nd}{l d:List Int}{dm:List (Int×Int)}(W:Whole g l d dm){e:Ed}(he:e∈edges g d):
  ∃a b,(e.1,a)∈spots g d∧(e.2.1,b)∈spots g d∧Kd e.2.2 a b ((∃n∈g,n.1=e.1.1∧n.2.1=14)∧e.1.2≠2)∧∀n∈g,n.1=e.1.1→n.2.1=14→e.1.2≠2→a=n.2.2.2.2.2.2:=by
 obtain⟨j,n,hn,h15,h|h⟩:=edgesF_inv d 0 g e he
 ·obtain⟨k,z,hz,rfl⟩:=inE_inv g d n 0 n.2.2.1 e h
  have hng:=List.mem_of_getElem? hn
  have hfix:=W.fix hng
  have hidx:=W.inc.idx hn
  have h14x:n.2.1=14→iget d (idx g z)=n.2.2.2.2.2.2∧1≤iget d (idx g z):=fun h14=>by
   have hl:=W.lps
   rw[loopsF_any,Bool.not_eq_true']at hl
   have h1:=List.any_eq_false.1 hl n hng
   rw[decide_eq_true_iff,not_and]at h1
   have h2:=Classical.not_not.1 (h1 h14)
   have hlen:=own_len (W.own n hng)
   have hk:=(List.getElem?_eq_some_iff.1 hz).1
   obtain rfl:k=0:=by omega
   have hz0:iget n.2.2.1 0=z:=by unfold iget;show(n.2.2.1[0]?).getD 0=z;rw[hz];rfl
   rw[hz0]at h2
   refine⟨h2,?_⟩
   have hc:=own_c (W.own n hng)
   unfold ownC at hc
   rw[h2];omega
  have hw:=within_ends (n:=n) (L:=n.2.2.1.map (dOf g d)) (x:=iget d (idx g z)) (j:=k) (by rw[List.getElem?_map,hz];rfl) (W.own n hng) (by rw[List.length_map]) h15 (by rw[←hfix.1];exact hfix.2) (W.inb _) h14x
  obtain⟨hw1,hw2⟩:=hw
  rw[←hfix.1,dOf,hidx]at hw2
  refine⟨iget d (idx g z),iget d ((0+j:Nat):Int),spotsF_ins d 0 g n hng _ (insS_in g d n.1 0 n.2.2.1 k z hz),spotsF_outP d 0 g j n hn h15,?_,fun m hm hmn h14 _=>?_⟩
  ·rw[Nat.zero_add j]
   show Kd (withinP n (iget d (idx g z))) _ _ _
   have up14:((∃m∈g,m.1=n.1∧m.2.1=14)∧((0+k:Nat):Int)≠2)→n.2.1=14:=fun⟨⟨m,hm,h1,h2⟩,_⟩=>by rw[←node_one W.inc hng hm h1];exact h2
   unfold withinP at hw1 hw2 ⊢
   by_cases h12:n.2.1=12
   ·rw[if_pos h12]at hw1 hw2 ⊢
    exact kd_enter (W.inb _) hw1 hw2 fun hu=>by have:=up14 hu;omega
   rw[if_neg h12]at hw1 hw2 ⊢
   by_cases h13:n.2.1=13
   ·rw[if_pos h13]at hw1 hw2 ⊢
    have hx1:1≤iget d (idx g z):=by
     by_cases h1:1≤iget d (idx g z)
     ·exact h1
     ·have e:leaveP (iget d (idx g z))=(z8,11):=by unfold leaveP stepP;rw[if_pos (.inl (by omega))]
      have h0:=hfix.2
      have hlen:=own_len (W.own n hng)
      have hk:=(List.getElem?_eq_some_iff.1 hz).1
      obtain rfl:k=0:=by omega
      have hd0:d0 (n.2.2.1.map (dOf g d))=iget d (idx g z):=by
       rw[←d0_iget];unfold iget;show((n.2.2.1.map (dOf g d))[0]?).getD 0=_;rw[List.getElem?_map,hz];rfl
      have hx:=W.inb (idx g z)
      rw[hfix.1]at h0
      unfold depthOf depthA capd at h0
      rw[if_neg (by omega),if_neg h12,if_pos h13,hd0]at h0
      split at h0<;>omega
    exact kd_leave (W.inb _) hx1 hw2 fun hu=>by have:=up14 hu;omega
   rw[if_neg h13]at hw1 hw2 ⊢
   by_cases h14:n.2.1=14
   ·rw[if_pos h14]at hw1 hw2 ⊢
    exact kd_next (W.inb _) (h14x h14).2 hw2
   ·rw[if_neg h14]at hw1 hw2 ⊢
    exact kd_id (W.inb _) hw2 fun hu=>h14 (up14 hu)
  ·obtain rfl:=node_one W.inc hng hm hmn
   exact(h14x h14).1
 ·unfold outE at h
  obtain⟨u,hu,rfl⟩:=List.mem_map.1 h
  obtain⟨m,hm,k,rfl,hk⟩:=usesF_inv n.1 g u hu
  have hidx:=W.inc.idx hn
  have h1:=insS_in g d m.1 0 m.2.2.1 k n.1 hk
  rw[hidx,Nat.zero_add]at h1
  have h2:=spotsF_outP (g:=g) d 0 g j n hn h15
  rw[Nat.zero_add]at h2 ⊢
  have h3:=EndsId (iget d (j:Int)) (W.inb _)
  exact⟨iget d (j:Int),iget d (j:Int),h2,spotsF_ins d 0 g m hm _ h1,kd_id (W.inb _) h3.2 fun hu=>hu.2 rfl,fun _ _ _ _ h=>absurd rfl h⟩
abbrev Dp (g:List Nd) (d:List Int) (p:Pl):Int:=Z.mget 0 (spots g d) p
def okW (g:List Nd)(d:List Int)(m:Int)(p q:Pl):Prop:=∃e∈edges g d,e.1=p∧e.2.1=q∧m≤Dp g d p∧m≤Dp g d q
structure Wy0 (g:List Nd) (d:List Int) (p0 pk:Pl) (s:Sm):Prop where
 from_:s.1=Dp g d p0
 ends:s.2.1+s.2.2.2.1=Dp g d pk
 low:s.2.1≤Dp g d p0∧s.2.1≤Dp g d pk
 add0:0≤s.2.2.1
 way:RT (okW g d s.2.1) p0 pk
 turn:1≤s.2.2.1∨∃q,(q,s.2.1)∈spots g d∧RT (okE g (spots g d) (edges g d) s.2.1) p0 q∧RT (okE g (spots g d) (edges g d) s.2.1) q pk
structure Wy (g:List Nd) (d:List Int) (p0 pk:Pl) (s:Sm):Prop where
 weak:Wy0 g d p0 pk s
 turn:1≤s.2.2.1∨∃q,(q,s.2.1)∈spots g d∧RT (okE g (spots g d) (edges g d) s.2.1) p0 q∧RT (okE g (spots g d) (edges g d) s.2.1) q pk∧(Rch (okE g (spots g d) (edges g d) s.2.1) p0 q∨Rch (okE g (spots g d) (edges g d) s.2.1) q pk)
theorem Wy.mk' {g:List Nd}{d:List Int}{p0 pk:Pl}{s:Sm}(h1:s.1=Dp g d p0)(h2:s.2.1+s.2.2.2.1=Dp g d pk)(h3:s.2.1≤Dp g d p0∧s.2.1≤Dp g d pk)(h4:0≤s.2.2.1)(h5:RT (okW g d s.2.1) p0 pk)
  (h6:1≤s.2.2.1∨∃q,(q,s.2.1)∈spots g d∧RT (okE g (spots g d) (edges g d) s.2.1) p0 q∧RT (okE g (spots g d) (edges g d) s.2.1) q pk∧(Rch (okE g (spots g d) (edges g d) s.2.1) p0 q∨Rch (okE g (spots g d) (edges g d) s.2.1) q pk)):Wy g d p0 pk s:=
 ⟨⟨h1,h2,h3,h4,h5,h6.imp id fun⟨q,a,b,c,_⟩=>⟨q,a,b,c⟩⟩,h6⟩
theorem okW_E {g:List Nd}{l d:List Int}{dm:List (Int×Int)}(W:Whole g l d dm){m m2:Int}(hm:m<m2){p q:Pl}(h:okW g d m2 p q):okE g (spots g d) (edges g d) m p q:=by
 obtain⟨e,he,h1,h2,h3,h4⟩:=h
 rw[ok_iff W.inc W.own]
 refine⟨⟨e,he,h1,h2⟩,by show m≤Dp g d q;omega,?_⟩
 by_cases h5:p.2=2
 ·exact .inr h5
 ·left
  intro hb
  obtain⟨n,hn,hne⟩:=edge_from d he
  obtain⟨a,b,ha,_,_,hD⟩:=edge_kd W he
  have hN:=nodup_S (d:=d) W.inc W.own
  have hpa:Dp g d p=a:=by rw[←h1];exact mget_mem hN ha
  obtain⟨hb1,hb2⟩:=hb
  rw[←h1,hne,(nodeAt W.inc hn _).1]at hb1 hb2
  have:=hD n hn hne.symm hb1 (by rw[h1];exact h5)
  omega
theorem way_step {g:List Nd}{l d:List Int}{dm:List (Int×Int)}(W:Whole g l d dm){p0 pk:Pl}{s s':Sm}(h:Wy0 g d p0 pk s){e:Ed}(he:e∈edges g d)(hpk:e.1=pk)(ht:Th s e.2.2 s'):Wy g d p0 e.2.1 s':=by
 obtain⟨a,b,ha,hb,K,hD⟩:=edge_kd W he
 have hN:=nodup_S (d:=d) W.inc W.own
 have ea:Dp g d pk=a:=by rw[←hpk];exact mget_mem hN ha
 have eb:Dp g d e.2.1=b:=mget_mem hN hb
 obtain⟨f1,f2,⟨f3,f4⟩,f5,f6,f7⟩:=h
 obtain⟨t1,t2,t3,t4⟩:=ht
 obtain⟨k1,k2,k3,k4,k5⟩:=K
 obtain⟨n,hn,hne⟩:=edge_from d he
 have hblk: ∀m:Int,blk g m pk→pk.2≠2→e.2.2.2.1=a∧e.2.2.2.2.1=1∧a=m:=fun m hb h2=>by
  obtain⟨hb1,hb2⟩:=hb
  rw[←hpk,hne,(nodeAt W.inc hn _).1]at hb1 hb2
  have h2':e.1.2≠2:=by rw[hpk];exact h2
  obtain⟨h3,h4⟩:=k5 ⟨⟨n,hn,hne.symm,hb1⟩,h2'⟩
  exact⟨h3,h4,(hD n hn hne.symm hb1 h2').trans hb2⟩
 have hok: ∀m:Int,m≤b→(blk g m pk→pk.2≠2→False)→okE g (spots g d) (edges g d) m pk e.2.1:=fun m hm hno=>by
  rw[ok_iff W.inc W.own]
  refine⟨⟨e,he,hpk,rfl⟩,by show m≤Dp g d e.2.1;omega,?_⟩
  by_cases h2:pk.2=2
  ·exact .inr h2
  ·exact .inl fun hb=>hno hb h2
 by_cases hk:s.2.1≤e.2.2.2.1
 ·have e2:s'.2.1=s.2.1:=by rw[t2];omega
  have hb2:s.2.1≤b:=by rcases k3 with⟨h1,h2⟩|⟨h1,_⟩<;>omega
  rw[if_pos hk]at t3
  have add1:s'.2.2.1=s.2.2.1+(if e.2.2.2.1≤s.2.1 then e.2.2.2.2.1 else 0):=t3
  have add2:s.2.2.1≤s'.2.2.1:=by rw[add1];split<;>omega
  refine .mk' (by rw[t1,f1]) (by rw[t4,k2,eb]) (by rw[e2,eb];exact⟨f3,hb2⟩) (by omega) ?_ ?_
  ·rw[e2];exact .inr (RT.snoc f6 ⟨e,he,hpk,rfl,by omega,by omega⟩)
  ·by_cases h1:1≤s'.2.2.1
   ·exact .inl h1
   ·obtain⟨q,q1,q2,q3⟩:=f7.resolve_left (by omega)
    have hst:=hok s.2.1 hb2 fun hb h2=>by
     obtain⟨u1,u2,u3⟩:=hblk _ hb h2
     rw[if_pos (by omega)]at add1;omega
    rw[e2]
    exact .inr ⟨q,q1,q2,.inr (RT.snoc q3 hst),.inr (RT.snoc q3 hst)⟩
 ·have hlt:e.2.2.2.1<s.2.1:=by omega
  obtain⟨u1,u2,u3⟩:=k3.resolve_left fun h=>by omega
  have e2:s'.2.1=b:=by rw[t2];omega
  rw[if_neg hk]at t3
  have add1:s'.2.2.1=0:=by rw[t3,if_pos (by omega)];show 0+e.2.2.2.2.1=0;omega
  have hst:=hok b (Int.le_refl _) fun hb h2=>by have:=(hblk _ hb h2).2.2;omega
  have hway:RT (okE g (spots g d) (edges g d) b) p0 pk:=f6.mono fun x y h=>okW_E W (by omega) h
  refine .mk' (by rw[t1,f1]) (by rw[t4,k2,eb]) (by rw[e2,eb];exact⟨by omega,Int.le_refl _⟩) (by omega) ?_ (.inr ⟨e.2.1,by rw[e2];exact hb,?_,.inl rfl,.inl ?_⟩)
  ·rw[e2]
   exact .inr (RT.snoc (f6.mono fun x y ⟨e3,h1,h2,h3,h4,h5⟩=>⟨e3,h1,h2,h3,by omega,by omega⟩) ⟨e,he,hpk,rfl,by omega,by omega⟩)
  ·rw[e2];exact .inr (RT.snoc hway hst)
  ·rw[e2];exact RT.snoc hway hst
theorem way_first {g:List Nd}{l d:List Int}{dm:List (Int×Int)}(W:Whole g l d dm){p:Pl}{e:Ed}(he:e∈edges g d)(hp:e.1=p):Wy g d p e.2.1 e.2.2:=by
 obtain⟨a,b,ha,hb,K,_⟩:=edge_kd W he
 have hN:=nodup_S (d:=d) W.inc W.own
 rw[hp]at ha
 have ea:Dp g d p=a:=mget_mem hN ha
 obtain⟨k1,k2,k3,k4,k5⟩:=K
 have hka:e.2.2.2.1≤a:=by omega
 refine way_step W (s:=(a,a,0,0,(0,0,0,0))) ⟨ea.symm,by rw[ea];show a+0=a;omega,by rw[ea];exact⟨Int.le_refl _,Int.le_refl _⟩,Int.le_refl _,.inl rfl,.inr ⟨p,ha,.inl rfl,.inl rfl⟩⟩ he hp ⟨k1,?_,?_,rfl⟩
 ·show e.2.2.2.1=min a e.2.2.2.1;omega
 ·show e.2.2.2.2.1=(if a≤e.2.2.2.1 then 0 else 0)+(if e.2.2.2.1≤a then e.2.2.2.2.1 else 0)
  rw[if_pos hka,ite_self,Int.zero_add]
theorem way_turn {g:List Nd}{l d:List Int}{dm:List (Int×Int)}(W:Whole g l d dm){p0:Pl}{s:Sm}(h:Wy g d p0 p0 s):1≤s.2.2.1:=by
 rcases h.turn with h1|⟨q,h1,h2,h3,h4⟩
 ·exact h1
 ·refine absurd ?_ (W.nort (q,s.2.1) h1)
  rcases h4 with h4|h4
  ·exact RT.app h3 h4
  ·exact RT.app2 h4 h2
end Go.Proofs.YtpdhaldfdeamdaaDoor
end
section
set_option linter.unusedVariables false
set_option linter.unusedSimpArgs false
set_option synthInstance.maxSize 1000000
set_option synthInstance.maxHeartbeats 400000
namespace Go.Proofs.YtpdhaldfdeamdaaDoor
open Go.RowKit Go.Graph
theorem okS_id {d:Int}(h:0≤d∧d≤4):OkS (idP d).1:=by
 have e:idP d=((d,d,0,0,(0,0,0,0)),0):=by unfold idP stepP;rw[if_neg (by omega)]
 rw[e]
 refine⟨h,by show(0:Int)≤0∧(0:Int)≤4;omega,⟨h.1,Int.le_refl _⟩,by show d+0≤4;omega,by show(0:Int)≤0∧(0:Int)≤1048576;omega,fun _=>rfl,fun i x hx=>?_⟩
 have:x∈[(0:Int),0,0,0]:=List.mem_of_getElem? hx
 simp at this;subst this;omega
theorem okS_z:OkS z8:=by
 refine⟨by decide,by decide,by decide,by decide,by decide,fun _=>rfl,fun i x hx=>?_⟩
 have:x∈[(0:Int),0,0,0]:=List.mem_of_getElem? hx
 simp at this;subst this;omega
theorem okS_within (n:Nd){d:Int}(h:0≤d∧d≤4):OkS (withinP n d):=by
 unfold withinP
 have st: ∀(a b:Int) (s:Sm),(¬(d<a∨b<d)→OkS (d,s.2))→OkS (stepP d a b s).1:=fun a b s h=>by
  unfold stepP
  split
  ·exact okS_z
  ·rename_i h1;exact h h1
 have z4: ∀(i:Nat) (x:Int),[(0:Int),0,0,0][i]?=some x→x=0:=fun i x hx=>by
  have:x∈[(0:Int),0,0,0]:=List.mem_of_getElem? hx
  simpa using this
 split
 ·exact st _ _ _ fun h1=>⟨h,by show(0:Int)≤1∧(1:Int)≤4;omega,⟨h.1,Int.le_refl _⟩,by show d+1≤4;omega,by show(0:Int)≤0∧(0:Int)≤1048576;omega,fun _=>rfl,fun i x hx=>by have:=z4 i x hx;subst this;omega⟩
 ·(split)
  ·exact st _ _ _ fun h1=>⟨h,by show(0:Int)≤0∧(0:Int)≤4;omega,⟨by show 0≤d-1;omega,by show d-1≤d;omega⟩,by show d-1+0≤4;omega,by show(0:Int)≤0∧(0:Int)≤1048576;omega,fun _=>rfl,fun i x hx=>by have:=z4 i x hx;subst this;omega⟩
  ·(split)
   ·exact st _ _ _ fun h1=>⟨h,by show(0:Int)≤0∧(0:Int)≤4;omega,⟨h.1,Int.le_refl _⟩,by show d+0≤4;omega,by show(0:Int)≤1∧(1:Int)≤1048576;omega,fun h2=>by have h2:d=0:=h2;omega,fun i x hx=>by have:=z4 i x hx;subst this;omega⟩
   ·exact okS_id h
theorem okS_edge {g:List Nd}{d:List Int}(hd:InB d){e:Ed}(he:e∈edges g d):OkS e.2.2:=by
 obtain⟨j,n,hn,h15,h|h⟩:=edgesF_inv d 0 g e he
 ·obtain⟨k,z,hz,rfl⟩:=inE_inv g d n 0 n.2.2.1 e h
  exact okS_within n (hd _)
 ·unfold outE at h
  obtain⟨u,hu,rfl⟩:=List.mem_map.1 h
  exact okS_id (hd _)
theorem leq_wit {u t:Tm}{i x y:Int}(hi:0≤i∧i<4)(ht:A.ix (tms t) i=some x)(hu:A.ix (tms u) i=some y)(h:x<y):F.L08_leq u t=some false:=by
 have loop: ∀(n f:Nat) (k:Int),k+n=i→0≤k→n<f→F.L08_leq_l1 u t f k=some false:=by
  intro n
  induction n with
  |zero=>
   intro f k h1 h2 h3
   obtain⟨f,rfl⟩: ∃f',f=f'+1:=⟨f-1,by omega⟩
   obtain rfl:k=i:=by omega
   rw[F.L08_leq_l1,if_pos (by omega),show A.ix [u.2.2.1,u.2.2.2.1,u.2.2.2.2.1,u.2.2.2.2.2] k=some y from hu,Option.bind_some,show A.ix [t.2.2.1,t.2.2.2.1,t.2.2.2.2.1,t.2.2.2.2.2] k=some x from ht,Option.bind_some,if_pos h]
  |succ n ih=>
   intro f k h1 h2 h3
   obtain⟨f,rfl⟩: ∃f',f=f'+1:=⟨f-1,by omega⟩
   obtain⟨a,ha,_⟩:=ix4 (a:=u.2.2.1) (b:=u.2.2.2.1) (c:=u.2.2.2.2.1) (d:=u.2.2.2.2.2) (i:=k) (by omega)
   obtain⟨b,hb,_⟩:=ix4 (a:=t.2.2.1) (b:=t.2.2.2.1) (c:=t.2.2.2.2.1) (d:=t.2.2.2.2.2) (i:=k) (by omega)
   rw[F.L08_leq_l1,if_pos (by omega),ha,Option.bind_some,hb,Option.bind_some]
   split
   ·rfl
   ·rw[A.gd1 ⟨by omega,by omega⟩];exact ih f (k+1) (by omega) (by omega) (by omega)
 exact loop i.toNat A.FU 0 (by omega) (by omega) (by have:=FU_big;omega)
section
variable {k17:Int→Int→Int→Int→Int→Int→Int→Int→Int→Int→Int→Int→Int→Int→Int→Int→Int→Option Bool}
theorem on_l4 {y60:Int}{x:Ed}{s:Sm}(hs:OkS s)(h1:1≤s.2.2.1)(h60:0≤y60∧y60≤1000)
  (hk: ∀a b c d e f,k17 a b c d e f x.2.1.1 x.2.1.2 s.1 s.2.1 s.2.2.1 s.2.2.2.1 s.2.2.2.2.1 s.2.2.2.2.2.1 s.2.2.2.2.2.2.1 s.2.2.2.2.2.2.2 (y60+1)=some true):
  ∀(n f:Nat) (a b c d e g y:Int),y+n=4→0≤y→n<f→F.L08_GraphOn_l4 k17 y60 x s.1 s.2.1 s.2.2.1 s.2.2.2.1 s.2.2.2.2.1 s.2.2.2.2.2.1 s.2.2.2.2.2.2.1 s.2.2.2.2.2.2.2 f a b c d e g y=some true:=by
 intro n
 induction n with
 |zero=>
  intro f a b c d e g y h2 h3 h4
  obtain⟨f,rfl⟩: ∃f',f=f'+1:=⟨f-1,by omega⟩
  have hk1:=hs.k
  have hf1:=hs.f
  have hk0:=hs.k0
  obtain⟨u,r,h5,h6⟩:=Apply_ok hs (a,b,(c,d,e,g))
  have fin:F.L08_GraphOn_j3 k17 y60 x s.1 s.2.1 s.2.2.1 s.2.2.2.1 s.2.2.2.2.1 s.2.2.2.2.2.1 s.2.2.2.2.2.2.1 s.2.2.2.2.2.2.2 a b c d e g false=some true:=by
   unfold F.L08_GraphOn_j3 F.L08_GraphOn_j1
   rw[if_neg (by decide),A.gd1 ⟨by omega,by omega⟩];exact hk _ _ _ _ _ _
  rw[F.L08_GraphOn_l4,if_neg (by omega),show F.R02_Apply (s.1,s.2.1,s.2.2.1,s.2.2.2.1,(s.2.2.2.2.1,s.2.2.2.2.2.1,s.2.2.2.2.2.2.1,s.2.2.2.2.2.2.2)) (a,b,(c,d,e,g))=_ from h5,Option.bind_some,Id_eqR s.1 hf1,Option.bind_some]
  rw[show F.R02_Leq (s.1,s.2.1,s.2.2.1,s.2.2.2.1,(s.2.2.2.2.1,s.2.2.2.2.2.1,s.2.2.2.2.2.2.1,s.2.2.2.2.2.2.2)) ((idP s.1).1.1,(idP s.1).1.2.1,(idP s.1).1.2.2.1,(idP s.1).1.2.2.2.1,((idP s.1).1.2.2.2.2.1,(idP s.1).1.2.2.2.2.2.1,(idP s.1).1.2.2.2.2.2.2.1,(idP s.1).1.2.2.2.2.2.2.2))=some false from Leq_id hs h1,Option.bind_some,if_neg (by decide)]
  by_cases hr:r=0
  ·rw[if_pos hr]
   obtain⟨z,h7,h8⟩:=h6 hr (by omega)
   rw[show F.L08_leq (u.1,u.2.1,(u.2.2.1,u.2.2.2.1,u.2.2.2.2.1,u.2.2.2.2.2)) (a,b,(c,d,e,g))=some false from leq_wit (by omega) h7 h8 (by omega),Option.bind_some]
   exact fin
  ·rw[if_neg hr];exact fin
 |succ n ih=>
  intro f a b c d e g y h2 h3 h4
  obtain⟨f,rfl⟩: ∃f',f=f'+1:=⟨f-1,by omega⟩
  obtain⟨z,hz,_⟩:=ix4 (a:=c) (b:=d) (c:=e) (d:=g) (i:=y) (by omega)
  rw[F.L08_GraphOn_l4,if_pos (by omega),hz,Option.bind_some,A.gd1 ⟨by omega,by omega⟩]
  exact ih f a b _ _ _ _ (y+1) (by omega) (by omega) (by omega)
end
theorem tmod_in {α:Type}{xs:List α}(h:(xs.length:Int)≠0)(b:UInt8): ∃x,A.ix xs (Int.tmod (b.toNat:Int) (xs.length:Int))=some x∧x∈xs:=by
 have e:Int.tmod (b.toNat:Int) (xs.length:Int)=((b.toNat%xs.length:Nat):Int):=by rw[Int.tmod_eq_emod_of_nonneg (by omega)];rfl
 have hl:b.toNat%xs.length<xs.length:=Nat.mod_lt _ (by omega)
 rw[e]
 exact⟨_,A.ixn (List.getElem?_eq_getElem hl),List.getElem_mem hl⟩
theorem on_l6 {k17:Int→Int→Int→Int→Int→Int→Int→Int→Int→Int→Int→Int→Int→Int→Int→Int→Int→Option Bool}(E:List Ed)(hE:E.length≤1000000)(e0:Int)(x17:Ed)(a b c d e f:Int)(p:Pl)(s:Sm)(y60:Int)(x96:UInt8)
  (hx: ∀x∈E,x.1=p→(if y60=0 then(F.L08_GraphOn_j5 k17 x17 a b c d e f y60 x x.2.2.1 x.2.2.2.1 x.2.2.2.2.1 x.2.2.2.2.2.1 x.2.2.2.2.2.2.1 x.2.2.2.2.2.2.2.1 x.2.2.2.2.2.2.2.2.1 x.2.2.2.2.2.2.2.2.2)else((F.R02_Then s x.2.2).bind fun r189=>(if r189.2≠0 then(some true)else(F.L08_GraphOn_j5 k17 x17 a b c d e f y60 x r189.1.1 r189.1.2.1 r189.1.2.2.1 r189.1.2.2.2.1 r189.1.2.2.2.2.1 r189.1.2.2.2.2.2.1 r189.1.2.2.2.2.2.2.1 r189.1.2.2.2.2.2.2.2))))=some true):
  F.L08_GraphOn_l6 k17 (E,e0) x17 a b c d e f p.1 p.2 s.1 s.2.1 s.2.2.1 s.2.2.2.1 s.2.2.2.2.1 s.2.2.2.2.2.1 s.2.2.2.2.2.2.1 s.2.2.2.2.2.2.2 y60 x96 A.FU [] 0=some true:=
 A.lp E (fun g (xs:List Ed) z=>F.L08_GraphOn_l6 k17 (E,e0) x17 a b c d e f p.1 p.2 s.1 s.2.1 s.2.2.1 s.2.2.2.1 s.2.2.2.2.1 s.2.2.2.2.2.1 s.2.2.2.2.2.2.1 s.2.2.2.2.2.2.2 y60 x96 g xs z) (fun _ _ _=>some true) (fun k xs=>xs.length≤k∧∀x∈xs,x∈E∧x.1=p)
  (fun g xs hp=>by
   rw[F.L08_GraphOn_l6,if_neg (by show ¬(E.length:Int)<(E.length:Int);omega)]
   by_cases h0:(xs.length:Int)=0
   ·rw[if_pos h0]
   rw[if_neg h0,A.gd1 ⟨⟨by omega,by have:=x96.toNat_lt;omega⟩,h0⟩]
   obtain⟨x,h1,h2⟩:=tmod_in h0 x96
   rw[h1,Option.bind_some]
   exact hx x (hp.2 x h2).1 (hp.2 x h2).2)
  (fun g xs k x hk hlt hp ih=>by
   have hk1:A.ix E (k:Int)=some x:=A.ixn hk
   rw[F.L08_GraphOn_l6,if_pos (by show(k:Int)<(E.length:Int);omega),show A.ix ((E,e0):List Ed×Int).1 (k:Int)=some x from hk1,Option.bind_some]
   have hr:Z.R64 ((k:Int)+1):=A.r64n (by omega)
   by_cases hp2:(x.1.1,x.1.2)=(p.1,p.2)
   ·rw[if_pos hp2,A.gd1 (by rw[List.length_singleton];have:=hp.1;omega)]
    unfold F.L08_GraphOn_j2
    rw[A.gd1 hr]
    refine ih _ ⟨by rw[List.length_append,List.length_singleton];have:=hp.1;omega,fun z hz=>?_⟩
    rcases List.mem_append.1 hz with hz|hz
    ·exact hp.2 z hz
    ·rw[List.mem_singleton]at hz
     subst hz
     exact⟨List.mem_of_getElem? hk,hp2⟩
   ·rw[if_neg hp2]
    unfold F.L08_GraphOn_j2
    rw[A.gd1 hr]
    exact ih _ ⟨by have:=hp.1;omega,hp.2⟩)
  (by have:=FU_big;omega) [] ⟨by simp,fun x hx=>by cases hx⟩
theorem on_l7 {g:List Nd}{l d:List Int}{dm:List (Int×Int)}(W:Whole g l d dm)(hE:(edges g d).length≤1000000)(e0:Int)(x17:Ed)(h17:x17∈edges g d)(a1:List UInt8)
  (hL:(List.take ((min (a1.length:Int) 200).toNat) a1).length≤200): ∀(n f i:Nat),i+n=(List.take ((min (a1.length:Int) 200).toNat) a1).length→n<f→∀(a b c dd e ff:Int) (p:Pl) (s:Sm),((i=0∧p=x17.1)∨(1≤i∧Wy g d x17.1 p s∧OkS s))→
  F.L08_GraphOn_l7 a1 (edges g d,e0) x17 f a b c dd e ff p.1 p.2 s.1 s.2.1 s.2.2.1 s.2.2.2.1 s.2.2.2.2.1 s.2.2.2.2.2.1 s.2.2.2.2.2.2.1 s.2.2.2.2.2.2.2 (i:Int)=some true:=by
 intro n
 induction n with
 |zero=>
  intro f i h1 h2 a b c dd e ff p s hI
  obtain⟨f,rfl⟩: ∃f',f=f'+1:=⟨f-1,by omega⟩
  rw[F.L08_GraphOn_l7,if_neg (by omega)]
 |succ n ih0=>
  intro f i h1 h2 a b c dd e ff p s hI
  obtain⟨f,rfl⟩: ∃f',f=f'+1:=⟨f-1,by omega⟩
  have hlt:i<(List.take ((min (a1.length:Int) 200).toNat) a1).length:=by omega
  rw[F.L08_GraphOn_l7,if_pos (by omega),A.ixn (List.getElem?_eq_getElem hlt),Option.bind_some]
  refine on_l6 (edges g d) hE e0 x17 a b c dd e ff p s i _ fun x hx hxp=>?_
  have ih:=ih0 f (i+1) (by omega) (by omega)
  have hr:Z.R64 ((i:Int)+1):=A.r64n (by omega)
  have ho:=okS_edge W.inb hx
  have step: ∀s':Sm,Wy g d x17.1 x.2.1 s'→OkS s'→F.L08_GraphOn_j5 (F.L08_GraphOn_l7 a1 (edges g d,e0) x17 f) x17 a b c dd e ff (i:Int) x s'.1 s'.2.1 s'.2.2.1 s'.2.2.2.1 s'.2.2.2.2.1 s'.2.2.2.2.2.1 s'.2.2.2.2.2.2.1 s'.2.2.2.2.2.2.2=some true:=fun s' hw hs'=>by
   unfold F.L08_GraphOn_j5
   by_cases hc:(x.2.1.1,x.2.1.2)≠(x17.1.1,x17.1.2)
   ·rw[if_pos hc]
    unfold F.L08_GraphOn_j1
    rw[A.gd1 hr]
    exact ih _ _ _ _ _ _ x.2.1 s' (.inr ⟨by omega,hw,hs'⟩)
   ·rw[if_neg hc]
    have hc:x.2.1=x17.1:=Classical.not_not.1 hc
    have hf:=hs'.f
    refine on_l4 hs' (way_turn W (by rw[hc]at hw;exact hw)) (by omega) (fun a b c dd e ff=>ih _ _ _ _ _ _ x.2.1 s' (.inr ⟨by omega,hw,hs'⟩)) (4-s'.1).toNat A.FU _ _ _ _ _ _ _ (by omega) hf.1 (by have:=FU_big;omega)
  rcases hI with⟨h0,rfl⟩|⟨h0,hw,hs⟩
  ·rw[if_pos (by omega)]
   exact step x.2.2 (way_first W hx hxp) ho
  ·rw[if_neg (by omega)]
   obtain⟨s',r,h3,h4⟩:=Then_ok hs ho
   rw[h3,Option.bind_some]
   by_cases hr:r≠0
   ·rw[if_pos hr]
   ·rw[if_neg hr]
    obtain⟨h5,h6⟩:=h4 (Classical.not_not.1 hr)
    exact step s' (way_step W hw.weak hx hxp h6) h5
theorem begunN:F.L08_begun=some true:=by kernel_rfl
theorem edges_law (g:List Nd)(hb:Few g):(∃x e,e≠0∧F.graph_Edges g=some (x,e))∨∃l d dm,F.graph_Edges g=some (edges g d,0)∧Whole g l d dm∧(edges g d).length≤1000000:=by
 have hlen:=hb.1
 unfold F.graph_Edges
 rcases whole_same g hb with⟨e,h0,w1,w2⟩|⟨l,d,dm,w1,w2,W⟩
 ·rw[w1]
  simp only[Option.bind_some,A.om,if_pos h0]
  exact .inl ⟨[],e,h0,rfl⟩
 ·right
  have h3: ∀n∈g,n.2.2.1.length≤2:=fun n hn=>in2 W.own hn
  have he:(edges g d).length≤1000000:=Nat.le_trans (edgesF_len g d 0 g (by omega) h3 h3) (by omega)
  have hod:Od (edges g d):=edgesF_od g d W.inc 0 g W.inc h3
  refine⟨l,d,dm,?_,W,he⟩
  rw[w1]
  simp only[Option.bind_some,A.om,ne_eq,not_true_eq_false,if_false]
  rw[edgesP_eq g d _ hb W.fed W.own W.inb W.rel,Option.bind_some,sorted_eq hod he];rfl
theorem graphOn_plain {P Q:Prop}(g:List Nd)(a1:List UInt8)(t:Tm)(hg:(Z.Ty.slice T32).ok g)(_:P)(_:Q):F.L08_GraphOn g a1 t=some true:=by
 obtain⟨b,hf,hb⟩:=few_eq g
 have hsz: ∀x∈g,x.2.2.2.2.1.size≤9223372036854775807∧x.2.2.2.1.2.2.size≤9223372036854775807:=fun x hx=>by
  obtain⟨_,_,_,⟨_,_,hS⟩,hN,_,_⟩:=hg.2 x hx
  exact⟨hN,hS⟩
 unfold F.L08_GraphOn
 have out: ∀r:List Ed×Int,(F.L08_GraphOn_j8 a1 t r true)=some true:=fun r=>by
  unfold F.L08_GraphOn_j8;rw[if_pos rfl,begunN];rfl
 rcases whole_all g hsz with hF|⟨e,h0,hw⟩
 ·rcases edges_law g hF with⟨x,e,h0,h1⟩|⟨l,d,dm,h1,W,hE⟩
  ·rw[h1,Option.bind_some,begunN,Option.bind_some,if_neg (by decide),hf,Option.bind_some]
   simp only[decide_eq_true h0]
   cases b<;>exact out _
  ·rw[h1,Option.bind_some,begunN,Option.bind_some,if_neg (by decide),hf,Option.bind_some]
   cases b with
   |false=>exact out _
   |true=>
    by_cases hl:((edges g d).length:Int)=0
    ·simp only[hl,decide_true];exact out _
    by_cases ha:(a1.length:Int)=0
    ·simp only[ha,decide_true]
     cases decide (((edges g d).length:Int)=0)<;>exact out _
    simp only[hl,ha,decide_false,Bool.not_true,cond_false,ne_eq,not_true_eq_false]
    unfold F.L08_GraphOn_j8
    rw[if_neg (by decide)]
    obtain⟨z,hz⟩: ∃z,A.ix a1 0=some z:=⟨a1[0]'(by omega),A.ixn (k:=0) (List.getElem?_eq_getElem (by omega))⟩
    obtain⟨x,h2,h3⟩:=tmod_in hl z
    rw[hz,Option.bind_some,A.gd1 ⟨⟨by omega,by have:=z.toNat_lt;omega⟩,hl⟩,h2,Option.bind_some,A.gd1 ⟨by omega,by omega⟩]
    exact on_l7 W hE 0 x h3 a1 (by rw[List.length_take];omega) (List.take ((min (a1.length:Int) 200).toNat) a1).length A.FU 0 (Nat.zero_add _) (by rw[List.length_take];have:=FU_big;omega) _ _ _ _ _ _ x.1 (0,0,0,0,(0,0,0,0)) (.inl ⟨rfl,rfl⟩)
 ·unfold F.graph_Edges
  rw[hw]
  simp only[Option.bind_some,A.om,if_pos h0,begunN,hf]
  rw[if_neg (by decide)]
  simp only[decide_eq_true h0]
  cases b<;>exact out _
end Go.Proofs.YtpdhaldfdeamdaaDoor
end
section
namespace Go.Z
open Go.RowKit
def OpenT (P:Program)(T:TypeId)(t:Ty):Prop:=
 P.cellsOf T=t.size∧∀(H:Type) (enc:TypeId×Value→H) (w:World) (base:Nat) (spare:Nat→Bool) (held:Bool) (fuel:Nat) (cs:List Value) (x:DataW H×List MemPlace),
  DataW.trod enc P w base spare held fuel T cs=some x→∃y:t.den,t.rep w (nt []) cs y
section
variable {P:Program}{T e:TypeId}
theorem ot_int {k:IntKind}(hc:P.cellsOf T=1)(ht:P.underlying T=some (.int k)):OpenT P T (.int k):=⟨hc,fun H enc w base spare held fuel cs x h=>by
 obtain⟨n,rfl,_,hw⟩:=DataW.trod_int ht h
 refine⟨n,rfl,?_⟩
 simp only[Lit.wf,Bool.and_eq_true,decide_eq_true_eq]at hw
 exact hw⟩
theorem ot_byte (hc:P.cellsOf T=1)(ht:P.underlying T=some (.int .u8)):OpenT P T .byte:=⟨hc,fun H enc w base spare held fuel cs x h=>by
 obtain⟨n,rfl,_,hw⟩:=DataW.trod_int ht h
 simp[Lit.wf,IntKind.min,IntKind.max,IntKind.signed,IntKind.bits]at hw
 exact⟨UInt8.ofNat n.toNat,congrArg (fun z=>[Value.int .u8 z]) (u8_of (by omega))⟩⟩
theorem ot_str (hc:P.cellsOf T=1)(ht:P.underlying T=some .string):OpenT P T .str:=⟨hc,fun H enc w base spare held fuel cs x h=>by
 obtain⟨s,rfl,_,hs⟩:=DataW.trod_string ht h
 exact⟨s,rfl,hs⟩⟩
def OpenPs (P:Program):List (TypeId×Nat)→Nat→Ty→Prop
 | [],_,_=>False
 | [(T,o')],o,t=>o'=o∧OpenT P T t
 |(T,o')::p::ps,o,.pair a b=>o'=o∧OpenT P T a∧OpenPs P (p::ps) (o+a.size) b
 |_::_::_,_,_=>False
theorem open_ps {H:Type}{enc:TypeId×Value→H}{w:World}{base:Nat}{spare:Nat→Bool}{held:Bool}{fuel:Nat}{cs:List Value}:
  ∀(ps:List (TypeId×Nat)) (o:Nat) (t:Ty),OpenPs P ps o t→(∀p∈ps,∃x,DataW.trod enc P w base spare held fuel p.1 ((cs.drop p.2).take (P.cellsOf p.1))=some x)→∃y:t.den,t.rep w (nt []) ((cs.drop o).take t.size) y
 | [],_,_,h,_=>h.elim
 | [(T,o')],o,t,h,hx=>by
  obtain⟨rfl,⟨hc,ho⟩⟩:=h
  obtain⟨x,hx⟩:=hx (T,o') (List.mem_singleton.2 rfl)
  rw[←hc];exact ho _ _ _ _ _ _ _ _ _ hx
 |(T,o')::p::ps,o,.pair a b,h,hx=>by
  obtain⟨rfl,⟨hc,ho⟩,hr⟩:=h
  obtain⟨x,h1⟩:=hx (T,o') (List.mem_cons_self ..)
  obtain⟨ya,hya⟩:=ho _ _ _ _ _ _ _ _ _ h1
  obtain⟨yb,hyb⟩:=open_ps (p::ps) _ b hr fun q hq=>hx q (List.mem_cons_of_mem _ hq)
  refine⟨(ya,yb),_,_,?_,hya,hyb⟩
  show(cs.drop o').take (a.size+b.size)=_
  rw[hc,List.take_add,List.drop_drop]
 |_::_::_,_,.int _,h,_=>h.elim
 |_::_::_,_,.byte,h,_=>h.elim
 |_::_::_,_,.bool,h,_=>h.elim
 |_::_::_,_,.str,h,_=>h.elim
 |_::_::_,_,.slice _,h,_=>h.elim
theorem ot_struct {fs:List Field}{t:Ty}(hc:P.cellsOf T=t.size)(ht:P.underlying T=some (.struct fs.toArray))(h:OpenPs P (fs.map fun f=>(f.type,f.offset)) 0 t):OpenT P T t:=⟨hc,fun H enc w base spare held fuel cs x hx=>by
 obtain⟨xs,n,_,_,hl,hs,hf⟩:=DataW.trod_struct ht hx
 have hcs:cs=(cs.drop 0).take t.size:=by rw[List.drop_zero,List.take_of_length_le (by omega)]
 rw[hcs]
 refine open_ps (fuel:=n) (enc:=enc) (base:=base) (spare:=spare) (held:=held) _ 0 t h fun p hp=>?_
 obtain⟨f,hf1,rfl⟩:=List.mem_map.1 hp
 obtain⟨i,hi,he⟩:=List.getElem_of_mem hf1
 have h1:=hf i f (by rw[List.getElem?_toArray,List.getElem?_eq_getElem hi,he])
 rw[h1,List.getElem?_eq_getElem (by rw[hs];simpa using hi)]
 exact⟨_,rfl⟩⟩
theorem ot_array {n c:Nat}{t:Ty}(hc:P.cellsOf T=t.size)(ht:P.underlying T=some (.array n e))(he:P.cellsOf e=c)(h:OpenPs P ((List.range n).map fun i=>(e,i*c)) 0 t):OpenT P T t:=⟨hc,fun H enc w base spare held fuel cs x hx=>by
 subst he
 obtain⟨xs,m,_,_,hl,hs,hf⟩:=DataW.trod_array ht hx
 have hcs:cs=(cs.drop 0).take t.size:=by rw[List.drop_zero,List.take_of_length_le (by omega)]
 rw[hcs]
 refine open_ps (fuel:=m) (enc:=enc) (base:=base) (spare:=spare) (held:=held) _ 0 t h fun p hp=>?_
 obtain⟨i,hi,rfl⟩:=List.mem_map.1 hp
 have hi':=List.mem_range.1 hi
 rw[hf i hi',List.getElem?_eq_getElem (by omega)]
 exact⟨_,rfl⟩⟩
theorem rows_of {t:Ty}{w:World}{g:Addr}: ∀(n:Nat),(∀i,i<n→∃(cs:List Value) (y:t.den),cs.length=t.size∧(∀j u,cs[j]?=some u→w.cell? (g.add (i*t.size+j))=some u)∧t.rep w (nt []) cs y)→
  ∃(cells:List Value) (ys:List t.den),ys.length=n∧cells.length=n*t.size∧(∀j u,cells[j]?=some u→w.cell? (g.add j)=some u)∧∀(i:Nat) (y:t.den),ys[i]?=some y→t.rep w (nt []) ((cells.drop (i*t.size)).take t.size) y
 |0,_=>⟨[],[],rfl,by simp,by simp,by simp⟩
 |n+1,h=>by
  obtain⟨cells,ys,h1,h2,h3,h4⟩:=rows_of n fun i hi=>h i (by omega)
  obtain⟨cs,y,c1,c2,c3⟩:=h n (by omega)
  refine⟨cells++cs,ys++[y],by simp[h1],by rw[List.length_append,h2,c1,Nat.succ_mul],fun j u hj=>?_,?_⟩
  ·by_cases hlt:j<cells.length
   ·rw[List.getElem?_append_left hlt]at hj;exact h3 j u hj
   ·rw[List.getElem?_append_right (by omega)]at hj
    have:=c2 _ u hj
    rwa[h2,show n*t.size+(j-n*t.size)=j by omega]at this
  ·refine rep_append (xs:=ys) (ys:=[y]) (by rw[h2,h1]) h4 fun i y' hi=>?_
   have:i=0:=by have:=(List.getElem?_eq_some_iff.1 hi).1;simp at this;omega
   subst this
   simp at hi;subst hi
   rw[Nat.zero_mul,List.drop_zero,List.take_of_length_le (by omega)];exact c3
theorem ot_slice {t:Ty}(hc:P.cellsOf T=1)(ht:P.underlying T=some (.slice e))(h:OpenT P e t):OpenT P T (.slice t):=⟨hc,fun H enc w base spare held fuel cs x hx=>by
 rcases DataW.trod_slice ht hx with⟨rfl,_⟩|⟨ad,len,cap,elems,rest,n,_,rfl,_,hb,hl,hm,hlen,hel,_,_⟩
 ·exact⟨[],rep_nil _⟩
 ·have each: ∀i,i<len→∃(cs:List Value) (y:t.den),cs.length=t.size∧(∀j u,cs[j]?=some u→w.cell? (ad.add (i*t.size+j))=some u)∧t.rep w (nt []) cs y:=fun i hi=>by
   have h1:=hel i hi
   rw[List.getElem?_eq_getElem (by omega),Option.bind_eq_some_iff]at h1
   obtain⟨cs',h2,h3⟩:=h1
   obtain⟨_,h4,h5⟩:=World.cells?_some h2
   obtain⟨y,hy⟩:=h.2 _ _ _ _ _ _ _ _ _ h3
   rw[h.1]at h4 h5
   refine⟨cs',y,h4,fun j u hj=>?_,hy⟩
   have hlt:=(List.getElem?_eq_some_iff.1 hj).1
   have:=h5 j (by omega)
   rw[add_add]at this
   rw[this,hj]
  obtain⟨cells,ys,h1,h2,h3,h4⟩:=rows_of len each
  by_cases hz:len=0
  ·subst hz
   have:ys=[]:=List.eq_nil_of_length_eq_zero h1
   subst this
   exact⟨[],some ad,cap,[],rfl,by simp,hm,by simp,.inl rfl,by simp⟩
  ·have hp:=pos_size t
   have hlt:0<cells.length:=by rw[h2];exact Nat.mul_pos (by omega) hp
   have h0:=h3 0 _ (List.getElem?_eq_getElem hlt)
   have hspot:=World.cell?_spot h0
   obtain⟨b,off,spot⟩:=ad
   simp only[Addr.add]at hspot
   subst hspot
   refine⟨ys,some ⟨b,off,none⟩,cap,cells,by rw[h1],by omega,hm,by rw[h1];exact h2,.inr ⟨b,off,rfl,by simp[nt],fun j u hj=>?_⟩,h4⟩
   have:=h3 j u hj
   rwa[Addr.add_lit]at this⟩
end
end Go.Z
end
