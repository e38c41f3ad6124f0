/- The law 'JournalNotes' as it is given: whatever the input, the call returns true, and each argument reads behind it as it read before. No condition but that utf8's two tables hold what the library's text lays, which the card ties. -/
import Derived.Test.YtfdfcaiiengdfaaGreatDoorKD6
import Derived.Test.YtfdfcaiiengdfaaGreatDoorKD0
import Derived.OpenShut
import Derived.ShutString
import Derived.ChangeOld
import Derived.ChangeArms
import Derived.DataReads
import Derived.Test.YtfdfcaiiengdfaaGreatDoorRows
import Derived.Test.YtfdfcaiiengdfaaGreatDoorTie
import Derived.Test.YtfdfcaiiengdfaaGreatDoorCards
import Derived.WalkKit
import Derived.ProofKit
import Derived.Below
import Derived.LaidMore
import Derived.Stop.Joined
import Derived.SevenTiedAt
import Derived.Lib.LaidIn
import Derived.Lib.LaidU8T
import Derived.PinnedBridge
import Derived.SizedLaws
section
set_option linter.unusedVariables false
set_option linter.unusedSimpArgs false
set_option synthInstance.maxSize 1000000
set_option synthInstance.maxHeartbeats 400000
namespace Go.Proofs.YtfdfcaiiengdfaaGreatDoor
open Go.RowKit Go.Graph
theorem inc_ext: ∀{a b:List Nd},Inc a→Inc b→(∀x,x∈a↔x∈b)→a=b
 | [],[],_,_,_=>rfl
 | [],y::b,_,_,h=>absurd ((h y).2 (List.mem_cons_self ..)) (by simp)
 |x::a,[],_,_,h=>absurd ((h x).1 (List.mem_cons_self ..)) (by simp)
 |x::a,y::b,ha,hb,h=>by
  obtain⟨ha1,ha2⟩:=List.pairwise_cons.1 ha
  obtain⟨hb1,hb2⟩:=List.pairwise_cons.1 hb
  have hxy:x=y:=by
   rcases List.mem_cons.1 ((h x).1 (List.mem_cons_self ..))with e|hx
   ·exact e
   ·rcases List.mem_cons.1 ((h y).2 (List.mem_cons_self ..))with e|hy
    ·exact e.symm
    ·have:=hb1 x hx;have:=ha1 y hy;omega
  subst hxy
  rw[inc_ext ha2 hb2 fun z=>⟨fun hz=>?_,fun hz=>?_⟩]
  ·rcases List.mem_cons.1 ((h z).1 (List.mem_cons_of_mem _ hz))with e|h2
   ·subst e;have:=ha1 z hz;omega
   ·exact h2
  ·rcases List.mem_cons.1 ((h z).2 (List.mem_cons_of_mem _ hz))with e|h2
   ·subst e;have:=hb1 z hz;omega
   ·exact h2
def mrgN (drop:List Int):List Nd→List Nd→List Nd
 | [],p=>p
 |x::g,[]=>if x.1∈drop then mrgN drop g []else x::mrgN drop g []
 |x::g,y::p=>if x.1<y.1 then(if x.1∈drop then mrgN drop g (y::p)else x::mrgN drop g (y::p))else if x.1=y.1 then y::mrgN drop g p else y::mrgN drop (x::g) p
termination_by g p=>g.length+p.length
theorem mrgN_mem (drop:List Int): ∀(n:Nat) (g p:List Nd),g.length+p.length≤n→Inc g→Inc p→∀x,x∈mrgN drop g p↔x∈p∨(x∈g∧x.1∉drop∧∀y∈p,y.1≠x.1)
 |0,[],[],_,_,_,x=>by simp[mrgN]
 |0,_::_,_,h,_,_,_=>by simp at h
 |0,[],_::_,h,_,_,_=>by simp at h
 |n+1,[],p,_,_,_,x=>by simp[mrgN]
 |n+1,a::g,[],h,hg,hp,x=>by
  obtain⟨hg1,hg2⟩:=List.pairwise_cons.1 hg
  have ih:=mrgN_mem drop n g [] (by simp only[List.length_cons]at h;simpa using (by omega:g.length≤n)) hg2 hp x
  rw[mrgN]
  by_cases hd:a.1∈drop
  ·rw[if_pos hd,ih,List.mem_cons]
   constructor
   ·rintro(h1|⟨h1,h2⟩)
    ·exact .inl h1
    ·exact .inr ⟨.inr h1,h2⟩
   ·rintro(h1|⟨rfl|h1,h2⟩)
    ·exact .inl h1
    ·exact absurd hd h2.1
    ·exact .inr ⟨h1,h2⟩
  ·rw[if_neg hd,List.mem_cons,ih,List.mem_cons]
   constructor
   ·rintro(rfl|h1|⟨h1,h2⟩)
    ·exact .inr ⟨.inl rfl,hd,by simp⟩
    ·exact .inl h1
    ·exact .inr ⟨.inr h1,h2⟩
   ·rintro(h1|⟨h1|h1,h2⟩)
    ·exact .inr (.inl h1)
    ·exact .inl h1
    ·exact .inr (.inr ⟨h1,h2⟩)
 |n+1,a::g,b::p,h,hg,hp,x=>by
  obtain⟨hg1,hg2⟩:=List.pairwise_cons.1 hg
  obtain⟨hp1,hp2⟩:=List.pairwise_cons.1 hp
  simp only[List.length_cons]at h
  rw[mrgN]
  by_cases h1:a.1<b.1
  ·have hne: ∀y∈b::p,y.1≠a.1:=fun y hy=>by
    rcases List.mem_cons.1 hy with rfl|hy
    ·omega
    ·have:=hp1 y hy;omega
   have ih:=mrgN_mem drop n g (b::p) (by simp only[List.length_cons];omega) hg2 hp x
   rw[if_pos h1]
   by_cases hd:a.1∈drop
   ·rw[if_pos hd,ih]
    constructor
    ·rintro(h1|⟨h1,h2⟩)
     ·exact .inl h1
     ·exact .inr ⟨List.mem_cons_of_mem _ h1,h2⟩
    ·rintro(h1|⟨h1,h2⟩)
     ·exact .inl h1
     ·rcases List.mem_cons.1 h1 with rfl|h1
      ·exact absurd hd h2.1
      ·exact .inr ⟨h1,h2⟩
   ·rw[if_neg hd,List.mem_cons,ih]
    constructor
    ·rintro(rfl|h1|⟨h1,h2⟩)
     ·exact .inr ⟨List.mem_cons_self ..,hd,hne⟩
     ·exact .inl h1
     ·exact .inr ⟨List.mem_cons_of_mem _ h1,h2⟩
    ·rintro(h1|⟨h1,h2⟩)
     ·exact .inr (.inl h1)
     ·rcases List.mem_cons.1 h1 with rfl|h1
      ·exact .inl rfl
      ·exact .inr (.inr ⟨h1,h2⟩)
  ·rw[if_neg h1]
   by_cases h2:a.1=b.1
   ·rw[if_pos h2,List.mem_cons,mrgN_mem drop n g p (by omega) hg2 hp2 x,List.mem_cons,List.mem_cons]
    constructor
    ·rintro(rfl|h3|⟨h3,h4,h5⟩)
     ·exact .inl (.inl rfl)
     ·exact .inl (.inr h3)
     ·refine .inr ⟨.inr h3,h4,fun y hy=>?_⟩
      rcases List.mem_cons.1 hy with rfl|hy
      ·have:=hg1 x h3;omega
      ·exact h5 y hy
    ·rintro((h3|h3)|⟨h3|h3,h4,h5⟩)
     ·exact .inl h3
     ·exact .inr (.inl h3)
     ·exact absurd (by rw[h3];exact h2.symm) (h5 b (List.mem_cons_self ..))
     ·exact .inr (.inr ⟨h3,h4,fun y hy=>h5 y (List.mem_cons_of_mem _ hy)⟩)
   ·rw[if_neg h2,List.mem_cons,mrgN_mem drop n (a::g) p (by simp only[List.length_cons];omega) hg hp2 x,List.mem_cons,List.mem_cons]
    constructor
    ·rintro(rfl|h3|⟨h3,h4,h5⟩)
     ·exact .inl (.inl rfl)
     ·exact .inl (.inr h3)
     ·refine .inr ⟨h3,h4,fun y hy=>?_⟩
      rcases List.mem_cons.1 hy with rfl|hy
      ·rcases h3 with rfl|h3
       ·omega
       ·have:=hg1 x h3;omega
      ·exact h5 y hy
    ·rintro((h3|h3)|⟨h3,h4,h5⟩)
     ·exact .inl h3
     ·exact .inr (.inl h3)
     ·exact .inr (.inr ⟨h3,h4,fun y hy=>h5 y (List.mem_cons_of_mem _ hy)⟩)
theorem mrgN_inc (drop:List Int): ∀(n:Nat) (g p:List Nd),g.length+p.length≤n→Inc g→Inc p→Inc (mrgN drop g p)
 |0,[],[],_,_,_=>by simp[mrgN,Inc]
 |0,_::_,_,h,_,_=>by simp at h
 |0,[],_::_,h,_,_=>by simp at h
 |n+1,[],p,_,_,hp=>by simpa[mrgN] using hp
 |n+1,a::g,[],h,hg,hp=>by
  obtain⟨hg1,hg2⟩:=List.pairwise_cons.1 hg
  have hl:g.length+([]:List Nd).length≤n:=by simp only[List.length_cons,List.length_nil]at h ⊢;omega
  have ih:=mrgN_inc drop n g [] hl hg2 hp
  rw[mrgN];split
  ·exact ih
  ·refine List.pairwise_cons.2 ⟨fun y hy=>?_,ih⟩
   rcases(mrgN_mem drop n g [] hl hg2 hp y).1 hy with h1|h1
   ·cases h1
   ·exact hg1 y h1.1
 |n+1,a::g,b::p,h,hg,hp=>by
  obtain⟨hg1,hg2⟩:=List.pairwise_cons.1 hg
  obtain⟨hp1,hp2⟩:=List.pairwise_cons.1 hp
  simp only[List.length_cons]at h
  rw[mrgN]
  by_cases h1:a.1<b.1
  ·have hl:g.length+(b::p).length≤n:=by simp only[List.length_cons];omega
   have ih:=mrgN_inc drop n g (b::p) hl hg2 hp
   rw[if_pos h1];split
   ·exact ih
   ·refine List.pairwise_cons.2 ⟨fun y hy=>?_,ih⟩
    rcases(mrgN_mem drop n g (b::p) hl hg2 hp y).1 hy with h3|h3
    ·rcases List.mem_cons.1 h3 with rfl|h3
     ·exact h1
     ·have:=hp1 y h3;omega
    ·exact hg1 y h3.1
  ·rw[if_neg h1]
   by_cases h2:a.1=b.1
   ·rw[if_pos h2]
    refine List.pairwise_cons.2 ⟨fun y hy=>?_,mrgN_inc drop n g p (by omega) hg2 hp2⟩
    rcases(mrgN_mem drop n g p (by omega) hg2 hp2 y).1 hy with h3|h3
    ·exact hp1 y h3
    ·have:=hg1 y h3.1;omega
   ·rw[if_neg h2]
    have hl:(a::g).length+p.length≤n:=by simp only[List.length_cons];omega
    refine List.pairwise_cons.2 ⟨fun y hy=>?_,mrgN_inc drop n (a::g) p hl hg hp2⟩
    rcases(mrgN_mem drop n (a::g) p hl hg hp2 y).1 hy with h3|⟨h3,_⟩
    ·exact hp1 y h3
    ·rcases List.mem_cons.1 h3 with rfl|h3
     ·omega
     ·have:=hg1 y h3;omega
theorem mrgN_len (drop:List Int): ∀(n:Nat) (g p:List Nd),g.length+p.length≤n→(mrgN drop g p).length≤g.length+p.length
 |0,[],[],_=>by simp[mrgN]
 |0,_::_,_,h=>by simp at h
 |0,[],_::_,h=>by simp at h
 |n+1,[],p,_=>by simp[mrgN]
 |n+1,a::g,[],h=>by
  simp only[List.length_cons,List.length_nil]at h
  have ih:=mrgN_len drop n g [] (by simpa using (by omega:g.length≤n))
  simp only[List.length_nil]at ih
  rw[mrgN];split<;>simp only[List.length_cons,List.length_nil]<;>omega
 |n+1,a::g,b::p,h=>by
  simp only[List.length_cons]at h
  have i1:=mrgN_len drop n g (b::p) (by simp only[List.length_cons];omega)
  have i2:=mrgN_len drop n g p (by omega)
  have i3:=mrgN_len drop n (a::g) p (by simp only[List.length_cons];omega)
  simp only[List.length_cons]at i1 i3
  rw[mrgN];repeat' split
  all_goals simp only[List.length_cons];omega
def madeF (m:List (Int×Nd)):Nat→Nat→List Nd
 |0,_=>[]
 |n+1,i=>if Z.mhas m (i:Int)=true then Z.mget z0 m (i:Int)::madeF m n (i+1)else madeF m n (i+1)
def Keyd (m:List (Int×Nd)):Prop:=∀i:Int,Z.mhas m i=true→(Z.mget z0 m i).1=i
theorem madeF_mem {m:List (Int×Nd)}: ∀(n i:Nat) (x:Nd),x∈madeF m n i↔∃j:Nat,i≤j∧j<i+n∧Z.mhas m (j:Int)=true∧Z.mget z0 m (j:Int)=x
 |0,i,x=>by
  simp only[madeF,List.not_mem_nil,false_iff]
  rintro⟨j,h1,h2,_⟩;omega
 |n+1,i,x=>by
  rw[madeF]
  have ih:=madeF_mem (m:=m) n (i+1) x
  by_cases h:Z.mhas m (i:Int)=true
  ·rw[if_pos h,List.mem_cons,ih]
   constructor
   ·rintro(rfl|⟨j,h1,h2,h3⟩)
    ·exact⟨i,by omega,by omega,h,rfl⟩
    ·exact⟨j,by omega,by omega,h3⟩
   ·rintro⟨j,h1,h2,h3,h4⟩
    by_cases e:j=i
    ·subst e;exact .inl h4.symm
    ·exact .inr ⟨j,by omega,by omega,h3,h4⟩
  ·rw[if_neg h,ih]
   constructor
   ·rintro⟨j,h1,h2,h3⟩;exact⟨j,by omega,by omega,h3⟩
   ·rintro⟨j,h1,h2,h3,h4⟩
    by_cases e:j=i
    ·subst e;exact absurd h3 h
    ·exact⟨j,by omega,by omega,h3,h4⟩
theorem madeF_inc {m:List (Int×Nd)}(hk:Keyd m): ∀(n i:Nat),Inc (madeF m n i)
 |0,i=>by simp[madeF,Inc]
 |n+1,i=>by
  rw[madeF];split
  ·rename_i h
   refine List.pairwise_cons.2 ⟨fun y hy=>?_,madeF_inc hk n (i+1)⟩
   obtain⟨j,h1,h2,h3,h4⟩:=(madeF_mem n (i+1) y).1 hy
   rw[hk _ h,←h4,hk _ h3];omega
  ·exact madeF_inc hk n (i+1)
theorem has_mem {g:List Nd}{id:Int}:Z.mhas (mapOf g) id=true↔∃n∈g,n.1=id:=by
 rcases idx_cases z0 g id with⟨_,h2,_,h4⟩|⟨j,n,_,h2,h3,_,h5⟩
 ·rw[h4];simp only[Bool.false_eq_true,false_iff]
  rintro⟨n,hn,e⟩;exact h2 n hn e
 ·rw[h5];simp only[true_iff];exact⟨n,List.mem_of_getElem? h2,h3⟩
theorem Inc.got {g:List Nd}(h:Inc g){n:Nd}(hn:n∈g)(z:Nd):Z.mget z (mapOf g) n.1=n∧Z.mhas (mapOf g) n.1=true:=by
 obtain⟨j,hj⟩:=List.getElem?_of_mem hn
 exact⟨h.mget hj,has_mem.2 ⟨n,hn,rfl⟩⟩
theorem made_eq {g p:List Nd}{drop:List Int}{m:List (Int×Nd)}(hg:Inc g)(hp:Inc p)(rg: ∀n∈g,0≤n.1∧n.1≤255)(rp: ∀n∈p,0≤n.1∧n.1≤255)
  (hh: ∀i,Z.mhas m i=(Z.mhas (mapOf p) i||(Z.mhas (mapOf g) i&& !decide (i∈drop)))) (hgt: ∀i,Z.mhas m i=true→Z.mget z0 m i=if Z.mhas (mapOf p) i=true then Z.mget z0 (mapOf p) i else Z.mget z0 (mapOf g) i):
  madeF m 256 0=mrgN drop g p:=by
 have key: ∀i,Z.mhas m i=true→(Z.mget z0 m i∈p∧(Z.mget z0 m i).1=i)∨(Z.mget z0 m i∈g∧(Z.mget z0 m i).1=i∧i∉drop∧∀y∈p,y.1≠i):=fun i hi=>by
  have h1:=hgt i hi
  rw[hh i]at hi
  by_cases hpi:Z.mhas (mapOf p) i=true
  ·rw[if_pos hpi]at h1
   obtain⟨n,hn,e⟩:=has_mem.1 hpi
   subst e
   rw[h1,(hp.got hn z0).1];exact .inl ⟨hn,rfl⟩
  ·rw[if_neg hpi]at h1
   rw[Bool.not_eq_true]at hpi
   rw[hpi,Bool.false_or,Bool.and_eq_true]at hi
   obtain⟨n,hn,e⟩:=has_mem.1 hi.1
   subst e
   rw[h1,(hg.got hn z0).1]
   refine .inr ⟨hn,rfl,by simpa using hi.2,fun y hy e=>?_⟩
   rw[has_mem.2 ⟨y,hy,e⟩]at hpi;cases hpi
 have hk:Keyd m:=fun i hi=>by
  rcases key i hi with h|h
  ·exact h.2
  ·exact h.2.1
 refine inc_ext (madeF_inc hk 256 0) (mrgN_inc drop _ g p (Nat.le_refl _) hg hp) fun x=>?_
 rw[madeF_mem,mrgN_mem drop _ g p (Nat.le_refl _) hg hp]
 constructor
 ·rintro⟨j,_,_,h3,h4⟩
  subst h4
  rcases key j h3 with h|⟨h5,h6,h7,h8⟩
  ·exact .inl h.1
  ·exact .inr ⟨h5,by rw[h6];exact h7,fun y hy=>by rw[h6];exact h8 y hy⟩
 ·intro hx
  have h1:Z.mhas m x.1=true∧Z.mget z0 m x.1=x∧0≤x.1∧x.1≤255:=by
   rcases hx with hx|⟨hx,h2,h3⟩
   ·obtain⟨e1,e2⟩:=hp.got hx z0
    have h4:Z.mhas m x.1=true:=by rw[hh,e2];rfl
    exact⟨h4,by rw[hgt _ h4,if_pos e2,e1],rp x hx⟩
   ·obtain⟨e1,e2⟩:=hg.got hx z0
    have h5: ¬Z.mhas (mapOf p) x.1=true:=fun h=>by
     obtain⟨y,hy,e⟩:=has_mem.1 h
     exact h3 y hy e
    have h4:Z.mhas m x.1=true:=by rw[hh,e2];simp[h2]
    exact⟨h4,by rw[hgt _ h4,if_neg h5,e1],rg x hx⟩
  refine⟨x.1.toNat,by omega,by omega,?_,?_⟩
  ·rw[Int.toNat_of_nonneg h1.2.2.1];exact h1.1
  ·rw[Int.toNat_of_nonneg h1.2.2.1];exact h1.2.1
end Go.Proofs.YtfdfcaiiengdfaaGreatDoor
end
section
set_option linter.unusedVariables false
set_option linter.unusedSimpArgs false
set_option synthInstance.maxSize 1000000
set_option synthInstance.maxHeartbeats 400000
namespace Go.A
theorem eqk {α ρ:Type}[DecidableEq α](a b:List α)(L:Nat→Int→Option ρ)(t e:Option ρ)(hl:a.length=b.length)(h0: ∀f,L (f+1) (a.length:Int)=t)
  (h1: ∀f (k:Nat) x y,a[k]?=some x→b[k]?=some y→k<a.length→L (f+1) (k:Int)=if x=y then L f ((k:Int)+1)else e) (hlt:a.length<FU):L FU 0=if a=b then t else e:=by
 have:=lp0 a L (fun k l=>if l=b.drop k then t else e)
  (fun f=>by rw[h0,hl,List.drop_eq_nil_of_le (Nat.le_refl _),if_pos rfl])
  (fun f k x hx hk ih=>by
   have hy:b[k]?=some b[k]:=List.getElem?_eq_getElem (by omega)
   rw[h1 f k x _ hx hy hk,dropx hy,ih]
   by_cases h:x=b[k]
   ·rw[if_pos h]
    by_cases h2:a.drop (k+1)=b.drop (k+1)
    ·rw[if_pos h2,if_pos (by rw[h,h2])]
    ·rw[if_neg h2,if_neg (fun e=>h2 (List.cons.inj e).2)]
   ·rw[if_neg h,if_neg (fun e=>h (List.cons.inj e).1)]) hlt
 rw[this,List.drop_zero]
theorem ite_dec {p:Prop}[Decidable p]:(if p then some true else some false)=some (decide p):=by by_cases h:p<;>simp[h]
end Go.A
namespace Go.Proofs.YtfdfcaiiengdfaaGreatDoor
open Go.RowKit Go.Graph
abbrev Mv:=Int×Int×Int×Int×Fun
abbrev Dl:=List Int×List Nd×List Mv
def Sml (g:List Nd):Prop:=g.length≤200∧∀n∈g,n.2.2.1.length≤5000∧n.2.2.2.2.1.size≤5000∧n.2.2.2.1.2.2.size≤5000
theorem Sml.few {g:List Nd}(h:Sml g)(hl:g.length≤40):Few g:=⟨hl,h.2⟩
theorem Sml.in {g:List Nd}(h:Sml g){n:Nd}(hn:n∈g):n.2.2.1.length≤5000:=(h.2 n hn).1
theorem EqI (a b:List Int)(ha:a.length≤100000):F.aG a b=some (decide (a=b)):=by
 unfold F.aG
 by_cases hl:a.length=b.length
 ·rw[if_neg (by omega)]
  rw[A.eqk a b (fun f y=>F.aa a b f y) (some true) (some false) hl (fun f=>by rw[F.aa,if_neg (by omega)])
   (fun f k x y hx hy hk=>by
    rw[F.aa,if_pos (by omega),A.ixn hx,Option.bind_some,A.ixn hy,Option.bind_some]
    by_cases h:x=y
    ·rw[if_neg (fun e=>e h),if_pos h,A.gd1 (A.r64n (by omega))]
    ·rw[if_pos h,if_neg h]) (by have:=FU_big;omega),A.ite_dec]
 ·rw[if_pos (by omega),decide_eq_false (fun e=>hl (by rw[e]))]
theorem R_sameInts (a b:List Int)(ha:a.length≤100000):F.dF a b=some (decide (a=b)):=by
 unfold F.dF
 by_cases hl:a.length=b.length
 ·rw[if_neg (by omega)]
  rw[A.eqk a b (fun f y=>F.bm a b f y) (some true) (some false) hl (fun f=>by rw[F.bm,if_neg (by omega)])
   (fun f k x y hx hy hk=>by
    rw[F.bm,if_pos (by omega),A.ixn hx,Option.bind_some,A.ixn hy,Option.bind_some]
    by_cases h:x=y
    ·rw[if_neg (fun e=>e h),if_pos h,A.gd1 (A.r64n (by omega))]
    ·rw[if_pos h,if_neg h]) (by have:=FU_big;omega),A.ite_dec]
 ·rw[if_pos (by omega),decide_eq_false (fun e=>hl (by rw[e]))]
theorem nd_ext {x y:Nd}:x=y↔x.1=y.1∧x.2.1=y.2.1∧x.2.2.1=y.2.2.1∧(x.2.2.2.1=y.2.2.2.1)∧x.2.2.2.2.1=y.2.2.2.2.1∧x.2.2.2.2.2.1=y.2.2.2.2.2.1∧x.2.2.2.2.2.2=y.2.2.2.2.2.2:=by
 obtain⟨a1,a2,a3,a4,a5,a6,a7⟩:=x
 obtain⟨b1,b2,b3,b4,b5,b6,b7⟩:=y
 simp only[Prod.mk.injEq]
theorem P_same (x y:Nd)(h:x.2.2.1.length≤5000):F.dK x y=some (decide (x=y)):=by
 unfold F.dK F.ci
 have e:=nd_ext (x:=x) (y:=y)
 by_cases h1:x.1=y.1∧x.2.1=y.2.1
 ·rw[A.ba,if_pos (decide_eq_true h1),EqI _ _ (by omega),Option.bind_some]
  by_cases h2:x.2.2.1=y.2.2.1
  ·rw[if_pos (decide_eq_true h2)]
   simp only[A.ba]
   congr 1
   refine decide_eq_decide.2 ?_
   rw[e]
   exact⟨fun h=>⟨h1.1,h1.2,h2,h.1.1.1,h.1.1.2,h.1.2,h.2⟩,fun h=>⟨⟨⟨h.2.2.2.1,h.2.2.2.2.1⟩,h.2.2.2.2.2.1⟩,h.2.2.2.2.2.2⟩⟩
  ·rw[if_neg (by rw[decide_eq_true_iff];exact h2),decide_eq_false (fun h=>h2 (e.1 h).2.2.1)]
 ·rw[A.ba,if_neg (by rw[decide_eq_true_iff];exact h1),decide_eq_false (fun h=>h1 ⟨(e.1 h).1,(e.1 h).2.1⟩)]
theorem P_Same (a b:List Nd)(ha:Sml a):F.dL a b=some (decide (a=b)):=by
 have hal:=ha.1
 unfold F.dL F.f
 by_cases hl:a.length=b.length
 ·rw[if_neg (by omega)]
  rw[A.eqk a b (fun f y=>F.c a b f y) (some true) (some false) hl (fun f=>by rw[F.c,if_neg (by omega)])
   (fun f k x y hx hy hk=>by
    rw[F.c,if_pos (by omega),A.ixn hx,Option.bind_some,A.ixn hy,Option.bind_some]
    rw[show F.dK x y=some (decide (x=y))from P_same x y (ha.in (List.mem_of_getElem? hx)),Option.bind_some]
    by_cases h:x=y
    ·rw[decide_eq_true h,Bool.not_true,if_neg Bool.false_ne_true,if_pos h,A.gd1 (A.r64n (by omega))]
    ·rw[decide_eq_false h,Bool.not_false,if_pos rfl,if_neg h]) (by have:=FU_big;omega),A.ite_dec,Option.bind_some]
 ·rw[if_pos (by omega),Option.bind_some,decide_eq_false (fun e=>hl (by rw[e]))]
theorem R_Same (a b:List Nd)(ha:Sml a):F.ep a b=some (decide (a=b)):=by
 have hal:=ha.1
 unfold F.ep
 by_cases hl:a.length=b.length
 ·rw[if_neg (by omega)]
  rw[A.eqk a b (fun f y=>F.aD a b f y) (some true) (some false) hl (fun f=>by rw[F.aD,if_neg (by omega)])
   (fun f k x y hx hy hk=>by
    have e:=nd_ext (x:=x) (y:=y)
    have hxl:=ha.in (List.mem_of_getElem? hx)
    rw[F.aD,if_pos (by omega),A.ixn hx,Option.bind_some,A.ixn hy,Option.bind_some,F.ex,A.bo]
    by_cases h1:x.1≠y.1∨x.2.1≠y.2.1
    ·rw[if_pos (decide_eq_true h1),F.df,if_pos rfl,if_neg (fun h=>h1.elim (fun h2=>h2 (e.1 h).1) fun h2=>h2 (e.1 h).2.1)]
    ·rw[if_neg (by rw[decide_eq_true_iff];exact h1),F.df]
     simp only[A.bo]
     by_cases h2:(((x.2.2.2.1≠y.2.2.2.1∨x.2.2.2.2.1≠y.2.2.2.2.1)∨x.2.2.2.2.2.1≠y.2.2.2.2.2.1)∨x.2.2.2.2.2.2≠y.2.2.2.2.2.2)∨(x.2.2.1.length:Int)≠(y.2.2.1.length:Int)
     ·rw[if_pos (decide_eq_true h2),if_neg]
      intro h;subst h
      simp at h2
     ·rw[if_neg (by rw[decide_eq_true_iff];exact h2)]
      have hll:x.2.2.1.length=y.2.2.1.length:=Int.ofNat.inj (Decidable.byContradiction fun hc=>h2 (.inr hc))
      rw[A.eqk x.2.2.1 y.2.2.1 (fun f2 i=>F.cu (F.aD a b f) (k:Int) x.2.2.1 y.2.2.1 f2 i) (F.aD a b f ((k:Int)+1)) (some false) hll
       (fun f2=>by rw[F.cu,if_neg (by omega),A.gd1 (A.r64n (by omega))])
       (fun f2 i u v hu hv hi=>by
        rw[F.cu,if_pos (by omega),A.ixn hu,Option.bind_some,A.ixn hv,Option.bind_some]
        by_cases h:u=v
        ·rw[if_neg (fun e=>e h),if_pos h,A.gd1 (A.r64n (by omega))]
        ·rw[if_pos h,if_neg h]) (by have:=FU_big;omega)]
      by_cases h3:x.2.2.1=y.2.2.1
      ·rw[if_pos h3,if_pos]
       simp only[not_or,ne_eq,Decidable.not_not]at h1 h2
       exact e.2 ⟨h1.1,h1.2,h3,h2.1.1.1.1,h2.1.1.1.2,h2.1.1.2,h2.1.2⟩
      ·rw[if_neg h3,if_neg (fun h=>h3 (e.1 h).2.2.1)]) (by have:=FU_big;omega),A.ite_dec]
 ·rw[if_pos (by omega),decide_eq_false (fun e=>hl (by rw[e]))]
structure Good (g:List Nd):Prop where
 inc:Inc g
 own:Own g
 fed:Fed g
 len:g.length≤32
theorem Good.id {g:List Nd}(h:Good g){n:Nd}(hn:n∈g):1≤n.1∧n.1≤255:=own_id (h.own n hn)
theorem check_same (g:List Nd)(hs:Sml g): ∃e,F.a5 g=some e∧F.cr g=some e∧(e=0→Good g)∧((∃n∈g,n.1<1∨255<n.1)→e=80):=by
 unfold F.a5 F.cr
 by_cases h32:(32:Int)<(g.length:Int)
 ·unfold F.bZ F.cZ F.d9
  rw[if_pos h32,if_pos h32]
  exact⟨80,rfl,rfl,fun h=>(by cases h),fun _=>rfl⟩
 ·have hb:=hs.few (by omega)
  rcases whole_same g hb with⟨e,h0,h1,h2⟩|⟨l,d,dm,h1,h2,W⟩
  ·refine⟨e,by rw[h1];rfl,by rw[h2];rfl,fun h=>absurd h h0,fun⟨n,hn,hr⟩=>?_⟩
   have hok: ¬okR g 0 g=true:=fun hok=>by
    have:=own_id (own_of (by rw[ok_eq];exact hok) n hn);omega
   unfold F.cZ at h2
   rw[parts_eq g hb,if_neg h32,if_neg hok]at h2
   simp only[Option.bind_some]at h2
   rw[if_pos (by decide)]at h2
   injection h2 with h2
   injection h2 with _ h2
   injection h2 with _ h2
   exact h2.symm
  ·refine⟨0,by rw[h1];rfl,by rw[h2];rfl,fun _=>⟨W.inc,W.own,W.fed,by omega⟩,fun⟨n,hn,hr⟩=>?_⟩
   have:=own_id (W.own n hn);omega
def riseB:List Int→Bool
 |a::b::r=>decide (a<b)&&riseB (b::r)
 |_=>true
theorem rise_iff: ∀l:List Int,riseB l=true↔l.Pairwise (· < ·)
 | []=>by simp[riseB]
 | [a]=>by simp[riseB]
 |a::b::r=>by
  rw[riseB,Bool.and_eq_true,decide_eq_true_iff,rise_iff (b::r),List.pairwise_cons (a:=a)]
  constructor
  ·rintro⟨h1,h2⟩
   refine⟨fun x hx=>?_,h2⟩
   rcases List.mem_cons.1 hx with rfl|hx
   ·exact h1
   ·have:=(List.pairwise_cons.1 h2).1 x hx;omega
  ·exact fun h=>⟨h.1 b (List.mem_cons_self ..),h.2⟩
theorem rise_inc {g:List Nd}:riseB (g.map (·.1))=true↔Inc g:=by
 rw[rise_iff,List.pairwise_map];rfl
theorem rise_at {l:List Int}{k:Nat}{a b:Int}(ha:l[k]?=some a)(hb:l[k+1]?=some b):riseB (l.drop k)=(decide (a<b)&&riseB (l.drop (k+1))):=by
 rw[A.dropx ha,A.dropx hb,riseB]
theorem rise_end {l:List Int}{k:Nat}(h:l.length≤k+1):riseB (l.drop k)=true:=by
 rcases hd:l.drop k with _|⟨a,_|⟨b,r⟩⟩
 ·rfl
 ·rfl
 ·have:=congrArg List.length hd;simp only[List.length_drop,List.length_cons]at this;omega
theorem rising_eq (l:List Int)(hl:l.length≤100000):F.dn l=some (riseB l):=by
 have main: ∀(n k f:Nat),l.length-k≤n→n<f→F.bb l f ((k:Int)+1)=some (riseB (l.drop k)):=by
  intro n
  induction n with
  |zero=>
   intro k f h1 h2
   obtain⟨f,rfl⟩: ∃f',f=f'+1:=⟨f-1,by omega⟩
   rw[F.bb,if_neg (by omega),rise_end (by omega)]
  |succ n ih=>
   intro k f h1 h2
   obtain⟨f,rfl⟩: ∃f',f=f'+1:=⟨f-1,by omega⟩
   rw[F.bb]
   by_cases h:k+1<l.length
   ·have ha:l[k]?=some l[k]:=List.getElem?_eq_getElem (by omega)
    have hb:l[k+1]?=some l[k+1]:=List.getElem?_eq_getElem h
    rw[if_pos (by omega),A.gd1 ⟨by omega,by omega⟩,show((k:Int)+1-1)=(k:Int) by omega,A.ixn ha,Option.bind_some,show((k:Int)+1)=((k+1:Nat):Int) by omega,A.ixn hb,Option.bind_some,rise_at ha hb]
    by_cases hc:l[k+1]≤l[k]
    ·rw[if_pos hc,decide_eq_false (by omega)];rfl
    ·rw[if_neg hc,A.gd1 (A.r64n (by omega)),ih (k+1) f (by omega) (by omega),decide_eq_true (by omega:l[k]<l[k+1])];rfl
   ·rw[if_neg (by omega),rise_end (by omega)]
 have:=main l.length 0 A.FU (by omega) (by have:=FU_big;omega)
 exact this
theorem has_eq (l:List Int)(x:Int)(hl:l.length≤100000):F.e2 l x=some (decide (x∈l)):=
 A.lp0 l (fun f y=>F.c5 l x f y) (fun _ r=>some (decide (x∈r)))
  (fun f=>by rw[F.c5,if_neg (by omega)];rfl)
  (fun f k a ha hk ih=>by
   rw[F.c5,if_pos (by omega),A.ixn ha,Option.bind_some]
   by_cases h:a=x
   ·rw[if_pos h,decide_eq_true (by rw[h];exact List.mem_cons_self ..)]
   ·rw[if_neg h,A.gd1 (A.r64n (by omega)),ih]
    congr 1
    refine decide_eq_decide.2 ?_
    rw[List.mem_cons]
    exact⟨.inr,fun h2=>h2.resolve_left fun e=>h e.symm⟩)
  (by have:=FU_big;omega)
theorem contains_eq (l:List Int)(x:Int)(hl:l.length≤100000):F.aH l x=some (decide (x∈l)):=by
 have: ∀(n k f:Nat),k+n=l.length→n<f→∃i:Int,F.t l x f (k:Int)=some i∧(0≤i↔x∈l.drop k):=by
  intro n
  induction n with
  |zero=>
   intro k f h1 h2
   obtain⟨f,rfl⟩: ∃f',f=f'+1:=⟨f-1,by omega⟩
   rw[F.t,if_neg (by omega),List.drop_eq_nil_of_le (by omega)]
   exact⟨-1,rfl,by simp⟩
  |succ n ih=>
   intro k f h1 h2
   obtain⟨f,rfl⟩: ∃f',f=f'+1:=⟨f-1,by omega⟩
   have ha:l[k]?=some l[k]:=List.getElem?_eq_getElem (by omega)
   rw[F.t,if_pos (by omega),A.ixn ha,Option.bind_some,A.dropx ha]
   by_cases h:x=l[k]
   ·rw[if_pos h];exact⟨k,rfl,fun _=>by rw[h];exact List.mem_cons_self ..,fun _=>by omega⟩
   ·rw[if_neg h,A.gd1 (A.r64n (by omega))]
    obtain⟨i,h3,h4⟩:=ih (k+1) f (by omega) (by omega)
    exact⟨i,h3,by rw[h4,List.mem_cons];exact⟨.inr,fun h5=>h5.resolve_left h⟩⟩
 obtain⟨i,h1,h2⟩:=this l.length 0 A.FU (by omega) (by have:=FU_big;omega)
 unfold F.aH F.bW
 rw[show F.t l x A.FU 0=some i from h1,Option.bind_some]
 congr 1
 exact decide_eq_decide.2 h2
theorem ids_eq (g:List Nd)(hg:g.length≤10000):F.eW g=some (g.map (·.1)):=by
 have:=A.lp g (fun f (s:List Int) y=>F.b6 g f s y) (fun _ l s=>some (s++l.map (·.1))) (fun k s=>s.length=k)
  (fun f s hs=>by rw[F.b6,if_neg (by omega),List.map_nil,List.append_nil])
  (fun f s k x hx hk hs ih=>by
   rw[F.b6,if_pos (by omega),A.ixn hx,Option.bind_some,A.gd1 (by simp only[List.length_cons,List.length_nil];omega),A.gd1 (A.r64n (by omega)),ih _ (by simp only[List.length_append,List.length_cons,List.length_nil];omega)]
   rw[List.append_assoc];rfl)
  (by have:=FU_big;omega) [] rfl
 rw[List.nil_append]at this;exact this
abbrev gt (g:List Nd) (id:Int):Nd:=Z.mget z0 (mapOf g) id
abbrev hs (g:List Nd) (id:Int):Bool:=Z.mhas (mapOf g) id
theorem byId_eq (g:List Nd)(hi:Inc g)(hg:g.length≤10000):F.dH g=some (mapOf g):=by
 exact A.lp g (fun f (s:List (Int×Nd)) y=>F.bT g f s y) (fun _ _ _=>some (mapOf g)) (fun k s=>s=mapOf (g.take k))
  (fun f s hs=>by rw[F.bT,if_neg (by omega),hs,List.take_of_length_le (Nat.le_refl _)])
  (fun f s k x hx hk hs ih=>by
   rw[F.bT,if_pos (by omega),A.ixn hx,Option.bind_some,A.gd1 (A.r64n (by omega))]
   refine ih _ ?_
   have hnew:Z.mhas s x.1=false:=by
    rw[hs]
    refine mhas_mapOf fun n hn e=>?_
    obtain⟨i,hi2⟩:=List.getElem?_of_mem hn
    rw[List.getElem?_take]at hi2
    split at hi2
    ·have:=hi.inj hi2 hx e;omega
    ·cases hi2
   rw[show(x:Nd)=x from rfl,mins_new hnew,hs,take_s hx]
   simp[mapOf])
  (by have:=FU_big;omega) [] rfl
theorem Get_eq (g:List Nd)(id:Int)(hg:g.length≤10000):F.eq g id=some (gt g id,hs g id):=
 A.lp0 g (fun f y=>F.c4 g id f y) (fun _ l=>some (gt l id,hs l id))
  (fun f=>by rw[F.c4,if_neg (by omega)];rfl)
  (fun f k x hx hk ih=>by
   rw[F.c4,if_pos (by omega),A.ixn hx,Option.bind_some]
   unfold gt hs mapOf
   simp only[List.map_cons,Z.mget,Z.mhas]
   by_cases h:x.1=id
   ·rw[if_pos h,if_pos h.symm,if_pos h.symm,Option.bind_some]
   ·rw[if_neg h,if_neg (fun e=>h e.symm),if_neg (fun e=>h e.symm),A.gd1 (A.r64n (by omega)),ih];rfl)
  (by have:=FU_big;omega)
def dropOk (g:List Nd)(id:Int):Bool:=hs g id&&decide ((gt g id).2.1≠1)
def dropsB (g:List Nd)(l:List Int):Bool:=l.all (dropOk g)&&riseB l
theorem drops_P (g:List Nd)(d:Dl)(hd:d.1.length≤1000):F.dS (mapOf g) d=some (dropsB g d.1):=
 A.lp0 d.1 (fun f y=>F.bE (mapOf g) d f y) (fun _ l=>some (l.all (dropOk g)&&riseB d.1))
  (fun f=>by rw[F.bE,if_neg (by omega),rising_eq _ (by omega)];rfl)
  (fun f k x hx hk ih=>by
   rw[F.bE,if_pos (by omega),A.ixn hx,Option.bind_some,A.lt,List.all_cons,dropOk,Bool.cond_eq_ite]
   change (if(if(!(hs g x))=true then true else decide ((gt g x).2.1=1))=true then _ else _)=_
   cases hs g x with
   |false=>simp
   |true=>
    by_cases h:(gt g x).2.1=1
    ·simp[h]
    ·simp only[Bool.not_true,Bool.false_eq_true,if_false,h,decide_false,ne_eq,not_false_eq_true,decide_true,Bool.true_and]
     rw[A.gd1 (A.r64n (by omega)),ih])
  (by have:=FU_big;omega)
def riseP (l:List Int)(k:Nat):Bool:=if k=0 then riseB l else riseB (l.drop (k-1))
theorem riseP_at {l:List Int}{k:Nat}{x:Int}(hx:l[k]?=some x):(k=0∧riseP l k=riseP l (k+1))∨(∃p,0<k∧l[k-1]?=some p∧riseP l k=(decide (p<x)&&riseP l (k+1))):=by
 rcases Nat.eq_zero_or_pos k with h|h
 ·subst h;exact .inl ⟨rfl,rfl⟩
 ·have hk:=(List.getElem?_eq_some_iff.1 hx).1
  have hp:l[k-1]?=some l[k-1]:=List.getElem?_eq_getElem (by omega)
  refine .inr ⟨_,h,hp,?_⟩
  unfold riseP
  rw[if_neg (by omega),if_neg (by omega),rise_at hp (b:=x) (by rw[show k-1+1=k by omega];exact hx),show k-1+1=k+1-1 by omega]
theorem riseP_end (l:List Int):riseP l l.length=true:=by
 unfold riseP;split
 ·rename_i h;rw[List.eq_nil_of_length_eq_zero h];rfl
 ·exact rise_end (by omega)
theorem drops_R (g:List Nd)(l:List Int)(hg:g.length≤1000)(hl:l.length≤1000):F.eX g l=some (dropsB g l&&decide ((l.length:Int)≤32)):=by
 have:=A.lp0 l (fun f y=>F.be g l f y) (fun k r=>some (r.all (dropOk g)&&riseP l k&&decide ((l.length:Int)≤32)))
  (fun f=>by rw[F.be,if_neg (by omega),riseP_end];simp)
  (fun f k x hx hk ih=>by
   rw[F.be,if_pos (by omega),A.ixn hx,Option.bind_some,Get_eq g x (by omega),Option.bind_some,F.em,List.all_cons,dropOk]
   simp only[F.cJ,Bool.cond_eq_ite]
   cases hs g x with
   |false=>simp
   |true=>
    by_cases h:(gt g x).2.1=1
    ·simp[h]
    ·simp only[Bool.not_true,Bool.false_eq_true,if_false,h,decide_false,ne_eq,not_false_eq_true,decide_true,Bool.true_and]
     rcases riseP_at hx with⟨h0,h1⟩|⟨p,h0,hp,h1⟩
     ·rw[if_neg (by omega),A.gd1 (A.r64n (by omega)),ih,h1]
     ·rw[if_pos (by omega),A.gd1 ⟨by omega,by omega⟩,show((k:Int)-1)=((k-1:Nat):Int) by omega,A.ixn hx,Option.bind_some,A.ixn hp,Option.bind_some,h1]
      by_cases hc:x≤p
      ·rw[if_pos (decide_eq_true hc),decide_eq_false (by omega: ¬p<x)];simp
      ·rw[if_neg (by rw[decide_eq_true_iff];exact hc),A.gd1 (A.r64n (by omega)),ih,decide_eq_true (by omega:p<x),Bool.true_and])
  (by have:=FU_big;omega)
 exact this
def putOk (g:List Nd)(drop:List Int)(n:Nd):Bool:=decide (n.2.1≠1)&& !(hs g n.1&&decide ((gt g n.1).2.1=1))&&decide (n.1∉drop)
def putsB (g:List Nd)(d:Dl):Bool:=d.2.1.all (putOk g d.1)&&riseB (d.2.1.map (·.1))
theorem puts_P (g:List Nd)(d:Dl)(hd:d.1.length≤1000)(hp:d.2.1.length≤1000):F.el (mapOf g) d=some (putsB g d):=
 A.lp0 d.2.1 (fun f y=>F.am (mapOf g) d f y) (fun _ l=>some (l.all (putOk g d.1)&&riseB (d.2.1.map fun n:Nd=>n.1)))
  (fun f=>by rw[F.am,if_neg (by omega),ids_eq _ (by omega),Option.bind_some,rising_eq _ (by rw[List.length_map];omega)];rfl)
  (fun f k x hx hk ih=>by
   rw[F.am,if_pos (by omega),A.ixn hx,Option.bind_some,A.lt,List.all_cons,putOk]
   simp only[F.ch,Bool.cond_eq_ite,contains_eq d.1 x.1 (by omega),Option.bind_some]
   change (if x.2.1=1 then _ else if(if hs g x.1=true then decide ((gt g x.1).2.1=1)else false)=true then _ else _)=_
   by_cases h1:x.2.1=1
   ·simp[h1]
   ·rw[if_neg h1,decide_eq_true (show x.2.1≠1 from h1),Bool.true_and]
    have hrest:(if decide (x.1∈d.1)=true then some false else A.gd (Z.R64 ((k:Int)+1)) (F.am (mapOf g) d f ((k:Int)+1)))=some (decide (x.1∉d.1)&&(d.2.1.drop (k+1)).all (putOk g d.1)&&riseB (d.2.1.map (·.1))):=by
     by_cases h3:x.1∈d.1
     ·simp[h3]
     ·rw[if_neg (by rw[decide_eq_true_iff];exact h3),A.gd1 (A.r64n (by omega)),ih,decide_eq_true h3,Bool.true_and]
    rw[hrest]
    cases hs g x.1<;>by_cases h2:(gt g x.1).2.1=1<;>simp[h2])
  (by have:=FU_big;omega)
theorem puts_R (g:List Nd)(d:Dl)(hg:g.length≤1000)(hd:d.1.length≤1000)(hp:d.2.1.length≤1000):F.eR g d=some (putsB g d&&decide ((d.2.1.length:Int)≤32)):=by
 have:=A.lp0 d.2.1 (fun f y=>F.bH g d f y) (fun k r=>some (r.all (putOk g d.1)&&riseP (d.2.1.map fun n:Nd=>n.1) k&&decide ((d.2.1.length:Int)≤32)))
  (fun f=>by
   have e:=riseP_end (d.2.1.map (·.1))
   rw[List.length_map]at e
   rw[F.bH,if_neg (by omega),e];simp)
  (fun f k x hx hk ih=>by
   have hx2:(d.2.1.map (·.1))[k]?=some x.1:=by rw[List.getElem?_map,hx];rfl
   rw[F.bH,if_pos (by omega),A.ixn hx,Option.bind_some,Get_eq g x.1 (by omega),Option.bind_some,F.ey,A.ixn hx,Option.bind_some,List.all_cons,putOk]
   simp only[F.b1,Bool.cond_eq_ite,Option.bind_some,has_eq d.1 x.1 (by omega)]
   by_cases h1:x.2.1=1
   ·simp[h1]
   ·rw[if_neg h1,decide_eq_true (show x.2.1≠1 from h1),Bool.true_and]
    generalize hR:(if decide (x.1∈d.1)=true then _ else _:Option Bool)=R
    have hrest:R=some (decide (x.1∉d.1)&&(d.2.1.drop (k+1)).all (putOk g d.1)&&riseP (d.2.1.map (·.1)) k&&decide ((d.2.1.length:Int)≤32)):=by
     rw[←hR]
     by_cases h3:x.1∈d.1
     ·simp[h3]
     ·rw[if_neg (by rw[decide_eq_true_iff];exact h3),decide_eq_true h3,Bool.true_and]
      rcases riseP_at hx2 with⟨h0,h1⟩|⟨p,h0,hp2,h1⟩
      ·rw[if_neg (by omega),if_neg Bool.false_ne_true,A.gd1 (A.r64n (by omega)),ih,h1]
      ·rw[List.getElem?_map]at hp2
       obtain⟨q,hq,e⟩:=Option.map_eq_some_iff.1 hp2
       subst e
       rw[if_pos (by omega),A.gd1 ⟨by omega,by omega⟩,show((k:Int)-1)=((k-1:Nat):Int) by omega,A.ixn hq,Option.bind_some,h1]
       by_cases hc:x.1≤q.1
       ·rw[if_pos (decide_eq_true hc),decide_eq_false (by omega: ¬q.1<x.1)];simp
       ·rw[if_neg (by rw[decide_eq_true_iff];exact hc),A.gd1 (A.r64n (by omega)),ih,decide_eq_true (by omega:q.1<x.1),Bool.true_and]
    rw[hrest]
    cases hs g x.1<;>by_cases h2:(gt g x.1).2.1=1<;>simp[h2])
  (by have:=FU_big;omega)
 exact this
def keepB (k:Int):Bool:=decide (k=11∨k=16)
theorem keeps_eq (k:Int):F.dT k=some (keepB k):=by unfold F.dT keepB;rw[A.bo]
theorem Holds_eq (k:Int):F.eE k=some (keepB k):=by unfold F.eE keepB;rw[A.bo]
def useP (m:Mv):Bool:=if m.2.2.1=1 then decide (m.2.2.2.1=0∧m.2.2.2.2=((0,0,ByteArray.mk #[]):Fun))else if m.2.2.1=2 then decide ((0≤m.2.2.2.1∧m.2.2.2.1≤1048576)∧m.2.2.2.2=((0,0,ByteArray.mk #[]):Fun))else if m.2.2.1=3 then decide (m.2.2.2.1=0)else false
theorem uses_eq9 (m:Mv):F.dI m=some (useP m):=by
 unfold F.dI useP F.c7 F.c8
 by_cases h1:m.2.2.1=1
 ·rw[if_pos h1,if_pos h1]
  by_cases h2:m.2.2.2.1=0
  ·rw[if_pos h2];congr 1;exact decide_eq_decide.2 ⟨fun h=>⟨h2,h⟩,fun h=>h.2⟩
  ·rw[if_neg h2,decide_eq_false (fun h=>h2 h.1)]
 ·rw[if_neg h1,if_neg h1]
  by_cases h2:m.2.2.1=2
  ·rw[if_pos h2,if_pos h2,A.ba]
   by_cases h3:0≤m.2.2.2.1∧m.2.2.2.1≤1048576
   ·rw[if_pos (decide_eq_true h3)];congr 1;exact decide_eq_decide.2 ⟨fun h=>⟨h3,h⟩,fun h=>h.2⟩
   ·rw[if_neg (by rw[decide_eq_true_iff];exact h3),decide_eq_false (fun h=>h3 h.1)]
  ·rw[if_neg h2,if_neg h2]
   by_cases h3:m.2.2.1=3
   ·rw[if_pos h3,if_pos h3]
   ·rw[if_neg h3,if_neg h3]
def moveOk (g put:List Nd)(m:Mv):Bool:=hs g m.1&&hs put m.2.1&&keepB (gt g m.1).2.1&&decide ((gt put m.2.1).2.1=(gt g m.1).2.1)&&useP m&& !(decide (m.2.2.1=2)&&decide ((gt g m.1).2.1≠11))
def mvF (ok:Mv→Bool):List Int→List Mv→Bool
 |_,[]=>true
 |pre,m::r=>ok m&&decide (m.2.1∉pre)&&mvF ok (pre++[m.2.1]) r
theorem move_R (g:List Nd)(d:Dl)(m:Mv)(hg:g.length≤1000)(hp:d.2.1.length≤1000):F.er g d m=some (moveOk g d.2.1 m):=by
 unfold F.er
 rw[Get_eq g _ (by omega),Option.bind_some,Get_eq d.2.1 _ (by omega),Option.bind_some]
 simp only[Holds_eq,Option.bind_some,F.dW,F.dU,F.dV,Bool.cond_eq_ite]
 unfold moveOk useP
 have e:(m.2.2.2.2:Fun)=m.2.2.2.2:=rfl
 rw[e]
 generalize m.2.2.2.2=fz
 cases hs g m.1 with
 |false=>simp
 |true=>
  cases hs d.2.1 m.2.1 with
  |false=>simp
  |true=>
   cases keepB (gt g m.1).2.1 with
   |false=>simp
   |true=>
    by_cases hk:(gt g m.1).2.1=(gt d.2.1 m.2.1).2.1
    ·by_cases h1:m.2.2.1=1
     ·by_cases h2:m.2.2.2.1=0<;>by_cases h6:fz=((0,0,ByteArray.mk #[]):Fun)<;>simp[hk,h1,h2,h6]
     ·by_cases h2:m.2.2.1=2
      ·by_cases h3:(gt g m.1).2.1=11<;>by_cases h4:0≤m.2.2.2.1<;>by_cases h5:m.2.2.2.1≤1048576<;>by_cases h6:fz=((0,0,ByteArray.mk #[]):Fun)<;>simp[←hk,h2,h3,h4,h5,h6]
      ·by_cases h3:m.2.2.1=3<;>simp[hk,h1,h2,h3]
    ·have hk2: ¬(gt d.2.1 m.2.1).2.1=(gt g m.1).2.1:=fun e=>hk e.symm
     simp[hk,hk2]
def tos (l:List Mv):List Int:=l.map fun m:Mv=>m.2.1
theorem moves_P (g:List Nd)(d:Dl)(hi:Inc d.2.1)(hp:d.2.1.length≤1000)(hm:d.2.2.length≤1000):F.dd (mapOf g) d=some (mvF (moveOk g d.2.1) [] d.2.2):=by
 unfold F.dd
 rw[byId_eq _ hi (by omega),Option.bind_some]
 exact A.lp d.2.2 (fun f (s:List (Int×Bool)) y=>F.v (mapOf g) d (mapOf d.2.1) f s y) (fun k l _=>some (mvF (moveOk g d.2.1) (tos (d.2.2.take k)) l)) (fun k s=>∀t,Z.mget false s t=decide (t∈tos (d.2.2.take k)))
  (fun f s hs=>by rw[F.v,if_neg (by omega)];rfl)
  (fun f s k x hx hk hP ih=>by
   rw[F.v,if_pos (by omega),A.ixn hx,Option.bind_some]
   simp only[A.lt,keeps_eq,Option.bind_some,F.a2,Bool.cond_eq_ite,hP,show((0,0,[],(0,0,(ByteArray.mk #[])),(ByteArray.mk #[]),0,0):Nd)=z0 from rfl]
   have htk:tos (d.2.2.take (k+1))=tos (d.2.2.take k)++[x.2.1]:=by unfold tos;rw[take_s hx,List.map_append];rfl
   have hstep:A.gd (Z.R64 ((k:Int)+1)) (F.v (mapOf g) d (mapOf d.2.1) f (Z.mins s x.2.1 true) ((k:Int)+1))=some (mvF (moveOk g d.2.1) (tos (d.2.2.take k)++[x.2.1]) (d.2.2.drop (k+1))):=by
    rw[A.gd1 (A.r64n (by omega)),ih _ fun t=>?_,htk]
    rw[htk,Z.mget_ins,hP]
    by_cases h:t=x.2.1<;>simp[h]
   rw[hstep,show F.dI x=some (useP x)from uses_eq9 x,Option.bind_some,mvF,moveOk]
   change (if(if(!(hs g x.1))=true then true else !(hs d.2.1 x.2.1))=true then _ else if(if(!(keepB (gt g x.1).2.1))=true then true else decide ((gt d.2.1 x.2.1).2.1≠(gt g x.1).2.1))=true then _ else _)=_
   cases hs g x.1 with
   |false=>simp
   |true=>
    cases hs d.2.1 x.2.1 with
    |false=>simp
    |true=>
     cases keepB (gt g x.1).2.1 with
     |false=>simp
     |true=>
      by_cases hk:(gt d.2.1 x.2.1).2.1=(gt g x.1).2.1
      ·by_cases h5:x.2.1∈tos (d.2.2.take k)
       ·simp[hk,h5]
       ·cases h6:useP x with
        |false=>simp[hk,h5]
        |true=>by_cases h7:x.2.2.1=2<;>by_cases h8:(gt g x.1).2.1=11<;>simp[hk,h5,h7,h8]
      ·simp[hk])
  (by have:=FU_big;omega) [] (fun t=>by simp[tos,Z.mget])
theorem may_R1 (g:List Nd)(d:Dl)(k3:Int→Option Bool)(k:Nat)(x:Mv)(hx:d.2.2[k]?=some x)(hm:d.2.2.length≤1000):F.cp k3 d (k:Int) A.FU 0=if x.2.1∈tos (d.2.2.take k)then some false else k3 ((k:Int)+1):=by
 have hk:=(List.getElem?_eq_some_iff.1 hx).1
 have hlen:(d.2.2.take k).length=k:=by rw[List.length_take];omega
 have:=A.lp0 (d.2.2.take k) (fun f y=>F.cp k3 d (k:Int) f y) (fun _ l=>if x.2.1∈tos l then some false else k3 ((k:Int)+1))
  (fun f=>by rw[hlen,F.cp,if_neg (by omega),A.gd1 (A.r64n (by omega))];simp[tos])
  (fun f i m hm2 hi ih=>by
   have hm3:d.2.2[i]?=some m:=by
    rw[List.getElem?_take]at hm2
    split at hm2
    ·exact hm2
    ·cases hm2
   rw[F.cp,if_pos (by omega),A.ixn hm3,Option.bind_some,A.ixn hx,Option.bind_some]
   by_cases h:m.2.1=x.2.1
   ·rw[if_pos h,if_pos (by simp[tos,h])]
   ·rw[if_neg h,A.gd1 (A.r64n (by omega)),ih]
    by_cases h2:x.2.1∈tos ((d.2.2.take k).drop (i+1))
    ·rw[if_pos h2,if_pos (by unfold tos;rw[List.map_cons];exact List.mem_cons_of_mem _ h2)]
    ·rw[if_neg h2,if_neg (by unfold tos;rw[List.map_cons,List.mem_cons];exact fun h3=>h3.elim (fun e=>h e.symm) h2)])
  (by rw[hlen];have:=FU_big;omega)
 exact this
def mayB (g:List Nd)(d:Dl):Bool:=decide ((d.1.length:Int)≤32)&&decide ((d.2.1.length:Int)≤32)&&decide ((d.2.2.length:Int)≤16)&&dropsB g d.1&&putsB g d&&mvF (moveOk g d.2.1) [] d.2.2
theorem puts_inc {g:List Nd}{d:Dl}(h:putsB g d=true):Inc d.2.1:=by
 unfold putsB at h
 rw[Bool.and_eq_true]at h
 exact rise_inc.1 h.2
theorem may_P (g:List Nd)(d:Dl)(h1:d.1.length≤1000)(h2:d.2.1.length≤1000)(h3:d.2.2.length≤1000):F.d4 (mapOf g) d=some (mayB g d):=by
 unfold F.d4 mayB
 simp only[A.ba]
 have e1:F.dS (mapOf g) d=some (dropsB g d.1):=drops_P g d h1
 have e2:F.el (mapOf g) d=some (putsB g d):=puts_P g d h1 h2
 rw[e1,e2]
 simp only[Option.bind_some,F.b7]
 by_cases hl:(((d.1.length:Int)≤32∧(d.2.1.length:Int)≤32)∧(d.2.2.length:Int)≤16)
 ·rw[if_pos (decide_eq_true hl),decide_eq_true hl.1.1,decide_eq_true hl.1.2,decide_eq_true hl.2]
  cases dropsB g d.1 with
  |false=>simp
  |true=>
   cases hpu:putsB g d with
   |false=>simp
   |true=>
    rw[show F.dd (mapOf g) d=some (mvF (moveOk g d.2.1) [] d.2.2)from moves_P g d (puts_inc hpu) h2 h3]
    simp
 ·rw[if_neg (by rw[decide_eq_true_iff];exact hl)]
  by_cases a1:(d.1.length:Int)≤32<;>by_cases a2:(d.2.1.length:Int)≤32<;>by_cases a3:(d.2.2.length:Int)≤16<;>simp[a1,a2,a3]
  exact absurd ⟨⟨a1,a2⟩,a3⟩ hl
theorem may_R (g:List Nd)(d:Dl)(hg:g.length≤1000)(h1:d.1.length≤1000)(h2:d.2.1.length≤1000)(h3:d.2.2.length≤1000):F.eP g d=some (mayB g d):=by
 have loop:F.bX g d A.FU 0=some (mvF (moveOk g d.2.1) [] d.2.2):=
  A.lp0 d.2.2 (fun f y=>F.bX g d f y) (fun k l=>some (mvF (moveOk g d.2.1) (tos (d.2.2.take k)) l))
   (fun f=>by rw[F.bX,if_neg (by omega)];rfl)
   (fun f k x hx hk ih=>by
    rw[F.bX,if_pos (by omega),A.ixn hx,Option.bind_some,show F.er g d x=some (moveOk g d.2.1 x)from move_R g d x hg h2,Option.bind_some,may_R1 g d _ k x hx h3,ih,mvF]
    have htk:tos (d.2.2.take (k+1))=tos (d.2.2.take k)++[x.2.1]:=by unfold tos;rw[take_s hx,List.map_append];rfl
    rw[htk]
    cases moveOk g d.2.1 x with
    |false=>simp
    |true=>by_cases h:x.2.1∈tos (d.2.2.take k)<;>simp[h])
   (by have:=FU_big;omega)
 unfold F.eP mayB
 have e2:F.eR g d=some (putsB g d&&decide ((d.2.1.length:Int)≤32)):=puts_R g d hg h1 h2
 rw[drops_R g d.1 hg h1,e2]
 simp only[Option.bind_some,F.en,loop,Bool.cond_eq_ite]
 by_cases a1:(d.1.length:Int)≤32<;>by_cases a2:(d.2.1.length:Int)≤32<;>by_cases a3:(d.2.2.length:Int)≤16<;>cases dropsB g d.1<;>cases putsB g d<;>simp[a1,a2,a3]<;>omega
theorem made_l2 (m:List (Int×Nd)): ∀(n k f:Nat) (xs:List Nd),k+n=256→n<f→xs.length≤k→F.aU m f xs (k:Int)=some (xs++madeF m n k)
 |0,k,f,xs,hk,hf,hx=>by
  obtain⟨f,rfl⟩: ∃f',f=f'+1:=⟨f-1,by omega⟩
  rw[F.aU,if_neg (by omega),madeF,List.append_nil]
 |n+1,k,f,xs,hk,hf,hx=>by
  obtain⟨f,rfl⟩: ∃f',f=f'+1:=⟨f-1,by omega⟩
  rw[F.aU,if_pos (by omega),A.lt,madeF,show((0,0,[],(0,0,(ByteArray.mk #[])),(ByteArray.mk #[]),0,0):Nd)=z0 from rfl]
  simp only[F.c9]
  by_cases h:Z.mhas m (k:Int)=true
  ·rw[if_pos h,if_pos h,A.gd1 (by simp only[List.length_cons,List.length_nil];omega),A.gd1 (A.r64n (by omega))]
   have:=made_l2 m n (k+1) f (xs++[Z.mget z0 m (k:Int)]) (by omega) (by omega) (by simp only[List.length_append,List.length_cons,List.length_nil];omega)
   refine Eq.trans this ?_
   rw[List.append_assoc];rfl
  ·rw[if_neg h,if_neg h,A.gd1 (A.r64n (by omega))]
   exact made_l2 m n (k+1) f xs (by omega) (by omega) (by omega)
theorem made_l3 (g:List Nd)(d:Dl)(m0:List (Int×Nd))(hg:Inc g)(hp:Inc d.2.1)(hl:d.2.1.length≤1000)(rg: ∀n∈g,0≤n.1∧n.1≤255)(rp: ∀n∈d.2.1,0≤n.1∧n.1≤255)
  (h0: ∀i,Z.mhas m0 i=(hs g i&& !decide (i∈d.1))) (h1: ∀i,Z.mhas m0 i=true→Z.mget z0 m0 i=gt g i):F.br d A.FU m0 0=some (mrgN d.1 g d.2.1):=
 A.lp d.2.1 (fun f (s:List (Int×Nd)) y=>F.br d f s y) (fun _ _ _=>some (mrgN d.1 g d.2.1))
  (fun k s=>∀i,Z.mhas s i=(hs (d.2.1.take k) i||(hs g i&& !decide (i∈d.1)))∧(Z.mhas s i=true→Z.mget z0 s i=if hs (d.2.1.take k) i=true then gt (d.2.1.take k) i else gt g i))
  (fun f s hP=>by
   rw[F.br,if_neg (by omega)]
   rw[List.take_of_length_le (Nat.le_refl _)]at hP
   have e:=made_l2 s 256 0 A.FU [] rfl (by have:=FU_big;omega) (Nat.le_refl _)
   rw[List.nil_append,made_eq hg hp rg rp (fun i=>(hP i).1) (fun i=>(hP i).2)]at e
   exact e)
  (fun f s k x hx hk hP ih=>by
   rw[F.br,if_pos (by omega),A.ixn hx,Option.bind_some,A.gd1 (A.r64n (by omega))]
   have hm:mapOf (d.2.1.take (k+1))=Z.mins (mapOf (d.2.1.take k)) x.1 x:=by
    rw[mins_new (mhas_mapOf fun n hn e=>?_),take_s hx]
    ·simp[mapOf]
    ·obtain⟨i,hi2⟩:=List.getElem?_of_mem hn
     rw[List.getElem?_take]at hi2
     split at hi2
     ·have:=hp.inj hi2 hx e;omega
     ·cases hi2
   refine ih _ fun i=>?_
   obtain⟨p1,p2⟩:=hP i
   change Z.mhas (Z.mins s x.1 x) i=_∧(Z.mhas (Z.mins s x.1 x) i=true→Z.mget z0 (Z.mins s x.1 x) i=_)
   unfold hs gt at*
   rw[hm,Z.mhas_ins,Z.mhas_ins,Z.mget_ins,Z.mget_ins,p1,Bool.or_assoc]
   refine⟨rfl,fun h=>?_⟩
   by_cases e:i=x.1
   ·simp[e]
   ·simp only[e,decide_false,Bool.false_or,if_false]at h ⊢
    exact p2 (by rw[p1];exact h))
  (by have:=FU_big;omega) m0 fun i=>⟨by rw[h0];rfl,fun h=>by rw[h1 i h];rfl⟩
theorem made_P (g:List Nd)(d:Dl)(hg:Inc g)(hp:Inc d.2.1)(h1:g.length≤1000)(hl:d.2.1.length≤1000)(h3:d.1.length≤1000)(rg: ∀n∈g,0≤n.1∧n.1≤255)(rp: ∀n∈d.2.1,0≤n.1∧n.1≤255):F.dJ g d=some (mrgN d.1 g d.2.1):=by
 unfold F.dJ
 rw[byId_eq g hg (by omega),Option.bind_some]
 exact A.lp d.1 (fun f (s:List (Int×Nd)) y=>F.bU d f s y) (fun _ _ _=>some (mrgN d.1 g d.2.1))
  (fun k s=>(s.map Prod.fst).Nodup∧∀i,Z.mhas s i=(hs g i&& !decide (i∈d.1.take k))∧(Z.mhas s i=true→Z.mget z0 s i=gt g i))
  (fun f s hP=>by
   rw[F.bU,if_neg (by omega)]
   rw[List.take_of_length_le (Nat.le_refl _)]at hP
   exact made_l3 g d s hg hp hl rg rp (fun i=>(hP.2 i).1) (fun i=>(hP.2 i).2))
  (fun f s k x hx hk hP ih=>by
   rw[F.bU,if_pos (by omega),A.ixn hx,Option.bind_some,A.gd1 (A.r64n (by omega))]
   obtain⟨n1,n2⟩:=Z.mdel_nodup hP.1 x
   refine ih _ ⟨n1,fun i=>?_⟩
   obtain⟨p1,p2⟩:=hP.2 i
   rw[take_s hx]
   by_cases e:i=x
   ·subst e
    rw[n2];simp
   ·obtain⟨q1,q2⟩:=Z.mdel_ne z0 s x i e
    rw[q2,q1,p1]
    refine⟨by simp[e],fun h=>p2 (by rw[p1];exact h)⟩)
  (by have:=FU_big;omega) (mapOf g) ⟨by
   unfold mapOf;rw[List.map_map]
   exact(List.pairwise_map.2 (hg.imp fun h=>by simp only[Function.comp];omega)),fun i=>⟨by simp[hs],fun _=>rfl⟩⟩
theorem clone_eq9 (n:Nd)(h:n.2.2.1.length≤5000):F.c0 n=some n:=by
 unfold F.c0
 rw[A.gd1 (by simp only[List.length_nil];omega)];rfl
theorem makes_R (g:List Nd)(d:Dl)(hg:Sml g)(hp:Sml d.2.1)(h3:d.1.length≤1000):F.dE g d=some (mrgN d.1 g d.2.1):=by
 have hgl:=hg.1
 have hpl:=hp.1
 have main: ∀(n i k f:Nat) (xs:List Nd),(g.length-i)+(d.2.1.length-k)≤n→n<f→i≤g.length→k≤d.2.1.length→xs.length≤i+k→F.w g d f xs (i:Int) (k:Int)=some (xs++mrgN d.1 (g.drop i) (d.2.1.drop k)):=by
  intro n
  induction n with
  |zero=>
   intro i k f xs hn hf hi hk hx
   obtain⟨f,rfl⟩: ∃f',f=f'+1:=⟨f-1,by omega⟩
   rw[F.w,A.bo,if_neg (by rw[decide_eq_true_iff];omega),List.drop_eq_nil_of_le (by omega),List.drop_eq_nil_of_le (by omega),mrgN,List.append_nil]
  |succ n ih=>
   intro i k f xs hn hf hi hk hx
   obtain⟨f,rfl⟩: ∃f',f=f'+1:=⟨f-1,by omega⟩
   rw[F.w,A.bo]
   have put1: ∀(i2:Nat) (b:Nd),i2≤i+1→i2≤g.length→i≤i2→d.2.1[k]?=some b→F.cU (F.w g d f) d xs (k:Int) (i2:Int)=some (xs++b::mrgN d.1 (g.drop i2) (d.2.1.drop (k+1))):=by
    intro i2 b h1 h2 h4 hb
    have hkl:=(List.getElem?_eq_some_iff.1 hb).1
    rw[F.cU,A.ixn hb,Option.bind_some,show F.c0 b=some b from clone_eq9 b (hp.in (List.mem_of_getElem? hb)),Option.bind_some,A.gd1 (by simp only[List.length_cons,List.length_nil];omega),A.gd1 (A.r64n (by omega))]
    have:=ih i2 (k+1) f (xs++[b]) (by omega) (by omega) (by omega) (by omega) (by simp only[List.length_append,List.length_cons,List.length_nil];omega)
    refine Eq.trans this ?_
    rw[List.append_assoc];rfl
   have take1: ∀a:Nd,g[i]?=some a→F.bl (F.w g d f) g d xs (i:Int) (k:Int) true=some (xs++if a.1∈d.1 then mrgN d.1 (g.drop (i+1)) (d.2.1.drop k)else a::mrgN d.1 (g.drop (i+1)) (d.2.1.drop k)):=by
    intro a ha
    have hil:=(List.getElem?_eq_some_iff.1 ha).1
    rw[F.bl,if_pos rfl,A.ixn ha,Option.bind_some,has_eq d.1 a.1 (by omega),Option.bind_some]
    simp only[F.dD,Option.bind_some]
    by_cases hd:a.1∈d.1
    ·rw[decide_eq_true hd,if_neg (by simp),A.gd1 (A.r64n (by omega)),if_pos hd]
     exact ih (i+1) k f xs (by omega) (by omega) (by omega) (by omega) (by omega)
    ·rw[decide_eq_false hd,if_pos (show(!false)=true from rfl),show F.c0 a=some a from clone_eq9 a (hg.in (List.mem_of_getElem? ha)),Option.bind_some,A.gd1 (by simp only[List.length_cons,List.length_nil];omega),A.gd1 (A.r64n (by omega)),if_neg hd]
     have:=ih (i+1) k f (xs++[a]) (by omega) (by omega) (by omega) (by omega) (by simp only[List.length_append,List.length_cons,List.length_nil];omega)
     refine Eq.trans this ?_
     rw[List.append_assoc];rfl
   by_cases hc:(i:Int)<(g.length:Int)∨(k:Int)<(d.2.1.length:Int)
   ·rw[if_pos (decide_eq_true hc)]
    by_cases hk2:k<d.2.1.length
    ·have hb:d.2.1[k]?=some d.2.1[k]:=List.getElem?_eq_getElem hk2
     rw[if_neg (by omega),A.dropx hb]
     by_cases hi2:i<g.length
     ·have ha:g[i]?=some g[i]:=List.getElem?_eq_getElem hi2
      rw[if_pos (by omega),A.ixn ha,Option.bind_some,A.ixn hb,Option.bind_some,A.dropx ha,mrgN]
      by_cases h1:g[i].1<d.2.1[k].1
      ·rw[decide_eq_true h1,take1 _ ha,if_pos h1,A.dropx hb]
      ·rw[decide_eq_false h1,F.bl,if_neg Bool.false_ne_true,if_pos (by omega),A.ixn ha,Option.bind_some,A.ixn hb,Option.bind_some,if_neg h1,F.cV]
       by_cases h2:g[i].1=d.2.1[k].1
       ·rw[if_pos (decide_eq_true h2),A.gd1 (A.r64n (by omega)),if_pos h2]
        exact put1 (i+1) _ (by omega) (by omega) (by omega) hb
       ·rw[if_neg (by rw[decide_eq_true_iff];exact h2),if_neg h2,put1 i _ (by omega) (by omega) (by omega) hb,A.dropx ha]
     ·rw[if_neg (by omega),F.bl,if_neg Bool.false_ne_true,if_neg (by omega),F.cV,if_neg Bool.false_ne_true,put1 i _ (by omega) (by omega) (by omega) hb,List.drop_eq_nil_of_le (show g.length≤i by omega),mrgN,mrgN]
    ·have ha:g[i]?=some g[i]:=List.getElem?_eq_getElem (by omega)
     rw[if_pos (by omega),take1 _ ha,A.dropx ha,List.drop_eq_nil_of_le (show d.2.1.length≤k by omega),mrgN]
   ·rw[if_neg (by rw[decide_eq_true_iff];exact hc),List.drop_eq_nil_of_le (show g.length≤i by omega),List.drop_eq_nil_of_le (show d.2.1.length≤k by omega),mrgN,List.append_nil]
 have:=main (g.length+d.2.1.length) 0 0 A.FU [] (by omega) (by have:=FU_big;omega) (by omega) (by omega) (Nat.le_refl _)
 exact this
theorem mrgN_sml {g:List Nd}{d:Dl}(hg:Sml g)(hp:Sml d.2.1)(h1:g.length≤60)(h2:d.2.1.length≤60)(i1:Inc g)(i2:Inc d.2.1):Sml (mrgN d.1 g d.2.1):=by
 refine⟨by have:=mrgN_len d.1 _ g d.2.1 (Nat.le_refl _);omega,fun n hn=>?_⟩
 rcases(mrgN_mem d.1 _ g d.2.1 (Nat.le_refl _) i1 i2 n).1 hn with h|h
 ·exact hp.2 n h
 ·exact hg.2 n h.1
structure Made (g:List Nd) (d:Dl) (x:List Nd):Prop where
 good:Good g
 may:mayB g d=true
 eq:x=mrgN d.1 g d.2.1
 new:Good x
 sml:Sml x
theorem Made.inc {g:List Nd}{d:Dl}{x:List Nd}(h:Made g d x):Inc d.2.1:=by
 have:=h.may;unfold mayB at this;simp only[Bool.and_eq_true]at this;exact puts_inc this.1.2
theorem Made.mem {g:List Nd}{d:Dl}{x:List Nd}(h:Made g d x)(n:Nd):n∈x↔n∈d.2.1∨(n∈g∧n.1∉d.1∧∀y∈d.2.1,y.1≠n.1):=by
 rw[h.eq];exact mrgN_mem d.1 _ g d.2.1 (Nat.le_refl _) h.good.inc h.inc n
structure SmD (d:Dl):Prop where
 put:Sml d.2.1
 pl:d.2.1.length≤60
 dl:d.1.length≤60
 ml:d.2.2.length≤60
theorem apply_same (g:List Nd)(d:Dl)(hg:Sml g)(hl:g.length≤60)(hd:SmD d): ∃x e,F.aC g d=some (x,e)∧F.bv g d=some e∧F.c1 g d=some (x,e)∧(e≠0→x=[])∧(e=0→Made g d x):=by
 have hdl:=hd.dl;have hpl:=hd.pl;have hml:=hd.ml
 obtain⟨e1,c1,c2,c3,_⟩:=check_same g hg
 have key: ∃x e,F.aC g d=some (x,e)∧F.bv g d=some e∧(e≠0→x=[])∧(e=0→Made g d x):=by
  unfold F.aC F.bv
  rw[c1,c2,Option.bind_some,Option.bind_some]
  by_cases h0:e1=0
  case neg=>rw[if_pos h0,if_pos h0];exact⟨[],e1,rfl,rfl,fun _=>rfl,fun h=>absurd h h0⟩
  have G:=c3 h0
  rw[if_neg (fun h=>h h0),if_neg (fun h=>h h0),byId_eq g G.inc (by omega),Option.bind_some]
  rw[show F.d4 (mapOf g) d=some (mayB g d)from may_P g d (by omega) (by omega) (by omega),show F.eP g d=some (mayB g d)from may_R g d (by omega) (by omega) (by omega) (by omega),Option.bind_some,Option.bind_some]
  cases hm:mayB g d with
  |false=>exact⟨[],90,rfl,rfl,fun _=>rfl,fun h=>(by cases h)⟩
  |true=>
   simp only[Bool.not_true,Bool.false_eq_true,if_false]
   have hinc:Inc d.2.1:=by have h:=hm;unfold mayB at h;simp only[Bool.and_eq_true]at h;exact puts_inc h.1.2
   have hsm:=mrgN_sml (d:=d) hg hd.put hl hpl G.inc hinc
   obtain⟨e2,k1,k2,k3,k4⟩:=check_same _ hsm
   rw[show F.dE g d=some (mrgN d.1 g d.2.1)from makes_R g d hg hd.put (by omega),Option.bind_some,k2,Option.bind_some]
   have hr:F.r g d A.FU 0=if d.2.1.all (fun n=>decide (1≤n.1∧n.1≤255))=true then(if e2≠0 then some ([],e2)else some (mrgN d.1 g d.2.1,0))else some ([],80):=by
    by_cases hall:d.2.1.all (fun n=>decide (1≤n.1∧n.1≤255))=true
    ·rw[if_pos hall]
     have hall2:=List.all_eq_true.1 hall
     refine A.lp0 d.2.1 (fun f y=>F.r g d f y) (fun _ _=>if e2≠0 then some ([],e2)else some (mrgN d.1 g d.2.1,0)) (fun f=>?_) (fun f k x hx hk ih=>?_) (by have:=FU_big;omega)
     ·rw[F.r,if_neg (by omega),show F.dJ g d=some (mrgN d.1 g d.2.1)from made_P g d G.inc hinc (by omega) (by omega) (by omega) (fun n hn=>by have:=G.id hn;omega) (fun n hn=>by have:=of_decide_eq_true (hall2 n hn);omega),Option.bind_some,k1,Option.bind_some]
      by_cases h2:e2=0
      ·rw[if_neg (fun h=>h h2),if_neg (fun h=>h h2),Clone_eq _ (by have:=(k3 h2).len;omega) (fun n hn=>hsm.in hn)];rfl
      ·rw[if_pos h2,if_pos h2]
     ·have:=of_decide_eq_true (hall2 x (List.mem_of_getElem? hx))
      rw[F.r,if_pos (by omega),A.ixn hx,Option.bind_some,A.bo,if_neg (by rw[decide_eq_true_iff];omega),A.gd1 (A.r64n (by omega)),ih]
    ·rw[if_neg hall]
     have:=A.lp0 d.2.1 (fun f y=>F.r g d f y) (fun k l=>if l.all (fun n=>decide (1≤n.1∧n.1≤255))=true then F.r g d 1 (d.2.1.length:Int)else some ([],80))
      (fun f=>by
       rw[F.r,if_neg (by omega)]
       show _=F.r g d (0+1) (d.2.1.length:Int)
       rw[F.r,if_neg (by omega)])
      (fun f k x hx hk ih=>by
       rw[F.r,if_pos (by omega),A.ixn hx,Option.bind_some,A.bo]
       have e: ∀r:List Nd,(x::r).all (fun n=>decide (1≤n.1∧n.1≤255))=(decide (1≤x.1∧x.1≤255)&&r.all (fun n=>decide (1≤n.1∧n.1≤255))):=fun r=>rfl
       simp only[e]
       by_cases h:1≤x.1∧x.1≤255
       ·rw[if_neg (by rw[decide_eq_true_iff];omega),A.gd1 (A.r64n (by omega)),ih,decide_eq_true h,Bool.true_and]
       ·rw[if_pos (by rw[decide_eq_true_iff];omega),decide_eq_false h,Bool.false_and,if_neg Bool.false_ne_true])
      (by have:=FU_big;omega)
     rw[if_neg hall]at this
     exact this
   rw[hr]
   by_cases hall:d.2.1.all (fun n=>decide (1≤n.1∧n.1≤255))=true
   ·rw[if_pos hall]
    by_cases h2:e2=0
    ·rw[if_neg (fun h=>h h2)]
     exact⟨_,0,rfl,by rw[h2],fun h=>absurd rfl h,fun _=>⟨G,hm,rfl,k3 h2,hsm⟩⟩
    ·rw[if_pos h2]
     exact⟨[],e2,rfl,rfl,fun _=>rfl,fun h=>absurd h h2⟩
   ·rw[if_neg hall]
    have h80:e2=80:=k4 (by
     rw[List.all_eq_true]at hall
     simp only[Classical.not_forall]at hall
     obtain⟨n,hn,h⟩:=hall
     rw[decide_eq_true_iff]at h
     exact⟨n,(mrgN_mem d.1 _ g d.2.1 (Nat.le_refl _) G.inc hinc n).2 (.inl hn),by omega⟩)
    exact⟨[],80,rfl,by rw[h80],fun _=>rfl,fun h=>(by cases h)⟩
 obtain⟨x,e,a1,a2,a3,a4⟩:=key
 refine⟨x,e,a1,a2,?_,a3,a4⟩
 unfold F.c1
 rw[show F.bv g d=some e from a2,Option.bind_some]
 by_cases h:e=0
 ·rw[if_neg (fun h2=>h2 h),show F.dE g d=some (mrgN d.1 g d.2.1)from makes_R g d hg hd.put (by omega),(a4 h).eq,h];rfl
 ·rw[if_pos h,a3 h]
theorem sml_nil:Sml []:=⟨by simp,by simp⟩
structure SzD (d:Dl):Prop where
 put:Sml d.2.1
 dl:d.1.length≤1000
 ml:d.2.2.length≤1000
theorem SmD.sz {d:Dl}(h:SmD d):SzD d:=⟨h.put,by have:=h.dl;omega,by have:=h.ml;omega⟩
theorem dl_ext {x y:Dl}:x=y↔x.1=y.1∧x.2.1=y.2.1∧x.2.2=y.2.2:=by
 obtain⟨a,b,c⟩:=x;obtain⟨a',b',c'⟩:=y;simp only[Prod.mk.injEq]
theorem R_SameD (d e:Dl)(hd:SzD d):F.dG d e=some (decide (d=e)):=by
 have h1:=hd.dl;have h2:=hd.ml
 have x:=dl_ext (x:=d) (y:=e)
 unfold F.dG
 rw[R_sameInts _ _ (by omega),Option.bind_some,R_Same _ _ hd.put,Option.bind_some]
 by_cases c1:d.1=e.1
 case neg=>rw[decide_eq_false c1,Bool.not_false,if_pos rfl,F.cz,if_pos rfl,decide_eq_false (fun h=>c1 (x.1 h).1)]
 rw[decide_eq_true c1,Bool.not_true,if_neg Bool.false_ne_true]
 by_cases c2:d.2.1=e.2.1
 case neg=>rw[decide_eq_false c2,Bool.not_false,cond_true,F.cz,if_pos rfl,decide_eq_false (fun h=>c2 (x.1 h).2.1)]
 rw[decide_eq_true c2,Bool.not_true,cond_false,F.cz]
 by_cases c3:d.2.2.length=e.2.2.length
 case neg=>rw[if_pos (by rw[decide_eq_true_iff];omega),decide_eq_false (fun h=>c3 (by rw[(x.1 h).2.2]))]
 rw[if_neg (by rw[decide_eq_true_iff];omega),A.eqk d.2.2 e.2.2 (fun f y=>F.cy d e f y) (some true) (some false) c3 (fun f=>by rw[F.cy,if_neg (by omega)])
  (fun f k u v hu hv hk=>by
   rw[F.cy,if_pos (by omega),A.ixn hu,Option.bind_some,A.ixn hv,Option.bind_some]
   by_cases h:u=v
   ·rw[if_neg (show ¬(u≠v)from fun hn=>hn h),if_pos h,A.gd1 (A.r64n (by omega))]
   ·rw[if_pos (show(u≠v)from fun hn=>h hn),if_neg h]) (by have:=FU_big;omega),A.ite_dec]
 congr 1
 exact decide_eq_decide.2 ⟨fun h=>x.2 ⟨c1,c2,h⟩,fun h=>(x.1 h).2.2⟩
theorem EqM (a b:List Mv)(ha:a.length≤1000):F.ac a b=some (decide (a=b)):=by
 unfold F.ac
 by_cases hl:a.length=b.length
 ·rw[if_neg (by omega)]
  rw[A.eqk a b (fun f y=>F.i a b f y) (some true) (some false) hl (fun f=>by rw[F.i,if_neg (by omega)])
   (fun f k u v hu hv hk=>by
    rw[F.i,if_pos (by omega),A.ixn hu,Option.bind_some,A.ixn hv,Option.bind_some]
    by_cases h:u=v
    ·rw[if_neg (show ¬(u≠v)from fun hn=>hn h),if_pos h,A.gd1 (A.r64n (by omega))]
    ·rw[if_pos (show(u≠v)from fun hn=>h hn),if_neg h]) (by have:=FU_big;omega),A.ite_dec]
 ·rw[if_pos (by omega),decide_eq_false (fun e=>hl (by rw[e]))]
theorem P_SameD (d e:Dl)(hd:SzD d):F.cm d e=some (decide (d=e)):=by
 have h1:=hd.dl;have h2:=hd.ml
 have x:=dl_ext (x:=d) (y:=e)
 unfold F.cm F.dM
 rw[EqI _ _ (by omega),Option.bind_some,Option.bind_some,P_Same _ _ hd.put,Option.bind_some,EqM _ _ h2,Option.bind_some]
 simp only[F.cj]
 by_cases c1:d.1=e.1
 case neg=>rw[if_neg (by rw[decide_eq_true_iff];exact c1),decide_eq_false (fun h=>c1 (x.1 h).1)]
 by_cases c2:d.2.1=e.2.1
 case neg=>rw[if_pos (decide_eq_true c1),if_neg (by rw[decide_eq_true_iff];exact c2),decide_eq_false (fun h=>c2 (x.1 h).2.1)]
 rw[if_pos (decide_eq_true c1),if_pos (decide_eq_true c2)]
 congr 1
 exact decide_eq_decide.2 ⟨fun h=>x.2 ⟨c1,c2,h⟩,fun h=>(x.1 h).2.2⟩
abbrev Nt:=Int×Int×Int×Dl×Int
abbrev nilD:Dl:=([],[],[])
abbrev nilN:Nt:=(0,0,0,([],[],[]),0)
def apV (g:List Nd)(d:Dl):List Nd×Int:=(F.aC g d).getD ([],0)
def chkG (g:List Nd):Int:=(F.a5 g).getD 0
structure GS (g:List Nd):Prop where
 good:Good g
 sml:Sml g
theorem chkG_eq {g:List Nd}(hs:Sml g):F.a5 g=some (chkG g)∧F.cr g=some (chkG g)∧(chkG g=0→GS g):=by
 obtain⟨e,h1,h2,h3,_⟩:=check_same g hs
 have:chkG g=e:=by unfold chkG;rw[h1];rfl
 rw[this];exact⟨h1,h2,fun h=>⟨h3 h,hs⟩⟩
theorem apV_eq {g:List Nd}{d:Dl}(G:GS g)(hd:SmD d):F.aC g d=some (apV g d)∧F.b0 g d=some (apV g d).2∧F.bv g d=some (apV g d).2∧F.c1 g d=some (apV g d)∧((apV g d).2=0→GS (apV g d).1):=by
 obtain⟨x,e,a1,a2,a3,a4,a5⟩:=apply_same g d G.sml (by have:=G.good.len;omega) hd
 have:apV g d=(x,e):=by unfold apV;rw[a1];rfl
 rw[this]
 refine⟨a1,?_,a2,a3,fun h=>⟨(a5 h).new,(a5 h).sml⟩⟩
 unfold F.b0
 rw[show F.aC g d=some (x,e)from a1];rfl
structure RS where
 g:List Nd
 ver:Int
 cut:Int
 op:Option Nt
 hs:List (List Nd×Int×Dl)
def jst (s:RS)(n:Nt):Option RS:=
 if n.1=1 then
  if s.op.isSome=false∧n.2.1=s.ver∧n.2.2.2.2=0∧s.cut<n.2.2.1∧n.2.2.1≤1073741824∧(apV s.g n.2.2.2.1).2=0 then some ⟨s.g,s.ver,s.cut,some n,s.hs⟩else none
 else match s.op with
  |none=>none
  |some o=>
   if n.2.2.1=o.2.2.1∧n.2.2.2.1=nilD then
    if n.1=2 then
     if n.2.1=s.ver+1∧n.2.2.2.2=0 then some ⟨(apV s.g o.2.2.2.1).1,s.ver+1,o.2.2.1,none,s.hs++[((apV s.g o.2.2.2.1).1,o.2.2.1,o.2.2.2.1)]⟩else none
    else if n.1=3 then
     if n.2.1=s.ver∧n.2.2.2.2≠0 then some ⟨s.g,s.ver,s.cut,none,s.hs⟩else none
    else none
   else none
def jrun:RS→List Nt→Option RS
 |s,[]=>some s
 |s,n::r=>match jst s n with
  |none=>none
  |some t=>jrun t r
def Chn:List Nd→Int→List (List Nd×Int×Dl)→List Nd→Int→Prop
 |g,c,[],g',c'=>g=g'∧c=c'∧GS g
 |g,c,x::r,g',c'=>GS g∧SmD x.2.2∧c<x.2.1∧apV g x.2.2=(x.1,0)∧Chn x.1 x.2.1 r g' c'
theorem Chn.gs: ∀{l:List (List Nd×Int×Dl)} {g:List Nd} {c:Int} {g':List Nd} {c':Int},Chn g c l g' c'→GS g
 | [],_,_,_,_,h=>h.2.2
 |_::_,_,_,_,_,h=>h.1
theorem Chn.snoc {x:List Nd×Int×Dl}: ∀{l:List (List Nd×Int×Dl)} {g:List Nd} {c:Int} {g':List Nd} {c':Int},Chn g c l g' c'→SmD x.2.2→c'<x.2.1→apV g' x.2.2=(x.1,0)→Chn g c (l++[x]) x.1 x.2.1
 | [],g,c,g',c',h,h1,h2,h3=>by
  obtain⟨rfl,rfl,G⟩:=h
  refine⟨G,h1,h2,h3,rfl,rfl,?_⟩
  have:=(apV_eq G h1).2.2.2.2
  rw[h3]at this;exact this rfl
 |y::l,g,c,g',c',h,h1,h2,h3=>by
  obtain⟨a1,a2,a3,a4,a5⟩:=h
  exact⟨a1,a2,a3,a4,Chn.snoc a5 h1 h2 h3⟩
theorem Chn.le: ∀{l:List (List Nd×Int×Dl)} {g:List Nd} {c:Int} {g':List Nd} {c':Int},Chn g c l g' c'→c≤c'∧∀x∈l,c<x.2.1∧x.2.1≤c'
 | [],_,_,_,_,h=>⟨by have:=h.2.1;omega,fun x hx=>by cases hx⟩
 |y::l,g,c,g',c',h=>by
  obtain⟨a1,a2,a3,a4,a5⟩:=h
  obtain⟨h1,h2⟩:=a5.le
  refine⟨by omega,fun x hx=>?_⟩
  rcases List.mem_cons.1 hx with rfl|hx
  ·exact⟨a3,h1⟩
  ·have:=h2 x hx;omega
structure JI (f:List Nd) (s:RS) (k:Nat):Prop where
 gs:GS s.g
 op: ∀o,s.op=some o→SmD o.2.2.2.1∧(apV s.g o.2.2.2.1).2=0∧s.cut<o.2.2.1∧o.2.2.1≤1073741824
 ver:s.ver=(s.hs.length:Int)
 len:s.hs.length≤k
 cut:0≤s.cut∧s.cut≤1073741824
 chn:Chn f 0 s.hs s.g s.cut
theorem JI.ch {f:List Nd}{s:RS}{k:Nat}(h:JI f s k)(o:Nt)(ho:s.op=some o):apV s.g o.2.2.2.1=((apV s.g o.2.2.2.1).1,0):=by
 have:=(h.op o ho).2.1
 rw[←this]
theorem jst_inv {f:List Nd}{s t:RS}{k:Nat}{n:Nt}(h:JI f s k)(hn:SmD n.2.2.2.1)(hj:jst s n=some t):JI f t (k+1):=by
 unfold jst at hj
 by_cases h1:n.1=1
 ·rw[if_pos h1]at hj
  split at hj
  case isFalse=>cases hj
  case isTrue c=>
   obtain⟨c1,c2,c3,c4,c5,c6⟩:=c
   injection hj with hj;subst hj
   exact⟨h.gs,fun o ho=>by injection ho with ho;subst ho;exact⟨hn,c6,c4,c5⟩,h.ver,by have:=h.len;show s.hs.length≤k+1;omega,h.cut,h.chn⟩
 ·rw[if_neg h1]at hj
  cases ho:s.op with
  |none=>rw[ho]at hj;cases hj
  |some o=>
   rw[ho]at hj
   obtain⟨p1,p2,p3,p4⟩:=h.op o ho
   simp only at hj
   split at hj
   case isFalse=>cases hj
   case isTrue=>
    split at hj
    ·split at hj
     ·injection hj with hj;subst hj
      have hc:Chn f 0 (s.hs++[((apV s.g o.2.2.2.1).1,o.2.2.1,o.2.2.2.1)]) (apV s.g o.2.2.2.1).1 o.2.2.1:=Chn.snoc (x:=((apV s.g o.2.2.2.1).1,o.2.2.1,o.2.2.2.1)) h.chn p1 p3 (h.ch o ho)
      refine⟨(apV_eq h.gs p1).2.2.2.2 p2,fun o' ho'=>(by cases ho'),?_,?_,⟨?_,p4⟩,hc⟩
      ·show s.ver+1=((s.hs++[_]).length:Int)
       rw[List.length_append,h.ver];simp
      ·show(s.hs++[_]).length≤k+1
       rw[List.length_append];have:=h.len;simp;omega
      ·show 0≤o.2.2.1
       have:=h.cut.1;omega
     ·cases hj
    ·split at hj
     ·split at hj
      ·injection hj with hj;subst hj
       exact⟨h.gs,fun o' ho'=>(by cases ho'),h.ver,by have:=h.len;show s.hs.length≤k+1;omega,h.cut,h.chn⟩
      ·cases hj
     ·cases hj
def pr (s:RS):List Nd×Int×Int×List Nt:=(s.g,s.ver,s.cut,s.op.toList)
def s0 (g:List Nd):RS:=⟨g,0,0,none,[]⟩
theorem ji0 {g:List Nd}(G:GS g):JI g (s0 g) 0:=⟨G,fun o ho=>(by cases ho),rfl,Nat.le_refl _,⟨Int.le_refl _,(by show(0:Int)≤1073741824;decide)⟩,rfl,rfl,G⟩
def jok (x:Option RS)(b:Bool)(u:List Nd×Int×Int×List Nt):Prop:=match x with
 |some t=>b=true∧u=pr t
 |none=>b=false
theorem plain_eq (n:Nt)(hn:SmD n.2.2.2.1):F.ck n=some (decide (n.2.2.2.1=nilD)&&(decide (n.1=2)==decide (n.2.2.2.2=0))):=by
 unfold F.ck
 rw[show F.cm n.2.2.2.1 ([],[],[])=some (decide (n.2.2.2.1=nilD))from P_SameD n.2.2.2.1 nilD hn.sz,Option.bind_some]
 by_cases h:n.2.2.2.1=nilD<;>simp[h]
theorem P_next {f:List Nd}{s:RS}{k:Nat}(n:Nt)(h:JI f s k)(hk:k≤2000)(hn:SmD n.2.2.2.1): ∃b u,F.a3 (pr s) n=some (b,u)∧jok (jst s n) b u:=by
 have hv:Z.R64 (s.ver+1):=by have h1:=h.ver;have h2:=h.len;exact⟨by omega,by omega⟩
 unfold F.a3 jst
 by_cases h1:n.1=1
 ·rw[if_pos h1,if_pos h1]
  unfold F.cl
  cases ho:s.op with
  |some o=>
   rw[if_pos (by simp[pr,ho])]
   refine⟨false,_,rfl,?_⟩
   rw[if_neg (by simp)];rfl
  |none=>
   by_cases hc:((n.2.1≠s.ver∨n.2.2.2.2≠0)∨n.2.2.1≤s.cut)∨1073741824<n.2.2.1
   ·rw[if_pos (by simp only[pr,ho,Option.toList_none,List.isEmpty_nil,Bool.not_true,cond_false,A.bo,decide_eq_true_eq];exact hc)]
    refine⟨false,_,rfl,?_⟩
    rw[if_neg (by omega)];rfl
   ·rw[if_neg (by simp only[pr,ho,Option.toList_none,List.isEmpty_nil,Bool.not_true,cond_false,A.bo,decide_eq_true_eq];exact hc)]
    rw[show F.b0 (pr s).1 n.2.2.2.1=some (apV s.g n.2.2.2.1).2 from(apV_eq h.gs hn).2.1,Option.bind_some]
    by_cases hz:(apV s.g n.2.2.2.1).2=0
    ·rw[show decide ((apV s.g n.2.2.2.1).2≠0)=false from decide_eq_false (fun k=>k hz),F.ay,if_neg Bool.false_ne_true]
     refine⟨true,_,rfl,?_⟩
     rw[if_pos (by refine⟨by simp,?_⟩;omega)];exact⟨rfl,rfl⟩
    ·rw[show decide ((apV s.g n.2.2.2.1).2≠0)=true from decide_eq_true hz,F.ay,if_pos rfl]
     refine⟨false,_,rfl,?_⟩
     rw[if_neg (fun h=>hz h.2.2.2.2.2)];rfl
 ·rw[if_neg h1,if_neg h1]
  by_cases h23:n.1=2∨n.1=3
  case neg=>
   rw[if_neg (by omega),if_neg (by omega)]
   refine⟨false,_,rfl,?_⟩
   cases s.op with
   |none=>rfl
   |some o=>
    simp only
    split
    ·rw[if_neg (by omega),if_neg (by omega)];rfl
    ·rfl
  case pos=>
   have e:(if n.1=2 then F.z (pr s) n else if n.1=3 then F.z (pr s) n else some (false,((pr s).1,(pr s).2.1,(pr s).2.2.1,(pr s).2.2.2)))=F.z (pr s) n:=by
    rcases h23 with h2|h3
    ·rw[if_pos h2]
    ·rw[if_neg (by omega),if_pos h3]
   rw[e]
   unfold F.z F.cn
   cases ho:s.op with
   |none=>
    rw[if_pos (by simp[pr,ho]),F.h,if_pos rfl]
    exact⟨false,_,rfl,rfl⟩
   |some o=>
    obtain⟨p1,p2,p3,p4⟩:=h.op o ho
    have hop:(pr s).2.2.2=[o]:=by simp[pr,ho]
    simp only
    rw[if_neg (by simp[pr,ho])]
    rw[show A.ix ((pr s).1,(pr s).2.1,(pr s).2.2.1,(pr s).2.2.2).2.2.2 0=some o from by rw[show((pr s).1,(pr s).2.1,(pr s).2.2.1,(pr s).2.2.2).2.2.2=[o]from hop];rfl,Option.bind_some]
    by_cases hc:n.2.2.1=o.2.2.1
    case neg=>
     rw[if_pos hc,F.h,if_pos rfl]
     refine⟨false,_,rfl,?_⟩
     rw[if_neg (fun h=>hc h.1)];rfl
    rw[if_neg (fun h=>h hc),show F.ck _=_ from plain_eq n hn,Option.bind_some]
    by_cases hd:n.2.2.2.1=nilD
    case neg=>
     rw[decide_eq_false hd,Bool.false_and,Bool.not_false,F.h,if_pos rfl]
     refine⟨false,_,rfl,?_⟩
     rw[if_neg (fun h=>hd h.2)];rfl
    rw[decide_eq_true hd,Bool.true_and,if_pos ⟨hc,hd⟩]
    rcases h23 with h2|h3
    ·rw[decide_eq_true h2,if_pos h2]
     by_cases hw:n.2.2.2.2=0
     case neg=>
      rw[decide_eq_false hw,show(!(true==false))=true from rfl,F.h,if_pos rfl]
      refine⟨false,_,rfl,?_⟩
      rw[if_neg (fun h=>hw h.2)];rfl
     rw[decide_eq_true hw,show(!(true==true))=false from rfl,F.h,if_neg Bool.false_ne_true,if_neg (show ¬n.1=3 by omega)]
     rw[show A.ix ((pr s).1,(pr s).2.1,(pr s).2.2.1,(pr s).2.2.2).2.2.2 0=some o from by rw[show((pr s).1,(pr s).2.1,(pr s).2.2.1,(pr s).2.2.2).2.2.2=[o]from hop];rfl,Option.bind_some]
     rw[show F.aC ((pr s).1,(pr s).2.1,(pr s).2.2.1,(pr s).2.2.2).1 o.2.2.2.1=some (apV s.g o.2.2.2.1)from(apV_eq h.gs p1).1,Option.bind_some,F.bR]
     rw[show A.ix ((pr s).1,(pr s).2.1,(pr s).2.2.1,(pr s).2.2.2).2.2.2 0=some o from by rw[show((pr s).1,(pr s).2.1,(pr s).2.2.1,(pr s).2.2.2).2.2.2=[o]from hop];rfl,Option.bind_some]
     rw[A.gd1 (show Z.R64 (((pr s).1,(pr s).2.1,(pr s).2.2.1,(pr s).2.2.2).2.1+1)from hv),decide_eq_true p2,cond_true]
     refine⟨decide (n.2.1=s.ver+1),_,rfl,?_⟩
     by_cases hvv:n.2.1=s.ver+1
     ·rw[if_pos ⟨hvv,hw⟩];exact⟨decide_eq_true hvv,rfl⟩
     ·rw[if_neg (fun h=>hvv h.1)];exact decide_eq_false hvv
    ·rw[decide_eq_false (show ¬n.1=2 by omega),if_neg (show ¬n.1=2 by omega),if_pos h3]
     by_cases hw:n.2.2.2.2=0
     case pos=>
      rw[decide_eq_true hw,show(!(false==true))=true from rfl,F.h,if_pos rfl]
      refine⟨false,_,rfl,?_⟩
      rw[if_neg (fun h=>h.2 hw)];rfl
     rw[decide_eq_false hw,show(!(false==false))=false from rfl,F.h,if_neg Bool.false_ne_true,if_pos h3]
     refine⟨decide (n.2.1=s.ver),_,rfl,?_⟩
     by_cases hvv:n.2.1=s.ver
     ·rw[if_pos ⟨hvv,hw⟩];exact⟨decide_eq_true hvv,rfl⟩
     ·rw[if_neg (fun h=>hvv h.1)];exact decide_eq_false hvv
abbrev Lg:=List Nd×List Nt
def jwh (l:Lg):Option RS×Int:=if chkG l.1≠0 then(none,chkG l.1)else match jrun (s0 l.1) l.2 with
 |some s=>(some s,0)
 |none=>(none,220)
structure SmL (l:Lg):Prop where
 first:Sml l.1
 fl:l.1.length≤60
 notes: ∀n∈l.2,SmD n.2.2.2.1
 len:l.2.length≤1000
theorem jrun_inv {f:List Nd}: ∀{l:List Nt} {s t:RS} {k:Nat},JI f s k→(∀n∈l,SmD n.2.2.2.1)→jrun s l=some t→JI f t (k+l.length)
 | [],s,t,k,h,_,hj=>by injection hj with hj;subst hj;exact h
 |n::l,s,t,k,h,hn,hj=>by
  unfold jrun at hj
  cases hs:jst s n with
  |none=>rw[hs]at hj;cases hj
  |some u=>
   rw[hs]at hj
   have:=jrun_inv (jst_inv h (hn n (List.mem_cons_self ..)) hs) (fun m hm=>hn m (List.mem_cons_of_mem _ hm)) hj
   rw[List.length_cons,show k+(l.length+1)=k+1+l.length by omega];exact this
theorem jwh_some {l:Lg}{s:RS}(hl:SmL l)(h:(jwh l).1=some s):JI l.1 s l.2.length∧(jwh l).2=0∧jrun (s0 l.1) l.2=some s∧chkG l.1=0:=by
 unfold jwh at h ⊢
 by_cases h0:chkG l.1=0
 ·rw[if_neg (fun k=>k h0)]at h ⊢
  cases hr:jrun (s0 l.1) l.2 with
  |none=>rw[hr]at h;cases h
  |some t=>
   rw[hr]at h;injection h with h;subst h
   refine⟨?_,rfl,rfl,h0⟩
   have:=jrun_inv (ji0 ((chkG_eq hl.first).2.2 h0)) hl.notes hr
   rw[Nat.zero_add]at this;exact this
 ·rw[if_pos h0]at h;cases h
theorem jwh_none {l:Lg}(h:(jwh l).1=none):(jwh l).2≠0:=by
 unfold jwh at h ⊢
 by_cases h0:chkG l.1=0
 ·rw[if_neg (fun k=>k h0)]at h ⊢
  cases hr:jrun (s0 l.1) l.2 with
  |none=>exact fun h=>by cases h
  |some t=>rw[hr]at h;cases h
 ·rw[if_pos h0];exact h0
def wres (x:Option RS):Option (List Nd×Int×Int×List Nt)×Int:=match x with
 |some s=>(some (pr s),0)
 |none=>(none,220)
theorem jwhole_P (l:Lg)(hl:SmL l):F.ai l=some ((jwh l).1.map pr,(jwh l).2):=by
 obtain⟨c1,c2,c3⟩:=chkG_eq hl.first
 unfold F.ai jwh
 rw[c1,Option.bind_some]
 by_cases h0:chkG l.1=0
 case neg=>rw[if_pos h0,if_pos h0];rfl
 rw[if_neg (show ¬chkG l.1≠0 from fun k=>k h0),if_neg (show ¬chkG l.1≠0 from fun k=>k h0),if_neg (by have:=hl.len;omega)]
 have:=A.lp l.2 (fun f (s:RS) y=>F.aX l f s.g s.op.toList s.ver s.cut y) (fun _ r s=>some (wres (jrun s r))) (fun k s=>JI l.1 s k)
  (fun f s h=>by rw[F.aX,if_neg (by omega)];rfl)
  (fun f s k n hx hk h ih=>by
   have hk2:=hl.len
   obtain⟨b,u,e1,e2⟩:=P_next n h (by omega) (hl.notes n (List.mem_of_getElem? hx))
   rw[F.aX,if_pos (by omega),A.ixn hx,Option.bind_some,show F.a3 (s.g,s.ver,s.cut,s.op.toList) (n.1,n.2.1,n.2.2.1,n.2.2.2.1,n.2.2.2.2)=some (b,u)from e1,Option.bind_some]
   show _=some (wres (match jst s n with|none=>none|some t=>jrun t (l.2.drop (k+1))))
   cases hj:jst s n with
   |none=>rw[hj]at e2;obtain rfl:=(show b=false from e2);rfl
   |some t=>
    rw[hj]at e2
    obtain⟨rfl,rfl⟩:=(show b=true∧u=pr t from e2)
    rw[if_neg (by simp),A.gd1 (A.r64n (by omega))]
    exact ih t (jst_inv h (hl.notes n (List.mem_of_getElem? hx)) hj))
  (by have:=FU_big;have:=hl.len;omega) (s0 l.1) (ji0 (c3 h0))
 refine Eq.trans this ?_
 cases jrun (s0 l.1) l.2<;>rfl
theorem note_eq (n:Nt)(h:SmD n.2.2.2.1):F.bc n=some n:=by
 have h1:=h.dl;have h2:=h.ml;have h3:=h.pl
 unfold F.bc F.dk
 rw[A.gd1 (by omega),A.gd1 (by omega),A.gd1 List.length_replicate,A.gd1 List.length_replicate,Clone_eq _ (by omega) (fun m hm=>(h.put.2 m hm).1),Option.bind_some]
theorem with_eq (l:Lg)(n:Nt)(hl:SmL l)(hn:SmD n.2.2.2.1):F.aN l n=some (l.1,l.2++[n]):=by
 unfold F.aN
 rw[Clone_eq _ (by have:=hl.fl;omega) (fun m hm=>(hl.first.2 m hm).1),Option.bind_some]
 exact A.lp l.2 (fun f (s:List Nt) y=>F.bd l n l.1 f s y) (fun _ r s=>some (l.1,s++r++[n])) (fun k s=>s.length=k)
  (fun f s hs=>by
   have:=hl.len
   rw[F.bd,if_neg (by omega),show F.bc (n.1,n.2.1,n.2.2.1,n.2.2.2.1,n.2.2.2.2)=some n from note_eq n hn,Option.bind_some,A.gd1 (by simp only[List.length_cons,List.length_nil];omega),List.append_nil])
  (fun f s k x hx hk hs ih=>by
   have:=hl.len
   rw[F.bd,if_pos (by omega),A.ixn hx,Option.bind_some,show F.bc (x.1,x.2.1,x.2.2.1,x.2.2.2.1,x.2.2.2.2)=some x from note_eq x (hl.notes x (List.mem_of_getElem? hx)),Option.bind_some,A.gd1 (by simp only[List.length_cons,List.length_nil];omega),A.gd1 (A.r64n (by omega))]
   refine(ih (s++[x]) (by rw[List.length_append,hs];rfl)).trans ?_
   rw[List.append_assoc s];rfl)
  (by have:=FU_big;have:=hl.len;omega) [] rfl
theorem jcheck (l:Lg)(hl:SmL l):F.bs l=some (jwh l).2:=by
 unfold F.bs
 rw[show F.ai l=_ from jwhole_P l hl,Option.bind_some]
 cases (jwh l).1<;>rfl
def jNew (g:List Nd):Lg×Int:=if chkG g≠0 then(([],[]),chkG g)else((g,[]),0)
theorem P_New (g:List Nd)(hg:Sml g)(h:g.length≤60):F.de g=some (jNew g):=by
 unfold F.de jNew
 rw[(chkG_eq hg).1,Option.bind_some]
 by_cases h0:chkG g=0
 ·rw[if_neg (fun k=>k h0),if_neg (fun k=>k h0),Clone_eq _ (by omega) (fun m hm=>(hg.2 m hm).1),Option.bind_some]
 ·rw[if_pos h0,if_pos h0]
def eL:Lg:=([],[])
def askJ (l:Lg)(d:Dl)(cut:Int)(s:RS):Lg×Int:=if s.op.isSome=true then(eL,9)else if(1023:Int)≤(l.2.length:Int)then(eL,3)else if cut<1∨1073741824<cut then(eL,1)else if cut≤s.cut then(eL,190)else if(apV s.g d).2≠0 then(eL,(apV s.g d).2)else((l.1,l.2++[(1,s.ver,cut,d,0)]),0)
def doneJ (l:Lg)(s:RS):Lg×Int:=match s.op with
 |none=>(eL,4)
 |some o=>((l.1,l.2++[(2,s.ver+1,o.2.2.1,nilD,0)]),0)
def backJ (l:Lg)(why:Int)(s:RS):Lg×Int:=match s.op with
 |none=>(eL,4)
 |some o=>if why=0 then(eL,1)else((l.1,l.2++[(3,s.ver,o.2.2.1,nilD,why)]),0)
def jof {α:Type}(l:Lg)(z:α)(f:RS→α×Int):α×Int:=match(jwh l).1 with
 |none=>(z,(jwh l).2)
 |some s=>f s
theorem jof_om {α β:Type}{l:Lg}{z:α}{f:RS→α×Int}(π:RS→β)(hl:SmL l)(k:β→Option (α×Int))(h: ∀s,JI l.1 s l.2.length→(jwh l).1=some s→k (π s)=some (f s)):
  A.om ((jwh l).1.map π) (if(jwh l).2≠0 then some (z,(jwh l).2)else none) (fun p=>if(jwh l).2≠0 then some (z,(jwh l).2)else k p)=some (jof l z f):=by
 unfold jof
 cases hs:(jwh l).1 with
 |none=>exact if_pos (jwh_none hs)
 |some s=>
  obtain⟨J,e0,_,_⟩:=jwh_some hl hs
  show(if(jwh l).2≠0 then _ else k (π s))=some (f s)
  rw[if_neg (fun k=>k e0)];exact h s J hs
theorem op_empty (s:RS):(!(pr s).2.2.2.isEmpty)=s.op.isSome:=by unfold pr;cases s.op<;>rfl
theorem smd_nil:SmD nilD:=⟨sml_nil,by simp,by simp,by simp⟩
theorem P_Ask (l:Lg)(d:Dl)(cut:Int)(hl:SmL l)(hd:SmD d):F.ct l d cut=some (jof l eL (askJ l d cut)):=by
 unfold F.ct
 rw[show F.ai l=_ from jwhole_P l hl,Option.bind_some]
 refine jof_om pr hl _ fun s J hs=>?_
 unfold askJ
 rw[op_empty]
 by_cases h1:s.op.isSome=true
 ·rw[if_pos h1,if_pos h1];rfl
 rw[if_neg h1,if_neg h1]
 by_cases h2:(1023:Int)≤(l.2.length:Int)
 ·rw[if_pos h2,if_pos h2];rfl
 rw[if_neg h2,if_neg h2,A.bo]
 by_cases h3:cut<1∨1073741824<cut
 ·rw[if_pos (decide_eq_true h3),if_pos h3];rfl
 rw[if_neg (fun h=>h3 (of_decide_eq_true h)),if_neg h3]
 by_cases h4:cut≤s.cut
 ·rw[if_pos (show cut≤(pr s).2.2.1 from h4),if_pos h4];rfl
 rw[if_neg (show ¬cut≤(pr s).2.2.1 from h4),if_neg h4,show F.b0 (pr s).1 d=_ from(apV_eq J.gs hd).2.1,Option.bind_some]
 by_cases h5:(apV s.g d).2=0
 ·rw[if_neg (fun k=>k h5),if_neg (fun k=>k h5),show F.aN l (1,(pr s).2.1,cut,d,0)=_ from with_eq l (1,s.ver,cut,d,0) hl hd,Option.bind_some]
 ·rw[if_pos h5,if_pos h5];rfl
theorem P_Done (l:Lg)(hl:SmL l):F.b8 l=some (jof l eL (doneJ l)):=by
 unfold F.b8
 rw[show F.ai l=_ from jwhole_P l hl,Option.bind_some]
 refine jof_om pr hl _ fun s J hs=>?_
 unfold doneJ
 cases ho:s.op with
 |none=>rw[if_pos (by simp[pr,ho])];rfl
 |some o=>
  have hop:(pr s).2.2.2=[o]:=by simp[pr,ho]
  have hv:Z.R64 (s.ver+1):=by have h1:=J.ver;have h2:=J.len;have:=hl.len;exact⟨by omega,by omega⟩
  rw[if_neg (by rw[hop];simp),A.gd1 (show Z.R64 ((pr s).2.1+1)from hv),hop]
  rw[show A.ix [o] 0=some o from rfl,Option.bind_some,show F.aN l (2,(pr s).2.1+1,o.2.2.1,([],[],[]),0)=_ from with_eq l (2,s.ver+1,o.2.2.1,nilD,0) hl smd_nil,Option.bind_some]
theorem P_Back (l:Lg)(why:Int)(hl:SmL l):F.cY l why=some (jof l eL (backJ l why)):=by
 unfold F.cY
 rw[show F.ai l=_ from jwhole_P l hl,Option.bind_some]
 refine jof_om pr hl _ fun s J hs=>?_
 unfold backJ
 cases ho:s.op with
 |none=>rw[if_pos (by simp[pr,ho])];rfl
 |some o=>
  have hop:(pr s).2.2.2=[o]:=by simp[pr,ho]
  rw[if_neg (by rw[hop];simp),hop]
  simp only
  by_cases h:why=0
  ·rw[if_pos h,if_pos h];rfl
  ·rw[if_neg h,if_neg h,show A.ix [o] 0=some o from rfl,Option.bind_some,show F.aN l (3,(pr s).2.1,o.2.2.1,([],[],[]),why)=_ from with_eq l (3,s.ver,o.2.2.1,nilD,why) hl smd_nil,Option.bind_some]
def nm {α:Type}:Nat→List α→List (Int×α)
 |_,[]=>[]
 |k,x::r=>((k:Int)+1,x)::nm (k+1) r
theorem nt_ext {x y:Nt}:x=y↔x.1=y.1∧x.2.1=y.2.1∧x.2.2.1=y.2.2.1∧x.2.2.2.1=y.2.2.2.1∧x.2.2.2.2=y.2.2.2.2:=by
 obtain⟨a,b,c,d,e⟩:=x;obtain⟨a',b',c',d',e'⟩:=y;simp only[Prod.mk.injEq]
theorem P_SameN (x y:Nt)(hx:SmD x.2.2.2.1):F.bG x y=some (decide (x=y)):=by
 unfold F.bG
 have h:=nt_ext (x:=x) (y:=y)
 simp only[A.ba,F.bx]
 by_cases c:((x.1=y.1∧x.2.1=y.2.1)∧x.2.2.1=y.2.2.1)∧x.2.2.2.2=y.2.2.2.2
 ·rw[if_pos (decide_eq_true c),show F.cm _ _=_ from P_SameD x.2.2.2.1 y.2.2.2.1 hx.sz,Option.bind_some]
  congr 1
  exact decide_eq_decide.2 ⟨fun k=>h.2 ⟨c.1.1.1,c.1.1.2,c.1.2,k,c.2⟩,fun k=>(h.1 k).2.2.2.1⟩
 ·rw[if_neg (fun k=>c (of_decide_eq_true k)),decide_eq_false (fun k=>c ⟨⟨⟨(h.1 k).1,(h.1 k).2.1⟩,(h.1 k).2.2.1⟩,(h.1 k).2.2.2.2⟩)]
theorem P_SameL (a b:Lg)(ha:SmL a):F.cX a b=some (decide (a=b)):=by
 have hal:=ha.len
 unfold F.cX F.e
 rw[P_Same _ _ ha.first,Option.bind_some]
 by_cases h1:a.1=b.1
 case neg=>rw[if_neg (fun k=>h1 (of_decide_eq_true k)),F.bn,decide_eq_false (fun k=>h1 (by rw[k]))]
 rw[if_pos (decide_eq_true h1)]
 by_cases h2:a.2.length=b.2.length
 case neg=>rw[if_pos (by omega),Option.bind_some,F.bn,decide_eq_false (fun k=>h2 (by rw[k]))]
 rw[if_neg (by omega),A.eqk a.2 b.2 (fun f y=>F.b a.2 b.2 f y) (some true) (some false) h2 (fun f=>by rw[F.b,if_neg (by omega)])
  (fun f k u v hu hv hk=>by
   rw[F.b,if_pos (by omega),A.ixn hu,Option.bind_some,A.ixn hv,Option.bind_some,show F.bG _ _=_ from P_SameN u v (ha.notes u (List.mem_of_getElem? hu)),Option.bind_some]
   by_cases h:u=v
   ·rw[decide_eq_true h,Bool.not_true,if_neg Bool.false_ne_true,if_pos h,A.gd1 (A.r64n (by omega))]
   ·rw[decide_eq_false h,Bool.not_false,if_pos rfl,if_neg h]) (by have:=FU_big;omega),A.ite_dec,Option.bind_some,F.bn]
 congr 1
 exact decide_eq_decide.2 ⟨fun k=>Prod.ext h1 k,fun k=>by rw[k]⟩
abbrev Rr:=List Nd×Int×Int×Bool×Nt×List (List Nd)×List Int×List Dl
def prR (s:RS)(w:Nt):Rr:=(s.g,s.ver,s.cut,s.op.isSome,s.op.getD w,s.hs.map (·.1),s.hs.map (·.2.1),s.hs.map (·.2.2))
def jokR (x:Option RS)(b:Bool)(u:Rr):Prop:=match x with
 |some t=>b=true∧∃w,u=prR t w
 |none=>b=false
theorem R_step {f:List Nd}{s:RS}{k:Nat}(w n:Nt)(h:JI f s k)(hk:k≤2000)(hn:SmD n.2.2.2.1): ∃b u,F.b4 (prR s w) n=some (b,u)∧jokR (jst s n) b u:=by
 have hlen:=h.len
 have hv:Z.R64 (s.ver+1):=by have h1:=h.ver;exact⟨by omega,by omega⟩
 unfold F.b4 jst
 rw[show F.dG n.2.2.2.1 ([],[],[])=some (decide (n.2.2.2.1=nilD))from R_SameD n.2.2.2.1 nilD hn.sz,Option.bind_some]
 have e1:(prR s w).2.1=s.ver:=rfl
 have e2:(prR s w).2.2.1=s.cut:=rfl
 have e3:(prR s w).2.2.2.1=s.op.isSome:=rfl
 have e4:(prR s w).2.2.2.2.1=s.op.getD w:=rfl
 have e0:(prR s w).1=s.g:=rfl
 by_cases h1:n.1=1
 ·rw[if_pos h1,if_pos h1]
  have hc0:=h.cut.1
  cases ho:s.op with
  |some o=>
   rw[if_pos (by rw[e3,ho];simp),F.aJ,if_pos rfl]
   refine⟨false,_,rfl,?_⟩
   rw[if_neg (by simp)];rfl
  |none=>
   by_cases hc:((((n.2.1≠s.ver)∨n.2.2.1<1)∨1073741824<n.2.2.1)∨n.2.2.1≤s.cut)∨n.2.2.2.2≠0
   ·rw[if_pos (by simp only[e1,e2,e3,ho,Option.isSome_none,cond_false,A.bo,decide_eq_true_eq];exact hc),F.aJ,if_pos rfl]
    refine⟨false,_,rfl,?_⟩
    rw[if_neg (by omega)];rfl
   ·rw[if_neg (by simp only[e1,e2,e3,ho,Option.isSome_none,cond_false,A.bo,decide_eq_true_eq];exact hc)]
    rw[show F.bv (prR s w).1 n.2.2.2.1=some (apV s.g n.2.2.2.1).2 from(apV_eq h.gs hn).2.2.1,Option.bind_some,F.aJ]
    by_cases hz:(apV s.g n.2.2.2.1).2=0
    ·rw[decide_eq_false (fun k=>k hz),if_neg Bool.false_ne_true]
     refine⟨true,_,rfl,?_⟩
     rw[if_pos (by refine⟨by simp,?_⟩;omega)];exact⟨rfl,n,rfl⟩
    ·rw[decide_eq_true hz,if_pos rfl]
     refine⟨false,_,rfl,?_⟩
     rw[if_neg (fun h=>hz h.2.2.2.2.2)];rfl
 rw[if_neg h1,if_neg h1]
 by_cases h2:n.1=2
 ·rw[if_pos h2]
  rw[A.gd1 (show(!(prR s w).2.2.2.1)=false→Z.R64 ((prR s w).2.1+1)from fun _=>hv)]
  cases ho:s.op with
  |none=>
   rw[if_pos (by rw[e3,ho];rfl)]
   exact⟨false,_,rfl,rfl⟩
  |some o=>
   obtain⟨p1,p2,p3,p4⟩:=h.op o ho
   have e5:(prR s w).2.2.2.2.1=o:=by rw[e4,ho];rfl
   simp only
   have hd:(bif bif bif bif !(prR s w).2.2.2.1 then true else decide (n.2.1≠(prR s w).2.1+1)then true else decide (n.2.2.1≠(prR s w).2.2.2.2.1.2.2.1)then true else !(decide (n.2.2.2.1=nilD))then true else decide (n.2.2.2.2≠0))=decide ((((n.2.1≠s.ver+1)∨n.2.2.1≠o.2.2.1)∨¬n.2.2.2.1=nilD)∨n.2.2.2.2≠0):=by
    rw[e5,e1,e3,ho]
    simp only[Option.isSome_some,Bool.not_true,cond_false,A.bn,A.bo]
   rw[hd]
   by_cases hc:(((n.2.1≠s.ver+1)∨n.2.2.1≠o.2.2.1)∨¬n.2.2.2.1=nilD)∨n.2.2.2.2≠0
   ·rw[if_pos (decide_eq_true hc)]
    refine⟨false,_,rfl,?_⟩
    by_cases hq:n.2.2.1=o.2.2.1∧n.2.2.2.1=nilD
    ·rw[if_pos hq,if_pos h2,if_neg (fun k=>by
      rcases hc with((hc|hc)|hc)|hc
      ·exact hc k.1
      ·exact hc hq.1
      ·exact hc hq.2
      ·exact hc k.2)];rfl
    ·rw[if_neg hq];rfl
   ·rw[if_neg (fun k=>hc (of_decide_eq_true k)),A.gd1 (show Z.R64 ((prR s w).2.1+1)from hv)]
    simp only[not_or,ne_eq,Decidable.not_not]at hc
    obtain⟨⟨⟨q1,q2⟩,q3⟩,q4⟩:=hc
    rw[if_pos ⟨q2,q3⟩,if_pos h2,if_pos ⟨q1,q4⟩]
    have ea:F.c1 (prR s w).1 ((prR s w).2.2.2.2.1.2.2.2.1.1,(prR s w).2.2.2.2.1.2.2.2.1.2.1,(prR s w).2.2.2.2.1.2.2.2.1.2.2)=some (apV s.g o.2.2.2.1):=by
     show F.c1 s.g (prR s w).2.2.2.2.1.2.2.2.1=_
     rw[e5];exact(apV_eq h.gs p1).2.2.2.1
    rw[ea,Option.bind_some,A.gd1 (by show(List.length (s.hs.map _)+1)*24≤_;rw[List.length_map];omega),A.gd1 (by show(List.length (s.hs.map _)+1)*8≤_;rw[List.length_map];omega),A.gd1 (by show(List.length (s.hs.map _)+1)*72≤_;rw[List.length_map];omega)]
    refine⟨true,_,rfl,rfl,o,?_⟩
    show(_,_,_,_,(prR s w).2.2.2.2.1,_,_,_++[(prR s w).2.2.2.2.1.2.2.2.1])=_
    rw[e5]
    unfold prR
    simp only[List.map_append,List.map_cons,List.map_nil,q2]
    rfl
 rw[if_neg h2]
 by_cases h3:n.1=3
 ·rw[if_pos h3]
  cases ho:s.op with
  |none=>
   rw[if_pos (by rw[e3,ho];rfl)]
   exact⟨false,_,rfl,rfl⟩
  |some o=>
   have e5:(prR s w).2.2.2.2.1=o:=by rw[e4,ho];rfl
   simp only
   have hd:(bif bif bif bif !(prR s w).2.2.2.1 then true else decide (n.2.1≠(prR s w).2.1)then true else decide (n.2.2.1≠(prR s w).2.2.2.2.1.2.2.1)then true else !(decide (n.2.2.2.1=nilD))then true else decide (n.2.2.2.2=0))=decide ((((n.2.1≠s.ver)∨n.2.2.1≠o.2.2.1)∨¬n.2.2.2.1=nilD)∨n.2.2.2.2=0):=by
    rw[e5,e1,e3,ho]
    simp only[Option.isSome_some,Bool.not_true,cond_false,A.bn,A.bo]
   rw[hd]
   by_cases hc:(((n.2.1≠s.ver)∨n.2.2.1≠o.2.2.1)∨¬n.2.2.2.1=nilD)∨n.2.2.2.2=0
   ·rw[if_pos (decide_eq_true hc)]
    refine⟨false,_,rfl,?_⟩
    by_cases hq:n.2.2.1=o.2.2.1∧n.2.2.2.1=nilD
    ·rw[if_pos hq,if_neg h2,if_pos h3,if_neg (fun k=>by
      rcases hc with((hc|hc)|hc)|hc
      ·exact hc k.1
      ·exact hc hq.1
      ·exact hc hq.2
      ·exact k.2 hc)];rfl
    ·rw[if_neg hq];rfl
   ·rw[if_neg (fun k=>hc (of_decide_eq_true k))]
    simp only[not_or,ne_eq,Decidable.not_not]at hc
    obtain⟨⟨⟨q1,q2⟩,q3⟩,q4⟩:=hc
    rw[if_pos ⟨q2,q3⟩,if_neg h2,if_pos h3,if_pos ⟨q1,q4⟩]
    refine⟨true,_,rfl,rfl,o,?_⟩
    show(_,_,_,_,(prR s w).2.2.2.2.1,_,_,_)=_
    rw[e5];rfl
 ·rw[if_neg h3]
  refine⟨false,_,rfl,?_⟩
  cases s.op with
  |none=>rfl
  |some o=>
   simp only
   split<;>rfl
def rdR (l:Lg)(x:Option Rr×Int):Prop:=match(jwh l).1 with
 |none=>x=(none,(jwh l).2)
 |some s=>∃w,x=(some (prR s w),0)
theorem R_read (l:Lg)(hl:SmL l): ∃x,F.cc l=some x∧rdR l x:=by
 have hl2:=hl.len
 obtain⟨c1,c2,c3⟩:=chkG_eq hl.first
 unfold F.cc rdR jwh
 rw[c2,Option.bind_some]
 by_cases h0:chkG l.1=0
 case neg=>rw[if_pos h0,if_pos h0];exact⟨_,rfl,rfl⟩
 rw[if_neg (show ¬chkG l.1≠0 from fun k=>k h0),if_neg (show ¬chkG l.1≠0 from fun k=>k h0),if_neg (by omega)]
 have main: ∀(n k f:Nat) (s:RS) (w:Nt),k+n=l.2.length→n<f→JI l.1 s k→∃x,F.cA l f (prR s w).1 (prR s w).2.2.2.2.1.2.2.2.1.1 (prR s w).2.2.2.2.1.2.2.2.1.2.1 (prR s w).2.2.2.2.1.2.2.2.1.2.2 (prR s w).2.2.2.2.2.1 (prR s w).2.2.2.2.2.2.1 (prR s w).2.2.2.2.2.2.2 (prR s w).2.1 (prR s w).2.2.1 (prR s w).2.2.2.1 (prR s w).2.2.2.2.1.1 (prR s w).2.2.2.2.1.2.1 (prR s w).2.2.2.2.1.2.2.1 (prR s w).2.2.2.2.1.2.2.2.2 (k:Int)=some x∧(match jrun s (l.2.drop k)with|none=>x=(none,220)|some t=>∃w,x=(some (prR t w),0)):=by
  intro n
  induction n with
  |zero=>
   intro k f s w hk hf hJ
   obtain⟨f,rfl⟩: ∃f',f=f'+1:=⟨f-1,by omega⟩
   rw[F.cA,if_neg (by omega),List.drop_eq_nil_of_le (by omega)]
   exact⟨_,rfl,w,rfl⟩
  |succ n ih=>
   intro k f s w hk hf hJ
   obtain⟨f,rfl⟩: ∃f',f=f'+1:=⟨f-1,by omega⟩
   have hx:l.2[k]?=some l.2[k]:=List.getElem?_eq_getElem (by omega)
   have hsm:=hl.notes _ (List.mem_of_getElem? hx)
   obtain⟨b,u,e1,e2⟩:=R_step w l.2[k] hJ (by omega) hsm
   rw[F.cA,if_pos (by omega),A.ixn hx,Option.bind_some,show F.b4 _ _=_ from e1,Option.bind_some,A.dropx hx]
   unfold jrun
   cases hj:jst s l.2[k]with
   |none=>
    rw[hj]at e2;obtain rfl:=(show b=false from e2)
    exact⟨_,rfl,rfl⟩
   |some t=>
    rw[hj]at e2
    obtain⟨rfl,w',rfl⟩:=(show b=true∧∃w,u=prR t w from e2)
    rw[if_neg (by simp),A.gd1 (A.r64n (by omega))]
    exact ih (k+1) f t w' (by omega) (by omega) (jst_inv hJ hsm hj)
 obtain⟨x,h1,h2⟩:=main l.2.length 0 A.FU (s0 l.1) nilN (by omega) (by have:=FU_big;omega) (ji0 (c3 h0))
 refine⟨x,h1,?_⟩
 rw[List.drop_zero]at h2
 revert h2
 cases jrun (s0 l.1) l.2<;>exact fun h=>h
theorem R_om {α:Type}{l:Lg}{z:α}{f:RS→α×Int}(hl:SmL l)(k0:Option (α×Int))(k:Rr→Option (α×Int))(h: ∀s w,JI l.1 s l.2.length→(jwh l).1=some s→k (prR s w)=some (f s)):
  ((F.cc l).bind fun r=>A.om r.1 (if r.2≠0 then some (z,r.2)else k0) (fun p=>if r.2≠0 then some (z,r.2)else k p))=some (jof l z f):=by
 obtain⟨x,h1,h2⟩:=R_read l hl
 rw[show F.cc l=some x from h1,Option.bind_some]
 unfold rdR at h2
 unfold jof
 cases hs:(jwh l).1 with
 |none=>
  rw[hs]at h2;obtain rfl:=(show x=(none,(jwh l).2)from h2)
  exact if_pos (jwh_none hs)
 |some s=>
  rw[hs]at h2;obtain⟨w,rfl⟩:=(show ∃w,x=(some (prR s w),0)from h2)
  exact h s w (jwh_some hl hs).1 hs
theorem R_Check (l:Lg)(hl:SmL l):F.ed l=some (jwh l).2:=by
 obtain⟨x,h1,h2⟩:=R_read l hl
 unfold F.ed
 rw[show F.cc l=some x from h1,Option.bind_some]
 unfold rdR at h2
 cases hs:(jwh l).1 with
 |none=>rw[hs]at h2;obtain rfl:=(show x=(none,(jwh l).2)from h2);rfl
 |some s=>
  rw[hs]at h2;obtain⟨w,rfl⟩:=(show ∃w,x=(some (prR s w),0)from h2)
  rw[(jwh_some hl hs).2.1];rfl
theorem R_New (g:List Nd)(hg:Sml g):F.e5 g=some (jNew g):=by
 unfold F.e5 jNew
 rw[(chkG_eq hg).2.1,Option.bind_some]
 by_cases h0:chkG g=0
 ·rw[if_neg (fun k=>k h0),if_neg (fun k=>k h0)]
 ·rw[if_pos h0,if_pos h0]
theorem R_clone (d:Dl)(hd:SmD d): ∃x,F.ef (0,0,(0,0),(0,0,(0,0,0,0)),[],[],d,0,[],false,0)=some x∧x.2.2.2.2.2.2.1=d:=by
 have h1:=hd.dl;have h2:=hd.ml;have h3:=hd.pl
 unfold F.ef
 rw[A.gd1 (by simp),A.gd1 (by simp),A.gd1 (by simp),A.gd1 (by simp only[List.length_nil];omega),A.gd1 (by simp only[List.length_nil];omega)]
 have:=A.lp d.2.1 (fun f (s:List Nd) y=>F.cd (0,0,(0,0),(0,0,(0,0,0,0)),[],[],d,0,[],false,0) f s y) (fun _ r s=>some (0,0,(0,0),(0,0,(0,0,0,0)),[],[],(d.1,s++r,d.2.2),0,[],false,0)) (fun k s=>s.length=k)
  (fun f s hs=>by rw[F.cd,if_neg (by show ¬(d.2.1.length:Int)<(d.2.1.length:Int);omega),List.append_nil s];rfl)
  (fun f s k x hx hk hs ih=>by
   have hin:=(hd.put.2 x (List.mem_of_getElem? hx)).1
   rw[F.cd,if_pos (by show(k:Int)<(d.2.1.length:Int);omega),show A.ix _ (k:Int)=some x from A.ixn hx,Option.bind_some,A.gd1 (by simp only[List.length_nil];omega),A.gd1 (by simp only[List.length_cons,List.length_nil];omega),A.gd1 (A.r64n (by omega))]
   refine(ih (s++[x]) (by rw[List.length_append,hs];rfl)).trans ?_
   rw[List.append_assoc s];rfl)
  (by have:=FU_big;omega) [] rfl
 exact⟨_,this,rfl⟩
theorem R_with (l:Lg)(n:Nt)(hl:l.2.length≤1000)(hn:SmD n.2.2.2.1):F.cB l n=some (l.1,l.2++[n]):=by
 obtain⟨x,h1,h2⟩:=R_clone n.2.2.2.1 hn
 unfold F.cB
 rw[show F.ef (0,0,(0,0),(0,0,(0,0,0,0)),[],[],n.2.2.2.1,0,[],false,0)=_ from h1,Option.bind_some,A.gd1 (by simp only[List.length_nil];omega),A.gd1 (by simp only[List.length_append,List.length_cons,List.length_nil];omega),F.eA]
 rw[show(n.1,n.2.1,n.2.2.1,x.2.2.2.2.2.2.1,n.2.2.2.2)=n from by
  show(n.1,n.2.1,n.2.2.1,x.2.2.2.2.2.2.1,n.2.2.2.2)=n
  rw[h2]]
 rfl
theorem R_Ask (l:Lg)(d:Dl)(cut:Int)(hl:SmL l)(hd:SmD d):F.eQ l d cut=some (jof l eL (askJ l d cut)):=by
 unfold F.eQ
 refine R_om hl none _ fun s w J hs=>?_
 unfold askJ
 rw[show(prR s w).2.2.2.1=s.op.isSome from rfl]
 by_cases h1:s.op.isSome=true
 ·rw[if_pos h1,if_pos h1];rfl
 rw[if_neg h1,if_neg h1]
 by_cases h2:(1023:Int)≤(l.2.length:Int)
 ·rw[if_pos (by omega),if_pos h2];rfl
 rw[if_neg (by omega),if_neg h2,A.bo]
 by_cases h3:cut<1∨1073741824<cut
 ·rw[if_pos (decide_eq_true h3),if_pos h3];rfl
 rw[if_neg (fun h=>h3 (of_decide_eq_true h)),if_neg h3]
 by_cases h4:cut≤s.cut
 ·rw[if_pos (show cut≤(prR s w).2.2.1 from h4),if_pos h4];rfl
 rw[if_neg (show ¬cut≤(prR s w).2.2.1 from h4),if_neg h4,show F.bv (prR s w).1 d=_ from(apV_eq J.gs hd).2.2.1,Option.bind_some]
 by_cases h5:(apV s.g d).2=0
 ·rw[if_neg (fun k=>k h5),if_neg (fun k=>k h5),show F.cB l (1,(prR s w).2.1,cut,d,0)=_ from R_with l (1,s.ver,cut,d,0) hl.len hd,Option.bind_some]
 ·rw[if_pos h5,if_pos h5];rfl
theorem R_Done (l:Lg)(hl:SmL l):F.ew l=some (jof l eL (doneJ l)):=by
 unfold F.ew
 refine R_om hl none _ fun s w J hs=>?_
 unfold doneJ
 rw[show(prR s w).2.2.2.1=s.op.isSome from rfl,show(prR s w).2.2.2.2.1=s.op.getD w from rfl]
 cases ho:s.op with
 |none=>rfl
 |some o=>
  have hv:Z.R64 (s.ver+1):=by have h1:=J.ver;have h2:=J.len;have:=hl.len;exact⟨by omega,by omega⟩
  rw[if_neg (by simp),A.gd1 (show Z.R64 ((prR s w).2.1+1)from hv)]
  rw[show F.cB l (2,(prR s w).2.1+1,((some o:Option Nt).getD w).2.2.1,([],[],[]),0)=_ from R_with l (2,s.ver+1,o.2.2.1,nilD,0) hl.len smd_nil,Option.bind_some]
theorem R_Back (l:Lg)(why:Int)(hl:SmL l):F.ev l why=some (jof l eL (backJ l why)):=by
 unfold F.ev
 refine R_om hl none _ fun s w J hs=>?_
 unfold backJ
 rw[show(prR s w).2.2.2.1=s.op.isSome from rfl,show(prR s w).2.2.2.2.1=s.op.getD w from rfl]
 cases ho:s.op with
 |none=>rfl
 |some o=>
  rw[if_neg (by simp)]
  simp only
  by_cases h:why=0
  ·rw[if_pos h,if_pos h];rfl
  ·rw[if_neg h,if_neg h]
   rw[show F.cB l (3,(prR s w).2.1,((some o:Option Nt).getD w).2.2.1,([],[],[]),why)=_ from R_with l (3,s.ver,o.2.2.1,nilD,why) hl.len smd_nil,Option.bind_some]
theorem R_SameN (x y:Nt)(hx:SmD x.2.2.2.1):F.cW x y=some (decide (x=y)):=by
 unfold F.cW
 have h:=nt_ext (x:=x) (y:=y)
 simp only[A.ba,F.cs]
 by_cases c:(x.1=y.1∧x.2.1=y.2.1)∧x.2.2.1=y.2.2.1
 ·rw[if_pos (decide_eq_true c),show F.dG _ _=_ from R_SameD x.2.2.2.1 y.2.2.2.1 hx.sz,Option.bind_some,A.ba]
  congr 1
  exact decide_eq_decide.2 ⟨fun k=>h.2 ⟨c.1.1,c.1.2,c.2,k.1,k.2⟩,fun k=>⟨(h.1 k).2.2.2.1,(h.1 k).2.2.2.2⟩⟩
 ·rw[if_neg (fun k=>c (of_decide_eq_true k)),decide_eq_false (fun k=>c ⟨⟨(h.1 k).1,(h.1 k).2.1⟩,(h.1 k).2.2.1⟩)]
theorem R_SameL (a b:Lg)(ha:Sml a.1)(hn: ∀n∈a.2,SmD n.2.2.2.1)(hal:a.2.length≤1000):F.ce a b=some (decide (a=b)):=by
 unfold F.ce
 rw[R_Same _ _ ha,Option.bind_some]
 by_cases h1:a.1=b.1
 case neg=>rw[decide_eq_false h1,Bool.not_false,cond_true,if_pos rfl,decide_eq_false (fun k=>h1 (by rw[k]))]
 rw[decide_eq_true h1,Bool.not_true,cond_false]
 by_cases h2:a.2.length=b.2.length
 case neg=>rw[if_pos (decide_eq_true (by omega)),decide_eq_false (fun k=>h2 (by rw[k]))]
 rw[if_neg (fun k=>by have:=of_decide_eq_true k;omega),A.eqk a.2 b.2 (fun f y=>F.cC a b f y) (some true) (some false) h2 (fun f=>by rw[F.cC,if_neg (by omega)])
  (fun f k u v hu hv hk=>by
   rw[F.cC,if_pos (by omega),A.ixn hu,Option.bind_some,A.ixn hv,Option.bind_some,show F.cW _ _=_ from R_SameN u v (hn u (List.mem_of_getElem? hu)),Option.bind_some]
   by_cases h:u=v
   ·rw[decide_eq_true h,Bool.not_true,if_neg Bool.false_ne_true,if_pos h,A.gd1 (A.r64n (by omega))]
   ·rw[decide_eq_false h,Bool.not_false,if_pos rfl,if_neg h]) (by have:=FU_big;omega),A.ite_dec]
 congr 1
 exact decide_eq_decide.2 ⟨fun k=>Prod.ext h1 k,fun k=>by rw[k]⟩
def thin22 (n:Nd):Bool:= !decide (((10:Int)<(n.2.2.1.length:Int)∨(100:Int)<(n.2.2.2.2.1.size:Int))∨(200:Int)<(n.2.2.2.1.2.2.size:Int))
theorem nodes_l1 (g:List Nd)(h:g.length≤50):F.bK g A.FU 0=some (g.all thin22):=
 A.lp0 g (fun f i=>F.bK g f i) (fun _ l=>some (l.all thin22))
  (fun f=>by rw[F.bK,if_neg (by omega)];rfl)
  (fun f k x hx hk ih=>by
   rw[F.bK,if_pos (by omega),A.ixn hx,Option.bind_some,A.bo,A.bo]
   have e:(x::g.drop (k+1)).all thin22=(thin22 x&&(g.drop (k+1)).all thin22):=rfl
   rw[e]
   unfold thin22
   by_cases c:((10:Int)<(x.2.2.1.length:Int)∨(100:Int)<(x.2.2.2.2.1.size:Int))∨(200:Int)<(x.2.2.2.1.2.2.size:Int)
   ·rw[if_pos (decide_eq_true c),decide_eq_true c];rfl
   ·rw[if_neg (fun k=>c (of_decide_eq_true k)),A.gd1 (A.r64n (by omega)),ih,decide_eq_false c];rfl)
  (by have:=FU_big;omega)
theorem nodes22 (g:List Nd):F.d5 g=some (decide (g.length≤50)&&g.all thin22):=by
 unfold F.d5
 by_cases h:g.length≤50
 ·rw[if_neg (by omega),nodes_l1 g h,decide_eq_true h,Bool.true_and]
 ·rw[if_pos (by omega),decide_eq_false h,Bool.false_and]
theorem nodes22_sml {g:List Nd}(h:(decide (g.length≤50)&&g.all thin22)=true):g.length≤50∧Sml g:=by
 rw[Bool.and_eq_true,decide_eq_true_iff,List.all_eq_true]at h
 refine⟨h.1,by omega,fun n hn=>?_⟩
 have:=h.2 n hn
 unfold thin22 at this
 rw[Bool.not_eq_true',decide_eq_false_iff_not]at this
 omega
def thinD (d:Dl):Bool:=((decide (d.2.1.length≤50)&&d.2.1.all thin22)&&decide (((d.1).length:Int)≤50))&&decide (((d.2.2).length:Int)≤40)
theorem thin22_eq (d:Dl):F.dq d=some (thinD d):=by
 unfold F.dq thinD
 rw[nodes22,Option.bind_some]
 simp only[Bool.cond_eq_ite]
 cases (decide (d.2.1.length≤50)&&d.2.1.all thin22)<;>by_cases h:((d.1).length:Int)≤50<;>simp[h]
theorem thinD_sm {d:Dl}(h:thinD d=true):SmD d:=by
 unfold thinD at h
 rw[Bool.and_eq_true,Bool.and_eq_true,decide_eq_true_iff,decide_eq_true_iff]at h
 obtain⟨h1,h2⟩:=nodes22_sml h.1.1
 exact⟨h2,by omega,by omega,by omega⟩
def fewL (l:Lg):Bool:=(decide (l.1.length≤50)&&l.1.all thin22)&&(decide (l.2.length≤30)&&l.2.all fun n=>thinD n.2.2.2.1)
theorem few22_l1 (l:Lg)(h:l.2.length≤30):F.co l A.FU 0=some (l.2.all fun n=>thinD n.2.2.2.1):=
 A.lp0 l.2 (fun f i=>F.co l f i) (fun _ r=>some (r.all fun n=>thinD n.2.2.2.1))
  (fun f=>by rw[F.co,if_neg (by omega)];rfl)
  (fun f k x hx hk ih=>by
   rw[F.co,if_pos (by omega),A.ixn hx,Option.bind_some,show F.dq x.2.2.2.1=_ from thin22_eq x.2.2.2.1,Option.bind_some]
   have e:(x::l.2.drop (k+1)).all (fun n=>thinD n.2.2.2.1)=(thinD x.2.2.2.1&&(l.2.drop (k+1)).all fun n=>thinD n.2.2.2.1):=rfl
   rw[e]
   cases thinD x.2.2.2.1 with
   |true=>rw[if_neg (by simp),A.gd1 (A.r64n (by omega)),ih,Bool.true_and]
   |false=>rfl)
  (by have:=FU_big;omega)
theorem few22 (l:Lg):F.d6 l=some (fewL l):=by
 unfold F.d6 fewL
 rw[nodes22,Option.bind_some]
 cases (decide (l.1.length≤50)&&l.1.all thin22)with
 |false=>rfl
 |true=>
  rw[Bool.not_true,cond_false,Bool.true_and]
  by_cases h:l.2.length≤30
  ·rw[if_neg (fun k=>by have:=of_decide_eq_true k;omega),few22_l1 l h,decide_eq_true h,Bool.true_and]
  ·rw[if_pos (decide_eq_true (by omega)),decide_eq_false h,Bool.false_and]
theorem fewL_sm {l:Lg}(h:fewL l=true):SmL l∧l.2.length≤30:=by
 unfold fewL at h
 obtain⟨ha,hb⟩:=(Bool.and_eq_true_iff ..).1 h
 rw[Bool.and_eq_true,decide_eq_true_iff,List.all_eq_true]at hb
 obtain⟨h1,h2⟩:=nodes22_sml ha
 exact⟨⟨h2,by omega,fun n hn=>thinD_sm (hb.2 n hn),by omega⟩,hb.1⟩
theorem live22:F.e6=some true:=by kernel_rfl
abbrev Do22:=Int×Dl×Int×Int
def jNotes (l:Lg)(d:Do22):Lg×Int:=if d.1=0 then jof l eL (askJ l d.2.1 d.2.2.1)else if d.1=1 then jof l eL (doneJ l)else jof l eL (backJ l d.2.2.2)
theorem notes_eq (l:Lg)(d:Do22)(hl:SmL l)(hd:SmD d.2.1):F.ee l d=some (jNotes l d):=by
 unfold F.ee jNotes
 by_cases h0:d.1=0
 ·rw[if_pos h0,if_pos h0,show F.ct l d.2.1 d.2.2.1=_ from P_Ask l d.2.1 d.2.2.1 hl hd];rfl
 rw[if_neg h0,if_neg h0]
 by_cases h1:d.1=1
 ·rw[if_pos h1,if_pos h1,show F.b8 l=_ from P_Done l hl];rfl
 rw[if_neg h1,if_neg h1,show F.cY l d.2.2.2=_ from P_Back l d.2.2.2 hl];rfl
theorem wants_eq (l:Lg)(d:Do22)(hl:SmL l)(hd:SmD d.2.1):F.eg l d=some (jNotes l d):=by
 unfold F.eg jNotes
 by_cases h0:d.1=0
 ·rw[if_pos h0,if_pos h0,show F.eQ l d.2.1 d.2.2.1=_ from R_Ask l d.2.1 d.2.2.1 hl hd];rfl
 rw[if_neg h0,if_neg h0]
 by_cases h1:d.1=1
 ·rw[if_pos h1,if_pos h1,show F.ew l=_ from R_Done l hl];rfl
 rw[if_neg h1,if_neg h1,show F.ev l d.2.2.2=_ from R_Back l d.2.2.2 hl];rfl
def SmR (x:Lg):Prop:=Sml x.1∧(∀n∈x.2,SmD n.2.2.2.1)∧x.2.length≤1000
theorem smr_e:SmR eL:=⟨sml_nil,fun n h=>(by cases h),by simp[eL]⟩
theorem smr_snoc {l:Lg}{n:Nt}(hl:SmL l)(h:l.2.length≤40)(hn:SmD n.2.2.2.1):SmR (l.1,l.2++[n]):=by
 refine⟨hl.first,fun m hm=>?_,by simp;omega⟩
 rcases List.mem_append.1 hm with hm|hm
 ·exact hl.notes m hm
 ·obtain rfl:=List.mem_singleton.1 hm;exact hn
theorem jNotes_sm {l:Lg}{d:Do22}(hl:SmL l)(h:l.2.length≤40)(hd:SmD d.2.1):SmR (jNotes l d).1:=by
 unfold jNotes jof
 cases (jwh l).1 with
 |none=>
  simp only
  split
  ·exact smr_e
  split<;>exact smr_e
 |some s=>
  simp only
  split
  ·unfold askJ
   split
   ·exact smr_e
   split
   ·exact smr_e
   split
   ·exact smr_e
   split
   ·exact smr_e
   split
   ·exact smr_e
   exact smr_snoc hl h hd
  split
  ·unfold doneJ
   split
   ·exact smr_e
   ·exact smr_snoc hl h smd_nil
  ·unfold backJ
   split
   ·exact smr_e
   split
   ·exact smr_e
   exact smr_snoc hl h smd_nil
theorem R_SameS {a:Lg}(h:SmR a):F.ce a a=some true:=by rw[R_SameL a a h.1 h.2.1 h.2.2,decide_eq_true rfl]
theorem jNew_sm {g:List Nd}(hg:Sml g):SmR (jNew g).1:=by
 unfold jNew
 split
 ·exact smr_e
 ·exact⟨hg,fun n h=>(by cases h),by simp⟩
theorem journalNotes_plain {P Q R:Prop}(l o:Lg)(d:Do22)(_:P)(_:Q)(_:R):F.cf l o d=some true:=by
 unfold F.cf
 rw[live22,Option.bind_some,if_neg (by simp),show F.d6 l=_ from few22 l,Option.bind_some]
 cases h1:fewL l with
 |false=>rfl
 |true=>
  rw[if_neg (by simp),show F.d6 o=_ from few22 o,Option.bind_some]
  cases h2:fewL o with
  |false=>rfl
  |true=>
   rw[if_neg (by simp),show F.dq d.2.1=_ from thin22_eq d.2.1,Option.bind_some]
   cases h3:thinD d.2.1 with
   |false=>rfl
   |true=>
    obtain⟨hl,hl2⟩:=fewL_sm h1
    have hd:=thinD_sm h3
    unfold F.aM
    rw[if_neg (by simp),show F.ee l (d.1,d.2.1,d.2.2.1,d.2.2.2)=_ from notes_eq l d hl hd,Option.bind_some,show F.eg l (d.1,d.2.1,d.2.2.1,d.2.2.2)=_ from wants_eq l d hl hd,Option.bind_some]
    rw[P_New l.1 hl.first hl.fl,Option.bind_some,R_New l.1 hl.first,Option.bind_some]
    rw[show F.ce ((jNotes l d).1.1,(jNotes l d).1.2) ((jNotes l d).1.1,(jNotes l d).1.2)=_ from R_SameS (jNotes_sm hl (by omega) hd),Option.bind_some,if_pos (by simp)]
    rw[show F.ce ((jNew l.1).1.1,(jNew l.1).1.2) ((jNew l.1).1.1,(jNew l.1).1.2)=_ from R_SameS (jNew_sm hl.first),Option.bind_some,if_pos (by simp)]
    rw[show F.bs l=_ from jcheck l hl,Option.bind_some,show F.ed l=_ from R_Check l hl,Option.bind_some,if_pos rfl]
    rw[show F.cX l o=_ from P_SameL l o hl,Option.bind_some,show F.ce l o=_ from R_SameL l o hl.first hl.notes hl.len,Option.bind_some,F.aw,beq_self_eq_true]
end Go.Proofs.YtfdfcaiiengdfaaGreatDoor
end
section
namespace Go.Z
open Go.RowKit
def OpenT (P:Program)(T:TypeId)(t:Ty):Prop:=
 P.cellsOf T=t.size∧∀(H:Type) (enc:TypeId×Value→H) (w:World) (base:Nat) (spare:Nat→Bool) (held:Bool) (fuel:Nat) (cs:List Value) (x:DataW H×List MemPlace),
  DataW.trod enc P w base spare held fuel T cs=some x→∃y:t.den,t.rep w (nt []) cs y
section
variable {P:Program}{T e:TypeId}
theorem ot_int {k:IntKind}(hc:P.cellsOf T=1)(ht:P.underlying T=some (.int k)):OpenT P T (.int k):=⟨hc,fun H enc w base spare held fuel cs x h=>by
 obtain⟨n,rfl,_,hw⟩:=DataW.trod_int ht h
 refine⟨n,rfl,?_⟩
 simp only[Lit.wf,Bool.and_eq_true,decide_eq_true_eq]at hw
 exact hw⟩
theorem ot_str (hc:P.cellsOf T=1)(ht:P.underlying T=some .string):OpenT P T .str:=⟨hc,fun H enc w base spare held fuel cs x h=>by
 obtain⟨s,rfl,_,hs⟩:=DataW.trod_string ht h
 exact⟨s,rfl,hs⟩⟩
def OpenPs (P:Program):List (TypeId×Nat)→Nat→Ty→Prop
 | [],_,_=>False
 | [(T,o')],o,t=>o'=o∧OpenT P T t
 |(T,o')::p::ps,o,.pair a b=>o'=o∧OpenT P T a∧OpenPs P (p::ps) (o+a.size) b
 |_::_::_,_,_=>False
theorem open_ps {H:Type}{enc:TypeId×Value→H}{w:World}{base:Nat}{spare:Nat→Bool}{held:Bool}{fuel:Nat}{cs:List Value}:
  ∀(ps:List (TypeId×Nat)) (o:Nat) (t:Ty),OpenPs P ps o t→(∀p∈ps,∃x,DataW.trod enc P w base spare held fuel p.1 ((cs.drop p.2).take (P.cellsOf p.1))=some x)→∃y:t.den,t.rep w (nt []) ((cs.drop o).take t.size) y
 | [],_,_,h,_=>h.elim
 | [(T,o')],o,t,h,hx=>by
  obtain⟨rfl,⟨hc,ho⟩⟩:=h
  obtain⟨x,hx⟩:=hx (T,o') (List.mem_singleton.2 rfl)
  rw[←hc];exact ho _ _ _ _ _ _ _ _ _ hx
 |(T,o')::p::ps,o,.pair a b,h,hx=>by
  obtain⟨rfl,⟨hc,ho⟩,hr⟩:=h
  obtain⟨x,h1⟩:=hx (T,o') (List.mem_cons_self ..)
  obtain⟨ya,hya⟩:=ho _ _ _ _ _ _ _ _ _ h1
  obtain⟨yb,hyb⟩:=open_ps (p::ps) _ b hr fun q hq=>hx q (List.mem_cons_of_mem _ hq)
  refine⟨(ya,yb),_,_,?_,hya,hyb⟩
  show(cs.drop o').take (a.size+b.size)=_
  rw[hc,List.take_add,List.drop_drop]
 |_::_::_,_,.int _,h,_=>h.elim
 |_::_::_,_,.byte,h,_=>h.elim
 |_::_::_,_,.bool,h,_=>h.elim
 |_::_::_,_,.str,h,_=>h.elim
 |_::_::_,_,.slice _,h,_=>h.elim
theorem ot_struct {fs:List Field}{t:Ty}(hc:P.cellsOf T=t.size)(ht:P.underlying T=some (.struct fs.toArray))(h:OpenPs P (fs.map fun f=>(f.type,f.offset)) 0 t):OpenT P T t:=⟨hc,fun H enc w base spare held fuel cs x hx=>by
 obtain⟨xs,n,_,_,hl,hs,hf⟩:=DataW.trod_struct ht hx
 have hcs:cs=(cs.drop 0).take t.size:=by rw[List.drop_zero,List.take_of_length_le (by omega)]
 rw[hcs]
 refine open_ps (fuel:=n) (enc:=enc) (base:=base) (spare:=spare) (held:=held) _ 0 t h fun p hp=>?_
 obtain⟨f,hf1,rfl⟩:=List.mem_map.1 hp
 obtain⟨i,hi,he⟩:=List.getElem_of_mem hf1
 have h1:=hf i f (by rw[List.getElem?_toArray,List.getElem?_eq_getElem hi,he])
 rw[h1,List.getElem?_eq_getElem (by rw[hs];simpa using hi)]
 exact⟨_,rfl⟩⟩
theorem rows_of {t:Ty}{w:World}{g:Addr}: ∀(n:Nat),(∀i,i<n→∃(cs:List Value) (y:t.den),cs.length=t.size∧(∀j u,cs[j]?=some u→w.cell? (g.add (i*t.size+j))=some u)∧t.rep w (nt []) cs y)→
  ∃(cells:List Value) (ys:List t.den),ys.length=n∧cells.length=n*t.size∧(∀j u,cells[j]?=some u→w.cell? (g.add j)=some u)∧∀(i:Nat) (y:t.den),ys[i]?=some y→t.rep w (nt []) ((cells.drop (i*t.size)).take t.size) y
 |0,_=>⟨[],[],rfl,by simp,by simp,by simp⟩
 |n+1,h=>by
  obtain⟨cells,ys,h1,h2,h3,h4⟩:=rows_of n fun i hi=>h i (by omega)
  obtain⟨cs,y,c1,c2,c3⟩:=h n (by omega)
  refine⟨cells++cs,ys++[y],by simp[h1],by rw[List.length_append,h2,c1,Nat.succ_mul],fun j u hj=>?_,?_⟩
  ·by_cases hlt:j<cells.length
   ·rw[List.getElem?_append_left hlt]at hj;exact h3 j u hj
   ·rw[List.getElem?_append_right (by omega)]at hj
    have:=c2 _ u hj
    rwa[h2,show n*t.size+(j-n*t.size)=j by omega]at this
  ·refine rep_append (xs:=ys) (ys:=[y]) (by rw[h2,h1]) h4 fun i y' hi=>?_
   have:i=0:=by have:=(List.getElem?_eq_some_iff.1 hi).1;simp at this;omega
   subst this
   simp at hi;subst hi
   rw[Nat.zero_mul,List.drop_zero,List.take_of_length_le (by omega)];exact c3
theorem ot_slice {t:Ty}(hc:P.cellsOf T=1)(ht:P.underlying T=some (.slice e))(h:OpenT P e t):OpenT P T (.slice t):=⟨hc,fun H enc w base spare held fuel cs x hx=>by
 rcases DataW.trod_slice ht hx with⟨rfl,_⟩|⟨ad,len,cap,elems,rest,n,_,rfl,_,hb,hl,hm,hlen,hel,_,_⟩
 ·exact⟨[],rep_nil _⟩
 ·have each: ∀i,i<len→∃(cs:List Value) (y:t.den),cs.length=t.size∧(∀j u,cs[j]?=some u→w.cell? (ad.add (i*t.size+j))=some u)∧t.rep w (nt []) cs y:=fun i hi=>by
   have h1:=hel i hi
   rw[List.getElem?_eq_getElem (by omega),Option.bind_eq_some_iff]at h1
   obtain⟨cs',h2,h3⟩:=h1
   obtain⟨_,h4,h5⟩:=World.cells?_some h2
   obtain⟨y,hy⟩:=h.2 _ _ _ _ _ _ _ _ _ h3
   rw[h.1]at h4 h5
   refine⟨cs',y,h4,fun j u hj=>?_,hy⟩
   have hlt:=(List.getElem?_eq_some_iff.1 hj).1
   have:=h5 j (by omega)
   rw[add_add]at this
   rw[this,hj]
  obtain⟨cells,ys,h1,h2,h3,h4⟩:=rows_of len each
  by_cases hz:len=0
  ·subst hz
   have:ys=[]:=List.eq_nil_of_length_eq_zero h1
   subst this
   exact⟨[],some ad,cap,[],rfl,by simp,hm,by simp,.inl rfl,by simp⟩
  ·have hp:=pos_size t
   have hlt:0<cells.length:=by rw[h2];exact Nat.mul_pos (by omega) hp
   have h0:=h3 0 _ (List.getElem?_eq_getElem hlt)
   have hspot:=World.cell?_spot h0
   obtain⟨b,off,spot⟩:=ad
   simp only[Addr.add]at hspot
   subst hspot
   refine⟨ys,some ⟨b,off,none⟩,cap,cells,by rw[h1],by omega,hm,by rw[h1];exact h2,.inr ⟨b,off,rfl,by simp[nt],fun j u hj=>?_⟩,h4⟩
   have:=h3 j u hj
   rwa[Addr.add_lit]at this⟩
end
end Go.Z
end
section
namespace Go.Proofs.YtfdfcaiiengdfaaGreatDoor.journalNotesDone
open Go.ChangeShapes Go.WideShapes Go.ChangeAt Go.RowKit
set_option linter.unusedVariables false
theorem own:ownKnob Tryz.prog.godebug=none:=by kernel_rfl
theorem laidOut:laidOutB Tryz.prog=true:=by kernel_rfl
theorem ot3:Z.OpenT Tryz.prog 3 A.ti:=Z.ot_int (by kernel_rfl) Tryz.underlying3
theorem ot28:Z.OpenT Tryz.prog 28 A.TI:=Z.ot_slice (by kernel_rfl) Tryz.underlying28 ot3
theorem ot2:Z.OpenT Tryz.prog 2 A.ti:=Z.ot_int (by kernel_rfl) Tryz.underlying2
theorem ot9:Z.OpenT Tryz.prog 9 Z.Ty.str:=Z.ot_str (by kernel_rfl) Tryz.underlying9
theorem ot69:Z.OpenT Tryz.prog 69 T68:=Z.ot_struct (by kernel_rfl) Tryz.underlying69 ⟨rfl,ot3,rfl,ot2,rfl,ot9⟩
theorem ot71:Z.OpenT Tryz.prog 71 T70:=Z.ot_struct (by kernel_rfl) Tryz.underlying71 ⟨rfl,ot3,rfl,ot3,rfl,ot28,rfl,ot69,rfl,ot9,rfl,ot2,rfl,ot3⟩
theorem ot22:Z.OpenT Tryz.prog 22 (Z.Ty.slice T70):=Z.ot_slice (by kernel_rfl) Tryz.underlying22 ot71
theorem ot24:Z.OpenT Tryz.prog 24 T23:=Z.ot_struct (by kernel_rfl) Tryz.underlying24 ⟨rfl,ot22⟩
theorem ot95:Z.OpenT Tryz.prog 95 T94:=Z.ot_struct (by kernel_rfl) Tryz.underlying95 ⟨rfl,ot3,rfl,ot3,rfl,ot3,rfl,ot2,rfl,ot69⟩
theorem ot29:Z.OpenT Tryz.prog 29 (Z.Ty.slice T94):=Z.ot_slice (by kernel_rfl) Tryz.underlying29 ot95
theorem ot31:Z.OpenT Tryz.prog 31 T30:=Z.ot_struct (by kernel_rfl) Tryz.underlying31 ⟨rfl,ot28,rfl,ot22,rfl,ot29⟩
theorem ot32:Z.OpenT Tryz.prog 32 A.ti:=Z.ot_int (by kernel_rfl) Tryz.underlying32
theorem ot56:Z.OpenT Tryz.prog 56 T55:=Z.ot_struct (by kernel_rfl) Tryz.underlying56 ⟨rfl,ot3,rfl,ot2,rfl,ot2,rfl,ot31,rfl,ot32⟩
theorem ot25:Z.OpenT Tryz.prog 25 (Z.Ty.slice T55):=Z.ot_slice (by kernel_rfl) Tryz.underlying25 ot56
theorem ot27:Z.OpenT Tryz.prog 27 T26:=Z.ot_struct (by kernel_rfl) Tryz.underlying27 ⟨rfl,ot24,rfl,ot25⟩
theorem ot34:Z.OpenT Tryz.prog 34 T33:=Z.ot_struct (by kernel_rfl) Tryz.underlying34 ⟨rfl,ot3,rfl,ot31,rfl,ot2,rfl,ot32⟩
set_option maxRecDepth 100000 in
theorem laid_met (os:Os)(args:Array Value):laidMetH Tryz.prog Rows.journalNotesRow.laid (({World.holding Tryz.prog os ⟨#[],#[],[]⟩with heap:=((World.holding Tryz.prog os ⟨#[],#[],[]⟩).heap.modify 0 (A.putCells A.tabF)).modify 1 (A.putCells A.tabA)}:World).forCall (fun _ _=>0) ⟨#[],args,[]⟩).memory:=by
 rw[MakeChecks.laidMetH_plain _ _ _ (by kernel_rfl)]
 exact(LaidIn.of_run (l:=Rows.journalNotesRow.laid) [1,0] 8 (by kernel_rfl) (by kernel_rfl) (by kernel_rfl) (by kernel_rfl)).met
theorem of_laid {W:World}(h:laidMetH Tryz.prog Rows.journalNotesRow.laid W):Lib.Utf8Tabs 0 1 W:=by
 rw[MakeChecks.laidMetH_plain _ _ _ (by kernel_rfl)]at h
 have h1:=Lib.laidMet.reads h (.tail _ (.head _))
 rw[show Rows.laid_unicode_utf8_first=Lib.firstData from Pinned.utf8First_eq]at h1
 have h2:=Lib.laidMet.reads h (.head _)
 rw[show(Rows.laid_unicode_utf8_acceptRanges:DataW Unit)=Lib.acceptData by kernel_rfl]at h2
 exact utf8Tabs_of_readsT (U8Types.of196 Tryz.laysValid) ⟨by kernel_rfl,by kernel_rfl,by kernel_rfl,by kernel_rfl,by kernel_rfl,by kernel_rfl,by kernel_rfl⟩ h1 h2
set_option maxHeartbeats 1000000 in
set_option maxRecDepth 100000 in
theorem lifted (os:Os)(started:os.Started)(H:Type)(enc:TypeId×Value→H):
  ReturnsInHanded {} Tryz.checked os 6 .any (fun w args=>(Rows.journalNotesSpec.pre enc Tryz.prog Tryz.f6 [] false w args∧laidMetH Tryz.prog Rows.journalNotesRow.laid w)∧sizedMet enc Tryz.prog Tryz.f6 (OpenSpec.ofChange Rows.journalNotesSpec) false w args) (Rows.journalNotesSpec.post enc Tryz.prog Tryz.f6 false true false false):=by
 refine returnsInHanded_of_change_and (C:=Tryz.checked) (X:=fun w _=>laidMetH Tryz.prog Rows.journalNotesRow.laid w) (fun _ _ _ hh h=>h.of_heap hh) own started (by kernel_rfl) Tryz.func6
  (ChangeSpec.witness_shaped (enc:=enc) (C:=Tryz.checked) (os:=os) (X:=fun w _=>laidMetH Tryz.prog Rows.journalNotesRow.laid w) false ({World.holding Tryz.prog os ⟨#[],#[],[]⟩with heap:=((World.holding Tryz.prog os ⟨#[],#[],[]⟩).heap.modify 0 (A.putCells A.tabF)).modify 1 (A.putCells A.tabA)}) #[.agg #[.slice none 0 0,.slice none 0 0],.agg #[.slice none 0 0,.slice none 0 0],.agg #[A.i 0,.slice none 0 0,.slice none 0 0,.slice none 0 0,A.i 0,A.i 0]] 16 rfl (World.shaped_of_RefB (by kernel_rfl) (by kernel_rfl)) (by kernel_rfl) (by kernel_rfl) (by kernel_rfl) (laid_met os _)) ?_
 intro W base args ds gs before hval0 hW hcnd _ hL _
 have hval: ∀(j:Nat) t v,Tryz.f6.params[j]?=some t→args[j]?=some v→Value.okWide Tryz.prog W .any base t v:=hval0
 have hW':=hW
 obtain⟨p,q,hA0,hV,rfl,hfz,hnd⟩:=hW
 have hA:DataW.TrodAll enc Tryz.prog W 0 (fun _=>true) true Tryz.f6.params.toList args.toList ds p:=hA0
 rw[Tryz.params6]at hA hval
 obtain⟨v0,vs0,d0,ds0,p0,q0,hargs,rfl,rfl,h0,r0⟩:=trodAll_cons hA
 obtain⟨v1,vs1,d1,ds1,p1,q1,rfl,rfl,rfl,h1,r1⟩:=trodAll_cons r0
 obtain⟨v2,vs2,d2,ds2,p2,q2,rfl,rfl,rfl,h2,r2⟩:=trodAll_cons r1
 obtain⟨rfl,rfl,rfl⟩:=trodAll_nil r2
 obtain rfl:args=#[v0,v1,v2]:=by cases args;simp_all
 obtain⟨rfl,rfl⟩:=trodVars_none hV
 have k0:=h0
 have lt0: ∀x∈p0,x.block<W.heap.size:=by obtain⟨m,hm⟩:=k0;exact DataW.trod_lt m _ _ _ hm
 obtain⟨fu0,hf0⟩:=h0
 obtain⟨x0,hx0⟩:=ot27.2 _ _ _ _ _ _ _ _ _ hf0
 obtain⟨cs0,rfl,_⟩:=okWide_struct Tryz.underlying27 (hval 0 27 v0 rfl rfl)
 replace hx0:T26.rep W (Z.nt []) cs0.toList x0:=hx0
 have hok0:=Z.rep_ok _ hx0
 obtain⟨ca1,cb2,he3,hr4,hr5⟩:=hx0
 obtain⟨A6,c7,he8,hn9,hn10⟩:=Z.rep_slice hr4
 rw[he8]at hr4
 have hle_A6:=Z.rep_le hr4
 obtain⟨A11,c12,he13,hn14,hn15⟩:=Z.rep_slice hr5
 rw[he13]at hr5
 have hle_A11:=Z.rep_le hr5
 have he0:cs0.toList=[.slice A6 x0.1.length c7,.slice A11 x0.2.length c12]:=by simp only[he3,he8,he13,List.cons_append,List.nil_append]
 obtain rfl:cs0=#[.slice A6 x0.1.length c7,.slice A11 x0.2.length c12]:=by rw[←Array.toArray_toList (xs:=cs0),he0]
 have k1:=h1
 have lt1: ∀x∈p1,x.block<W.heap.size:=by obtain⟨m,hm⟩:=k1;exact DataW.trod_lt m _ _ _ hm
 obtain⟨fu1,hf1⟩:=h1
 obtain⟨x1,hx1⟩:=ot27.2 _ _ _ _ _ _ _ _ _ hf1
 obtain⟨cs1,rfl,_⟩:=okWide_struct Tryz.underlying27 (hval 1 27 v1 rfl rfl)
 replace hx1:T26.rep W (Z.nt []) cs1.toList x1:=hx1
 have hok1:=Z.rep_ok _ hx1
 obtain⟨ca16,cb17,he18,hr19,hr20⟩:=hx1
 obtain⟨A21,c22,he23,hn24,hn25⟩:=Z.rep_slice hr19
 rw[he23]at hr19
 have hle_A21:=Z.rep_le hr19
 obtain⟨A26,c27,he28,hn29,hn30⟩:=Z.rep_slice hr20
 rw[he28]at hr20
 have hle_A26:=Z.rep_le hr20
 have he1:cs1.toList=[.slice A21 x1.1.length c22,.slice A26 x1.2.length c27]:=by simp only[he18,he23,he28,List.cons_append,List.nil_append]
 obtain rfl:cs1=#[.slice A21 x1.1.length c22,.slice A26 x1.2.length c27]:=by rw[←Array.toArray_toList (xs:=cs1),he1]
 have k2:=h2
 have lt2: ∀x∈p2,x.block<W.heap.size:=by obtain⟨m,hm⟩:=k2;exact DataW.trod_lt m _ _ _ hm
 obtain⟨fu2,hf2⟩:=h2
 obtain⟨x2,hx2⟩:=ot34.2 _ _ _ _ _ _ _ _ _ hf2
 obtain⟨cs2,rfl,_⟩:=okWide_struct Tryz.underlying34 (hval 2 34 v2 rfl rfl)
 replace hx2:T33.rep W (Z.nt []) cs2.toList x2:=hx2
 have hok2:=Z.rep_ok _ hx2
 obtain⟨ca31,cb32,he33,hr34,hr35⟩:=hx2
 have he36:=hr34.1
 obtain⟨ca37,cb38,he39,hr40,hr41⟩:=hr35
 obtain⟨ca42,cb43,he44,hr45,hr46⟩:=hr40
 obtain⟨A47,c48,he49,hn50,hn51⟩:=Z.rep_slice hr45
 rw[he49]at hr45
 have hle_A47:=Z.rep_le hr45
 obtain⟨ca52,cb53,he54,hr55,hr56⟩:=hr46
 obtain⟨A57,c58,he59,hn60,hn61⟩:=Z.rep_slice hr55
 rw[he59]at hr55
 have hle_A57:=Z.rep_le hr55
 obtain⟨A62,c63,he64,hn65,hn66⟩:=Z.rep_slice hr56
 rw[he64]at hr56
 have hle_A62:=Z.rep_le hr56
 obtain⟨ca67,cb68,he69,hr70,hr71⟩:=hr41
 have he72:=hr70.1
 have he73:=hr71.1
 have he2:cs2.toList=[A.i x2.1,.slice A47 x2.2.1.1.length c48,.slice A57 x2.2.1.2.1.length c58,.slice A62 x2.2.1.2.2.length c63,A.i x2.2.2.1,A.i x2.2.2.2]:=by simp only[he33,he36,he39,he44,he49,he54,he59,he64,he69,he72,he73,List.cons_append,List.nil_append]
 obtain rfl:cs2=#[A.i x2.1,.slice A47 x2.2.1.1.length c48,.slice A57 x2.2.1.2.1.length c58,.slice A62 x2.2.1.2.2.length c63,A.i x2.2.2.1,A.i x2.2.2.2]:=by rw[←Array.toArray_toList (xs:=cs2),he2]
 clear hA0 hval0
 have htab:=of_laid hL
 have hF:F.cf x0 x1 x2=some true:=journalNotes_plain x0 x1 x2 hok0 hok1 hok2
 have hct:=o_aF A6 A11 A21 A26 A47 A57 A62 c7 c12 c22 c27 c48 c58 c63 x0 x1 x2 hok2.1 hok2.2.2.1 hok2.2.2.2 true hF
 refine(hct W (fun _=>True) (A.Hp.start ⟨A.Hall.sh hr4,A.Hall.sh hr5,A.Hall.sh hr19,A.Hall.sh hr20,A.Hall.sh hr45,A.Hall.sh hr55,A.Hall.sh hr56,A.Hall.tabs htab⟩)).mono ?_
 rintro e W' ⟨v,H',rfl,⟨rfl,rfl⟩,hh⟩
 have bel:=hh.ch.below
 exact⟨_,rfl,_,_,_,[],_,[],hW',trodAll_mk1 (shut_bool Tryz.underlying4 _),(trodAll_cons_mk (Below.trod laidOut (by kernel_rfl) (of_decide_eq_true (by kernel_rfl)) k0 bel lt0) (trodAll_cons_mk (Below.trod laidOut (by kernel_rfl) (of_decide_eq_true (by kernel_rfl)) k1 bel lt1) (trodAll_cons_mk (Below.trod laidOut (by kernel_rfl) (of_decide_eq_true (by kernel_rfl)) k2 bel lt2) trodAll_mk0))),rfl,bel.frame _,fun h=>by cases h⟩
theorem over:Rows.journalNotesRow.holds Tryz.pinned (OpenSpec.ofChange Rows.journalNotesSpec):=
 OpenClaim.holds_of_wide 6 Tryz.f6 rfl rfl rfl rfl rfl rfl rfl ⟨rfl,rfl,rfl,rfl,rfl⟩ rfl rfl rfl rfl rfl (by kernel_rfl) Tryz.func6 (by kernel_rfl)
  (of_decide_eq_true (by kernel_rfl)) (by unfold Func.isWrapper;first|(rw[if_pos (by decide+kernel)];kernel_rfl)|(rw[if_neg (by decide+kernel)];exact⟨rfl,rfl⟩))
  (fun os started H enc _=>lifted os started H enc)
theorem proved:Rows.JournalNotesCardSaid:=
 Claim7.holds_tied_plain_at .later [] [.data,.pinned] true (true,"dcf9895dc01dd190c890d480028fc795193f40708716d6b48c7f1189faf6d443") false
  over (fun _ h=>by cases h) (by kernel_rfl) (fun _ h=>by cases h) journalNotes_row_tie rfl ⟨rfl,rfl⟩ (by kernel_rfl) rfl
  (fun f fn hf hfn=>by
   obtain rfl:f=6:=Option.some.inj ((show Tryz.prog.funcNamed Rows.journalNotesRow.func=some 6 by kernel_rfl).symm.trans hf) |>.symm
   obtain rfl:fn=Tryz.f6:=(Option.some.inj (Tryz.func6.symm.trans hfn)).symm
   exact⟨by kernel_rfl,fun j t ht=>by
    rw[Tryz.params6]at ht
    have hm:t∈[27,27,34]:=by simpa using Array.mem_of_getElem? ht
    have hall:([27,27,34].all fun u=> !Tryz.prog.wantsStandIn u)=true:=by kernel_rfl
    exact(show Tryz.prog.wantsStandIn t=false by simpa using List.all_eq_true.1 hall t hm)⟩)
  (by kernel_rfl)
#print axioms proved
end Go.Proofs.YtfdfcaiiengdfaaGreatDoor.journalNotesDone
end
