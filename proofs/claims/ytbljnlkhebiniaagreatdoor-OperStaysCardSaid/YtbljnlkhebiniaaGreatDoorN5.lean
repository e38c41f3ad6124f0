/- Plain: counts, what keys come to, joins, by the program. * Plain: totals, new records, the state behind it; records sorted, each once: by the program. * Plain: what a node that holds makes of all of a time, by the program. * Plain: bags added, small arguments, states behind a time: what the laws of nodes that hold need. * Plain: a text that has a rune; a text in pieces between runes. No program in sight. * Plain: what comes at once of records, by the program. * Plain: what comes at once of records, by the reference; OperBatches, OperEach. * Plain: records and entries held against one another; states, by the program and by the reference. * Plain: OperBatches, OperEach, OperStays. * Plain: what comes are records; the state behind is a state. * A layer over the small logic, continued: a contract that asks for a variable of the library's own: its cell holds some number, by the world's shape. No program in sight. * A small logic over the model's walk, continued: arguments of a row, opened: what a reader treads reads as a datum. No program in sight. * The law 'OperStays' as it is given: whatever the input, the call returns true, and each argument reads behind it as it read before. No condition but that utf8's two tables hold what the library's text lays, which the card ties. -/
import Derived.Test.YtbljnlkhebiniaaGreatDoorN4
import Derived.Lib.IndexMore
import Derived.Test.YtbljnlkhebiniaaGreatDoorN2
import Derived.Shelf.Vars
import Derived.SizedLaws
import Derived.ChangeAgain
import Derived.Test.YtbljnlkhebiniaaGreatDoorN0
import Derived.OpenShut
import Derived.ShutString
import Derived.ChangeOld
import Derived.ChangeArms
import Derived.DataReads
import Derived.Test.YtbljnlkhebiniaaGreatDoorRows
import Derived.Test.YtbljnlkhebiniaaGreatDoorTie
import Derived.Test.YtbljnlkhebiniaaGreatDoorCards
import Derived.WalkKit
import Derived.ProofKit
import Derived.Below
import Derived.LaidMore
import Derived.Stop.Joined
import Derived.SevenTiedAt
import Derived.Lib.LaidIn
import Derived.Lib.LaidU8T
import Derived.PinnedBridge
section
set_option maxRecDepth 20000
set_option linter.unusedVariables false
set_option linter.unusedSimpArgs false
namespace Go.Proofs.YtbljnlkhebiniaaGreatDoor
open Go.RowKit Go.Graph Go.Utf Go.Ent Go.Opr
abbrev Ob:=Nd×List Rc×List (Rc×Int)
theorem grp_len: ∀(l:List Mn),(grp l).length≤l.length
 | []=>Nat.le_refl _
 |m::l=>by
  have:=grp_len l
  rw[grp_cons]
  rcases grp_head l with⟨rfl,h⟩|⟨m',t,g,r,rfl,h⟩
  ·rw[h];simp
  ·rw[h]at this ⊢
   by_cases e:m.1.1=m'.1.1
   ·simp only[if_pos e];simp only[List.length_cons]at this ⊢;omega
   ·simp only[if_neg e];simp only[List.length_cons]at this ⊢;omega
theorem grp_bag {l:List Mn}(h:Bag l){kg:Int×List Mn}(hk:kg∈grp l):Bag kg.2:=by
 rw[grp_oth h.kl hk];exact h.sub List.filter_sublist
theorem grp_size {l:List Mn}(h:KL l){kg:Int×List Mn}(hk:kg∈grp l):kg.2.length≤l.length:=by
 rw[grp_oth h hk];exact List.length_filter_le ..
theorem counts_l (x:Ob)(f:Fun)(b:List Mn): ∀(gs:List (Int×List Mn)) (xs:List Rc),(∀kg,kg∈gs→Bag kg.2∧kg.2.length≤1000)→xs.length+gs.length≤1000000→
  F.oper_teller_counts_l1 x gs xs x.1.1 x.1.2.1 x.1.2.2.2.1.1 x.1.2.2.2.1.2.1 x.1.2.2.2.1.2.2 x.1.2.2.2.2.1 x.1.2.2.2.2.2.1 x.1.2.2.2.2.2.2=some (x.1,xs++gs.flatMap (outG 7 f b),x.2.2)
 | [],xs,_,_=>by rw[F.oper_teller_counts_l1];simp
 |kg::gs,xs,h,hl=>by
  obtain⟨h1,h2⟩:=h kg (List.mem_cons_self ..)
  obtain⟨t1,t2,t3⟩:=times_eq kg.2 h2 h1.one h1.top
  rw[List.length_cons]at hl
  rw[F.oper_teller_counts_l1,t1,Option.bind_some,number_dec _ t2 (by omega),Option.bind_some,A.gd1 (by simp only[List.length_cons,List.length_nil];omega),counts_l x f b gs _ (fun kg hk=>h kg (List.mem_cons_of_mem _ hk)) (by simp only[List.length_append,List.length_cons,List.length_nil];omega),List.flatMap_cons]
  simp[outG]
theorem counts_eq (x:Ob)(f:Fun)(a b:List Mn)(ha:Bag a)(hl:a.length≤1000)(hx:x.2.1.length≤100000):F.oper_teller_counts x a=some (x.1,x.2.1++(grp a).flatMap (outG 7 f b),x.2.2):=by
 have:=grp_len a
 rw[F.oper_teller_counts,Keys_ok ha hl,Option.bind_some,Keys_it a hl,Option.bind_some]
 exact counts_l x f b _ _ (fun kg hk=>⟨grp_bag ha hk,Nat.le_trans (grp_size ha.kl hk) hl⟩) (by omega)
theorem runes_len (s:ByteArray)(hs:s.size≤1099511627776):F.fn_runes s=some ((cks s.data.toList).map (·.2))∧(((cks s.data.toList).map (·.2)).length:Int)=rns s:=⟨runes_F s hs,by rw[List.length_map];rfl⟩
theorem fn_ahead_eq (k:Int)(a b:ByteArray)(ha:a.size≤1099511627776)(hb:b.size≤1099511627776):F.fn_ahead k a b=some (aheadP k a b):=by
 obtain⟨r1,r2⟩:=runes_len a ha
 obtain⟨r3,r4⟩:=runes_len b hb
 rw[F.fn_ahead]
 unfold aheadP
 by_cases h1:k=31
 ·rw[if_pos h1,if_pos h1];rfl
 ·rw[if_neg h1,if_neg h1]
  by_cases h2:k=32
  ·rw[if_pos h2,if_pos h2,tl_eq];rfl
  ·rw[if_neg h2,if_neg h2,r1,Option.bind_some,r3,Option.bind_some,r2,r4]
   by_cases h3:rns b<rns a
   ·rw[if_pos h3,decide_eq_true h3];rfl
   ·rw[if_neg h3,decide_eq_false h3,Bool.false_or]
    show some (bif decide (rns a=rns b)then bl a b else false)=_
    cases decide (rns a=rns b)<;>rfl
theorem cut_eq (s:ByteArray)(hs:s.size≤9223372036854775807):F.rec_Cut s 64=some (cut s):=rec_Cut_eq s 64 hs
theorem red_eq (f:Fun)(g:List Mn)(hf:chk 8 f=0)(hs:f.2.2.size≤1000)(hg:Bag g)(hl:g.length≤1000)(hne:g≠[])(k:Int)(hk: ∀m,m∈g→m.1.1=k):F.fn_Reduce f g=some (red f.1 g,0):=by
 rw[F.fn_Reduce]
 show(F.fn_Check 8 f).bind _=_
 rw[fn_Check_eq 8 f (by omega),Option.bind_some,hf,if_neg (by simp),rec_CheckBag_eq g (by unfold maxLen;omega),Option.bind_some,chkB_iff.2 hg,if_neg (by simp)]
 cases g with
 |nil=>exact absurd rfl hne
 |cons m g=>
  have e0:A.ix (m::g) 0=some m:=rfl
  rw[if_neg (by simp only[List.length_cons];omega),e0,Option.bind_some,A.gd1 ⟨by omega,by simp⟩]
  have hd:List.drop ((1:Int).toNat) (m::g)=g:=rfl
  have hm:=hk m (List.mem_cons_self ..)
  have txt: ∀x,x∈m::g→x.1.2.size≤64:=fun x hx=>(okT_iff.1 (hg.txt x hx)).1
  have fin: ∀y:ByteArray,y.size≤100000→(F.rec_Cut y 64).bind (fun r37=>some ((m.1.1,r37),(0:Int)))=some ((m.1.1,cut y),0):=fun y hy=>by rw[cut_eq y (by omega)];rfl
  exact A.lp g (fun n (s:ByteArray) y=>F.fn_Reduce_l2 f (m::g) n m.1.1 s y) (fun k r s=>some ((m.1.1,cut (redT f.1 s r)),0)) (fun k s=>s.size≤64*(k+1))
   (fun n s hp=>by
    show F.fn_Reduce_l2 f (m::g) (n+1) m.1.1 s _=_
    rw[F.fn_Reduce_l2,hd,if_neg (by omega)]
    rw[List.length_cons]at hl
    exact fin s (by omega))
   (fun n s j x hx hj hp ih=>by
    have hxm:=List.mem_of_getElem? hx
    have hx64:=txt x (List.mem_cons_of_mem _ hxm)
    rw[List.length_cons]at hl
    have hkx:x.1.1=m.1.1:=(hk x (List.mem_cons_of_mem _ hxm)).trans hm.symm
    show F.fn_Reduce_l2 f (m::g) (n+1) m.1.1 s _=some ((m.1.1,cut (redT f.1 (if f.1=34 then s++x.1.2 else if aheadP f.1 x.1.2 s=true then x.1.2 else s) (g.drop (j+1)))),0)
    have nx: ∀y:ByteArray,y.size≤64*(j+1+1)→F.fn_Reduce_j1 (F.fn_Reduce_l2 f (m::g) n) m.1.1 (j:Int) y=some ((m.1.1,cut (redT f.1 y (g.drop (j+1)))),0):=fun y hy=>by
     rw[F.fn_Reduce_j1,A.gd1 ⟨by omega,by omega⟩]
     exact ih y hy
    rw[F.fn_Reduce_l2,hd,if_pos (by omega),A.ixn hx,Option.bind_some,if_neg (fun h=>h hkx)]
    by_cases h34:f.1=34
    ·rw[if_pos h34,if_pos h34,A.gd1 (by omega)]
     exact nx _ (by rw[ByteArray.size_append];omega)
    ·rw[if_neg h34,if_neg h34,fn_ahead_eq _ _ _ (by omega) (by omega),Option.bind_some]
     by_cases ha:aheadP f.1 x.1.2 s=true
     ·rw[if_pos ha,if_pos ha];exact nx _ (by omega)
     ·rw[if_neg ha,if_neg ha];exact nx _ (by omega))
   (by have:=FU_big;rw[List.length_cons]at hl;omega) m.1.2 (by have:=txt m (List.mem_cons_self ..);omega)
theorem reduces_l (x:Ob)(b:List Mn)(hf:chk 8 x.1.2.2.2.1=0)(hs:x.1.2.2.2.1.2.2.size≤1000): ∀(gs:List (Int×List Mn)) (xs:List Rc),(∀kg,kg∈gs→Bag kg.2∧kg.2.length≤1000∧kg.2≠[]∧∀m,m∈kg.2→m.1.1=kg.1)→xs.length+gs.length≤1000000→
  F.oper_teller_reduces_l1 x gs xs x.1.1 x.1.2.1 x.1.2.2.2.1.1 x.1.2.2.2.1.2.1 x.1.2.2.2.1.2.2 x.1.2.2.2.2.1 x.1.2.2.2.2.2.1 x.1.2.2.2.2.2.2=some (x.1,xs++gs.flatMap (outG 8 x.1.2.2.2.1 b),x.2.2)
 | [],xs,_,_=>by rw[F.oper_teller_reduces_l1];simp
 |kg::gs,xs,h,hl=>by
  obtain⟨h1,h2,h3,h4⟩:=h kg (List.mem_cons_self ..)
  rw[List.length_cons]at hl
  rw[F.oper_teller_reduces_l1]
  show(F.fn_Reduce x.1.2.2.2.1 kg.2).bind _=_
  rw[red_eq _ _ hf hs h1 h2 h3 kg.1 h4,Option.bind_some,if_pos rfl,A.gd1 (by simp only[List.length_cons,List.length_nil];omega),reduces_l x b hf hs gs _ (fun kg hk=>h kg (List.mem_cons_of_mem _ hk)) (by simp only[List.length_append,List.length_cons,List.length_nil];omega),List.flatMap_cons]
  simp[outG]
theorem reduces_eq (x:Ob)(a b:List Mn)(hf:chk 8 x.1.2.2.2.1=0)(hs:x.1.2.2.2.1.2.2.size≤1000)(ha:Bag a)(hl:a.length≤1000)(hx:x.2.1.length≤100000):F.oper_teller_reduces x a=some (x.1,x.2.1++(grp a).flatMap (outG 8 x.1.2.2.2.1 b),x.2.2):=by
 have:=grp_len a
 rw[F.oper_teller_reduces,Keys_ok ha hl,Option.bind_some,Keys_it a hl,Option.bind_some]
 exact reduces_l x b hf hs _ _ (fun kg hk=>⟨grp_bag ha hk,Nat.le_trans (grp_size ha.kl hk) hl,grp_all hk⟩) (by omega)
theorem oth_map (b:List Mn)(hb:KL b): ∀k,Z.mget ([]:List Mn) ((grp b).foldl (fun m kg=>Z.mins m kg.1 kg.2) []) k=oth b k:=by
 have main: ∀(gs:List (Int×List Mn)) (m:List (Int×List Mn)),(∀kg,kg∈gs→kg.2=oth b kg.1)→(∀k,Z.mhas m k=true→Z.mget ([]:List Mn) m k=oth b k)→∀k,(Z.mhas m k=true∨∃kg,kg∈gs∧kg.1=k)→Z.mget ([]:List Mn) (gs.foldl (fun m kg=>Z.mins m kg.1 kg.2) m) k=oth b k:=by
  intro gs
  induction gs with
  |nil=>intro m _ h2 k h3;exact h2 k (h3.resolve_right (by simp))
  |cons x gs ih=>
   intro m h1 h2 k h3
   have hx:=h1 x (List.mem_cons_self ..)
   refine ih (Z.mins m x.1 x.2) (fun kg hk=>h1 kg (List.mem_cons_of_mem _ hk)) (fun k hk=>?_) k ?_
   ·rw[Z.mget_ins]
    split
    ·rename_i e;rw[e,hx]
    ·rename_i e
     rw[Z.mhas_ins,decide_eq_false e,Bool.false_or]at hk
     exact h2 k hk
   ·rw[Z.mhas_ins]
    rcases h3 with h3|⟨kg,hk,rfl⟩
    ·left;rw[h3,Bool.or_true]
    ·rcases List.mem_cons.1 hk with rfl|hk
     ·left;rw[decide_eq_true rfl,Bool.true_or]
     ·right;exact⟨kg,hk,rfl⟩
 intro k
 by_cases h: ∃kg,kg∈grp b∧kg.1=k
 ·exact main (grp b) [] (fun kg hk=>grp_oth hb hk) (fun k hk=>by cases hk) k (.inr h)
 ·have h0:oth b k=[]:=by
   rw[List.filter_eq_nil_iff]
   intro m hm
   simp only[decide_eq_true_eq]
   intro e
   rw[←grp_flat b]at hm
   obtain⟨kg,hk,hmk⟩:=List.mem_flatMap.1 hm
   exact h ⟨kg,hk,((grp_all hk).2 m hmk).symm.trans e⟩
  rw[h0]
  refine Z.mget_none ?_
  have nokey: ∀(gs:List (Int×List Mn)) (m:List (Int×List Mn)),Z.mhas m k=false→(∀kg,kg∈gs→kg.1≠k)→Z.mhas (gs.foldl (fun m kg=>Z.mins m kg.1 kg.2) m) k=false:=by
   intro gs
   induction gs with
   |nil=>intro m h _;exact h
   |cons x gs ih=>
    intro m h1 h2
    refine ih _ ?_ fun kg hk=>h2 kg (List.mem_cons_of_mem _ hk)
    rw[Z.mhas_ins,h1,decide_eq_false (fun e=>h2 x (List.mem_cons_self ..) e.symm)];rfl
  exact nokey _ _ rfl fun kg hk e=>h ⟨kg,hk,e⟩
theorem joins_l (x:Ob)(m23:List (Int×List Mn))(f:Fun)(b:List Mn)(hm: ∀k,Z.mget ([]:List Mn) m23 k=oth b k)(hb:Bag b)(hbl:b.length≤1000):
  ∀(gs:List (Int×List Mn)) (xs:List Rc),(∀kg,kg∈gs→Bag kg.2)→xs.length+(gs.flatMap (·.2)).length*1000≤10000000→(gs.flatMap (·.2)).length≤1000→
  F.oper_teller_joins_l3 x m23 gs xs x.1.1 x.1.2.1 x.1.2.2.2.1.1 x.1.2.2.2.1.2.1 x.1.2.2.2.1.2.2 x.1.2.2.2.2.1 x.1.2.2.2.2.2.1 x.1.2.2.2.2.2.2=some (x.1,xs++gs.flatMap (outG 9 f b),x.2.2)
 | [],xs,_,_,_=>by rw[F.oper_teller_joins_l3];simp
 |kg::gs,xs,h,hl,hl2=>by
  have h1:=h kg (List.mem_cons_self ..)
  have hFU:=FU_big
  rw[List.flatMap_cons,List.length_append]at hl hl2
  have ob:(oth b kg.1).length≤1000:=Nat.le_trans (List.length_filter_le ..) hbl
  have otx: ∀y,y∈oth b kg.1→y.1.2.size≤64:=fun y hy=>(okT_iff.1 (hb.txt y (List.mem_filter.1 hy).1)).1
  rw[F.oper_teller_joins_l3]
  have nil0: ∀xs:List Rc,xs.length+(gs.flatMap (·.2)).length*1000≤10000000→F.oper_teller_joins_l3 x m23 gs xs x.1.1 x.1.2.1 x.1.2.2.2.1.1 x.1.2.2.2.1.2.1 x.1.2.2.2.1.2.2 x.1.2.2.2.2.1 x.1.2.2.2.2.2.1 x.1.2.2.2.2.2.2=some (x.1,xs++gs.flatMap (outG 9 f b),x.2.2):=fun xs hx=>
   joins_l x m23 f b hm hb hbl gs xs (fun kg hk=>h kg (List.mem_cons_of_mem _ hk)) hx (by omega)
  refine(A.lp kg.2 (fun n (s:List Rc) y=>F.oper_teller_joins_l2 (F.oper_teller_joins_l3 x m23 gs) m23 kg n s x.1.1 x.1.2.1 x.1.2.2.2.1.1 x.1.2.2.2.1.2.1 x.1.2.2.2.1.2.2 x.1.2.2.2.2.1 x.1.2.2.2.2.2.1 x.1.2.2.2.2.2.2 y)
   (fun j r s=>some (x.1,(s++joinsG kg.1 r (oth b kg.1))++gs.flatMap (outG 9 f b),x.2.2)) (fun j s=>s.length≤xs.length+1000*j)
   (fun n s hp=>by
    show F.oper_teller_joins_l2 _ m23 kg (n+1) s _ _ _ _ _ _ _ _ _=_
    rw[F.oper_teller_joins_l2,if_neg (by omega),nil0 s (by omega)]
    simp[joinsG])
   (fun n s j p hpj hj hp ih=>by
    have p64:=(okT_iff.1 (h1.txt p (List.mem_of_getElem? hpj))).1
    show F.oper_teller_joins_l2 _ m23 kg (n+1) s _ _ _ _ _ _ _ _ _=_
    rw[F.oper_teller_joins_l2,if_pos (by omega),A.ixn hpj,Option.bind_some,hm,A.lt]
    refine(A.lp (oth b kg.1) (fun n' (s:List Rc) y=>F.oper_teller_joins_l1 (F.oper_teller_joins_l2 (F.oper_teller_joins_l3 x m23 gs) m23 kg n) kg (j:Int) p (oth b kg.1) n' s x.1.1 x.1.2.1 x.1.2.2.2.1.1 x.1.2.2.2.1.2.1 x.1.2.2.2.1.2.2 x.1.2.2.2.2.1 x.1.2.2.2.2.2.1 x.1.2.2.2.2.2.2 y)
     (fun i r s'=>some (x.1,(s'++(r.map fun q=>(kg.1,cut ((p.1.2++ByteArray.mk #[43])++q.1.2))))++joinsG kg.1 (kg.2.drop (j+1)) (oth b kg.1)++gs.flatMap (outG 9 f b),x.2.2)) (fun i s'=>s'.length≤xs.length+1000*j+i)
     (fun n' s' hp'=>by
      show F.oper_teller_joins_l1 _ kg (j:Int) p (oth b kg.1) (n'+1) s' _ _ _ _ _ _ _ _ _=_
      rw[F.oper_teller_joins_l1,if_neg (by omega),A.gd1 ⟨by omega,by omega⟩]
      refine(ih s' (by omega)).trans ?_
      simp)
     (fun n' s' i q hq hi hp' ih'=>by
      have q64:=otx q (List.mem_of_getElem? hq)
      have e43:(ByteArray.mk #[43]).size=1:=rfl
      show F.oper_teller_joins_l1 _ kg (j:Int) p (oth b kg.1) (n'+1) s' _ _ _ _ _ _ _ _ _=_
      rw[F.oper_teller_joins_l1,if_pos (by omega),A.ixn hq,Option.bind_some,A.gd1 ⟨by omega,by rw[ByteArray.size_append];omega⟩,cut_eq _ (by rw[ByteArray.size_append,ByteArray.size_append];omega),Option.bind_some,A.gd1 (by simp only[List.length_cons,List.length_nil];omega),A.gd1 ⟨by omega,by omega⟩]
      refine(ih' (s'++[(kg.1,cut ((p.1.2++ByteArray.mk #[43])++q.1.2))]) (by simp only[List.length_append,List.length_cons,List.length_nil];omega)).trans ?_
      simp)
     (by omega) s (by omega)).trans ?_
    simp[joinsG])
   (by omega) xs (by omega)).trans ?_
  rw[List.flatMap_cons]
  simp[outG]
theorem joins_eq (x:Ob)(f:Fun)(a b:List Mn)(ha:Bag a)(hl:a.length≤1000)(hb:Bag b)(hbl:b.length≤1000)(hx:x.2.1.length≤100000):F.oper_teller_joins x a b=some (x.1,x.2.1++(grp a).flatMap (outG 9 f b),x.2.2):=by
 have ls: ∀(gs:List (Int×List Mn)) (m:List (Int×List Mn)),F.oper_teller_joins_l4 x a gs m=F.oper_teller_joins_l4 x a [] (gs.foldl (fun m kg=>Z.mins m kg.1 kg.2) m):=by
  intro gs
  induction gs with
  |nil=>intro m;rfl
  |cons y gs ih=>intro m;exact ih (Z.mins m y.1 y.2)
 have:=grp_flat a
 rw[F.oper_teller_joins,Keys_ok hb hbl,Option.bind_some,Keys_it b hbl,Option.bind_some,ls,F.oper_teller_joins_l4,Keys_ok ha hl,Option.bind_some,Keys_it a hl,Option.bind_some]
 exact joins_l x _ f b (oth_map b hb.kl) hb hbl _ _ (fun kg hk=>grp_bag ha hk) (by rw[this];omega) (by rw[this];omega)
end Go.Proofs.YtbljnlkhebiniaaGreatDoor
end
section
set_option maxRecDepth 20000
set_option linter.unusedVariables false
set_option linter.unusedSimpArgs false
namespace Go.A
theorem dem_all {α β γ:Type}[DecidableEq γ](m:List α)(g:α→β)(L:Nat→List Nat→List β→Option γ)(E:List β→Option γ)(S:α→List β→Option γ→Option γ)(r:γ)
  (hL: ∀f sn xs,L (f+1) sn xs=dem m sn (E xs) fun i p=>S p xs (L f (i::sn) (xs++[g p])))
  (hS: ∀p xs o,p∈m→xs.length<m.length→S p xs o=o)
  (hE: ∀ys,ys.Perm (m.map g)→E ys=some r) (hm:m.length<FU):L FU [] []=some r:=by
 have main: ∀(f:Nat) (sn:List Nat) (xs:List β),sn.Nodup→(∀i,i∈sn→i<m.length)→m.length<f+sn.length→xs.length=sn.length→xs.Perm ((sn.filterMap fun i=>m[i]?).map g)→L f sn xs=some r:=by
  intro f
  induction f with
  |zero=>intro sn xs h1 h2 h3;have:=seen_lt h1 h2;omega
  |succ f ih=>
   intro sn xs h1 h2 h3 h4 h5
   have hsl:=seen_lt h1 h2
   rw[hL]
   have dof: ∀{e:Option γ} {k:Nat→α→Option γ},((∀i,i<m.length→i∈sn)→e=some r)→(∀i p,m[i]?=some p→i∉sn→k i p=some r)→dem m sn e k=some r:=by
    intro e k h1 h2
    unfold dem
    have hmem: ∀i,i∈(List.range m.length).filter (fun i=> !(sn.contains i))↔i<m.length∧i∉sn:=fun i=>by
     rw[List.mem_filter,List.mem_range];simp
    split
    ·rename_i hl
     rw[hl]at hmem
     exact h1 fun i hi=>Classical.byContradiction fun hn=>by have:=(hmem i).2 ⟨hi,hn⟩;cases this
    ·rename_i i js hl
     rw[hl]at hmem
     have hi:=(hmem i).1 (List.mem_cons_self ..)
     rw[List.getElem?_eq_getElem hi.1,Option.bind_some,h2 i _ (List.getElem?_eq_getElem hi.1) hi.2,if_pos]
     rw[List.all_eq_true]
     intro j hj
     have hj:=(hmem j).1 (List.mem_cons_of_mem _ hj)
     rw[List.getElem?_eq_getElem hj.1,Option.bind_some,h2 j _ (List.getElem?_eq_getElem hj.1) hj.2]
     exact decide_eq_true rfl
   refine dof (fun hall=>hE xs (h5.trans ?_)) fun i p hp hi=>?_
   ·refine List.Perm.map g ?_
    have hp:sn.Perm (List.range m.length):=by
     refine(List.perm_ext_iff_of_nodup h1 List.nodup_range).2 fun i=>?_
     rw[List.mem_range];exact⟨h2 i,hall i⟩
    refine(hp.filterMap _).trans ?_
    have:(List.range m.length).filterMap (fun i=>m[i]?)=m:=by
     have e:(List.range m.length).filterMap (fun i=>m[i]?)=(List.range m.length).pmap (fun i h=>m[i]'h) (fun i h=>List.mem_range.1 h):=by
      have: ∀(l:List Nat) (h: ∀i,i∈l→i<m.length),l.filterMap (fun i=>m[i]?)=l.pmap (fun i h=>m[i]'h) h:=by
       intro l
       induction l with
       |nil=>intro _;rfl
       |cons i l ih=>intro h;rw[List.filterMap_cons,List.getElem?_eq_getElem (h i (List.mem_cons_self ..)),List.pmap];simp only[];rw[ih fun j hj=>h j (List.mem_cons_of_mem _ hj)]
      exact this _ _
     rw[e];exact List.ext_getElem (by simp) fun k h1 h2=>by simp
    rw[this]
   ·have hlt:=(List.getElem?_eq_some_iff.1 hp).1
    have hsn:(i::sn).Nodup:=List.nodup_cons.2 ⟨hi,h1⟩
    have hsb: ∀j,j∈i::sn→j<m.length:=fun j hj=>(List.mem_cons.1 hj).elim (fun e=>e▸hlt) (h2 j)
    have hsl2:=seen_lt hsn hsb
    rw[List.length_cons]at hsl2
    rw[hS p xs _ (List.mem_of_getElem? hp) (by omega)]
    refine ih _ _ hsn hsb (by rw[List.length_cons];omega) (by rw[List.length_append,h4];rfl) ?_
    rw[List.filterMap_cons,hp]
    simp only[List.map_cons]
    exact(List.perm_append_comm (l₁:=xs) (l₂:=[g p])).trans (h5.cons (g p))
 exact main FU [] [] List.nodup_nil (by simp) (by simpa using hm) rfl (List.Perm.refl _)
end Go.A
namespace Go.Proofs.YtbljnlkhebiniaaGreatDoor
open Go.RowKit Go.Graph Go.Utf Go.Ent Go.Opr
theorem map_mem {m:List (Rc×Int)}(hn:(m.map Prod.fst).Nodup)(k:Rc)(x:Int):(k,x)∈m↔Z.mhas m k=true∧Z.mget (0:Int) m k=x:=by
 constructor
 ·intro h
  obtain⟨i,hi⟩:=List.getElem?_of_mem h
  obtain⟨h1,h2⟩:=Z.mget_get (z:=(0:Int)) hn hi
  exact⟨h2,h1⟩
 ·rintro⟨h1,rfl⟩
  exact Z.mget_mem h1
structure Rel (id:Int) (m:List (Rc×Int)) (st:List En):Prop where
 nd:(m.map Prod.fst).Nodup
 sk:SK kr st
 idn: ∀e,e∈st→e.1=id
 fwd: ∀e,e∈st→(kr e,num e)∈m
 back: ∀p,p∈m→((id,p.1.1,p.1.2,p.2):En)∈st
theorem Rel.nil (id:Int):Rel id [] []:=⟨by simp,List.Pairwise.nil,by simp,by simp,by simp⟩
theorem Rel.get {id:Int}{m:List (Rc×Int)}{st:List En}(h:Rel id m st)(r:Rc):Z.mget (0:Int) m r=vE st r:=by
 cases hh:Z.mhas m r with
 |true=>
  have h1:=h.back _ (Z.mget_mem (z:=(0:Int)) hh)
  have h2:=vE_mem h.sk h1
  exact h2.symm
 |false=>
  rw[Z.mget_none hh]
  refine(vE_none fun e he e2=>?_).symm
  have:=((map_mem h.nd _ _).1 (h.fwd e he)).1
  rw[e2,hh]at this;cases this
theorem Rel.ins {id:Int}{m:List (Rc×Int)}{st:List En}(h:Rel id m st)(r:Rc)(v:Int):Rel id (Z.mins m r v) (ins kr (id,r.1,r.2,v) st):=by
 have nd:=Z.mins_nodup h.nd r v
 refine⟨nd,ins_sk h.sk,fun e he=>?_,fun e he=>?_,fun p hp=>?_⟩
 ·rcases(ins_mem h.sk).1 he with rfl|⟨he,_⟩
  ·rfl
  ·exact h.idn e he
 ·rw[map_mem nd,Z.mhas_ins,Z.mget_ins]
  rcases(ins_mem h.sk).1 he with rfl|⟨he,hn⟩
  ·refine⟨?_,if_pos rfl⟩
   rw[decide_eq_true (rfl:kr (id,r.1,r.2,v)=r)];rfl
  ·obtain⟨h1,h2⟩:=(map_mem h.nd _ _).1 (h.fwd e he)
   rw[if_neg hn,h1];exact⟨Bool.or_true _,h2⟩
 ·obtain⟨k,x⟩:=p
  obtain⟨h1,h2⟩:=(map_mem nd k x).1 hp
  rw[Z.mhas_ins]at h1
  rw[Z.mget_ins]at h2
  refine(ins_mem h.sk).2 ?_
  by_cases hk:k=r
  ·subst hk
   rw[if_pos rfl]at h2
   subst h2
   exact .inl rfl
  ·rw[if_neg hk]at h2
   rw[decide_eq_false hk,Bool.false_or]at h1
   exact .inr ⟨h.back _ ((map_mem h.nd k x).2 ⟨h1,h2⟩),hk⟩
theorem Measure_eq (f:Fun)(r:Rc)(hf:chk 11 f=0)(hs:f.2.2.size≤1000)(ho:okT r.2=true):F.fn_Measure f r=some (meas f r,0):=by
 have h64:=(okT_iff.1 ho).1
 rw[F.fn_Measure,F.fn_both]
 show((Option.bind (F.fn_Check 11 f) fun r3=>if r3≠0 then some r3 else(F.rec_Check r).bind fun r6=>some r6).bind _)=_
 rw[fn_Check_eq 11 f (by omega),Option.bind_some,hf,if_neg (by simp),rec_Check_eq,Option.bind_some,ho,Option.bind_some,if_pos rfl,if_neg (by simp)]
 unfold meas
 by_cases h:f.1=41
 ·rw[if_pos h,if_pos h]
 ·rw[if_neg h,if_neg h,(runes_len r.2 (by omega)).1,Option.bind_some,(runes_len r.2 (by omega)).2]
theorem meas_top (f:Fun)(r:Rc)(ho:okT r.2=true):0≤meas f r∧meas f r≤64:=by
 refine⟨meas_nn f r,?_⟩
 have h64:=(okT_iff.1 ho).1
 have:=cks_len r.2
 unfold meas rns
 split<;>omega
theorem mul_top {a b:Int}(h0:0≤a)(h1:a≤64)(h2:1≤b)(h3:b≤1048576):0≤a*b∧a*b≤67108864:=by
 refine⟨Int.mul_nonneg h0 (by omega),?_⟩
 have:=Int.mul_le_mul h1 h3 (by omega) (by omega:(0:Int)≤64)
 omega
theorem totals_l (x:Ob)(hf:chk 11 x.1.2.2.2.1=0)(hs:x.1.2.2.2.1.2.2.size≤1000): ∀(gs:List (Int×List Mn)) (xs:List Rc) (m:List (Rc×Int)) (st:List En),Rel x.1.1 m st→St2 x.1.1 st→(∀kg,kg∈gs→Bag kg.2∧kg.2.length≤1000)→xs.length+gs.length≤1000000→
  ∃m',F.oper_teller_totals_l3 x gs xs m x.1.1 x.1.2.1 x.1.2.2.2.1.1 x.1.2.2.2.1.2.1 x.1.2.2.2.1.2.2 x.1.2.2.2.2.1 x.1.2.2.2.2.2.1 x.1.2.2.2.2.2.2=some (x.1,(gs.foldl (totS x.1.2.2.2.1 x.1.1) (xs,st)).1,m')∧Rel x.1.1 m' (gs.foldl (totS x.1.2.2.2.1 x.1.1) (xs,st)).2
 | [],xs,m,st,hr,_,_,_=>⟨m,by rw[F.oper_teller_totals_l3];rfl,hr⟩
 |kg::gs,xs,m,st,hr,h2,h,hl=>by
  obtain⟨h1,hkl⟩:=h kg (List.mem_cons_self ..)
  have hFU:=FU_big
  rw[List.length_cons]at hl
  have hv:=vE_rng h2 (kg.1,nil8)
  have ht:=tot_rng (f:=x.1.2.2.2.1) h1.one hv.1 hv.2
  have hr':=hr.ins (kg.1,nil8) (tot x.1.2.2.2.1 (vE st (kg.1,nil8)) kg.2)
  have h2':St2 x.1.1 (ins kr (x.1.1,kg.1,nil8,tot x.1.2.2.2.1 (vE st (kg.1,nil8)) kg.2) st):=fun e he=>by
   rcases(ins_mem hr.sk).1 he with rfl|⟨he,_⟩
   ·exact⟨rfl,rfl,ht⟩
   ·exact h2 e he
  obtain⟨m',i1,i2⟩:=totals_l x hf hs gs (xs++[(kg.1,dec (tot x.1.2.2.2.1 (vE st (kg.1,nil8)) kg.2))]) _ _ hr' h2' (fun kg hk=>h kg (List.mem_cons_of_mem _ hk)) (by simp only[List.length_append,List.length_cons,List.length_nil];omega)
  refine⟨m',?_,i2⟩
  rw[F.oper_teller_totals_l3,A.lt]
  show F.oper_teller_totals_l2 _ xs m _ _ _ _ _ _ _ _ kg A.FU (Z.mget (0:Int) m (kg.1,nil8)) 0=_
  rw[hr.get]
  refine(A.lp kg.2 (fun n (s:Int) y=>F.oper_teller_totals_l2 (F.oper_teller_totals_l3 x gs) xs m x.1.1 x.1.2.1 x.1.2.2.2.1.1 x.1.2.2.2.1.2.1 x.1.2.2.2.1.2.2 x.1.2.2.2.2.1 x.1.2.2.2.2.2.1 x.1.2.2.2.2.2.2 kg n s y)
   (fun j r s=>F.oper_teller_totals_l3 x gs (xs++[(kg.1,dec (tot x.1.2.2.2.1 s r))]) (Z.mins m (kg.1,nil8) (tot x.1.2.2.2.1 s r)) x.1.1 x.1.2.1 x.1.2.2.2.1.1 x.1.2.2.2.1.2.1 x.1.2.2.2.1.2.2 x.1.2.2.2.2.1 x.1.2.2.2.2.2.1 x.1.2.2.2.2.2.2) (fun j s=>0≤s∧s≤1099511627776)
   (fun n s hp=>by
    show F.oper_teller_totals_l2 _ xs m _ _ _ _ _ _ _ _ kg (n+1) s _=_
    rw[F.oper_teller_totals_l2,if_neg (by omega),number_dec s hp.1 (by have:s≤1099511627776:=hp.2;omega),Option.bind_some,A.gd1 (by simp only[List.length_cons,List.length_nil];omega)]
    rfl)
   (fun n s j y hy hj hp ih=>by
    have hym:=List.mem_of_getElem? hy
    have hot:=h1.txt y hym
    obtain⟨q1,q2⟩:=meas_top x.1.2.2.2.1 y.1 hot
    obtain⟨q3,q4⟩:=mul_top q1 q2 (h1.one y hym) (h1.top y hym)
    have hp1:=hp.1
    have hp2:s≤1099511627776:=hp.2
    show F.oper_teller_totals_l2 _ xs m _ _ _ _ _ _ _ _ kg (n+1) s _=_
    rw[F.oper_teller_totals_l2,if_pos (by omega),A.ixn hy,Option.bind_some]
    show(F.fn_Measure x.1.2.2.2.1 y.1).bind _=_
    have gR:Z.R64 (meas x.1.2.2.2.1 y.1*y.2)∧Z.R64 (s+meas x.1.2.2.2.1 y.1*y.2):=⟨⟨by omega,by omega⟩,by omega,by omega⟩
    rw[Measure_eq _ _ hf hs hot,Option.bind_some,if_pos rfl,A.gd1 (by exact gR),F.oper_teller_totals_j1,A.gd1 ⟨by omega,by omega⟩]
    exact ih (min (s+meas x.1.2.2.2.1 y.1*y.2) 1099511627776) ⟨by omega,by omega⟩)
   (by omega) (vE st (kg.1,nil8)) hv).trans ?_
  exact i1
theorem totals_eq (x:Ob)(st:List En)(a:List Mn)(hr:Rel x.1.1 x.2.2 st)(h2:St2 x.1.1 st)(hf:chk 11 x.1.2.2.2.1=0)(hs:x.1.2.2.2.1.2.2.size≤1000)(ha:Bag a)(hl:a.length≤1000)(hx:x.2.1.length≤100000):
  ∃m',F.oper_teller_totals x a=some (x.1,((grp a).foldl (totS x.1.2.2.2.1 x.1.1) (x.2.1,st)).1,m')∧Rel x.1.1 m' ((grp a).foldl (totS x.1.2.2.2.1 x.1.1) (x.2.1,st)).2:=by
 have:=grp_len a
 rw[F.oper_teller_totals,Keys_ok ha hl,Option.bind_some,Keys_it a hl,Option.bind_some]
 exact totals_l x hf hs _ _ _ _ hr h2 (fun kg hk=>⟨grp_bag ha hk,Nat.le_trans (grp_size ha.kl hk) hl⟩) (by omega)
theorem fresh_eq (x:Ob)(st:List En)(a:List Mn)(hr:Rel x.1.1 x.2.2 st)(hl:a.length≤1000)(hx:x.2.1.length≤100000):
  ∃m',F.oper_teller_fresh x a=some (x.1,(a.foldl (frS x.1.1) (x.2.1,st)).1,m')∧Rel x.1.1 m' (a.foldl (frS x.1.1) (x.2.1,st)).2:=by
 have hFU:=FU_big
 have main: ∀(q j f:Nat) (xs:List Rc) (m:List (Rc×Int)) (st:List En),j+q=a.length→q<f→xs.length+q≤200000→Rel x.1.1 m st→
   ∃m',F.oper_teller_fresh_l2 x a f xs m x.1.1 x.1.2.1 x.1.2.2.2.1.1 x.1.2.2.2.1.2.1 x.1.2.2.2.1.2.2 x.1.2.2.2.2.1 x.1.2.2.2.2.2.1 x.1.2.2.2.2.2.2 (j:Int)=some (x.1,((a.drop j).foldl (frS x.1.1) (xs,st)).1,m')∧Rel x.1.1 m' ((a.drop j).foldl (frS x.1.1) (xs,st)).2:=by
  intro q
  induction q with
  |zero=>
   intro j f xs m st hj hf _ hr
   obtain⟨f,rfl⟩: ∃f',f=f'+1:=⟨f-1,by omega⟩
   refine⟨m,?_,?_⟩
   ·rw[F.oper_teller_fresh_l2,if_neg (by omega),List.drop_eq_nil_of_le (by omega)];rfl
   ·rw[List.drop_eq_nil_of_le (by omega)];exact hr
  |succ q ih=>
   intro j f xs m st hj hf hxl hr
   obtain⟨f,rfl⟩: ∃f',f=f'+1:=⟨f-1,by omega⟩
   obtain⟨y,hy⟩: ∃y,a[j]?=some y:=⟨_,List.getElem?_eq_getElem (by omega)⟩
   rw[F.oper_teller_fresh_l2,if_pos (by omega),A.ixn hy,Option.bind_some,A.lt,A.dropx hy,List.foldl_cons]
   have hg:=hr.get y.1
   have ej:(j:Int)+1=((j+1:Nat):Int):=by omega
   unfold frS
   by_cases h0:vE st y.1=0
   ·rw[if_pos (by exact hg.trans h0),if_pos h0,A.gd1 (by simp only[List.length_cons,List.length_nil];omega),F.oper_teller_fresh_j1,A.gd1 ⟨by omega,by omega⟩,ej]
    exact ih (j+1) f _ _ _ (by omega) (by omega) (by simp only[List.length_append,List.length_cons,List.length_nil];omega) (hr.ins y.1 1)
   ·rw[if_neg (by intro e;exact h0 (hg.symm.trans e)),if_neg h0,F.oper_teller_fresh_j1,A.gd1 ⟨by omega,by omega⟩,ej]
    exact ih (j+1) f _ _ _ (by omega) (by omega) (by omega) hr
 have:=main a.length 0 A.FU x.2.1 x.2.2 st (by omega) (by omega) (by omega) hr
 rw[F.oper_teller_fresh]
 exact this
theorem ordB_rc (cmp:Rc→Rc→Option Int)(h: ∀a b,cmp a b=some (cR a b))(l:List Rc):A.ordB cmp l=true∧A.cl0 cmp=fun a b=>rl a b:=by
 have e:A.cl0 cmp=fun a b=>rl a b:=by
  funext a b
  show(match cmp a b with|some c=>decide (c<0)|none=>false)=_
  rw[h];exact cR_lt a b
 refine⟨?_,e⟩
 unfold A.ordB
 rw[List.all_eq_true]
 intro x hx
 rw[List.all_eq_true]
 intro y hy
 rw[e,Bool.and_eq_true,Bool.and_eq_true]
 refine⟨⟨by rw[h];rfl,?_⟩,?_⟩
 ·show(bif rl x y then !rl y x else rl y x||decide (x=y))=true
  cases h1:rl x y with
  |true=>rw[rl_asy h1];rfl
  |false=>
   cases h2:rl y x with
   |true=>rfl
   |false=>rw[decide_eq_true (rl_tri h1 h2)];rfl
 ·rw[List.all_eq_true]
  intro z hz
  show(!(rl x y&&rl y z)||rl x z)=true
  cases h1:rl x y with
  |false=>rfl
  |true=>
   cases h2:rl y z with
   |false=>rfl
   |true=>rw[rl_tr h1 h2];rfl
theorem ord_rc (l:List Rc):A.OrdOn (fun a b:Rc=>rl a b) l:=⟨fun x _ y _ h=>rl_asy h,fun x _ y _ h1 h2=>rl_tri h1 h2,fun x _ y _ z _ h1 h2=>rl_tr h1 h2⟩
def cpF:Rc→List Rc→List Rc
 |_,[]=>[]
 |p,x::l=>if x=p then cpF p l else x::cpF x l
theorem cpF_mem: ∀{l:List Rc} {p r:Rc},r∈p::cpF p l↔r∈p::l
 | [],p,r=>by simp[cpF]
 |x::l,p,r=>by
  unfold cpF
  by_cases h:x=p
  ·subst h
   rw[if_pos rfl,cpF_mem];simp
  ·rw[if_neg h,List.mem_cons,cpF_mem,List.mem_cons,List.mem_cons,List.mem_cons]
theorem cpF_sk: ∀{l:List Rc} {p:Rc},(p::l).Pairwise (fun a b=>rl b a=false)→SK id (p::cpF p l)
 | [],p,_=>List.pairwise_singleton ..
 |x::l,p,h=>by
  obtain⟨h1,h2⟩:=List.pairwise_cons.1 h
  unfold cpF
  by_cases e:x=p
  ·subst e
   rw[if_pos rfl]
   exact cpF_sk h2
  ·rw[if_neg e]
   have ih:=cpF_sk h2
   have hpx:rl p x=true:=by
    cases hh:rl p x with
    |true=>rfl
    |false=>exact absurd (rl_tri (h1 x (List.mem_cons_self ..)) hh) e
   refine List.pairwise_cons.2 ⟨fun b hb=>?_,ih⟩
   rcases List.mem_cons.1 hb with rfl|hb
   ·exact hpx
   ·exact rl_tr hpx ((List.pairwise_cons.1 ih).1 b hb)
theorem Compact_eq (l:List Rc)(hl:l.length≤1000000)(hs:l.Pairwise (fun a b=>rl b a=false)):F.slices_Compact_api_Rec_api_Rec l=some (sc l):=by
 have hFU:=FU_big
 have fin: ∀p t,l=p::t→sc l=p::cpF p t:=fun p t e=>by
  subst e
  exact sk_ext (k:=id) (sc_ok _).1 (cpF_sk hs) fun r=>by rw[(sc_ok _).2,cpF_mem]
 rw[F.slices_Compact_api_Rec_api_Rec]
 by_cases h2:l.length<2
 ·rw[if_pos (by omega)]
  cases l with
  |nil=>rfl
  |cons p t=>
   have:t=[]:=by cases t with
    |nil=>rfl
    |cons a b=>simp only[List.length_cons]at h2;omega
   subst this
   rw[fin p [] rfl];rfl
 ·rw[if_neg (by omega)]
  have second: ∀(k:Nat) (hk:k<l.length),1≤k→∀(q j f i:Nat) (xs:List Rc) (p:Rc),k+j+q=l.length→q<f→1≤j→k≤i→i≤k+j-1→xs.length=l.length→xs.drop (k+j-1)=l.drop (k+j-1)→l[k+j-1]?=some p→
    F.slices_Compact_api_Rec_api_Rec_l2 l (k:Int) f xs (i:Int) (j:Int)=some (xs.take i++cpF p (l.drop (k+j))):=by
   intro k hk hk1 q
   induction q with
   |zero=>
    intro j f i xs p hq hf hj hi hij hx hd hp
    obtain⟨f,rfl⟩: ∃f',f=f'+1:=⟨f-1,by omega⟩
    rw[F.slices_Compact_api_Rec_api_Rec_l2,if_neg (by omega),A.gd1 ⟨by omega,by omega⟩,A.gd1 ⟨by omega,by simp;omega⟩,Int.toNat_natCast,List.take_append_of_le_length (by rw[List.length_take];omega),List.take_take,Nat.min_self,List.drop_eq_nil_of_le (by omega)]
    simp[cpF]
   |succ q ih=>
    intro j f i xs p hq hf hj hi hij hx hd hp
    obtain⟨f,rfl⟩: ∃f',f=f'+1:=⟨f-1,by omega⟩
    obtain⟨y,hy⟩: ∃y,l[k+j]?=some y:=⟨_,List.getElem?_eq_getElem (by omega)⟩
    have gx: ∀t,k+j-1≤t→xs[t]?=l[t]?:=fun t ht=>by
     have:=congrArg (fun z=>z[t-(k+j-1)]?) hd
     simp only[List.getElem?_drop]at this
     rw[show k+j-1+(t-(k+j-1))=t by omega]at this
     exact this
    have y1:(xs.drop k)[j]?=some y:=by rw[List.getElem?_drop,gx _ (by omega)];exact hy
    have y2:(xs.drop k)[j-1]?=some p:=by rw[List.getElem?_drop,gx _ (by omega),show k+(j-1)=k+j-1 by omega];exact hp
    have hxi:xs[i]?=some xs[i]:=List.getElem?_eq_getElem (by omega)
    have ej:(j:Int)-1=((j-1:Nat):Int):=by omega
    have ej1:(j:Int)+1=((j+1:Nat):Int):=by omega
    have ei1:(i:Int)+1=((i+1:Nat):Int):=by omega
    rw[F.slices_Compact_api_Rec_api_Rec_l2,if_pos (by omega),A.gd1 ⟨by omega,by omega⟩,Int.toNat_natCast,A.gd1 (by omega),A.ixn y1,Option.bind_some,A.gd1 (by omega),ej,A.ixn y2,Option.bind_some,A.dropx hy]
    show(if y≠p then _ else _)=some (xs.take i++cpF p (y::l.drop (k+j+1)))
    unfold cpF
    by_cases e:y=p
    ·rw[if_neg (fun h=>h e),if_pos e,F.slices_Compact_api_Rec_api_Rec_j1,A.gd1 ⟨by omega,by omega⟩,ej1]
     exact ih (j+1) f i xs p (by omega) (by omega) (by omega) hi (by omega) hx (by
      have:=congrArg (List.drop 1) hd
      rw[List.drop_drop,List.drop_drop]at this
      rw[show k+(j+1)-1=k+j-1+1 by omega];exact this) (by rw[show k+(j+1)-1=k+j by omega,hy,e])
    ·rw[if_pos e,if_neg e,A.gd1 (by omega),Option.bind_some,A.ixn hxi,Option.bind_some,A.gd1 ⟨by omega,by omega⟩,F.slices_Compact_api_Rec_api_Rec_j1,A.gd1 ⟨by omega,by omega⟩,ej1,ei1,Int.toNat_natCast]
     rw[ih (j+1) f (i+1) (xs.set i y) y (by omega) (by omega) (by omega) (by omega) (by omega) (by rw[List.length_set];exact hx) (by
      rw[List.drop_set_of_lt (by omega)]
      have:=congrArg (List.drop 1) hd
      rw[List.drop_drop,List.drop_drop]at this
      rw[show k+(j+1)-1=k+j-1+1 by omega];exact this) (by rw[show k+(j+1)-1=k+j by omega,hy])]
     have:(xs.set i y).take (i+1)=xs.take i++[y]:=by
      rw[List.take_add_one,List.getElem?_set_self (by omega),List.take_set_of_le (by omega)];rfl
     rw[this,List.append_assoc];rfl
  have first: ∀(q k f:Nat) (p:Rc),k+q=l.length→q<f→1≤k→l[k-1]?=some p→F.slices_Compact_api_Rec_api_Rec_l3 l f (k:Int)=some (l.take k++cpF p (l.drop k)):=by
   intro q
   induction q with
   |zero=>
    intro k f p hk hf h1 hp
    obtain⟨f,rfl⟩: ∃f',f=f'+1:=⟨f-1,by omega⟩
    rw[F.slices_Compact_api_Rec_api_Rec_l3,if_neg (by omega),List.drop_eq_nil_of_le (by omega),List.take_of_length_le (by omega)];simp[cpF]
   |succ q ih=>
    intro k f p hk hf h1 hp
    obtain⟨f,rfl⟩: ∃f',f=f'+1:=⟨f-1,by omega⟩
    obtain⟨y,hy⟩: ∃y,l[k]?=some y:=⟨_,List.getElem?_eq_getElem (by omega)⟩
    have ek:(k:Int)-1=((k-1:Nat):Int):=by omega
    rw[F.slices_Compact_api_Rec_api_Rec_l3,if_pos (by omega),A.gd1 ⟨by omega,by omega⟩,A.ixn hy,Option.bind_some,ek,A.ixn hp,Option.bind_some]
    show(if y=p then _ else _)=_
    by_cases e:y=p
    ·rw[if_pos e,A.gd1 ⟨by omega,by omega⟩]
     have:=second k (by omega) h1 (l.length-(k+1)) 1 A.FU k l y (by omega) (by omega) (by omega) (by omega) (by omega) rfl rfl (by rw[show k+1-1=k by omega];exact hy)
     refine this.trans ?_
     rw[A.dropx hy]
     conv=>rhs;rw[cpF]
     rw[if_pos e,e]
    ·rw[if_neg e,A.gd1 ⟨by omega,by omega⟩,show(k:Int)+1=((k+1:Nat):Int) by omega,ih (k+1) f y (by omega) (by omega) (by omega) (by rw[show k+1-1=k by omega];exact hy),A.dropx hy,List.take_add_one,hy]
     conv=>rhs;rw[cpF]
     rw[if_neg e];simp
  obtain⟨p,t,rfl⟩: ∃p t,l=p::t:=by
   cases l with
   |nil=>simp at h2
   |cons p t=>exact⟨p,t,rfl⟩
  have:=first ((p::t).length -1) 1 A.FU p (by omega) (by omega) (by omega) rfl
  refine(show F.slices_Compact_api_Rec_api_Rec_l3 (p::t) A.FU 1=_ from this).trans ?_
  rw[fin p t rfl];rfl
theorem sortOut_eq (l:List Rc)(hl:l.length≤1000000):((F.slices_SortFunc_api_Rec_api_Rec_rec_Compare l).bind fun r=>F.slices_Compact_api_Rec_api_Rec r)=some (sc l):=by
 obtain⟨h1,h2⟩:=ordB_rc (fun x y=>F.rec_Compare x y) rec_Compare_eq l
 rw[F.slices_SortFunc_api_Rec_api_Rec_rec_Compare,A.gd1 (by omega),A.srtF,if_pos h1,Option.bind_some,h2]
 have hp:=A.srtL_perm (fun a b:Rc=>rl a b) l
 rw[Compact_eq _ (by rw[hp.length_eq];exact hl) (A.srtL_pw (ord_rc l) l fun a h=>h)]
 exact congrArg some (sk_ext (k:=id) (sc_ok _).1 (sc_ok _).1 fun r=>by rw[(sc_ok _).2,(sc_ok _).2];exact hp.mem_iff)
theorem ent1_eq (a b:En):F.oper_teller_entries_1 a b=some (cR (kr a) (kr b)):=by
 rw[F.oper_teller_entries_1,cmp64_eq,Option.bind_some,scmp_eq,Option.bind_some,or2,Option.bind_some];rfl
theorem sk_sort {α:Type}[DecidableEq α]{k:α→Rc}{l st:List α}(cmp:α→α→Option Int)(hc: ∀a b,cmp a b=some (cR (k a) (k b)))(hp:l.Perm st)(hs:SK k st):A.srtF cmp l=some st:=by
 have e:A.cl0 cmp=fun a b=>rl (k a) (k b):=by
  funext a b
  show(match cmp a b with|some c=>decide (c<0)|none=>false)=_
  rw[hc];exact cR_lt _ _
 have inj: ∀a,a∈l→∀b,b∈l→k a=k b→a=b:=fun a ha b hb h=>sk_inj hs (hp.mem_iff.1 ha) (hp.mem_iff.1 hb) h
 have O:A.OrdOn (fun a b:α=>rl (k a) (k b)) l:=⟨fun x _ y _ h=>rl_asy h,fun x hx y hy h1 h2=>inj x hx y hy (rl_tri h1 h2),fun x _ y _ z _ h1 h2=>rl_tr h1 h2⟩
 have ob:A.ordB cmp l=true:=by
  unfold A.ordB
  rw[List.all_eq_true]
  intro x hx
  rw[List.all_eq_true]
  intro y hy
  rw[e,Bool.and_eq_true,Bool.and_eq_true]
  refine⟨⟨by rw[hc];rfl,?_⟩,?_⟩
  ·show(bif rl (k x) (k y)then !rl (k y) (k x)else rl (k y) (k x)||decide (x=y))=true
   cases h1:rl (k x) (k y)with
   |true=>rw[rl_asy h1];rfl
   |false=>
    cases h2:rl (k y) (k x)with
    |true=>rfl
    |false=>rw[decide_eq_true (inj x hx y hy (rl_tri h1 h2))];rfl
  ·rw[List.all_eq_true]
   intro z hz
   show(!(rl (k x) (k y)&&rl (k y) (k z))||rl (k x) (k z))=true
   cases h1:rl (k x) (k y)with
   |false=>rfl
   |true=>
    cases h2:rl (k y) (k z)with
    |false=>rfl
    |true=>rw[rl_tr h1 h2];rfl
 rw[A.srtF,if_pos ob,e]
 exact congrArg some (A.srt_uniq O hp.symm (hs.imp fun h=>rl_asy h)).symm
theorem entries_eq (n:Nd)(out:List Rc)(m:List (Rc×Int))(st:List En)(hr:Rel n.1 m st)(hl:m.length≤1000000)(hk: ∀p,p∈m→IntKind.i64.has p.1.1∧p.1.2.size≤maxLen):F.oper_teller_entries (n,out,m)=some st:=by
 have hFU:=FU_big
 have perm:(m.map fun p=>((n.1,p.1.1,p.1.2,p.2):En)).Perm st:=by
  refine(List.perm_ext_iff_of_nodup ?_ ?_).2 fun e=>?_
  ·have h1:=hr.nd
   have: ∀l:List (Rc×Int),(l.map Prod.fst).Nodup→(l.map fun p=>((n.1,p.1.1,p.1.2,p.2):En)).Nodup:=by
    intro l
    induction l with
    |nil=>intro _;simp
    |cons p l ih=>
     intro h
     rw[List.map_cons,List.nodup_cons]at h ⊢
     refine⟨fun hm=>h.1 ?_,ih h.2⟩
     obtain⟨q,hq,e⟩:=List.mem_map.1 hm
     obtain⟨_,e⟩:=Prod.mk.inj e
     obtain⟨e1,e⟩:=Prod.mk.inj e
     obtain⟨e2,_⟩:=Prod.mk.inj e
     exact List.mem_map.2 ⟨q,hq,Prod.ext e1 e2⟩
   exact this m h1
  ·exact hr.sk.imp fun {a b} h (e:a=b)=>rl_ne h (by rw[e])
  ·constructor
   ·intro he
    obtain⟨p,hp,rfl⟩:=List.mem_map.1 he
    exact hr.back p hp
   ·intro he
    refine List.mem_map.2 ⟨_,hr.fwd e he,?_⟩
    rw[←hr.idn e he]
 rw[F.oper_teller_entries]
 refine A.dem_all m (fun p=>((n.1,p.1.1,p.1.2,p.2):En)) (fun f sn xs=>F.oper_teller_entries_l1 (n,out,m) f sn xs) (fun xs=>(F.slices_SortFunc_api_Entry_api_Entry_oper_teller_entries_1 xs).bind fun r25=>some r25) (fun p xs o=>A.gd (decide (IntKind.i64.has p.1.1)=true∧p.1.2.size≤maxLen) (A.gd ((xs.length+1)*40≤140737488355328) o)) st (fun f sn xs=>rfl) (fun p xs o hp hx=>?_) (fun ys hy=>?_) (by omega)
 ·rw[A.gd1 ⟨decide_eq_true (hk p hp).1,(hk p hp).2⟩,A.gd1 (by omega)]
 ·have hyl:ys.length≤1000000:=by rw[hy.length_eq,List.length_map];exact hl
  rw[F.slices_SortFunc_api_Entry_api_Entry_oper_teller_entries_1,A.gd1 (by omega),sk_sort (k:=kr) _ ent1_eq (hy.trans perm) hr.sk];rfl
end Go.Proofs.YtbljnlkhebiniaaGreatDoor
end
section
set_option maxRecDepth 20000
set_option linter.unusedVariables false
set_option linter.unusedSimpArgs false
namespace Go.Proofs.YtbljnlkhebiniaaGreatDoor
open Go.RowKit Go.Graph Go.Utf Go.Ent Go.Opr
abbrev Tm:=Int×Int×Int×Int×Int×Int
def tcL (d:Int):Nat→List Int→Int
 |_,[]=>0
 |i,x::l=>if x<0∨1048576<x then 10 else if d≤(i:Int)∧x≠0 then 10 else tcL d (i+1) l
def tcP (t:Tm):Int:=if t.1<0∨1073741824<t.1∨t.2.1<0∨4<t.2.1 then 10 else tcL t.2.1 0 [t.2.2.1,t.2.2.2.1,t.2.2.2.2.1,t.2.2.2.2.2]
theorem tcheck_eq (t:Tm):F.tstamp_Check t=some (tcP t):=by
 rw[F.tstamp_Check]
 unfold tcP
 simp only[A.bo,decide_eq_true_eq,or_assoc]
 by_cases h:t.1<0∨1073741824<t.1∨t.2.1<0∨4<t.2.1
 ·rw[if_pos h,if_pos h]
 ·rw[if_neg h,if_neg h]
  obtain⟨L,hL⟩: ∃L,L=[t.2.2.1,t.2.2.2.1,t.2.2.2.2.1,t.2.2.2.2.2]:=⟨_,rfl⟩
  have h4:L.length=4:=by rw[hL];rfl
  rw[←hL]
  exact A.lp0 L (fun f y=>F.tstamp_Check_l1 t f y) (fun k r=>some (tcL t.2.1 k r))
   (fun f=>by rw[F.tstamp_Check_l1,if_neg (by omega)];rfl)
   (fun f k x hx hk ih=>by
    rw[F.tstamp_Check_l1,if_pos (by omega),←hL,A.ixn hx,Option.bind_some,tcL]
    simp only[A.bo,A.ba,decide_eq_true_eq]
    by_cases h1:x<0∨1048576<x
    ·rw[if_pos h1,if_pos h1]
    ·rw[if_neg h1,if_neg h1]
     by_cases h2:t.2.1≤(k:Int)∧x≠0
     ·rw[if_pos h2,if_pos h2]
     ·rw[if_neg h2,if_neg h2,A.gd1 ⟨by omega,by omega⟩,ih])
   (by have:=FU_big;omega)
def holdsP (k:Int):Bool:=decide (k=7∨k=8∨k=9∨k=10∨k=11∨k=16)
theorem Holds_eq (k:Int):F.oper_Holds k=some (holdsP k):=by
 unfold F.oper_Holds F.oper_Holds_j3 F.oper_Holds_j2 F.oper_Holds_j1 F.oper_Keeps holdsP
 by_cases h7:k=7
 ·simp[h7]
 by_cases h8:k=8
 ·simp[h8]
 by_cases h9:k=9
 ·simp[h9]
 by_cases h10:k=10
 ·simp[h10]
 by_cases h11:k=11
 ·simp[h11]
 by_cases h16:k=16
 ·simp[h16]
 ·simp[h7,h8,h9,h10,h11,h16]
def mayP (n:Nd)(t:Tm)(a b:List Mn)(st:List En):Int:=
 if holdsP n.2.1=false then 170 else if chk n.2.1 n.2.2.2.1≠0 then chk n.2.1 n.2.2.2.1 else if tcP t≠0 then tcP t else if chkB a≠0 then chkB a else if chkB b≠0 then chkB b
 else if b≠[]∧n.2.1≠9 then 1 else if stP n st=true then 0 else 171
theorem may_eq (n:Nd)(t:Tm)(a b:List Mn)(st:List En)(hs:n.2.2.2.1.2.2.size≤1000)(ha:a.length≤1000)(hb:b.length≤1000)(hst:st.length≤1000):F.oper_may n t a b st=some (mayP n t a b st):=by
 have hFU:=FU_big
 rw[F.oper_may,Holds_eq,Option.bind_some]
 unfold mayP
 cases holdsP n.2.1 with
 |false=>rw[Bool.not_false,if_pos rfl,if_pos rfl]
 |true=>
  rw[Bool.not_true,if_neg (by simp),if_neg (by simp)]
  show(F.fn_Check n.2.1 n.2.2.2.1).bind _=_
  rw[fn_Check_eq _ _ (by omega),Option.bind_some]
  show(F.tstamp_Check t).bind _=_
  rw[tcheck_eq,Option.bind_some,rec_CheckBag_eq a (by unfold maxLen;omega),Option.bind_some,rec_CheckBag_eq b (by unfold maxLen;omega),Option.bind_some]
  have step: ∀(l:List Int) (r5 r8 r11 r14:Int),l=[r5,r8,r11,r14]→F.oper_may_l1 n b st r5 r8 r11 r14 A.FU 0=some (((l.find? fun x=>decide (x≠0)).getD (if b≠[]∧n.2.1≠9 then 1 else if stP n st=true then 0 else 171))):=fun l r5 r8 r11 r14 hl=>by
   have h4:l.length=4:=by rw[hl];rfl
   exact A.lp0 l (fun f y=>F.oper_may_l1 n b st r5 r8 r11 r14 f y) (fun k r=>some ((r.find? fun x=>decide (x≠0)).getD (if b≠[]∧n.2.1≠9 then 1 else if stP n st=true then 0 else 171)))
    (fun f=>by
     rw[F.oper_may_l1,if_neg (by omega)]
     simp only[A.ba,decide_eq_true_eq]
     have e:((0:Int)<((b).length:Int))↔b≠[]:=by
      cases b with
      |nil=>simp
      |cons x b=>exact⟨fun _=>by simp,fun _=>by simp only[List.length_cons];omega⟩
     by_cases h:b≠[]∧n.2.1≠9
     ·rw[if_pos ⟨e.2 h.1,h.2⟩];simp[h]
     ·rw[if_neg fun h2=>h ⟨e.1 h2.1,h2.2⟩]
      show(F.oper_CheckState n st).bind _=_
      rw[CheckState_eq n st (by omega)]
      simp[h])
    (fun f k x hx hk ih=>by
     rw[F.oper_may_l1,if_pos (by omega),←hl,A.ixn hx,Option.bind_some,List.find?_cons]
     by_cases h:x=0
     ·rw[if_neg (fun h2=>h2 h),A.gd1 ⟨by omega,by omega⟩,ih,decide_eq_false (fun h2=>h2 h)]
     ·rw[if_pos h,decide_eq_true h];rfl)
    (by omega)
  rw[step _ _ _ _ _ rfl]
  congr 1
  by_cases h1:chk n.2.1 n.2.2.2.1=0<;>by_cases h2:tcP t=0<;>by_cases h3:chkB a=0<;>by_cases h4:chkB b=0<;>simp[h1,h2,h3,h4]
structure Ok (n:Nd) (t:Tm) (a b:List Mn) (st:List En):Prop where
 holds:holdsP n.2.1=true
 fn:chk n.2.1 n.2.2.2.1=0
 tm:tcP t=0
 ba:Bag a
 bb:Bag b
 one:b=[]∨n.2.1=9
 st:stP n st=true
theorem mayP_iff {n:Nd}{t:Tm}{a b:List Mn}{st:List En}:mayP n t a b st=0↔Ok n t a b st:=by
 unfold mayP
 constructor
 ·intro h
  split at h
  ·cases h
  rename_i h1
  split at h
  ·rename_i h2;exact absurd h h2
  rename_i h2
  split at h
  ·rename_i h3;exact absurd h h3
  rename_i h3
  split at h
  ·rename_i h4;exact absurd h h4
  rename_i h4
  split at h
  ·rename_i h5;exact absurd h h5
  rename_i h5
  split at h
  ·cases h
  rename_i h6
  split at h
  ·rename_i h7
   exact⟨by simpa using h1,by simpa using h2,by simpa using h3,chkB_iff.1 (by simpa using h4),chkB_iff.1 (by simpa using h5),Classical.byContradiction fun hn=>h6 ⟨fun e=>hn (.inl e),fun e=>hn (.inr e)⟩,h7⟩
  ·cases h
 ·intro h
  rw[if_neg (by rw[h.holds];simp),if_neg (by rw[h.fn];simp),if_neg (by rw[h.tm];simp),if_neg (by rw[chkB_iff.2 h.ba];simp),if_neg (by rw[chkB_iff.2 h.bb];simp),if_neg (fun h2=>h.one.elim h2.1 h2.2),if_pos h.st]
theorem stP_sk {n:Nd}{st:List En}(h:stP n st=true):SK kr st:=(stP_iff.1 h).2
theorem stP_id {n:Nd}{st:List En}(h:stP n st=true): ∀e,e∈st→e.1=n.1:=fun e he=>by
 have:=(stP_iff.1 h).1 e he
 unfold entOk at this
 split at this
 ·cases this
 ·rename_i h;exact Classical.byContradiction h
theorem stP_2 {n:Nd}{st:List En}(h:stP n st=true)(hk:n.2.1=11):St2 n.1 st:=fun e he=>by
 have:=(stP_iff.1 h).1 e he
 unfold entOk at this
 split at this
 ·cases this
 ·rename_i h1
  simp only[Bool.and_eq_true,decide_eq_true_eq]at this
  exact⟨Classical.byContradiction h1,this.1.1,this.1.2,this.2⟩
theorem stP_1 {n:Nd}{st:List En}(h:stP n st=true)(hk:n.2.1=16):St1 n.1 st:=fun e he=>by
 have:=(stP_iff.1 h).1 e he
 unfold entOk at this
 split at this
 ·cases this
 ·rename_i h1
  rw[if_neg (by omega)]at this
  simp only[Bool.and_eq_true,decide_eq_true_eq]at this
  exact⟨Classical.byContradiction h1,this.1⟩
theorem ins_end {e:En}: ∀{l:List En},SK kr (l++[e])→Opr.ins kr e l=l++[e]
 | [],_=>rfl
 |x::l,h=>by
  obtain⟨h1,h2⟩:=List.pairwise_cons.1 (show SK kr (x::(l++[e]))from h)
  have hx:=h1 e (List.mem_append.2 (.inr (List.mem_singleton.2 rfl)))
  unfold Opr.ins
  rw[if_neg (rl_ne hx),if_neg (by rw[rl_asy hx];simp),ins_end h2];rfl
theorem Rel.init {id:Int}{st:List En}(hs:SK kr st)(hi: ∀e,e∈st→e.1=id)(n:Nd)(a b:List Mn)(hl:st.length≤1000): ∃m,Rel id m st∧F.oper_Tell_l2 n a b st A.FU [] 0=F.oper_Tell_l2 n a b st 1 m (st.length:Int):=by
 have hFU:=FU_big
 have lift: ∀(f:Nat) (m:List (Rc×Int)),F.oper_Tell_l2 n a b st (f+1) m (st.length:Int)=F.oper_Tell_l2 n a b st 1 m (st.length:Int):=fun f m=>by
  rw[F.oper_Tell_l2,F.oper_Tell_l2,if_neg (by omega)]
  conv=>rhs;rw[if_neg (by omega)]
 have main: ∀(q j f:Nat) (m:List (Rc×Int)),j+q=st.length→q<f→Rel id m (st.take j)→∃m',Rel id m' st∧F.oper_Tell_l2 n a b st f m (j:Int)=F.oper_Tell_l2 n a b st 1 m' (st.length:Int):=by
  intro q
  induction q with
  |zero=>
   intro j f m hj hf hr
   obtain⟨f,rfl⟩: ∃f',f=f'+1:=⟨f-1,by omega⟩
   obtain rfl:j=st.length:=by omega
   rw[List.take_length]at hr
   exact⟨m,hr,lift f m⟩
  |succ q ih=>
   intro j f m hj hf hr
   obtain⟨f,rfl⟩: ∃f',f=f'+1:=⟨f-1,by omega⟩
   obtain⟨y,hy⟩: ∃y,st[j]?=some y:=⟨_,List.getElem?_eq_getElem (by omega)⟩
   have ht:st.take (j+1)=st.take j++[y]:=by rw[List.take_add_one,hy];rfl
   have hsk:SK kr (st.take j++[y]):=by rw[←ht];exact hs.sublist (List.take_sublist _ _)
   have hyi:=hi y (List.mem_of_getElem? hy)
   have hr2:=hr.ins (kr y) (num y)
   have ey:((id,(kr y).1,(kr y).2,num y):En)=y:=by rw[←hyi]
   rw[ey,ins_end hsk,←ht]at hr2
   obtain⟨m',h1,h2⟩:=ih (j+1) f _ (by omega) (by omega) hr2
   refine⟨m',h1,?_⟩
   rw[F.oper_Tell_l2,if_pos (by omega),A.ixn hy,Option.bind_some,A.gd1 ⟨by omega,by omega⟩,show(j:Int)+1=((j+1:Nat):Int) by omega]
   exact h2
 exact main st.length 0 A.FU [] (by omega) (by omega) (Rel.nil id)
theorem Rel.len {id:Int}{m:List (Rc×Int)}{st:List En}(h:Rel id m st):m.length=st.length:=by
 have perm:(m.map fun p=>((id,p.1.1,p.1.2,p.2):En)).Perm st:=by
  refine(List.perm_ext_iff_of_nodup ?_ ?_).2 fun e=>?_
  ·have: ∀l:List (Rc×Int),(l.map Prod.fst).Nodup→(l.map fun p=>((id,p.1.1,p.1.2,p.2):En)).Nodup:=by
    intro l
    induction l with
    |nil=>intro _;simp
    |cons p l ih=>
     intro h
     rw[List.map_cons,List.nodup_cons]at h ⊢
     refine⟨fun hm=>h.1 ?_,ih h.2⟩
     obtain⟨q,hq,e⟩:=List.mem_map.1 hm
     obtain⟨_,e⟩:=Prod.mk.inj e
     obtain⟨e1,e⟩:=Prod.mk.inj e
     obtain⟨e2,_⟩:=Prod.mk.inj e
     exact List.mem_map.2 ⟨q,hq,Prod.ext e1 e2⟩
   exact this m h.nd
  ·exact h.sk.imp fun {a b} h (e:a=b)=>rl_ne h (by rw[e])
  ·constructor
   ·intro he
    obtain⟨p,hp,rfl⟩:=List.mem_map.1 he
    exact h.back p hp
   ·intro he
    refine List.mem_map.2 ⟨_,h.fwd e he,?_⟩
    rw[←h.idn e he]
 have:=perm.length_eq
 rwa[List.length_map]at this
theorem ins_len {α:Type}{k:α→Rc}{e:α}: ∀(l:List α),(Opr.ins k e l).length≤l.length+1
 | []=>by simp[Opr.ins]
 |x::l=>by
  unfold Opr.ins
  split
  ·simp
  ·(split)
   ·simp
   ·have:=ins_len (k:=k) (e:=e) l;simp only[List.length_cons];omega
theorem totS_len (f:Opr.Fn)(id:Int): ∀(gs:List (Int×List Mn)) (s:List Rc×List En),(gs.foldl (totS f id) s).1.length=s.1.length+gs.length∧(gs.foldl (totS f id) s).2.length≤s.2.length+gs.length
 | [],s=>⟨rfl,Nat.le_refl _⟩
 |kg::gs,s=>by
  obtain⟨h1,h2⟩:=totS_len f id gs (totS f id s kg)
  have:=ins_len (k:=kr) (e:=((id,kg.1,nil8,tot f (vE s.2 (kg.1,nil8)) kg.2):En)) s.2
  rw[List.foldl_cons,h1,List.length_cons]
  refine⟨by unfold totS;simp only[List.length_append,List.length_cons,List.length_nil];omega,?_⟩
  have h3:(totS f id s kg).2.length≤s.2.length+1:=this
  omega
theorem frS_len (id:Int): ∀(a:List Mn) (s:List Rc×List En),(a.foldl (frS id) s).1.length≤s.1.length+a.length∧(a.foldl (frS id) s).2.length≤s.2.length+a.length
 | [],s=>⟨Nat.le_refl _,Nat.le_refl _⟩
 |m::a,s=>by
  obtain⟨h1,h2⟩:=frS_len id a (frS id s m)
  have:=ins_len (k:=kr) (e:=((id,m.1.1,m.1.2,1):En)) s.2
  rw[List.foldl_cons,List.length_cons]
  have h3:(frS id s m).1.length≤s.1.length+1∧(frS id s m).2.length≤s.2.length+1:=by
   unfold frS;split
   ·exact⟨by simp,this⟩
   ·exact⟨by omega,by omega⟩
  exact⟨by omega,by omega⟩
theorem outG_len {kind:Int}{f:Opr.Fn}{b:List Mn}(hb:b.length≤1000): ∀(gs:List (Int×List Mn)),(gs.flatMap (outG kind f b)).length≤gs.length+(gs.flatMap (·.2)).length*1000
 | []=>by simp
 |kg::gs=>by
  have ih:=outG_len (kind:=kind) (f:=f) hb gs
  rw[List.flatMap_cons,List.flatMap_cons,List.length_append,List.length_append,List.length_cons]
  have h1:(outG kind f b kg).length≤1+kg.2.length*1000:=by
   unfold outG
   split
   ·simp
   ·(split)
    ·simp
    ·have ob:(oth b kg.1).length≤1000:=Nat.le_trans (List.length_filter_le ..) hb
     have: ∀g:List Mn,(joinsG kg.1 g (oth b kg.1)).length≤g.length*1000:=by
      intro g
      induction g with
      |nil=>simp[joinsG]
      |cons p g ih=>
       have e:joinsG kg.1 (p::g) (oth b kg.1)=((oth b kg.1).map fun q=>(kg.1,cut ((p.1.2++ByteArray.mk #[43])++q.1.2)))++joinsG kg.1 g (oth b kg.1):=List.flatMap_cons ..
       rw[e,List.length_append,List.length_map,List.length_cons];omega
     have:=this kg.2
     omega
  omega
theorem totS_from {f:Opr.Fn}{id:Int}: ∀{gs:List (Int×List Mn)} {s:List Rc×List En},SK kr s.2→∀{e},e∈(gs.foldl (totS f id) s).2→e∈s.2∨∃kg,kg∈gs∧kr e=(kg.1,nil8)
 | [],s,_,e,he=>.inl he
 |kg::gs,s,hs,e,he=>by
  rcases totS_from (gs:=gs) (s:=totS f id s kg) (ins_sk hs) he with h|⟨kg',h1,h2⟩
  ·rcases(ins_mem hs).1 h with rfl|⟨h,_⟩
   ·exact .inr ⟨kg,List.mem_cons_self ..,rfl⟩
   ·exact .inl h
  ·exact .inr ⟨kg',List.mem_cons_of_mem _ h1,h2⟩
theorem frS_from {id:Int}: ∀{a:List Mn} {s:List Rc×List En},SK kr s.2→∀{e},e∈(a.foldl (frS id) s).2→e∈s.2∨∃m,m∈a∧kr e=m.1
 | [],s,_,e,he=>.inl he
 |m::a,s,hs,e,he=>by
  have hk:SK kr (frS id s m).2:=by unfold frS;split;exact ins_sk hs;exact hs
  rcases frS_from (a:=a) (s:=frS id s m) hk he with h|⟨m',h1,h2⟩
  ·unfold frS at h
   split at h
   ·rcases(ins_mem hs).1 h with rfl|⟨h,_⟩
    ·exact .inr ⟨m,List.mem_cons_self ..,rfl⟩
    ·exact .inl h
   ·exact .inl h
  ·exact .inr ⟨m',List.mem_cons_of_mem _ h1,h2⟩
abbrev KeyR (r:Rc):Prop:=IntKind.i64.has r.1∧r.2.size≤maxLen
theorem Tell_eq (n:Nd)(t:Tm)(a b:List Mn)(st:List En)(hs:n.2.2.2.1.2.2.size≤1000)(ha:a.length≤900)(hb:b.length≤900)(hst:st.length≤1000)(hka: ∀m,m∈a→KeyR m.1)(hks: ∀e,e∈st→KeyR (kr e)):
  F.oper_Tell n t a b st=some (if mayP n t a b st=0 then((tellP n.2.1 n.2.2.2.1 n.1 a b st).1,(tellP n.2.1 n.2.2.2.1 n.1 a b st).2,0)else([],[],mayP n t a b st)):=by
 rw[F.oper_Tell]
 show(F.oper_may n t a b st).bind _=_
 rw[may_eq n t a b st hs (by omega) (by omega) hst,Option.bind_some]
 by_cases hm:mayP n t a b st=0
 ·rw[if_neg (fun h=>h hm),if_pos hm]
  have ok:=mayP_iff.1 hm
  have sk:=stP_sk ok.st
  obtain⟨m,hr,e⟩:=Rel.init sk (stP_id ok.st) n a b hst
  rw[e,F.oper_Tell_l2,if_neg (by omega)]
  have gl:=grp_len a
  have gf:=grp_flat a
  have core: ∀(out:List Rc) (m':List (Rc×Int)) (st':List En),Rel n.1 m' st'→out.length≤1000000→st'.length≤1000000→(∀e,e∈st'→KeyR (kr e))→F.oper_Tell_j1 n n.2.2.1 m' out n.1 n.2.1 n.2.2.2.1.1 n.2.2.2.1.2.1 n.2.2.2.1.2.2 n.2.2.2.2.1 n.2.2.2.2.2.1 n.2.2.2.2.2.2=some (sc out,if n.2.1=10 then []else st',0):=by
   intro out m' st' hr' hl hl' hk'
   have h1:=sortOut_eq out hl
   rw[F.oper_Tell_j1]
   cases hso:F.slices_SortFunc_api_Rec_api_Rec_rec_Compare out with
   |none=>rw[hso]at h1;cases h1
   |some r43=>
    rw[hso,Option.bind_some]at h1
    rw[Option.bind_some,h1,Option.bind_some]
    by_cases h10:n.2.1=10
    ·rw[if_pos h10,if_pos h10]
    ·rw[if_neg h10,if_neg h10]
     show(F.oper_teller_entries (n,[],m')).bind _=_
     rw[entries_eq n [] m' st' hr' (by rw[hr'.len];exact hl') (fun p hp=>hk' _ (hr'.back p hp)),Option.bind_some]
  have krst: ∀e,e∈st→KeyR (kr e):=hks
  unfold tellP raw
  by_cases h7:n.2.1=7
  ·rw[if_pos h7]
   show(F.oper_teller_counts (n,[],m) a).bind _=_
   rw[counts_eq (n,[],m) n.2.2.2.1 a b ok.ba (by omega) (by simp),Option.bind_some]
   have:=outG_len (kind:=7) (f:=n.2.2.2.1) (b:=b) (by omega) (grp a)
   rw[gf]at this
   refine(core _ m st hr (by show(([]:List Rc)++(grp a).flatMap (outG 7 n.2.2.2.1 b)).length≤_;rw[List.nil_append];omega) (by omega) krst).trans ?_
   rw[h7];rfl
  rw[if_neg h7]
  by_cases h8:n.2.1=8
  ·rw[if_pos h8]
   have hf:=ok.fn
   rw[h8]at hf
   show(F.oper_teller_reduces (n,[],m) a).bind _=_
   rw[reduces_eq (n,[],m) a b hf hs ok.ba (by omega) (by simp),Option.bind_some]
   have:=outG_len (kind:=8) (f:=n.2.2.2.1) (b:=b) (by omega) (grp a)
   rw[gf]at this
   refine(core _ m st hr (by show(([]:List Rc)++(grp a).flatMap (outG 8 n.2.2.2.1 b)).length≤_;rw[List.nil_append];omega) (by omega) krst).trans ?_
   rw[h8];rfl
  rw[if_neg h8]
  by_cases h9:n.2.1=9
  ·rw[if_pos h9]
   show(F.oper_teller_joins (n,[],m) a b).bind _=_
   rw[joins_eq (n,[],m) n.2.2.2.1 a b ok.ba (by omega) ok.bb (by omega) (by simp),Option.bind_some]
   have:=outG_len (kind:=9) (f:=n.2.2.2.1) (b:=b) (by omega) (grp a)
   rw[gf]at this
   refine(core _ m st hr (by show(([]:List Rc)++(grp a).flatMap (outG 9 n.2.2.2.1 b)).length≤_;rw[List.nil_append];omega) (by omega) krst).trans ?_
   rw[h9];rfl
  rw[if_neg h9]
  have h789: ¬(n.2.1=7∨n.2.1=8∨n.2.1=9):=by omega
  by_cases h11:n.2.1=11
  ·rw[if_pos h11,if_neg h789,if_pos h11]
   have hf:=ok.fn
   rw[h11]at hf
   show(F.oper_teller_totals (n,[],m) a).bind _=_
   obtain⟨m',h1,h2⟩:=totals_eq (n,[],m) st a hr (stP_2 ok.st h11) hf hs ok.ba (by omega) (by simp)
   rw[h1,Option.bind_some]
   obtain⟨l1,l2⟩:=totS_len n.2.2.2.1 n.1 (grp a) ([],st)
   refine(core _ m' _ h2 (by rw[l1];simp;omega) (by simp only[]at l2 ⊢;omega) fun e he=>?_).trans rfl
   rcases totS_from sk he with he|⟨kg,hk,hke⟩
   ·exact krst e he
   ·rw[hke]
    obtain⟨g1,g2⟩:=grp_all hk
    obtain⟨x,hx⟩:=List.exists_mem_of_ne_nil _ g1
    have h0:IntKind.i64.has x.1.1:=(hka x (grp_sub hk x hx)).1
    rw[g2 x hx]at h0
    exact⟨h0,by show(0:Nat)≤_;omega⟩
  ·rw[if_neg h11,if_neg h789,if_neg h11]
   show(F.oper_teller_fresh (n,[],m) a).bind _=_
   obtain⟨m',h1,h2⟩:=fresh_eq (n,[],m) st a hr (by omega) (by simp)
   rw[h1,Option.bind_some]
   obtain⟨l1,l2⟩:=frS_len n.1 a ([],st)
   refine(core _ m' _ h2 (by simp only[List.length_nil]at l1 ⊢;omega) (by simp only[]at l2 ⊢;omega) fun e he=>?_).trans rfl
   rcases frS_from sk he with he|⟨x,hx,hke⟩
   ·exact krst e he
   ·rw[hke];exact hka x hx
 ·rw[if_pos hm,if_neg hm]
end Go.Proofs.YtbljnlkhebiniaaGreatDoor
end
section
set_option maxRecDepth 20000
set_option linter.unusedVariables false
set_option linter.unusedSimpArgs false
namespace Go.Proofs.YtbljnlkhebiniaaGreatDoor
open Go.RowKit Go.Graph Go.Utf Go.Ent Go.Opr
theorem live_eq:F.L17_live=some true:=by kernel_rfl
def finT (g:ByteArray→Int){α:Type}(k:α→ByteArray):Int→List α→Int
 |y,[]=>y
 |y,x::r=>finT g k (y+g (k x)) r
theorem few_ok (l:List Rc)(hl:l.length≤maxLen): ∃b,F.L17_few l=some b∧(b=true→l.length≤100):=by
 have hl':l.length≤9223372036854775807:=by simpa[maxLen] using hl
 have hm:(min (l.length:Int) 100).toNat≤l.length:=by omega
 refine⟨bif decide ((l.length:Int)≤100)then decide (finT (fun s=>min (s.size:Int) 1000) (fun r:Rc=>r.2) 0 (List.take (min (l.length:Int) 100).toNat l)≤2000)else false,?_,fun h=>?_⟩
 ·have:=A.lp (List.take (min (l.length:Int) 100).toNat l) (fun f (y:Int) k=>F.L17_few_l1 l f y k) (fun _ r y=>some (bif decide ((l.length:Int)≤100)then decide (finT (fun s=>min (s.size:Int) 1000) (fun r:Rc=>r.2) y r≤2000)else false)) (fun k y=>0≤y∧y≤1000*k)
   (fun f y hp=>by
    show F.L17_few_l1 l (f+1) y _=_
    rw[F.L17_few_l1,if_neg (by omega)];rfl)
   (fun f y k x hx hk hp ih=>by
    show F.L17_few_l1 l (f+1) y _=_
    have h2:k<100:=by rw[List.length_take]at hk;omega
    have hn:(0:Int)≤(x.2.size:Int):=by omega
    rw[F.L17_few_l1,if_pos (by omega),A.ixn hx,Option.bind_some,A.gd1 ⟨by omega,by omega⟩,A.gd1 ⟨by omega,by omega⟩]
    exact ih _ ⟨by omega,by omega⟩)
   (by have:=FU_big;rw[List.length_take];omega) 0 ⟨by omega,by omega⟩
  rw[F.L17_few,A.gd1 ⟨by omega,hm⟩]
  exact this
 ·by_cases h2:(l.length:Int)≤100
  ·omega
  ·rw[decide_eq_false h2]at h;cases h
theorem thin_ok (l:List En)(hl:l.length≤maxLen): ∃b,F.L17_thin l=some b∧(b=true→l.length≤100):=by
 have hl':l.length≤9223372036854775807:=by simpa[maxLen] using hl
 have hm:(min (l.length:Int) 100).toNat≤l.length:=by omega
 refine⟨bif decide ((l.length:Int)≤100)then decide (finT (fun s=>min (s.size:Int) 1000) (fun r:En=>r.2.2.1) 0 (List.take (min (l.length:Int) 100).toNat l)≤2000)else false,?_,fun h=>?_⟩
 ·have:=A.lp (List.take (min (l.length:Int) 100).toNat l) (fun f (y:Int) k=>F.L17_thin_l1 l f y k) (fun _ r y=>some (bif decide ((l.length:Int)≤100)then decide (finT (fun s=>min (s.size:Int) 1000) (fun r:En=>r.2.2.1) y r≤2000)else false)) (fun k y=>0≤y∧y≤1000*k)
   (fun f y hp=>by
    show F.L17_thin_l1 l (f+1) y _=_
    rw[F.L17_thin_l1,if_neg (by omega)];rfl)
   (fun f y k x hx hk hp ih=>by
    show F.L17_thin_l1 l (f+1) y _=_
    have h2:k<100:=by rw[List.length_take]at hk;omega
    have hn:(0:Int)≤(x.2.2.1.size:Int):=by omega
    rw[F.L17_thin_l1,if_pos (by omega),A.ixn hx,Option.bind_some,A.gd1 ⟨by omega,by omega⟩,A.gd1 ⟨by omega,by omega⟩]
    exact ih _ ⟨by omega,by omega⟩)
   (by have:=FU_big;rw[List.length_take];omega) 0 ⟨by omega,by omega⟩
  rw[F.L17_thin,A.gd1 ⟨by omega,hm⟩]
  exact this
 ·by_cases h2:(l.length:Int)≤100
  ·omega
  ·rw[decide_eq_false h2]at h;cases h
theorem rare_ok: ∀(ls:List (List Mn)),ls.length≤100→(∀x,x∈ls→x.length≤maxLen)→∃b,F.L17_rare ls=some b∧(b=true→∀x,x∈ls→x.length≤40):=by
 intro ls hn hl
 have hFU:=FU_big
 have main: ∀(q j f:Nat),j+q=ls.length→q<f→∃b,F.L17_rare_l3 ls f (j:Int)=some b∧(b=true→∀x,x∈ls.drop j→x.length≤40):=by
  intro q
  induction q with
  |zero=>
   intro j f hj hf
   obtain⟨f,rfl⟩: ∃f',f=f'+1:=⟨f-1,by omega⟩
   exact⟨true,by rw[F.L17_rare_l3,if_neg (by omega)],fun _ x hx=>by rw[List.drop_eq_nil_of_le (by omega)]at hx;cases hx⟩
  |succ q ih=>
   intro j f hj hf
   obtain⟨f,rfl⟩: ∃f',f=f'+1:=⟨f-1,by omega⟩
   obtain⟨y,hy⟩: ∃y,ls[j]?=some y:=⟨_,List.getElem?_eq_getElem (by omega)⟩
   have hyl:y.length≤9223372036854775807:=by have:=hl y (List.mem_of_getElem? hy);simpa[maxLen] using this
   obtain⟨b,hb1,hb2⟩:=ih (j+1) f (by omega) (by omega)
   have hm:(min (y.length:Int) 100).toNat≤y.length:=by omega
   rw[F.L17_rare_l3,if_pos (by omega),A.ixn hy,Option.bind_some,A.gd1 ⟨by omega,hm⟩,A.dropx hy]
   have lp:=A.lp (List.take (min (y.length:Int) 100).toNat y) (fun n (s:List Rc) k=>F.L17_rare_l2 (F.L17_rare_l3 ls f) (j:Int) y n s k) (fun _ r s=>if(40:Int)<(y.length:Int)then F.L17_rare_j1 (F.L17_rare_l3 ls f) (j:Int) true else(F.L17_few (s++r.map (·.1))).bind fun r33=>F.L17_rare_j1 (F.L17_rare_l3 ls f) (j:Int) (!r33)) (fun k s=>s.length=k)
    (fun n s hp=>by
     show F.L17_rare_l2 _ _ y (n+1) s _=_
     rw[F.L17_rare_l2,if_neg (by omega)]
     simp)
    (fun n s k x hx hk hp ih=>by
     have h2:k<100:=by rw[List.length_take]at hk;omega
     show F.L17_rare_l2 _ _ y (n+1) s _=_
     rw[F.L17_rare_l2,if_pos (by omega),A.ixn hx,Option.bind_some,A.gd1 (by simp only[List.length_cons,List.length_nil];omega),A.gd1 ⟨by omega,by omega⟩]
     refine(ih (s++[x.1]) (by simp only[List.length_append,List.length_cons,List.length_nil];omega)).trans ?_
     simp)
    (by rw[List.length_take];omega) [] rfl
   rw[lp]
   by_cases h40:(40:Int)<(y.length:Int)
   ·rw[if_pos h40,F.L17_rare_j1,if_pos rfl]
    exact⟨false,rfl,fun h=>by cases h⟩
   ·rw[if_neg h40]
    obtain⟨c,hc1,_⟩:=few_ok ([]++(List.take (min (y.length:Int) 100).toNat y).map (·.1)) (by rw[List.nil_append,List.length_map,List.length_take];unfold maxLen;omega)
    rw[hc1,Option.bind_some,F.L17_rare_j1]
    cases c with
    |false=>rw[if_pos (by rfl)];exact⟨false,rfl,fun h=>by cases h⟩
    |true=>
     rw[if_neg (by simp),A.gd1 ⟨by omega,by omega⟩,show(j:Int)+1=((j+1:Nat):Int) by omega,hb1]
     exact⟨b,rfl,fun h x hx=>(List.mem_cons.1 hx).elim (fun e=>by subst e;omega) (hb2 h x)⟩
 obtain⟨b,h1,h2⟩:=main ls.length 0 A.FU (by omega) (by omega)
 exact⟨b,h1,fun h x hx=>h2 h x hx⟩
theorem okT_nil:okT nil8=true:=by decide
theorem stP_of2 {n:Nd}{st:List En}(hk:n.2.1=11)(hs:SK kr st)(h:St2 n.1 st):stP n st=true:=by
 refine stP_iff.2 ⟨fun e he=>?_,hs⟩
 obtain⟨h1,h2,h3,h4⟩:=h e he
 unfold entOk
 rw[if_neg (fun h=>h h1),if_pos hk]
 simp only[Bool.and_eq_true,decide_eq_true_eq]
 exact⟨⟨h2,h3⟩,h4⟩
theorem stP_of1 {n:Nd}{st:List En}(hk:n.2.1=16)(hs:SK kr st)(h:St1 n.1 st)(ht: ∀r,r∈st.map kr→okT r.2=true):stP n st=true:=by
 refine stP_iff.2 ⟨fun e he=>?_,hs⟩
 obtain⟨h1,h2⟩:=h e he
 unfold entOk
 rw[if_neg (fun h=>h h1),if_neg (by omega),if_pos hk]
 simp only[Bool.and_eq_true,decide_eq_true_eq]
 exact⟨h2,ht _ (List.mem_map_of_mem he)⟩
theorem stP_txt {n:Nd}{st:List En}(h:stP n st=true): ∀r,r∈st.map kr→okT r.2=true:=fun r hr=>by
 obtain⟨e,he,rfl⟩:=List.mem_map.1 hr
 have:=(stP_iff.1 h).1 e he
 unfold entOk at this
 split at this
 ·cases this
 ·split at this
  ·simp only[Bool.and_eq_true,decide_eq_true_eq]at this
   show okT e.2.2.1=true
   rw[this.1.1];exact okT_nil
  ·split at this
   ·simp only[Bool.and_eq_true,decide_eq_true_eq]at this
    exact this.2
   ·cases this
theorem st_behind {n:Nd}{t:Tm}{a b:List Mn}{st:List En}(h:Ok n t a b st):stP n (tellP n.2.1 n.2.2.2.1 n.1 a b st).2=true:=by
 have sk:=stP_sk h.st
 unfold tellP raw
 by_cases h10:n.2.1=10
 ·rw[if_pos h10];rfl
 ·simp only[if_neg h10]
  by_cases h789:n.2.1=7∨n.2.1=8∨n.2.1=9
  ·rw[if_pos h789];exact h.st
  ·rw[if_neg h789]
   by_cases h11:n.2.1=11
   ·rw[if_pos h11,totS_snd]
    obtain⟨k1,k2,_,_⟩:=totT_ok n.2.2.2.1 n.1 (grp a) sk (stP_2 h.st h11) (grp_pos h.ba.one)
    exact stP_of2 h11 k1 k2
   ·have h16:n.2.1=16:=by have:=of_decide_eq_true h.holds;omega
    rw[if_neg h11,frS_snd]
    obtain⟨k1,k2,k3⟩:=frT_ok n.1 a sk (stP_1 h.st h16)
    refine stP_of1 h16 k1 k2 fun r hr=>?_
    rcases(k3 r).1 hr with hr|hr
    ·exact stP_txt h.st r hr
    ·obtain⟨m,hm,rfl⟩:=List.mem_map.1 hr
     exact h.ba.txt m hm
theorem st_len {n:Nd}{a b:List Mn}{st:List En}:(tellP n.2.1 n.2.2.2.1 n.1 a b st).2.length≤st.length+a.length:=by
 have gl:=grp_len a
 unfold tellP raw
 by_cases h10:n.2.1=10
 ·rw[if_pos h10];simp
 ·simp only[if_neg h10]
  by_cases h789:n.2.1=7∨n.2.1=8∨n.2.1=9
  ·rw[if_pos h789];simp
  ·rw[if_neg h789]
   by_cases h11:n.2.1=11
   ·rw[if_pos h11]
    have:((grp a).foldl (totS n.2.2.2.1 n.1) ([],st)).2.length≤st.length+(grp a).length:=(totS_len n.2.2.2.1 n.1 (grp a) ([],st)).2
    omega
   ·rw[if_neg h11];exact(frS_len n.1 a ([],st)).2
end Go.Proofs.YtbljnlkhebiniaaGreatDoor
end
section
set_option maxRecDepth 100000
set_option linter.unusedVariables false
set_option linter.unusedSimpArgs false
namespace Go.Utf
open Go.Lib
abbrev cont (b:UInt8):Prop:=b.toNat / 64=2
theorem Ck.shape {c:Rn}(h:Ck c): ∃b t,c.1=b::t∧¬cont b∧∀x,x∈t→cont x:=by
 have hd:=h.dec []
 rw[List.append_nil,decodeL_N]at hd
 have hok:=h.ok
 have hlen:=h.four
 obtain⟨b,t,hc⟩: ∃b t,c.1=b::t:=by
  cases hc:c.1 with
  |nil=>exact absurd hc h.ne
  |cons b t=>exact⟨b,t,rfl⟩
 have hb:=b.toNat_lt
 refine⟨b,t,hc,?_⟩
 rw[hc]at hd hok hlen
 simp only[List.getD,List.getElem?_cons_zero,List.getElem?_cons_succ,Option.getD_some,List.length_cons]at hd hlen hok
 rcases decodeN_shape (t.length+1) b.toNat (t[0]?.getD 0).toNat (t[1]?.getD 0).toNat (t[2]?.getD 0).toNat with⟨c1,e⟩|⟨c1,c2,c3,cv,e⟩|⟨c1,c2,c3,c4,cv,cs,e⟩|⟨c1,c2,c3,c4,c5,cv,cw,e⟩|e
 ·rw[e]at hd
  have hl:t.length=0:=by have:=congrArg Prod.snd hd;simp only at this;omega
  rw[List.eq_nil_of_length_eq_zero hl]
  exact⟨by show ¬b.toNat / 64=2;omega,by simp⟩
 ·rw[e]at hd
  have hl:t.length=1:=by have:=congrArg Prod.snd hd;simp only at this;omega
  match t,hl with
  | [x],_=>
   simp only[List.getElem?_cons_zero,Option.getD_some]at c3
   exact⟨by show ¬b.toNat / 64=2;omega,fun y hy=>by rw[List.mem_singleton.1 hy];exact c3⟩
 ·rw[e]at hd
  have hl:t.length=2:=by have:=congrArg Prod.snd hd;simp only at this;omega
  match t,hl with
  | [x,y],_=>
   simp only[List.getElem?_cons_zero,List.getElem?_cons_succ,Option.getD_some]at c3 c4
   refine⟨by show ¬b.toNat / 64=2;omega,fun z hz=>?_⟩
   rcases List.mem_cons.1 hz with rfl|hz
   ·exact c3
   ·rw[List.mem_singleton.1 hz];exact c4
 ·rw[e]at hd
  have hl:t.length=3:=by have:=congrArg Prod.snd hd;simp only at this;omega
  match t,hl with
  | [x,y,z],_=>
   simp only[List.getElem?_cons_zero,List.getElem?_cons_succ,Option.getD_some]at c3 c4 c5
   refine⟨by show ¬b.toNat / 64=2;omega,fun q hq=>?_⟩
   rcases List.mem_cons.1 hq with rfl|hq
   ·exact c3
   ·rcases List.mem_cons.1 hq with rfl|hq
    ·exact c4
    ·rw[List.mem_singleton.1 hq];exact c5
 ·rw[e]at hd
  obtain⟨h1,h2⟩:=Prod.mk.inj hd
  exact(hok ⟨h1.symm,h2.symm⟩).elim
theorem Ck.ext {c d:Rn}(hc:Ck c)(hd:Ck d)(h:c.2=d.2):c=d:=Prod.ext (by rw[←hc.enc,←hd.enc,h]) h
def wgo (c:Int):List Rn→List Rn→List (List Rn)
 |acc,[]=>[acc]
 |acc,x::xs=>if x.2=c then acc::wgo c [] xs else wgo c (acc++[x]) xs
theorem wgo_mem (c:Int): ∀{xs acc:List Rn} {p:List Rn},p∈wgo c acc xs→∀x,x∈p→x∈acc∨x∈xs
 | [],acc,p,h,x,hx=>by obtain rfl:=List.mem_singleton.1 h;exact .inl hx
 |y::xs,acc,p,h,x,hx=>by
  unfold wgo at h
  split at h
  ·rcases List.mem_cons.1 h with rfl|h
   ·exact .inl hx
   ·rcases wgo_mem c h x hx with h|h
    ·cases h
    ·exact .inr (List.mem_cons_of_mem _ h)
  ·rcases wgo_mem c h x hx with h|h
   ·rcases List.mem_append.1 h with h|h
    ·exact .inl h
    ·rw[List.mem_singleton.1 h];exact .inr (List.mem_cons_self ..)
   ·exact .inr (List.mem_cons_of_mem _ h)
theorem wgo_len (c:Int): ∀{xs acc:List Rn},(wgo c acc xs).length≤xs.length+1
 | [],acc=>Nat.le_refl _
 |y::xs,acc=>by
  unfold wgo
  split
  ·rw[List.length_cons,List.length_cons];have:=wgo_len c (xs:=xs) (acc:=[]);omega
  ·rw[List.length_cons];have:=wgo_len c (xs:=xs) (acc:=acc++[y]);omega
theorem wgo_fl (c:Int): ∀{xs acc:List Rn} {p:List Rn},p∈wgo c acc xs→(flat p).length≤(flat acc).length+(flat xs).length
 | [],acc,p,h=>by obtain rfl:=List.mem_singleton.1 h;omega
 |y::xs,acc,p,h=>by
  rw[flat_cons,List.length_append]
  unfold wgo at h
  split at h
  ·rcases List.mem_cons.1 h with rfl|h
   ·omega
   ·have:=wgo_fl c h
    have e0:(flat ([]:List Rn)).length=0:=rfl
    omega
  ·have:=wgo_fl c h
   have e:flat (acc++[y])=flat acc++y.1:=by simp[List.flatMap_append]
   rw[e,List.length_append]at this;omega
end Go.Utf
end
section
set_option maxRecDepth 20000
set_option linter.unusedVariables false
set_option linter.unusedSimpArgs false
namespace Go.Proofs.YtbljnlkhebiniaaGreatDoor
open Go.RowKit Go.Graph Go.Utf Go.Ent Go.Opr
def filtP (f:Fun)(r:Rc):Bool:=if f.1=11 then decide (Int.tmod r.1 f.2.1=0)else if f.1=12 then Lib.contains r.2.data.toList f.2.2.data.toList else decide (f.2.1≤rns r.2)
abbrev baL (l:List Rn):ByteArray:=⟨(flat l).toArray⟩
abbrev runeOf (s:ByteArray):Int:=(((cks s.data.toList).map (·.2))[0]?).getD 0
def piecesP (f:Fun)(r:Rc):List ByteArray:=if f.1=22 then(wgo (runeOf f.2.2) [] (cks r.2.data.toList)).map baL else(cks r.2.data.toList).map fun c=>baL [c]
def splitP (f:Fun)(r:Rc):List Rc:=(((piecesP f r).filter fun s=>decide (s≠ByteArray.mk #[])).take 4).map fun s=>(r.1,s)
def eachP (k:Int)(f:Fun)(r:Rc):List Rc:=if k=2 then [mapK f r]else if k=3 then(if filtP f r=true then [r]else [])else if k=4 then splitP f r else [r]
theorem chk_kind {k:Int}{f:Fun}(hne:kinds k≠[])(h:chk k f=0):f.1∈kinds k∧numberF f=true∧textP f=true:=by
 unfold chk at h
 rw[if_neg hne]at h
 unfold anyF at h
 split at h
 ·rename_i h1
  rw[List.any_eq_true]at h1
  obtain⟨y,hy,h2⟩:=h1
  simp only[Bool.and_eq_true,decide_eq_true_eq]at h2
  obtain⟨rfl,h3,h4⟩:=h2
  exact⟨hy,h3,h4⟩
 ·cases h
theorem cnt_cks {s:ByteArray}(hs:s.size≤5000)(hv:vld s s.size 0=true):(cks s.data.toList).length=cnt s s.size 0:=by
 obtain⟨l,h1,h2⟩:=Runes_eq s hs hv
 rw[Runes_ats s hs hv]at h1
 rw[←h2,←Option.some.inj h1,ats_len]
theorem one_rune {f:Fun}(h:textP f=true)(hk:f.1=12∨f.1=22)(hs:f.2.2.size≤5000): ∃c,Ck c∧cks f.2.2.data.toList=[c]∧f.2.2.data.toList=c.1∧runeOf f.2.2=c.2:=by
 unfold textP at h
 rw[if_neg (by omega),if_pos hk]at h
 simp only[Bool.and_eq_true,decide_eq_true_eq]at h
 have hv:=vld_cks h.2
 have hl:=cnt_cks hs h.2
 rw[h.1]at hl
 obtain⟨c,hc⟩: ∃c,cks f.2.2.data.toList=[c]:=by
  match hq:cks f.2.2.data.toList,hl with
  | [c],_=>exact⟨c,rfl⟩
 refine⟨c,hv.2 c (by rw[hc];exact List.mem_cons_self ..),hc,?_,?_⟩
 ·rw[←hv.1,hc];simp
 ·unfold runeOf;rw[hc];rfl
theorem num_div {f:Fun}(h:numberF f=true)(hk:f.1=11):f.2.1≠0:=by
 unfold numberF at h
 rw[if_neg (by omega),if_pos (.inr hk)]at h
 have:=of_decide_eq_true h
 omega
theorem both_ok {k:Int}{f:Fun}{r:Rc}(hs:f.2.2.size≤1000)(hf:chk k f=0)(ho:okT r.2=true):F.fn_both k f r=some 0:=by
 rw[F.fn_both]
 show(F.fn_Check k f).bind _=_
 rw[fn_Check_eq k f (by omega),Option.bind_some,hf,if_neg (by simp)]
 show(F.rec_Check r).bind _=_
 rw[rec_Check_eq,Option.bind_some,ho];rfl
theorem Filter_eq (f:Fun)(r:Rc)(hs:f.2.2.size≤1000)(hf:chk 3 f=0)(ho:okT r.2=true):F.fn_Filter f r=some (filtP f r,0):=by
 have h64:=(okT_iff.1 ho).1
 obtain⟨h1,h2,h3⟩:=chk_kind (k:=3) (by decide) hf
 rw[F.fn_Filter]
 show(F.fn_both 3 f r).bind _=_
 rw[both_ok hs hf ho,Option.bind_some,if_neg (by simp)]
 unfold filtP
 by_cases e1:f.1=11
 ·rw[if_pos e1,if_pos e1,A.gd1 (num_div h2 e1)]
 ·rw[if_neg e1,if_neg e1]
  by_cases e2:f.1=12
  ·rw[if_pos e2,if_pos e2,F.strings_Contains,A.gd1 (by omega),Option.bind_some]
  ·rw[if_neg e2,if_neg e2,(runes_len r.2 (by omega)).1,Option.bind_some,(runes_len r.2 (by omega)).2]
theorem baL_snoc (acc:List Rn)(hc: ∀c,c∈acc→Ck c):runesBytes (acc.map (·.2))=baL acc:=runes_mk hc
theorem words_eq (s:ByteArray)(c:Int)(ho:okT s=true):F.fn_words s c=some ((wgo c [] (cks s.data.toList)).map baL):=by
 obtain⟨h64,hv⟩:=okT_iff.1 ho
 obtain⟨hfl,hck⟩:=vld_cks hv
 have hFU:=FU_big
 have tot:(flat (cks s.data.toList)).length=s.size:=by rw[hfl,size_list]
 have loop: ∀(n p f:Nat) (xs:List ByteArray) (acc:List Rn),s.size-p≤n→n<f→(∀x,x∈acc→Ck x)→(∀x,x∈ckF n (s.data.toList.drop p)→Ck x)→xs.length+acc.length≤p→p≤s.size→(flat acc).length≤p→
   F.fn_words_l1 s c f p xs (acc.map (·.2))=some (xs++(wgo c acc (ckF n (s.data.toList.drop p))).map baL):=by
  intro n
  induction n with
  |zero=>
   intro p f xs acc hp hf ha hr hl hp64 hfa
   obtain⟨f,rfl⟩: ∃f',f=f'+1:=⟨f-1,by omega⟩
   have e:(baL acc).size=(flat acc).length:=mk_size _
   rw[F.fn_words_l1,if_neg (by omega),baL_snoc acc ha,A.gd1 (by omega),A.gd1 (by simp only[List.length_cons,List.length_nil];omega),ck_end (by omega)]
   simp[wgo]
  |succ n ih=>
   intro p f xs acc hp hf ha hr hl hp64 hfa
   obtain⟨f,rfl⟩: ∃f',f=f'+1:=⟨f-1,by omega⟩
   have e:(baL acc).size=(flat acc).length:=mk_size _
   rw[F.fn_words_l1]
   by_cases h:p<s.size
   ·have hd:=dec_fits h
    rw[if_pos h,ck_step h]
    rw[ck_step h]at hr
    have hr2:=fun x hx=>hr x (List.mem_cons_of_mem _ hx)
    have hr1:=hr _ (List.mem_cons_self ..)
    obtain⟨k,hk⟩: ∃k,k=(((s.data.toList.drop p).take (Utf8.decode s p).2,((Utf8.decode s p).1:Int)):Rn):=⟨_,rfl⟩
    have hk2:((Utf8.decode s p).1:Int)=k.2:=by rw[hk]
    rw[←hk]at hr1
    rw[←hk,wgo]
    by_cases hc:k.2=c
    ·rw[if_neg (by rw[hk2];exact fun h=>h hc),if_pos hc,baL_snoc acc ha,A.gd1 (by omega),A.gd1 (by simp only[List.length_cons,List.length_nil];omega)]
     have:=ih (p+(Utf8.decode s p).2) f (xs++[baL acc]) [] (by omega) (by omega) (by simp) hr2 (by simp only[List.length_append,List.length_cons,List.length_nil];omega) (by omega) (by simp)
     refine(show F.fn_words_l1 s c f (p+(Utf8.decode s p).2) (xs++[baL acc]) []=_ from this).trans ?_
     simp
    ·rw[if_pos (by rw[hk2];exact hc),if_neg hc,hk2,A.gd1 (by simp only[List.length_cons,List.length_nil,List.length_map];omega)]
     have e2:acc.map (·.2)++[k.2]=(acc++[k]).map (·.2):=by simp
     rw[e2]
     have hkl:k.1.length≤(Utf8.decode s p).2:=by rw[hk];simp only[List.length_take];omega
     have e3:flat (acc++[k])=flat acc++k.1:=by simp[List.flatMap_append]
     refine(ih (p+(Utf8.decode s p).2) f xs (acc++[k]) (by omega) (by omega) (fun x hx=>(List.mem_append.1 hx).elim (ha x) fun h=>by rw[List.mem_singleton.1 h];exact hr1) hr2 (by simp only[List.length_append,List.length_cons,List.length_nil];omega) (by omega) (by rw[e3,List.length_append];omega)).trans rfl
   ·rw[if_neg h,baL_snoc acc ha,A.gd1 (by omega),A.gd1 (by simp only[List.length_cons,List.length_nil];omega),ck_end h]
    simp[wgo]
 have:=loop s.size 0 A.FU [] [] (by omega) (by omega) (by simp) (fun x hx=>hck x hx) (by simp) (by omega) (by simp)
 rw[F.fn_words]
 exact this
theorem Split_eq (f:Fun)(r:Rc)(hs:f.2.2.size≤1000)(hf:chk 4 f=0)(ho:okT r.2=true):F.fn_Split f r=some (splitP f r,0):=by
 obtain⟨h64,hv⟩:=okT_iff.1 ho
 obtain⟨hfl,hck⟩:=vld_cks hv
 have hFU:=FU_big
 have tot:(flat (cks r.2.data.toList)).length=r.2.size:=by rw[hfl,size_list]
 have hlen:=cks_len r.2
 obtain⟨h1,h2,h3⟩:=chk_kind (k:=4) (by decide) hf
 have j3: ∀l:List ByteArray,l.length≤100→F.fn_Split_j3 r l=some (((l.filter fun s=>decide (s≠ByteArray.mk #[])).take 4).map (fun s=>(r.1,s)),0):=fun l hl=>by
  rw[F.fn_Split_j3]
  refine(A.lp l (fun n (s:List Rc) y=>F.fn_Split_l2 r l n s y) (fun _ t s=>some (s++((t.filter fun s=>decide (s≠ByteArray.mk #[])).take (4-s.length)).map (fun s=>(r.1,s)),0)) (fun k s=>s.length≤k)
   (fun n s hp=>by
    show F.fn_Split_l2 r l (n+1) s _=_
    rw[F.fn_Split_l2,if_neg (by omega)];simp)
   (fun n s k x hx hk hp ih=>by
    show F.fn_Split_l2 r l (n+1) s _=_
    rw[F.fn_Split_l2,if_pos (by omega),A.ixn hx,Option.bind_some,A.ba,List.filter_cons]
    by_cases hn:x=ByteArray.mk #[]
    ·rw[if_neg (by simp[hn]),if_neg (by simp[hn]),F.fn_Split_j1,A.gd1 ⟨by omega,by omega⟩]
     exact ih s (by omega)
    ·rw[if_pos (c:=decide (x≠ByteArray.mk #[])=true) (decide_eq_true hn)]
     by_cases h4:s.length<4
     ·rw[if_pos (decide_eq_true ⟨hn,by omega⟩),A.gd1 (by simp only[List.length_cons,List.length_nil];omega),F.fn_Split_j1,A.gd1 ⟨by omega,by omega⟩]
      refine(ih (s++[(r.1,x)]) (by simp only[List.length_append,List.length_cons,List.length_nil];omega)).trans ?_
      obtain⟨q,hq⟩: ∃q,4-s.length=q+1:=⟨3-s.length,by omega⟩
      have hq2:4-(s++[(r.1,x)]).length=q:=by simp only[List.length_append,List.length_cons,List.length_nil];omega
      rw[hq2,hq,List.take_succ_cons]
      simp
     ·rw[if_neg (by intro h;have:=(of_decide_eq_true h).2;omega),F.fn_Split_j1,A.gd1 ⟨by omega,by omega⟩]
      refine(ih s (by omega)).trans ?_
      rw[show 4-s.length=0 by omega];simp)
   (by omega) [] (Nat.le_refl _)).trans ?_
  simp
 rw[F.fn_Split]
 show(F.fn_both 4 f r).bind _=_
 rw[both_ok hs hf ho,Option.bind_some,if_neg (by simp)]
 unfold splitP piecesP
 by_cases e1:f.1=22
 ·rw[if_pos e1,if_pos e1,runes_F f.2.2 (by omega),Option.bind_some]
  obtain⟨c,c1,c2,c3,c4⟩:=one_rune h3 (.inr e1) (by omega)
  have e0:A.ix ((cks f.2.2.data.toList).map (·.2)) 0=some c.2:=by rw[c2];rfl
  rw[e0,Option.bind_some,words_eq r.2 c.2 ho,Option.bind_some,c4]
  exact j3 _ (by rw[List.length_map];have:=wgo_len c.2 (xs:=cks r.2.data.toList) (acc:=[]);omega)
 ·rw[if_neg e1,if_neg e1]
  have loop: ∀(n p f:Nat) (xs:List ByteArray),r.2.size-p≤n→n<f→(∀x,x∈ckF n (r.2.data.toList.drop p)→Ck x)→xs.length≤p→p≤r.2.size→
    F.fn_Split_l4 r f xs p=F.fn_Split_j3 r (xs++(ckF n (r.2.data.toList.drop p)).map fun c=>baL [c]):=by
   intro n
   induction n with
   |zero=>
    intro p f xs hp hf hr hl hps
    obtain⟨f,rfl⟩: ∃f',f=f'+1:=⟨f-1,by omega⟩
    rw[F.fn_Split_l4,if_neg (by omega),ck_end (by omega)];simp
   |succ n ih=>
    intro p f xs hp hf hr hl hps
    obtain⟨f,rfl⟩: ∃f',f=f'+1:=⟨f-1,by omega⟩
    rw[F.fn_Split_l4]
    by_cases h:p<r.2.size
    ·have hd:=dec_fits h
     rw[if_pos h,ck_step h]
     rw[ck_step h]at hr
     have hr2:=fun x hx=>hr x (List.mem_cons_of_mem _ hx)
     have hr1:=hr _ (List.mem_cons_self ..)
     obtain⟨k,hk⟩: ∃k,k=(((r.2.data.toList.drop p).take (Utf8.decode r.2 p).2,((Utf8.decode r.2 p).1:Int)):Rn):=⟨_,rfl⟩
     have hk2:((Utf8.decode r.2 p).1:Int)=k.2:=by rw[hk]
     rw[←hk]at hr1
     have e:runesBytes [k.2]=baL [k]:=runes_mk (cs:=[k]) fun x hx=>by rw[List.mem_singleton.1 hx];exact hr1
     have e5:(baL [k]).size=k.1.length:=by show(ByteArray.mk _).size=_;rw[mk_size];simp
     have h4:=hr1.four
     rw[←hk,hk2,e,A.gd1 (by omega),A.gd1 (by simp only[List.length_cons,List.length_nil];omega),ih _ _ _ (by omega) (by omega) hr2 (by simp only[List.length_append,List.length_cons,List.length_nil];omega) (by omega)]
     simp
    ·rw[if_neg h,ck_end h];simp
  have:=loop r.2.size 0 A.FU [] (by omega) (by omega) (fun x hx=>hck x hx) (by simp) (by omega)
  refine(show F.fn_Split_l4 r A.FU [] 0=_ from this).trans ?_
  rw[List.nil_append,←cks_0]
  exact j3 _ (by rw[List.length_map];omega)
theorem each_eq (n:Nd)(r:Rc)(hs:n.2.2.2.1.2.2.size≤1000)(hf:chk n.2.1 n.2.2.2.1=0)(ho:okT r.2=true):F.oper_each n r=some (eachP n.2.1 n.2.2.2.1 r):=by
 rw[F.oper_each]
 unfold eachP
 by_cases h2:n.2.1=2
 ·rw[if_pos h2,if_pos h2]
  rw[h2]at hf
  show(F.fn_Map n.2.2.2.1 r).bind _=_
  have hm:mapP n.2.2.2.1 r=(mapK n.2.2.2.1 r,0):=by unfold mapP;rw[if_neg (by rw[hf];simp),if_pos ho]
  rw[fn_Map_eq _ _ (by omega),Option.bind_some,hm,if_pos rfl]
 rw[if_neg h2,if_neg h2]
 by_cases h3:n.2.1=3
 ·rw[if_pos h3,if_pos h3]
  rw[h3]at hf
  show(F.fn_Filter n.2.2.2.1 r).bind _=_
  rw[Filter_eq _ _ hs hf ho,Option.bind_some]
  cases filtP n.2.2.2.1 r<;>rfl
 rw[if_neg h3,if_neg h3]
 by_cases h4:n.2.1=4
 ·rw[if_pos h4,if_pos h4]
  rw[h4]at hf
  show(F.fn_Split n.2.2.2.1 r).bind _=_
  rw[Split_eq _ _ hs hf ho,Option.bind_some,if_pos rfl]
 ·rw[if_neg h4,if_neg h4]
def insP8 (k:Int):Int:=if k<1∨16<k then-1 else if k=1 then 0 else if k=5∨k=9 then 2 else 1
theorem Ins_eq (k:Int):F.graph_Ins k=some (insP8 k):=by
 rw[F.graph_Ins]
 unfold insP8
 simp only[A.bo,decide_eq_true_eq]
 split
 ·rfl
 ·(split)
  ·rfl
  ·split<;>rfl
def chkR (l:List Rc):Int:=if(l.any fun r=> !okT r.2)=true then 50 else 0
def checkP (n:Nd)(port:Int)(t:Tm)(l:List Rc):Int:=if insP8 n.2.1<1∨holdsP n.2.1=true then 170 else if port<0∨insP8 n.2.1≤port then 1 else if chk n.2.1 n.2.2.2.1≠0 then chk n.2.1 n.2.2.2.1 else if tcP t≠0 then tcP t else chkR l
theorem check_eq (n:Nd)(port:Int)(t:Tm)(l:List Rc)(hs:n.2.2.2.1.2.2.size≤1000)(hl:l.length≤1000):F.oper_check n port t l=some (checkP n port t l):=by
 have hFU:=FU_big
 have recs:F.oper_check_l1 l A.FU 0=some (chkR l):=
  A.lp0 l (fun f y=>F.oper_check_l1 l f y) (fun _ r=>some (chkR r))
   (fun f=>by rw[F.oper_check_l1,if_neg (by omega)];rfl)
   (fun f k x hx hk ih=>by
    rw[F.oper_check_l1,if_pos (by omega),A.ixn hx,Option.bind_some]
    show(F.rec_Check x).bind _=_
    rw[rec_Check_eq,Option.bind_some]
    unfold chkR at ih ⊢
    rw[List.any_cons]
    cases ho:okT x.2 with
    |true=>rw[if_pos rfl,if_neg (by simp),A.gd1 ⟨by omega,by omega⟩,ih];rfl
    |false=>rfl)
   (by omega)
 have j2: ∀b,F.oper_check_j2 n port t l (insP8 n.2.1) b=some (if b=true then 170 else if port<0∨insP8 n.2.1≤port then 1 else if chk n.2.1 n.2.2.2.1≠0 then chk n.2.1 n.2.2.2.1 else if tcP t≠0 then tcP t else chkR l):=fun b=>by
  rw[F.oper_check_j2]
  cases b with
  |true=>rw[if_pos rfl,if_pos rfl]
  |false=>
   rw[if_neg (show ¬(false=true) by simp),if_neg (show ¬(false=true) by simp),A.bo]
   by_cases hp:port<0∨insP8 n.2.1≤port
   ·rw[if_pos (decide_eq_true hp),if_pos hp]
   ·rw[if_neg (by simpa using hp),if_neg hp]
    show(F.fn_Check n.2.1 n.2.2.2.1).bind _=_
    rw[fn_Check_eq _ _ (by omega),Option.bind_some]
    by_cases h1:chk n.2.1 n.2.2.2.1=0
    ·rw[if_neg (fun h=>h h1),if_neg (fun h=>h h1)]
     show(F.tstamp_Check t).bind _=_
     rw[tcheck_eq,Option.bind_some]
     by_cases h2:tcP t=0
     ·rw[if_neg (fun h=>h h2),if_neg (fun h=>h h2),recs]
     ·rw[if_pos h2,if_pos h2]
    ·rw[if_pos h1,if_pos h1]
 rw[F.oper_check,Ins_eq,Option.bind_some]
 unfold checkP
 by_cases h1:insP8 n.2.1<1
 ·rw[if_pos h1,j2,if_pos rfl,if_pos (.inl h1)]
 ·rw[if_neg h1,Holds_eq,Option.bind_some,j2]
  cases hh:holdsP n.2.1 with
  |true=>rw[if_pos rfl,if_pos (.inr rfl)]
  |false=>rw[if_neg (show ¬(false=true) by simp),if_neg (show ¬(insP8 n.2.1<1∨false=true)from fun h=>h.elim h1 (by simp))]
abbrev t0:Tm:=(0,0,0,0,0,0)
def goesP (n:Nd)(t:Tm):Tm×Bool×Int:=(F.oper_goes n t).getD (t0,false,0)
theorem tcP_d {t:Tm}(h:tcP t=0):0≤t.1∧t.1≤1073741824∧0≤t.2.1∧t.2.1≤4∧∀x,x∈[t.2.2.1,t.2.2.2.1,t.2.2.2.2.1,t.2.2.2.2.2]→0≤x∧x≤1048576:=by
 unfold tcP at h
 split at h
 ·cases h
 ·rename_i h1
  have: ∀d i l,tcL d i l=0→∀x,x∈l→0≤x∧x≤1048576:=by
   intro d i l
   induction l generalizing i with
   |nil=>intro _ x hx;cases hx
   |cons y l ih=>
    intro h x hx
    unfold tcL at h
    split at h
    ·cases h
    ·rename_i h2
     split at h
     ·cases h
     ·rcases List.mem_cons.1 hx with rfl|hx
      ·omega
      ·exact ih _ h x hx
  exact⟨by omega,by omega,by omega,by omega,this _ _ _ h⟩
theorem ix4 {t:Tm}(h:tcP t=0)(h1:t.2.1≠0): ∃x,A.ix [t.2.2.1,t.2.2.2.1,t.2.2.2.2.1,t.2.2.2.2.2] (t.2.1-1)=some x∧0≤x∧x≤1048576:=by
 obtain⟨_,_,h2,h3,h4⟩:=tcP_d h
 obtain⟨k,hk⟩: ∃k:Nat,t.2.1-1=(k:Int):=⟨(t.2.1-1).toNat,by omega⟩
 have hk4:k<4:=by omega
 obtain⟨L,hL⟩: ∃L,L=[t.2.2.1,t.2.2.2.1,t.2.2.2.2.1,t.2.2.2.2.2]:=⟨_,rfl⟩
 have hLl:L.length=4:=by rw[hL];rfl
 rw[←hL]at h4 ⊢
 exact⟨L[k],by rw[hk];exact A.ixn (List.getElem?_eq_getElem (by omega)),h4 _ (List.getElem_mem _)⟩
theorem Enter_some {t:Tm}(h:tcP t=0): ∃v,F.tstamp_Enter t=some v:=by
 obtain⟨_,_,h2,h3,_⟩:=tcP_d h
 rw[F.tstamp_Enter]
 show ∃v,(F.tstamp_Check t).bind _=some v
 rw[tcheck_eq,h,Option.bind_some,if_neg (by simp)]
 split
 ·exact⟨_,rfl⟩
 ·rw[A.gd1 ⟨by omega,by omega⟩];exact⟨_,rfl⟩
theorem Leave_some {t:Tm}(h:tcP t=0): ∃v,F.tstamp_Leave t=some v:=by
 obtain⟨_,_,h2,h3,_⟩:=tcP_d h
 rw[F.tstamp_Leave]
 show ∃v,(F.tstamp_Check t).bind _=some v
 rw[tcheck_eq,h,Option.bind_some,if_neg (by simp)]
 split
 ·exact⟨_,rfl⟩
 ·rename_i h4
  obtain⟨x,hx,_⟩:=ix4 h h4
  rw[A.gd1 ⟨by omega,by omega⟩,hx];exact⟨_,rfl⟩
theorem Next_some {t:Tm}(h:tcP t=0): ∃v,F.tstamp_Next t=some v:=by
 obtain⟨h0,h1,h2,h3,_⟩:=tcP_d h
 rw[F.tstamp_Next]
 show ∃v,(F.tstamp_Check t).bind _=some v
 rw[tcheck_eq,h,Option.bind_some,if_neg (by simp)]
 split
 ·rename_i h4
  obtain⟨x,hx,hx1,hx2⟩:=ix4 h (by omega)
  rw[A.gd1 ⟨by omega,by omega⟩,hx,Option.bind_some]
  split
  ·exact⟨_,rfl⟩
  ·rw[A.gd1 ⟨by omega,by omega⟩];exact⟨_,rfl⟩
 ·(split)
  ·exact⟨_,rfl⟩
  ·rw[A.gd1 ⟨by omega,by omega⟩];exact⟨_,rfl⟩
theorem goes_eq (n:Nd){t:Tm}(h:tcP t=0):F.oper_goes n t=some (goesP n t):=by
 have: ∃v,F.oper_goes n t=some v:=by
  obtain⟨h0,h1,h2,h3,_⟩:=tcP_d h
  rw[F.oper_goes]
  split
  ·obtain⟨v,hv⟩:=Enter_some h
   show ∃v,(F.tstamp_Enter t).bind _=some v
   rw[hv];exact⟨_,rfl⟩
  ·(split)
   ·obtain⟨v,hv⟩:=Leave_some h
    show ∃v,(F.tstamp_Leave t).bind _=some v
    rw[hv];exact⟨_,rfl⟩
   ·(split)
    ·(split)
     ·exact⟨_,rfl⟩
     ·rename_i h4
      obtain⟨x,hx,_⟩:=ix4 h h4
      rw[A.gd1 ⟨by omega,by omega⟩,hx,Option.bind_some]
      split
      ·exact⟨_,rfl⟩
      ·obtain⟨v,hv⟩:=Next_some h
       show ∃v,(F.tstamp_Next t).bind _=some v
       rw[hv];exact⟨_,rfl⟩
    ·exact⟨_,rfl⟩
 obtain⟨v,hv⟩:=this
 unfold goesP
 rw[hv];rfl
def batchP (n:Nd)(port:Int)(t:Tm)(l:List Rc):List Rc×Tm×Int:=
 if checkP n port t l≠0 then([],t0,checkP n port t l)else if(goesP n t).2.2≠0 then([],t0,(goesP n t).2.2)else if(goesP n t).2.1=false then([],(goesP n t).1,0)else(l.flatMap (eachP n.2.1 n.2.2.2.1),(goesP n t).1,0)
structure OkB (n:Nd) (port:Int) (t:Tm) (l:List Rc):Prop where
 ins: ¬insP8 n.2.1<1
 holds:holdsP n.2.1=false
 port:0≤port∧port<insP8 n.2.1
 fn:chk n.2.1 n.2.2.2.1=0
 tm:tcP t=0
 txt: ∀r,r∈l→okT r.2=true
theorem chkR_iff {l:List Rc}:chkR l=0↔∀r,r∈l→okT r.2=true:=by
 unfold chkR
 by_cases h:(l.any fun r=> !okT r.2)=true
 ·rw[if_pos h]
  refine⟨fun h=>(by cases h),fun hb=>?_⟩
  obtain⟨m,hm,h2⟩:=List.any_eq_true.1 h
  rw[hb m hm]at h2;cases h2
 ·rw[if_neg h]
  refine⟨fun _ r hr=>?_,fun _=>rfl⟩
  cases ho:okT r.2 with
  |true=>rfl
  |false=>exact absurd (List.any_eq_true.2 ⟨r,hr,by rw[ho];rfl⟩) h
theorem checkP_iff {n:Nd}{port:Int}{t:Tm}{l:List Rc}:checkP n port t l=0↔OkB n port t l:=by
 unfold checkP
 constructor
 ·intro h
  split at h
  ·cases h
  rename_i h1
  split at h
  ·cases h
  rename_i h2
  split at h
  ·rename_i h3;exact absurd h h3
  rename_i h3
  split at h
  ·rename_i h4;exact absurd h h4
  rename_i h4
  exact⟨fun h=>h1 (.inl h),by cases hh:holdsP n.2.1 with|false=>rfl|true=>exact absurd (.inr hh) h1,by omega,Classical.byContradiction h3,Classical.byContradiction h4,chkR_iff.1 h⟩
 ·intro h
  rw[if_neg (fun h2=>h2.elim h.ins fun e=>by rw[h.holds]at e;cases e),if_neg (by have:=h.port;omega),if_neg (by rw[h.fn];simp),if_neg (by rw[h.tm];simp)]
  exact chkR_iff.2 h.txt
theorem each_len (k:Int)(f:Fun)(r:Rc):(eachP k f r).length≤4:=by
 unfold eachP
 split
 ·simp
 ·(split)
  ·split<;>simp
  ·(split)
   ·unfold splitP;rw[List.length_map,List.length_take];omega
   ·simp
theorem Batch_eq (n:Nd)(port:Int)(t:Tm)(l:List Rc)(hs:n.2.2.2.1.2.2.size≤1000)(hl:l.length≤1000):F.oper_Batch n port t l=some (batchP n port t l):=by
 have hFU:=FU_big
 rw[F.oper_Batch]
 show(F.oper_check n port t l).bind _=_
 rw[check_eq n port t l hs hl,Option.bind_some]
 unfold batchP
 by_cases hc:checkP n port t l=0
 ·rw[if_neg (fun h=>h hc),if_neg (fun h=>h hc)]
  have ok:=checkP_iff.1 hc
  show(F.oper_goes n t).bind _=_
  rw[goes_eq n ok.tm,Option.bind_some]
  by_cases hg:(goesP n t).2.2=0
  ·have hg2: ¬((goesP n t).2.2≠0):=fun h=>h hg
   rw[if_neg hg2,if_neg hg2]
   cases hb:(goesP n t).2.1 with
   |false=>rfl
   |true=>
    rw[if_neg (show ¬((!true)=true) by simp),if_neg (show ¬(true=false) by simp)]
    exact A.lp l (fun f (s:List Rc) y=>F.oper_Batch_l1 n l (goesP n t) f s y) (fun _ r s=>some (s++r.flatMap (eachP n.2.1 n.2.2.2.1),(goesP n t).1,0)) (fun k s=>s.length≤4*k)
     (fun f s hp=>by
      show F.oper_Batch_l1 n l _ (f+1) s _=_
      rw[F.oper_Batch_l1,if_neg (by omega)];simp)
     (fun f s k x hx hk hp ih=>by
      have hel:=each_len n.2.1 n.2.2.2.1 x
      show F.oper_Batch_l1 n l _ (f+1) s _=_
      rw[F.oper_Batch_l1,if_pos (by omega),A.ixn hx,Option.bind_some]
      show(F.oper_each n x).bind _=_
      rw[each_eq n x hs ok.fn (ok.txt x (List.mem_of_getElem? hx)),Option.bind_some,A.gd1 (by show(s.length+(eachP n.2.1 n.2.2.2.1 x).length)*24≤_;omega),A.gd1 ⟨by omega,by omega⟩]
      refine(ih (s++eachP n.2.1 n.2.2.2.1 x) (by rw[List.length_append];omega)).trans ?_
      rw[List.flatMap_cons,List.append_assoc])
     (by omega) [] (by simp)
  ·rw[if_pos hg,if_pos hg]
 ·rw[if_pos hc,if_pos hc]
end Go.Proofs.YtbljnlkhebiniaaGreatDoor
end
section
set_option maxRecDepth 20000
set_option linter.unusedVariables false
set_option linter.unusedSimpArgs false
namespace Go.Proofs.YtbljnlkhebiniaaGreatDoor
open Go.RowKit Go.Graph Go.Utf Go.Ent Go.Opr
end Go.Proofs.YtbljnlkhebiniaaGreatDoor
end
section
set_option maxRecDepth 20000
set_option linter.unusedVariables false
set_option linter.unusedSimpArgs false
namespace Go.Proofs.YtbljnlkhebiniaaGreatDoor
open Go.RowKit Go.Graph Go.Utf Go.Ent
theorem R17_ahead_eq (a b:En):F.R17_ahead a b=some (rl (rec a) (rec b)):=by
 rw[F.R17_ahead]
 show(F.R05_Compare (rec a) (rec b)).bind _=_
 rw[R05_Compare_eq,Option.bind_some,cR_lt]
theorem R17_CheckState_eq (n:Nd)(l:List En)(hl:l.length≤9223372036854775807):F.R17_CheckState n l=some (if stP n l=true then 0 else 171):=
 A.lp0 l (fun f y=>F.R17_CheckState_l3 n l f y) (fun k r=>some (if stF n (prv l k) r=true then 0 else 171))
  (fun f=>by
   rw[F.R17_CheckState_l3,if_neg (by omega)]
   cases prv l l.length<;>rfl)
  (fun f k x hx hk ih=>by
   rw[F.R17_CheckState_l3,if_pos (by omega),A.ixn hx,Option.bind_some,F.R17_Keeps,Option.bind_some]
   rw[prv_s l k hx]at ih
   have nx: ∀b:Bool,F.R17_CheckState_j1 (F.R17_CheckState_l3 n l f) (k:Int) b=some (if(b&&stF n (some x) (l.drop (k+1)))=true then 0 else 171):=fun b=>by
    rw[F.R17_CheckState_j1]
    cases b with
    |false=>rw[if_pos (show(!false)=true from rfl)];rfl
    |true=>rw[if_neg (show ¬((!true)=true) by simp),A.gd1 ⟨by omega,by omega⟩,ih];rfl
   have j2: ∀a:Bool,(n.2.1=11∨n.2.1=16)→x.1=n.1→F.R17_CheckState_j2 (F.R17_CheckState_l3 n l f) n (k:Int) x a=some (if(entOk n x&&a&&stF n (some x) (l.drop (k+1)))=true then 0 else 171):=fun a hkd hx1=>by
    rw[F.R17_CheckState_j2]
    unfold entOk
    have hx1': ¬(x.1≠n.1):=fun h=>h hx1
    rw[if_neg hx1']
    by_cases h11:n.2.1=11
    ·rw[if_pos h11,if_pos h11,nx]
     by_cases a1:x.2.2.1=ByteArray.mk #[]<;>by_cases a2:(0:Int)≤x.2.2.2<;>by_cases a3:x.2.2.2≤1099511627776<;>cases a<;>simp[a1,a2,a3]
    ·have h16:n.2.1=16:=hkd.resolve_left h11
     rw[if_neg h11,if_neg h11,if_pos h16]
     cases a with
     |false=>rw[cond_false,if_neg (by simp),nx];simp
     |true=>
      rw[cond_true]
      by_cases h1:x.2.2.2=1
      ·rw[if_pos (decide_eq_true h1)]
       show(F.R05_Check (rec x)).bind _=_
       rw[R05_Check_eq,Option.bind_some,nx,decide_eq_true h1]
       show some (if(decide ((if okT x.2.2.1=true then(0:Int)else 50)=0)&&_)=true then _ else _)=_
       cases okT x.2.2.1<;>rfl
      ·rw[if_neg (by simpa using h1),nx,decide_eq_false h1];rfl
   simp only[A.bo,A.ba]
   have main: ∀a:Bool,(if decide ((n.2.1=11∨n.2.1=16)∧x.1=n.1)=true then F.R17_CheckState_j2 (F.R17_CheckState_l3 n l f) n (k:Int) x a else F.R17_CheckState_j2 (F.R17_CheckState_l3 n l f) n (k:Int) x false)=some (if(entOk n x&&a&&stF n (some x) (l.drop (k+1)))=true then 0 else 171):=fun a=>by
    by_cases hc:(n.2.1=11∨n.2.1=16)∧x.1=n.1
    ·rw[if_pos (decide_eq_true hc),j2 a hc.1 hc.2]
    ·rw[if_neg (by simpa using hc)]
     have he:entOk n x=false:=by
      unfold entOk
      by_cases h0:x.1=n.1
      ·rw[if_neg (fun h=>h h0),if_neg (fun h=>hc ⟨.inl h,h0⟩),if_neg (fun h=>hc ⟨.inr h,h0⟩)]
      ·rw[if_pos h0]
     rw[he,F.R17_CheckState_j2]
     by_cases h11:n.2.1=11
     ·rw[if_pos h11,nx];rfl
     ·rw[if_neg h11,if_neg (by simp),nx];rfl
   by_cases hk0:k=0
   ·subst hk0
    have:=main true
    rw[Bool.and_true]at this
    refine Eq.trans ?_ this
    rfl
   ·have hp:prv l k=l[k-1]?:=by unfold prv;rw[if_neg hk0]
    obtain⟨p,hpp⟩: ∃p,l[k-1]?=some p:=⟨_,List.getElem?_eq_getElem (by omega)⟩
    rw[hp,hpp,if_neg (show ¬((k:Int)=0) by omega),A.gd1 ⟨by omega,by omega⟩,show(k:Int)-1=((k-1:Nat):Int) by omega,A.ixn hpp,Option.bind_some]
    show(if _ then(F.R17_ahead p x).bind _ else _)=_
    rw[R17_ahead_eq,Option.bind_some]
    exact main _)
  (by have:=FU_big;omega)
end Go.Proofs.YtbljnlkhebiniaaGreatDoor
end
section
set_option maxRecDepth 20000
set_option linter.unusedVariables false
set_option linter.unusedSimpArgs false
namespace Go.Proofs.YtbljnlkhebiniaaGreatDoor
open Go.RowKit Go.Graph Go.Utf Go.Ent Go.Opr
theorem batch_len (n:Nd)(port:Int)(t:Tm)(l:List Rc):(batchP n port t l).1.length≤4*l.length:=by
 have: ∀l:List Rc,(l.flatMap (eachP n.2.1 n.2.2.2.1)).length≤4*l.length:=by
  intro l
  induction l with
  |nil=>simp
  |cons x l ih=>rw[List.flatMap_cons,List.length_append,List.length_cons];have:=each_len n.2.1 n.2.2.2.1 x;omega
 unfold batchP
 split
 ·simp
 ·(split)
  ·simp
  ·(split)
   ·simp
   ·exact this l
theorem batch_ok {n:Nd}{port:Int}{t:Tm}{l:List Rc}:(batchP n port t l).2.2=0↔OkB n port t l∧(goesP n t).2.2=0:=by
 rw[←checkP_iff]
 unfold batchP
 constructor
 ·intro h
  split at h
  ·rename_i h1;exact absurd h h1
  ·rename_i h1
   split at h
   ·rename_i h2;exact absurd h h2
   ·rename_i h2;exact⟨Classical.byContradiction h1,Classical.byContradiction h2⟩
 ·rintro⟨h1,h2⟩
  rw[if_neg (fun h=>h h1),if_neg (fun h=>h h2)]
  split<;>rfl
end Go.Proofs.YtbljnlkhebiniaaGreatDoor
end
section
set_option maxRecDepth 20000
set_option linter.unusedVariables false
set_option linter.unusedSimpArgs false
namespace Go.Proofs.YtbljnlkhebiniaaGreatDoor
open Go.RowKit Go.Graph Go.Utf Go.Ent Go.Opr
theorem okT_flat {s:ByteArray}{cs:List Rn}(h:s.data.toList=flat cs)(hc: ∀c,c∈cs→Ck c)(hl:(flat cs).length≤64):okT s=true:=
 okT_iff.2 ⟨by rw[←size_list,h];exact hl,vld_of h hc⟩
theorem okT_baL {l cs:List Rn}(hc: ∀c,c∈cs→Ck c)(hs: ∀x,x∈l→x∈cs)(hl:(flat l).length≤64):okT (baL l)=true:=okT_flat (cs:=l) rfl (fun c h=>hc c (hs c h)) hl
theorem cut_ok {s:ByteArray}(hv:vld s s.size 0=true):okT (cut s)=true:=by
 obtain⟨hfl,hck⟩:=vld_cks hv
 obtain⟨k,h1,h2⟩:=bd_pre 64 (cks s.data.toList) 0 (Nat.zero_le _)
 have e:(cut s).data.toList=flat ((cks s.data.toList).take k):=by
  have:=ext_flat hfl 0 k
  rw[List.drop_zero]at this
  unfold cut
  rw[h1,Nat.zero_add]
  exact this
 exact okT_flat e (fun c hc=>hck c (List.mem_of_mem_take hc)) (by omega)
theorem plus_ok:vld (ByteArray.mk #[43]) 1 0=true:=by decide
theorem dg_ck: ∀(f n:Nat),∃cs:List Rn,dg f n=flat cs∧(∀c,c∈cs→Ck c)∧cs.length≤f∧(flat cs).length≤f
 |0,n=>⟨[],rfl,by simp,Nat.le_refl _,Nat.le_refl _⟩
 |f+1,n=>by
  have hb:(UInt8.ofNat (48+n%10)).toNat <128:=by
   have:(UInt8.ofNat (48+n%10)).toNat=(48+n%10)%256:=by simp
   omega
  unfold dg
  split
  ·exact⟨[([UInt8.ofNat (48+n%10)],((UInt8.ofNat (48+n%10)).toNat:Int))],rfl,fun c hc=>by rw[List.mem_singleton.1 hc];exact Ck.one hb,by simp,by simp⟩
  ·obtain⟨cs,h1,h2,h3,h4⟩:=dg_ck f (n / 10)
   refine⟨cs++[([UInt8.ofNat (48+n%10)],((UInt8.ofNat (48+n%10)).toNat:Int))],?_,fun c hc=>?_,by simp;omega,?_⟩
   ·rw[flat_append,←h1];rfl
   ·rcases List.mem_append.1 hc with hc|hc
    ·exact h2 c hc
    ·rw[List.mem_singleton.1 hc];exact Ck.one hb
   ·rw[flat_append,List.length_append];simp only[List.flatMap_cons,List.flatMap_nil,List.append_nil,List.length_cons,List.length_nil];omega
theorem dec_ok (n:Int):okT (dec n)=true:=by
 obtain⟨cs,h1,h2,h3,h4⟩:=dg_ck 20 n.toNat
 exact okT_flat (s:=dec n) (cs:=cs) h1 h2 (by omega)
abbrev OkL (l:List Rc):Prop:=∀r,r∈l→okT r.2=true
theorem pieces_ok {f:Fun}{r:Rc}(ho:okT r.2=true): ∀s,s∈piecesP f r→okT s=true:=by
 obtain⟨h64,hv⟩:=okT_iff.1 ho
 obtain⟨hfl,hck⟩:=vld_cks hv
 have tot:(flat (cks r.2.data.toList)).length=r.2.size:=by rw[hfl,size_list]
 intro s hs
 unfold piecesP at hs
 split at hs
 ·obtain⟨p,hp,rfl⟩:=List.mem_map.1 hs
  have h1:=wgo_fl _ hp
  have e0:(flat ([]:List Rn)).length=0:=rfl
  exact okT_baL hck (fun x hx=>(wgo_mem _ hp x hx).resolve_left (by simp)) (by omega)
 ·obtain⟨c,hc,rfl⟩:=List.mem_map.1 hs
  have h4:=(hck c hc).four
  exact okT_baL hck (fun x hx=>by rw[List.mem_singleton.1 hx];exact hc) (by simp;omega)
theorem each_ok {k:Int}{f:Fun}{r:Rc}(hf:chk k f=0)(ho:okT r.2=true):OkL (eachP k f r):=by
 intro q hq
 unfold eachP at hq
 split at hq
 ·rename_i h2
  rw[h2]at hf
  rw[List.mem_singleton.1 hq];exact mapK_ok hf ho
 ·split at hq
  ·split at hq
   ·rw[List.mem_singleton.1 hq];exact ho
   ·cases hq
  ·split at hq
   ·unfold splitP at hq
    obtain⟨s,hs,rfl⟩:=List.mem_map.1 hq
    exact pieces_ok ho s (List.mem_filter.1 (List.mem_of_mem_take hs)).1
   ·rw[List.mem_singleton.1 hq];exact ho
theorem batch_okL (n:Nd)(port:Int)(t:Tm)(l:List Rc):OkL (batchP n port t l).1:=by
 intro r hr
 unfold batchP at hr
 split at hr
 ·cases hr
 ·rename_i hc
  have ok:=checkP_iff.1 (Classical.byContradiction hc)
  split at hr
  ·cases hr
  ·split at hr
   ·cases hr
   ·obtain⟨x,hx,hrx⟩:=List.mem_flatMap.1 hr
    exact each_ok ok.fn (ok.txt x hx) r hrx
theorem redT_ok (k:Int): ∀{g:List Mn} {x:ByteArray},vld x x.size 0=true→(∀m,m∈g→okT m.1.2=true)→vld (redT k x g) (redT k x g).size 0=true
 | [],x,hx,_=>hx
 |m::g,x,hx,h=>by
  have hm:=(okT_iff.1 (h m (List.mem_cons_self ..))).2
  have h2:=fun m hm=>h m (List.mem_cons_of_mem _ hm)
  show vld (redT k (if k=34 then x++m.1.2 else if aheadP k m.1.2 x=true then m.1.2 else x) g) _ 0=true
  refine redT_ok k ?_ h2
  split
  ·exact(vld_app hx hm).1
  ·(split)
   ·exact hm
   ·exact hx
theorem outG_okL {kind:Int}{f:Opr.Fn}{a b:List Mn}(ha:Bag a)(hb:Bag b){kg:Int×List Mn}(hk:kg∈grp a):OkL (outG kind f b kg):=by
 intro r hr
 have hg:=grp_bag ha hk
 unfold outG at hr
 split at hr
 ·rw[List.mem_singleton.1 hr];exact dec_ok _
 ·split at hr
  ·rw[List.mem_singleton.1 hr]
   obtain⟨k,g⟩:=kg
   cases g with
   |nil=>exact absurd rfl (grp_all hk).1
   |cons m g=>
    exact cut_ok (redT_ok _ (okT_iff.1 (hg.txt m (List.mem_cons_self ..))).2 fun x hx=>hg.txt x (List.mem_cons_of_mem _ hx))
  ·unfold joinsG at hr
   obtain⟨p,hp,h2⟩:=List.mem_flatMap.1 hr
   obtain⟨q,hq,rfl⟩:=List.mem_map.1 h2
   have v1:=(okT_iff.1 (hg.txt p hp)).2
   have v2:=(okT_iff.1 (hb.txt q (List.mem_filter.1 hq).1)).2
   exact cut_ok (vld_app (vld_app v1 plus_ok).1 v2).1
theorem totS_okL {f:Opr.Fn}{id:Int}: ∀(gs:List (Int×List Mn)) {s:List Rc×List En},OkL s.1→OkL (gs.foldl (totS f id) s).1
 | [],_,h=>h
 |kg::gs,s,h=>totS_okL gs (s:=totS f id s kg) fun r hr=>by
  rcases List.mem_append.1 hr with hr|hr
  ·exact h r hr
  ·rw[List.mem_singleton.1 hr];exact dec_ok _
theorem frS_okL {id:Int}: ∀(a:List Mn) {s:List Rc×List En},(∀m,m∈a→okT m.1.2=true)→OkL s.1→OkL (a.foldl (frS id) s).1
 | [],_,_,h=>h
 |m::a,s,ha,h=>frS_okL a (s:=frS id s m) (fun m hm=>ha m (List.mem_cons_of_mem _ hm)) fun r hr=>by
  unfold frS at hr
  split at hr
  ·rcases List.mem_append.1 hr with hr|hr
   ·exact h r hr
   ·rw[List.mem_singleton.1 hr];exact ha m (List.mem_cons_self ..)
  ·exact h r hr
theorem tell_okL {n:Nd}{t:Tm}{a b:List Mn}{st:List En}(ok:Ok n t a b st):OkL (tellP n.2.1 n.2.2.2.1 n.1 a b st).1:=by
 intro r hr
 have hr:=((sc_ok _).2 r).1 hr
 unfold raw at hr
 split at hr
 ·obtain⟨kg,hk,h2⟩:=List.mem_flatMap.1 hr
  exact outG_okL ok.ba ok.bb hk r h2
 ·split at hr
  ·exact totS_okL (grp a) (s:=([],st)) (by simp) r hr
  ·exact frS_okL a (s:=([],st)) ok.ba.txt (by simp) r hr
theorem batch_err {n:Nd}{port:Int}{t:Tm}{l:List Rc}(h:(batchP n port t l).2.2≠0):(batchP n port t l).1=[]∧(batchP n port t l).2.1=t0:=by
 unfold batchP at h ⊢
 split
 ·exact⟨rfl,rfl⟩
 ·rename_i h1
  rw[if_neg h1]at h
  split
  ·exact⟨rfl,rfl⟩
  ·rename_i h2
   rw[if_neg h2]at h
   split at h<;>exact absurd rfl h
theorem operStays_plain {P Q:Prop}(n:Nd)(al:Tm×List Mn×List Mn×List En)(port:Int)(_:P)(h1:T32.ok al)(_:Q):F.L17_OperStays n al port=some true:=by
 obtain⟨t,a,b,st⟩:=al
 have hFU:=FU_big
 have la:a.length≤maxLen:=h1.2.1.1
 have lb:b.length≤maxLen:=h1.2.2.1.1
 have ls:st.length≤maxLen:=h1.2.2.2.1
 have hka: ∀m,m∈a→KeyR m.1:=fun m hm=>(h1.2.1.2 m hm).1
 have hks: ∀e,e∈st→KeyR (kr e):=fun e he=>⟨(h1.2.2.2.2 e he).2.1,(h1.2.2.2.2 e he).2.2.1⟩
 rw[F.L17_OperStays,live_eq,Option.bind_some,if_neg (by simp)]
 obtain⟨r,hr1,hr2⟩:=rare_ok [a,b] (by simp) (fun x hx=>by
  rcases List.mem_cons.1 hx with rfl|hx
  ·exact la
  ·obtain rfl:=List.mem_singleton.1 hx;exact lb)
 show(F.L17_rare [a,b]).bind _=_
 rw[hr1,Option.bind_some]
 cases r with
 |false=>rfl
 |true=>
  rw[if_neg (by simp)]
  obtain⟨th,ht1,ht2⟩:=thin_ok st ls
  show(F.L17_thin st).bind _=_
  rw[ht1,Option.bind_some]
  cases th with
  |false=>rfl
  |true=>
   have ha:=hr2 rfl a (by simp)
   have hb:=hr2 rfl b (by simp)
   have hst:=ht2 rfl
   show F.L17_OperStays_j5 n (t,a,b,st) port (decide ((300:Int)<(n.2.2.2.1.2.2.size:Int)))=_
   by_cases h300:(300:Int)<(n.2.2.2.1.2.2.size:Int)
   ·rw[decide_eq_true h300];rfl
   ·have hs:n.2.2.2.1.2.2.size≤1000:=by omega
    rw[decide_eq_false h300,F.L17_OperStays_j5,if_neg (by simp)]
    have loop:=A.lp a (fun f (s:List Rc) y=>F.L17_OperStays_l4 n (t,a,b,st) port f s y) (fun _ r s=>F.L17_OperStays_l4 n (t,a,b,st) port 1 (s++r.map (·.1)) (a.length:Int)) (fun k s=>s.length=k)
     (fun f s hp=>by
      show F.L17_OperStays_l4 n (t,a,b,st) port (f+1) s _=_
      rw[F.L17_OperStays_l4,F.L17_OperStays_l4,if_neg (by simp)]
      conv=>rhs;rw[if_neg (by simp)]
      simp)
     (fun f s k x hx hk hp ih=>by
      show F.L17_OperStays_l4 n (t,a,b,st) port (f+1) s _=_
      rw[F.L17_OperStays_l4,if_pos (by show(k:Int)<(a.length:Int);omega)]
      show(A.ix a (k:Int)).bind _=_
      rw[A.ixn hx,Option.bind_some,A.gd1 (by simp only[List.length_cons,List.length_nil];omega),A.gd1 ⟨by omega,by omega⟩]
      refine(ih (s++[x.1]) (by simp only[List.length_append,List.length_cons,List.length_nil];omega)).trans ?_
      simp)
     (by omega) [] rfl
    refine loop.trans ?_
    rw[F.L17_OperStays_l4,if_neg (by simp),List.nil_append]
    have ll:(a.map (·.1)).length≤40:=by rw[List.length_map];exact ha
    generalize a.map (·.1)=l at*
    show(F.oper_Batch n port t l).bind _=_
    rw[Batch_eq n port t l hs (by omega),Option.bind_some]
    show(F.oper_Tell n t a b st).bind _=_
    have hT:=Tell_eq n t a b st hs (by omega) (by omega) (by omega) hka hks
    obtain⟨V,hV⟩: ∃V,V=(if mayP n t a b st=0 then((tellP n.2.1 n.2.2.2.1 n.1 a b st).1,(tellP n.2.1 n.2.2.2.1 n.1 a b st).2,0)else([],[],mayP n t a b st):List Rc×List En×Int):=⟨_,rfl⟩
    rw[←hV]at hT
    rw[hT,Option.bind_some]
    obtain⟨B,hB⟩: ∃B,batchP n port t l=B:=⟨_,rfl⟩
    have bok:OkL B.1:=hB▸batch_okL n port t l
    have ble:B.1.length≤4*l.length:=hB▸batch_len n port t l
    have berr:B.2.2≠0→B.1=[]∧B.2.1=t0:=fun h=>hB▸batch_err (hB▸h)
    have vok:OkL V.1∧V.1.length≤1000000∧(V.2.2≠0→V.1=[]∧V.2.1=[])∧(V.2.2=0→stP n V.2.1=true∧V.2.1.length≤1000∧holdsP n.2.1=true):=by
     rw[hV]
     by_cases hm:mayP n t a b st=0
     ·have ok:=mayP_iff.1 hm
      rw[if_pos hm]
      have tl:(tellP n.2.1 n.2.2.2.1 n.1 a b st).1.length≤1000000:=by
       have scl: ∀l acc:List Rc,(l.foldl (fun a r=>Opr.ins id r a) acc).length≤acc.length+l.length:=by
        intro l
        induction l with
        |nil=>intro acc;exact Nat.le_refl _
        |cons x l ih=>
         intro acc
         have h1:=ih (Opr.ins id x acc)
         have h2:=ins_len (k:=id) (e:=x) acc
         rw[List.foldl_cons,List.length_cons];omega
       have h2:=scl (raw n.2.1 n.2.2.2.1 n.1 a b st).1 []
       have gl:=grp_len a
       have gf:=grp_flat a
       refine Nat.le_trans h2 ?_
       rw[List.length_nil,Nat.zero_add]
       unfold raw
       split
       ·have:=outG_len (kind:=n.2.1) (f:=n.2.2.2.1) (b:=b) (by omega) (grp a)
        rw[gf]at this
        show((grp a).flatMap (outG n.2.1 n.2.2.2.1 b)).length≤1000000
        omega
       ·(split)
        ·rw[(totS_len n.2.2.2.1 n.1 (grp a) ([],st)).1];simp;omega
        ·have h1:(a.foldl (frS n.1) ([],st)).1.length≤0+a.length:=(frS_len n.1 a ([],st)).1
         omega
      have sl:=st_len (n:=n) (a:=a) (b:=b) (st:=st)
      exact⟨tell_okL ok,tl,fun h=>absurd rfl h,fun _=>⟨st_behind ok,by show(tellP n.2.1 n.2.2.2.1 n.1 a b st).2.length≤_;omega,ok.holds⟩⟩
     ·rw[if_neg hm]
      exact⟨by simp,by simp,fun _=>⟨rfl,rfl⟩,fun h=>absurd h hm⟩
    obtain⟨v1,v2,v3,v4⟩:=vok
    rw[hB]
    have not2: ¬(B.2.2=0∧V.2.2=0):=fun h=>by
     have h2:=(v4 h.2).2.2
     have h3:=(batch_ok.1 (hB▸h.1:(batchP n port t l).2.2=0)).1.holds
     rw[h2]at h3;cases h3
    have j3:F.L17_OperStays_j3 n B V false=some true:=by
     rw[F.L17_OperStays_j3,if_neg (by simp),F.slices_Clone_api_Rec_api_Rec,A.gd1 (by simp only[List.length_nil];omega),Option.bind_some,List.nil_append,A.gd1 (by omega)]
     have fin: ∀f,F.L17_OperStays_l2 n V B.1 (f+1) ((B.1++V.1).length:Int)=some true:=fun f=>by
      rw[F.L17_OperStays_l2,if_neg (by omega)]
      by_cases h0:V.2.2=0
      ·rw[if_neg (fun h=>h h0)]
       obtain⟨s1,s2,_⟩:=v4 h0
       show(F.R17_CheckState n V.2.1).bind _=_
       rw[R17_CheckState_eq n V.2.1 (by omega),Option.bind_some,s1];rfl
      ·rw[if_pos h0];rfl
     have all:OkL (B.1++V.1):=fun r hr=>(List.mem_append.1 hr).elim (bok r) (v1 r)
     have hlen:(B.1++V.1).length≤1001000:=by rw[List.length_append];omega
     obtain⟨W,hW⟩: ∃W,W=B.1++V.1:=⟨_,rfl⟩
     rw[←hW]at fin all hlen
     have main: ∀(q k f:Nat),k+q=W.length→q<f→F.L17_OperStays_l2 n V B.1 f (k:Int)=some true:=by
      intro q
      induction q with
      |zero=>
       intro k f hk hf
       obtain⟨f,rfl⟩: ∃f',f=f'+1:=⟨f-1,by omega⟩
       obtain rfl:k=W.length:=by omega
       exact fin f
      |succ q ih=>
       intro k f hk hf
       obtain⟨f,rfl⟩: ∃f',f=f'+1:=⟨f-1,by omega⟩
       obtain⟨x,hx⟩: ∃x,W[k]?=some x:=⟨_,List.getElem?_eq_getElem (by omega)⟩
       rw[F.L17_OperStays_l2,←hW,if_pos (by omega),A.ixn hx,Option.bind_some]
       show(F.R05_Check x).bind _=_
       rw[R05_Check_eq,Option.bind_some,all x (List.mem_of_getElem? hx),if_pos rfl,if_neg (by simp),A.gd1 ⟨by omega,by omega⟩,show(k:Int)+1=((k+1:Nat):Int) by omega]
       exact ih (k+1) f (by omega) (by omega)
     exact main W.length 0 A.FU (by omega) (by omega)
    have c1: ¬((bif decide (B.2.2=0)then decide (V.2.2=0)else false)=true):=by
     rw[A.ba,decide_eq_true_eq];exact not2
    rw[if_neg c1]
    by_cases hb0:B.2.2=0
    ·rw[if_neg (fun h=>h hb0)]
     have hv0:V.2.2≠0:=fun h=>not2 ⟨hb0,h⟩
     obtain⟨e1,e2⟩:=v3 hv0
     rw[if_pos hv0,e1,e2]
     exact j3
    ·obtain⟨e1,e2⟩:=berr hb0
     rw[if_pos hb0,if_neg (by rw[e1];simp)]
     have e3: ¬((B.2.1.1,B.2.1.2.1,(B.2.1.2.2.1,B.2.1.2.2.2.1,B.2.1.2.2.2.2.1,B.2.1.2.2.2.2.2))≠((0,0,(0,0,0,0)):Tm)):=fun h=>h (by rw[e2])
     rw[if_neg e3]
     by_cases hv0:V.2.2=0
     ·rw[if_neg (fun h=>h hv0)];exact j3
     ·obtain⟨e4,e5⟩:=v3 hv0
      rw[if_pos hv0,e4,e5]
      exact j3
end Go.Proofs.YtbljnlkhebiniaaGreatDoor
end
section
set_option linter.unusedVariables false
namespace Go.A
open Go.RowKit Go.Z Go.Proofs Go.Lib
theorem Hall.tabs3 {w:World}{g3 g4 g i j k:Nat}{m:Int}(h:Lib.Utf8Tabs g3 g4 w)(hm:w.cell? ⟨g,0,none⟩=some (.int .i64 m)):Hall w [(i,.el none g3 0 tabF),(j,.el none g4 0 tabA),(k,.el none g 0 [.int .i64 m])]:=by
 obtain⟨h1,h2,_⟩:=Hall.tabs (i:=i) (j:=j) h
 have hc:Cells w ⟨g,0,none⟩ [.int .i64 m]:=by
  intro x v hv
  cases x with
  |zero=>cases hv;rw[Addr.add_lit];exact hm
  |succ x=>cases hv
 exact⟨h1,h2,⟨rfl,rfl,hc,World.block_lt_of_cell? w _ hm,fun _ h=>h⟩,trivial⟩
theorem handS {H:Type}{enc:TypeId×Value→H}{C:Checked}{os:Os}{f:FuncId}{fn:Func}{s:ChangeSpec}{conds:List PathCond}{apart fresh handsOn again:Bool}{X:World→Array Value→Prop}
  (hX: ∀(w w':World) (args:Array Value),w.heap=w'.heap→X w args→X w' args) (own:ownKnob C.prog.godebug=none) (started:os.Started) (noInit:C.prog.inits.idxOf? f=none) (hfn:C.prog.funcs[f]?=some fn)
  (witness: ∃(w:World) (tape:Tape) (i:Input),w.os=os∧(w.forCall tape i).Shaped C.prog∧i.vars=[]∧Input.okWide C.prog (w.forCall tape i) .any w.heap.size f i∧((s.pre enc C.prog fn conds apart (w.forCall tape i).memory i.args∧X (w.forCall tape i).memory i.args)∧sizedMet enc C.prog fn (OpenSpec.ofChange s) apart (w.forCall tape i).memory i.args)∧({}:Assume).holds C.prog (lone (Frame.enter C.prog f i.args .normal) [] (w.forCall tape i)))
  (k: ∀(W:World) (base:Nat) (args:Array Value) (ds gs:List (DataW H)) (before:List MemPlace),
   (∀(j:Nat) t v,fn.params[j]?=some t→args[j]?=some v→Value.okWide C.prog W .any base t v)→DataW.Whole enc C.prog fn.params.toList s.vars apart W args.toList ds gs before→X W args→W.ShapedOpen C.prog→
   Calls C.prog f args W fun e W'=>∃v,e=.returned v∧s.post enc C.prog fn apart fresh handsOn again W args v W'):
  ReturnsInHanded {} C os f .any (fun w args=>(s.pre enc C.prog fn conds apart w args∧X w args)∧sizedMet enc C.prog fn (OpenSpec.ofChange s) apart w args) (s.post enc C.prog fn apart fresh handsOn again):=
 returnsInHanded_of_calls own started noInit witness fun w tape i _ hsh _ hok hpre _=>by
  obtain⟨_,_,_,g,hg,_,_,_,_,hv⟩:=hok
  obtain rfl:g=fn:=Option.some.inj (hg.symm.trans hfn)
  obtain⟨⟨⟨ds,gs,bf,hw,hc⟩,hx⟩,_⟩:=hpre
  refine(k (w.forCall tape i) w.heap.size i.args ds gs bf hv (DataW.Whole.of_heap (w':=w.forCall tape i) (by rfl) hw) (hX _ _ _ (by rfl) hx) hsh).mono ?_
  rintro e W' ⟨v,rfl,hp⟩
  exact ChangeSpec.post_blind hp
end Go.A
end
section
namespace Go.Z
open Go.RowKit
def OpenT (P:Program)(T:TypeId)(t:Ty):Prop:=
 P.cellsOf T=t.size∧∀(H:Type) (enc:TypeId×Value→H) (w:World) (base:Nat) (spare:Nat→Bool) (held:Bool) (fuel:Nat) (cs:List Value) (x:DataW H×List MemPlace),
  DataW.trod enc P w base spare held fuel T cs=some x→∃y:t.den,t.rep w (nt []) cs y
section
variable {P:Program}{T e:TypeId}
theorem ot_int {k:IntKind}(hc:P.cellsOf T=1)(ht:P.underlying T=some (.int k)):OpenT P T (.int k):=⟨hc,fun H enc w base spare held fuel cs x h=>by
 obtain⟨n,rfl,_,hw⟩:=DataW.trod_int ht h
 refine⟨n,rfl,?_⟩
 simp only[Lit.wf,Bool.and_eq_true,decide_eq_true_eq]at hw
 exact hw⟩
theorem ot_str (hc:P.cellsOf T=1)(ht:P.underlying T=some .string):OpenT P T .str:=⟨hc,fun H enc w base spare held fuel cs x h=>by
 obtain⟨s,rfl,_,hs⟩:=DataW.trod_string ht h
 exact⟨s,rfl,hs⟩⟩
def OpenPs (P:Program):List (TypeId×Nat)→Nat→Ty→Prop
 | [],_,_=>False
 | [(T,o')],o,t=>o'=o∧OpenT P T t
 |(T,o')::p::ps,o,.pair a b=>o'=o∧OpenT P T a∧OpenPs P (p::ps) (o+a.size) b
 |_::_::_,_,_=>False
theorem open_ps {H:Type}{enc:TypeId×Value→H}{w:World}{base:Nat}{spare:Nat→Bool}{held:Bool}{fuel:Nat}{cs:List Value}:
  ∀(ps:List (TypeId×Nat)) (o:Nat) (t:Ty),OpenPs P ps o t→(∀p∈ps,∃x,DataW.trod enc P w base spare held fuel p.1 ((cs.drop p.2).take (P.cellsOf p.1))=some x)→∃y:t.den,t.rep w (nt []) ((cs.drop o).take t.size) y
 | [],_,_,h,_=>h.elim
 | [(T,o')],o,t,h,hx=>by
  obtain⟨rfl,⟨hc,ho⟩⟩:=h
  obtain⟨x,hx⟩:=hx (T,o') (List.mem_singleton.2 rfl)
  rw[←hc];exact ho _ _ _ _ _ _ _ _ _ hx
 |(T,o')::p::ps,o,.pair a b,h,hx=>by
  obtain⟨rfl,⟨hc,ho⟩,hr⟩:=h
  obtain⟨x,h1⟩:=hx (T,o') (List.mem_cons_self ..)
  obtain⟨ya,hya⟩:=ho _ _ _ _ _ _ _ _ _ h1
  obtain⟨yb,hyb⟩:=open_ps (p::ps) _ b hr fun q hq=>hx q (List.mem_cons_of_mem _ hq)
  refine⟨(ya,yb),_,_,?_,hya,hyb⟩
  show(cs.drop o').take (a.size+b.size)=_
  rw[hc,List.take_add,List.drop_drop]
 |_::_::_,_,.int _,h,_=>h.elim
 |_::_::_,_,.byte,h,_=>h.elim
 |_::_::_,_,.bool,h,_=>h.elim
 |_::_::_,_,.str,h,_=>h.elim
 |_::_::_,_,.slice _,h,_=>h.elim
theorem ot_struct {fs:List Field}{t:Ty}(hc:P.cellsOf T=t.size)(ht:P.underlying T=some (.struct fs.toArray))(h:OpenPs P (fs.map fun f=>(f.type,f.offset)) 0 t):OpenT P T t:=⟨hc,fun H enc w base spare held fuel cs x hx=>by
 obtain⟨xs,n,_,_,hl,hs,hf⟩:=DataW.trod_struct ht hx
 have hcs:cs=(cs.drop 0).take t.size:=by rw[List.drop_zero,List.take_of_length_le (by omega)]
 rw[hcs]
 refine open_ps (fuel:=n) (enc:=enc) (base:=base) (spare:=spare) (held:=held) _ 0 t h fun p hp=>?_
 obtain⟨f,hf1,rfl⟩:=List.mem_map.1 hp
 obtain⟨i,hi,he⟩:=List.getElem_of_mem hf1
 have h1:=hf i f (by rw[List.getElem?_toArray,List.getElem?_eq_getElem hi,he])
 rw[h1,List.getElem?_eq_getElem (by rw[hs];simpa using hi)]
 exact⟨_,rfl⟩⟩
theorem ot_array {n c:Nat}{t:Ty}(hc:P.cellsOf T=t.size)(ht:P.underlying T=some (.array n e))(he:P.cellsOf e=c)(h:OpenPs P ((List.range n).map fun i=>(e,i*c)) 0 t):OpenT P T t:=⟨hc,fun H enc w base spare held fuel cs x hx=>by
 subst he
 obtain⟨xs,m,_,_,hl,hs,hf⟩:=DataW.trod_array ht hx
 have hcs:cs=(cs.drop 0).take t.size:=by rw[List.drop_zero,List.take_of_length_le (by omega)]
 rw[hcs]
 refine open_ps (fuel:=m) (enc:=enc) (base:=base) (spare:=spare) (held:=held) _ 0 t h fun p hp=>?_
 obtain⟨i,hi,rfl⟩:=List.mem_map.1 hp
 have hi':=List.mem_range.1 hi
 rw[hf i hi',List.getElem?_eq_getElem (by omega)]
 exact⟨_,rfl⟩⟩
theorem rows_of {t:Ty}{w:World}{g:Addr}: ∀(n:Nat),(∀i,i<n→∃(cs:List Value) (y:t.den),cs.length=t.size∧(∀j u,cs[j]?=some u→w.cell? (g.add (i*t.size+j))=some u)∧t.rep w (nt []) cs y)→
  ∃(cells:List Value) (ys:List t.den),ys.length=n∧cells.length=n*t.size∧(∀j u,cells[j]?=some u→w.cell? (g.add j)=some u)∧∀(i:Nat) (y:t.den),ys[i]?=some y→t.rep w (nt []) ((cells.drop (i*t.size)).take t.size) y
 |0,_=>⟨[],[],rfl,by simp,by simp,by simp⟩
 |n+1,h=>by
  obtain⟨cells,ys,h1,h2,h3,h4⟩:=rows_of n fun i hi=>h i (by omega)
  obtain⟨cs,y,c1,c2,c3⟩:=h n (by omega)
  refine⟨cells++cs,ys++[y],by simp[h1],by rw[List.length_append,h2,c1,Nat.succ_mul],fun j u hj=>?_,?_⟩
  ·by_cases hlt:j<cells.length
   ·rw[List.getElem?_append_left hlt]at hj;exact h3 j u hj
   ·rw[List.getElem?_append_right (by omega)]at hj
    have:=c2 _ u hj
    rwa[h2,show n*t.size+(j-n*t.size)=j by omega]at this
  ·refine rep_append (xs:=ys) (ys:=[y]) (by rw[h2,h1]) h4 fun i y' hi=>?_
   have:i=0:=by have:=(List.getElem?_eq_some_iff.1 hi).1;simp at this;omega
   subst this
   simp at hi;subst hi
   rw[Nat.zero_mul,List.drop_zero,List.take_of_length_le (by omega)];exact c3
theorem ot_slice {t:Ty}(hc:P.cellsOf T=1)(ht:P.underlying T=some (.slice e))(h:OpenT P e t):OpenT P T (.slice t):=⟨hc,fun H enc w base spare held fuel cs x hx=>by
 rcases DataW.trod_slice ht hx with⟨rfl,_⟩|⟨ad,len,cap,elems,rest,n,_,rfl,_,hb,hl,hm,hlen,hel,_,_⟩
 ·exact⟨[],rep_nil _⟩
 ·have each: ∀i,i<len→∃(cs:List Value) (y:t.den),cs.length=t.size∧(∀j u,cs[j]?=some u→w.cell? (ad.add (i*t.size+j))=some u)∧t.rep w (nt []) cs y:=fun i hi=>by
   have h1:=hel i hi
   rw[List.getElem?_eq_getElem (by omega),Option.bind_eq_some_iff]at h1
   obtain⟨cs',h2,h3⟩:=h1
   obtain⟨_,h4,h5⟩:=World.cells?_some h2
   obtain⟨y,hy⟩:=h.2 _ _ _ _ _ _ _ _ _ h3
   rw[h.1]at h4 h5
   refine⟨cs',y,h4,fun j u hj=>?_,hy⟩
   have hlt:=(List.getElem?_eq_some_iff.1 hj).1
   have:=h5 j (by omega)
   rw[add_add]at this
   rw[this,hj]
  obtain⟨cells,ys,h1,h2,h3,h4⟩:=rows_of len each
  by_cases hz:len=0
  ·subst hz
   have:ys=[]:=List.eq_nil_of_length_eq_zero h1
   subst this
   exact⟨[],some ad,cap,[],rfl,by simp,hm,by simp,.inl rfl,by simp⟩
  ·have hp:=pos_size t
   have hlt:0<cells.length:=by rw[h2];exact Nat.mul_pos (by omega) hp
   have h0:=h3 0 _ (List.getElem?_eq_getElem hlt)
   have hspot:=World.cell?_spot h0
   obtain⟨b,off,spot⟩:=ad
   simp only[Addr.add]at hspot
   subst hspot
   refine⟨ys,some ⟨b,off,none⟩,cap,cells,by rw[h1],by omega,hm,by rw[h1];exact h2,.inr ⟨b,off,rfl,by simp[nt],fun j u hj=>?_⟩,h4⟩
   have:=h3 j u hj
   rwa[Addr.add_lit]at this⟩
end
end Go.Z
end
section
namespace Go.Proofs.YtbljnlkhebiniaaGreatDoor.operStaysDone
open Go.ChangeShapes Go.WideShapes Go.ChangeAt Go.RowKit
set_option linter.unusedVariables false
theorem own:ownKnob Tryz.prog.godebug=none:=by kernel_rfl
theorem laidOut:laidOutB Tryz.prog=true:=by kernel_rfl
theorem ot3:Z.OpenT Tryz.prog 3 (Z.Ty.int .i64):=Z.ot_int (by kernel_rfl) Tryz.underlying3
theorem ot22:Z.OpenT Tryz.prog 22 (Z.Ty.slice (Z.Ty.int .i64)):=Z.ot_slice (by kernel_rfl) Tryz.underlying22 ot3
theorem ot2:Z.OpenT Tryz.prog 2 (Z.Ty.int .i64):=Z.ot_int (by kernel_rfl) Tryz.underlying2
theorem ot9:Z.OpenT Tryz.prog 9 Z.Ty.str:=Z.ot_str (by kernel_rfl) Tryz.underlying9
theorem ot24:Z.OpenT Tryz.prog 24 T23:=Z.ot_struct (by kernel_rfl) Tryz.underlying24 ⟨rfl,ot3,rfl,ot2,rfl,ot9⟩
theorem ot26:Z.OpenT Tryz.prog 26 T25:=Z.ot_struct (by kernel_rfl) Tryz.underlying26 ⟨rfl,ot3,rfl,ot3,rfl,ot22,rfl,ot24,rfl,ot9,rfl,ot2,rfl,ot3⟩
theorem ot27:Z.OpenT Tryz.prog 27 T27:=Z.ot_array (c:=1) (by kernel_rfl) Tryz.underlying27 (by kernel_rfl) (show Z.OpenPs _ [(2,0),(2,1),(2,2),(2,3)] 0 _ from⟨rfl,ot2,rfl,ot2,rfl,ot2,rfl,ot2⟩)
theorem ot29:Z.OpenT Tryz.prog 29 T28:=Z.ot_struct (by kernel_rfl) Tryz.underlying29 ⟨rfl,ot2,rfl,ot3,rfl,ot27⟩
theorem ot44:Z.OpenT Tryz.prog 44 T43:=Z.ot_struct (by kernel_rfl) Tryz.underlying44 ⟨rfl,ot2,rfl,ot9⟩
theorem ot70:Z.OpenT Tryz.prog 70 T69:=Z.ot_struct (by kernel_rfl) Tryz.underlying70 ⟨rfl,ot44,rfl,ot2⟩
theorem ot30:Z.OpenT Tryz.prog 30 (Z.Ty.slice T69):=Z.ot_slice (by kernel_rfl) Tryz.underlying30 ot70
theorem ot47:Z.OpenT Tryz.prog 47 T46:=Z.ot_struct (by kernel_rfl) Tryz.underlying47 ⟨rfl,ot3,rfl,ot2,rfl,ot9,rfl,ot2⟩
theorem ot31:Z.OpenT Tryz.prog 31 (Z.Ty.slice T46):=Z.ot_slice (by kernel_rfl) Tryz.underlying31 ot47
theorem ot33:Z.OpenT Tryz.prog 33 T32:=Z.ot_struct (by kernel_rfl) Tryz.underlying33 ⟨rfl,ot29,rfl,ot30,rfl,ot30,rfl,ot31⟩
set_option maxRecDepth 100000 in
theorem laid_met (os:Os)(args:Array Value):laidMetH Tryz.prog Rows.operStaysRow.laid (({World.holding Tryz.prog os ⟨#[],#[],[]⟩with heap:=((World.holding Tryz.prog os ⟨#[],#[],[]⟩).heap.modify 1 (A.putCells A.tabF)).modify 2 (A.putCells A.tabA)}:World).forCall (fun _ _=>0) ⟨#[],args,[]⟩).memory:=by
 rw[MakeChecks.laidMetH_plain _ _ _ (by kernel_rfl)]
 exact(LaidIn.of_run (l:=Rows.operStaysRow.laid) [2,1] 8 (by kernel_rfl) (by kernel_rfl) (by kernel_rfl) (by kernel_rfl)).met
theorem of_laid {W:World}(h:laidMetH Tryz.prog Rows.operStaysRow.laid W):Lib.Utf8Tabs 1 2 W:=by
 rw[MakeChecks.laidMetH_plain _ _ _ (by kernel_rfl)]at h
 have h1:=Lib.laidMet.reads h (.tail _ (.head _))
 rw[show Rows.laid_unicode_utf8_first=Lib.firstData from Pinned.utf8First_eq]at h1
 have h2:=Lib.laidMet.reads h (.head _)
 rw[show(Rows.laid_unicode_utf8_acceptRanges:DataW Unit)=Lib.acceptData by kernel_rfl]at h2
 exact utf8Tabs_of_readsT (U8Types.of196 Tryz.laysValid) ⟨by kernel_rfl,by kernel_rfl,by kernel_rfl,by kernel_rfl,by kernel_rfl,by kernel_rfl,by kernel_rfl⟩ h1 h2
set_option maxHeartbeats 1000000 in
set_option maxRecDepth 100000 in
theorem lifted (os:Os)(started:os.Started)(H:Type)(enc:TypeId×Value→H):
  ReturnsInHanded {} Tryz.checked os 6 .any (fun w args=>(Rows.operStaysSpec.pre enc Tryz.prog Tryz.f6 [] false w args∧laidMetH Tryz.prog Rows.operStaysRow.laid w)∧sizedMet enc Tryz.prog Tryz.f6 (OpenSpec.ofChange Rows.operStaysSpec) false w args) (Rows.operStaysSpec.post enc Tryz.prog Tryz.f6 false true false false):=by
 refine A.handS (C:=Tryz.checked) (X:=fun w _=>laidMetH Tryz.prog Rows.operStaysRow.laid w) (fun _ _ _ hh h=>h.of_heap hh) own started (by kernel_rfl) Tryz.func6
  (ChangeSpec.witness_shaped (enc:=enc) (C:=Tryz.checked) (os:=os) (X:=fun w _=>laidMetH Tryz.prog Rows.operStaysRow.laid w) false ({World.holding Tryz.prog os ⟨#[],#[],[]⟩with heap:=((World.holding Tryz.prog os ⟨#[],#[],[]⟩).heap.modify 1 (A.putCells A.tabF)).modify 2 (A.putCells A.tabA)}) #[.agg #[.int .i64 0,.int .i64 0,.slice none 0 0,.int .i64 0,.int .i64 0,.string (ByteArray.mk #[]),.string (ByteArray.mk #[]),.int .i64 0,.int .i64 0],.agg #[.int .i64 0,.int .i64 0,.int .i64 0,.int .i64 0,.int .i64 0,.int .i64 0,.slice none 0 0,.slice none 0 0,.slice none 0 0],.int .i64 0] 16 rfl (World.shaped_of_RefB (by kernel_rfl) (by kernel_rfl)) (by kernel_rfl) (by kernel_rfl) (by kernel_rfl) (laid_met os _)) ?_
 intro W base args ds gs before hval0 hW hL hsh
 obtain⟨mx,hmx⟩: ∃m,W.cell? ⟨0,0,none⟩=some (.int .i64 m):=cell_of_shapedOpen_int (t:=3) (zero:=#[.int .i64 0]) hsh (of_decide_eq_true (by kernel_rfl)) (by kernel_rfl) (by kernel_rfl) (by kernel_rfl) (by kernel_rfl) Tryz.underlying3
 have hval: ∀(j:Nat) t v,Tryz.f6.params[j]?=some t→args[j]?=some v→Value.okWide Tryz.prog W .any base t v:=hval0
 have hW':=hW
 obtain⟨p,q,hA0,hV,rfl,hfz,hnd⟩:=hW
 have hA:DataW.TrodAll enc Tryz.prog W 0 (fun _=>true) true Tryz.f6.params.toList args.toList ds p:=hA0
 rw[Tryz.params6]at hA hval
 obtain⟨v0,vs0,d0,ds0,p0,q0,hargs,rfl,rfl,h0,r0⟩:=trodAll_cons hA
 obtain⟨v1,vs1,d1,ds1,p1,q1,rfl,rfl,rfl,h1,r1⟩:=trodAll_cons r0
 obtain⟨v2,vs2,d2,ds2,p2,q2,rfl,rfl,rfl,h2,r2⟩:=trodAll_cons r1
 obtain⟨rfl,rfl,rfl⟩:=trodAll_nil r2
 obtain rfl:args=#[v0,v1,v2]:=by cases args;simp_all
 obtain⟨rfl,rfl⟩:=trodVars_none hV
 have k0:=h0
 have lt0: ∀x∈p0,x.block<W.heap.size:=by obtain⟨m,hm⟩:=k0;exact DataW.trod_lt m _ _ _ hm
 obtain⟨fu0,hf0⟩:=h0
 obtain⟨x0,hx0⟩:=ot26.2 _ _ _ _ _ _ _ _ _ hf0
 obtain⟨cs0,rfl,_⟩:=okWide_struct Tryz.underlying26 (hval 0 26 v0 rfl rfl)
 replace hx0:T25.rep W (Z.nt []) cs0.toList x0:=hx0
 have hok0:=Z.rep_ok _ hx0
 obtain⟨ca1,cb2,he3,hr4,hr5⟩:=hx0
 have he6:=hr4.1
 obtain⟨ca7,cb8,he9,hr10,hr11⟩:=hr5
 have he12:=hr10.1
 obtain⟨ca13,cb14,he15,hr16,hr17⟩:=hr11
 obtain⟨A18,c19,he20,hn21,hn22⟩:=Z.rep_slice hr16
 rw[he20]at hr16
 have hle_A18:=Z.rep_le hr16
 obtain⟨ca23,cb24,he25,hr26,hr27⟩:=hr17
 obtain⟨ca28,cb29,he30,hr31,hr32⟩:=hr26
 have he33:=hr31.1
 obtain⟨ca34,cb35,he36,hr37,hr38⟩:=hr32
 have he39:=hr37.1
 have he40:=hr38.1
 obtain⟨ca41,cb42,he43,hr44,hr45⟩:=hr27
 have he46:=hr44.1
 obtain⟨ca47,cb48,he49,hr50,hr51⟩:=hr45
 have he52:=hr50.1
 have he53:=hr51.1
 have he0:cs0.toList=[.int .i64 x0.1,.int .i64 x0.2.1,.slice A18 x0.2.2.1.length c19,.int .i64 x0.2.2.2.1.1,.int .i64 x0.2.2.2.1.2.1,.string x0.2.2.2.1.2.2,.string x0.2.2.2.2.1,.int .i64 x0.2.2.2.2.2.1,.int .i64 x0.2.2.2.2.2.2]:=by simp only[he3,he6,he9,he12,he15,he20,he25,he30,he33,he36,he39,he40,he43,he46,he49,he52,he53,List.cons_append,List.nil_append]
 obtain rfl:cs0=#[.int .i64 x0.1,.int .i64 x0.2.1,.slice A18 x0.2.2.1.length c19,.int .i64 x0.2.2.2.1.1,.int .i64 x0.2.2.2.1.2.1,.string x0.2.2.2.1.2.2,.string x0.2.2.2.2.1,.int .i64 x0.2.2.2.2.2.1,.int .i64 x0.2.2.2.2.2.2]:=by rw[←Array.toArray_toList (xs:=cs0),he0]
 have k1:=h1
 have lt1: ∀x∈p1,x.block<W.heap.size:=by obtain⟨m,hm⟩:=k1;exact DataW.trod_lt m _ _ _ hm
 obtain⟨fu1,hf1⟩:=h1
 obtain⟨x1,hx1⟩:=ot33.2 _ _ _ _ _ _ _ _ _ hf1
 obtain⟨cs1,rfl,_⟩:=okWide_struct Tryz.underlying33 (hval 1 33 v1 rfl rfl)
 replace hx1:T32.rep W (Z.nt []) cs1.toList x1:=hx1
 have hok1:=Z.rep_ok _ hx1
 obtain⟨ca54,cb55,he56,hr57,hr58⟩:=hx1
 obtain⟨ca59,cb60,he61,hr62,hr63⟩:=hr57
 have he64:=hr62.1
 obtain⟨ca65,cb66,he67,hr68,hr69⟩:=hr63
 have he70:=hr68.1
 obtain⟨ca71,cb72,he73,hr74,hr75⟩:=hr69
 have he76:=hr74.1
 obtain⟨ca77,cb78,he79,hr80,hr81⟩:=hr75
 have he82:=hr80.1
 obtain⟨ca83,cb84,he85,hr86,hr87⟩:=hr81
 have he88:=hr86.1
 have he89:=hr87.1
 obtain⟨ca90,cb91,he92,hr93,hr94⟩:=hr58
 obtain⟨A95,c96,he97,hn98,hn99⟩:=Z.rep_slice hr93
 rw[he97]at hr93
 have hle_A95:=Z.rep_le hr93
 obtain⟨ca100,cb101,he102,hr103,hr104⟩:=hr94
 obtain⟨A105,c106,he107,hn108,hn109⟩:=Z.rep_slice hr103
 rw[he107]at hr103
 have hle_A105:=Z.rep_le hr103
 obtain⟨A110,c111,he112,hn113,hn114⟩:=Z.rep_slice hr104
 rw[he112]at hr104
 have hle_A110:=Z.rep_le hr104
 have he1:cs1.toList=[.int .i64 x1.1.1,.int .i64 x1.1.2.1,.int .i64 x1.1.2.2.1,.int .i64 x1.1.2.2.2.1,.int .i64 x1.1.2.2.2.2.1,.int .i64 x1.1.2.2.2.2.2,.slice A95 x1.2.1.length c96,.slice A105 x1.2.2.1.length c106,.slice A110 x1.2.2.2.length c111]:=by simp only[he56,he61,he64,he67,he70,he73,he76,he79,he82,he85,he88,he89,he92,he97,he102,he107,he112,List.cons_append,List.nil_append]
 obtain rfl:cs1=#[.int .i64 x1.1.1,.int .i64 x1.1.2.1,.int .i64 x1.1.2.2.1,.int .i64 x1.1.2.2.2.1,.int .i64 x1.1.2.2.2.2.1,.int .i64 x1.1.2.2.2.2.2,.slice A95 x1.2.1.length c96,.slice A105 x1.2.2.1.length c106,.slice A110 x1.2.2.2.length c111]:=by rw[←Array.toArray_toList (xs:=cs1),he1]
 have k2:=h2
 have lt2: ∀x∈p2,x.block<W.heap.size:=by obtain⟨m,hm⟩:=k2;exact DataW.trod_lt m _ _ _ hm
 obtain⟨fu2,hf2⟩:=h2
 obtain⟨x2,hx2⟩:=ot3.2 _ _ _ _ _ _ _ _ _ hf2
 obtain⟨u2,rfl⟩:=okWide_int Tryz.underlying3 (hval 2 3 v2 rfl rfl)
 have he2:=hx2.1
 replace he2:u2=x2:=by simpa[Value.cells] using he2
 subst he2
 have hok2:=hx2.2
 clear hA0 hval0
 have htab:=of_laid hL
 have hF:F.L17_OperStays x0 x1 u2=some true:=operStays_plain x0 x1 u2 hok0 hok1 hok2
 have hct:=L17_OperStays_ok x0 x1 u2 A18 c19 A95 c96 A105 c106 A110 c111 mx hok0.1 hok0.2.1 hok0.2.2.2.1.1 hok0.2.2.2.1.2.1 hok0.2.2.2.1.2.2 hok0.2.2.2.2.1 hok0.2.2.2.2.2.1 hok0.2.2.2.2.2.2 hok1.1.1 hok1.1.2.1 hok1.1.2.2.1 hok1.1.2.2.2.1 hok1.1.2.2.2.2.1 hok1.1.2.2.2.2.2 hok2 true hF
 refine(hct W (fun _=>True) (A.Hp.start ⟨A.Hall.sh hr16,A.Hall.sh hr93,A.Hall.sh hr103,A.Hall.sh hr104,A.Hall.tabs3 htab hmx⟩)).mono ?_
 rintro e W' ⟨v,H',rfl,⟨rfl,rfl⟩,hh⟩
 have bel:=hh.ch.below
 exact⟨_,rfl,_,_,_,[],_,[],hW',trodAll_mk1 (shut_bool Tryz.underlying4 _),(trodAll_cons_mk (Below.trod laidOut (by kernel_rfl) (of_decide_eq_true (by kernel_rfl)) k0 bel lt0) (trodAll_cons_mk (Below.trod laidOut (by kernel_rfl) (of_decide_eq_true (by kernel_rfl)) k1 bel lt1) (trodAll_cons_mk (Below.trod laidOut (by kernel_rfl) (of_decide_eq_true (by kernel_rfl)) k2 bel lt2) trodAll_mk0))),rfl,bel.frame _,fun h=>by cases h⟩
theorem over:Rows.operStaysRow.holds Tryz.pinned (OpenSpec.ofChange Rows.operStaysSpec):=
 OpenClaim.holds_of_wide 6 Tryz.f6 rfl rfl rfl rfl rfl rfl rfl ⟨rfl,rfl,rfl,rfl,rfl⟩ rfl rfl rfl rfl rfl (by kernel_rfl) Tryz.func6 (by kernel_rfl)
  (of_decide_eq_true (by kernel_rfl)) (by unfold Func.isWrapper;first|(rw[if_pos (by decide+kernel)];kernel_rfl)|(rw[if_neg (by decide+kernel)];exact⟨rfl,rfl⟩))
  (fun os started H enc _=>lifted os started H enc)
theorem proved:Rows.OperStaysCardSaid:=
 Claim7.holds_tied_plain_at .later [] [.data,.pinned] true (true,"3625bcd9b745fe139b92f791089984ce2930baf8856179a1ac346a61d49a712d") false
  over (fun _ h=>by cases h) (by kernel_rfl) (fun _ h=>by cases h) operStays_row_tie rfl ⟨rfl,rfl⟩ (by kernel_rfl) rfl
  (fun f fn hf hfn=>by
   obtain rfl:f=6:=Option.some.inj ((show Tryz.prog.funcNamed Rows.operStaysRow.func=some 6 by kernel_rfl).symm.trans hf) |>.symm
   obtain rfl:fn=Tryz.f6:=(Option.some.inj (Tryz.func6.symm.trans hfn)).symm
   exact⟨by kernel_rfl,fun j t ht=>by
    rw[Tryz.params6]at ht
    have hm:t∈[26,33,3]:=by simpa using Array.mem_of_getElem? ht
    have hall:([26,33,3].all fun u=> !Tryz.prog.wantsStandIn u)=true:=by kernel_rfl
    exact(show Tryz.prog.wantsStandIn t=false by simpa using List.all_eq_true.1 hall t hm)⟩)
  (by kernel_rfl)
#print axioms proved
end Go.Proofs.YtbljnlkhebiniaaGreatDoor.operStaysDone
end
