/- Plain: what two graphs differ in, told by both. * Plain: which deltas are the same; the statements 'DeltaDiffs' and 'DeltaNothing' on data, but for what is touched. * A small logic over the model's walk, continued: arguments of a row, opened: what a reader treads reads as a datum. No program in sight. * The law 'DeltaDiffs' as it is given: whatever the input, the call returns true, and each argument reads behind it as it read before. No condition but that utf8's two tables hold what the library's text lays, which the card ties. -/
import Derived.Test.YtocfaokgoflmhaaGreatDoorKB5
import Derived.Test.YtocfaokgoflmhaaGreatDoorKB0
import Derived.OpenShut
import Derived.ShutString
import Derived.ChangeOld
import Derived.ChangeArms
import Derived.DataReads
import Derived.Test.YtocfaokgoflmhaaGreatDoorRows
import Derived.Test.YtocfaokgoflmhaaGreatDoorTie
import Derived.Test.YtocfaokgoflmhaaGreatDoorCards
import Derived.WalkKit
import Derived.ProofKit
import Derived.Below
import Derived.LaidMore
import Derived.Stop.Joined
import Derived.SevenTiedAt
import Derived.Lib.LaidIn
import Derived.Lib.LaidU8T
import Derived.PinnedBridge
import Derived.SizedLaws
section
set_option linter.unusedVariables false
set_option linter.unusedSimpArgs false
set_option synthInstance.maxSize 1000000
set_option synthInstance.maxHeartbeats 400000
namespace Go.A
theorem fst {α:Type}(l:List α)(p:α→Bool)(L:Nat→Int→Option Int)(h0: ∀f,L (f+1) (l.length:Int)=some (-1))
  (h1: ∀f (k:Nat) x,l[k]?=some x→k<l.length→L (f+1) (k:Int)=if p x=true then some (k:Int)else L f ((k:Int)+1)) (hl:l.length<FU):
  (L FU 0=some (-1)∧∀x∈l,p x=false)∨∃(k:Nat) (x:α),l[k]?=some x∧L FU 0=some (k:Int)∧p x=true∧∀y∈l.take k,p y=false:=by
 have main: ∀(n k f:Nat),k+n=l.length→n<f→(∀y∈l.take k,p y=false)→(L f (k:Int)=some (-1)∧∀x∈l,p x=false)∨∃(i:Nat) (x:α),l[i]?=some x∧L f (k:Int)=some (i:Int)∧p x=true∧∀y∈l.take i,p y=false:=by
  intro n
  induction n with
  |zero=>
   intro k f hk hf hp
   obtain⟨f,rfl⟩: ∃f',f=f'+1:=⟨f-1,by omega⟩
   obtain rfl:k=l.length:=by omega
   rw[List.take_of_length_le (Nat.le_refl _)]at hp
   exact .inl ⟨h0 f,hp⟩
  |succ n ih=>
   intro k f hk hf hp
   obtain⟨f,rfl⟩: ∃f',f=f'+1:=⟨f-1,by omega⟩
   have hx:l[k]?=some l[k]:=List.getElem?_eq_getElem (by omega)
   rw[h1 f k _ hx (by omega)]
   cases hb:p l[k]with
   |true=>rw[if_pos rfl];exact .inr ⟨k,_,hx,rfl,hb,hp⟩
   |false=>
    rw[if_neg Bool.false_ne_true]
    refine ih (k+1) f (by omega) (by omega) fun y hy=>?_
    rw[List.take_add_one,hx]at hy
    rcases List.mem_append.1 hy with h|h
    ·exact hp y h
    ·rw[Option.toList_some,List.mem_singleton]at h;rw[h];exact hb
 exact main l.length 0 FU (by omega) hl (by simp)
theorem del {α:Type}(l:List α)(p:α→Bool)(L:Nat→List α→Int→Int→Option (List α))
  (h0: ∀f xs (i:Nat),xs.length=l.length→i≤l.length→L (f+1) xs (i:Int) (l.length:Int)=some (xs.take i))
  (h1: ∀f xs (i j:Nat) x,xs[j]?=some x→i<j→j<l.length→xs.length=l.length→L (f+1) xs (i:Int) (j:Int)=if p x=true then L f xs (i:Int) ((j:Int)+1)else L f (xs.set i x) ((i:Int)+1) ((j:Int)+1))
  {k:Nat} {x:α} (hx:l[k]?=some x) (hp:p x=true) (hpre: ∀y∈l.take k,p y=false) (hl:l.length<FU):L FU l (k:Int) ((k:Int)+1)=some (l.filter fun y=> !p y):=by
 have main: ∀(n j i f:Nat) (xs:List α),j+n=l.length→n<f→i<j→xs.length=l.length→xs.take i=(l.take j).filter (fun y=> !p y)→xs.drop j=l.drop j→L f xs (i:Int) (j:Int)=some (l.filter fun y=> !p y):=by
  intro n
  induction n with
  |zero=>
   intro j i f xs hj hf hij hlen ht hd
   obtain⟨f,rfl⟩: ∃f',f=f'+1:=⟨f-1,by omega⟩
   obtain rfl:j=l.length:=by omega
   rw[h0 f xs i hlen (by omega),ht,List.take_of_length_le (Nat.le_refl _)]
  |succ n ih=>
   intro j i f xs hj hf hij hlen ht hd
   obtain⟨f,rfl⟩: ∃f',f=f'+1:=⟨f-1,by omega⟩
   have hy:l[j]?=some l[j]:=List.getElem?_eq_getElem (by omega)
   have hxj:xs[j]?=some l[j]:=by
    have:=congrArg List.head? hd
    rwa[List.head?_drop,List.head?_drop,hy]at this
   have htk:(l.take (j+1)).filter (fun y=> !p y)=(l.take j).filter (fun y=> !p y)++if p l[j]=true then []else [l[j]]:=by
    rw[List.take_add_one,hy,List.filter_append,Option.toList_some,List.filter_cons,List.filter_nil]
    cases p l[j]<;>rfl
   have hd2:xs.drop (j+1)=l.drop (j+1):=by
    have:=congrArg List.tail hd
    rwa[List.tail_drop,List.tail_drop]at this
   rw[h1 f xs i j _ hxj hij (by omega) hlen]
   cases hb:p l[j]with
   |true=>
    rw[if_pos rfl]
    exact ih (j+1) i f xs (by omega) (by omega) (by omega) hlen (by rw[htk,hb,if_pos rfl,List.append_nil,ht]) hd2
   |false=>
    rw[if_neg Bool.false_ne_true]
    have hset:(xs.set i l[j]).take (i+1)=xs.take i++[l[j]]:=by
     rw[List.take_add_one,List.getElem?_set,if_pos rfl,if_pos (by omega),List.take_set_of_le (Nat.le_refl _)];rfl
    have hdrop:(xs.set i l[j]).drop (j+1)=xs.drop (j+1):=List.drop_set_of_lt (by omega)
    have:=ih (j+1) (i+1) f (xs.set i l[j]) (by omega) (by omega) (by omega) (by rw[List.length_set];exact hlen) (by rw[htk,hb,if_neg Bool.false_ne_true,hset,ht]) (by rw[hdrop];exact hd2)
    exact this
 have hk:=(List.getElem?_eq_some_iff.1 hx).1
 refine main (l.length-(k+1)) (k+1) k FU l (by omega) (by omega) (by omega) rfl ?_ rfl
 rw[List.take_add_one,hx,List.filter_append,List.filter_eq_self.2 (fun y hy=>by rw[hpre y hy];rfl)]
 simp[hp]
end Go.A
namespace Go.Proofs.YtocfaokgoflmhaaGreatDoor
open Go.RowKit Go.Graph
def inpB (n:Nd):Bool:=decide (n.2.1=1)
theorem inputs_eq (g:List Nd)(hg:g.length≤1000):F.delta_inputs g=some (g.filter inpB):=by
 unfold F.delta_inputs F.slices_Clone_api_Node_api_Node
 rw[A.gd1 (by simp only[List.length_nil];omega),List.nil_append,Option.bind_some]
 have key:F.slices_DeleteFunc_api_Node_api_Node_delta_inputs_1 g=some (g.filter inpB):=by
  unfold F.slices_DeleteFunc_api_Node_api_Node_delta_inputs_1 F.slices_IndexFunc_api_Node_api_Node_delta_inputs_1
  have hfil:(g.filter inpB)=g.filter fun y=> !(decide (y.2.1≠1)):=List.filter_congr fun n _=>by unfold inpB;by_cases h:n.2.1=1<;>simp[h]
  rcases A.fst g (fun n=>decide (n.2.1≠1)) (fun f y=>F.slices_IndexFunc_api_Node_api_Node_delta_inputs_1_l1 g f y) (fun f=>by rw[F.slices_IndexFunc_api_Node_api_Node_delta_inputs_1_l1,if_neg (by omega)])
   (fun f k x hx hk=>by
    rw[F.slices_IndexFunc_api_Node_api_Node_delta_inputs_1_l1,if_pos (by omega),A.ixn hx,Option.bind_some,F.delta_inputs_1,Option.bind_some]
    by_cases h:x.2.1≠1
    ·rw[if_pos (decide_eq_true h),if_pos (decide_eq_true h)]
    ·rw[if_neg (by rw[decide_eq_true_iff];exact h),if_neg (by rw[decide_eq_true_iff];exact h),A.gd1 (A.r64n (by omega))])
   (by have:=FU_big;omega)with⟨h1,h2⟩|⟨k,x,h1,h2,h3,h4⟩
  ·rw[h1,Option.bind_some,if_pos rfl,hfil,List.filter_eq_self.2 (fun n hn=>by rw[h2 n hn];rfl)]
  ·have hk:=(List.getElem?_eq_some_iff.1 h1).1
   rw[h2,Option.bind_some,if_neg (by omega),A.gd1 (A.r64n (by omega)),hfil]
   exact A.del g (fun n=>decide (n.2.1≠1)) (fun f xs i j=>F.slices_DeleteFunc_api_Node_api_Node_delta_inputs_1_l2 g f xs i j)
    (fun f xs i hlen hi=>by
     rw[F.slices_DeleteFunc_api_Node_api_Node_delta_inputs_1_l2,if_neg (by omega),A.gd1 ⟨by omega,by omega⟩,A.gd1 ⟨by omega,by simp only[List.length_append,List.length_take,List.length_replicate];omega⟩,Int.toNat_natCast]
     congr 1
     rw[List.take_append_of_le_length (by rw[List.length_take];omega),List.take_take,Nat.min_self])
    (fun f xs i j x hx hij hj hlen=>by
     have hi:xs[i]?=some xs[i]:=List.getElem?_eq_getElem (by omega)
     rw[F.slices_DeleteFunc_api_Node_api_Node_delta_inputs_1_l2,if_pos (by omega),A.ixn hx,Option.bind_some,F.delta_inputs_1,Option.bind_some]
     simp only[F.slices_DeleteFunc_api_Node_api_Node_delta_inputs_1_j1]
     by_cases h:x.2.1≠1
     ·rw[decide_eq_true h,Bool.not_true,if_neg Bool.false_ne_true,if_pos rfl,A.gd1 (A.r64n (by omega))]
     ·rw[decide_eq_false h,Bool.not_false,if_pos rfl,if_neg Bool.false_ne_true,A.ixn hi,Option.bind_some,A.gd1 (A.r64n (by omega)),A.gd1 (A.r64n (by omega)),Int.toNat_natCast])
    h1 h3 h4 (by have:=FU_big;omega)
 rw[key,Option.bind_some]
theorem sml_one {n:Nd}{g:List Nd}(hg:Sml g)(hn:n∈g):Sml [n]:=⟨by simp,fun m hm=>by rw[List.mem_singleton]at hm;subst hm;exact hg.2 m hn⟩
theorem sml_z0:Sml [z0]:=⟨by simp,fun m hm=>by rw[List.mem_singleton]at hm;subst hm;decide⟩
theorem sameNode_P (x y:Nd)(hx:Sml [x]):F.delta_sameNode x y=some (decide (x=y)):=by
 unfold F.delta_sameNode
 rw[show F.graph_Same [(x.1,x.2.1,x.2.2.1,(x.2.2.2.1.1,x.2.2.2.1.2.1,x.2.2.2.1.2.2),x.2.2.2.2.1,x.2.2.2.2.2.1,x.2.2.2.2.2.2)] [(y.1,y.2.1,y.2.2.1,(y.2.2.2.1.1,y.2.2.2.1.2.1,y.2.2.2.1.2.2),y.2.2.2.2.1,y.2.2.2.2.2.1,y.2.2.2.2.2.2)]=some (decide ([x]=[y]))from P_Same [x] [y] hx,Option.bind_some]
 congr 1;exact decide_eq_decide.2 (by simp)
theorem sameNode_R (x y:Nd)(hx:Sml [x]):F.R09_sameNode x y=some (decide (x=y)):=by
 unfold F.R09_sameNode
 rw[show F.R08_Same [(x.1,x.2.1,x.2.2.1,(x.2.2.2.1.1,x.2.2.2.1.2.1,x.2.2.2.1.2.2),x.2.2.2.2.1,x.2.2.2.2.2.1,x.2.2.2.2.2.2)] [(y.1,y.2.1,y.2.2.1,(y.2.2.2.1.1,y.2.2.2.1.2.1,y.2.2.2.1.2.2),y.2.2.2.2.1,y.2.2.2.2.2.1,y.2.2.2.2.2.2)]=some (decide ([x]=[y]))from R_Same [x] [y] hx,Option.bind_some]
 congr 1;exact decide_eq_decide.2 (by simp)
theorem gt_sml {g:List Nd}(hg:Sml g)(id:Int):Sml [gt g id]:=by
 rcases idx_cases z0 g id with⟨_,_,h3,_⟩|⟨j,n,_,h2,_,h4,_⟩
 ·unfold gt;rw[h3];exact sml_z0
 ·unfold gt;rw[h4];exact sml_one hg (List.mem_of_getElem? h2)
theorem sml_filter {g:List Nd}(hg:Sml g)(p:Nd→Bool):Sml (g.filter p):=⟨Nat.le_trans (List.length_filter_le _ _) hg.1,fun n hn=>hg.2 n (List.mem_filter.1 hn).1⟩
def inB (b:List Nd)(n:Nd):Bool:=hs b n.1&&decide (gt b n.1=n)
theorem inB_iff {b:List Nd}(hb:Inc b)(n:Nd):inB b n=true↔n∈b:=by
 unfold inB
 rw[Bool.and_eq_true,decide_eq_true_iff]
 constructor
 ·rintro⟨h1,h2⟩
  obtain⟨m,hm,e⟩:=has_mem.1 h1
  have:=(hb.got hm z0).1
  unfold gt at h2
  rw[←e,this]at h2;rw[←h2];exact hm
 ·intro h
  exact⟨(hb.got h z0).2,(hb.got h z0).1⟩
def withinB (a b:List Nd):Bool:=a.all fun n=> !inpB n||inB b n
theorem within_eq9 (a b:List Nd)(ha:a.length≤1000)(hb:Sml b):F.R09_within a b=some (withinB a b):=
 A.lp0 a (fun f y=>F.R09_within_l3 a b f y) (fun _ l=>some (withinB l b))
  (fun f=>by rw[F.R09_within_l3,if_neg (by omega)];rfl)
  (fun f k x hx hk ih=>by
   have hbl:=hb.1
   rw[F.R09_within_l3,if_pos (by omega),A.ixn hx,Option.bind_some,Get_eq b x.1 (by omega),Option.bind_some,F.R09_within_j2,A.ixn hx,Option.bind_some]
   simp only[F.R09_within_j1,Option.bind_some]
   rw[show F.R09_sameNode ((gt b x.1).1,(gt b x.1).2.1,(gt b x.1).2.2.1,((gt b x.1).2.2.2.1.1,(gt b x.1).2.2.2.1.2.1,(gt b x.1).2.2.2.1.2.2),(gt b x.1).2.2.2.2.1,(gt b x.1).2.2.2.2.2.1,(gt b x.1).2.2.2.2.2.2) (x.1,x.2.1,x.2.2.1,(x.2.2.2.1.1,x.2.2.2.1.2.1,x.2.2.2.1.2.2),x.2.2.2.2.1,x.2.2.2.2.2.1,x.2.2.2.2.2.2)=some (decide (gt b x.1=x))from sameNode_R (gt b x.1) x (gt_sml hb x.1),Option.bind_some]
   have hstep:A.gd (Z.R64 ((k:Int)+1)) (F.R09_within_l3 a b f ((k:Int)+1))=some (withinB (a.drop (k+1)) b):=by rw[A.gd1 (A.r64n (by omega)),ih]
   rw[hstep,show withinB (x::a.drop (k+1)) b=((!inpB x||inB b x)&&withinB (a.drop (k+1)) b)from rfl,inB,inpB]
   by_cases h1:x.2.1=1
   ·rw[if_pos h1,decide_eq_true h1]
    cases hs b x.1 with
    |false=>simp
    |true=>by_cases h2:gt b x.1=x<;>simp[h2]
   ·rw[if_neg h1,decide_eq_false h1];simp)
  (by have:=FU_big;omega)
theorem inp_iff {a b:List Nd}(ha:Inc a)(hb:Inc b):a.filter inpB=b.filter inpB↔withinB a b=true∧withinB b a=true:=by
 have one: ∀{a b:List Nd},Inc b→(withinB a b=true↔∀n∈a,inpB n=true→n∈b):=fun {a b} hb=>by
  unfold withinB
  rw[List.all_eq_true]
  constructor
  ·intro h n hn hi
   have:=h n hn
   rw[hi,Bool.not_true,Bool.false_or]at this
   exact(inB_iff hb n).1 this
  ·intro h n hn
   cases hi:inpB n with
   |false=>rfl
   |true=>rw[(inB_iff hb n).2 (h n hn hi)];rfl
 rw[one hb,one ha]
 constructor
 ·intro e
  refine⟨fun n hn hi=>?_,fun n hn hi=>?_⟩
  ·have:n∈a.filter inpB:=List.mem_filter.2 ⟨hn,hi⟩
   rw[e]at this;exact(List.mem_filter.1 this).1
  ·have:n∈b.filter inpB:=List.mem_filter.2 ⟨hn,hi⟩
   rw[←e]at this;exact(List.mem_filter.1 this).1
 ·rintro⟨h1,h2⟩
  refine inc_ext (List.Pairwise.filter _ ha) (List.Pairwise.filter _ hb) fun n=>?_
  rw[List.mem_filter,List.mem_filter]
  exact⟨fun h=>⟨h1 n h.1 h.2,h.2⟩,fun h=>⟨h2 n h.1 h.2,h.2⟩⟩
def goB (b:List Nd)(n:Nd):Bool:= !hs b n.1
def diffB (a b:List Nd):Dl:=((a.filter (goB b)).map (·.1),b.filter (fun n=> !inB a n),[])
def diffV (a b:List Nd)(e1 e2:Int):Dl×Int:=if e1≠0 then(([],[],[]),e1)else if e2≠0 then(([],[],[]),e2)else if a.filter inpB=b.filter inpB then(diffB a b,0)else(([],[],[]),90)
theorem diffV_1 {a b:List Nd}{e1 e2:Int}(h:e1≠0):diffV a b e1 e2=(([],[],[]),e1):=if_pos h
theorem diffV_2 {a b:List Nd}{e1 e2:Int}(h:e1=0)(h2:e2≠0):diffV a b e1 e2=(([],[],[]),e2):=by unfold diffV;rw[if_neg (show ¬(e1≠0)from fun k=>k h),if_pos h2]
theorem diffV_3 {a b:List Nd}{e1 e2:Int}(h:e1=0)(h2:e2=0)(h3: ¬a.filter inpB=b.filter inpB):diffV a b e1 e2=(([],[],[]),90):=by unfold diffV;rw[if_neg (show ¬(e1≠0)from fun k=>k h),if_neg (show ¬(e2≠0)from fun k=>k h2),if_neg h3]
theorem diffV_4 {a b:List Nd}{e1 e2:Int}(h:e1=0)(h2:e2=0)(h3:a.filter inpB=b.filter inpB):diffV a b e1 e2=(diffB a b,0):=by unfold diffV;rw[if_neg (show ¬(e1≠0)from fun k=>k h),if_neg (show ¬(e2≠0)from fun k=>k h2),if_pos h3]
theorem diff_l4 (a b:List Nd)(xs:List Int)(ha:Sml a)(hb:Sml b):F.delta_Diff_l4 (mapOf a) xs b A.FU [] 0=some ((xs,b.filter (fun n=> !inB a n),[]),0):=by
 have hbl:=hb.1
 have:=A.lp b (fun f (s:List Nd) y=>F.delta_Diff_l4 (mapOf a) xs b f s y) (fun _ l s=>some ((xs,s++l.filter (fun n=> !inB a n),[]),0)) (fun k s=>s.length≤k)
  (fun f s hsl=>by rw[F.delta_Diff_l4,if_neg (by omega),List.filter_nil,List.append_nil])
  (fun f s k x hx hk hsl ih=>by
   rw[F.delta_Diff_l4,if_pos (by omega),A.ixn hx,Option.bind_some,A.lt,show((0,0,[],(0,0,(ByteArray.mk #[])),(ByteArray.mk #[]),0,0):Nd)=z0 from rfl]
   have hj: ∀y,F.delta_Diff_j3 (F.delta_Diff_l4 (mapOf a) xs b f) s (k:Int) x y=some ((xs,s++((if y=true then [x]else [])++(b.drop (k+1)).filter (fun n=> !inB a n)),[]),0):=fun y=>by
    rw[F.delta_Diff_j3]
    simp only[F.delta_Diff_j2]
    cases y with
    |true=>
     rw[if_pos rfl,if_pos rfl,A.gd1 (by simp only[List.length_cons,List.length_nil];omega),A.gd1 (A.r64n (by omega))]
     have:=ih (s++[x]) (by simp only[List.length_append,List.length_cons,List.length_nil];omega)
     refine Eq.trans this ?_
     rw[List.append_assoc]
    |false=>rw[if_neg Bool.false_ne_true,if_neg Bool.false_ne_true,A.gd1 (A.r64n (by omega)),ih s (by omega),List.nil_append]
   rw[hj,show F.delta_sameNode ((gt a x.1).1,(gt a x.1).2.1,(gt a x.1).2.2.1,((gt a x.1).2.2.2.1.1,(gt a x.1).2.2.2.1.2.1,(gt a x.1).2.2.2.1.2.2),(gt a x.1).2.2.2.2.1,(gt a x.1).2.2.2.2.2.1,(gt a x.1).2.2.2.2.2.2) (x.1,x.2.1,x.2.2.1,(x.2.2.2.1.1,x.2.2.2.1.2.1,x.2.2.2.1.2.2),x.2.2.2.2.1,x.2.2.2.2.2.1,x.2.2.2.2.2.2)=some (decide (gt a x.1=x))from sameNode_P (gt a x.1) x (gt_sml ha x.1),Option.bind_some,hj,List.filter_cons,inB,show Z.mhas (mapOf a) x.1=hs a x.1 from rfl]
   generalize hs a x.1=bb
   cases bb with
   |false=>simp
   |true=>by_cases h:gt a x.1=x<;>simp[h])
  (by have:=FU_big;omega) [] (Nat.le_refl _)
 rw[List.nil_append]at this
 exact this
theorem diff_P (a b:List Nd)(ha:Sml a)(hb:Sml b)(e1 e2:Int)(h1:F.graph_Check a=some e1)(h2:F.graph_Check b=some e2)(g1:e1=0→Good a)(g2:e2=0→Good b):F.delta_Diff a b=some (diffV a b e1 e2):=by
 have hal:=ha.1;have hbl:=hb.1
 unfold F.delta_Diff
 rw[h1,h2,Option.bind_some,Option.bind_some]
 by_cases z1:e1=0
 case neg=>rw[if_pos z1,diffV_1 z1]
 have n1: ¬(e1≠0):=fun h=>h z1
 rw[if_neg n1]
 by_cases z2:e2=0
 case neg=>rw[if_pos z2,diffV_2 z1 z2]
 have n2: ¬(e2≠0):=fun h=>h z2
 rw[if_neg n2]
 have G1:=g1 z1;have G2:=g2 z2
 rw[inputs_eq a (by omega),Option.bind_some,inputs_eq b (by omega),Option.bind_some,P_Same _ _ (sml_filter ha _),Option.bind_some]
 by_cases he:a.filter inpB=b.filter inpB
 case neg=>rw[decide_eq_false he,Bool.not_false,if_pos rfl,diffV_3 z1 z2 he]
 rw[decide_eq_true he,Bool.not_true,if_neg Bool.false_ne_true,diffV_4 z1 z2 he,byId_eq a G1.inc (by omega),Option.bind_some,byId_eq b G2.inc (by omega),Option.bind_some]
 have:=A.lp a (fun f (s:List Int) y=>F.delta_Diff_l5 a b (mapOf a) (mapOf b) f s y) (fun _ l s=>some ((s++(l.filter (goB b)).map (·.1),b.filter (fun n=> !inB a n),[]),0)) (fun k s=>s.length≤k)
  (fun f s hs=>by
   rw[F.delta_Diff_l5,if_neg (by omega),Clone_eq b (by have:=G2.len;omega) (fun n hn=>hb.in hn),Option.bind_some,diff_l4 a b s ha hb,List.filter_nil,List.map_nil,List.append_nil])
  (fun f s k x hx hk hs2 ih=>by
   rw[F.delta_Diff_l5,if_pos (by omega),A.ixn hx,Option.bind_some,A.lt,List.filter_cons,goB]
   simp only[F.delta_Diff_j1]
   change (if(!(hs b x.1))=true then _ else _)=_
   cases hs b x.1 with
   |true=>simp only[Bool.not_true,Bool.false_eq_true,if_false];rw[A.gd1 (A.r64n (by omega)),ih s (by omega)]
   |false=>
    simp only[Bool.not_false,if_true]
    rw[A.gd1 (by simp only[List.length_cons,List.length_nil];omega),A.gd1 (A.r64n (by omega)),ih (s++[x.1]) (by simp only[List.length_append,List.length_cons,List.length_nil];omega),List.append_assoc];rfl)
  (by have:=FU_big;omega) [] (Nat.le_refl _)
 rw[List.nil_append]at this
 exact this
theorem diff_R6 (a b:List Nd)(xs:List Int)(ha:Sml a)(hb:Sml b):F.R09_Diff_l6 a b xs A.FU [] 0=some ((xs,b.filter (fun n=> !inB a n),[]),0):=by
 have hbl:=hb.1;have hal:=ha.1
 have:=A.lp b (fun f (s:List Nd) y=>F.R09_Diff_l6 a b xs f s y) (fun _ l s=>some ((xs,s++l.filter (fun n=> !inB a n),[]),0)) (fun k s=>s.length≤k)
  (fun f s hs=>by rw[F.R09_Diff_l6,if_neg (by omega),List.filter_nil,List.append_nil])
  (fun f s k x hx hk hs2 ih=>by
   rw[F.R09_Diff_l6,if_pos (by omega),A.ixn hx,Option.bind_some,Get_eq a x.1 (by omega),Option.bind_some]
   have hj: ∀y,F.R09_Diff_j4 (F.R09_Diff_l6 a b xs f) b s (k:Int) y=some ((xs,s++((if y=true then [x]else [])++(b.drop (k+1)).filter (fun n=> !inB a n)),[]),0):=fun y=>by
    rw[F.R09_Diff_j4]
    simp only[F.R09_Diff_j3]
    cases y with
    |true=>
     rw[if_pos rfl,if_pos rfl,A.ixn hx,Option.bind_some,show F.R09_clone (x.1,x.2.1,x.2.2.1,(x.2.2.2.1.1,x.2.2.2.1.2.1,x.2.2.2.1.2.2),x.2.2.2.2.1,x.2.2.2.2.2.1,x.2.2.2.2.2.2)=some x from clone_eq9 x (hb.in (List.mem_of_getElem? hx)),Option.bind_some,A.gd1 (by simp only[List.length_cons,List.length_nil];omega),A.gd1 (A.r64n (by omega))]
     have:=ih (s++[x]) (by simp only[List.length_append,List.length_cons,List.length_nil];omega)
     refine Eq.trans this ?_
     rw[List.append_assoc]
    |false=>rw[if_neg Bool.false_ne_true,if_neg Bool.false_ne_true,A.gd1 (A.r64n (by omega)),ih s (by omega),List.nil_append]
   rw[F.R09_Diff_j5,hj,A.ixn hx,Option.bind_some,show F.R09_sameNode ((gt a x.1).1,(gt a x.1).2.1,(gt a x.1).2.2.1,((gt a x.1).2.2.2.1.1,(gt a x.1).2.2.2.1.2.1,(gt a x.1).2.2.2.1.2.2),(gt a x.1).2.2.2.2.1,(gt a x.1).2.2.2.2.2.1,(gt a x.1).2.2.2.2.2.2) (x.1,x.2.1,x.2.2.1,(x.2.2.2.1.1,x.2.2.2.1.2.1,x.2.2.2.1.2.2),x.2.2.2.2.1,x.2.2.2.2.2.1,x.2.2.2.2.2.2)=some (decide (gt a x.1=x))from sameNode_R (gt a x.1) x (gt_sml ha x.1),Option.bind_some,hj,List.filter_cons,inB]
   cases hs a x.1 with
   |false=>simp
   |true=>by_cases h:gt a x.1=x<;>simp[h])
  (by have:=FU_big;omega) [] (Nat.le_refl _)
 rw[List.nil_append]at this
 exact this
theorem diff_R (a b:List Nd)(ha:Sml a)(hb:Sml b)(e1 e2:Int)(h1:F.R08_Check a=some e1)(h2:F.R08_Check b=some e2)(g1:e1=0→Good a)(g2:e2=0→Good b):F.R09_Diff a b=some (diffV a b e1 e2):=by
 have hal:=ha.1;have hbl:=hb.1
 unfold F.R09_Diff
 rw[h1,h2,Option.bind_some,Option.bind_some]
 by_cases z1:e1=0
 case neg=>rw[if_pos z1,diffV_1 z1]
 have n1: ¬(e1≠0):=fun h=>h z1
 rw[if_neg n1]
 by_cases z2:e2=0
 case neg=>rw[if_pos z2,diffV_2 z1 z2]
 have n2: ¬(e2≠0):=fun h=>h z2
 rw[if_neg n2]
 have G1:=g1 z1;have G2:=g2 z2
 rw[within_eq9 a b (by omega) hb,Option.bind_some,within_eq9 b a (by omega) ha,Option.bind_some]
 have hiff:=inp_iff G1.inc G2.inc
 have loop:F.R09_Diff_l7 a b A.FU [] 0=some (diffB a b,0):=by
  have:=A.lp a (fun f (s:List Int) y=>F.R09_Diff_l7 a b f s y) (fun _ l s=>some ((s++(l.filter (goB b)).map (·.1),b.filter (fun n=> !inB a n),[]),0)) (fun k s=>s.length≤k)
   (fun f s hs=>by rw[F.R09_Diff_l7,if_neg (by omega),diff_R6 a b s ha hb,List.filter_nil,List.map_nil,List.append_nil])
   (fun f s k x hx hk hs2 ih=>by
    rw[F.R09_Diff_l7,if_pos (by omega),A.ixn hx,Option.bind_some,Get_eq b x.1 (by omega),Option.bind_some,F.R09_Diff_j2,List.filter_cons,goB]
    simp only[F.R09_Diff_j1]
    cases hs b x.1 with
    |true=>simp only[Bool.not_true,Bool.false_eq_true,if_false];rw[A.gd1 (A.r64n (by omega)),ih s (by omega)]
    |false=>
     simp only[Bool.not_false,if_true]
     rw[A.ixn hx,Option.bind_some,A.gd1 (by simp only[List.length_cons,List.length_nil];omega),A.gd1 (A.r64n (by omega)),ih (s++[x.1]) (by simp only[List.length_append,List.length_cons,List.length_nil];omega),List.append_assoc];rfl)
   (by have:=FU_big;omega) [] (Nat.le_refl _)
  rw[List.nil_append]at this
  exact this
 simp only[F.R09_Diff_j8,loop]
 cases hw1:withinB a b with
 |false=>
  have hne: ¬a.filter inpB=b.filter inpB:=fun e=>by have:=(hiff.1 e).1;rw[hw1]at this;cases this
  rw[diffV_3 z1 z2 hne];rfl
 |true=>
  cases hw2:withinB b a with
  |false=>
   have hne: ¬a.filter inpB=b.filter inpB:=fun e=>by have:=(hiff.1 e).2;rw[hw2]at this;cases this
   rw[diffV_3 z1 z2 hne];rfl
  |true=>rw[diffV_4 z1 z2 (hiff.2 ⟨hw1,hw2⟩)];rfl
end Go.Proofs.YtocfaokgoflmhaaGreatDoor
end
section
set_option linter.unusedVariables false
set_option linter.unusedSimpArgs false
set_option synthInstance.maxSize 1000000
set_option synthInstance.maxHeartbeats 400000
namespace Go.Proofs.YtocfaokgoflmhaaGreatDoor
open Go.RowKit Go.Graph
structure SzD (d:Dl):Prop where
 put:Sml d.2.1
 dl:d.1.length≤1000
 ml:d.2.2.length≤1000
theorem SmD.sz {d:Dl}(h:SmD d):SzD d:=⟨h.put,by have:=h.dl;omega,by have:=h.ml;omega⟩
theorem szd_nil:SzD ([],[],[]):=⟨sml_nil,by simp,by simp⟩
theorem dl_ext {x y:Dl}:x=y↔x.1=y.1∧x.2.1=y.2.1∧x.2.2=y.2.2:=by
 obtain⟨a,b,c⟩:=x;obtain⟨a',b',c'⟩:=y;simp only[Prod.mk.injEq]
theorem R_SameD (d e:Dl)(hd:SzD d):F.R09_Same d e=some (decide (d=e)):=by
 have h1:=hd.dl;have h2:=hd.ml
 have x:=dl_ext (x:=d) (y:=e)
 unfold F.R09_Same
 rw[R_sameInts _ _ (by omega),Option.bind_some,R_Same _ _ hd.put,Option.bind_some]
 by_cases c1:d.1=e.1
 case neg=>rw[decide_eq_false c1,Bool.not_false,if_pos rfl,F.R09_Same_j2,if_pos rfl,decide_eq_false (fun h=>c1 (x.1 h).1)]
 rw[decide_eq_true c1,Bool.not_true,if_neg Bool.false_ne_true]
 by_cases c2:d.2.1=e.2.1
 case neg=>rw[decide_eq_false c2,Bool.not_false,cond_true,F.R09_Same_j2,if_pos rfl,decide_eq_false (fun h=>c2 (x.1 h).2.1)]
 rw[decide_eq_true c2,Bool.not_true,cond_false,F.R09_Same_j2]
 by_cases c3:d.2.2.length=e.2.2.length
 case neg=>rw[if_pos (by rw[decide_eq_true_iff];omega),decide_eq_false (fun h=>c3 (by rw[(x.1 h).2.2]))]
 rw[if_neg (by rw[decide_eq_true_iff];omega),A.eqk d.2.2 e.2.2 (fun f y=>F.R09_Same_l1 d e f y) (some true) (some false) c3 (fun f=>by rw[F.R09_Same_l1,if_neg (by omega)])
  (fun f k u v hu hv hk=>by
   rw[F.R09_Same_l1,if_pos (by omega),A.ixn hu,Option.bind_some,A.ixn hv,Option.bind_some]
   by_cases h:u=v
   ·rw[if_neg (show ¬((u.1,u.2.1,u.2.2.1,u.2.2.2.1,(u.2.2.2.2.1,u.2.2.2.2.2.1,u.2.2.2.2.2.2))≠(v.1,v.2.1,v.2.2.1,v.2.2.2.1,(v.2.2.2.2.1,v.2.2.2.2.2.1,v.2.2.2.2.2.2)))from fun hn=>hn h),if_pos h,A.gd1 (A.r64n (by omega))]
   ·rw[if_pos (show((u.1,u.2.1,u.2.2.1,u.2.2.2.1,(u.2.2.2.2.1,u.2.2.2.2.2.1,u.2.2.2.2.2.2))≠(v.1,v.2.1,v.2.2.1,v.2.2.2.1,(v.2.2.2.2.1,v.2.2.2.2.2.1,v.2.2.2.2.2.2)))from fun hn=>h hn),if_neg h]) (by have:=FU_big;omega),A.ite_dec]
 congr 1
 exact decide_eq_decide.2 ⟨fun h=>x.2 ⟨c1,c2,h⟩,fun h=>(x.1 h).2.2⟩
theorem diffV_sz (a b:List Nd)(ha:Sml a)(hb:Sml b)(e1 e2:Int):SzD (diffV a b e1 e2).1:=by
 unfold diffV
 split
 ·exact szd_nil
 ·split
  ·exact szd_nil
  ·split
   ·refine⟨sml_filter hb _,?_,by simp[diffB]⟩
    have:=ha.1
    have h2:=List.length_filter_le (goB b) a
    simp only[diffB,List.length_map];omega
   ·exact szd_nil
theorem R_SameD_self {d:Dl}(hd:SzD d):F.R09_Same d d=some true:=by rw[R_SameD d d hd,decide_eq_true rfl]
theorem deltaDiffs_plain {P Q:Prop}(a b:List Nd)(_:P)(_:Q):F.L09_DeltaDiffs a b=some true:=by
 unfold F.L09_DeltaDiffs
 rw[live9,few_eq [a,b] (by simp)]
 simp only[Option.bind_some,Bool.not_true,Bool.false_eq_true,if_false,List.all_cons,List.all_nil,Bool.and_true]
 cases h1:fewB a with
 |false=>rfl
 |true=>
  cases h2:fewB b with
  |false=>rfl
  |true=>
   obtain⟨_,ha⟩:=fewB_sml h1
   obtain⟨_,hb⟩:=fewB_sml h2
   obtain⟨e1,c1,c2,c3,_⟩:=check_same a ha
   obtain⟨e2,k1,k2,k3,_⟩:=check_same b hb
   rw[diff_P a b ha hb e1 e2 c1 k1 c3 k3,diff_R a b ha hb e1 e2 c2 k2 c3 k3]
   simp only[Bool.and_self,Bool.not_true,Bool.false_eq_true,if_false,Option.bind_some]
   rw[show F.R09_Same ((diffV a b e1 e2).1.1,(diffV a b e1 e2).1.2.1,(diffV a b e1 e2).1.2.2) ((diffV a b e1 e2).1.1,(diffV a b e1 e2).1.2.1,(diffV a b e1 e2).1.2.2)=some true from R_SameD_self (diffV_sz a b ha hb e1 e2),Option.bind_some]
   rfl
end Go.Proofs.YtocfaokgoflmhaaGreatDoor
end
section
namespace Go.Z
open Go.RowKit
def OpenT (P:Program)(T:TypeId)(t:Ty):Prop:=
 P.cellsOf T=t.size∧∀(H:Type) (enc:TypeId×Value→H) (w:World) (base:Nat) (spare:Nat→Bool) (held:Bool) (fuel:Nat) (cs:List Value) (x:DataW H×List MemPlace),
  DataW.trod enc P w base spare held fuel T cs=some x→∃y:t.den,t.rep w (nt []) cs y
section
variable {P:Program}{T e:TypeId}
theorem ot_int {k:IntKind}(hc:P.cellsOf T=1)(ht:P.underlying T=some (.int k)):OpenT P T (.int k):=⟨hc,fun H enc w base spare held fuel cs x h=>by
 obtain⟨n,rfl,_,hw⟩:=DataW.trod_int ht h
 refine⟨n,rfl,?_⟩
 simp only[Lit.wf,Bool.and_eq_true,decide_eq_true_eq]at hw
 exact hw⟩
theorem ot_str (hc:P.cellsOf T=1)(ht:P.underlying T=some .string):OpenT P T .str:=⟨hc,fun H enc w base spare held fuel cs x h=>by
 obtain⟨s,rfl,_,hs⟩:=DataW.trod_string ht h
 exact⟨s,rfl,hs⟩⟩
def OpenPs (P:Program):List (TypeId×Nat)→Nat→Ty→Prop
 | [],_,_=>False
 | [(T,o')],o,t=>o'=o∧OpenT P T t
 |(T,o')::p::ps,o,.pair a b=>o'=o∧OpenT P T a∧OpenPs P (p::ps) (o+a.size) b
 |_::_::_,_,_=>False
theorem open_ps {H:Type}{enc:TypeId×Value→H}{w:World}{base:Nat}{spare:Nat→Bool}{held:Bool}{fuel:Nat}{cs:List Value}:
  ∀(ps:List (TypeId×Nat)) (o:Nat) (t:Ty),OpenPs P ps o t→(∀p∈ps,∃x,DataW.trod enc P w base spare held fuel p.1 ((cs.drop p.2).take (P.cellsOf p.1))=some x)→∃y:t.den,t.rep w (nt []) ((cs.drop o).take t.size) y
 | [],_,_,h,_=>h.elim
 | [(T,o')],o,t,h,hx=>by
  obtain⟨rfl,⟨hc,ho⟩⟩:=h
  obtain⟨x,hx⟩:=hx (T,o') (List.mem_singleton.2 rfl)
  rw[←hc];exact ho _ _ _ _ _ _ _ _ _ hx
 |(T,o')::p::ps,o,.pair a b,h,hx=>by
  obtain⟨rfl,⟨hc,ho⟩,hr⟩:=h
  obtain⟨x,h1⟩:=hx (T,o') (List.mem_cons_self ..)
  obtain⟨ya,hya⟩:=ho _ _ _ _ _ _ _ _ _ h1
  obtain⟨yb,hyb⟩:=open_ps (p::ps) _ b hr fun q hq=>hx q (List.mem_cons_of_mem _ hq)
  refine⟨(ya,yb),_,_,?_,hya,hyb⟩
  show(cs.drop o').take (a.size+b.size)=_
  rw[hc,List.take_add,List.drop_drop]
 |_::_::_,_,.int _,h,_=>h.elim
 |_::_::_,_,.byte,h,_=>h.elim
 |_::_::_,_,.bool,h,_=>h.elim
 |_::_::_,_,.str,h,_=>h.elim
 |_::_::_,_,.slice _,h,_=>h.elim
theorem ot_struct {fs:List Field}{t:Ty}(hc:P.cellsOf T=t.size)(ht:P.underlying T=some (.struct fs.toArray))(h:OpenPs P (fs.map fun f=>(f.type,f.offset)) 0 t):OpenT P T t:=⟨hc,fun H enc w base spare held fuel cs x hx=>by
 obtain⟨xs,n,_,_,hl,hs,hf⟩:=DataW.trod_struct ht hx
 have hcs:cs=(cs.drop 0).take t.size:=by rw[List.drop_zero,List.take_of_length_le (by omega)]
 rw[hcs]
 refine open_ps (fuel:=n) (enc:=enc) (base:=base) (spare:=spare) (held:=held) _ 0 t h fun p hp=>?_
 obtain⟨f,hf1,rfl⟩:=List.mem_map.1 hp
 obtain⟨i,hi,he⟩:=List.getElem_of_mem hf1
 have h1:=hf i f (by rw[List.getElem?_toArray,List.getElem?_eq_getElem hi,he])
 rw[h1,List.getElem?_eq_getElem (by rw[hs];simpa using hi)]
 exact⟨_,rfl⟩⟩
theorem rows_of {t:Ty}{w:World}{g:Addr}: ∀(n:Nat),(∀i,i<n→∃(cs:List Value) (y:t.den),cs.length=t.size∧(∀j u,cs[j]?=some u→w.cell? (g.add (i*t.size+j))=some u)∧t.rep w (nt []) cs y)→
  ∃(cells:List Value) (ys:List t.den),ys.length=n∧cells.length=n*t.size∧(∀j u,cells[j]?=some u→w.cell? (g.add j)=some u)∧∀(i:Nat) (y:t.den),ys[i]?=some y→t.rep w (nt []) ((cells.drop (i*t.size)).take t.size) y
 |0,_=>⟨[],[],rfl,by simp,by simp,by simp⟩
 |n+1,h=>by
  obtain⟨cells,ys,h1,h2,h3,h4⟩:=rows_of n fun i hi=>h i (by omega)
  obtain⟨cs,y,c1,c2,c3⟩:=h n (by omega)
  refine⟨cells++cs,ys++[y],by simp[h1],by rw[List.length_append,h2,c1,Nat.succ_mul],fun j u hj=>?_,?_⟩
  ·by_cases hlt:j<cells.length
   ·rw[List.getElem?_append_left hlt]at hj;exact h3 j u hj
   ·rw[List.getElem?_append_right (by omega)]at hj
    have:=c2 _ u hj
    rwa[h2,show n*t.size+(j-n*t.size)=j by omega]at this
  ·refine rep_append (xs:=ys) (ys:=[y]) (by rw[h2,h1]) h4 fun i y' hi=>?_
   have:i=0:=by have:=(List.getElem?_eq_some_iff.1 hi).1;simp at this;omega
   subst this
   simp at hi;subst hi
   rw[Nat.zero_mul,List.drop_zero,List.take_of_length_le (by omega)];exact c3
theorem ot_slice {t:Ty}(hc:P.cellsOf T=1)(ht:P.underlying T=some (.slice e))(h:OpenT P e t):OpenT P T (.slice t):=⟨hc,fun H enc w base spare held fuel cs x hx=>by
 rcases DataW.trod_slice ht hx with⟨rfl,_⟩|⟨ad,len,cap,elems,rest,n,_,rfl,_,hb,hl,hm,hlen,hel,_,_⟩
 ·exact⟨[],rep_nil _⟩
 ·have each: ∀i,i<len→∃(cs:List Value) (y:t.den),cs.length=t.size∧(∀j u,cs[j]?=some u→w.cell? (ad.add (i*t.size+j))=some u)∧t.rep w (nt []) cs y:=fun i hi=>by
   have h1:=hel i hi
   rw[List.getElem?_eq_getElem (by omega),Option.bind_eq_some_iff]at h1
   obtain⟨cs',h2,h3⟩:=h1
   obtain⟨_,h4,h5⟩:=World.cells?_some h2
   obtain⟨y,hy⟩:=h.2 _ _ _ _ _ _ _ _ _ h3
   rw[h.1]at h4 h5
   refine⟨cs',y,h4,fun j u hj=>?_,hy⟩
   have hlt:=(List.getElem?_eq_some_iff.1 hj).1
   have:=h5 j (by omega)
   rw[add_add]at this
   rw[this,hj]
  obtain⟨cells,ys,h1,h2,h3,h4⟩:=rows_of len each
  by_cases hz:len=0
  ·subst hz
   have:ys=[]:=List.eq_nil_of_length_eq_zero h1
   subst this
   exact⟨[],some ad,cap,[],rfl,by simp,hm,by simp,.inl rfl,by simp⟩
  ·have hp:=pos_size t
   have hlt:0<cells.length:=by rw[h2];exact Nat.mul_pos (by omega) hp
   have h0:=h3 0 _ (List.getElem?_eq_getElem hlt)
   have hspot:=World.cell?_spot h0
   obtain⟨b,off,spot⟩:=ad
   simp only[Addr.add]at hspot
   subst hspot
   refine⟨ys,some ⟨b,off,none⟩,cap,cells,by rw[h1],by omega,hm,by rw[h1];exact h2,.inr ⟨b,off,rfl,by simp[nt],fun j u hj=>?_⟩,h4⟩
   have:=h3 j u hj
   rwa[Addr.add_lit]at this⟩
end
end Go.Z
end
section
namespace Go.Proofs.YtocfaokgoflmhaaGreatDoor.deltaDiffsDone
open Go.ChangeShapes Go.WideShapes Go.ChangeAt Go.RowKit
set_option linter.unusedVariables false
theorem own:ownKnob Tryz.prog.godebug=none:=by kernel_rfl
theorem laidOut:laidOutB Tryz.prog=true:=by kernel_rfl
theorem ot3:Z.OpenT Tryz.prog 3 (Z.Ty.int .i64):=Z.ot_int (by kernel_rfl) Tryz.underlying3
theorem ot25:Z.OpenT Tryz.prog 25 (Z.Ty.slice (Z.Ty.int .i64)):=Z.ot_slice (by kernel_rfl) Tryz.underlying25 ot3
theorem ot2:Z.OpenT Tryz.prog 2 (Z.Ty.int .i64):=Z.ot_int (by kernel_rfl) Tryz.underlying2
theorem ot9:Z.OpenT Tryz.prog 9 Z.Ty.str:=Z.ot_str (by kernel_rfl) Tryz.underlying9
theorem ot68:Z.OpenT Tryz.prog 68 T67:=Z.ot_struct (by kernel_rfl) Tryz.underlying68 ⟨rfl,ot3,rfl,ot2,rfl,ot9⟩
theorem ot70:Z.OpenT Tryz.prog 70 T69:=Z.ot_struct (by kernel_rfl) Tryz.underlying70 ⟨rfl,ot3,rfl,ot3,rfl,ot25,rfl,ot68,rfl,ot9,rfl,ot2,rfl,ot3⟩
theorem ot22:Z.OpenT Tryz.prog 22 (Z.Ty.slice T69):=Z.ot_slice (by kernel_rfl) Tryz.underlying22 ot70
theorem ot24:Z.OpenT Tryz.prog 24 T23:=Z.ot_struct (by kernel_rfl) Tryz.underlying24 ⟨rfl,ot22⟩
set_option maxRecDepth 100000 in
theorem laid_met (os:Os)(args:Array Value):laidMetH Tryz.prog Rows.deltaDiffsRow.laid (({World.holding Tryz.prog os ⟨#[],#[],[]⟩with heap:=((World.holding Tryz.prog os ⟨#[],#[],[]⟩).heap.modify 0 (A.putCells A.tabF)).modify 1 (A.putCells A.tabA)}:World).forCall (fun _ _=>0) ⟨#[],args,[]⟩).memory:=by
 rw[MakeChecks.laidMetH_plain _ _ _ (by kernel_rfl)]
 exact(LaidIn.of_run (l:=Rows.deltaDiffsRow.laid) [1,0] 8 (by kernel_rfl) (by kernel_rfl) (by kernel_rfl) (by kernel_rfl)).met
theorem of_laid {W:World}(h:laidMetH Tryz.prog Rows.deltaDiffsRow.laid W):Lib.Utf8Tabs 0 1 W:=by
 rw[MakeChecks.laidMetH_plain _ _ _ (by kernel_rfl)]at h
 have h1:=Lib.laidMet.reads h (.tail _ (.head _))
 rw[show Rows.laid_unicode_utf8_first=Lib.firstData from Pinned.utf8First_eq]at h1
 have h2:=Lib.laidMet.reads h (.head _)
 rw[show(Rows.laid_unicode_utf8_acceptRanges:DataW Unit)=Lib.acceptData by kernel_rfl]at h2
 exact utf8Tabs_of_readsT (U8Types.of196 Tryz.laysValid) ⟨by kernel_rfl,by kernel_rfl,by kernel_rfl,by kernel_rfl,by kernel_rfl,by kernel_rfl,by kernel_rfl⟩ h1 h2
set_option maxHeartbeats 1000000 in
set_option maxRecDepth 100000 in
theorem lifted (os:Os)(started:os.Started)(H:Type)(enc:TypeId×Value→H):
  ReturnsInHanded {} Tryz.checked os 4 .any (fun w args=>(Rows.deltaDiffsSpec.pre enc Tryz.prog Tryz.f4 [] false w args∧laidMetH Tryz.prog Rows.deltaDiffsRow.laid w)∧sizedMet enc Tryz.prog Tryz.f4 (OpenSpec.ofChange Rows.deltaDiffsSpec) false w args) (Rows.deltaDiffsSpec.post enc Tryz.prog Tryz.f4 false true false false):=by
 refine returnsInHanded_of_change_and (C:=Tryz.checked) (X:=fun w _=>laidMetH Tryz.prog Rows.deltaDiffsRow.laid w) (fun _ _ _ hh h=>h.of_heap hh) own started (by kernel_rfl) Tryz.func4
  (ChangeSpec.witness_shaped (enc:=enc) (C:=Tryz.checked) (os:=os) (X:=fun w _=>laidMetH Tryz.prog Rows.deltaDiffsRow.laid w) false ({World.holding Tryz.prog os ⟨#[],#[],[]⟩with heap:=((World.holding Tryz.prog os ⟨#[],#[],[]⟩).heap.modify 0 (A.putCells A.tabF)).modify 1 (A.putCells A.tabA)}) #[.agg #[.slice none 0 0],.agg #[.slice none 0 0]] 16 rfl (World.shaped_of_RefB (by kernel_rfl) (by kernel_rfl)) (by kernel_rfl) (by kernel_rfl) (by kernel_rfl) (laid_met os _)) ?_
 intro W base args ds gs before hval0 hW hcnd _ hL _
 have hval: ∀(j:Nat) t v,Tryz.f4.params[j]?=some t→args[j]?=some v→Value.okWide Tryz.prog W .any base t v:=hval0
 have hW':=hW
 obtain⟨p,q,hA0,hV,rfl,hfz,hnd⟩:=hW
 have hA:DataW.TrodAll enc Tryz.prog W 0 (fun _=>true) true Tryz.f4.params.toList args.toList ds p:=hA0
 rw[Tryz.params4]at hA hval
 obtain⟨v0,vs0,d0,ds0,p0,q0,hargs,rfl,rfl,h0,r0⟩:=trodAll_cons hA
 obtain⟨v1,vs1,d1,ds1,p1,q1,rfl,rfl,rfl,h1,r1⟩:=trodAll_cons r0
 obtain⟨rfl,rfl,rfl⟩:=trodAll_nil r1
 obtain rfl:args=#[v0,v1]:=by cases args;simp_all
 obtain⟨rfl,rfl⟩:=trodVars_none hV
 have k0:=h0
 have lt0: ∀x∈p0,x.block<W.heap.size:=by obtain⟨m,hm⟩:=k0;exact DataW.trod_lt m _ _ _ hm
 obtain⟨fu0,hf0⟩:=h0
 obtain⟨x0,hx0⟩:=ot24.2 _ _ _ _ _ _ _ _ _ hf0
 obtain⟨cs0,rfl,_⟩:=okWide_struct Tryz.underlying24 (hval 0 24 v0 rfl rfl)
 replace hx0:T23.rep W (Z.nt []) cs0.toList x0:=hx0
 have hok0:=Z.rep_ok _ hx0
 obtain⟨a0,c0,hc0⟩: ∃a c,cs0.toList=[.slice a x0.length c]:=by obtain⟨a,c,_,h,_⟩:=hx0;exact⟨a,c,h⟩
 obtain rfl:cs0=#[.slice a0 x0.length c0]:=by rw[←Array.toArray_toList (xs:=cs0),hc0]
 have k1:=h1
 have lt1: ∀x∈p1,x.block<W.heap.size:=by obtain⟨m,hm⟩:=k1;exact DataW.trod_lt m _ _ _ hm
 obtain⟨fu1,hf1⟩:=h1
 obtain⟨x1,hx1⟩:=ot24.2 _ _ _ _ _ _ _ _ _ hf1
 obtain⟨cs1,rfl,_⟩:=okWide_struct Tryz.underlying24 (hval 1 24 v1 rfl rfl)
 replace hx1:T23.rep W (Z.nt []) cs1.toList x1:=hx1
 have hok1:=Z.rep_ok _ hx1
 obtain⟨a1,c1,hc1⟩: ∃a c,cs1.toList=[.slice a x1.length c]:=by obtain⟨a,c,_,h,_⟩:=hx1;exact⟨a,c,h⟩
 obtain rfl:cs1=#[.slice a1 x1.length c1]:=by rw[←Array.toArray_toList (xs:=cs1),hc1]
 clear hA0 hval0
 have htab:=of_laid hL
 have hF:F.L09_DeltaDiffs x0 x1=some true:=deltaDiffs_plain x0 x1 hok0 hok1
 have hct:=L09_DeltaDiffs_ok x0 x1 a0 c0 a1 c1 true hF
 refine(hct W (fun _=>True) (A.Hp.start ⟨A.Hall.sh hx0,A.Hall.sh hx1,A.Hall.tabs htab⟩)).mono ?_
 rintro e W' ⟨v,H',rfl,⟨rfl,rfl⟩,hh⟩
 have bel:=hh.ch.below
 exact⟨_,rfl,_,_,_,[],_,[],hW',trodAll_mk1 (shut_bool Tryz.underlying4 _),(trodAll_cons_mk (Below.trod laidOut (by kernel_rfl) (of_decide_eq_true (by kernel_rfl)) k0 bel lt0) (trodAll_cons_mk (Below.trod laidOut (by kernel_rfl) (of_decide_eq_true (by kernel_rfl)) k1 bel lt1) trodAll_mk0)),rfl,bel.frame _,fun h=>by cases h⟩
theorem over:Rows.deltaDiffsRow.holds Tryz.pinned (OpenSpec.ofChange Rows.deltaDiffsSpec):=
 OpenClaim.holds_of_wide 4 Tryz.f4 rfl rfl rfl rfl rfl rfl rfl ⟨rfl,rfl,rfl,rfl,rfl⟩ rfl rfl rfl rfl rfl (by kernel_rfl) Tryz.func4 (by kernel_rfl)
  (of_decide_eq_true (by kernel_rfl)) (by unfold Func.isWrapper;first|(rw[if_pos (by decide+kernel)];kernel_rfl)|(rw[if_neg (by decide+kernel)];exact⟨rfl,rfl⟩))
  (fun os started H enc _=>lifted os started H enc)
theorem proved:Rows.DeltaDiffsCardSaid:=
 Claim7.holds_tied_plain_at .later [] [.data,.pinned] true (true,"3283e29bffe472c440059c67076ca5d73c2362e7d742c527b7531d87cc96f2ab") false
  over (fun _ h=>by cases h) (by kernel_rfl) (fun _ h=>by cases h) deltaDiffs_row_tie rfl ⟨rfl,rfl⟩ (by kernel_rfl) rfl
  (fun f fn hf hfn=>by
   obtain rfl:f=4:=Option.some.inj ((show Tryz.prog.funcNamed Rows.deltaDiffsRow.func=some 4 by kernel_rfl).symm.trans hf) |>.symm
   obtain rfl:fn=Tryz.f4:=(Option.some.inj (Tryz.func4.symm.trans hfn)).symm
   exact⟨by kernel_rfl,fun j t ht=>by
    rw[Tryz.params4]at ht
    have hm:t∈[24,24]:=by simpa using Array.mem_of_getElem? ht
    have hall:([24,24].all fun u=> !Tryz.prog.wantsStandIn u)=true:=by kernel_rfl
    exact(show Tryz.prog.wantsStandIn t=false by simpa using List.all_eq_true.1 hall t hm)⟩)
  (by kernel_rfl)
#print axioms proved
end Go.Proofs.YtocfaokgoflmhaaGreatDoor.deltaDiffsDone
end
