/- Plain: what a delta touches, told by both; the statement 'DeltaNothing' on data. * Plain: the statement 'DeltaTells' on data. * A small logic over the model's walk, continued: arguments of a row, opened: what a reader treads reads as a datum. No program in sight. * The law 'DeltaTells' as it is given: whatever the input, the call returns true, and each argument reads behind it as it read before. No condition but that utf8's two tables hold what the library's text lays, which the card ties. -/
import Derived.Test.YtocfaokgoflmhaaGreatDoorKE6
import Derived.Test.YtocfaokgoflmhaaGreatDoorKE0
import Derived.OpenShut
import Derived.ShutString
import Derived.ChangeOld
import Derived.ChangeArms
import Derived.DataReads
import Derived.Test.YtocfaokgoflmhaaGreatDoorRows
import Derived.Test.YtocfaokgoflmhaaGreatDoorTie
import Derived.Test.YtocfaokgoflmhaaGreatDoorCards
import Derived.Test.YtocfaokgoflmhaaGreatDoorKE5
import Derived.WalkKit
import Derived.ProofKit
import Derived.Below
import Derived.LaidMore
import Derived.Stop.Joined
import Derived.SevenTiedAt
import Derived.Lib.LaidIn
import Derived.Lib.LaidU8T
import Derived.PinnedBridge
import Derived.SizedLaws
section
set_option linter.unusedVariables false
set_option linter.unusedSimpArgs false
set_option synthInstance.maxSize 1000000
set_option synthInstance.maxHeartbeats 400000
namespace Go.Proofs.YtocfaokgoflmhaaGreatDoor
open Go.RowKit Go.Graph
theorem hit_eq (m:Is)(l:List Int)(hl:l.length≤100000):F.p l m=some (l.any fun k=>Z.mget false m k):=by
 unfold F.p F.af
 rcases A.fst l (fun k=>Z.mget false m k) (fun f y=>F.h l m f y) (fun f=>by rw[F.h,if_neg (by omega)])
  (fun f k x hx hk=>by
   rw[F.h,if_pos (by omega),A.ixn hx,Option.bind_some,F.dE,A.lt,Option.bind_some]
   cases Z.mget false m x with
   |true=>rw[if_pos rfl,if_pos rfl]
   |false=>rw[if_neg Bool.false_ne_true,if_neg Bool.false_ne_true,A.gd1 (A.r64n (by omega))])
  (by have:=FU_big;omega)with⟨h1,h2⟩|⟨k,x,h1,h2,h3,h4⟩
 ·rw[h1,Option.bind_some,List.any_eq_false.2 (fun x hx=>by rw[h2 x hx];simp)];rfl
 ·rw[h2,Option.bind_some,List.any_eq_true.2 ⟨x,List.mem_of_getElem? h1,h3⟩,decide_eq_true (by omega)]
theorem del_eq (m:Is)(l:List Int)(hl:l.length≤100000):F.u l m=some (l.filter fun k=>Z.mget false m k):=by
 unfold F.u F.ag
 have hfil:(l.filter fun k=>Z.mget false m k)=l.filter fun y=> !(!Z.mget false m y):=List.filter_congr fun n _=>by rw[Bool.not_not]
 rcases A.fst l (fun k=> !Z.mget false m k) (fun f y=>F.i l m f y) (fun f=>by rw[F.i,if_neg (by omega)])
  (fun f k x hx hk=>by
   rw[F.i,if_pos (by omega),A.ixn hx,Option.bind_some,F.b4,A.lt,Option.bind_some,A.gd1 (A.r64n (by omega))])
  (by have:=FU_big;omega)with⟨h1,h2⟩|⟨k,x,h1,h2,h3,h4⟩
 ·rw[h1,Option.bind_some,if_pos rfl,hfil,List.filter_eq_self.2 (fun n hn=>by rw[h2 n hn];rfl)]
 ·have hk:=(List.getElem?_eq_some_iff.1 h1).1
  rw[h2,Option.bind_some,if_neg (by omega),A.gd1 (A.r64n (by omega)),hfil]
  exact A.del l (fun k=> !Z.mget false m k) (fun f xs i j=>F.d l m f xs i j)
   (fun f xs i hlen hi=>by
    rw[F.d,if_neg (by omega),A.gd1 ⟨by omega,by omega⟩,A.gd1 ⟨by omega,by simp only[List.length_append,List.length_take,List.length_replicate];omega⟩,Int.toNat_natCast]
    congr 1
    rw[List.take_append_of_le_length (by rw[List.length_take];omega),List.take_take,Nat.min_self])
   (fun f xs i j x hx hij hj hlen=>by
    have hi:xs[i]?=some xs[i]:=List.getElem?_eq_getElem (by omega)
    rw[F.d,if_pos (by omega),A.ixn hx,Option.bind_some,F.b4,A.lt,Option.bind_some]
    simp only[F.n]
    cases Z.mget false m x with
    |false=>simp only[Bool.not_false,Bool.not_true,Bool.false_eq_true,if_false,if_true];rw[A.gd1 (A.r64n (by omega))]
    |true=>simp only[Bool.not_false,Bool.not_true,Bool.false_eq_true,if_false,if_true];rw[A.ixn hi,Option.bind_some,A.gd1 (A.r64n (by omega)),A.gd1 (A.r64n (by omega)),Int.toNat_natCast])
   h1 h3 h4 (by have:=FU_big;omega)
theorem touch_l3 (k4:Is→Bool→Option (List Int×Int))(r3:List Nd×Int)(hr:Sml r3.1)(m:Is)(b:Bool):F.aj k4 r3 A.FU m b 0=k4 (passF r3.1 m b).1 (passF r3.1 m b).2:=by
 have hrl:=hr.1
 exact A.lp r3.1 (fun f (s:Is×Bool) y=>F.aj k4 r3 f s.1 s.2 y) (fun _ l s=>k4 (passF l s.1 s.2).1 (passF l s.1 s.2).2) (fun _ _=>True)
  (fun f s _=>by rw[F.aj,if_neg (by omega),passF])
  (fun f s k x hx hk _ ih=>by
   rw[F.aj,if_pos (by omega),A.ixn hx,Option.bind_some,A.lt,passF,hit_eq _ _ (by have:=hr.in (List.mem_of_getElem? hx);omega),Option.bind_some]
   simp only[F.cs,F.cr,A.gd1 (A.r64n (n:=k) (by omega))]
   have i1:=ih (Z.mins s.1 x.1 true,true) trivial
   have i2:=ih s trivial
   simp only[]at i1 i2
   rw[i1,i2,show(x.2.2.1.any fun k=>Z.mget false s.1 k)=hitM s.1 x from rfl]
   cases Z.mget false s.1 x.1<;>cases hitM s.1 x<;>simp)
  (by have:=FU_big;omega) (m,b) trivial
theorem touch_fold (r3:List Nd×Int): ∀(l:List Int) (m:Is),∃m',F.aW r3 l m=F.ak r3 A.FU m' true∧∀k,Z.mget false m' k=(decide (k∈l)||Z.mget false m k)
 | [],m=>⟨m,by rw[F.aW],fun k=>by simp⟩
 |y::l,m=>by
  obtain⟨m',h1,h2⟩:=touch_fold r3 l (Z.mins m y true)
  refine⟨m',by rw[F.aW,h1],fun k=>?_⟩
  rw[h2,mgi]
  by_cases a:k=y<;>by_cases b:k∈l<;>simp[a,b]
theorem each_eq (l:List Int)(hl:l.length≤100000):F.cD l=some l:=
 A.lp0 l (fun f y=>F.aV l f y) (fun _ r=>some r)
  (fun f=>by rw[F.aV,if_neg (by omega)])
  (fun f k x hx hk ih=>by rw[F.aV,if_pos (by omega),A.ixn hx,Option.bind_some,A.gd1 (A.r64n (by omega)),ih];rfl)
  (by have:=FU_big;omega)
theorem touch_l4 (r3:List Nd×Int)(put:Int→Bool)(hr:Sml r3.1)(hi:Inc r3.1): ∀(n f:Nat) (m:Is),unM r3.1 m≤n→n+2≤f→(∀k,Z.mget false m k=true→k∈itN r3.1 put r3.1.length [])→(∀k,put k=true→Z.mget false m k=true)→
  F.ak r3 f m true=some (itN r3.1 put r3.1.length [],0)
 |n,0,m,_,hf,_,_=>by omega
 |n,f+1,m,hn,hf,h1,h2=>by
  have hrl:=hr.1
  have hA: ∀x∈r3.1,hitB put (itN r3.1 put r3.1.length []) x=true→x.1∈itN r3.1 put r3.1.length []:=fun x hx hh=>by
   rw[←it_fix]
   exact List.mem_map.2 ⟨x,List.mem_filter.2 ⟨hx,hh⟩,rfl⟩
  obtain⟨p1,p2,p3,p4,p5⟩:=o_aZ hA r3.1 m false (fun _ h=>h) h1
  rw[F.ak,if_pos rfl,touch_l3 _ r3 hr]
  cases hb:(passF r3.1 m false).2 with
  |false=>
   obtain⟨_,q2,q3⟩:=p5 hb
   obtain⟨f,rfl⟩: ∃f',f=f'+1:=⟨f-1,by omega⟩
   rw[F.ak,if_neg Bool.false_ne_true,ids_eq _ (by omega),Option.bind_some,del_eq _ _ (by rw[List.length_map];omega),Option.bind_some,q2,touch_eq hi h1 h2 q3]
  |true=>
   have hlt:unM r3.1 (passF r3.1 m false).1+1≤unM r3.1 m:=by
    rcases p3 hb with h|h
    ·cases h
    ·exact h
   exact touch_l4 r3 put hr hi (n-1) f _ (by omega) (by omega) p1 fun k hk=>p2 k (h2 k hk)
theorem touched_P (g:List Nd)(d:Dl)(x:List Nd)(h:F.ao g d=some (x,0))(M:Made g d x)(hd:d.2.1.length≤1000):F.bf g d=some (itN x (hs d.2.1) x.length [],0):=by
 unfold F.bf
 rw[show F.ao g d=some (x,0)from h,Option.bind_some,if_neg (show ¬((x,(0:Int)).2≠0)from fun h=>h rfl),ids_eq _ (by omega),Option.bind_some,F.dh,Option.bind_some,each_eq _ (by rw[List.length_map];omega),Option.bind_some]
 obtain⟨m',h1,h2⟩:=touch_fold (x,0) (d.2.1.map (·.1)) []
 have hm: ∀k,Z.mget false m' k=true↔hs d.2.1 k=true:=fun k=>by
  rw[h2,show Z.mget false ([]:Is) k=false from rfl,Bool.or_false,decide_eq_true_iff,show(hs d.2.1 k=true)=(∃n∈d.2.1,n.1=k)from propext has_mem,List.mem_map]
 rw[h1]
 refine touch_l4 (x,0) (hs d.2.1) M.sml M.new.inc _ A.FU m' (Nat.le_refl _) ?_ (fun k hk=>?_) fun k hk=>(hm k).2 hk
 ·have:unM x m'≤x.length:=List.length_filter_le _ _
  have h3:=M.sml.1;have:=FU_big
  show unM x m'+2≤A.FU
  omega
 ·have hp:=(hm k).1 hk
  obtain⟨n,hn,e⟩:=has_mem.1 hp
  have hnx:n∈x:=(M.mem n).2 (.inl hn)
  show k∈itN x (hs d.2.1) x.length []
  rw[←it_fix]
  refine List.mem_map.2 ⟨n,List.mem_filter.2 ⟨hnx,?_⟩,e⟩
  unfold hitB;rw[e,hp];rfl
theorem touch_R3 (k39:List Int→Int→Option (List Int×Int))(T s:List Int)(y:Nat)(x:Nd)(b:Bool)(hx:x.2.2.1.length≤5000)(hT:T.length≤1000)(hsl:s.length≤1000)(hy:y≤1000):
  F.aQ k39 T s (y:Int) x A.FU b 0=k39 (if(b||x.2.2.1.any fun k=>decide (k∈T))=true then s++[x.1]else s) ((y:Int)+1):=
 A.lp x.2.2.1 (fun f (c:Bool) i=>F.aQ k39 T s (y:Int) x f c i) (fun _ l c=>k39 (if(c||l.any fun k=>decide (k∈T))=true then s++[x.1]else s) ((y:Int)+1)) (fun _ _=>True)
  (fun f c _=>by
   rw[F.aQ,if_neg (by omega)]
   simp only[F.db,List.any_nil,Bool.or_false,A.gd1 (A.r64n (n:=y) (by omega))]
   cases c with
   |true=>rw[if_pos rfl,if_pos rfl,A.gd1 (by simp only[List.length_cons,List.length_nil];omega)]
   |false=>rw[if_neg Bool.false_ne_true,if_neg Bool.false_ne_true])
  (fun f c i z hz hi _ ih=>by
   rw[F.aQ,if_pos (by omega)]
   simp only[F.dc,A.gd1 (A.r64n (n:=i) (by omega))]
   cases c with
   |true=>rw[if_pos rfl,ih true trivial];simp
   |false=>rw[if_neg Bool.false_ne_true,A.ixn hz,Option.bind_some,has_eq T z (by omega),Option.bind_some,ih _ trivial];rfl)
  (by have:=FU_big;omega) b trivial
theorem touch_R4 (k31:List Int→Int→Option (List Int×Int))(d:Dl)(r3:List Nd×Int)(T:List Int)(y:Nat)(hr:Sml r3.1)(hd:d.2.1.length≤1000)(hT:T.length≤1000)(hy:y≤1000):
  F.aG k31 d r3 T (y:Int) A.FU [] 0=k31 (stp r3.1 (hs d.2.1) T) ((y:Int)+1):=by
 have hrl:=hr.1
 have:=A.lp r3.1 (fun f (s:List Int) i=>F.aG k31 d r3 T (y:Int) f s i) (fun _ l s=>k31 (s++stp l (hs d.2.1) T) ((y:Int)+1)) (fun k s=>s.length≤k)
  (fun f s _=>by rw[F.aG,if_neg (by omega),A.gd1 (A.r64n (by omega))];simp[stp])
  (fun f s k x hx hk hsl ih=>by
   rw[F.aG,if_pos (by omega),A.ixn hx,Option.bind_some,Get_eq d.2.1 x.1 (by omega),Option.bind_some,touch_R3 _ T s k x _ (hr.in (List.mem_of_getElem? hx)) hT (by omega) (by omega)]
   rw[ih _ (by split<;>(try simp only[List.length_append,List.length_cons,List.length_nil])<;>omega)]
   congr 1
   unfold stp
   rw[List.filter_cons,show hitB (hs d.2.1) T x=(hs d.2.1 x.1||x.2.2.1.any fun k=>decide (k∈T))from rfl]
   cases (hs d.2.1 x.1||x.2.2.1.any fun k=>decide (k∈T))with
   |true=>rw[if_pos rfl,if_pos rfl,List.map_cons,List.append_assoc];rfl
   |false=>rw[if_neg Bool.false_ne_true,if_neg Bool.false_ne_true])
  (by have:=FU_big;omega) [] (Nat.le_refl _)
 rw[List.nil_append]at this;exact this
theorem stp_len (N:List Nd)(put:Int→Bool)(T:List Int):(stp N put T).length≤N.length:=by
 unfold stp;rw[List.length_map];exact List.length_filter_le _ _
theorem touched_R (g:List Nd)(d:Dl)(x:List Nd)(h:F.bM g d=some (x,0))(hx:Sml x)(hd:d.2.1.length≤1000):F.ch g d=some (itN x (hs d.2.1) x.length [],0):=by
 have hxl:=hx.1
 unfold F.ch
 rw[show F.bM g d=some (x,0)from h,Option.bind_some,if_neg (show ¬((x,(0:Int)).2≠0)from fun h=>h rfl)]
 exact A.lp x (fun f (s:List Int) i=>F.aH d (x,0) f s i) (fun _ l s=>some (itN x (hs d.2.1) l.length s,0)) (fun _ s=>s.length≤1000)
  (fun f s _=>by rw[F.aH,if_neg (show ¬((x.length:Int)<((x,(0:Int)).1.length:Int))from Int.lt_irrefl _),List.length_nil,itN])
  (fun f s k z hz hk hsl ih=>by
   have h2:=stp_len x (hs d.2.1) s
   rw[F.aH,if_pos (show(k:Int)<((x,(0:Int)).1.length:Int) by show(k:Int)<(x.length:Int);omega),touch_R4 _ d (x,0) s k hx hd hsl (by omega)]
   rw[show stp (x,(0:Int)).1 (hs d.2.1) s=stp x (hs d.2.1) s from rfl,ih _ (by omega),List.length_cons,itN])
  (by have:=FU_big;omega) [] (by simp)
theorem EqM (a b:List Mv)(ha:a.length≤1000):F.ax a b=some (decide (a=b)):=by
 unfold F.ax
 by_cases hl:a.length=b.length
 ·rw[if_neg (by omega)]
  rw[A.eqk a b (fun f y=>F.o a b f y) (some true) (some false) hl (fun f=>by rw[F.o,if_neg (by omega)])
   (fun f k u v hu hv hk=>by
    rw[F.o,if_pos (by omega),A.ixn hu,Option.bind_some,A.ixn hv,Option.bind_some]
    by_cases h:u=v
    ·rw[if_neg (show ¬(u≠v)from fun hn=>hn h),if_pos h,A.gd1 (A.r64n (by omega))]
    ·rw[if_pos (show(u≠v)from fun hn=>h hn),if_neg h]) (by have:=FU_big;omega),A.ite_dec]
 ·rw[if_pos (by omega),decide_eq_false (fun e=>hl (by rw[e]))]
theorem P_SameD (d e:Dl)(hd:SzD d):F.d9 d e=some (decide (d=e)):=by
 have h1:=hd.dl;have h2:=hd.ml
 have x:=dl_ext (x:=d) (y:=e)
 unfold F.d9 F.d8
 rw[EqI _ _ (by omega),Option.bind_some,Option.bind_some,P_Same _ _ hd.put,Option.bind_some,EqM _ _ h2,Option.bind_some]
 simp only[F.cC]
 by_cases c1:d.1=e.1
 case neg=>rw[if_neg (by rw[decide_eq_true_iff];exact c1),decide_eq_false (fun h=>c1 (x.1 h).1)]
 by_cases c2:d.2.1=e.2.1
 case neg=>rw[if_pos (decide_eq_true c1),if_neg (by rw[decide_eq_true_iff];exact c2),decide_eq_false (fun h=>c2 (x.1 h).2.1)]
 rw[if_pos (decide_eq_true c1),if_pos (decide_eq_true c2)]
 congr 1
 exact decide_eq_decide.2 ⟨fun h=>x.2 ⟨c1,c2,h⟩,fun h=>(x.1 h).2.2⟩
def stayB (d:Dl)(n:Nd):Bool:=keepB n.2.1&& !hs d.2.1 n.1&& !decide (n.1∈d.1)
theorem stays_P (g:List Nd)(d:Dl)(e:Int)(hg:g.length≤1000)(h1:d.1.length≤1000)(h2:d.2.1.length≤1000)(hc:F.cN g d=some e)(hi:e=0→Inc d.2.1):F.dC g d=some (if e=0 then(g.filter (stayB d)).map (·.1)else []):=by
 unfold F.dC
 rw[show F.cN g d=some e from hc,Option.bind_some]
 by_cases h0:e=0
 case neg=>rw[if_neg h0,if_neg h0,F.cm,F.dh];rfl
 rw[if_pos h0,if_pos h0,byId_eq _ (hi h0) (by omega),Option.bind_some]
 have:=A.lp g (fun f (s:List Int) i=>F.aF g d (mapOf d.2.1) f s i) (fun _ l s=>some (s++(l.filter (stayB d)).map (·.1))) (fun k s=>s.length≤k)
  (fun f s _=>by rw[F.aF,if_neg (by omega),F.cm,F.dh];simp)
  (fun f s k x hx hk hsl ih=>by
   rw[F.aF,if_pos (by omega),A.ixn hx,Option.bind_some,A.lt,keeps_eq,Option.bind_some,contains_eq _ _ (by omega),Option.bind_some]
   have hj: ∀y,F.cn (F.aF g d (mapOf d.2.1) f) s (k:Int) x y=some (s++((if y=true then [x.1]else [])++((g.drop (k+1)).filter (stayB d)).map (·.1))):=fun y=>by
    rw[F.cn]
    simp only[F.da]
    cases y with
    |true=>rw[if_pos rfl,if_pos rfl,A.gd1 (by simp only[List.length_cons,List.length_nil];omega),A.gd1 (A.r64n (by omega)),ih _ (by simp only[List.length_append,List.length_cons,List.length_nil];omega),List.append_assoc]
    |false=>rw[if_neg Bool.false_ne_true,if_neg Bool.false_ne_true,A.gd1 (A.r64n (by omega)),ih s (by omega),List.nil_append]
   rw[hj,hj,List.filter_cons,stayB,show Z.mhas (mapOf d.2.1) x.1=hs d.2.1 x.1 from rfl,Bool.cond_eq_ite]
   generalize hs d.2.1 x.1=bb
   cases keepB x.2.1<;>cases bb<;>by_cases h:x.1∈d.1<;>simp[h])
  (by have:=FU_big;omega) [] (Nat.le_refl _)
 rw[List.nil_append]at this;exact this
theorem stays_R (g:List Nd)(d:Dl)(e:Int)(hg:g.length≤1000)(h1:d.1.length≤1000)(h2:d.2.1.length≤1000)(hc:F.cg g d=some e):F.eB g d=some (if e=0 then(g.filter (stayB d)).map (·.1)else []):=by
 unfold F.eB
 rw[show F.cg g d=some e from hc,Option.bind_some]
 by_cases h0:e=0
 case neg=>rw[if_pos h0,if_neg h0]
 have n0: ¬(e≠0):=fun h=>h h0
 rw[if_neg n0,if_pos h0]
 have:=A.lp g (fun f (s:List Int) i=>F.aY g d f s i) (fun _ l s=>some (s++(l.filter (stayB d)).map (·.1))) (fun k s=>s.length≤k)
  (fun f s _=>by rw[F.aY,if_neg (by omega)];simp)
  (fun f s k x hx hk hsl ih=>by
   rw[F.aY,if_pos (by omega),A.ixn hx,Option.bind_some,Get_eq d.2.1 x.1 (by omega),Option.bind_some,F.eK,A.ixn hx,Option.bind_some,Holds_eq,Option.bind_some]
   have hj: ∀y,F.de (F.aY g d f) g s (k:Int) y=some (s++((if y=true then [x.1]else [])++((g.drop (k+1)).filter (stayB d)).map (·.1))):=fun y=>by
    rw[F.de]
    simp only[F.dY]
    cases y with
    |true=>rw[if_pos rfl,if_pos rfl,A.ixn hx,Option.bind_some,A.gd1 (by simp only[List.length_cons,List.length_nil];omega),A.gd1 (A.r64n (by omega)),ih _ (by simp only[List.length_append,List.length_cons,List.length_nil];omega),List.append_assoc]
    |false=>rw[if_neg Bool.false_ne_true,if_neg Bool.false_ne_true,A.gd1 (A.r64n (by omega)),ih s (by omega),List.nil_append]
   rw[hj,Option.bind_some,has_eq _ _ (by omega),Option.bind_some,hj,List.filter_cons,stayB,Bool.cond_eq_ite]
   change (if(if keepB x.2.1=true then !(hs d.2.1 x.1)else false)=true then _ else _)=_
   generalize hs d.2.1 x.1=bb
   cases keepB x.2.1<;>cases bb<;>by_cases h:x.1∈d.1<;>simp[h])
  (by have:=FU_big;omega) [] (Nat.le_refl _)
 rw[List.nil_append]at this;exact this
theorem collect_eq (l:List Int)(hl:l.length≤10000):F.ap l=some l:=by
 unfold F.ap F.aq
 rw[each_eq l (by omega),Option.bind_some]
 have: ∀(r s:List Int),s.length+r.length≤10000→F.f r s=some (s++r):=by
  intro r
  induction r with
  |nil=>intro s _;rw[F.f,List.append_nil]
  |cons x r ih=>
   intro s h
   simp only[List.length_cons]at h
   rw[F.f,A.gd1 (by simp only[List.length_cons,List.length_nil];omega),ih _ (by simp only[List.length_append,List.length_cons,List.length_nil];omega),List.append_assoc];rfl
 rw[this l [] (by simpa using hl),List.nil_append,Option.bind_some]
theorem invert_same (g:List Nd)(d:Dl)(x:List Nd)(e:Int)(hg:Sml g)(hx:Sml x)(a1:F.ao g d=some (x,e))(a2:F.bM g d=some (x,e)): ∃b i,F.dd g d=some (b,i)∧F.d7 g d=some (b,i)∧SzD b:=by
 unfold F.dd F.d7
 rw[show F.ao g d=some (x,e)from a1,show F.bM g d=some (x,e)from a2,Option.bind_some,Option.bind_some]
 by_cases h0:e=0
 case neg=>rw[if_pos h0,if_pos h0];exact⟨_,_,rfl,rfl,szd_nil⟩
 have n0: ¬((x,e).2≠0):=fun h=>h h0
 rw[if_neg n0,if_neg n0]
 obtain⟨e1,c1,c2,c3,_⟩:=check_same x hx
 obtain⟨e2,k1,k2,k3,_⟩:=check_same g hg
 rw[show F.d6 (x,e).1 g=_ from diff_P x g hx hg e1 e2 c1 k1 c3 k3,show F.eR (x,e).1 g=_ from diff_R x g hx hg e1 e2 c2 k2 c3 k3,Option.bind_some]
 exact⟨(diffV x g e1 e2).1,(diffV x g e1 e2).2,rfl,rfl,diffV_sz x g hx hg e1 e2⟩
theorem touched_same (g:List Nd)(d:Dl)(x:List Nd)(e:Int)(hd:d.2.1.length≤1000)(a1:F.ao g d=some (x,e))(a2:F.bM g d=some (x,e))(M:e=0→Made g d x): ∃l i,F.bf g d=some (l,i)∧F.ch g d=some (l,i)∧l.length≤1000:=by
 by_cases h0:e=0
 ·subst h0
  have M:=M rfl
  refine⟨_,_,touched_P g d x a1 M hd,touched_R g d x a2 M.sml hd,?_⟩
  have h1:=M.sml.1
  rw[←it_fix]
  have:=stp_len x (hs d.2.1) (itN x (hs d.2.1) x.length [])
  omega
 ·unfold F.bf F.ch
  rw[show F.ao g d=some (x,e)from a1,show F.bM g d=some (x,e)from a2,Option.bind_some,Option.bind_some,if_pos h0,if_pos h0]
  exact⟨[],e,rfl,rfl,by simp⟩
theorem deltaTells_plain {P Q R:Prop}(g:List Nd)(d o:Dl)(_:P)(_:Q)(_:R):F.df g d o=some true:=by
 unfold F.df
 rw[live9,few_eq [g] (by simp),show F.dI d=_ from thin_eq d,show F.dI o=_ from thin_eq o]
 have hj:F.aR g d o true=some true:=by rw[F.aR,if_pos rfl]
 simp only[Option.bind_some,Bool.not_true,Bool.false_eq_true,if_false,List.all_cons,List.all_nil,Bool.and_true]
 cases hf:fewB g with
 |false=>rw[if_pos (show(!false)=true from rfl)];exact hj
 |true=>
  rw[if_neg (show ¬(!true)=true from Bool.false_ne_true)]
  cases ht:(fewB d.2.1&&decide ((d.1.length:Int)≤60)&&decide ((d.2.2.length:Int)≤60))with
  |false=>rw[if_pos (show(!false)=true from rfl)];exact hj
  |true=>
   rw[if_neg (show ¬(!true)=true from Bool.false_ne_true)]
   cases ho:(fewB o.2.1&&decide ((o.1.length:Int)≤60)&&decide ((o.2.2.length:Int)≤60))with
   |false=>exact hj
   |true=>
    obtain⟨hl,hg⟩:=fewB_sml hf
    have hd:=thinD ht
    have hdl:=hd.dl;have hpl:=hd.pl
    obtain⟨x,e,a1,a2,a3,a4,a5⟩:=apply_same g d hg hl hd
    have hx:Sml x:=by
     by_cases h:e=0
     ·exact(a5 h).sml
     ·rw[a4 h];exact sml_nil
    have hck:F.cN g d=some e:=by
     unfold F.cN
     rw[show F.ao g d=some (x,e)from a1];rfl
    obtain⟨l,i,t1,t2,t3⟩:=touched_same g d x e (by omega) a1 a3 a5
    obtain⟨b,j,v1,v2,v3⟩:=invert_same g d x e hg hx a1 a3
    have s1:=stays_P g d e (by omega) (by omega) (by omega) hck fun h=>(a5 h).inc
    have s2:=stays_R g d e (by omega) (by omega) (by omega) a2
    generalize hS:(if e=0 then(g.filter (stayB d)).map (·.1)else [])=S at s1 s2
    have hSl:S.length≤1000:=by
     rw[←hS];split
     ·rw[List.length_map];have:=List.length_filter_le (stayB d) g;omega
     ·simp
    rw[Bool.not_true,F.aR,if_neg Bool.false_ne_true]
    rw[show F.dC g d=some S from s1,Option.bind_some,show F.bf g d=some (l,i)from t1,Option.bind_some,show F.ch g d=some (l,i)from t2,Option.bind_some,show F.dd g d=some (b,j)from v1,Option.bind_some,show F.d7 g d=some (b,j)from v2,Option.bind_some,collect_eq S (by omega),Option.bind_some,show F.eB g d=some S from s2,Option.bind_some,EqI S S (by omega),Option.bind_some,decide_eq_true (show S=S from rfl),if_pos rfl]
    rw[show F.z (l,i).1 (l,i).1=some true from by rw[EqI _ _ (show l.length≤100000 by omega),decide_eq_true rfl],Option.bind_some,decide_eq_true (show(l,i).2=(l,i).2 from rfl),cond_true,if_pos rfl]
    rw[show F.dl ((b,j).1.1,(b,j).1.2.1,(b,j).1.2.2) ((b,j).1.1,(b,j).1.2.1,(b,j).1.2.2)=some true from R_SameD_self v3,Option.bind_some,decide_eq_true (show(b,j).2=(b,j).2 from rfl),cond_true,if_pos rfl]
    rw[show F.d9 d o=some (decide (d=o))from P_SameD d o hd.sz,Option.bind_some,show F.dl d o=some (decide (d=o))from R_SameD d o hd.sz,Option.bind_some,F.a5,beq_self_eq_true]
end Go.Proofs.YtocfaokgoflmhaaGreatDoor
end
section
namespace Go.Z
open Go.RowKit
def OpenT (P:Program)(T:TypeId)(t:Ty):Prop:=
 P.cellsOf T=t.size∧∀(H:Type) (enc:TypeId×Value→H) (w:World) (base:Nat) (spare:Nat→Bool) (held:Bool) (fuel:Nat) (cs:List Value) (x:DataW H×List MemPlace),
  DataW.trod enc P w base spare held fuel T cs=some x→∃y:t.den,t.rep w (nt []) cs y
section
variable {P:Program}{T e:TypeId}
theorem ot_int {k:IntKind}(hc:P.cellsOf T=1)(ht:P.underlying T=some (.int k)):OpenT P T (.int k):=⟨hc,fun H enc w base spare held fuel cs x h=>by
 obtain⟨n,rfl,_,hw⟩:=DataW.trod_int ht h
 refine⟨n,rfl,?_⟩
 simp only[Lit.wf,Bool.and_eq_true,decide_eq_true_eq]at hw
 exact hw⟩
theorem ot_str (hc:P.cellsOf T=1)(ht:P.underlying T=some .string):OpenT P T .str:=⟨hc,fun H enc w base spare held fuel cs x h=>by
 obtain⟨s,rfl,_,hs⟩:=DataW.trod_string ht h
 exact⟨s,rfl,hs⟩⟩
def OpenPs (P:Program):List (TypeId×Nat)→Nat→Ty→Prop
 | [],_,_=>False
 | [(T,o')],o,t=>o'=o∧OpenT P T t
 |(T,o')::p::ps,o,.pair a b=>o'=o∧OpenT P T a∧OpenPs P (p::ps) (o+a.size) b
 |_::_::_,_,_=>False
theorem open_ps {H:Type}{enc:TypeId×Value→H}{w:World}{base:Nat}{spare:Nat→Bool}{held:Bool}{fuel:Nat}{cs:List Value}:
  ∀(ps:List (TypeId×Nat)) (o:Nat) (t:Ty),OpenPs P ps o t→(∀p∈ps,∃x,DataW.trod enc P w base spare held fuel p.1 ((cs.drop p.2).take (P.cellsOf p.1))=some x)→∃y:t.den,t.rep w (nt []) ((cs.drop o).take t.size) y
 | [],_,_,h,_=>h.elim
 | [(T,o')],o,t,h,hx=>by
  obtain⟨rfl,⟨hc,ho⟩⟩:=h
  obtain⟨x,hx⟩:=hx (T,o') (List.mem_singleton.2 rfl)
  rw[←hc];exact ho _ _ _ _ _ _ _ _ _ hx
 |(T,o')::p::ps,o,.pair a b,h,hx=>by
  obtain⟨rfl,⟨hc,ho⟩,hr⟩:=h
  obtain⟨x,h1⟩:=hx (T,o') (List.mem_cons_self ..)
  obtain⟨ya,hya⟩:=ho _ _ _ _ _ _ _ _ _ h1
  obtain⟨yb,hyb⟩:=open_ps (p::ps) _ b hr fun q hq=>hx q (List.mem_cons_of_mem _ hq)
  refine⟨(ya,yb),_,_,?_,hya,hyb⟩
  show(cs.drop o').take (a.size+b.size)=_
  rw[hc,List.take_add,List.drop_drop]
 |_::_::_,_,.int _,h,_=>h.elim
 |_::_::_,_,.byte,h,_=>h.elim
 |_::_::_,_,.bool,h,_=>h.elim
 |_::_::_,_,.str,h,_=>h.elim
 |_::_::_,_,.slice _,h,_=>h.elim
theorem ot_struct {fs:List Field}{t:Ty}(hc:P.cellsOf T=t.size)(ht:P.underlying T=some (.struct fs.toArray))(h:OpenPs P (fs.map fun f=>(f.type,f.offset)) 0 t):OpenT P T t:=⟨hc,fun H enc w base spare held fuel cs x hx=>by
 obtain⟨xs,n,_,_,hl,hs,hf⟩:=DataW.trod_struct ht hx
 have hcs:cs=(cs.drop 0).take t.size:=by rw[List.drop_zero,List.take_of_length_le (by omega)]
 rw[hcs]
 refine open_ps (fuel:=n) (enc:=enc) (base:=base) (spare:=spare) (held:=held) _ 0 t h fun p hp=>?_
 obtain⟨f,hf1,rfl⟩:=List.mem_map.1 hp
 obtain⟨i,hi,he⟩:=List.getElem_of_mem hf1
 have h1:=hf i f (by rw[List.getElem?_toArray,List.getElem?_eq_getElem hi,he])
 rw[h1,List.getElem?_eq_getElem (by rw[hs];simpa using hi)]
 exact⟨_,rfl⟩⟩
theorem rows_of {t:Ty}{w:World}{g:Addr}: ∀(n:Nat),(∀i,i<n→∃(cs:List Value) (y:t.den),cs.length=t.size∧(∀j u,cs[j]?=some u→w.cell? (g.add (i*t.size+j))=some u)∧t.rep w (nt []) cs y)→
  ∃(cells:List Value) (ys:List t.den),ys.length=n∧cells.length=n*t.size∧(∀j u,cells[j]?=some u→w.cell? (g.add j)=some u)∧∀(i:Nat) (y:t.den),ys[i]?=some y→t.rep w (nt []) ((cells.drop (i*t.size)).take t.size) y
 |0,_=>⟨[],[],rfl,by simp,by simp,by simp⟩
 |n+1,h=>by
  obtain⟨cells,ys,h1,h2,h3,h4⟩:=rows_of n fun i hi=>h i (by omega)
  obtain⟨cs,y,c1,c2,c3⟩:=h n (by omega)
  refine⟨cells++cs,ys++[y],by simp[h1],by rw[List.length_append,h2,c1,Nat.succ_mul],fun j u hj=>?_,?_⟩
  ·by_cases hlt:j<cells.length
   ·rw[List.getElem?_append_left hlt]at hj;exact h3 j u hj
   ·rw[List.getElem?_append_right (by omega)]at hj
    have:=c2 _ u hj
    rwa[h2,show n*t.size+(j-n*t.size)=j by omega]at this
  ·refine rep_append (xs:=ys) (ys:=[y]) (by rw[h2,h1]) h4 fun i y' hi=>?_
   have:i=0:=by have:=(List.getElem?_eq_some_iff.1 hi).1;simp at this;omega
   subst this
   simp at hi;subst hi
   rw[Nat.zero_mul,List.drop_zero,List.take_of_length_le (by omega)];exact c3
theorem ot_slice {t:Ty}(hc:P.cellsOf T=1)(ht:P.underlying T=some (.slice e))(h:OpenT P e t):OpenT P T (.slice t):=⟨hc,fun H enc w base spare held fuel cs x hx=>by
 rcases DataW.trod_slice ht hx with⟨rfl,_⟩|⟨ad,len,cap,elems,rest,n,_,rfl,_,hb,hl,hm,hlen,hel,_,_⟩
 ·exact⟨[],rep_nil _⟩
 ·have each: ∀i,i<len→∃(cs:List Value) (y:t.den),cs.length=t.size∧(∀j u,cs[j]?=some u→w.cell? (ad.add (i*t.size+j))=some u)∧t.rep w (nt []) cs y:=fun i hi=>by
   have h1:=hel i hi
   rw[List.getElem?_eq_getElem (by omega),Option.bind_eq_some_iff]at h1
   obtain⟨cs',h2,h3⟩:=h1
   obtain⟨_,h4,h5⟩:=World.cells?_some h2
   obtain⟨y,hy⟩:=h.2 _ _ _ _ _ _ _ _ _ h3
   rw[h.1]at h4 h5
   refine⟨cs',y,h4,fun j u hj=>?_,hy⟩
   have hlt:=(List.getElem?_eq_some_iff.1 hj).1
   have:=h5 j (by omega)
   rw[add_add]at this
   rw[this,hj]
  obtain⟨cells,ys,h1,h2,h3,h4⟩:=rows_of len each
  by_cases hz:len=0
  ·subst hz
   have:ys=[]:=List.eq_nil_of_length_eq_zero h1
   subst this
   exact⟨[],some ad,cap,[],rfl,by simp,hm,by simp,.inl rfl,by simp⟩
  ·have hp:=pos_size t
   have hlt:0<cells.length:=by rw[h2];exact Nat.mul_pos (by omega) hp
   have h0:=h3 0 _ (List.getElem?_eq_getElem hlt)
   have hspot:=World.cell?_spot h0
   obtain⟨b,off,spot⟩:=ad
   simp only[Addr.add]at hspot
   subst hspot
   refine⟨ys,some ⟨b,off,none⟩,cap,cells,by rw[h1],by omega,hm,by rw[h1];exact h2,.inr ⟨b,off,rfl,by simp[nt],fun j u hj=>?_⟩,h4⟩
   have:=h3 j u hj
   rwa[Addr.add_lit]at this⟩
end
end Go.Z
end
section
namespace Go.Proofs.YtocfaokgoflmhaaGreatDoor.deltaTellsDone
open Go.ChangeShapes Go.WideShapes Go.ChangeAt Go.RowKit
set_option linter.unusedVariables false
theorem own:ownKnob Tryz.prog.godebug=none:=by kernel_rfl
theorem laidOut:laidOutB Tryz.prog=true:=by kernel_rfl
theorem ot3:Z.OpenT Tryz.prog 3 A.ti:=Z.ot_int (by kernel_rfl) Tryz.underlying3
theorem ot25:Z.OpenT Tryz.prog 25 A.TI:=Z.ot_slice (by kernel_rfl) Tryz.underlying25 ot3
theorem ot2:Z.OpenT Tryz.prog 2 A.ti:=Z.ot_int (by kernel_rfl) Tryz.underlying2
theorem ot9:Z.OpenT Tryz.prog 9 Z.Ty.str:=Z.ot_str (by kernel_rfl) Tryz.underlying9
theorem ot68:Z.OpenT Tryz.prog 68 T67:=Z.ot_struct (by kernel_rfl) Tryz.underlying68 ⟨rfl,ot3,rfl,ot2,rfl,ot9⟩
theorem ot70:Z.OpenT Tryz.prog 70 T69:=Z.ot_struct (by kernel_rfl) Tryz.underlying70 ⟨rfl,ot3,rfl,ot3,rfl,ot25,rfl,ot68,rfl,ot9,rfl,ot2,rfl,ot3⟩
theorem ot22:Z.OpenT Tryz.prog 22 (Z.Ty.slice T69):=Z.ot_slice (by kernel_rfl) Tryz.underlying22 ot70
theorem ot24:Z.OpenT Tryz.prog 24 T23:=Z.ot_struct (by kernel_rfl) Tryz.underlying24 ⟨rfl,ot22⟩
theorem ot83:Z.OpenT Tryz.prog 83 T82:=Z.ot_struct (by kernel_rfl) Tryz.underlying83 ⟨rfl,ot3,rfl,ot3,rfl,ot3,rfl,ot2,rfl,ot68⟩
theorem ot26:Z.OpenT Tryz.prog 26 (Z.Ty.slice T82):=Z.ot_slice (by kernel_rfl) Tryz.underlying26 ot83
theorem ot28:Z.OpenT Tryz.prog 28 T27:=Z.ot_struct (by kernel_rfl) Tryz.underlying28 ⟨rfl,ot25,rfl,ot22,rfl,ot26⟩
set_option maxRecDepth 100000 in
theorem laid_met (os:Os)(args:Array Value):laidMetH Tryz.prog Rows.deltaTellsRow.laid (({World.holding Tryz.prog os ⟨#[],#[],[]⟩with heap:=((World.holding Tryz.prog os ⟨#[],#[],[]⟩).heap.modify 0 (A.putCells A.tabF)).modify 1 (A.putCells A.tabA)}:World).forCall (fun _ _=>0) ⟨#[],args,[]⟩).memory:=by
 rw[MakeChecks.laidMetH_plain _ _ _ (by kernel_rfl)]
 exact(LaidIn.of_run (l:=Rows.deltaTellsRow.laid) [1,0] 8 (by kernel_rfl) (by kernel_rfl) (by kernel_rfl) (by kernel_rfl)).met
theorem of_laid {W:World}(h:laidMetH Tryz.prog Rows.deltaTellsRow.laid W):Lib.Utf8Tabs 0 1 W:=by
 rw[MakeChecks.laidMetH_plain _ _ _ (by kernel_rfl)]at h
 have h1:=Lib.laidMet.reads h (.tail _ (.head _))
 rw[show Rows.laid_unicode_utf8_first=Lib.firstData from Pinned.utf8First_eq]at h1
 have h2:=Lib.laidMet.reads h (.head _)
 rw[show(Rows.laid_unicode_utf8_acceptRanges:DataW Unit)=Lib.acceptData by kernel_rfl]at h2
 exact utf8Tabs_of_readsT (U8Types.of196 Tryz.laysValid) ⟨by kernel_rfl,by kernel_rfl,by kernel_rfl,by kernel_rfl,by kernel_rfl,by kernel_rfl,by kernel_rfl⟩ h1 h2
set_option maxHeartbeats 1000000 in
set_option maxRecDepth 100000 in
theorem lifted (os:Os)(started:os.Started)(H:Type)(enc:TypeId×Value→H):
  ReturnsInHanded {} Tryz.checked os 6 .any (fun w args=>(Rows.deltaTellsSpec.pre enc Tryz.prog Tryz.f6 [] false w args∧laidMetH Tryz.prog Rows.deltaTellsRow.laid w)∧sizedMet enc Tryz.prog Tryz.f6 (OpenSpec.ofChange Rows.deltaTellsSpec) false w args) (Rows.deltaTellsSpec.post enc Tryz.prog Tryz.f6 false true false false):=by
 refine returnsInHanded_of_change_and (C:=Tryz.checked) (X:=fun w _=>laidMetH Tryz.prog Rows.deltaTellsRow.laid w) (fun _ _ _ hh h=>h.of_heap hh) own started (by kernel_rfl) Tryz.func6
  (ChangeSpec.witness_shaped (enc:=enc) (C:=Tryz.checked) (os:=os) (X:=fun w _=>laidMetH Tryz.prog Rows.deltaTellsRow.laid w) false ({World.holding Tryz.prog os ⟨#[],#[],[]⟩with heap:=((World.holding Tryz.prog os ⟨#[],#[],[]⟩).heap.modify 0 (A.putCells A.tabF)).modify 1 (A.putCells A.tabA)}) #[.agg #[.slice none 0 0],.agg #[.slice none 0 0,.slice none 0 0,.slice none 0 0],.agg #[.slice none 0 0,.slice none 0 0,.slice none 0 0]] 16 rfl (World.shaped_of_RefB (by kernel_rfl) (by kernel_rfl)) (by kernel_rfl) (by kernel_rfl) (by kernel_rfl) (laid_met os _)) ?_
 intro W base args ds gs before hval0 hW hcnd _ hL _
 have hval: ∀(j:Nat) t v,Tryz.f6.params[j]?=some t→args[j]?=some v→Value.okWide Tryz.prog W .any base t v:=hval0
 have hW':=hW
 obtain⟨p,q,hA0,hV,rfl,hfz,hnd⟩:=hW
 have hA:DataW.TrodAll enc Tryz.prog W 0 (fun _=>true) true Tryz.f6.params.toList args.toList ds p:=hA0
 rw[Tryz.params6]at hA hval
 obtain⟨v0,vs0,d0,ds0,p0,q0,hargs,rfl,rfl,h0,r0⟩:=trodAll_cons hA
 obtain⟨v1,vs1,d1,ds1,p1,q1,rfl,rfl,rfl,h1,r1⟩:=trodAll_cons r0
 obtain⟨v2,vs2,d2,ds2,p2,q2,rfl,rfl,rfl,h2,r2⟩:=trodAll_cons r1
 obtain⟨rfl,rfl,rfl⟩:=trodAll_nil r2
 obtain rfl:args=#[v0,v1,v2]:=by cases args;simp_all
 obtain⟨rfl,rfl⟩:=trodVars_none hV
 have k0:=h0
 have lt0: ∀x∈p0,x.block<W.heap.size:=by obtain⟨m,hm⟩:=k0;exact DataW.trod_lt m _ _ _ hm
 obtain⟨fu0,hf0⟩:=h0
 obtain⟨x0,hx0⟩:=ot24.2 _ _ _ _ _ _ _ _ _ hf0
 obtain⟨cs0,rfl,_⟩:=okWide_struct Tryz.underlying24 (hval 0 24 v0 rfl rfl)
 replace hx0:T23.rep W (Z.nt []) cs0.toList x0:=hx0
 have hok0:=Z.rep_ok _ hx0
 obtain⟨a0,c0,hc0⟩: ∃a c,cs0.toList=[.slice a x0.length c]:=by obtain⟨a,c,_,h,_⟩:=hx0;exact⟨a,c,h⟩
 obtain rfl:cs0=#[.slice a0 x0.length c0]:=by rw[←Array.toArray_toList (xs:=cs0),hc0]
 have k1:=h1
 have lt1: ∀x∈p1,x.block<W.heap.size:=by obtain⟨m,hm⟩:=k1;exact DataW.trod_lt m _ _ _ hm
 obtain⟨fu1,hf1⟩:=h1
 obtain⟨x1,hx1⟩:=ot28.2 _ _ _ _ _ _ _ _ _ hf1
 obtain⟨cs1,rfl,_⟩:=okWide_struct Tryz.underlying28 (hval 1 28 v1 rfl rfl)
 replace hx1:T27.rep W (Z.nt []) cs1.toList x1:=hx1
 have hok1:=Z.rep_ok _ hx1
 obtain⟨ca1,cb2,he3,hr4,hr5⟩:=hx1
 obtain⟨A6,c7,he8,hn9,hn10⟩:=Z.rep_slice hr4
 rw[he8]at hr4
 have hle_A6:=Z.rep_le hr4
 obtain⟨ca11,cb12,he13,hr14,hr15⟩:=hr5
 obtain⟨A16,c17,he18,hn19,hn20⟩:=Z.rep_slice hr14
 rw[he18]at hr14
 have hle_A16:=Z.rep_le hr14
 obtain⟨A21,c22,he23,hn24,hn25⟩:=Z.rep_slice hr15
 rw[he23]at hr15
 have hle_A21:=Z.rep_le hr15
 have he1:cs1.toList=[.slice A6 x1.1.length c7,.slice A16 x1.2.1.length c17,.slice A21 x1.2.2.length c22]:=by simp only[he3,he8,he13,he18,he23,List.cons_append,List.nil_append]
 obtain rfl:cs1=#[.slice A6 x1.1.length c7,.slice A16 x1.2.1.length c17,.slice A21 x1.2.2.length c22]:=by rw[←Array.toArray_toList (xs:=cs1),he1]
 have k2:=h2
 have lt2: ∀x∈p2,x.block<W.heap.size:=by obtain⟨m,hm⟩:=k2;exact DataW.trod_lt m _ _ _ hm
 obtain⟨fu2,hf2⟩:=h2
 obtain⟨x2,hx2⟩:=ot28.2 _ _ _ _ _ _ _ _ _ hf2
 obtain⟨cs2,rfl,_⟩:=okWide_struct Tryz.underlying28 (hval 2 28 v2 rfl rfl)
 replace hx2:T27.rep W (Z.nt []) cs2.toList x2:=hx2
 have hok2:=Z.rep_ok _ hx2
 obtain⟨ca26,cb27,he28,hr29,hr30⟩:=hx2
 obtain⟨A31,c32,he33,hn34,hn35⟩:=Z.rep_slice hr29
 rw[he33]at hr29
 have hle_A31:=Z.rep_le hr29
 obtain⟨ca36,cb37,he38,hr39,hr40⟩:=hr30
 obtain⟨A41,c42,he43,hn44,hn45⟩:=Z.rep_slice hr39
 rw[he43]at hr39
 have hle_A41:=Z.rep_le hr39
 obtain⟨A46,c47,he48,hn49,hn50⟩:=Z.rep_slice hr40
 rw[he48]at hr40
 have hle_A46:=Z.rep_le hr40
 have he2:cs2.toList=[.slice A31 x2.1.length c32,.slice A41 x2.2.1.length c42,.slice A46 x2.2.2.length c47]:=by simp only[he28,he33,he38,he43,he48,List.cons_append,List.nil_append]
 obtain rfl:cs2=#[.slice A31 x2.1.length c32,.slice A41 x2.2.1.length c42,.slice A46 x2.2.2.length c47]:=by rw[←Array.toArray_toList (xs:=cs2),he2]
 clear hA0 hval0
 have htab:=of_laid hL
 have hF:F.df x0 x1 x2=some true:=deltaTells_plain x0 x1 x2 hok0 hok1 hok2
 have hct:=o_aS x0 x1 x2 a0 c0 A6 c7 A16 c17 A21 c22 A31 c32 A41 c42 A46 c47 true hF
 refine(hct W (fun _=>True) (A.Hp.start ⟨A.Hall.sh hx0,A.Hall.sh hr4,A.Hall.sh hr14,A.Hall.sh hr15,A.Hall.sh hr29,A.Hall.sh hr39,A.Hall.sh hr40,A.Hall.tabs htab⟩)).mono ?_
 rintro e W' ⟨v,H',rfl,⟨rfl,rfl⟩,hh⟩
 have bel:=hh.ch.below
 exact⟨_,rfl,_,_,_,[],_,[],hW',trodAll_mk1 (shut_bool Tryz.underlying4 _),(trodAll_cons_mk (Below.trod laidOut (by kernel_rfl) (of_decide_eq_true (by kernel_rfl)) k0 bel lt0) (trodAll_cons_mk (Below.trod laidOut (by kernel_rfl) (of_decide_eq_true (by kernel_rfl)) k1 bel lt1) (trodAll_cons_mk (Below.trod laidOut (by kernel_rfl) (of_decide_eq_true (by kernel_rfl)) k2 bel lt2) trodAll_mk0))),rfl,bel.frame _,fun h=>by cases h⟩
theorem over:Rows.deltaTellsRow.holds Tryz.pinned (OpenSpec.ofChange Rows.deltaTellsSpec):=
 OpenClaim.holds_of_wide 6 Tryz.f6 rfl rfl rfl rfl rfl rfl rfl ⟨rfl,rfl,rfl,rfl,rfl⟩ rfl rfl rfl rfl rfl (by kernel_rfl) Tryz.func6 (by kernel_rfl)
  (of_decide_eq_true (by kernel_rfl)) (by unfold Func.isWrapper;first|(rw[if_pos (by decide+kernel)];kernel_rfl)|(rw[if_neg (by decide+kernel)];exact⟨rfl,rfl⟩))
  (fun os started H enc _=>lifted os started H enc)
theorem proved:Rows.DeltaTellsCardSaid:=
 Claim7.holds_tied_plain_at .later [] [.data,.pinned] true (true,"3283e29bffe472c440059c67076ca5d73c2362e7d742c527b7531d87cc96f2ab") false
  over (fun _ h=>by cases h) (by kernel_rfl) (fun _ h=>by cases h) deltaTells_row_tie rfl ⟨rfl,rfl⟩ (by kernel_rfl) rfl
  (fun f fn hf hfn=>by
   obtain rfl:f=6:=Option.some.inj ((show Tryz.prog.funcNamed Rows.deltaTellsRow.func=some 6 by kernel_rfl).symm.trans hf) |>.symm
   obtain rfl:fn=Tryz.f6:=(Option.some.inj (Tryz.func6.symm.trans hfn)).symm
   exact⟨by kernel_rfl,fun j t ht=>by
    rw[Tryz.params6]at ht
    have hm:t∈[24,28,28]:=by simpa using Array.mem_of_getElem? ht
    have hall:([24,28,28].all fun u=> !Tryz.prog.wantsStandIn u)=true:=by kernel_rfl
    exact(show Tryz.prog.wantsStandIn t=false by simpa using List.all_eq_true.1 hall t hm)⟩)
  (by kernel_rfl)
#print axioms proved
end Go.Proofs.YtocfaokgoflmhaaGreatDoor.deltaTellsDone
end
