/- Plain: two times one behind the other are one time that has both bags. No program in sight. * Plain: bags, their keys, numbers in digits, by the program. * Plain: counts, what keys come to, joins, by the program. * Plain: totals, new records, the state behind it; records sorted, each once: by the program. * Plain: what a node that holds makes of all of a time, by the program. * Plain: bags added, small arguments, states behind a time: what the laws of nodes that hold need. * Plain: what a node keeps behind two times is what it keeps behind one that has both bags. * A small logic over the model's walk, continued: arguments of a row, opened: what a reader treads reads as a datum. No program in sight. * The law 'OperOnward' as it is given: whatever the input, the call returns true, and each argument reads behind it as it read before. No condition but that utf8's two tables hold what the library's text lays, which the card ties. -/
import Derived.Test.YtbljnlkhebiniaaDoorM3
import Derived.Test.YtbljnlkhebiniaaDoorM0
import Derived.OpenShut
import Derived.ShutString
import Derived.ChangeOld
import Derived.ChangeArms
import Derived.DataReads
import Derived.Test.YtbljnlkhebiniaaDoorRows
import Derived.Test.YtbljnlkhebiniaaDoorTie
import Derived.Test.YtbljnlkhebiniaaDoorCards
import Derived.WalkKit
import Derived.ProofKit
import Derived.Below
import Derived.LaidMore
import Derived.Stop.Joined
import Derived.SevenTiedAt
import Derived.Lib.LaidIn
import Derived.Lib.LaidU8T
import Derived.PinnedBridge
import Derived.SizedLaws
section
set_option linter.unusedVariables false
set_option linter.unusedSimpArgs false
namespace Go.Opr
open Go.Utf Go.Ent
def wS (w:Rc→Int):List Mn→Int
 | []=>0
 |m::l=>w m.1*m.2+wS w l
def bput:List Mn→Rc→Int→List Mn
 | [],r,n=>[(r,n)]
 |x::l,r,n=>if x.1=r then(r,x.2+n)::l else if rl r x.1=true then(r,n)::x::l else x::bput l r n
abbrev SM (l:List Mn):Prop:=SK (fun m:Mn=>m.1) l
theorem bput_rec {r r':Rc}{n:Int}: ∀{l:List Mn},r'∈(bput l r n).map (·.1)↔r'=r∨r'∈l.map (·.1)
 | []=>by simp[bput]
 |x::l=>by
  unfold bput
  by_cases h:x.1=r
  ·rw[if_pos h,List.map_cons,List.map_cons,List.mem_cons,List.mem_cons,h]
   exact⟨fun h=>h.elim .inl fun h=>.inr (.inr h),fun h=>h.elim .inl fun h=>h⟩
  ·rw[if_neg h]
   split
   ·simp
   ·rw[List.map_cons,List.mem_cons,bput_rec,List.map_cons,List.mem_cons]
    exact⟨fun h=>h.elim (fun h=>.inr (.inl h)) fun h=>h.elim .inl fun h=>.inr (.inr h),fun h=>h.elim (fun h=>.inr (.inl h)) fun h=>h.elim .inl fun h=>.inr (.inr h)⟩
theorem bput_sm {r:Rc}{n:Int}: ∀{l:List Mn},SM l→SM (bput l r n)
 | [],_=>List.pairwise_singleton ..
 |x::l,h=>by
  obtain⟨h1,h2⟩:=List.pairwise_cons.1 h
  unfold bput
  by_cases hx:x.1=r
  ·rw[if_pos hx];exact List.pairwise_cons.2 ⟨fun b hb=>hx▸h1 b hb,h2⟩
  ·rw[if_neg hx]
   by_cases hlt:rl r x.1=true
   ·rw[if_pos hlt]
    exact List.pairwise_cons.2 ⟨fun b hb=>(List.mem_cons.1 hb).elim (fun e=>e▸hlt) fun hb=>rl_tr hlt (h1 b hb),h⟩
   ·rw[if_neg hlt]
    refine List.pairwise_cons.2 ⟨fun b hb=>?_,bput_sm h2⟩
    rcases bput_rec.1 (List.mem_map_of_mem (f:=fun m:Mn=>m.1) hb)with e|hb
    ·show rl x.1 b.1=true
     have e:b.1=r:=e
     rw[e]
     cases hxr:rl x.1 r with
     |true=>rfl
     |false=>exact absurd (rl_tri hxr (by simpa using hlt)) hx
    ·obtain⟨y,hy,e⟩:=List.mem_map.1 hb
     have e:y.1=b.1:=e
     show rl x.1 b.1=true
     rw[←e];exact h1 y hy
theorem bput_w {w:Rc→Int}{r:Rc}{n:Int}: ∀{l:List Mn},wS w (bput l r n)=wS w l+w r*n
 | []=>by simp[bput,wS]
 |x::l=>by
  unfold bput
  by_cases h:x.1=r
  ·rw[if_pos h]
   show w r*(x.2+n)+wS w l=w x.1*x.2+wS w l+w r*n
   rw[h,Int.mul_add];omega
  ·rw[if_neg h]
   split
   ·show w r*n+wS w (x::l)=wS w (x::l)+w r*n;omega
   ·unfold wS;rw[bput_w];omega
theorem bput_pos {r:Rc}{n:Int}(hn:1≤n): ∀{l:List Mn},(∀m,m∈l→1≤m.2)→∀m,m∈bput l r n→1≤m.2
 | [],_,m,hm=>by obtain rfl:=List.mem_singleton.1 hm;exact hn
 |x::l,h,m,hm=>by
  have hx:=h x (List.mem_cons_self ..)
  unfold bput at hm
  split at hm
  ·rcases List.mem_cons.1 hm with rfl|hm
   ·show 1≤x.2+n;omega
   ·exact h m (List.mem_cons_of_mem _ hm)
  ·split at hm
   ·rcases List.mem_cons.1 hm with rfl|hm
    ·exact hn
    ·exact h m hm
   ·rcases List.mem_cons.1 hm with rfl|hm
    ·exact hx
    ·exact bput_pos hn (fun m hm=>h m (List.mem_cons_of_mem _ hm)) m hm
theorem bput_len {r:Rc}{n:Int}: ∀{l:List Mn},(bput l r n).length≤l.length+1
 | []=>by simp[bput]
 |x::l=>by
  unfold bput
  split
  ·simp
  ·(split)
   ·simp
   ·rw[List.length_cons,List.length_cons];have:=bput_len (r:=r) (n:=n) (l:=l);omega
def bputs (l a:List Mn):List Mn:=a.foldl (fun l m=>bput l m.1 m.2) l
theorem bputs_ok: ∀(a l:List Mn),SM l→(∀m,m∈l→1≤m.2)→(∀m,m∈a→1≤m.2)→SM (bputs l a)∧(∀m,m∈bputs l a→1≤m.2)∧(∀r,r∈(bputs l a).map (·.1)↔r∈l.map (·.1)∨r∈a.map (·.1))∧(∀w,wS w (bputs l a)=wS w l+wS w a)∧(bputs l a).length≤l.length+a.length
 | [],l,h,hl,_=>⟨h,hl,fun r=>by simp[bputs],fun w=>by simp[bputs,wS],by simp[bputs]⟩
 |m::a,l,h,hl,ha=>by
  have hm:=ha m (List.mem_cons_self ..)
  obtain⟨i1,i2,i3,i4,i5⟩:=bputs_ok a (bput l m.1 m.2) (bput_sm h) (bput_pos hm hl) fun m hm=>ha m (List.mem_cons_of_mem _ hm)
  refine⟨i1,i2,fun r=>(i3 r).trans ?_,fun w=>(i4 w).trans ?_,?_⟩
  ·rw[bput_rec,List.map_cons,List.mem_cons]
   exact⟨fun h=>h.elim (fun h=>h.elim (fun h=>.inr (.inl h)) .inl) fun h=>.inr (.inr h),fun h=>h.elim (fun h=>.inl (.inr h)) fun h=>h.elim (fun h=>.inl (.inl h)) .inr⟩
  ·rw[bput_w,show wS w (m::a)=w m.1*m.2+wS w a from rfl];omega
  ·have:=bput_len (r:=m.1) (n:=m.2) (l:=l)
   rw[List.length_cons]
   exact Nat.le_trans i5 (by omega)
def frT (id:Int)(st:List En)(m:Mn):List En:=if vE st m.1=0 then ins kr (id,m.1.1,m.1.2,1) st else st
theorem frS_snd (id:Int): ∀(a:List Mn) (s:List Rc×List En),(a.foldl (frS id) s).2=a.foldl (frT id) s.2
 | [],_=>rfl
 |m::a,s=>by
  rw[List.foldl_cons,List.foldl_cons,frS_snd id a]
  congr 1
  unfold frS frT
  split<;>rfl
abbrev St1 (id:Int) (st:List En):Prop:=∀e,e∈st→e.1=id∧num e=1
theorem vE_zero {id:Int}{st:List En}(hs:SK kr st)(h:St1 id st)(r:Rc):vE st r=0↔r∉st.map kr:=by
 constructor
 ·intro h0 hm
  obtain⟨e,he,rfl⟩:=List.mem_map.1 hm
  rw[vE_mem hs he,(h e he).2]at h0;cases h0
 ·intro hn
  exact vE_none fun e he h=>hn (List.mem_map.2 ⟨e,he,h⟩)
theorem frT_ok (id:Int): ∀(a:List Mn) {st:List En},SK kr st→St1 id st→SK kr (a.foldl (frT id) st)∧St1 id (a.foldl (frT id) st)∧∀r,r∈(a.foldl (frT id) st).map kr↔r∈st.map kr∨r∈a.map (·.1)
 | [],st,h,h1=>⟨h,h1,fun r=>by simp⟩
 |m::a,st,h,h1=>by
  have key:SK kr (frT id st m)∧St1 id (frT id st m)∧∀r,r∈(frT id st m).map kr↔r∈st.map kr∨r=m.1:=by
   unfold frT
   by_cases h0:vE st m.1=0
   ·rw[if_pos h0]
    refine⟨ins_sk h,fun e he=>?_,fun r=>?_⟩
    ·rcases(ins_mem h).1 he with rfl|⟨he,_⟩
     ·exact⟨rfl,rfl⟩
     ·exact h1 e he
    ·rw[List.mem_map]
     constructor
     ·rintro⟨e,he,rfl⟩
      rcases(ins_mem h).1 he with rfl|⟨he,_⟩
      ·exact .inr rfl
      ·exact .inl (List.mem_map_of_mem he)
     ·rintro(hr|rfl)
      ·obtain⟨e,he,rfl⟩:=List.mem_map.1 hr
       by_cases hk:kr e=m.1
       ·exact⟨_,(ins_mem h).2 (.inl rfl),hk.symm⟩
       ·exact⟨e,(ins_mem h).2 (.inr ⟨he,hk⟩),rfl⟩
      ·exact⟨_,(ins_mem h).2 (.inl rfl),rfl⟩
   ·rw[if_neg h0]
    refine⟨h,h1,fun r=>⟨.inl,fun hr=>hr.elim (fun h=>h) fun e=>?_⟩⟩
    subst e
    exact Classical.byContradiction fun hn=>h0 ((vE_zero h h1 _).2 hn)
  obtain⟨i1,i2,i3⟩:=frT_ok id a key.1 key.2.1
  refine⟨i1,i2,fun r=>(i3 r).trans ?_⟩
  rw[key.2.2,List.map_cons,List.mem_cons]
  exact⟨fun h=>h.elim (fun h=>h.elim .inl fun h=>.inr (.inl h)) fun h=>.inr (.inr h),fun h=>h.elim (fun h=>.inl (.inl h)) fun h=>h.elim (fun h=>.inl (.inr h)) .inr⟩
theorem en_eq {a b:En}(h1:a.1=b.1)(h2:kr a=kr b)(h3:num a=num b):a=b:=
 Prod.ext h1 (Prod.ext (Prod.mk.inj h2).1 (Prod.ext (Prod.mk.inj h2).2 h3))
theorem st1_ext {id:Int}{l m:List En}(hl:SK kr l)(hm:SK kr m)(h1:St1 id l)(h2:St1 id m)(h: ∀r,r∈l.map kr↔r∈m.map kr):l=m:=by
 refine sk_ext (k:=kr) hl hm fun e=>⟨fun he=>?_,fun he=>?_⟩
 ·obtain⟨e',he',hk⟩:=List.mem_map.1 ((h (kr e)).1 (List.mem_map_of_mem he))
  rw[en_eq ((h1 e he).1.trans (h2 e' he').1.symm) hk.symm ((h1 e he).2.trans (h2 e' he').2.symm)];exact he'
 ·obtain⟨e',he',hk⟩:=List.mem_map.1 ((h (kr e)).2 (List.mem_map_of_mem he))
  rw[en_eq ((h2 e he).1.trans (h1 e' he').1.symm) hk.symm ((h2 e he).2.trans (h1 e' he').2.symm)];exact he'
theorem fr_onward {id:Int}{a more:List Mn}{st:List En}(hs:SK kr st)(h1:St1 id st){both:List Mn}(hb: ∀r,r∈both.map (·.1)↔r∈a.map (·.1)∨r∈more.map (·.1)):more.foldl (frT id) (a.foldl (frT id) st)=both.foldl (frT id) st:=by
 obtain⟨a1,a2,a3⟩:=frT_ok id a hs h1
 obtain⟨b1,b2,b3⟩:=frT_ok id more a1 a2
 obtain⟨c1,c2,c3⟩:=frT_ok id both hs h1
 refine st1_ext b1 c1 b2 c2 fun r=>?_
 rw[b3,a3,c3,hb]
 exact⟨fun h=>h.elim (fun h=>h.elim .inl fun h=>.inr (.inl h)) fun h=>.inr (.inr h),fun h=>h.elim (fun h=>.inl (.inl h)) fun h=>h.elim (fun h=>.inl (.inr h)) .inr⟩
def totT (f:Fn)(id:Int)(st:List En)(kg:Int×List Mn):List En:=ins kr (id,kg.1,nil8,tot f (vE st (kg.1,nil8)) kg.2) st
theorem totS_snd (f:Fn)(id:Int): ∀(gs:List (Int×List Mn)) (s:List Rc×List En),(gs.foldl (totS f id) s).2=gs.foldl (totT f id) s.2
 | [],_=>rfl
 |kg::gs,s=>by rw[List.foldl_cons,List.foldl_cons,totS_snd f id gs];rfl
abbrev St2 (id:Int) (st:List En):Prop:=∀e,e∈st→e.1=id∧e.2.2.1=nil8∧0≤num e∧num e≤1099511627776
theorem rns_nn (s:ByteArray):0≤rns s:=by unfold rns;omega
theorem meas_nn (f:Fn)(r:Rc):0≤meas f r:=by unfold meas;split;omega;exact rns_nn _
theorem wS_nn {w:Rc→Int}(hw: ∀r,0≤w r): ∀{l:List Mn},(∀m,m∈l→1≤m.2)→0≤wS w l
 | [],_=>Int.le_refl _
 |m::l,h=>by
  have h1:=wS_nn hw fun m hm=>h m (List.mem_cons_of_mem _ hm)
  have h2:=Int.mul_nonneg (hw m.1) (show 0≤m.2 by have:=h m (List.mem_cons_self ..);omega)
  unfold wS;omega
theorem tot_sum {f:Fn}: ∀{g:List Mn} {v:Int},(∀m,m∈g→1≤m.2)→0≤v→v≤1099511627776→tot f v g=min 1099511627776 (v+wS (meas f) g)
 | [],v,_,h0,h1=>by show v=min 1099511627776 (v+0);omega
 |m::g,v,h,h0,h1=>by
  have h2:=Int.mul_nonneg (meas_nn f m.1) (show 0≤m.2 by have:=h m (List.mem_cons_self ..);omega)
  have h3:=wS_nn (meas_nn f) fun m hm=>h m (List.mem_cons_of_mem _ hm)
  show tot f (min (v+meas f m.1*m.2) 1099511627776) g=min 1099511627776 (v+(meas f m.1*m.2+wS (meas f) g))
  rw[tot_sum (fun m hm=>h m (List.mem_cons_of_mem _ hm)) (by omega) (by omega)]
  omega
theorem tot_app (f:Fn)(v:Int)(g h:List Mn):tot f v (g++h)=tot f (tot f v g) h:=List.foldl_append ..
theorem tot_rng {f:Fn}{g:List Mn}{v:Int}(h: ∀m,m∈g→1≤m.2)(h0:0≤v)(h1:v≤1099511627776):0≤tot f v g∧tot f v g≤1099511627776:=by
 rw[tot_sum h h0 h1]
 have:=wS_nn (meas_nn f) h
 omega
theorem vE_rng {id:Int}{st:List En}(h:St2 id st)(r:Rc):0≤vE st r∧vE st r≤1099511627776:=by
 induction st with
 |nil=>exact⟨Int.le_refl _,(by decide:(0:Int)≤1099511627776)⟩
 |cons x st ih=>
  unfold vE
  split
  ·exact(h x (List.mem_cons_self ..)).2.2
  ·exact ih fun e he=>h e (List.mem_cons_of_mem _ he)
theorem totT_ok (f:Fn)(id:Int): ∀(gs:List (Int×List Mn)) {st:List En},SK kr st→St2 id st→(∀kg,kg∈gs→∀m,m∈kg.2→1≤m.2)→
  SK kr (gs.foldl (totT f id) st)∧St2 id (gs.foldl (totT f id) st)∧(∀r,r∈(gs.foldl (totT f id) st).map kr↔r∈st.map kr∨∃kg,kg∈gs∧r=(kg.1,nil8))∧∀k,vE (gs.foldl (totT f id) st) (k,nil8)=tot f (vE st (k,nil8)) ((gs.filter fun kg=>decide (kg.1=k)).flatMap (·.2))
 | [],st,h,h1,_=>⟨h,h1,fun r=>by simp,fun k=>rfl⟩
 |kg::gs,st,h,h1,hp=>by
  have hv:=vE_rng h1 (kg.1,nil8)
  have ht:=tot_rng (f:=f) (hp kg (List.mem_cons_self ..)) hv.1 hv.2
  have k1:SK kr (totT f id st kg):=ins_sk h
  have k2:St2 id (totT f id st kg):=fun e he=>by
   rcases(ins_mem h).1 he with rfl|⟨he,_⟩
   ·exact⟨rfl,rfl,ht⟩
   ·exact h1 e he
  obtain⟨i1,i2,i3,i4⟩:=totT_ok f id gs k1 k2 fun kg hk=>hp kg (List.mem_cons_of_mem _ hk)
  refine⟨i1,i2,fun r=>(i3 r).trans ?_,fun k=>(i4 k).trans ?_⟩
  ·constructor
   ·rintro(hr|⟨kg',hk,rfl⟩)
    ·obtain⟨e,he,rfl⟩:=List.mem_map.1 hr
     rcases(ins_mem h).1 he with rfl|⟨he,_⟩
     ·exact .inr ⟨kg,List.mem_cons_self ..,rfl⟩
     ·exact .inl (List.mem_map_of_mem he)
    ·exact .inr ⟨kg',List.mem_cons_of_mem _ hk,rfl⟩
   ·rintro(hr|⟨kg',hk,rfl⟩)
    ·obtain⟨e,he,rfl⟩:=List.mem_map.1 hr
     refine .inl (List.mem_map.2 ?_)
     by_cases hke:kr e=(kg.1,nil8)
     ·exact⟨_,(ins_mem h).2 (.inl rfl),hke.symm⟩
     ·exact⟨e,(ins_mem h).2 (.inr ⟨he,hke⟩),rfl⟩
    ·rcases List.mem_cons.1 hk with rfl|hk
     ·exact .inl (List.mem_map.2 ⟨_,(ins_mem h).2 (.inl rfl),rfl⟩)
     ·exact .inr ⟨kg',hk,rfl⟩
  ·have e:=vE_ins (e:=((id,kg.1,nil8,tot f (vE st (kg.1,nil8)) kg.2):En)) (r:=(k,nil8)) h
   show tot f (vE (ins kr _ st) (k,nil8)) _=_
   rw[e,List.filter_cons]
   by_cases hk:kg.1=k
   ·subst hk
    rw[if_pos (show kr (id,kg.1,nil8,_)=(kg.1,nil8)from rfl),if_pos (decide_eq_true rfl),List.flatMap_cons,tot_app]
   ·rw[if_neg (show ¬kr (id,kg.1,nil8,_)=(k,nil8)from fun h=>hk (congrArg Prod.fst h)),if_neg (by simpa using hk)]
theorem grp_oth_flat {a:List Mn}(h:KL a)(k:Int):((grp a).filter fun kg=>decide (kg.1=k)).flatMap (·.2)=oth a k:=by
 rw[←grp_filter (fun x=>decide (x=k)) h,grp_flat]
theorem wS_oth (w:Rc→Int)(k:Int): ∀(a:List Mn),wS w (oth a k)=wS (fun r=>if r.1=k then w r else 0) a
 | []=>rfl
 |m::a=>by
  rw[oth,List.filter_cons]
  have ih:=wS_oth w k a
  by_cases h:m.1.1=k
  ·rw[if_pos (by simpa using h)];unfold wS;rw[ih,if_pos h]
  ·rw[if_neg (by simpa using h),ih]
   conv=>rhs;unfold wS
   rw[if_neg h];omega
theorem oth_pos {a:List Mn}(h: ∀m,m∈a→1≤m.2)(k:Int): ∀m,m∈oth a k→1≤m.2:=fun m hm=>h m (List.mem_filter.1 hm).1
theorem grp_pos {a:List Mn}(h: ∀m,m∈a→1≤m.2): ∀kg,kg∈grp a→∀m,m∈kg.2→1≤m.2:=fun kg hk m hm=>h m (grp_sub hk m hm)
theorem st2_ext {id:Int}{l m:List En}(hl:SK kr l)(hm:SK kr m)(h1:St2 id l)(h2:St2 id m)(h: ∀r,r∈l.map kr↔r∈m.map kr)(hv: ∀k,vE l (k,nil8)=vE m (k,nil8)):l=m:=by
 have go: ∀{l m:List En},SK kr l→SK kr m→St2 id l→St2 id m→(∀r,r∈l.map kr→r∈m.map kr)→(∀k,vE l (k,nil8)=vE m (k,nil8))→∀e,e∈l→e∈m:=by
  intro l m hl hm h1 h2 h hv e he
  obtain⟨e',he',hk⟩:=List.mem_map.1 (h (kr e) (List.mem_map_of_mem he))
  have hke:kr e=(e.2.1,nil8):=Prod.ext rfl (h1 e he).2.1
  have v1:=vE_mem hl he
  have v2:=vE_mem hm he'
  rw[hk,hke,←hv,←hke,v1]at v2
  rw[en_eq ((h1 e he).1.trans (h2 e' he').1.symm) hk.symm v2];exact he'
 exact sk_ext (k:=kr) hl hm fun e=>⟨go hl hm h1 h2 (fun r=>(h r).1) hv e,go hm hl h2 h1 (fun r=>(h r).2) (fun k=>(hv k).symm) e⟩
theorem tot_onward {f:Fn}{id:Int}{a more both:List Mn}{st:List En}(hs:SK kr st)(h2:St2 id st)(ka:KL a)(km:KL more)(kb:KL both)(pa: ∀m,m∈a→1≤m.2)(pm: ∀m,m∈more→1≤m.2)(pb: ∀m,m∈both→1≤m.2)
  (hb: ∀r,r∈both.map (·.1)↔r∈a.map (·.1)∨r∈more.map (·.1)) (hw: ∀w,wS w both=wS w a+wS w more):
  (grp more).foldl (totT f id) ((grp a).foldl (totT f id) st)=(grp both).foldl (totT f id) st:=by
 obtain⟨a1,a2,a3,a4⟩:=totT_ok f id (grp a) hs h2 (grp_pos pa)
 obtain⟨b1,b2,b3,b4⟩:=totT_ok f id (grp more) a1 a2 (grp_pos pm)
 obtain⟨c1,c2,c3,c4⟩:=totT_ok f id (grp both) hs h2 (grp_pos pb)
 have gk: ∀(l:List Mn) (r:Rc),(∃kg,kg∈grp l∧r=(kg.1,nil8))↔r.2=nil8∧∃q,q∈l.map (·.1)∧q.1=r.1:=fun l r=>by
  constructor
  ·rintro⟨kg,hk,rfl⟩
   obtain⟨g1,g2⟩:=grp_all hk
   obtain⟨m,hm⟩:=List.exists_mem_of_ne_nil _ g1
   exact⟨rfl,m.1,List.mem_map_of_mem (f:=fun m:Mn=>m.1) (grp_sub hk m hm),g2 m hm⟩
  ·rintro⟨h1,q,hq,h3⟩
   obtain⟨m,hm,rfl⟩:=List.mem_map.1 hq
   rw[←grp_flat l]at hm
   obtain⟨kg,hk,hmk⟩:=List.mem_flatMap.1 hm
   refine⟨kg,hk,Prod.ext ?_ h1⟩
   rw[←h3];exact(grp_all hk).2 m hmk
 refine st2_ext b1 c1 b2 c2 (fun r=>?_) fun k=>?_
 ·rw[b3,a3,c3,gk,gk,gk]
  constructor
  ·rintro((h|⟨h1,q,hq,h3⟩)|⟨h1,q,hq,h3⟩)
   ·exact .inl h
   ·exact .inr ⟨h1,q,(hb q).2 (.inl hq),h3⟩
   ·exact .inr ⟨h1,q,(hb q).2 (.inr hq),h3⟩
  ·rintro(h|⟨h1,q,hq,h3⟩)
   ·exact .inl (.inl h)
   ·rcases(hb q).1 hq with hq|hq
    ·exact .inl (.inr ⟨h1,q,hq,h3⟩)
    ·exact .inr ⟨h1,q,hq,h3⟩
 ·have hv:=vE_rng h2 (k,nil8)
  have t1:=tot_rng (f:=f) (oth_pos pa k) hv.1 hv.2
  rw[b4,a4,c4,grp_oth_flat ka,grp_oth_flat km,grp_oth_flat kb,tot_sum (oth_pos pm k) t1.1 t1.2,tot_sum (oth_pos pa k) hv.1 hv.2,tot_sum (oth_pos pb k) hv.1 hv.2,wS_oth,wS_oth,wS_oth,hw]
  have nn: ∀r:Rc,0≤(if r.1=k then meas f r else 0):=fun r=>by split;exact meas_nn f r;omega
  have n1:=wS_nn nn pa
  have n2:=wS_nn nn pm
  omega
end Go.Opr
end
section
set_option maxRecDepth 20000
set_option linter.unusedVariables false
set_option linter.unusedSimpArgs false
namespace Go.Proofs.YtbljnlkhebiniaaDoor
open Go.RowKit Go.Graph Go.Utf Go.Ent Go.Opr
theorem rec_Compare_eq (a b:Rc):F.rec_Compare a b=some (cR a b):=by
 rw[F.rec_Compare,cmp64_eq,Option.bind_some,scmp_eq,Option.bind_some,or2,Option.bind_some];rfl
theorem cR_ge (a b:Rc):decide ((0:Int)≤cR a b)= !rl a b:=by
 have:=cR_lt a b
 cases h:rl a b with
 |true=>rw[h]at this;have:=of_decide_eq_true this;simp;omega
 |false=>rw[h]at this;have:=of_decide_eq_false this;simp;omega
def bagF:Option Mn→List Mn→Bool
 |_,[]=>true
 |none,m::l=>decide (1≤m.2)&&decide (m.2≤1048576)&&bagF (some m) l
 |some p,m::l=>decide (1≤m.2)&&decide (m.2≤1048576)&&rl p.1 m.1&&bagF (some m) l
def chkB (l:List Mn):Int:=if(l.any fun m=> !okT m.1.2)=true then 50 else if bagF none l=true then 0 else 51
structure Bag (l:List Mn):Prop where
 txt: ∀m,m∈l→okT m.1.2=true
 one: ∀m,m∈l→1≤m.2
 top: ∀m,m∈l→m.2≤1048576
 srt:SM l
theorem bagF_some: ∀{l:List Mn} {p:Mn},bagF (some p) l=true↔(∀m,m∈l→1≤m.2∧m.2≤1048576)∧SM (p::l)
 | [],p=>by simp[bagF]
 |m::l,p=>by
  unfold bagF
  simp only[Bool.and_eq_true,decide_eq_true_eq,bagF_some]
  constructor
  ·rintro⟨⟨⟨h1,h2⟩,h3⟩,h4,h5⟩
   refine⟨fun x hx=>(List.mem_cons.1 hx).elim (fun e=>e▸⟨h1,h2⟩) (h4 x),?_⟩
   exact List.pairwise_cons.2 ⟨fun y hy=>(List.mem_cons.1 hy).elim (fun e=>e▸h3) fun hy=>rl_tr h3 ((List.pairwise_cons.1 h5).1 y hy),h5⟩
  ·rintro⟨h1,h2⟩
   obtain⟨h3,h4⟩:=List.pairwise_cons.1 h2
   have:=h1 m (List.mem_cons_self ..)
   exact⟨⟨⟨this.1,this.2⟩,h3 m (List.mem_cons_self ..)⟩,fun x hx=>h1 x (List.mem_cons_of_mem _ hx),h4⟩
theorem bagF_none {l:List Mn}:bagF none l=true↔(∀m,m∈l→1≤m.2∧m.2≤1048576)∧SM l:=by
 cases l with
 |nil=>simp[bagF]
 |cons m l=>
  unfold bagF
  simp only[Bool.and_eq_true,decide_eq_true_eq,bagF_some]
  constructor
  ·rintro⟨h1,h2,h3⟩
   exact⟨fun x hx=>(List.mem_cons.1 hx).elim (fun e=>e▸h1) (h2 x),h3⟩
  ·rintro⟨h1,h2⟩
   exact⟨h1 m (List.mem_cons_self ..),fun x hx=>h1 x (List.mem_cons_of_mem _ hx),h2⟩
theorem chkB_iff {l:List Mn}:chkB l=0↔Bag l:=by
 unfold chkB
 by_cases h:(l.any fun m=> !okT m.1.2)=true
 ·rw[if_pos h]
  refine⟨fun h=>(by cases h),fun hb=>?_⟩
  obtain⟨m,hm,h2⟩:=List.any_eq_true.1 h
  rw[hb.txt m hm]at h2;cases h2
 ·rw[if_neg h]
  have ht: ∀m,m∈l→okT m.1.2=true:=fun m hm=>by
   cases ho:okT m.1.2 with
   |true=>rfl
   |false=>exact absurd (List.any_eq_true.2 ⟨m,hm,by rw[ho];rfl⟩) h
  by_cases h2:bagF none l=true
  ·rw[if_pos h2]
   obtain⟨h3,h4⟩:=bagF_none.1 h2
   exact⟨fun _=>⟨ht,fun m hm=>(h3 m hm).1,fun m hm=>(h3 m hm).2,h4⟩,fun _=>rfl⟩
  ·rw[if_neg h2]
   exact⟨fun h=>(by cases h),fun hb=>absurd (bagF_none.2 ⟨fun m hm=>⟨hb.one m hm,hb.top m hm⟩,hb.srt⟩) h2⟩
theorem Bag.sub {l m:List Mn}(h:Bag l)(hs:m.Sublist l):Bag m:=
 ⟨fun x hx=>h.txt x (hs.subset hx),fun x hx=>h.one x (hs.subset hx),fun x hx=>h.top x (hs.subset hx),h.srt.sublist hs⟩
theorem Bag.kl {l:List Mn}(h:Bag l):KL l:=KL.of h.srt
abbrev prvM (l:List Mn) (k:Nat):Option Mn:=if k=0 then none else l[k-1]?
theorem prvM_s (l:List Mn)(k:Nat){x:Mn}(h:l[k]?=some x):prvM l (k+1)=some x:=by unfold prvM;rw[if_neg (by omega)];exact h
theorem rec_CheckBag_eq (l:List Mn)(hl:l.length≤maxLen):F.rec_CheckBag l=some (chkB l):=by
 have idx:F.slices_IndexFunc_api_Many_api_Many_rec_CheckBag_1 l=some (if(l.any fun m=> !okT m.1.2)=true then((l.findIdx fun m=> !okT m.1.2:Nat):Int)else-1):=by
  have:=A.lp0 l (fun f y=>F.slices_IndexFunc_api_Many_api_Many_rec_CheckBag_1_l1 l f y) (fun k r=>some (if(r.any fun m=> !okT m.1.2)=true then((k+r.findIdx fun m=> !okT m.1.2:Nat):Int)else-1))
   (fun f=>by rw[F.slices_IndexFunc_api_Many_api_Many_rec_CheckBag_1_l1,if_neg (by omega)];rfl)
   (fun f k x hx hk ih=>by
    rw[F.slices_IndexFunc_api_Many_api_Many_rec_CheckBag_1_l1,if_pos (by omega),A.ixn hx,Option.bind_some,F.rec_CheckBag_1]
    show(Option.bind (Option.bind (F.rec_Check x.1) _) _)=_
    rw[rec_Check_eq,Option.bind_some,Option.bind_some]
    cases ho:okT x.1.2 with
    |true=>
     rw[if_pos rfl,if_neg (by decide),A.gd1 ⟨by omega,by unfold maxLen at hl;omega⟩,ih,List.any_cons,List.findIdx_cons,ho]
     simp only[Bool.not_true,Bool.false_or,cond_false]
     congr 2
     apply congrArg
     omega
    |false=>
     rw[if_pos (by decide),List.any_cons,List.findIdx_cons,ho];simp)
   (by have:=FU_big;unfold maxLen at hl;omega)
  rw[F.slices_IndexFunc_api_Many_api_Many_rec_CheckBag_1]
  rw[this];simp
 rw[F.rec_CheckBag,F.slices_ContainsFunc_api_Many_api_Many_rec_CheckBag_1,idx,Option.bind_some,Option.bind_some]
 unfold chkB
 by_cases h:(l.any fun m=> !okT m.1.2)=true
 ·rw[if_pos h,if_pos h,if_pos (decide_eq_true (by omega))]
 ·rw[if_neg h,if_neg h,if_neg (by simp)]
  exact A.lp0 l (fun f y=>F.rec_CheckBag_l2 l f y) (fun k r=>some (if bagF (prvM l k) r=true then 0 else 51))
   (fun f=>by rw[F.rec_CheckBag_l2,if_neg (by omega)];cases prvM l l.length<;>rfl)
   (fun f k x hx hk ih=>by
    rw[F.rec_CheckBag_l2,if_pos (by omega),A.ixn hx,Option.bind_some]
    rw[prvM_s l k hx]at ih
    have nx: ∀b:Bool,F.rec_CheckBag_j1 (F.rec_CheckBag_l2 l f) (k:Int) b=some (if(!b&&bagF (some x) (l.drop (k+1)))=true then 0 else 51):=fun b=>by
     rw[F.rec_CheckBag_j1]
     cases b with
     |true=>rw[if_pos rfl];rfl
     |false=>rw[if_neg (by simp),A.gd1 ⟨by omega,by unfold maxLen at hl;omega⟩,ih];rfl
    have hb:(bif decide (x.2<1)then true else decide ((1048576:Int)<x.2))= !(decide (1≤x.2)&&decide (x.2≤1048576)):=by
     by_cases h1:x.2<1<;>by_cases h2:(1048576:Int)<x.2<;>simp[h1,h2]<;>omega
    rw[hb]
    by_cases hk0:k=0
    ·subst hk0
     show _=some (if(decide (1≤x.2)&&decide (x.2≤1048576)&&bagF (some x) (l.drop (0+1)))=true then 0 else 51)
     cases he:(decide (1≤x.2)&&decide (x.2≤1048576))with
     |false=>rw[Bool.not_false,if_pos rfl,nx];rfl
     |true=>rw[Bool.not_true,if_neg (by simp),if_neg (by omega),nx];rfl
    ·have hp:prvM l k=l[k-1]?:=by unfold prvM;rw[if_neg hk0]
     obtain⟨p,hpp⟩: ∃p,l[k-1]?=some p:=⟨_,List.getElem?_eq_getElem (by omega)⟩
     rw[hp,hpp]
     show _=some (if(decide (1≤x.2)&&decide (x.2≤1048576)&&rl p.1 x.1&&bagF (some x) (l.drop (k+1)))=true then 0 else 51)
     cases he:(decide (1≤x.2)&&decide (x.2≤1048576))with
     |false=>rw[Bool.not_false,if_pos rfl,nx];rfl
     |true=>
      rw[Bool.not_true,if_neg (by simp),if_pos (by omega),A.gd1 ⟨by omega,by unfold maxLen at hl;omega⟩,show(k:Int)-1=((k-1:Nat):Int) by omega,A.ixn hpp,Option.bind_some]
      show(F.rec_Compare p.1 x.1).bind _=_
      rw[rec_Compare_eq,Option.bind_some,nx,cR_ge,Bool.not_not,Bool.true_and])
   (by have:=FU_big;unfold maxLen at hl;omega)
theorem times_eq (g:List Mn)(hl:g.length≤1000)(h1: ∀m,m∈g→1≤m.2)(h2: ∀m,m∈g→m.2≤1048576):F.oper_times g=some (cntM g)∧0≤cntM g∧cntM g≤g.length*1048576:=by
 have rng: ∀(l:List Mn) (v:Int),(∀m,m∈l→1≤m.2)→(∀m,m∈l→m.2≤1048576)→v≤l.foldl (fun v m=>v+m.2) v∧l.foldl (fun v m=>v+m.2) v≤v+l.length*1048576:=by
  intro l
  induction l with
  |nil=>intro v _ _;simp
  |cons x l ih=>
   intro v h1 h2
   have:=ih (v+x.2) (fun m hm=>h1 m (List.mem_cons_of_mem _ hm)) (fun m hm=>h2 m (List.mem_cons_of_mem _ hm))
   have a1:=h1 x (List.mem_cons_self ..)
   have a2:=h2 x (List.mem_cons_self ..)
   rw[List.foldl_cons,List.length_cons]
   omega
 refine⟨?_,(rng g 0 h1 h2).1,by have:=(rng g 0 h1 h2).2;unfold cntM;omega⟩
 exact A.lp g (fun f s y=>F.oper_times_l1 g f s y) (fun k r s=>some (r.foldl (fun v m=>v+m.2) s)) (fun k s=>0≤s∧s≤k*1048576)
  (fun f s hp=>by show F.oper_times_l1 g (f+1) s _=_;rw[F.oper_times_l1,if_neg (by omega)];rfl)
  (fun f s k x hx hk hp ih=>by
   have a1:=h1 x (List.mem_of_getElem? hx)
   have a2:=h2 x (List.mem_of_getElem? hx)
   show F.oper_times_l1 g (f+1) s _=_
   rw[F.oper_times_l1,if_pos (by omega),A.ixn hx,Option.bind_some,A.gd1 ⟨by omega,by omega⟩,A.gd1 ⟨by omega,by omega⟩]
   exact ih (s+x.2) ⟨by omega,by omega⟩)
  (by have:=FU_big;omega) 0 ⟨by omega,by omega⟩
theorem number_l (f:Nat): ∀(at_ n:Nat) (xs:List UInt8),n<10^at_→1≤at_→at_≤20→at_<f→xs.length=20→n<9223372036854775808→F.oper_number_l1 f xs (n:Int) (at_:Int)=some ⟨(dg at_ n++xs.drop at_).toArray⟩:=by
 induction f with
 |zero=>intro a n xs _ _ _ h;omega
 |succ f ih=>
  intro a n xs hn h1 h20 hf hx hb
  obtain⟨a,rfl⟩: ∃b,a=b+1:=⟨a-1,by omega⟩
  have tm:Int.tmod (n:Int) 10=((n%10:Nat):Int):=by rw[Int.tmod_eq_emod_of_nonneg (by omega)];rfl
  have td:Int.tdiv (n:Int) 10=((n / 10:Nat):Int):=by rw[Int.tdiv_eq_ediv_of_nonneg (by omega)];rfl
  have eb:A.b8 (48+((n%10:Nat):Int))=UInt8.ofNat (48+n%10):=by
   unfold A.b8
   congr 1
   omega
  have e1:((a+1:Nat):Int)-1=(a:Int):=by omega
  rw[F.oper_number_l1,A.gd1 ⟨by omega,by omega⟩,tm,A.gd1 ⟨by decide,by omega,by omega⟩,A.gd1 hx.symm,e1,A.ixn (x:=xs[a]) (List.getElem?_eq_getElem (by omega)),Option.bind_some,td,A.gd1 ⟨by decide,by omega,by omega⟩,eb,Int.toNat_natCast]
  have hd:(xs.set a (UInt8.ofNat (48+n%10))).drop a=UInt8.ofNat (48+n%10)::xs.drop (a+1):=by
   rw[A.dropx (k:=a) (x:=UInt8.ofNat (48+n%10)) (by rw[List.getElem?_set_self (by omega)]),List.drop_set_of_lt (by omega)]
  by_cases h0:n / 10=0
  ·rw[if_pos (by omega),A.gd1 (by rw[List.length_set];exact hx.symm),A.gd1 ⟨by omega,by rw[List.length_set];omega⟩,hd,dg,if_pos h0];rfl
  ·have ha:1≤a:=by
    cases a with
    |zero=>simp at hn;omega
    |succ a=>omega
   have hp:n / 10<10^a:=by rw[Nat.div_lt_iff_lt_mul (by omega)];rw[Nat.pow_succ]at hn;exact hn
   rw[if_neg (by omega),ih a (n / 10) _ hp ha (by omega) (by omega) (by rw[List.length_set];exact hx) (by omega),hd,dg,if_neg h0]
   simp
theorem number_dec (n:Int)(h0:0≤n)(h1:n<9223372036854775808):F.oper_number n=some (dec n):=by
 obtain⟨k,rfl⟩: ∃k:Nat,n=k:=⟨n.toNat,by omega⟩
 have hk:k<10^20:=Nat.lt_of_lt_of_le (show k<9223372036854775808 by omega) (by decide)
 have:=number_l A.FU 20 k (List.replicate 20 (0:UInt8)) hk (by omega) (by omega) (by have:=FU_big;omega) (by simp) (by omega)
 rw[F.oper_number]
 refine this.trans ?_
 unfold dec
 rw[Int.toNat_natCast]
 simp
theorem Keys_ok {l:List Mn}(h:Bag l)(hl:l.length≤1000):F.oper_Keys l=some l:=by
 rw[F.oper_Keys,rec_CheckBag_eq l (by unfold maxLen;omega),Option.bind_some,chkB_iff.2 h,if_neg (by simp),F.oper_Keys_j1,F.slices_Clone_api_Many_api_Many,A.gd1 (by simp;omega),Option.bind_some];rfl
theorem grp_run: ∀(g:List Mn) (m:Mn) (r:List Mn),(∀x,x∈g→x.1.1=m.1.1)→(∀x,r.head?=some x→x.1.1≠m.1.1)→grp (m::g++r)=(m.1.1,m::g)::grp r
 | [],m,r,_,hr=>by
  rw[List.singleton_append,grp_cons]
  rcases grp_head r with⟨rfl,h⟩|⟨m',t,g',r',rfl,h⟩
  ·rw[h]
  ·rw[h]
   simp only[if_neg (fun e:m.1.1=m'.1.1=>hr m' rfl e.symm)]
 |x::g,m,r,hg,hr=>by
  have hx:=hg x (List.mem_cons_self ..)
  rw[List.cons_append,grp_cons,grp_run g x r (fun y hy=>(hg y (List.mem_cons_of_mem _ hy)).trans hx.symm) (fun y hy=>by rw[hx];exact hr y hy)]
  simp only[hx,if_true]
theorem Keys_it (b:List Mn)(hl:b.length≤1000):F.oper_Keys_1_it b=some (grp b):=by
 have hFU:=FU_big
 have main: ∀(n p f:Nat),b.length-p≤n→n<f→F.oper_Keys_1_it_l3 b f (p:Int)=some (grp (b.drop p)):=by
  intro n
  induction n with
  |zero=>
   intro p f hp hf
   obtain⟨f,rfl⟩: ∃f',f=f'+1:=⟨f-1,by omega⟩
   rw[F.oper_Keys_1_it_l3,if_neg (by omega),List.drop_eq_nil_of_le (by omega)];rfl
  |succ n ih=>
   intro p f hp hf
   obtain⟨f,rfl⟩: ∃f',f=f'+1:=⟨f-1,by omega⟩
   rw[F.oper_Keys_1_it_l3]
   by_cases hlt:p<b.length
   ·rw[if_pos (by omega)]
    obtain⟨m,hm⟩: ∃m,b[p]?=some m:=⟨_,List.getElem?_eq_getElem hlt⟩
    have scan: ∀(q t g:Nat),t+q=b.length→p<t→q<g→(∀i,p≤i→i<t→∀y,b[i]?=some y→y.1.1=m.1.1)→F.oper_Keys_1_it_l2 (F.oper_Keys_1_it_l3 b f) b (p:Int) g (t:Int)=some (grp (b.drop p)):=by
     have stop: ∀(t:Nat) (k4:Int→Option (List (Int×List Mn))),p<t→t≤b.length→(∀i,p≤i→i<t→∀y,b[i]?=some y→y.1.1=m.1.1)→(∀x,(b.drop t).head?=some x→x.1.1≠m.1.1)→F.oper_Keys_1_it_j1 (F.oper_Keys_1_it_l3 b f) k4 b (p:Int) (t:Int) false=some (grp (b.drop p)):=by
      intro t k4 hpt htl hall hne
      rw[F.oper_Keys_1_it_j1,if_neg (by simp),A.ixn hm,Option.bind_some,A.gd1 ⟨by omega,by omega,by omega⟩,F.slices_Clone_api_Many_api_Many,Int.toNat_natCast,Int.toNat_natCast,A.gd1 (by simp;omega),Option.bind_some,ih t f (by omega) (by omega)]
      have e1:(b.take t).drop p=m::(b.take t).drop (p+1):=A.dropx (by rw[List.getElem?_take_of_lt hpt];exact hm)
      have e2:b.drop p=(b.take t).drop p++b.drop t:=by
       have h1:=List.take_append_drop t b
       conv=>lhs;rw[←h1]
       rw[List.drop_append_of_le_length (by rw[List.length_take];omega)]
      have:=grp_run ((b.take t).drop (p+1)) m (b.drop t) (fun x hx=>by
       obtain⟨i,hi⟩:=List.getElem?_of_mem hx
       rw[List.getElem?_drop]at hi
       have hi2:p+1+i<(b.take t).length:=(List.getElem?_eq_some_iff.1 hi).1
       rw[List.length_take]at hi2
       rw[List.getElem?_take_of_lt (by omega)]at hi
       exact hall (p+1+i) (by omega) (by omega) x hi) hne
      rw[e2,e1]
      show A.cns _ (some _)=some (grp (m::(b.take t).drop (p+1)++b.drop t))
      rw[this];rfl
     intro q
     induction q with
     |zero=>
      intro t g htq hpt hg hall
      obtain⟨g,rfl⟩: ∃f',g=f'+1:=⟨g-1,by omega⟩
      rw[F.oper_Keys_1_it_l2,if_neg (by omega)]
      exact stop t _ hpt (by omega) hall fun x hx=>by rw[List.drop_eq_nil_of_le (by omega)]at hx;cases hx
     |succ q ihq=>
      intro t g htq hpt hg hall
      obtain⟨g,rfl⟩: ∃f',g=f'+1:=⟨g-1,by omega⟩
      obtain⟨x,hx⟩: ∃m,b[t]?=some m:=⟨_,List.getElem?_eq_getElem (by omega)⟩
      rw[F.oper_Keys_1_it_l2,if_pos (by omega),A.ixn hx,Option.bind_some,A.ixn hm,Option.bind_some]
      by_cases he:x.1.1=m.1.1
      ·rw[decide_eq_true he,F.oper_Keys_1_it_j1,if_pos rfl,A.gd1 ⟨by omega,by omega⟩,show(t:Int)+1=((t+1:Nat):Int) by omega]
       exact ihq (t+1) g (by omega) (by omega) (by omega) fun i h1 h2 y hy=>by
        by_cases hi:i<t
        ·exact hall i h1 hi y hy
        ·obtain rfl:i=t:=by omega
         rw[hx]at hy;rw[←Option.some.inj hy];exact he
      ·rw[decide_eq_false he]
       exact stop t _ hpt (by omega) hall fun y hy=>by
        rw[List.head?_drop,hx]at hy
        rw[←Option.some.inj hy];exact he
    obtain⟨F',hF'⟩: ∃F',A.FU=F'+1:=⟨A.FU-1,by omega⟩
    rw[hF',F.oper_Keys_1_it_l2,if_pos (by omega),A.ixn hm,Option.bind_some,Option.bind_some,decide_eq_true rfl,F.oper_Keys_1_it_j1,if_pos rfl,A.gd1 ⟨by omega,by omega⟩,show(p:Int)+1=((p+1:Nat):Int) by omega]
    exact scan (b.length-(p+1)) (p+1) F' (by omega) (by omega) (by omega) fun i h1 h2 y hy=>by
     obtain rfl:i=p:=by omega
     rw[hm]at hy;rw[←Option.some.inj hy]
   ·rw[if_neg (by omega),List.drop_eq_nil_of_le (by omega)];rfl
 have:=main b.length 0 A.FU (by omega) (by omega)
 rw[F.oper_Keys_1_it]
 exact this
end Go.Proofs.YtbljnlkhebiniaaDoor
end
section
set_option maxRecDepth 20000
set_option linter.unusedVariables false
set_option linter.unusedSimpArgs false
namespace Go.Proofs.YtbljnlkhebiniaaDoor
open Go.RowKit Go.Graph Go.Utf Go.Ent Go.Opr
abbrev Ob:=Nd×List Rc×List (Rc×Int)
theorem grp_len: ∀(l:List Mn),(grp l).length≤l.length
 | []=>Nat.le_refl _
 |m::l=>by
  have:=grp_len l
  rw[grp_cons]
  rcases grp_head l with⟨rfl,h⟩|⟨m',t,g,r,rfl,h⟩
  ·rw[h];simp
  ·rw[h]at this ⊢
   by_cases e:m.1.1=m'.1.1
   ·simp only[if_pos e];simp only[List.length_cons]at this ⊢;omega
   ·simp only[if_neg e];simp only[List.length_cons]at this ⊢;omega
theorem grp_bag {l:List Mn}(h:Bag l){kg:Int×List Mn}(hk:kg∈grp l):Bag kg.2:=by
 rw[grp_oth h.kl hk];exact h.sub List.filter_sublist
theorem grp_size {l:List Mn}(h:KL l){kg:Int×List Mn}(hk:kg∈grp l):kg.2.length≤l.length:=by
 rw[grp_oth h hk];exact List.length_filter_le ..
theorem counts_l (x:Ob)(f:Fun)(b:List Mn): ∀(gs:List (Int×List Mn)) (xs:List Rc),(∀kg,kg∈gs→Bag kg.2∧kg.2.length≤1000)→xs.length+gs.length≤1000000→
  F.oper_teller_counts_l1 x gs xs x.1.1 x.1.2.1 x.1.2.2.2.1.1 x.1.2.2.2.1.2.1 x.1.2.2.2.1.2.2 x.1.2.2.2.2.1 x.1.2.2.2.2.2.1 x.1.2.2.2.2.2.2=some (x.1,xs++gs.flatMap (outG 7 f b),x.2.2)
 | [],xs,_,_=>by rw[F.oper_teller_counts_l1];simp
 |kg::gs,xs,h,hl=>by
  obtain⟨h1,h2⟩:=h kg (List.mem_cons_self ..)
  obtain⟨t1,t2,t3⟩:=times_eq kg.2 h2 h1.one h1.top
  rw[List.length_cons]at hl
  rw[F.oper_teller_counts_l1,t1,Option.bind_some,number_dec _ t2 (by omega),Option.bind_some,A.gd1 (by simp only[List.length_cons,List.length_nil];omega),counts_l x f b gs _ (fun kg hk=>h kg (List.mem_cons_of_mem _ hk)) (by simp only[List.length_append,List.length_cons,List.length_nil];omega),List.flatMap_cons]
  simp[outG]
theorem counts_eq (x:Ob)(f:Fun)(a b:List Mn)(ha:Bag a)(hl:a.length≤1000)(hx:x.2.1.length≤100000):F.oper_teller_counts x a=some (x.1,x.2.1++(grp a).flatMap (outG 7 f b),x.2.2):=by
 have:=grp_len a
 rw[F.oper_teller_counts,Keys_ok ha hl,Option.bind_some,Keys_it a hl,Option.bind_some]
 exact counts_l x f b _ _ (fun kg hk=>⟨grp_bag ha hk,Nat.le_trans (grp_size ha.kl hk) hl⟩) (by omega)
theorem runes_len (s:ByteArray)(hs:s.size≤1099511627776):F.fn_runes s=some ((cks s.data.toList).map (·.2))∧(((cks s.data.toList).map (·.2)).length:Int)=rns s:=⟨runes_F s hs,by rw[List.length_map];rfl⟩
theorem fn_ahead_eq (k:Int)(a b:ByteArray)(ha:a.size≤1099511627776)(hb:b.size≤1099511627776):F.fn_ahead k a b=some (aheadP k a b):=by
 obtain⟨r1,r2⟩:=runes_len a ha
 obtain⟨r3,r4⟩:=runes_len b hb
 rw[F.fn_ahead]
 unfold aheadP
 by_cases h1:k=31
 ·rw[if_pos h1,if_pos h1];rfl
 ·rw[if_neg h1,if_neg h1]
  by_cases h2:k=32
  ·rw[if_pos h2,if_pos h2,tl_eq];rfl
  ·rw[if_neg h2,if_neg h2,r1,Option.bind_some,r3,Option.bind_some,r2,r4]
   by_cases h3:rns b<rns a
   ·rw[if_pos h3,decide_eq_true h3];rfl
   ·rw[if_neg h3,decide_eq_false h3,Bool.false_or]
    show some (bif decide (rns a=rns b)then bl a b else false)=_
    cases decide (rns a=rns b)<;>rfl
theorem cut_eq (s:ByteArray)(hs:s.size≤9223372036854775807):F.rec_Cut s 64=some (cut s):=rec_Cut_eq s 64 hs
theorem red_eq (f:Fun)(g:List Mn)(hf:chk 8 f=0)(hs:f.2.2.size≤1000)(hg:Bag g)(hl:g.length≤1000)(hne:g≠[])(k:Int)(hk: ∀m,m∈g→m.1.1=k):F.fn_Reduce f g=some (red f.1 g,0):=by
 rw[F.fn_Reduce]
 show(F.fn_Check 8 f).bind _=_
 rw[fn_Check_eq 8 f (by omega),Option.bind_some,hf,if_neg (by simp),rec_CheckBag_eq g (by unfold maxLen;omega),Option.bind_some,chkB_iff.2 hg,if_neg (by simp)]
 cases g with
 |nil=>exact absurd rfl hne
 |cons m g=>
  have e0:A.ix (m::g) 0=some m:=rfl
  rw[if_neg (by simp only[List.length_cons];omega),e0,Option.bind_some,A.gd1 ⟨by omega,by simp⟩]
  have hd:List.drop ((1:Int).toNat) (m::g)=g:=rfl
  have hm:=hk m (List.mem_cons_self ..)
  have txt: ∀x,x∈m::g→x.1.2.size≤64:=fun x hx=>(okT_iff.1 (hg.txt x hx)).1
  have fin: ∀y:ByteArray,y.size≤100000→(F.rec_Cut y 64).bind (fun r37=>some ((m.1.1,r37),(0:Int)))=some ((m.1.1,cut y),0):=fun y hy=>by rw[cut_eq y (by omega)];rfl
  exact A.lp g (fun n (s:ByteArray) y=>F.fn_Reduce_l2 f (m::g) n m.1.1 s y) (fun k r s=>some ((m.1.1,cut (redT f.1 s r)),0)) (fun k s=>s.size≤64*(k+1))
   (fun n s hp=>by
    show F.fn_Reduce_l2 f (m::g) (n+1) m.1.1 s _=_
    rw[F.fn_Reduce_l2,hd,if_neg (by omega)]
    rw[List.length_cons]at hl
    exact fin s (by omega))
   (fun n s j x hx hj hp ih=>by
    have hxm:=List.mem_of_getElem? hx
    have hx64:=txt x (List.mem_cons_of_mem _ hxm)
    rw[List.length_cons]at hl
    have hkx:x.1.1=m.1.1:=(hk x (List.mem_cons_of_mem _ hxm)).trans hm.symm
    show F.fn_Reduce_l2 f (m::g) (n+1) m.1.1 s _=some ((m.1.1,cut (redT f.1 (if f.1=34 then s++x.1.2 else if aheadP f.1 x.1.2 s=true then x.1.2 else s) (g.drop (j+1)))),0)
    have nx: ∀y:ByteArray,y.size≤64*(j+1+1)→F.fn_Reduce_j1 (F.fn_Reduce_l2 f (m::g) n) m.1.1 (j:Int) y=some ((m.1.1,cut (redT f.1 y (g.drop (j+1)))),0):=fun y hy=>by
     rw[F.fn_Reduce_j1,A.gd1 ⟨by omega,by omega⟩]
     exact ih y hy
    rw[F.fn_Reduce_l2,hd,if_pos (by omega),A.ixn hx,Option.bind_some,if_neg (fun h=>h hkx)]
    by_cases h34:f.1=34
    ·rw[if_pos h34,if_pos h34,A.gd1 (by omega)]
     exact nx _ (by rw[ByteArray.size_append];omega)
    ·rw[if_neg h34,if_neg h34,fn_ahead_eq _ _ _ (by omega) (by omega),Option.bind_some]
     by_cases ha:aheadP f.1 x.1.2 s=true
     ·rw[if_pos ha,if_pos ha];exact nx _ (by omega)
     ·rw[if_neg ha,if_neg ha];exact nx _ (by omega))
   (by have:=FU_big;rw[List.length_cons]at hl;omega) m.1.2 (by have:=txt m (List.mem_cons_self ..);omega)
theorem reduces_l (x:Ob)(b:List Mn)(hf:chk 8 x.1.2.2.2.1=0)(hs:x.1.2.2.2.1.2.2.size≤1000): ∀(gs:List (Int×List Mn)) (xs:List Rc),(∀kg,kg∈gs→Bag kg.2∧kg.2.length≤1000∧kg.2≠[]∧∀m,m∈kg.2→m.1.1=kg.1)→xs.length+gs.length≤1000000→
  F.oper_teller_reduces_l1 x gs xs x.1.1 x.1.2.1 x.1.2.2.2.1.1 x.1.2.2.2.1.2.1 x.1.2.2.2.1.2.2 x.1.2.2.2.2.1 x.1.2.2.2.2.2.1 x.1.2.2.2.2.2.2=some (x.1,xs++gs.flatMap (outG 8 x.1.2.2.2.1 b),x.2.2)
 | [],xs,_,_=>by rw[F.oper_teller_reduces_l1];simp
 |kg::gs,xs,h,hl=>by
  obtain⟨h1,h2,h3,h4⟩:=h kg (List.mem_cons_self ..)
  rw[List.length_cons]at hl
  rw[F.oper_teller_reduces_l1]
  show(F.fn_Reduce x.1.2.2.2.1 kg.2).bind _=_
  rw[red_eq _ _ hf hs h1 h2 h3 kg.1 h4,Option.bind_some,if_pos rfl,A.gd1 (by simp only[List.length_cons,List.length_nil];omega),reduces_l x b hf hs gs _ (fun kg hk=>h kg (List.mem_cons_of_mem _ hk)) (by simp only[List.length_append,List.length_cons,List.length_nil];omega),List.flatMap_cons]
  simp[outG]
theorem reduces_eq (x:Ob)(a b:List Mn)(hf:chk 8 x.1.2.2.2.1=0)(hs:x.1.2.2.2.1.2.2.size≤1000)(ha:Bag a)(hl:a.length≤1000)(hx:x.2.1.length≤100000):F.oper_teller_reduces x a=some (x.1,x.2.1++(grp a).flatMap (outG 8 x.1.2.2.2.1 b),x.2.2):=by
 have:=grp_len a
 rw[F.oper_teller_reduces,Keys_ok ha hl,Option.bind_some,Keys_it a hl,Option.bind_some]
 exact reduces_l x b hf hs _ _ (fun kg hk=>⟨grp_bag ha hk,Nat.le_trans (grp_size ha.kl hk) hl,grp_all hk⟩) (by omega)
theorem oth_map (b:List Mn)(hb:KL b): ∀k,Z.mget ([]:List Mn) ((grp b).foldl (fun m kg=>Z.mins m kg.1 kg.2) []) k=oth b k:=by
 have main: ∀(gs:List (Int×List Mn)) (m:List (Int×List Mn)),(∀kg,kg∈gs→kg.2=oth b kg.1)→(∀k,Z.mhas m k=true→Z.mget ([]:List Mn) m k=oth b k)→∀k,(Z.mhas m k=true∨∃kg,kg∈gs∧kg.1=k)→Z.mget ([]:List Mn) (gs.foldl (fun m kg=>Z.mins m kg.1 kg.2) m) k=oth b k:=by
  intro gs
  induction gs with
  |nil=>intro m _ h2 k h3;exact h2 k (h3.resolve_right (by simp))
  |cons x gs ih=>
   intro m h1 h2 k h3
   have hx:=h1 x (List.mem_cons_self ..)
   refine ih (Z.mins m x.1 x.2) (fun kg hk=>h1 kg (List.mem_cons_of_mem _ hk)) (fun k hk=>?_) k ?_
   ·rw[Z.mget_ins]
    split
    ·rename_i e;rw[e,hx]
    ·rename_i e
     rw[Z.mhas_ins,decide_eq_false e,Bool.false_or]at hk
     exact h2 k hk
   ·rw[Z.mhas_ins]
    rcases h3 with h3|⟨kg,hk,rfl⟩
    ·left;rw[h3,Bool.or_true]
    ·rcases List.mem_cons.1 hk with rfl|hk
     ·left;rw[decide_eq_true rfl,Bool.true_or]
     ·right;exact⟨kg,hk,rfl⟩
 intro k
 by_cases h: ∃kg,kg∈grp b∧kg.1=k
 ·exact main (grp b) [] (fun kg hk=>grp_oth hb hk) (fun k hk=>by cases hk) k (.inr h)
 ·have h0:oth b k=[]:=by
   rw[List.filter_eq_nil_iff]
   intro m hm
   simp only[decide_eq_true_eq]
   intro e
   rw[←grp_flat b]at hm
   obtain⟨kg,hk,hmk⟩:=List.mem_flatMap.1 hm
   exact h ⟨kg,hk,((grp_all hk).2 m hmk).symm.trans e⟩
  rw[h0]
  refine Z.mget_none ?_
  have nokey: ∀(gs:List (Int×List Mn)) (m:List (Int×List Mn)),Z.mhas m k=false→(∀kg,kg∈gs→kg.1≠k)→Z.mhas (gs.foldl (fun m kg=>Z.mins m kg.1 kg.2) m) k=false:=by
   intro gs
   induction gs with
   |nil=>intro m h _;exact h
   |cons x gs ih=>
    intro m h1 h2
    refine ih _ ?_ fun kg hk=>h2 kg (List.mem_cons_of_mem _ hk)
    rw[Z.mhas_ins,h1,decide_eq_false (fun e=>h2 x (List.mem_cons_self ..) e.symm)];rfl
  exact nokey _ _ rfl fun kg hk e=>h ⟨kg,hk,e⟩
theorem joins_l (x:Ob)(m23:List (Int×List Mn))(f:Fun)(b:List Mn)(hm: ∀k,Z.mget ([]:List Mn) m23 k=oth b k)(hb:Bag b)(hbl:b.length≤1000):
  ∀(gs:List (Int×List Mn)) (xs:List Rc),(∀kg,kg∈gs→Bag kg.2)→xs.length+(gs.flatMap (·.2)).length*1000≤10000000→(gs.flatMap (·.2)).length≤1000→
  F.oper_teller_joins_l3 x m23 gs xs x.1.1 x.1.2.1 x.1.2.2.2.1.1 x.1.2.2.2.1.2.1 x.1.2.2.2.1.2.2 x.1.2.2.2.2.1 x.1.2.2.2.2.2.1 x.1.2.2.2.2.2.2=some (x.1,xs++gs.flatMap (outG 9 f b),x.2.2)
 | [],xs,_,_,_=>by rw[F.oper_teller_joins_l3];simp
 |kg::gs,xs,h,hl,hl2=>by
  have h1:=h kg (List.mem_cons_self ..)
  have hFU:=FU_big
  rw[List.flatMap_cons,List.length_append]at hl hl2
  have ob:(oth b kg.1).length≤1000:=Nat.le_trans (List.length_filter_le ..) hbl
  have otx: ∀y,y∈oth b kg.1→y.1.2.size≤64:=fun y hy=>(okT_iff.1 (hb.txt y (List.mem_filter.1 hy).1)).1
  rw[F.oper_teller_joins_l3]
  have nil0: ∀xs:List Rc,xs.length+(gs.flatMap (·.2)).length*1000≤10000000→F.oper_teller_joins_l3 x m23 gs xs x.1.1 x.1.2.1 x.1.2.2.2.1.1 x.1.2.2.2.1.2.1 x.1.2.2.2.1.2.2 x.1.2.2.2.2.1 x.1.2.2.2.2.2.1 x.1.2.2.2.2.2.2=some (x.1,xs++gs.flatMap (outG 9 f b),x.2.2):=fun xs hx=>
   joins_l x m23 f b hm hb hbl gs xs (fun kg hk=>h kg (List.mem_cons_of_mem _ hk)) hx (by omega)
  refine(A.lp kg.2 (fun n (s:List Rc) y=>F.oper_teller_joins_l2 (F.oper_teller_joins_l3 x m23 gs) m23 kg n s x.1.1 x.1.2.1 x.1.2.2.2.1.1 x.1.2.2.2.1.2.1 x.1.2.2.2.1.2.2 x.1.2.2.2.2.1 x.1.2.2.2.2.2.1 x.1.2.2.2.2.2.2 y)
   (fun j r s=>some (x.1,(s++joinsG kg.1 r (oth b kg.1))++gs.flatMap (outG 9 f b),x.2.2)) (fun j s=>s.length≤xs.length+1000*j)
   (fun n s hp=>by
    show F.oper_teller_joins_l2 _ m23 kg (n+1) s _ _ _ _ _ _ _ _ _=_
    rw[F.oper_teller_joins_l2,if_neg (by omega),nil0 s (by omega)]
    simp[joinsG])
   (fun n s j p hpj hj hp ih=>by
    have p64:=(okT_iff.1 (h1.txt p (List.mem_of_getElem? hpj))).1
    show F.oper_teller_joins_l2 _ m23 kg (n+1) s _ _ _ _ _ _ _ _ _=_
    rw[F.oper_teller_joins_l2,if_pos (by omega),A.ixn hpj,Option.bind_some,hm,A.lt]
    refine(A.lp (oth b kg.1) (fun n' (s:List Rc) y=>F.oper_teller_joins_l1 (F.oper_teller_joins_l2 (F.oper_teller_joins_l3 x m23 gs) m23 kg n) kg (j:Int) p (oth b kg.1) n' s x.1.1 x.1.2.1 x.1.2.2.2.1.1 x.1.2.2.2.1.2.1 x.1.2.2.2.1.2.2 x.1.2.2.2.2.1 x.1.2.2.2.2.2.1 x.1.2.2.2.2.2.2 y)
     (fun i r s'=>some (x.1,(s'++(r.map fun q=>(kg.1,cut ((p.1.2++ByteArray.mk #[43])++q.1.2))))++joinsG kg.1 (kg.2.drop (j+1)) (oth b kg.1)++gs.flatMap (outG 9 f b),x.2.2)) (fun i s'=>s'.length≤xs.length+1000*j+i)
     (fun n' s' hp'=>by
      show F.oper_teller_joins_l1 _ kg (j:Int) p (oth b kg.1) (n'+1) s' _ _ _ _ _ _ _ _ _=_
      rw[F.oper_teller_joins_l1,if_neg (by omega),A.gd1 ⟨by omega,by omega⟩]
      refine(ih s' (by omega)).trans ?_
      simp)
     (fun n' s' i q hq hi hp' ih'=>by
      have q64:=otx q (List.mem_of_getElem? hq)
      have e43:(ByteArray.mk #[43]).size=1:=rfl
      show F.oper_teller_joins_l1 _ kg (j:Int) p (oth b kg.1) (n'+1) s' _ _ _ _ _ _ _ _ _=_
      rw[F.oper_teller_joins_l1,if_pos (by omega),A.ixn hq,Option.bind_some,A.gd1 ⟨by omega,by rw[ByteArray.size_append];omega⟩,cut_eq _ (by rw[ByteArray.size_append,ByteArray.size_append];omega),Option.bind_some,A.gd1 (by simp only[List.length_cons,List.length_nil];omega),A.gd1 ⟨by omega,by omega⟩]
      refine(ih' (s'++[(kg.1,cut ((p.1.2++ByteArray.mk #[43])++q.1.2))]) (by simp only[List.length_append,List.length_cons,List.length_nil];omega)).trans ?_
      simp)
     (by omega) s (by omega)).trans ?_
    simp[joinsG])
   (by omega) xs (by omega)).trans ?_
  rw[List.flatMap_cons]
  simp[outG]
theorem joins_eq (x:Ob)(f:Fun)(a b:List Mn)(ha:Bag a)(hl:a.length≤1000)(hb:Bag b)(hbl:b.length≤1000)(hx:x.2.1.length≤100000):F.oper_teller_joins x a b=some (x.1,x.2.1++(grp a).flatMap (outG 9 f b),x.2.2):=by
 have ls: ∀(gs:List (Int×List Mn)) (m:List (Int×List Mn)),F.oper_teller_joins_l4 x a gs m=F.oper_teller_joins_l4 x a [] (gs.foldl (fun m kg=>Z.mins m kg.1 kg.2) m):=by
  intro gs
  induction gs with
  |nil=>intro m;rfl
  |cons y gs ih=>intro m;exact ih (Z.mins m y.1 y.2)
 have:=grp_flat a
 rw[F.oper_teller_joins,Keys_ok hb hbl,Option.bind_some,Keys_it b hbl,Option.bind_some,ls,F.oper_teller_joins_l4,Keys_ok ha hl,Option.bind_some,Keys_it a hl,Option.bind_some]
 exact joins_l x _ f b (oth_map b hb.kl) hb hbl _ _ (fun kg hk=>grp_bag ha hk) (by rw[this];omega) (by rw[this];omega)
end Go.Proofs.YtbljnlkhebiniaaDoor
end
section
set_option maxRecDepth 20000
set_option linter.unusedVariables false
set_option linter.unusedSimpArgs false
namespace Go.A
theorem dem_all {α β γ:Type}[DecidableEq γ](m:List α)(g:α→β)(L:Nat→List Nat→List β→Option γ)(E:List β→Option γ)(S:α→List β→Option γ→Option γ)(r:γ)
  (hL: ∀f sn xs,L (f+1) sn xs=dem m sn (E xs) fun i p=>S p xs (L f (i::sn) (xs++[g p])))
  (hS: ∀p xs o,p∈m→xs.length<m.length→S p xs o=o)
  (hE: ∀ys,ys.Perm (m.map g)→E ys=some r) (hm:m.length<FU):L FU [] []=some r:=by
 have main: ∀(f:Nat) (sn:List Nat) (xs:List β),sn.Nodup→(∀i,i∈sn→i<m.length)→m.length<f+sn.length→xs.length=sn.length→xs.Perm ((sn.filterMap fun i=>m[i]?).map g)→L f sn xs=some r:=by
  intro f
  induction f with
  |zero=>intro sn xs h1 h2 h3;have:=seen_lt h1 h2;omega
  |succ f ih=>
   intro sn xs h1 h2 h3 h4 h5
   have hsl:=seen_lt h1 h2
   rw[hL]
   have dof: ∀{e:Option γ} {k:Nat→α→Option γ},((∀i,i<m.length→i∈sn)→e=some r)→(∀i p,m[i]?=some p→i∉sn→k i p=some r)→dem m sn e k=some r:=by
    intro e k h1 h2
    unfold dem
    have hmem: ∀i,i∈(List.range m.length).filter (fun i=> !(sn.contains i))↔i<m.length∧i∉sn:=fun i=>by
     rw[List.mem_filter,List.mem_range];simp
    split
    ·rename_i hl
     rw[hl]at hmem
     exact h1 fun i hi=>Classical.byContradiction fun hn=>by have:=(hmem i).2 ⟨hi,hn⟩;cases this
    ·rename_i i js hl
     rw[hl]at hmem
     have hi:=(hmem i).1 (List.mem_cons_self ..)
     rw[List.getElem?_eq_getElem hi.1,Option.bind_some,h2 i _ (List.getElem?_eq_getElem hi.1) hi.2,if_pos]
     rw[List.all_eq_true]
     intro j hj
     have hj:=(hmem j).1 (List.mem_cons_of_mem _ hj)
     rw[List.getElem?_eq_getElem hj.1,Option.bind_some,h2 j _ (List.getElem?_eq_getElem hj.1) hj.2]
     exact decide_eq_true rfl
   refine dof (fun hall=>hE xs (h5.trans ?_)) fun i p hp hi=>?_
   ·refine List.Perm.map g ?_
    have hp:sn.Perm (List.range m.length):=by
     refine(List.perm_ext_iff_of_nodup h1 List.nodup_range).2 fun i=>?_
     rw[List.mem_range];exact⟨h2 i,hall i⟩
    refine(hp.filterMap _).trans ?_
    have:(List.range m.length).filterMap (fun i=>m[i]?)=m:=by
     have e:(List.range m.length).filterMap (fun i=>m[i]?)=(List.range m.length).pmap (fun i h=>m[i]'h) (fun i h=>List.mem_range.1 h):=by
      have: ∀(l:List Nat) (h: ∀i,i∈l→i<m.length),l.filterMap (fun i=>m[i]?)=l.pmap (fun i h=>m[i]'h) h:=by
       intro l
       induction l with
       |nil=>intro _;rfl
       |cons i l ih=>intro h;rw[List.filterMap_cons,List.getElem?_eq_getElem (h i (List.mem_cons_self ..)),List.pmap];simp only[];rw[ih fun j hj=>h j (List.mem_cons_of_mem _ hj)]
      exact this _ _
     rw[e];exact List.ext_getElem (by simp) fun k h1 h2=>by simp
    rw[this]
   ·have hlt:=(List.getElem?_eq_some_iff.1 hp).1
    have hsn:(i::sn).Nodup:=List.nodup_cons.2 ⟨hi,h1⟩
    have hsb: ∀j,j∈i::sn→j<m.length:=fun j hj=>(List.mem_cons.1 hj).elim (fun e=>e▸hlt) (h2 j)
    have hsl2:=seen_lt hsn hsb
    rw[List.length_cons]at hsl2
    rw[hS p xs _ (List.mem_of_getElem? hp) (by omega)]
    refine ih _ _ hsn hsb (by rw[List.length_cons];omega) (by rw[List.length_append,h4];rfl) ?_
    rw[List.filterMap_cons,hp]
    simp only[List.map_cons]
    exact(List.perm_append_comm (l₁:=xs) (l₂:=[g p])).trans (h5.cons (g p))
 exact main FU [] [] List.nodup_nil (by simp) (by simpa using hm) rfl (List.Perm.refl _)
end Go.A
namespace Go.Proofs.YtbljnlkhebiniaaDoor
open Go.RowKit Go.Graph Go.Utf Go.Ent Go.Opr
theorem map_mem {m:List (Rc×Int)}(hn:(m.map Prod.fst).Nodup)(k:Rc)(x:Int):(k,x)∈m↔Z.mhas m k=true∧Z.mget (0:Int) m k=x:=by
 constructor
 ·intro h
  obtain⟨i,hi⟩:=List.getElem?_of_mem h
  obtain⟨h1,h2⟩:=Z.mget_get (z:=(0:Int)) hn hi
  exact⟨h2,h1⟩
 ·rintro⟨h1,rfl⟩
  exact Z.mget_mem h1
structure Rel (id:Int) (m:List (Rc×Int)) (st:List En):Prop where
 nd:(m.map Prod.fst).Nodup
 sk:SK kr st
 idn: ∀e,e∈st→e.1=id
 fwd: ∀e,e∈st→(kr e,num e)∈m
 back: ∀p,p∈m→((id,p.1.1,p.1.2,p.2):En)∈st
theorem Rel.nil (id:Int):Rel id [] []:=⟨by simp,List.Pairwise.nil,by simp,by simp,by simp⟩
theorem Rel.get {id:Int}{m:List (Rc×Int)}{st:List En}(h:Rel id m st)(r:Rc):Z.mget (0:Int) m r=vE st r:=by
 cases hh:Z.mhas m r with
 |true=>
  have h1:=h.back _ (Z.mget_mem (z:=(0:Int)) hh)
  have h2:=vE_mem h.sk h1
  exact h2.symm
 |false=>
  rw[Z.mget_none hh]
  refine(vE_none fun e he e2=>?_).symm
  have:=((map_mem h.nd _ _).1 (h.fwd e he)).1
  rw[e2,hh]at this;cases this
theorem Rel.ins {id:Int}{m:List (Rc×Int)}{st:List En}(h:Rel id m st)(r:Rc)(v:Int):Rel id (Z.mins m r v) (ins kr (id,r.1,r.2,v) st):=by
 have nd:=Z.mins_nodup h.nd r v
 refine⟨nd,ins_sk h.sk,fun e he=>?_,fun e he=>?_,fun p hp=>?_⟩
 ·rcases(ins_mem h.sk).1 he with rfl|⟨he,_⟩
  ·rfl
  ·exact h.idn e he
 ·rw[map_mem nd,Z.mhas_ins,Z.mget_ins]
  rcases(ins_mem h.sk).1 he with rfl|⟨he,hn⟩
  ·refine⟨?_,if_pos rfl⟩
   rw[decide_eq_true (rfl:kr (id,r.1,r.2,v)=r)];rfl
  ·obtain⟨h1,h2⟩:=(map_mem h.nd _ _).1 (h.fwd e he)
   rw[if_neg hn,h1];exact⟨Bool.or_true _,h2⟩
 ·obtain⟨k,x⟩:=p
  obtain⟨h1,h2⟩:=(map_mem nd k x).1 hp
  rw[Z.mhas_ins]at h1
  rw[Z.mget_ins]at h2
  refine(ins_mem h.sk).2 ?_
  by_cases hk:k=r
  ·subst hk
   rw[if_pos rfl]at h2
   subst h2
   exact .inl rfl
  ·rw[if_neg hk]at h2
   rw[decide_eq_false hk,Bool.false_or]at h1
   exact .inr ⟨h.back _ ((map_mem h.nd k x).2 ⟨h1,h2⟩),hk⟩
theorem Measure_eq (f:Fun)(r:Rc)(hf:chk 11 f=0)(hs:f.2.2.size≤1000)(ho:okT r.2=true):F.fn_Measure f r=some (meas f r,0):=by
 have h64:=(okT_iff.1 ho).1
 rw[F.fn_Measure,F.fn_both]
 show((Option.bind (F.fn_Check 11 f) fun r3=>if r3≠0 then some r3 else(F.rec_Check r).bind fun r6=>some r6).bind _)=_
 rw[fn_Check_eq 11 f (by omega),Option.bind_some,hf,if_neg (by simp),rec_Check_eq,Option.bind_some,ho,Option.bind_some,if_pos rfl,if_neg (by simp)]
 unfold meas
 by_cases h:f.1=41
 ·rw[if_pos h,if_pos h]
 ·rw[if_neg h,if_neg h,(runes_len r.2 (by omega)).1,Option.bind_some,(runes_len r.2 (by omega)).2]
theorem meas_top (f:Fun)(r:Rc)(ho:okT r.2=true):0≤meas f r∧meas f r≤64:=by
 refine⟨meas_nn f r,?_⟩
 have h64:=(okT_iff.1 ho).1
 have:=cks_len r.2
 unfold meas rns
 split<;>omega
theorem mul_top {a b:Int}(h0:0≤a)(h1:a≤64)(h2:1≤b)(h3:b≤1048576):0≤a*b∧a*b≤67108864:=by
 refine⟨Int.mul_nonneg h0 (by omega),?_⟩
 have:=Int.mul_le_mul h1 h3 (by omega) (by omega:(0:Int)≤64)
 omega
theorem totals_l (x:Ob)(hf:chk 11 x.1.2.2.2.1=0)(hs:x.1.2.2.2.1.2.2.size≤1000): ∀(gs:List (Int×List Mn)) (xs:List Rc) (m:List (Rc×Int)) (st:List En),Rel x.1.1 m st→St2 x.1.1 st→(∀kg,kg∈gs→Bag kg.2∧kg.2.length≤1000)→xs.length+gs.length≤1000000→
  ∃m',F.oper_teller_totals_l3 x gs xs m x.1.1 x.1.2.1 x.1.2.2.2.1.1 x.1.2.2.2.1.2.1 x.1.2.2.2.1.2.2 x.1.2.2.2.2.1 x.1.2.2.2.2.2.1 x.1.2.2.2.2.2.2=some (x.1,(gs.foldl (totS x.1.2.2.2.1 x.1.1) (xs,st)).1,m')∧Rel x.1.1 m' (gs.foldl (totS x.1.2.2.2.1 x.1.1) (xs,st)).2
 | [],xs,m,st,hr,_,_,_=>⟨m,by rw[F.oper_teller_totals_l3];rfl,hr⟩
 |kg::gs,xs,m,st,hr,h2,h,hl=>by
  obtain⟨h1,hkl⟩:=h kg (List.mem_cons_self ..)
  have hFU:=FU_big
  rw[List.length_cons]at hl
  have hv:=vE_rng h2 (kg.1,nil8)
  have ht:=tot_rng (f:=x.1.2.2.2.1) h1.one hv.1 hv.2
  have hr':=hr.ins (kg.1,nil8) (tot x.1.2.2.2.1 (vE st (kg.1,nil8)) kg.2)
  have h2':St2 x.1.1 (ins kr (x.1.1,kg.1,nil8,tot x.1.2.2.2.1 (vE st (kg.1,nil8)) kg.2) st):=fun e he=>by
   rcases(ins_mem hr.sk).1 he with rfl|⟨he,_⟩
   ·exact⟨rfl,rfl,ht⟩
   ·exact h2 e he
  obtain⟨m',i1,i2⟩:=totals_l x hf hs gs (xs++[(kg.1,dec (tot x.1.2.2.2.1 (vE st (kg.1,nil8)) kg.2))]) _ _ hr' h2' (fun kg hk=>h kg (List.mem_cons_of_mem _ hk)) (by simp only[List.length_append,List.length_cons,List.length_nil];omega)
  refine⟨m',?_,i2⟩
  rw[F.oper_teller_totals_l3,A.lt]
  show F.oper_teller_totals_l2 _ xs m _ _ _ _ _ _ _ _ kg A.FU (Z.mget (0:Int) m (kg.1,nil8)) 0=_
  rw[hr.get]
  refine(A.lp kg.2 (fun n (s:Int) y=>F.oper_teller_totals_l2 (F.oper_teller_totals_l3 x gs) xs m x.1.1 x.1.2.1 x.1.2.2.2.1.1 x.1.2.2.2.1.2.1 x.1.2.2.2.1.2.2 x.1.2.2.2.2.1 x.1.2.2.2.2.2.1 x.1.2.2.2.2.2.2 kg n s y)
   (fun j r s=>F.oper_teller_totals_l3 x gs (xs++[(kg.1,dec (tot x.1.2.2.2.1 s r))]) (Z.mins m (kg.1,nil8) (tot x.1.2.2.2.1 s r)) x.1.1 x.1.2.1 x.1.2.2.2.1.1 x.1.2.2.2.1.2.1 x.1.2.2.2.1.2.2 x.1.2.2.2.2.1 x.1.2.2.2.2.2.1 x.1.2.2.2.2.2.2) (fun j s=>0≤s∧s≤1099511627776)
   (fun n s hp=>by
    show F.oper_teller_totals_l2 _ xs m _ _ _ _ _ _ _ _ kg (n+1) s _=_
    rw[F.oper_teller_totals_l2,if_neg (by omega),number_dec s hp.1 (by have:s≤1099511627776:=hp.2;omega),Option.bind_some,A.gd1 (by simp only[List.length_cons,List.length_nil];omega)]
    rfl)
   (fun n s j y hy hj hp ih=>by
    have hym:=List.mem_of_getElem? hy
    have hot:=h1.txt y hym
    obtain⟨q1,q2⟩:=meas_top x.1.2.2.2.1 y.1 hot
    obtain⟨q3,q4⟩:=mul_top q1 q2 (h1.one y hym) (h1.top y hym)
    have hp1:=hp.1
    have hp2:s≤1099511627776:=hp.2
    show F.oper_teller_totals_l2 _ xs m _ _ _ _ _ _ _ _ kg (n+1) s _=_
    rw[F.oper_teller_totals_l2,if_pos (by omega),A.ixn hy,Option.bind_some]
    show(F.fn_Measure x.1.2.2.2.1 y.1).bind _=_
    have gR:Z.R64 (meas x.1.2.2.2.1 y.1*y.2)∧Z.R64 (s+meas x.1.2.2.2.1 y.1*y.2):=⟨⟨by omega,by omega⟩,by omega,by omega⟩
    rw[Measure_eq _ _ hf hs hot,Option.bind_some,if_pos rfl,A.gd1 (by exact gR),F.oper_teller_totals_j1,A.gd1 ⟨by omega,by omega⟩]
    exact ih (min (s+meas x.1.2.2.2.1 y.1*y.2) 1099511627776) ⟨by omega,by omega⟩)
   (by omega) (vE st (kg.1,nil8)) hv).trans ?_
  exact i1
theorem totals_eq (x:Ob)(st:List En)(a:List Mn)(hr:Rel x.1.1 x.2.2 st)(h2:St2 x.1.1 st)(hf:chk 11 x.1.2.2.2.1=0)(hs:x.1.2.2.2.1.2.2.size≤1000)(ha:Bag a)(hl:a.length≤1000)(hx:x.2.1.length≤100000):
  ∃m',F.oper_teller_totals x a=some (x.1,((grp a).foldl (totS x.1.2.2.2.1 x.1.1) (x.2.1,st)).1,m')∧Rel x.1.1 m' ((grp a).foldl (totS x.1.2.2.2.1 x.1.1) (x.2.1,st)).2:=by
 have:=grp_len a
 rw[F.oper_teller_totals,Keys_ok ha hl,Option.bind_some,Keys_it a hl,Option.bind_some]
 exact totals_l x hf hs _ _ _ _ hr h2 (fun kg hk=>⟨grp_bag ha hk,Nat.le_trans (grp_size ha.kl hk) hl⟩) (by omega)
theorem fresh_eq (x:Ob)(st:List En)(a:List Mn)(hr:Rel x.1.1 x.2.2 st)(hl:a.length≤1000)(hx:x.2.1.length≤100000):
  ∃m',F.oper_teller_fresh x a=some (x.1,(a.foldl (frS x.1.1) (x.2.1,st)).1,m')∧Rel x.1.1 m' (a.foldl (frS x.1.1) (x.2.1,st)).2:=by
 have hFU:=FU_big
 have main: ∀(q j f:Nat) (xs:List Rc) (m:List (Rc×Int)) (st:List En),j+q=a.length→q<f→xs.length+q≤200000→Rel x.1.1 m st→
   ∃m',F.oper_teller_fresh_l2 x a f xs m x.1.1 x.1.2.1 x.1.2.2.2.1.1 x.1.2.2.2.1.2.1 x.1.2.2.2.1.2.2 x.1.2.2.2.2.1 x.1.2.2.2.2.2.1 x.1.2.2.2.2.2.2 (j:Int)=some (x.1,((a.drop j).foldl (frS x.1.1) (xs,st)).1,m')∧Rel x.1.1 m' ((a.drop j).foldl (frS x.1.1) (xs,st)).2:=by
  intro q
  induction q with
  |zero=>
   intro j f xs m st hj hf _ hr
   obtain⟨f,rfl⟩: ∃f',f=f'+1:=⟨f-1,by omega⟩
   refine⟨m,?_,?_⟩
   ·rw[F.oper_teller_fresh_l2,if_neg (by omega),List.drop_eq_nil_of_le (by omega)];rfl
   ·rw[List.drop_eq_nil_of_le (by omega)];exact hr
  |succ q ih=>
   intro j f xs m st hj hf hxl hr
   obtain⟨f,rfl⟩: ∃f',f=f'+1:=⟨f-1,by omega⟩
   obtain⟨y,hy⟩: ∃y,a[j]?=some y:=⟨_,List.getElem?_eq_getElem (by omega)⟩
   rw[F.oper_teller_fresh_l2,if_pos (by omega),A.ixn hy,Option.bind_some,A.lt,A.dropx hy,List.foldl_cons]
   have hg:=hr.get y.1
   have ej:(j:Int)+1=((j+1:Nat):Int):=by omega
   unfold frS
   by_cases h0:vE st y.1=0
   ·rw[if_pos (by exact hg.trans h0),if_pos h0,A.gd1 (by simp only[List.length_cons,List.length_nil];omega),F.oper_teller_fresh_j1,A.gd1 ⟨by omega,by omega⟩,ej]
    exact ih (j+1) f _ _ _ (by omega) (by omega) (by simp only[List.length_append,List.length_cons,List.length_nil];omega) (hr.ins y.1 1)
   ·rw[if_neg (by intro e;exact h0 (hg.symm.trans e)),if_neg h0,F.oper_teller_fresh_j1,A.gd1 ⟨by omega,by omega⟩,ej]
    exact ih (j+1) f _ _ _ (by omega) (by omega) (by omega) hr
 have:=main a.length 0 A.FU x.2.1 x.2.2 st (by omega) (by omega) (by omega) hr
 rw[F.oper_teller_fresh]
 exact this
theorem ordB_rc (cmp:Rc→Rc→Option Int)(h: ∀a b,cmp a b=some (cR a b))(l:List Rc):A.ordB cmp l=true∧A.cl0 cmp=fun a b=>rl a b:=by
 have e:A.cl0 cmp=fun a b=>rl a b:=by
  funext a b
  show(match cmp a b with|some c=>decide (c<0)|none=>false)=_
  rw[h];exact cR_lt a b
 refine⟨?_,e⟩
 unfold A.ordB
 rw[List.all_eq_true]
 intro x hx
 rw[List.all_eq_true]
 intro y hy
 rw[e,Bool.and_eq_true,Bool.and_eq_true]
 refine⟨⟨by rw[h];rfl,?_⟩,?_⟩
 ·show(bif rl x y then !rl y x else rl y x||decide (x=y))=true
  cases h1:rl x y with
  |true=>rw[rl_asy h1];rfl
  |false=>
   cases h2:rl y x with
   |true=>rfl
   |false=>rw[decide_eq_true (rl_tri h1 h2)];rfl
 ·rw[List.all_eq_true]
  intro z hz
  show(!(rl x y&&rl y z)||rl x z)=true
  cases h1:rl x y with
  |false=>rfl
  |true=>
   cases h2:rl y z with
   |false=>rfl
   |true=>rw[rl_tr h1 h2];rfl
theorem ord_rc (l:List Rc):A.OrdOn (fun a b:Rc=>rl a b) l:=⟨fun x _ y _ h=>rl_asy h,fun x _ y _ h1 h2=>rl_tri h1 h2,fun x _ y _ z _ h1 h2=>rl_tr h1 h2⟩
def cpF:Rc→List Rc→List Rc
 |_,[]=>[]
 |p,x::l=>if x=p then cpF p l else x::cpF x l
theorem cpF_mem: ∀{l:List Rc} {p r:Rc},r∈p::cpF p l↔r∈p::l
 | [],p,r=>by simp[cpF]
 |x::l,p,r=>by
  unfold cpF
  by_cases h:x=p
  ·subst h
   rw[if_pos rfl,cpF_mem];simp
  ·rw[if_neg h,List.mem_cons,cpF_mem,List.mem_cons,List.mem_cons,List.mem_cons]
theorem cpF_sk: ∀{l:List Rc} {p:Rc},(p::l).Pairwise (fun a b=>rl b a=false)→SK id (p::cpF p l)
 | [],p,_=>List.pairwise_singleton ..
 |x::l,p,h=>by
  obtain⟨h1,h2⟩:=List.pairwise_cons.1 h
  unfold cpF
  by_cases e:x=p
  ·subst e
   rw[if_pos rfl]
   exact cpF_sk h2
  ·rw[if_neg e]
   have ih:=cpF_sk h2
   have hpx:rl p x=true:=by
    cases hh:rl p x with
    |true=>rfl
    |false=>exact absurd (rl_tri (h1 x (List.mem_cons_self ..)) hh) e
   refine List.pairwise_cons.2 ⟨fun b hb=>?_,ih⟩
   rcases List.mem_cons.1 hb with rfl|hb
   ·exact hpx
   ·exact rl_tr hpx ((List.pairwise_cons.1 ih).1 b hb)
theorem Compact_eq (l:List Rc)(hl:l.length≤1000000)(hs:l.Pairwise (fun a b=>rl b a=false)):F.slices_Compact_api_Rec_api_Rec l=some (sc l):=by
 have hFU:=FU_big
 have fin: ∀p t,l=p::t→sc l=p::cpF p t:=fun p t e=>by
  subst e
  exact sk_ext (k:=id) (sc_ok _).1 (cpF_sk hs) fun r=>by rw[(sc_ok _).2,cpF_mem]
 rw[F.slices_Compact_api_Rec_api_Rec]
 by_cases h2:l.length<2
 ·rw[if_pos (by omega)]
  cases l with
  |nil=>rfl
  |cons p t=>
   have:t=[]:=by cases t with
    |nil=>rfl
    |cons a b=>simp only[List.length_cons]at h2;omega
   subst this
   rw[fin p [] rfl];rfl
 ·rw[if_neg (by omega)]
  have second: ∀(k:Nat) (hk:k<l.length),1≤k→∀(q j f i:Nat) (xs:List Rc) (p:Rc),k+j+q=l.length→q<f→1≤j→k≤i→i≤k+j-1→xs.length=l.length→xs.drop (k+j-1)=l.drop (k+j-1)→l[k+j-1]?=some p→
    F.slices_Compact_api_Rec_api_Rec_l2 l (k:Int) f xs (i:Int) (j:Int)=some (xs.take i++cpF p (l.drop (k+j))):=by
   intro k hk hk1 q
   induction q with
   |zero=>
    intro j f i xs p hq hf hj hi hij hx hd hp
    obtain⟨f,rfl⟩: ∃f',f=f'+1:=⟨f-1,by omega⟩
    rw[F.slices_Compact_api_Rec_api_Rec_l2,if_neg (by omega),A.gd1 ⟨by omega,by omega⟩,A.gd1 ⟨by omega,by simp;omega⟩,Int.toNat_natCast,List.take_append_of_le_length (by rw[List.length_take];omega),List.take_take,Nat.min_self,List.drop_eq_nil_of_le (by omega)]
    simp[cpF]
   |succ q ih=>
    intro j f i xs p hq hf hj hi hij hx hd hp
    obtain⟨f,rfl⟩: ∃f',f=f'+1:=⟨f-1,by omega⟩
    obtain⟨y,hy⟩: ∃y,l[k+j]?=some y:=⟨_,List.getElem?_eq_getElem (by omega)⟩
    have gx: ∀t,k+j-1≤t→xs[t]?=l[t]?:=fun t ht=>by
     have:=congrArg (fun z=>z[t-(k+j-1)]?) hd
     simp only[List.getElem?_drop]at this
     rw[show k+j-1+(t-(k+j-1))=t by omega]at this
     exact this
    have y1:(xs.drop k)[j]?=some y:=by rw[List.getElem?_drop,gx _ (by omega)];exact hy
    have y2:(xs.drop k)[j-1]?=some p:=by rw[List.getElem?_drop,gx _ (by omega),show k+(j-1)=k+j-1 by omega];exact hp
    have hxi:xs[i]?=some xs[i]:=List.getElem?_eq_getElem (by omega)
    have ej:(j:Int)-1=((j-1:Nat):Int):=by omega
    have ej1:(j:Int)+1=((j+1:Nat):Int):=by omega
    have ei1:(i:Int)+1=((i+1:Nat):Int):=by omega
    rw[F.slices_Compact_api_Rec_api_Rec_l2,if_pos (by omega),A.gd1 ⟨by omega,by omega⟩,Int.toNat_natCast,A.gd1 (by omega),A.ixn y1,Option.bind_some,A.gd1 (by omega),ej,A.ixn y2,Option.bind_some,A.dropx hy]
    show(if y≠p then _ else _)=some (xs.take i++cpF p (y::l.drop (k+j+1)))
    unfold cpF
    by_cases e:y=p
    ·rw[if_neg (fun h=>h e),if_pos e,F.slices_Compact_api_Rec_api_Rec_j1,A.gd1 ⟨by omega,by omega⟩,ej1]
     exact ih (j+1) f i xs p (by omega) (by omega) (by omega) hi (by omega) hx (by
      have:=congrArg (List.drop 1) hd
      rw[List.drop_drop,List.drop_drop]at this
      rw[show k+(j+1)-1=k+j-1+1 by omega];exact this) (by rw[show k+(j+1)-1=k+j by omega,hy,e])
    ·rw[if_pos e,if_neg e,A.gd1 (by omega),Option.bind_some,A.ixn hxi,Option.bind_some,A.gd1 ⟨by omega,by omega⟩,F.slices_Compact_api_Rec_api_Rec_j1,A.gd1 ⟨by omega,by omega⟩,ej1,ei1,Int.toNat_natCast]
     rw[ih (j+1) f (i+1) (xs.set i y) y (by omega) (by omega) (by omega) (by omega) (by omega) (by rw[List.length_set];exact hx) (by
      rw[List.drop_set_of_lt (by omega)]
      have:=congrArg (List.drop 1) hd
      rw[List.drop_drop,List.drop_drop]at this
      rw[show k+(j+1)-1=k+j-1+1 by omega];exact this) (by rw[show k+(j+1)-1=k+j by omega,hy])]
     have:(xs.set i y).take (i+1)=xs.take i++[y]:=by
      rw[List.take_add_one,List.getElem?_set_self (by omega),List.take_set_of_le (by omega)];rfl
     rw[this,List.append_assoc];rfl
  have first: ∀(q k f:Nat) (p:Rc),k+q=l.length→q<f→1≤k→l[k-1]?=some p→F.slices_Compact_api_Rec_api_Rec_l3 l f (k:Int)=some (l.take k++cpF p (l.drop k)):=by
   intro q
   induction q with
   |zero=>
    intro k f p hk hf h1 hp
    obtain⟨f,rfl⟩: ∃f',f=f'+1:=⟨f-1,by omega⟩
    rw[F.slices_Compact_api_Rec_api_Rec_l3,if_neg (by omega),List.drop_eq_nil_of_le (by omega),List.take_of_length_le (by omega)];simp[cpF]
   |succ q ih=>
    intro k f p hk hf h1 hp
    obtain⟨f,rfl⟩: ∃f',f=f'+1:=⟨f-1,by omega⟩
    obtain⟨y,hy⟩: ∃y,l[k]?=some y:=⟨_,List.getElem?_eq_getElem (by omega)⟩
    have ek:(k:Int)-1=((k-1:Nat):Int):=by omega
    rw[F.slices_Compact_api_Rec_api_Rec_l3,if_pos (by omega),A.gd1 ⟨by omega,by omega⟩,A.ixn hy,Option.bind_some,ek,A.ixn hp,Option.bind_some]
    show(if y=p then _ else _)=_
    by_cases e:y=p
    ·rw[if_pos e,A.gd1 ⟨by omega,by omega⟩]
     have:=second k (by omega) h1 (l.length-(k+1)) 1 A.FU k l y (by omega) (by omega) (by omega) (by omega) (by omega) rfl rfl (by rw[show k+1-1=k by omega];exact hy)
     refine this.trans ?_
     rw[A.dropx hy]
     conv=>rhs;rw[cpF]
     rw[if_pos e,e]
    ·rw[if_neg e,A.gd1 ⟨by omega,by omega⟩,show(k:Int)+1=((k+1:Nat):Int) by omega,ih (k+1) f y (by omega) (by omega) (by omega) (by rw[show k+1-1=k by omega];exact hy),A.dropx hy,List.take_add_one,hy]
     conv=>rhs;rw[cpF]
     rw[if_neg e];simp
  obtain⟨p,t,rfl⟩: ∃p t,l=p::t:=by
   cases l with
   |nil=>simp at h2
   |cons p t=>exact⟨p,t,rfl⟩
  have:=first ((p::t).length -1) 1 A.FU p (by omega) (by omega) (by omega) rfl
  refine(show F.slices_Compact_api_Rec_api_Rec_l3 (p::t) A.FU 1=_ from this).trans ?_
  rw[fin p t rfl];rfl
theorem sortOut_eq (l:List Rc)(hl:l.length≤1000000):((F.slices_SortFunc_api_Rec_api_Rec_rec_Compare l).bind fun r=>F.slices_Compact_api_Rec_api_Rec r)=some (sc l):=by
 obtain⟨h1,h2⟩:=ordB_rc (fun x y=>F.rec_Compare x y) rec_Compare_eq l
 rw[F.slices_SortFunc_api_Rec_api_Rec_rec_Compare,A.gd1 (by omega),A.srtF,if_pos h1,Option.bind_some,h2]
 have hp:=A.srtL_perm (fun a b:Rc=>rl a b) l
 rw[Compact_eq _ (by rw[hp.length_eq];exact hl) (A.srtL_pw (ord_rc l) l fun a h=>h)]
 exact congrArg some (sk_ext (k:=id) (sc_ok _).1 (sc_ok _).1 fun r=>by rw[(sc_ok _).2,(sc_ok _).2];exact hp.mem_iff)
theorem ent1_eq (a b:En):F.oper_teller_entries_1 a b=some (cR (kr a) (kr b)):=by
 rw[F.oper_teller_entries_1,cmp64_eq,Option.bind_some,scmp_eq,Option.bind_some,or2,Option.bind_some];rfl
theorem sk_sort {α:Type}[DecidableEq α]{k:α→Rc}{l st:List α}(cmp:α→α→Option Int)(hc: ∀a b,cmp a b=some (cR (k a) (k b)))(hp:l.Perm st)(hs:SK k st):A.srtF cmp l=some st:=by
 have e:A.cl0 cmp=fun a b=>rl (k a) (k b):=by
  funext a b
  show(match cmp a b with|some c=>decide (c<0)|none=>false)=_
  rw[hc];exact cR_lt _ _
 have inj: ∀a,a∈l→∀b,b∈l→k a=k b→a=b:=fun a ha b hb h=>sk_inj hs (hp.mem_iff.1 ha) (hp.mem_iff.1 hb) h
 have O:A.OrdOn (fun a b:α=>rl (k a) (k b)) l:=⟨fun x _ y _ h=>rl_asy h,fun x hx y hy h1 h2=>inj x hx y hy (rl_tri h1 h2),fun x _ y _ z _ h1 h2=>rl_tr h1 h2⟩
 have ob:A.ordB cmp l=true:=by
  unfold A.ordB
  rw[List.all_eq_true]
  intro x hx
  rw[List.all_eq_true]
  intro y hy
  rw[e,Bool.and_eq_true,Bool.and_eq_true]
  refine⟨⟨by rw[hc];rfl,?_⟩,?_⟩
  ·show(bif rl (k x) (k y)then !rl (k y) (k x)else rl (k y) (k x)||decide (x=y))=true
   cases h1:rl (k x) (k y)with
   |true=>rw[rl_asy h1];rfl
   |false=>
    cases h2:rl (k y) (k x)with
    |true=>rfl
    |false=>rw[decide_eq_true (inj x hx y hy (rl_tri h1 h2))];rfl
  ·rw[List.all_eq_true]
   intro z hz
   show(!(rl (k x) (k y)&&rl (k y) (k z))||rl (k x) (k z))=true
   cases h1:rl (k x) (k y)with
   |false=>rfl
   |true=>
    cases h2:rl (k y) (k z)with
    |false=>rfl
    |true=>rw[rl_tr h1 h2];rfl
 rw[A.srtF,if_pos ob,e]
 exact congrArg some (A.srt_uniq O hp.symm (hs.imp fun h=>rl_asy h)).symm
theorem entries_eq (n:Nd)(out:List Rc)(m:List (Rc×Int))(st:List En)(hr:Rel n.1 m st)(hl:m.length≤1000000)(hk: ∀p,p∈m→IntKind.i64.has p.1.1∧p.1.2.size≤maxLen):F.oper_teller_entries (n,out,m)=some st:=by
 have hFU:=FU_big
 have perm:(m.map fun p=>((n.1,p.1.1,p.1.2,p.2):En)).Perm st:=by
  refine(List.perm_ext_iff_of_nodup ?_ ?_).2 fun e=>?_
  ·have h1:=hr.nd
   have: ∀l:List (Rc×Int),(l.map Prod.fst).Nodup→(l.map fun p=>((n.1,p.1.1,p.1.2,p.2):En)).Nodup:=by
    intro l
    induction l with
    |nil=>intro _;simp
    |cons p l ih=>
     intro h
     rw[List.map_cons,List.nodup_cons]at h ⊢
     refine⟨fun hm=>h.1 ?_,ih h.2⟩
     obtain⟨q,hq,e⟩:=List.mem_map.1 hm
     obtain⟨_,e⟩:=Prod.mk.inj e
     obtain⟨e1,e⟩:=Prod.mk.inj e
     obtain⟨e2,_⟩:=Prod.mk.inj e
     exact List.mem_map.2 ⟨q,hq,Prod.ext e1 e2⟩
   exact this m h1
  ·exact hr.sk.imp fun {a b} h (e:a=b)=>rl_ne h (by rw[e])
  ·constructor
   ·intro he
    obtain⟨p,hp,rfl⟩:=List.mem_map.1 he
    exact hr.back p hp
   ·intro he
    refine List.mem_map.2 ⟨_,hr.fwd e he,?_⟩
    rw[←hr.idn e he]
 rw[F.oper_teller_entries]
 refine A.dem_all m (fun p=>((n.1,p.1.1,p.1.2,p.2):En)) (fun f sn xs=>F.oper_teller_entries_l1 (n,out,m) f sn xs) (fun xs=>(F.slices_SortFunc_api_Entry_api_Entry_oper_teller_entries_1 xs).bind fun r25=>some r25) (fun p xs o=>A.gd (decide (IntKind.i64.has p.1.1)=true∧p.1.2.size≤maxLen) (A.gd ((xs.length+1)*40≤140737488355328) o)) st (fun f sn xs=>rfl) (fun p xs o hp hx=>?_) (fun ys hy=>?_) (by omega)
 ·rw[A.gd1 ⟨decide_eq_true (hk p hp).1,(hk p hp).2⟩,A.gd1 (by omega)]
 ·have hyl:ys.length≤1000000:=by rw[hy.length_eq,List.length_map];exact hl
  rw[F.slices_SortFunc_api_Entry_api_Entry_oper_teller_entries_1,A.gd1 (by omega),sk_sort (k:=kr) _ ent1_eq (hy.trans perm) hr.sk];rfl
end Go.Proofs.YtbljnlkhebiniaaDoor
end
section
set_option maxRecDepth 20000
set_option linter.unusedVariables false
set_option linter.unusedSimpArgs false
namespace Go.Proofs.YtbljnlkhebiniaaDoor
open Go.RowKit Go.Graph Go.Utf Go.Ent Go.Opr
abbrev Tm:=Int×Int×Int×Int×Int×Int
def tcL (d:Int):Nat→List Int→Int
 |_,[]=>0
 |i,x::l=>if x<0∨1048576<x then 10 else if d≤(i:Int)∧x≠0 then 10 else tcL d (i+1) l
def tcP (t:Tm):Int:=if t.1<0∨1073741824<t.1∨t.2.1<0∨4<t.2.1 then 10 else tcL t.2.1 0 [t.2.2.1,t.2.2.2.1,t.2.2.2.2.1,t.2.2.2.2.2]
theorem tcheck_eq (t:Tm):F.tstamp_Check t=some (tcP t):=by
 rw[F.tstamp_Check]
 unfold tcP
 simp only[A.bo,decide_eq_true_eq,or_assoc]
 by_cases h:t.1<0∨1073741824<t.1∨t.2.1<0∨4<t.2.1
 ·rw[if_pos h,if_pos h]
 ·rw[if_neg h,if_neg h]
  obtain⟨L,hL⟩: ∃L,L=[t.2.2.1,t.2.2.2.1,t.2.2.2.2.1,t.2.2.2.2.2]:=⟨_,rfl⟩
  have h4:L.length=4:=by rw[hL];rfl
  rw[←hL]
  exact A.lp0 L (fun f y=>F.tstamp_Check_l1 t f y) (fun k r=>some (tcL t.2.1 k r))
   (fun f=>by rw[F.tstamp_Check_l1,if_neg (by omega)];rfl)
   (fun f k x hx hk ih=>by
    rw[F.tstamp_Check_l1,if_pos (by omega),←hL,A.ixn hx,Option.bind_some,tcL]
    simp only[A.bo,A.ba,decide_eq_true_eq]
    by_cases h1:x<0∨1048576<x
    ·rw[if_pos h1,if_pos h1]
    ·rw[if_neg h1,if_neg h1]
     by_cases h2:t.2.1≤(k:Int)∧x≠0
     ·rw[if_pos h2,if_pos h2]
     ·rw[if_neg h2,if_neg h2,A.gd1 ⟨by omega,by omega⟩,ih])
   (by have:=FU_big;omega)
def holdsP (k:Int):Bool:=decide (k=7∨k=8∨k=9∨k=10∨k=11∨k=16)
theorem Holds_eq (k:Int):F.oper_Holds k=some (holdsP k):=by
 unfold F.oper_Holds F.oper_Holds_j3 F.oper_Holds_j2 F.oper_Holds_j1 F.oper_Keeps holdsP
 by_cases h7:k=7
 ·simp[h7]
 by_cases h8:k=8
 ·simp[h8]
 by_cases h9:k=9
 ·simp[h9]
 by_cases h10:k=10
 ·simp[h10]
 by_cases h11:k=11
 ·simp[h11]
 by_cases h16:k=16
 ·simp[h16]
 ·simp[h7,h8,h9,h10,h11,h16]
def mayP (n:Nd)(t:Tm)(a b:List Mn)(st:List En):Int:=
 if holdsP n.2.1=false then 170 else if chk n.2.1 n.2.2.2.1≠0 then chk n.2.1 n.2.2.2.1 else if tcP t≠0 then tcP t else if chkB a≠0 then chkB a else if chkB b≠0 then chkB b
 else if b≠[]∧n.2.1≠9 then 1 else if stP n st=true then 0 else 171
theorem may_eq (n:Nd)(t:Tm)(a b:List Mn)(st:List En)(hs:n.2.2.2.1.2.2.size≤1000)(ha:a.length≤1000)(hb:b.length≤1000)(hst:st.length≤1000):F.oper_may n t a b st=some (mayP n t a b st):=by
 have hFU:=FU_big
 rw[F.oper_may,Holds_eq,Option.bind_some]
 unfold mayP
 cases holdsP n.2.1 with
 |false=>rw[Bool.not_false,if_pos rfl,if_pos rfl]
 |true=>
  rw[Bool.not_true,if_neg (by simp),if_neg (by simp)]
  show(F.fn_Check n.2.1 n.2.2.2.1).bind _=_
  rw[fn_Check_eq _ _ (by omega),Option.bind_some]
  show(F.tstamp_Check t).bind _=_
  rw[tcheck_eq,Option.bind_some,rec_CheckBag_eq a (by unfold maxLen;omega),Option.bind_some,rec_CheckBag_eq b (by unfold maxLen;omega),Option.bind_some]
  have step: ∀(l:List Int) (r5 r8 r11 r14:Int),l=[r5,r8,r11,r14]→F.oper_may_l1 n b st r5 r8 r11 r14 A.FU 0=some (((l.find? fun x=>decide (x≠0)).getD (if b≠[]∧n.2.1≠9 then 1 else if stP n st=true then 0 else 171))):=fun l r5 r8 r11 r14 hl=>by
   have h4:l.length=4:=by rw[hl];rfl
   exact A.lp0 l (fun f y=>F.oper_may_l1 n b st r5 r8 r11 r14 f y) (fun k r=>some ((r.find? fun x=>decide (x≠0)).getD (if b≠[]∧n.2.1≠9 then 1 else if stP n st=true then 0 else 171)))
    (fun f=>by
     rw[F.oper_may_l1,if_neg (by omega)]
     simp only[A.ba,decide_eq_true_eq]
     have e:((0:Int)<((b).length:Int))↔b≠[]:=by
      cases b with
      |nil=>simp
      |cons x b=>exact⟨fun _=>by simp,fun _=>by simp only[List.length_cons];omega⟩
     by_cases h:b≠[]∧n.2.1≠9
     ·rw[if_pos ⟨e.2 h.1,h.2⟩];simp[h]
     ·rw[if_neg fun h2=>h ⟨e.1 h2.1,h2.2⟩]
      show(F.oper_CheckState n st).bind _=_
      rw[CheckState_eq n st (by omega)]
      simp[h])
    (fun f k x hx hk ih=>by
     rw[F.oper_may_l1,if_pos (by omega),←hl,A.ixn hx,Option.bind_some,List.find?_cons]
     by_cases h:x=0
     ·rw[if_neg (fun h2=>h2 h),A.gd1 ⟨by omega,by omega⟩,ih,decide_eq_false (fun h2=>h2 h)]
     ·rw[if_pos h,decide_eq_true h];rfl)
    (by omega)
  rw[step _ _ _ _ _ rfl]
  congr 1
  by_cases h1:chk n.2.1 n.2.2.2.1=0<;>by_cases h2:tcP t=0<;>by_cases h3:chkB a=0<;>by_cases h4:chkB b=0<;>simp[h1,h2,h3,h4]
structure Ok (n:Nd) (t:Tm) (a b:List Mn) (st:List En):Prop where
 holds:holdsP n.2.1=true
 fn:chk n.2.1 n.2.2.2.1=0
 tm:tcP t=0
 ba:Bag a
 bb:Bag b
 one:b=[]∨n.2.1=9
 st:stP n st=true
theorem mayP_iff {n:Nd}{t:Tm}{a b:List Mn}{st:List En}:mayP n t a b st=0↔Ok n t a b st:=by
 unfold mayP
 constructor
 ·intro h
  split at h
  ·cases h
  rename_i h1
  split at h
  ·rename_i h2;exact absurd h h2
  rename_i h2
  split at h
  ·rename_i h3;exact absurd h h3
  rename_i h3
  split at h
  ·rename_i h4;exact absurd h h4
  rename_i h4
  split at h
  ·rename_i h5;exact absurd h h5
  rename_i h5
  split at h
  ·cases h
  rename_i h6
  split at h
  ·rename_i h7
   exact⟨by simpa using h1,by simpa using h2,by simpa using h3,chkB_iff.1 (by simpa using h4),chkB_iff.1 (by simpa using h5),Classical.byContradiction fun hn=>h6 ⟨fun e=>hn (.inl e),fun e=>hn (.inr e)⟩,h7⟩
  ·cases h
 ·intro h
  rw[if_neg (by rw[h.holds];simp),if_neg (by rw[h.fn];simp),if_neg (by rw[h.tm];simp),if_neg (by rw[chkB_iff.2 h.ba];simp),if_neg (by rw[chkB_iff.2 h.bb];simp),if_neg (fun h2=>h.one.elim h2.1 h2.2),if_pos h.st]
theorem stP_sk {n:Nd}{st:List En}(h:stP n st=true):SK kr st:=(stP_iff.1 h).2
theorem stP_id {n:Nd}{st:List En}(h:stP n st=true): ∀e,e∈st→e.1=n.1:=fun e he=>by
 have:=(stP_iff.1 h).1 e he
 unfold entOk at this
 split at this
 ·cases this
 ·rename_i h;exact Classical.byContradiction h
theorem stP_2 {n:Nd}{st:List En}(h:stP n st=true)(hk:n.2.1=11):St2 n.1 st:=fun e he=>by
 have:=(stP_iff.1 h).1 e he
 unfold entOk at this
 split at this
 ·cases this
 ·rename_i h1
  simp only[Bool.and_eq_true,decide_eq_true_eq]at this
  exact⟨Classical.byContradiction h1,this.1.1,this.1.2,this.2⟩
theorem stP_1 {n:Nd}{st:List En}(h:stP n st=true)(hk:n.2.1=16):St1 n.1 st:=fun e he=>by
 have:=(stP_iff.1 h).1 e he
 unfold entOk at this
 split at this
 ·cases this
 ·rename_i h1
  rw[if_neg (by omega)]at this
  simp only[Bool.and_eq_true,decide_eq_true_eq]at this
  exact⟨Classical.byContradiction h1,this.1⟩
theorem ins_end {e:En}: ∀{l:List En},SK kr (l++[e])→Opr.ins kr e l=l++[e]
 | [],_=>rfl
 |x::l,h=>by
  obtain⟨h1,h2⟩:=List.pairwise_cons.1 (show SK kr (x::(l++[e]))from h)
  have hx:=h1 e (List.mem_append.2 (.inr (List.mem_singleton.2 rfl)))
  unfold Opr.ins
  rw[if_neg (rl_ne hx),if_neg (by rw[rl_asy hx];simp),ins_end h2];rfl
theorem Rel.init {id:Int}{st:List En}(hs:SK kr st)(hi: ∀e,e∈st→e.1=id)(n:Nd)(a b:List Mn)(hl:st.length≤1000): ∃m,Rel id m st∧F.oper_Tell_l2 n a b st A.FU [] 0=F.oper_Tell_l2 n a b st 1 m (st.length:Int):=by
 have hFU:=FU_big
 have lift: ∀(f:Nat) (m:List (Rc×Int)),F.oper_Tell_l2 n a b st (f+1) m (st.length:Int)=F.oper_Tell_l2 n a b st 1 m (st.length:Int):=fun f m=>by
  rw[F.oper_Tell_l2,F.oper_Tell_l2,if_neg (by omega)]
  conv=>rhs;rw[if_neg (by omega)]
 have main: ∀(q j f:Nat) (m:List (Rc×Int)),j+q=st.length→q<f→Rel id m (st.take j)→∃m',Rel id m' st∧F.oper_Tell_l2 n a b st f m (j:Int)=F.oper_Tell_l2 n a b st 1 m' (st.length:Int):=by
  intro q
  induction q with
  |zero=>
   intro j f m hj hf hr
   obtain⟨f,rfl⟩: ∃f',f=f'+1:=⟨f-1,by omega⟩
   obtain rfl:j=st.length:=by omega
   rw[List.take_length]at hr
   exact⟨m,hr,lift f m⟩
  |succ q ih=>
   intro j f m hj hf hr
   obtain⟨f,rfl⟩: ∃f',f=f'+1:=⟨f-1,by omega⟩
   obtain⟨y,hy⟩: ∃y,st[j]?=some y:=⟨_,List.getElem?_eq_getElem (by omega)⟩
   have ht:st.take (j+1)=st.take j++[y]:=by rw[List.take_add_one,hy];rfl
   have hsk:SK kr (st.take j++[y]):=by rw[←ht];exact hs.sublist (List.take_sublist _ _)
   have hyi:=hi y (List.mem_of_getElem? hy)
   have hr2:=hr.ins (kr y) (num y)
   have ey:((id,(kr y).1,(kr y).2,num y):En)=y:=by rw[←hyi]
   rw[ey,ins_end hsk,←ht]at hr2
   obtain⟨m',h1,h2⟩:=ih (j+1) f _ (by omega) (by omega) hr2
   refine⟨m',h1,?_⟩
   rw[F.oper_Tell_l2,if_pos (by omega),A.ixn hy,Option.bind_some,A.gd1 ⟨by omega,by omega⟩,show(j:Int)+1=((j+1:Nat):Int) by omega]
   exact h2
 exact main st.length 0 A.FU [] (by omega) (by omega) (Rel.nil id)
theorem Rel.len {id:Int}{m:List (Rc×Int)}{st:List En}(h:Rel id m st):m.length=st.length:=by
 have perm:(m.map fun p=>((id,p.1.1,p.1.2,p.2):En)).Perm st:=by
  refine(List.perm_ext_iff_of_nodup ?_ ?_).2 fun e=>?_
  ·have: ∀l:List (Rc×Int),(l.map Prod.fst).Nodup→(l.map fun p=>((id,p.1.1,p.1.2,p.2):En)).Nodup:=by
    intro l
    induction l with
    |nil=>intro _;simp
    |cons p l ih=>
     intro h
     rw[List.map_cons,List.nodup_cons]at h ⊢
     refine⟨fun hm=>h.1 ?_,ih h.2⟩
     obtain⟨q,hq,e⟩:=List.mem_map.1 hm
     obtain⟨_,e⟩:=Prod.mk.inj e
     obtain⟨e1,e⟩:=Prod.mk.inj e
     obtain⟨e2,_⟩:=Prod.mk.inj e
     exact List.mem_map.2 ⟨q,hq,Prod.ext e1 e2⟩
   exact this m h.nd
  ·exact h.sk.imp fun {a b} h (e:a=b)=>rl_ne h (by rw[e])
  ·constructor
   ·intro he
    obtain⟨p,hp,rfl⟩:=List.mem_map.1 he
    exact h.back p hp
   ·intro he
    refine List.mem_map.2 ⟨_,h.fwd e he,?_⟩
    rw[←h.idn e he]
 have:=perm.length_eq
 rwa[List.length_map]at this
theorem ins_len {α:Type}{k:α→Rc}{e:α}: ∀(l:List α),(Opr.ins k e l).length≤l.length+1
 | []=>by simp[Opr.ins]
 |x::l=>by
  unfold Opr.ins
  split
  ·simp
  ·(split)
   ·simp
   ·have:=ins_len (k:=k) (e:=e) l;simp only[List.length_cons];omega
theorem totS_len (f:Opr.Fn)(id:Int): ∀(gs:List (Int×List Mn)) (s:List Rc×List En),(gs.foldl (totS f id) s).1.length=s.1.length+gs.length∧(gs.foldl (totS f id) s).2.length≤s.2.length+gs.length
 | [],s=>⟨rfl,Nat.le_refl _⟩
 |kg::gs,s=>by
  obtain⟨h1,h2⟩:=totS_len f id gs (totS f id s kg)
  have:=ins_len (k:=kr) (e:=((id,kg.1,nil8,tot f (vE s.2 (kg.1,nil8)) kg.2):En)) s.2
  rw[List.foldl_cons,h1,List.length_cons]
  refine⟨by unfold totS;simp only[List.length_append,List.length_cons,List.length_nil];omega,?_⟩
  have h3:(totS f id s kg).2.length≤s.2.length+1:=this
  omega
theorem frS_len (id:Int): ∀(a:List Mn) (s:List Rc×List En),(a.foldl (frS id) s).1.length≤s.1.length+a.length∧(a.foldl (frS id) s).2.length≤s.2.length+a.length
 | [],s=>⟨Nat.le_refl _,Nat.le_refl _⟩
 |m::a,s=>by
  obtain⟨h1,h2⟩:=frS_len id a (frS id s m)
  have:=ins_len (k:=kr) (e:=((id,m.1.1,m.1.2,1):En)) s.2
  rw[List.foldl_cons,List.length_cons]
  have h3:(frS id s m).1.length≤s.1.length+1∧(frS id s m).2.length≤s.2.length+1:=by
   unfold frS;split
   ·exact⟨by simp,this⟩
   ·exact⟨by omega,by omega⟩
  exact⟨by omega,by omega⟩
theorem outG_len {kind:Int}{f:Opr.Fn}{b:List Mn}(hb:b.length≤1000): ∀(gs:List (Int×List Mn)),(gs.flatMap (outG kind f b)).length≤gs.length+(gs.flatMap (·.2)).length*1000
 | []=>by simp
 |kg::gs=>by
  have ih:=outG_len (kind:=kind) (f:=f) hb gs
  rw[List.flatMap_cons,List.flatMap_cons,List.length_append,List.length_append,List.length_cons]
  have h1:(outG kind f b kg).length≤1+kg.2.length*1000:=by
   unfold outG
   split
   ·simp
   ·(split)
    ·simp
    ·have ob:(oth b kg.1).length≤1000:=Nat.le_trans (List.length_filter_le ..) hb
     have: ∀g:List Mn,(joinsG kg.1 g (oth b kg.1)).length≤g.length*1000:=by
      intro g
      induction g with
      |nil=>simp[joinsG]
      |cons p g ih=>
       have e:joinsG kg.1 (p::g) (oth b kg.1)=((oth b kg.1).map fun q=>(kg.1,cut ((p.1.2++ByteArray.mk #[43])++q.1.2)))++joinsG kg.1 g (oth b kg.1):=List.flatMap_cons ..
       rw[e,List.length_append,List.length_map,List.length_cons];omega
     have:=this kg.2
     omega
  omega
theorem totS_from {f:Opr.Fn}{id:Int}: ∀{gs:List (Int×List Mn)} {s:List Rc×List En},SK kr s.2→∀{e},e∈(gs.foldl (totS f id) s).2→e∈s.2∨∃kg,kg∈gs∧kr e=(kg.1,nil8)
 | [],s,_,e,he=>.inl he
 |kg::gs,s,hs,e,he=>by
  rcases totS_from (gs:=gs) (s:=totS f id s kg) (ins_sk hs) he with h|⟨kg',h1,h2⟩
  ·rcases(ins_mem hs).1 h with rfl|⟨h,_⟩
   ·exact .inr ⟨kg,List.mem_cons_self ..,rfl⟩
   ·exact .inl h
  ·exact .inr ⟨kg',List.mem_cons_of_mem _ h1,h2⟩
theorem frS_from {id:Int}: ∀{a:List Mn} {s:List Rc×List En},SK kr s.2→∀{e},e∈(a.foldl (frS id) s).2→e∈s.2∨∃m,m∈a∧kr e=m.1
 | [],s,_,e,he=>.inl he
 |m::a,s,hs,e,he=>by
  have hk:SK kr (frS id s m).2:=by unfold frS;split;exact ins_sk hs;exact hs
  rcases frS_from (a:=a) (s:=frS id s m) hk he with h|⟨m',h1,h2⟩
  ·unfold frS at h
   split at h
   ·rcases(ins_mem hs).1 h with rfl|⟨h,_⟩
    ·exact .inr ⟨m,List.mem_cons_self ..,rfl⟩
    ·exact .inl h
   ·exact .inl h
  ·exact .inr ⟨m',List.mem_cons_of_mem _ h1,h2⟩
abbrev KeyR (r:Rc):Prop:=IntKind.i64.has r.1∧r.2.size≤maxLen
theorem Tell_eq (n:Nd)(t:Tm)(a b:List Mn)(st:List En)(hs:n.2.2.2.1.2.2.size≤1000)(ha:a.length≤900)(hb:b.length≤900)(hst:st.length≤1000)(hka: ∀m,m∈a→KeyR m.1)(hks: ∀e,e∈st→KeyR (kr e)):
  F.oper_Tell n t a b st=some (if mayP n t a b st=0 then((tellP n.2.1 n.2.2.2.1 n.1 a b st).1,(tellP n.2.1 n.2.2.2.1 n.1 a b st).2,0)else([],[],mayP n t a b st)):=by
 rw[F.oper_Tell]
 show(F.oper_may n t a b st).bind _=_
 rw[may_eq n t a b st hs (by omega) (by omega) hst,Option.bind_some]
 by_cases hm:mayP n t a b st=0
 ·rw[if_neg (fun h=>h hm),if_pos hm]
  have ok:=mayP_iff.1 hm
  have sk:=stP_sk ok.st
  obtain⟨m,hr,e⟩:=Rel.init sk (stP_id ok.st) n a b hst
  rw[e,F.oper_Tell_l2,if_neg (by omega)]
  have gl:=grp_len a
  have gf:=grp_flat a
  have core: ∀(out:List Rc) (m':List (Rc×Int)) (st':List En),Rel n.1 m' st'→out.length≤1000000→st'.length≤1000000→(∀e,e∈st'→KeyR (kr e))→F.oper_Tell_j1 n n.2.2.1 m' out n.1 n.2.1 n.2.2.2.1.1 n.2.2.2.1.2.1 n.2.2.2.1.2.2 n.2.2.2.2.1 n.2.2.2.2.2.1 n.2.2.2.2.2.2=some (sc out,if n.2.1=10 then []else st',0):=by
   intro out m' st' hr' hl hl' hk'
   have h1:=sortOut_eq out hl
   rw[F.oper_Tell_j1]
   cases hso:F.slices_SortFunc_api_Rec_api_Rec_rec_Compare out with
   |none=>rw[hso]at h1;cases h1
   |some r43=>
    rw[hso,Option.bind_some]at h1
    rw[Option.bind_some,h1,Option.bind_some]
    by_cases h10:n.2.1=10
    ·rw[if_pos h10,if_pos h10]
    ·rw[if_neg h10,if_neg h10]
     show(F.oper_teller_entries (n,[],m')).bind _=_
     rw[entries_eq n [] m' st' hr' (by rw[hr'.len];exact hl') (fun p hp=>hk' _ (hr'.back p hp)),Option.bind_some]
  have krst: ∀e,e∈st→KeyR (kr e):=hks
  unfold tellP raw
  by_cases h7:n.2.1=7
  ·rw[if_pos h7]
   show(F.oper_teller_counts (n,[],m) a).bind _=_
   rw[counts_eq (n,[],m) n.2.2.2.1 a b ok.ba (by omega) (by simp),Option.bind_some]
   have:=outG_len (kind:=7) (f:=n.2.2.2.1) (b:=b) (by omega) (grp a)
   rw[gf]at this
   refine(core _ m st hr (by show(([]:List Rc)++(grp a).flatMap (outG 7 n.2.2.2.1 b)).length≤_;rw[List.nil_append];omega) (by omega) krst).trans ?_
   rw[h7];rfl
  rw[if_neg h7]
  by_cases h8:n.2.1=8
  ·rw[if_pos h8]
   have hf:=ok.fn
   rw[h8]at hf
   show(F.oper_teller_reduces (n,[],m) a).bind _=_
   rw[reduces_eq (n,[],m) a b hf hs ok.ba (by omega) (by simp),Option.bind_some]
   have:=outG_len (kind:=8) (f:=n.2.2.2.1) (b:=b) (by omega) (grp a)
   rw[gf]at this
   refine(core _ m st hr (by show(([]:List Rc)++(grp a).flatMap (outG 8 n.2.2.2.1 b)).length≤_;rw[List.nil_append];omega) (by omega) krst).trans ?_
   rw[h8];rfl
  rw[if_neg h8]
  by_cases h9:n.2.1=9
  ·rw[if_pos h9]
   show(F.oper_teller_joins (n,[],m) a b).bind _=_
   rw[joins_eq (n,[],m) n.2.2.2.1 a b ok.ba (by omega) ok.bb (by omega) (by simp),Option.bind_some]
   have:=outG_len (kind:=9) (f:=n.2.2.2.1) (b:=b) (by omega) (grp a)
   rw[gf]at this
   refine(core _ m st hr (by show(([]:List Rc)++(grp a).flatMap (outG 9 n.2.2.2.1 b)).length≤_;rw[List.nil_append];omega) (by omega) krst).trans ?_
   rw[h9];rfl
  rw[if_neg h9]
  have h789: ¬(n.2.1=7∨n.2.1=8∨n.2.1=9):=by omega
  by_cases h11:n.2.1=11
  ·rw[if_pos h11,if_neg h789,if_pos h11]
   have hf:=ok.fn
   rw[h11]at hf
   show(F.oper_teller_totals (n,[],m) a).bind _=_
   obtain⟨m',h1,h2⟩:=totals_eq (n,[],m) st a hr (stP_2 ok.st h11) hf hs ok.ba (by omega) (by simp)
   rw[h1,Option.bind_some]
   obtain⟨l1,l2⟩:=totS_len n.2.2.2.1 n.1 (grp a) ([],st)
   refine(core _ m' _ h2 (by rw[l1];simp;omega) (by simp only[]at l2 ⊢;omega) fun e he=>?_).trans rfl
   rcases totS_from sk he with he|⟨kg,hk,hke⟩
   ·exact krst e he
   ·rw[hke]
    obtain⟨g1,g2⟩:=grp_all hk
    obtain⟨x,hx⟩:=List.exists_mem_of_ne_nil _ g1
    have h0:IntKind.i64.has x.1.1:=(hka x (grp_sub hk x hx)).1
    rw[g2 x hx]at h0
    exact⟨h0,by show(0:Nat)≤_;omega⟩
  ·rw[if_neg h11,if_neg h789,if_neg h11]
   show(F.oper_teller_fresh (n,[],m) a).bind _=_
   obtain⟨m',h1,h2⟩:=fresh_eq (n,[],m) st a hr (by omega) (by simp)
   rw[h1,Option.bind_some]
   obtain⟨l1,l2⟩:=frS_len n.1 a ([],st)
   refine(core _ m' _ h2 (by simp only[List.length_nil]at l1 ⊢;omega) (by simp only[]at l2 ⊢;omega) fun e he=>?_).trans rfl
   rcases frS_from sk he with he|⟨x,hx,hke⟩
   ·exact krst e he
   ·rw[hke];exact hka x hx
 ·rw[if_pos hm,if_neg hm]
end Go.Proofs.YtbljnlkhebiniaaDoor
end
section
set_option maxRecDepth 20000
set_option linter.unusedVariables false
set_option linter.unusedSimpArgs false
namespace Go.Proofs.YtbljnlkhebiniaaDoor
open Go.RowKit Go.Graph Go.Utf Go.Ent Go.Opr
theorem live_eq:F.L17_live=some true:=by kernel_rfl
def finT (g:ByteArray→Int){α:Type}(k:α→ByteArray):Int→List α→Int
 |y,[]=>y
 |y,x::r=>finT g k (y+g (k x)) r
theorem few_ok (l:List Rc)(hl:l.length≤maxLen): ∃b,F.L17_few l=some b∧(b=true→l.length≤100):=by
 have hl':l.length≤9223372036854775807:=by simpa[maxLen] using hl
 have hm:(min (l.length:Int) 100).toNat≤l.length:=by omega
 refine⟨bif decide ((l.length:Int)≤100)then decide (finT (fun s=>min (s.size:Int) 1000) (fun r:Rc=>r.2) 0 (List.take (min (l.length:Int) 100).toNat l)≤2000)else false,?_,fun h=>?_⟩
 ·have:=A.lp (List.take (min (l.length:Int) 100).toNat l) (fun f (y:Int) k=>F.L17_few_l1 l f y k) (fun _ r y=>some (bif decide ((l.length:Int)≤100)then decide (finT (fun s=>min (s.size:Int) 1000) (fun r:Rc=>r.2) y r≤2000)else false)) (fun k y=>0≤y∧y≤1000*k)
   (fun f y hp=>by
    show F.L17_few_l1 l (f+1) y _=_
    rw[F.L17_few_l1,if_neg (by omega)];rfl)
   (fun f y k x hx hk hp ih=>by
    show F.L17_few_l1 l (f+1) y _=_
    have h2:k<100:=by rw[List.length_take]at hk;omega
    have hn:(0:Int)≤(x.2.size:Int):=by omega
    rw[F.L17_few_l1,if_pos (by omega),A.ixn hx,Option.bind_some,A.gd1 ⟨by omega,by omega⟩,A.gd1 ⟨by omega,by omega⟩]
    exact ih _ ⟨by omega,by omega⟩)
   (by have:=FU_big;rw[List.length_take];omega) 0 ⟨by omega,by omega⟩
  rw[F.L17_few,A.gd1 ⟨by omega,hm⟩]
  exact this
 ·by_cases h2:(l.length:Int)≤100
  ·omega
  ·rw[decide_eq_false h2]at h;cases h
theorem thin_ok (l:List En)(hl:l.length≤maxLen): ∃b,F.L17_thin l=some b∧(b=true→l.length≤100):=by
 have hl':l.length≤9223372036854775807:=by simpa[maxLen] using hl
 have hm:(min (l.length:Int) 100).toNat≤l.length:=by omega
 refine⟨bif decide ((l.length:Int)≤100)then decide (finT (fun s=>min (s.size:Int) 1000) (fun r:En=>r.2.2.1) 0 (List.take (min (l.length:Int) 100).toNat l)≤2000)else false,?_,fun h=>?_⟩
 ·have:=A.lp (List.take (min (l.length:Int) 100).toNat l) (fun f (y:Int) k=>F.L17_thin_l1 l f y k) (fun _ r y=>some (bif decide ((l.length:Int)≤100)then decide (finT (fun s=>min (s.size:Int) 1000) (fun r:En=>r.2.2.1) y r≤2000)else false)) (fun k y=>0≤y∧y≤1000*k)
   (fun f y hp=>by
    show F.L17_thin_l1 l (f+1) y _=_
    rw[F.L17_thin_l1,if_neg (by omega)];rfl)
   (fun f y k x hx hk hp ih=>by
    show F.L17_thin_l1 l (f+1) y _=_
    have h2:k<100:=by rw[List.length_take]at hk;omega
    have hn:(0:Int)≤(x.2.2.1.size:Int):=by omega
    rw[F.L17_thin_l1,if_pos (by omega),A.ixn hx,Option.bind_some,A.gd1 ⟨by omega,by omega⟩,A.gd1 ⟨by omega,by omega⟩]
    exact ih _ ⟨by omega,by omega⟩)
   (by have:=FU_big;rw[List.length_take];omega) 0 ⟨by omega,by omega⟩
  rw[F.L17_thin,A.gd1 ⟨by omega,hm⟩]
  exact this
 ·by_cases h2:(l.length:Int)≤100
  ·omega
  ·rw[decide_eq_false h2]at h;cases h
theorem rare_ok: ∀(ls:List (List Mn)),ls.length≤100→(∀x,x∈ls→x.length≤maxLen)→∃b,F.L17_rare ls=some b∧(b=true→∀x,x∈ls→x.length≤40):=by
 intro ls hn hl
 have hFU:=FU_big
 have main: ∀(q j f:Nat),j+q=ls.length→q<f→∃b,F.L17_rare_l3 ls f (j:Int)=some b∧(b=true→∀x,x∈ls.drop j→x.length≤40):=by
  intro q
  induction q with
  |zero=>
   intro j f hj hf
   obtain⟨f,rfl⟩: ∃f',f=f'+1:=⟨f-1,by omega⟩
   exact⟨true,by rw[F.L17_rare_l3,if_neg (by omega)],fun _ x hx=>by rw[List.drop_eq_nil_of_le (by omega)]at hx;cases hx⟩
  |succ q ih=>
   intro j f hj hf
   obtain⟨f,rfl⟩: ∃f',f=f'+1:=⟨f-1,by omega⟩
   obtain⟨y,hy⟩: ∃y,ls[j]?=some y:=⟨_,List.getElem?_eq_getElem (by omega)⟩
   have hyl:y.length≤9223372036854775807:=by have:=hl y (List.mem_of_getElem? hy);simpa[maxLen] using this
   obtain⟨b,hb1,hb2⟩:=ih (j+1) f (by omega) (by omega)
   have hm:(min (y.length:Int) 100).toNat≤y.length:=by omega
   rw[F.L17_rare_l3,if_pos (by omega),A.ixn hy,Option.bind_some,A.gd1 ⟨by omega,hm⟩,A.dropx hy]
   have lp:=A.lp (List.take (min (y.length:Int) 100).toNat y) (fun n (s:List Rc) k=>F.L17_rare_l2 (F.L17_rare_l3 ls f) (j:Int) y n s k) (fun _ r s=>if(40:Int)<(y.length:Int)then F.L17_rare_j1 (F.L17_rare_l3 ls f) (j:Int) true else(F.L17_few (s++r.map (·.1))).bind fun r33=>F.L17_rare_j1 (F.L17_rare_l3 ls f) (j:Int) (!r33)) (fun k s=>s.length=k)
    (fun n s hp=>by
     show F.L17_rare_l2 _ _ y (n+1) s _=_
     rw[F.L17_rare_l2,if_neg (by omega)]
     simp)
    (fun n s k x hx hk hp ih=>by
     have h2:k<100:=by rw[List.length_take]at hk;omega
     show F.L17_rare_l2 _ _ y (n+1) s _=_
     rw[F.L17_rare_l2,if_pos (by omega),A.ixn hx,Option.bind_some,A.gd1 (by simp only[List.length_cons,List.length_nil];omega),A.gd1 ⟨by omega,by omega⟩]
     refine(ih (s++[x.1]) (by simp only[List.length_append,List.length_cons,List.length_nil];omega)).trans ?_
     simp)
    (by rw[List.length_take];omega) [] rfl
   rw[lp]
   by_cases h40:(40:Int)<(y.length:Int)
   ·rw[if_pos h40,F.L17_rare_j1,if_pos rfl]
    exact⟨false,rfl,fun h=>by cases h⟩
   ·rw[if_neg h40]
    obtain⟨c,hc1,_⟩:=few_ok ([]++(List.take (min (y.length:Int) 100).toNat y).map (·.1)) (by rw[List.nil_append,List.length_map,List.length_take];unfold maxLen;omega)
    rw[hc1,Option.bind_some,F.L17_rare_j1]
    cases c with
    |false=>rw[if_pos (by rfl)];exact⟨false,rfl,fun h=>by cases h⟩
    |true=>
     rw[if_neg (by simp),A.gd1 ⟨by omega,by omega⟩,show(j:Int)+1=((j+1:Nat):Int) by omega,hb1]
     exact⟨b,rfl,fun h x hx=>(List.mem_cons.1 hx).elim (fun e=>by subst e;omega) (hb2 h x)⟩
 obtain⟨b,h1,h2⟩:=main ls.length 0 A.FU (by omega) (by omega)
 exact⟨b,h1,fun h x hx=>h2 h x hx⟩
theorem EqEnt_eq (a b:List En)(hl:a.length≤9223372036854775806):F.slices_Equal_api_Entry_api_Entry a b=some (decide (a=b)):=by
 rw[F.slices_Equal_api_Entry_api_Entry]
 by_cases h:a.length=b.length
 ·rw[if_neg (by omega)]
  have:=A.lp0 a (fun f y=>F.slices_Equal_api_Entry_api_Entry_l1 a b f y) (fun k r=>some (decide (r=b.drop k)))
   (fun f=>by
    rw[F.slices_Equal_api_Entry_api_Entry_l1,if_neg (by omega),h,List.drop_length];rfl)
   (fun f k x hx hk ih=>by
    obtain⟨y,hy⟩: ∃y,b[k]?=some y:=⟨_,List.getElem?_eq_getElem (by omega)⟩
    rw[F.slices_Equal_api_Entry_api_Entry_l1,if_pos (by omega),A.ixn hx,Option.bind_some,A.ixn hy,Option.bind_some,A.dropx hy]
    show(if x≠y then _ else _)=_
    by_cases e:x=y
    ·rw[if_neg (fun h=>h e),A.gd1 ⟨by omega,by omega⟩,ih]
     subst e;simp
    ·rw[if_pos e,decide_eq_false (fun h=>e (List.cons.inj h).1)])
   (by have:=FU_big;omega)
  rw[this];simp
 ·rw[if_pos (by omega),decide_eq_false (fun e=>h (by rw[e]))]
theorem okT_nil:okT nil8=true:=by decide
theorem stP_of2 {n:Nd}{st:List En}(hk:n.2.1=11)(hs:SK kr st)(h:St2 n.1 st):stP n st=true:=by
 refine stP_iff.2 ⟨fun e he=>?_,hs⟩
 obtain⟨h1,h2,h3,h4⟩:=h e he
 unfold entOk
 rw[if_neg (fun h=>h h1),if_pos hk]
 simp only[Bool.and_eq_true,decide_eq_true_eq]
 exact⟨⟨h2,h3⟩,h4⟩
theorem stP_of1 {n:Nd}{st:List En}(hk:n.2.1=16)(hs:SK kr st)(h:St1 n.1 st)(ht: ∀r,r∈st.map kr→okT r.2=true):stP n st=true:=by
 refine stP_iff.2 ⟨fun e he=>?_,hs⟩
 obtain⟨h1,h2⟩:=h e he
 unfold entOk
 rw[if_neg (fun h=>h h1),if_neg (by omega),if_pos hk]
 simp only[Bool.and_eq_true,decide_eq_true_eq]
 exact⟨h2,ht _ (List.mem_map_of_mem he)⟩
theorem stP_txt {n:Nd}{st:List En}(h:stP n st=true): ∀r,r∈st.map kr→okT r.2=true:=fun r hr=>by
 obtain⟨e,he,rfl⟩:=List.mem_map.1 hr
 have:=(stP_iff.1 h).1 e he
 unfold entOk at this
 split at this
 ·cases this
 ·split at this
  ·simp only[Bool.and_eq_true,decide_eq_true_eq]at this
   show okT e.2.2.1=true
   rw[this.1.1];exact okT_nil
  ·split at this
   ·simp only[Bool.and_eq_true,decide_eq_true_eq]at this
    exact this.2
   ·cases this
theorem st_behind {n:Nd}{t:Tm}{a b:List Mn}{st:List En}(h:Ok n t a b st):stP n (tellP n.2.1 n.2.2.2.1 n.1 a b st).2=true:=by
 have sk:=stP_sk h.st
 unfold tellP raw
 by_cases h10:n.2.1=10
 ·rw[if_pos h10];rfl
 ·simp only[if_neg h10]
  by_cases h789:n.2.1=7∨n.2.1=8∨n.2.1=9
  ·rw[if_pos h789];exact h.st
  ·rw[if_neg h789]
   by_cases h11:n.2.1=11
   ·rw[if_pos h11,totS_snd]
    obtain⟨k1,k2,_,_⟩:=totT_ok n.2.2.2.1 n.1 (grp a) sk (stP_2 h.st h11) (grp_pos h.ba.one)
    exact stP_of2 h11 k1 k2
   ·have h16:n.2.1=16:=by have:=of_decide_eq_true h.holds;omega
    rw[if_neg h11,frS_snd]
    obtain⟨k1,k2,k3⟩:=frT_ok n.1 a sk (stP_1 h.st h16)
    refine stP_of1 h16 k1 k2 fun r hr=>?_
    rcases(k3 r).1 hr with hr|hr
    ·exact stP_txt h.st r hr
    ·obtain⟨m,hm,rfl⟩:=List.mem_map.1 hr
     exact h.ba.txt m hm
theorem st_len {n:Nd}{a b:List Mn}{st:List En}:(tellP n.2.1 n.2.2.2.1 n.1 a b st).2.length≤st.length+a.length:=by
 have gl:=grp_len a
 unfold tellP raw
 by_cases h10:n.2.1=10
 ·rw[if_pos h10];simp
 ·simp only[if_neg h10]
  by_cases h789:n.2.1=7∨n.2.1=8∨n.2.1=9
  ·rw[if_pos h789];simp
  ·rw[if_neg h789]
   by_cases h11:n.2.1=11
   ·rw[if_pos h11]
    have:((grp a).foldl (totS n.2.2.2.1 n.1) ([],st)).2.length≤st.length+(grp a).length:=(totS_len n.2.2.2.1 n.1 (grp a) ([],st)).2
    omega
   ·rw[if_neg h11];exact(frS_len n.1 a ([],st)).2
theorem st_key {n:Nd}{a b:List Mn}{st:List En}(hs:SK kr st)(hka: ∀m,m∈a→KeyR m.1)(hks: ∀e,e∈st→KeyR (kr e)): ∀e,e∈(tellP n.2.1 n.2.2.2.1 n.1 a b st).2→KeyR (kr e):=by
 intro e he
 unfold tellP raw at he
 by_cases h10:n.2.1=10
 ·rw[if_pos h10]at he;cases he
 ·simp only[if_neg h10]at he
  by_cases h789:n.2.1=7∨n.2.1=8∨n.2.1=9
  ·rw[if_pos h789]at he;exact hks e he
  ·rw[if_neg h789]at he
   by_cases h11:n.2.1=11
   ·rw[if_pos h11]at he
    rcases totS_from hs he with he|⟨kg,hk,hke⟩
    ·exact hks e he
    ·rw[hke]
     obtain⟨g1,g2⟩:=grp_all hk
     obtain⟨x,hx⟩:=List.exists_mem_of_ne_nil _ g1
     have h0:IntKind.i64.has x.1.1:=(hka x (grp_sub hk x hx)).1
     rw[g2 x hx]at h0
     exact⟨h0,by show(0:Nat)≤_;omega⟩
   ·rw[if_neg h11]at he
    rcases frS_from hs he with he|⟨x,hx,hke⟩
    ·exact hks e he
    ·rw[hke];exact hka x hx
end Go.Proofs.YtbljnlkhebiniaaDoor
end
section
set_option maxRecDepth 20000
set_option linter.unusedVariables false
set_option linter.unusedSimpArgs false
namespace Go.Proofs.YtbljnlkhebiniaaDoor
open Go.RowKit Go.Graph Go.Utf Go.Ent Go.Opr
theorem R05_CheckBag_eq (l:List Mn)(hl:l.length≤maxLen):F.R05_CheckBag l=some (chkB l):=by
 have hl':l.length≤9223372036854775807:=by simpa[maxLen] using hl
 have second:F.R05_CheckBag_l2 l A.FU 0=some (if bagF none l=true then 0 else 51):=
  A.lp0 l (fun f y=>F.R05_CheckBag_l2 l f y) (fun k r=>some (if bagF (prvM l k) r=true then 0 else 51))
   (fun f=>by rw[F.R05_CheckBag_l2,if_neg (by omega)];cases prvM l l.length<;>rfl)
   (fun f k x hx hk ih=>by
    rw[F.R05_CheckBag_l2,if_pos (by omega),A.ixn hx,Option.bind_some]
    rw[prvM_s l k hx]at ih
    have nx: ∀b:Bool,F.R05_CheckBag_j1 (F.R05_CheckBag_l2 l f) (k:Int) b=some (if(!b&&bagF (some x) (l.drop (k+1)))=true then 0 else 51):=fun b=>by
     rw[F.R05_CheckBag_j1]
     cases b with
     |true=>rw[if_pos rfl];rfl
     |false=>rw[if_neg (by simp),A.gd1 ⟨by omega,by omega⟩,ih];rfl
    by_cases h1:x.2<1
    ·rw[if_pos h1,nx]
     have:bagF (prvM l k) (x::l.drop (k+1))=false:=by
      cases prvM l k<;>unfold bagF<;>rw[decide_eq_false (show ¬1≤x.2 by omega)]<;>rfl
     rw[this];rfl
    rw[if_neg h1,Option.bind_some]
    by_cases h2:(1048576:Int)<x.2
    ·rw[if_pos h2,nx]
     have:bagF (prvM l k) (x::l.drop (k+1))=false:=by
      cases prvM l k<;>unfold bagF<;>rw[decide_eq_false (show ¬x.2≤1048576 by omega),Bool.and_false]<;>rfl
     rw[this];rfl
    rw[if_neg h2]
    by_cases hk0:k=0
    ·subst hk0
     rw[if_neg (by omega),nx]
     show _=some (if(decide (1≤x.2)&&decide (x.2≤1048576)&&bagF (some x) (l.drop (0+1)))=true then 0 else 51)
     rw[decide_eq_true (show 1≤x.2 by omega),decide_eq_true (show x.2≤1048576 by omega)];rfl
    ·have hp:prvM l k=l[k-1]?:=by unfold prvM;rw[if_neg hk0]
     obtain⟨p,hpp⟩: ∃p,l[k-1]?=some p:=⟨_,List.getElem?_eq_getElem (by omega)⟩
     rw[if_pos (by omega),A.gd1 ⟨by omega,by omega⟩,show(k:Int)-1=((k-1:Nat):Int) by omega,A.ixn hpp,Option.bind_some,Option.bind_some]
     show(F.R05_Compare p.1 x.1).bind _=_
     rw[R05_Compare_eq,Option.bind_some,nx,cR_ge,hp,hpp]
     show _=some (if(decide (1≤x.2)&&decide (x.2≤1048576)&&rl p.1 x.1&&bagF (some x) (l.drop (k+1)))=true then 0 else 51)
     rw[decide_eq_true (show 1≤x.2 by omega),decide_eq_true (show x.2≤1048576 by omega),Bool.not_not];rfl)
   (by have:=FU_big;omega)
 have first:=A.lp0 l (fun f y=>F.R05_CheckBag_l3 l f y) (fun k r=>some (if(r.any fun m=> !okT m.1.2)=true then 50 else if bagF none l=true then 0 else 51))
  (fun f=>by rw[F.R05_CheckBag_l3,if_neg (by omega),second];rfl)
  (fun f k x hx hk ih=>by
   rw[F.R05_CheckBag_l3,if_pos (by omega),A.ixn hx,Option.bind_some]
   show(F.R05_Check x.1).bind _=_
   rw[R05_Check_eq,Option.bind_some,List.any_cons]
   cases ho:okT x.1.2 with
   |true=>rw[if_pos rfl,if_neg (by simp),A.gd1 ⟨by omega,by omega⟩,ih];rfl
   |false=>rfl)
  (by have:=FU_big;omega)
 rw[F.R05_CheckBag]
 exact first
theorem put5_eq (l:List Mn)(r:Rc)(v:Int)(hl:l.length≤1000)(hs:SM l)(hv:1≤v∧v≤1048576)(hb: ∀m,m∈l→1≤m.2∧m.2≤4611686018427387904):F.R05_put l r v=some (bput l r v):=by
 have cr: ∀a b:Rc,(cR a b<0↔rl a b=true)∧(cR a b=0↔a=b):=fun a b=>by
  have h1:=cR_lt a b
  refine⟨by rw[←h1];simp,?_⟩
  unfold cR
  rcases cI_cases a.1 b.1 with⟨h,e⟩|⟨h,e⟩|⟨h,e⟩
  ·rw[e,if_pos (by decide)];exact⟨fun h=>by omega,fun e2=>by rw[e2]at h;omega⟩
  ·rw[e,if_neg (by simp)]
   rcases cS_cases a.2 b.2 with⟨h2,e2⟩|⟨h2,h3,e2⟩|⟨h2,h3,h4,e2⟩
   ·rw[e2];refine⟨fun h=>by omega,fun e3=>?_⟩;rw[e3,bl_irr]at h2;cases h2
   ·rw[e2];exact⟨fun _=>Prod.ext h h2,fun _=>rfl⟩
   ·rw[e2];exact⟨fun h=>by omega,fun e3=>absurd (by rw[e3]) h2⟩
  ·rw[e,if_pos (by decide)];exact⟨fun h=>by omega,fun e2=>by rw[e2]at h;omega⟩
 have:=A.lp l (fun f (s:List Mn×Bool) y=>F.R05_put_l4 l r v f s.1 s.2 y) (fun k t s=>if s.2=true then some (s.1++t)else some (s.1++bput t r v)) (fun k s=>(s.2=false→s.1.length≤k)∧(s.2=true→s.1.length≤k+1∧∀x,x∈l.drop k→rl r x.1=true))
  (fun f s hp=>by
   show F.R05_put_l4 l r v (f+1) s.1 s.2 _=_
   rw[F.R05_put_l4,if_neg (by omega)]
   cases hs2:s.2 with
   |true=>rw[Bool.not_true,if_neg (by simp),if_pos rfl,F.R05_put_j3,List.append_nil]
   |false=>rw[Bool.not_false,if_pos rfl,A.gd1 (by have:=hp.1 hs2;simp only[List.length_cons,List.length_nil];omega),if_neg (by simp),F.R05_put_j3];rfl)
  (fun f s k x hx hk hp ih=>by
   have hxb:=hb x (List.mem_of_getElem? hx)
   have hsr:SM (x::l.drop (k+1)):=by rw[←A.dropx hx];exact hs.sublist (List.drop_sublist _ _)
   have hd:=(List.pairwise_cons.1 hsr).1
   have hcr:=cr r x.1
   show F.R05_put_l4 l r v (f+1) s.1 s.2 _=_
   have j2: ∀(xs:List Mn) (d:Bool),(d=false→xs.length≤k)→(d=true→xs.length≤k+1∧∀y,y∈l.drop (k+1)→rl r y.1=true)→r≠x.1→F.R05_put_j2 (F.R05_put_l4 l r v f) l r v (k:Int) (cR r x.1) xs d=if d=true then some (xs++x::l.drop (k+1))else some (xs++x::bput (l.drop (k+1)) r v):=fun xs d h1 h2 hne=>by
    have hlen:xs.length≤k+1:=by
     cases d with
     |false=>have:=h1 rfl;omega
     |true=>exact(h2 rfl).1
    rw[F.R05_put_j2,if_neg (fun h=>hne (hcr.2.1 h)),A.ixn hx,Option.bind_some,A.gd1 (by simp only[List.length_cons,List.length_nil];omega),F.R05_put_j1,A.gd1 ⟨by omega,by omega⟩]
    have:=ih (xs++[x],d) ⟨fun e=>by have:=h1 e;simp only[List.length_append,List.length_cons,List.length_nil];omega,fun e=>⟨by have:=(h2 e).1;simp only[List.length_append,List.length_cons,List.length_nil];omega,(h2 e).2⟩⟩
    refine this.trans ?_
    cases d<;>simp
   rw[F.R05_put_l4,if_pos (by omega),A.ixn hx,Option.bind_some]
   show(F.R05_Compare r x.1).bind _=_
   rw[R05_Compare_eq,Option.bind_some]
   cases hs2:s.2 with
   |true=>
    obtain⟨hl1,hl2⟩:=hp.2 hs2
    have hlt:=hl2 x (by rw[A.dropx hx];exact List.mem_cons_self ..)
    rw[Bool.not_true,cond_false,if_neg (by simp),if_pos rfl,j2 s.1 true (fun h=>by cases h) (fun _=>⟨hl1,fun y hy=>hl2 y (by rw[A.dropx hx];exact List.mem_cons_of_mem _ hy)⟩) (rl_ne hlt)]
    rfl
   |false=>
    have hl1:=hp.1 hs2
    rw[Bool.not_false,cond_true,if_neg (show ¬(false=true) by simp)]
    by_cases h1:rl r x.1=true
    ·rw[if_pos (decide_eq_true (hcr.1.2 h1)),A.gd1 (by simp only[List.length_cons,List.length_nil];omega),j2 (s.1++[(r,v)]) true (fun h=>by cases h) (fun _=>⟨by simp only[List.length_append,List.length_cons,List.length_nil];omega,fun y hy=>rl_tr h1 (hd y hy)⟩) (rl_ne h1),if_pos rfl]
     unfold bput
     rw[if_neg (fun e=>rl_ne h1 e.symm),if_pos h1]
     simp
    ·rw[if_neg (by intro h;exact h1 (hcr.1.1 (of_decide_eq_true h)))]
     by_cases h2:r=x.1
     ·rw[F.R05_put_j2,if_pos (hcr.2.2 h2),A.ixn hx,Option.bind_some,A.gd1 ⟨by omega,by omega⟩,A.gd1 (by simp only[List.length_cons,List.length_nil];omega),F.R05_put_j1,A.gd1 ⟨by omega,by omega⟩]
      have:=ih (s.1++[(r,x.2+v)],true) ⟨fun h=>(by cases h),fun _=>⟨by simp only[List.length_append,List.length_cons,List.length_nil];omega,fun y hy=>by rw[h2];exact hd y hy⟩⟩
      refine this.trans ?_
      unfold bput
      rw[if_pos h2.symm]
      simp
     ·rw[j2 s.1 false (fun _=>hl1) (fun h=>by cases h) h2,if_neg (by simp)]
      conv=>rhs;unfold bput
      rw[if_neg (fun e=>h2 e.symm),if_neg h1])
  (by have:=FU_big;omega) ([],false) ⟨by simp,by simp⟩
 rw[F.R05_put]
 exact this
theorem over_eq (l:List Mn)(hl:l.length≤1000):F.R05_over l=some (if(l.any fun m=>decide ((1048576:Int)<m.2))=true then 51 else 0):=by
 have:=A.lp0 l (fun f y=>F.R05_over_l1 l f y) (fun _ r=>some (if(r.any fun m=>decide ((1048576:Int)<m.2))=true then 51 else 0))
  (fun f=>by rw[F.R05_over_l1,if_neg (by omega)];rfl)
  (fun f k x hx hk ih=>by
   rw[F.R05_over_l1,if_pos (by omega),A.ixn hx,Option.bind_some,List.any_cons]
   by_cases h:(1048576:Int)<x.2
   ·rw[if_pos h,decide_eq_true h];rfl
   ·rw[if_neg h,decide_eq_false h,A.gd1 ⟨by omega,by omega⟩,ih];rfl)
  (by have:=FU_big;omega)
 rw[F.R05_over]
 exact this
theorem w1_mem: ∀{l:List Mn},(∀m,m∈l→1≤m.2)→∀m,m∈l→m.2≤wS (fun _=>1) l
 |x::l,h,m,hm=>by
  have h1:=wS_nn (w:=fun _=>1) (fun _=>by decide) fun m hm=>h m (List.mem_cons_of_mem _ hm)
  have hx:=h x (List.mem_cons_self ..)
  unfold wS
  rcases List.mem_cons.1 hm with rfl|hm
  ·omega
  ·have:=w1_mem (fun m hm=>h m (List.mem_cons_of_mem _ hm)) m hm;omega
structure Acc (k:Nat) (l:List Mn):Prop where
 sm:SM l
 one: ∀m,m∈l→1≤m.2
 w:wS (fun _=>1) l≤k*1048576
 len:l.length≤k
theorem Acc.put {k:Nat}{l:List Mn}(h:Acc k l){m:Mn}(h1:1≤m.2)(h2:m.2≤1048576):Acc (k+1) (bput l m.1 m.2):=
 ⟨bput_sm h.sm,bput_pos h1 h.one,by rw[bput_w];have:=h.w;omega,by have:=h.len;have:=bput_len (r:=m.1) (n:=m.2) (l:=l);omega⟩
theorem Acc.eq {k:Nat}{l:List Mn}(h:Acc k l)(hk:k≤900){m:Mn}(h1:1≤m.2)(h2:m.2≤1048576):F.R05_put l m.1 m.2=some (bput l m.1 m.2):=
 put5_eq l m.1 m.2 (by have:=h.len;omega) h.sm ⟨h1,h2⟩ fun x hx=>⟨h.one x hx,by have:=w1_mem h.one x hx;have:=h.w;omega⟩
theorem Sum_eq (a b:List Mn)(ha:a.length≤400)(hb:b.length≤400):F.R05_Sum a b=some (if chkB a≠0 then([],chkB a)else if chkB b≠0 then([],chkB b)else if((bputs (bputs [] a) b).any fun m=>decide ((1048576:Int)<m.2))=true then([],51)else(bputs (bputs [] a) b,0)):=by
 have hFU:=FU_big
 rw[F.R05_Sum,R05_CheckBag_eq a (by unfold maxLen;omega),Option.bind_some]
 by_cases h1:chkB a=0
 ·rw[if_neg (fun h=>h h1),if_neg (fun h=>h h1),R05_CheckBag_eq b (by unfold maxLen;omega),Option.bind_some]
  by_cases h2:chkB b=0
  ·rw[if_neg (fun h=>h h2),if_neg (fun h=>h h2)]
   have Ba:=chkB_iff.1 h1
   have Bb:=chkB_iff.1 h2
   have second: ∀xs:List Mn,Acc a.length xs→F.R05_Sum_l1 b A.FU xs 0=some (if((bputs xs b).any fun m=>decide ((1048576:Int)<m.2))=true then([],51)else(bputs xs b,0)):=fun xs hxs=>
    A.lp b (fun f (s:List Mn) y=>F.R05_Sum_l1 b f s y) (fun _ r s=>some (if((bputs s r).any fun m=>decide ((1048576:Int)<m.2))=true then([],51)else(bputs s r,0))) (fun k s=>Acc (a.length+k) s)
     (fun f s hp=>by
      show F.R05_Sum_l1 b (f+1) s _=_
      rw[F.R05_Sum_l1,if_neg (by omega),over_eq s (by have:=hp.len;omega),Option.bind_some]
      show _=some (if(s.any fun m=>decide ((1048576:Int)<m.2))=true then([],51)else(s,0))
      by_cases h:(s.any fun m=>decide ((1048576:Int)<m.2))=true
      ·rw[if_pos h,if_pos h,if_pos (by decide)]
      ·rw[if_neg h,if_neg h,if_neg (by simp)])
     (fun f s k x hx hk hp ih=>by
      have o1:=Bb.one x (List.mem_of_getElem? hx)
      have o2:=Bb.top x (List.mem_of_getElem? hx)
      show F.R05_Sum_l1 b (f+1) s _=_
      rw[F.R05_Sum_l1,if_pos (by omega),A.ixn hx,Option.bind_some,Option.bind_some]
      show(F.R05_put s x.1 x.2).bind _=_
      rw[hp.eq (by omega) o1 o2,Option.bind_some,A.gd1 ⟨by omega,by omega⟩]
      exact ih (bput s x.1 x.2) (hp.put o1 o2))
     (by omega) xs hxs
   exact A.lp a (fun f (s:List Mn) y=>F.R05_Sum_l2 a b f s y) (fun _ r s=>some (if((bputs (bputs s r) b).any fun m=>decide ((1048576:Int)<m.2))=true then([],51)else(bputs (bputs s r) b,0))) (fun k s=>Acc k s)
    (fun f s hp=>by
     show F.R05_Sum_l2 a b (f+1) s _=_
     rw[F.R05_Sum_l2,if_neg (by omega),second s hp];rfl)
    (fun f s k x hx hk hp ih=>by
     have o1:=Ba.one x (List.mem_of_getElem? hx)
     have o2:=Ba.top x (List.mem_of_getElem? hx)
     show F.R05_Sum_l2 a b (f+1) s _=_
     rw[F.R05_Sum_l2,if_pos (by omega),A.ixn hx,Option.bind_some,Option.bind_some]
     show(F.R05_put s x.1 x.2).bind _=_
     rw[hp.eq (by omega) o1 o2,Option.bind_some,A.gd1 ⟨by omega,by omega⟩]
     exact ih (bput s x.1 x.2) (hp.put o1 o2))
    (by omega) [] ⟨List.Pairwise.nil,by simp,by simp[wS],by simp⟩
  ·rw[if_pos h2,if_pos h2]
 ·rw[if_pos h1,if_pos h1]
theorem bag_nil:Bag []:=⟨by simp,by simp,by simp,List.Pairwise.nil⟩
theorem operOnward_plain {P:Prop}(n:Nd)(al:Tm×List Mn×List Mn×List En)(more:List Mn)(_:P)(h1:T32.ok al)(h2:(Z.Ty.slice T57).ok more):F.L17_OperOnward n al more=some true:=by
 obtain⟨t,a,b,st⟩:=al
 have la:a.length≤maxLen:=h1.2.1.1
 have lm:more.length≤maxLen:=h2.1
 have ls:st.length≤maxLen:=h1.2.2.2.1
 have hka: ∀m,m∈a→KeyR m.1:=fun m hm=>(h1.2.1.2 m hm).1
 have hkm: ∀m,m∈more→KeyR m.1:=fun m hm=>(h2.2 m hm).1
 have hks: ∀e,e∈st→KeyR (kr e):=fun e he=>⟨(h1.2.2.2.2 e he).2.1,(h1.2.2.2.2 e he).2.2.1⟩
 rw[F.L17_OperOnward,live_eq,Option.bind_some,if_neg (by simp)]
 obtain⟨r,hr1,hr2⟩:=rare_ok [a,more] (by simp) (fun x hx=>by
  rcases List.mem_cons.1 hx with rfl|hx
  ·exact la
  ·obtain rfl:=List.mem_singleton.1 hx;exact lm)
 show(F.L17_rare [a,more]).bind _=_
 rw[hr1,Option.bind_some]
 have j2:F.L17_OperOnward_j2 n (t,a,b,st) more true=some true:=rfl
 cases r with
 |false=>rw[if_pos (by rfl)];exact j2
 |true=>
  rw[if_neg (by simp)]
  obtain⟨th,ht1,ht2⟩:=thin_ok st ls
  show(F.L17_thin st).bind _=_
  rw[ht1,Option.bind_some]
  cases th with
  |false=>rw[if_pos (by rfl)];exact j2
  |true=>
   have ha:=hr2 rfl a (by simp)
   have hm:=hr2 rfl more (by simp)
   have hst:=ht2 rfl
   rw[if_neg (by simp),F.R17_Keeps,Option.bind_some]
   have ek:(bif decide (n.2.1=11)then true else decide (n.2.1=16))=decide (n.2.1=11∨n.2.1=16):=A.bo
   rw[ek]
   by_cases hk:n.2.1=11∨n.2.1=16
   ·rw[decide_eq_true hk]
    show F.L17_OperOnward_j2 n (t,a,b,st) more (decide ((300:Int)<(n.2.2.2.1.2.2.size:Int)))=_
    by_cases h300:(300:Int)<(n.2.2.2.1.2.2.size:Int)
    ·rw[decide_eq_true h300];exact j2
    ·have hs:n.2.2.2.1.2.2.size≤1000:=by omega
     rw[decide_eq_false h300,F.L17_OperOnward_j2,if_neg (by simp)]
     show(F.R05_Sum a more).bind _=_
     have hS:=Sum_eq a more (by omega) (by omega)
     by_cases c1:chkB a=0
     ·rw[if_neg (fun h=>h c1)]at hS
      by_cases c2:chkB more=0
      ·rw[if_neg (fun h=>h c2)]at hS
       have Ba:=chkB_iff.1 c1
       have Bm:=chkB_iff.1 c2
       obtain⟨x1,x2,x3,x4,x5⟩:=bputs_ok a [] List.Pairwise.nil (by simp) Ba.one
       obtain⟨y1,y2,y3,y4,y5⟩:=bputs_ok more (bputs [] a) x1 x2 Bm.one
       generalize hboth:bputs (bputs [] a) more=both at*
       by_cases c3:(both.any fun m=>decide ((1048576:Int)<m.2))=true
       ·rw[if_pos c3]at hS
        rw[hS];rfl
       ·rw[if_neg c3]at hS
        rw[hS,Option.bind_some,if_neg (by simp)]
        show(F.oper_Tell n t a [] st).bind _=_
        have hT:=Tell_eq n t a [] st hs (by omega) (by simp) (by omega) hka hks
        have recs: ∀r,r∈both.map (·.1)↔r∈a.map (·.1)∨r∈more.map (·.1):=fun r=>by rw[y3,x3];simp
        have wsum: ∀w,wS w both=wS w a+wS w more:=fun w=>by rw[y4,x4];simp[wS]
        have frm: ∀m,m∈both→∃m',(m'∈a∨m'∈more)∧m'.1=m.1:=fun m hmb=>by
         rcases(recs m.1).1 (List.mem_map_of_mem (f:=fun m:Mn=>m.1) hmb)with h|h
         ·obtain⟨m',h3,h4⟩:=List.mem_map.1 h;exact⟨m',.inl h3,h4⟩
         ·obtain⟨m',h3,h4⟩:=List.mem_map.1 h;exact⟨m',.inr h3,h4⟩
        have Bb:Bag both:=⟨fun m hmb=>by
          obtain⟨m',h3,h4⟩:=frm m hmb
          rw[←h4];exact h3.elim (Ba.txt m') (Bm.txt m'),y2,fun m hmb=>Int.not_lt.1 fun h=>c3 (List.any_eq_true.2 ⟨m,hmb,decide_eq_true h⟩),y1⟩
        have hkb: ∀m,m∈both→KeyR m.1:=fun m hmb=>by
         obtain⟨m',h3,h4⟩:=frm m hmb
         rw[←h4];exact h3.elim (hka m') (hkm m')
        have blen:both.length≤80:=by simp at x5;omega
        by_cases hmay:mayP n t a [] st=0
        ·rw[if_pos hmay]at hT
         rw[hT,Option.bind_some,if_neg (by simp)]
         have ok:=mayP_iff.1 hmay
         have sk:=stP_sk ok.st
         obtain⟨s,hse⟩: ∃s,(tellP n.2.1 n.2.2.2.1 n.1 a [] st).2=s:=⟨_,rfl⟩
         have sb:=st_behind ok
         have sl:=st_len (n:=n) (a:=a) (b:=[]) (st:=st)
         have skey:=st_key (n:=n) (a:=a) (b:=[]) sk hka hks
         rw[hse]at sb sl skey
         have ok2:Ok n t more [] s:=⟨ok.holds,ok.fn,ok.tm,Bm,bag_nil,.inl rfl,sb⟩
         have ok3:Ok n t both [] st:=⟨ok.holds,ok.fn,ok.tm,Bb,bag_nil,.inl rfl,ok.st⟩
         show(F.oper_Tell n t more [] (tellP n.2.1 n.2.2.2.1 n.1 a [] st).2).bind _=_
         rw[hse,Tell_eq n t more [] s hs (by omega) (by simp) (by omega) hkm skey,if_pos (mayP_iff.2 ok2),Option.bind_some]
         show(F.oper_Tell n t both [] st).bind _=_
         rw[Tell_eq n t both [] st hs (by omega) (by simp) (by omega) hkb hks,if_pos (mayP_iff.2 ok3),Option.bind_some,if_pos (by rfl)]
         have same:(tellP n.2.1 n.2.2.2.1 n.1 more [] s).2=(tellP n.2.1 n.2.2.2.1 n.1 both [] st).2:=by
          rw[←hse]
          have h10: ¬n.2.1=10:=by omega
          have h789: ¬(n.2.1=7∨n.2.1=8∨n.2.1=9):=by omega
          unfold tellP raw
          simp only[if_neg h10,if_neg h789]
          by_cases h11:n.2.1=11
          ·simp only[if_pos h11,totS_snd]
           exact tot_onward sk (stP_2 ok.st h11) Ba.kl Bm.kl Bb.kl Ba.one Bm.one Bb.one recs wsum
          ·have h16:n.2.1=16:=by omega
           simp only[if_neg h11,frS_snd]
           exact fr_onward sk (stP_1 ok.st h16) recs
         have l2:=st_len (n:=n) (a:=more) (b:=[]) (st:=s)
         rw[EqEnt_eq _ _ (by show(tellP n.2.1 n.2.2.2.1 n.1 more [] s).2.length≤_;omega),Option.bind_some,decide_eq_true same];rfl
        ·rw[if_neg hmay]at hT
         rw[hT]
         show(if mayP n t a [] st≠0 then some true else _)=_
         rw[if_pos hmay]
      ·rw[if_pos c2]at hS
       rw[hS]
       show(if chkB more≠0 then some true else _)=_
       rw[if_pos c2]
     ·rw[if_pos c1]at hS
      rw[hS]
      show(if chkB a≠0 then some true else _)=_
      rw[if_pos c1]
   ·rw[decide_eq_false hk];exact j2
end Go.Proofs.YtbljnlkhebiniaaDoor
end
section
namespace Go.Z
open Go.RowKit
def OpenT (P:Program)(T:TypeId)(t:Ty):Prop:=
 P.cellsOf T=t.size∧∀(H:Type) (enc:TypeId×Value→H) (w:World) (base:Nat) (spare:Nat→Bool) (held:Bool) (fuel:Nat) (cs:List Value) (x:DataW H×List MemPlace),
  DataW.trod enc P w base spare held fuel T cs=some x→∃y:t.den,t.rep w (nt []) cs y
section
variable {P:Program}{T e:TypeId}
theorem ot_int {k:IntKind}(hc:P.cellsOf T=1)(ht:P.underlying T=some (.int k)):OpenT P T (.int k):=⟨hc,fun H enc w base spare held fuel cs x h=>by
 obtain⟨n,rfl,_,hw⟩:=DataW.trod_int ht h
 refine⟨n,rfl,?_⟩
 simp only[Lit.wf,Bool.and_eq_true,decide_eq_true_eq]at hw
 exact hw⟩
theorem ot_str (hc:P.cellsOf T=1)(ht:P.underlying T=some .string):OpenT P T .str:=⟨hc,fun H enc w base spare held fuel cs x h=>by
 obtain⟨s,rfl,_,hs⟩:=DataW.trod_string ht h
 exact⟨s,rfl,hs⟩⟩
def OpenPs (P:Program):List (TypeId×Nat)→Nat→Ty→Prop
 | [],_,_=>False
 | [(T,o')],o,t=>o'=o∧OpenT P T t
 |(T,o')::p::ps,o,.pair a b=>o'=o∧OpenT P T a∧OpenPs P (p::ps) (o+a.size) b
 |_::_::_,_,_=>False
theorem open_ps {H:Type}{enc:TypeId×Value→H}{w:World}{base:Nat}{spare:Nat→Bool}{held:Bool}{fuel:Nat}{cs:List Value}:
  ∀(ps:List (TypeId×Nat)) (o:Nat) (t:Ty),OpenPs P ps o t→(∀p∈ps,∃x,DataW.trod enc P w base spare held fuel p.1 ((cs.drop p.2).take (P.cellsOf p.1))=some x)→∃y:t.den,t.rep w (nt []) ((cs.drop o).take t.size) y
 | [],_,_,h,_=>h.elim
 | [(T,o')],o,t,h,hx=>by
  obtain⟨rfl,⟨hc,ho⟩⟩:=h
  obtain⟨x,hx⟩:=hx (T,o') (List.mem_singleton.2 rfl)
  rw[←hc];exact ho _ _ _ _ _ _ _ _ _ hx
 |(T,o')::p::ps,o,.pair a b,h,hx=>by
  obtain⟨rfl,⟨hc,ho⟩,hr⟩:=h
  obtain⟨x,h1⟩:=hx (T,o') (List.mem_cons_self ..)
  obtain⟨ya,hya⟩:=ho _ _ _ _ _ _ _ _ _ h1
  obtain⟨yb,hyb⟩:=open_ps (p::ps) _ b hr fun q hq=>hx q (List.mem_cons_of_mem _ hq)
  refine⟨(ya,yb),_,_,?_,hya,hyb⟩
  show(cs.drop o').take (a.size+b.size)=_
  rw[hc,List.take_add,List.drop_drop]
 |_::_::_,_,.int _,h,_=>h.elim
 |_::_::_,_,.byte,h,_=>h.elim
 |_::_::_,_,.bool,h,_=>h.elim
 |_::_::_,_,.str,h,_=>h.elim
 |_::_::_,_,.slice _,h,_=>h.elim
theorem ot_struct {fs:List Field}{t:Ty}(hc:P.cellsOf T=t.size)(ht:P.underlying T=some (.struct fs.toArray))(h:OpenPs P (fs.map fun f=>(f.type,f.offset)) 0 t):OpenT P T t:=⟨hc,fun H enc w base spare held fuel cs x hx=>by
 obtain⟨xs,n,_,_,hl,hs,hf⟩:=DataW.trod_struct ht hx
 have hcs:cs=(cs.drop 0).take t.size:=by rw[List.drop_zero,List.take_of_length_le (by omega)]
 rw[hcs]
 refine open_ps (fuel:=n) (enc:=enc) (base:=base) (spare:=spare) (held:=held) _ 0 t h fun p hp=>?_
 obtain⟨f,hf1,rfl⟩:=List.mem_map.1 hp
 obtain⟨i,hi,he⟩:=List.getElem_of_mem hf1
 have h1:=hf i f (by rw[List.getElem?_toArray,List.getElem?_eq_getElem hi,he])
 rw[h1,List.getElem?_eq_getElem (by rw[hs];simpa using hi)]
 exact⟨_,rfl⟩⟩
theorem ot_array {n c:Nat}{t:Ty}(hc:P.cellsOf T=t.size)(ht:P.underlying T=some (.array n e))(he:P.cellsOf e=c)(h:OpenPs P ((List.range n).map fun i=>(e,i*c)) 0 t):OpenT P T t:=⟨hc,fun H enc w base spare held fuel cs x hx=>by
 subst he
 obtain⟨xs,m,_,_,hl,hs,hf⟩:=DataW.trod_array ht hx
 have hcs:cs=(cs.drop 0).take t.size:=by rw[List.drop_zero,List.take_of_length_le (by omega)]
 rw[hcs]
 refine open_ps (fuel:=m) (enc:=enc) (base:=base) (spare:=spare) (held:=held) _ 0 t h fun p hp=>?_
 obtain⟨i,hi,rfl⟩:=List.mem_map.1 hp
 have hi':=List.mem_range.1 hi
 rw[hf i hi',List.getElem?_eq_getElem (by omega)]
 exact⟨_,rfl⟩⟩
theorem rows_of {t:Ty}{w:World}{g:Addr}: ∀(n:Nat),(∀i,i<n→∃(cs:List Value) (y:t.den),cs.length=t.size∧(∀j u,cs[j]?=some u→w.cell? (g.add (i*t.size+j))=some u)∧t.rep w (nt []) cs y)→
  ∃(cells:List Value) (ys:List t.den),ys.length=n∧cells.length=n*t.size∧(∀j u,cells[j]?=some u→w.cell? (g.add j)=some u)∧∀(i:Nat) (y:t.den),ys[i]?=some y→t.rep w (nt []) ((cells.drop (i*t.size)).take t.size) y
 |0,_=>⟨[],[],rfl,by simp,by simp,by simp⟩
 |n+1,h=>by
  obtain⟨cells,ys,h1,h2,h3,h4⟩:=rows_of n fun i hi=>h i (by omega)
  obtain⟨cs,y,c1,c2,c3⟩:=h n (by omega)
  refine⟨cells++cs,ys++[y],by simp[h1],by rw[List.length_append,h2,c1,Nat.succ_mul],fun j u hj=>?_,?_⟩
  ·by_cases hlt:j<cells.length
   ·rw[List.getElem?_append_left hlt]at hj;exact h3 j u hj
   ·rw[List.getElem?_append_right (by omega)]at hj
    have:=c2 _ u hj
    rwa[h2,show n*t.size+(j-n*t.size)=j by omega]at this
  ·refine rep_append (xs:=ys) (ys:=[y]) (by rw[h2,h1]) h4 fun i y' hi=>?_
   have:i=0:=by have:=(List.getElem?_eq_some_iff.1 hi).1;simp at this;omega
   subst this
   simp at hi;subst hi
   rw[Nat.zero_mul,List.drop_zero,List.take_of_length_le (by omega)];exact c3
theorem ot_slice {t:Ty}(hc:P.cellsOf T=1)(ht:P.underlying T=some (.slice e))(h:OpenT P e t):OpenT P T (.slice t):=⟨hc,fun H enc w base spare held fuel cs x hx=>by
 rcases DataW.trod_slice ht hx with⟨rfl,_⟩|⟨ad,len,cap,elems,rest,n,_,rfl,_,hb,hl,hm,hlen,hel,_,_⟩
 ·exact⟨[],rep_nil _⟩
 ·have each: ∀i,i<len→∃(cs:List Value) (y:t.den),cs.length=t.size∧(∀j u,cs[j]?=some u→w.cell? (ad.add (i*t.size+j))=some u)∧t.rep w (nt []) cs y:=fun i hi=>by
   have h1:=hel i hi
   rw[List.getElem?_eq_getElem (by omega),Option.bind_eq_some_iff]at h1
   obtain⟨cs',h2,h3⟩:=h1
   obtain⟨_,h4,h5⟩:=World.cells?_some h2
   obtain⟨y,hy⟩:=h.2 _ _ _ _ _ _ _ _ _ h3
   rw[h.1]at h4 h5
   refine⟨cs',y,h4,fun j u hj=>?_,hy⟩
   have hlt:=(List.getElem?_eq_some_iff.1 hj).1
   have:=h5 j (by omega)
   rw[add_add]at this
   rw[this,hj]
  obtain⟨cells,ys,h1,h2,h3,h4⟩:=rows_of len each
  by_cases hz:len=0
  ·subst hz
   have:ys=[]:=List.eq_nil_of_length_eq_zero h1
   subst this
   exact⟨[],some ad,cap,[],rfl,by simp,hm,by simp,.inl rfl,by simp⟩
  ·have hp:=pos_size t
   have hlt:0<cells.length:=by rw[h2];exact Nat.mul_pos (by omega) hp
   have h0:=h3 0 _ (List.getElem?_eq_getElem hlt)
   have hspot:=World.cell?_spot h0
   obtain⟨b,off,spot⟩:=ad
   simp only[Addr.add]at hspot
   subst hspot
   refine⟨ys,some ⟨b,off,none⟩,cap,cells,by rw[h1],by omega,hm,by rw[h1];exact h2,.inr ⟨b,off,rfl,by simp[nt],fun j u hj=>?_⟩,h4⟩
   have:=h3 j u hj
   rwa[Addr.add_lit]at this⟩
end
end Go.Z
end
section
namespace Go.Proofs.YtbljnlkhebiniaaDoor.operOnwardDone
open Go.ChangeShapes Go.WideShapes Go.ChangeAt Go.RowKit
set_option linter.unusedVariables false
theorem own:ownKnob Tryd.prog.godebug=none:=by kernel_rfl
theorem laidOut:laidOutB Tryd.prog=true:=by kernel_rfl
theorem ot3:Z.OpenT Tryd.prog 3 (Z.Ty.int .i64):=Z.ot_int (by kernel_rfl) Tryd.underlying3
theorem ot22:Z.OpenT Tryd.prog 22 (Z.Ty.slice (Z.Ty.int .i64)):=Z.ot_slice (by kernel_rfl) Tryd.underlying22 ot3
theorem ot2:Z.OpenT Tryd.prog 2 (Z.Ty.int .i64):=Z.ot_int (by kernel_rfl) Tryd.underlying2
theorem ot9:Z.OpenT Tryd.prog 9 Z.Ty.str:=Z.ot_str (by kernel_rfl) Tryd.underlying9
theorem ot24:Z.OpenT Tryd.prog 24 T23:=Z.ot_struct (by kernel_rfl) Tryd.underlying24 ⟨rfl,ot3,rfl,ot2,rfl,ot9⟩
theorem ot26:Z.OpenT Tryd.prog 26 T25:=Z.ot_struct (by kernel_rfl) Tryd.underlying26 ⟨rfl,ot3,rfl,ot3,rfl,ot22,rfl,ot24,rfl,ot9,rfl,ot2,rfl,ot3⟩
theorem ot27:Z.OpenT Tryd.prog 27 T27:=Z.ot_array (c:=1) (by kernel_rfl) Tryd.underlying27 (by kernel_rfl) (show Z.OpenPs _ [(2,0),(2,1),(2,2),(2,3)] 0 _ from⟨rfl,ot2,rfl,ot2,rfl,ot2,rfl,ot2⟩)
theorem ot29:Z.OpenT Tryd.prog 29 T28:=Z.ot_struct (by kernel_rfl) Tryd.underlying29 ⟨rfl,ot2,rfl,ot3,rfl,ot27⟩
theorem ot46:Z.OpenT Tryd.prog 46 T45:=Z.ot_struct (by kernel_rfl) Tryd.underlying46 ⟨rfl,ot2,rfl,ot9⟩
theorem ot58:Z.OpenT Tryd.prog 58 T57:=Z.ot_struct (by kernel_rfl) Tryd.underlying58 ⟨rfl,ot46,rfl,ot2⟩
theorem ot30:Z.OpenT Tryd.prog 30 (Z.Ty.slice T57):=Z.ot_slice (by kernel_rfl) Tryd.underlying30 ot58
theorem ot42:Z.OpenT Tryd.prog 42 T41:=Z.ot_struct (by kernel_rfl) Tryd.underlying42 ⟨rfl,ot3,rfl,ot2,rfl,ot9,rfl,ot2⟩
theorem ot31:Z.OpenT Tryd.prog 31 (Z.Ty.slice T41):=Z.ot_slice (by kernel_rfl) Tryd.underlying31 ot42
theorem ot33:Z.OpenT Tryd.prog 33 T32:=Z.ot_struct (by kernel_rfl) Tryd.underlying33 ⟨rfl,ot29,rfl,ot30,rfl,ot30,rfl,ot31⟩
set_option maxRecDepth 100000 in
theorem laid_met (os:Os)(args:Array Value):laidMetH Tryd.prog Rows.operOnwardRow.laid (({World.holding Tryd.prog os ⟨#[],#[],[]⟩with heap:=((World.holding Tryd.prog os ⟨#[],#[],[]⟩).heap.modify 1 (A.putCells A.tabF)).modify 2 (A.putCells A.tabA)}:World).forCall (fun _ _=>0) ⟨#[],args,[]⟩).memory:=by
 rw[MakeChecks.laidMetH_plain _ _ _ (by kernel_rfl)]
 exact(LaidIn.of_run (l:=Rows.operOnwardRow.laid) [2,1] 8 (by kernel_rfl) (by kernel_rfl) (by kernel_rfl) (by kernel_rfl)).met
theorem of_laid {W:World}(h:laidMetH Tryd.prog Rows.operOnwardRow.laid W):Lib.Utf8Tabs 1 2 W:=by
 rw[MakeChecks.laidMetH_plain _ _ _ (by kernel_rfl)]at h
 have h1:=Lib.laidMet.reads h (.tail _ (.head _))
 rw[show Rows.laid_unicode_utf8_first=Lib.firstData from Pinned.utf8First_eq]at h1
 have h2:=Lib.laidMet.reads h (.head _)
 rw[show(Rows.laid_unicode_utf8_acceptRanges:DataW Unit)=Lib.acceptData by kernel_rfl]at h2
 exact utf8Tabs_of_readsT (U8Types.of196 Tryd.laysValid) ⟨by kernel_rfl,by kernel_rfl,by kernel_rfl,by kernel_rfl,by kernel_rfl,by kernel_rfl,by kernel_rfl⟩ h1 h2
set_option maxHeartbeats 1000000 in
set_option maxRecDepth 100000 in
theorem lifted (os:Os)(started:os.Started)(H:Type)(enc:TypeId×Value→H):
  ReturnsInHanded {} Tryd.checked os 4 .any (fun w args=>(Rows.operOnwardSpec.pre enc Tryd.prog Tryd.f4 [] false w args∧laidMetH Tryd.prog Rows.operOnwardRow.laid w)∧sizedMet enc Tryd.prog Tryd.f4 (OpenSpec.ofChange Rows.operOnwardSpec) false w args) (Rows.operOnwardSpec.post enc Tryd.prog Tryd.f4 false true false false):=by
 refine returnsInHanded_of_change_and (C:=Tryd.checked) (X:=fun w _=>laidMetH Tryd.prog Rows.operOnwardRow.laid w) (fun _ _ _ hh h=>h.of_heap hh) own started (by kernel_rfl) Tryd.func4
  (ChangeSpec.witness_shaped (enc:=enc) (C:=Tryd.checked) (os:=os) (X:=fun w _=>laidMetH Tryd.prog Rows.operOnwardRow.laid w) false ({World.holding Tryd.prog os ⟨#[],#[],[]⟩with heap:=((World.holding Tryd.prog os ⟨#[],#[],[]⟩).heap.modify 1 (A.putCells A.tabF)).modify 2 (A.putCells A.tabA)}) #[.agg #[.int .i64 0,.int .i64 0,.slice none 0 0,.int .i64 0,.int .i64 0,.string (ByteArray.mk #[]),.string (ByteArray.mk #[]),.int .i64 0,.int .i64 0],.agg #[.int .i64 0,.int .i64 0,.int .i64 0,.int .i64 0,.int .i64 0,.int .i64 0,.slice none 0 0,.slice none 0 0,.slice none 0 0],.slice none 0 0] 16 rfl (World.shaped_of_RefB (by kernel_rfl) (by kernel_rfl)) (by kernel_rfl) (by kernel_rfl) (by kernel_rfl) (laid_met os _)) ?_
 intro W base args ds gs before hval0 hW hcnd hsz0 hL _
 have hval: ∀(j:Nat) t v,Tryd.f4.params[j]?=some t→args[j]?=some v→Value.okWide Tryd.prog W .any base t v:=hval0
 have hW':=hW
 obtain⟨p,q,hA0,hV,rfl,hfz,hnd⟩:=hW
 have hA:DataW.TrodAll enc Tryd.prog W 0 (fun _=>true) true Tryd.f4.params.toList args.toList ds p:=hA0
 rw[Tryd.params4]at hA hval
 obtain⟨v0,vs0,d0,ds0,p0,q0,hargs,rfl,rfl,h0,r0⟩:=trodAll_cons hA
 obtain⟨v1,vs1,d1,ds1,p1,q1,rfl,rfl,rfl,h1,r1⟩:=trodAll_cons r0
 obtain⟨v2,vs2,d2,ds2,p2,q2,rfl,rfl,rfl,h2,r2⟩:=trodAll_cons r1
 obtain⟨rfl,rfl,rfl⟩:=trodAll_nil r2
 obtain rfl:args=#[v0,v1,v2]:=by cases args;simp_all
 obtain⟨rfl,rfl⟩:=trodVars_none hV
 have k0:=h0
 have lt0: ∀x∈p0,x.block<W.heap.size:=by obtain⟨m,hm⟩:=k0;exact DataW.trod_lt m _ _ _ hm
 obtain⟨fu0,hf0⟩:=h0
 obtain⟨x0,hx0⟩:=ot26.2 _ _ _ _ _ _ _ _ _ hf0
 obtain⟨cs0,rfl,_⟩:=okWide_struct Tryd.underlying26 (hval 0 26 v0 rfl rfl)
 replace hx0:T25.rep W (Z.nt []) cs0.toList x0:=hx0
 have hok0:=Z.rep_ok _ hx0
 obtain⟨ca1,cb2,he3,hr4,hr5⟩:=hx0
 have he6:=hr4.1
 obtain⟨ca7,cb8,he9,hr10,hr11⟩:=hr5
 have he12:=hr10.1
 obtain⟨ca13,cb14,he15,hr16,hr17⟩:=hr11
 obtain⟨A18,c19,he20,hn21,hn22⟩:=Z.rep_slice hr16
 rw[he20]at hr16
 have hle_A18:=Z.rep_le hr16
 obtain⟨ca23,cb24,he25,hr26,hr27⟩:=hr17
 obtain⟨ca28,cb29,he30,hr31,hr32⟩:=hr26
 have he33:=hr31.1
 obtain⟨ca34,cb35,he36,hr37,hr38⟩:=hr32
 have he39:=hr37.1
 have he40:=hr38.1
 obtain⟨ca41,cb42,he43,hr44,hr45⟩:=hr27
 have he46:=hr44.1
 obtain⟨ca47,cb48,he49,hr50,hr51⟩:=hr45
 have he52:=hr50.1
 have he53:=hr51.1
 have he0:cs0.toList=[.int .i64 x0.1,.int .i64 x0.2.1,.slice A18 x0.2.2.1.length c19,.int .i64 x0.2.2.2.1.1,.int .i64 x0.2.2.2.1.2.1,.string x0.2.2.2.1.2.2,.string x0.2.2.2.2.1,.int .i64 x0.2.2.2.2.2.1,.int .i64 x0.2.2.2.2.2.2]:=by simp only[he3,he6,he9,he12,he15,he20,he25,he30,he33,he36,he39,he40,he43,he46,he49,he52,he53,List.cons_append,List.nil_append]
 obtain rfl:cs0=#[.int .i64 x0.1,.int .i64 x0.2.1,.slice A18 x0.2.2.1.length c19,.int .i64 x0.2.2.2.1.1,.int .i64 x0.2.2.2.1.2.1,.string x0.2.2.2.1.2.2,.string x0.2.2.2.2.1,.int .i64 x0.2.2.2.2.2.1,.int .i64 x0.2.2.2.2.2.2]:=by rw[←Array.toArray_toList (xs:=cs0),he0]
 have k1:=h1
 have lt1: ∀x∈p1,x.block<W.heap.size:=by obtain⟨m,hm⟩:=k1;exact DataW.trod_lt m _ _ _ hm
 obtain⟨fu1,hf1⟩:=h1
 obtain⟨x1,hx1⟩:=ot33.2 _ _ _ _ _ _ _ _ _ hf1
 obtain⟨cs1,rfl,_⟩:=okWide_struct Tryd.underlying33 (hval 1 33 v1 rfl rfl)
 replace hx1:T32.rep W (Z.nt []) cs1.toList x1:=hx1
 have hok1:=Z.rep_ok _ hx1
 obtain⟨ca54,cb55,he56,hr57,hr58⟩:=hx1
 obtain⟨ca59,cb60,he61,hr62,hr63⟩:=hr57
 have he64:=hr62.1
 obtain⟨ca65,cb66,he67,hr68,hr69⟩:=hr63
 have he70:=hr68.1
 obtain⟨ca71,cb72,he73,hr74,hr75⟩:=hr69
 have he76:=hr74.1
 obtain⟨ca77,cb78,he79,hr80,hr81⟩:=hr75
 have he82:=hr80.1
 obtain⟨ca83,cb84,he85,hr86,hr87⟩:=hr81
 have he88:=hr86.1
 have he89:=hr87.1
 obtain⟨ca90,cb91,he92,hr93,hr94⟩:=hr58
 obtain⟨A95,c96,he97,hn98,hn99⟩:=Z.rep_slice hr93
 rw[he97]at hr93
 have hle_A95:=Z.rep_le hr93
 obtain⟨ca100,cb101,he102,hr103,hr104⟩:=hr94
 obtain⟨A105,c106,he107,hn108,hn109⟩:=Z.rep_slice hr103
 rw[he107]at hr103
 have hle_A105:=Z.rep_le hr103
 obtain⟨A110,c111,he112,hn113,hn114⟩:=Z.rep_slice hr104
 rw[he112]at hr104
 have hle_A110:=Z.rep_le hr104
 have he1:cs1.toList=[.int .i64 x1.1.1,.int .i64 x1.1.2.1,.int .i64 x1.1.2.2.1,.int .i64 x1.1.2.2.2.1,.int .i64 x1.1.2.2.2.2.1,.int .i64 x1.1.2.2.2.2.2,.slice A95 x1.2.1.length c96,.slice A105 x1.2.2.1.length c106,.slice A110 x1.2.2.2.length c111]:=by simp only[he56,he61,he64,he67,he70,he73,he76,he79,he82,he85,he88,he89,he92,he97,he102,he107,he112,List.cons_append,List.nil_append]
 obtain rfl:cs1=#[.int .i64 x1.1.1,.int .i64 x1.1.2.1,.int .i64 x1.1.2.2.1,.int .i64 x1.1.2.2.2.1,.int .i64 x1.1.2.2.2.2.1,.int .i64 x1.1.2.2.2.2.2,.slice A95 x1.2.1.length c96,.slice A105 x1.2.2.1.length c106,.slice A110 x1.2.2.2.length c111]:=by rw[←Array.toArray_toList (xs:=cs1),he1]
 have k2:=h2
 have lt2: ∀x∈p2,x.block<W.heap.size:=by obtain⟨m,hm⟩:=k2;exact DataW.trod_lt m _ _ _ hm
 obtain⟨fu2,hf2⟩:=h2
 obtain⟨x2,hx2⟩:=ot30.2 _ _ _ _ _ _ _ _ _ hf2
 obtain⟨a2,n2,c2,rfl⟩:=okWide_slice Tryd.underlying30 (hval 2 30 v2 rfl rfl)
 replace hx2:(Z.Ty.slice T57).rep W (Z.nt []) [.slice a2 n2 c2] x2:=hx2
 have hn2:=(Z.rep_slice_len hx2).1
 subst hn2
 clear hA0 hval0
 have htab:=of_laid hL
 have hF:F.L17_OperOnward x0 x1 x2=some true:=operOnward_plain x0 x1 x2 hok0 hok1 (Z.rep_ok _ hx2)
 have hct:=L17_OperOnward_ok x0 x1 x2 A18 c19 A95 c96 A105 c106 A110 c111 a2 c2 hok0.1 hok0.2.1 hok0.2.2.2.1.1 hok0.2.2.2.1.2.1 hok0.2.2.2.1.2.2 hok0.2.2.2.2.1 hok0.2.2.2.2.2.1 hok0.2.2.2.2.2.2 hok1.1.1 hok1.1.2.1 hok1.1.2.2.1 hok1.1.2.2.2.1 hok1.1.2.2.2.2.1 hok1.1.2.2.2.2.2 true hF
 refine(hct W (fun _=>True) (A.Hp.start ⟨A.Hall.sh hr16,A.Hall.sh hr93,A.Hall.sh hr103,A.Hall.sh hr104,A.Hall.sh hx2,A.Hall.tabs htab⟩)).mono ?_
 rintro e W' ⟨v,H',rfl,⟨rfl,rfl⟩,hh⟩
 have bel:=hh.ch.below
 exact⟨_,rfl,_,_,_,[],_,[],hW',trodAll_mk1 (shut_bool Tryd.underlying4 _),(trodAll_cons_mk (Below.trod laidOut (by kernel_rfl) (of_decide_eq_true (by kernel_rfl)) k0 bel lt0) (trodAll_cons_mk (Below.trod laidOut (by kernel_rfl) (of_decide_eq_true (by kernel_rfl)) k1 bel lt1) (trodAll_cons_mk (Below.trod laidOut (by kernel_rfl) (of_decide_eq_true (by kernel_rfl)) k2 bel lt2) trodAll_mk0))),rfl,bel.frame _,fun h=>by cases h⟩
theorem over:Rows.operOnwardRow.holds Tryd.pinned (OpenSpec.ofChange Rows.operOnwardSpec):=
 OpenClaim.holds_of_wide 4 Tryd.f4 rfl rfl rfl rfl rfl rfl rfl ⟨rfl,rfl,rfl,rfl,rfl⟩ rfl rfl rfl rfl rfl (by kernel_rfl) Tryd.func4 (by kernel_rfl)
  (of_decide_eq_true (by kernel_rfl)) (by unfold Func.isWrapper;first|(rw[if_pos (by decide+kernel)];kernel_rfl)|(rw[if_neg (by decide+kernel)];exact⟨rfl,rfl⟩))
  (fun os started H enc _=>lifted os started H enc)
theorem proved:Rows.OperOnwardCardSaid:=
 Claim7.holds_tied_plain_at .later [] [.data,.pinned] true (true,"7516dc6c279ef79bd371f3fb3eefc7974f32ddd6591ecf333ccdf543b96478c9") false
  over (fun _ h=>by cases h) (by kernel_rfl) (fun _ h=>by cases h) operOnward_row_tie rfl ⟨rfl,rfl⟩ (by kernel_rfl) rfl
  (fun f fn hf hfn=>by
   obtain rfl:f=4:=Option.some.inj ((show Tryd.prog.funcNamed Rows.operOnwardRow.func=some 4 by kernel_rfl).symm.trans hf) |>.symm
   obtain rfl:fn=Tryd.f4:=(Option.some.inj (Tryd.func4.symm.trans hfn)).symm
   exact⟨by kernel_rfl,fun j t ht=>by
    rw[Tryd.params4]at ht
    have hm:t∈[26,33,30]:=by simpa using Array.mem_of_getElem? ht
    have hall:([26,33,30].all fun u=> !Tryd.prog.wantsStandIn u)=true:=by kernel_rfl
    exact(show Tryd.prog.wantsStandIn t=false by simpa using List.all_eq_true.1 hall t hm)⟩)
  (by kernel_rfl)
#print axioms proved
end Go.Proofs.YtbljnlkhebiniaaDoor.operOnwardDone
end
