/- Plain: entries in order, by node, key and text; what they add up to. No program in sight. * Plain: entries by the program and by the reference: order, states, lists, what is put in. * Plain: a state moved, by the program and by the reference. * Plain: moves: which fit, what they make of a state; by the program and by the reference. * Plain: what is moved is a state; the parts of a state, moved. * A small logic over the model's walk, continued: arguments of a row, opened: what a reader treads reads as a datum. No program in sight. * The law 'SchemaMoves' as it is given: whatever the input, the call returns true, and each argument reads behind it as it read before. No condition but that utf8's two tables hold what the library's text lays, which the card ties. -/
import Derived.Test.YtfpemeeadiigcaaDoorL0
import Derived.Test.YtfpemeeadiigcaaDoorL3
import Derived.OpenShut
import Derived.ShutString
import Derived.ChangeOld
import Derived.ChangeArms
import Derived.DataReads
import Derived.Test.YtfpemeeadiigcaaDoorRows
import Derived.Test.YtfpemeeadiigcaaDoorTie
import Derived.Test.YtfpemeeadiigcaaDoorCards
import Derived.WalkKit
import Derived.ProofKit
import Derived.Below
import Derived.LaidMore
import Derived.Stop.Joined
import Derived.SevenTiedAt
import Derived.Lib.LaidIn
import Derived.Lib.LaidU8T
import Derived.PinnedBridge
import Derived.SizedLaws
section
set_option linter.unusedVariables false
set_option linter.unusedSimpArgs false
namespace Go.Ent
open Go.Utf
abbrev En:=Int×Int×ByteArray×Int
abbrev Ky:=Int×Int×ByteArray
abbrev key (e:En):Ky:=(e.1,e.2.1,e.2.2.1)
abbrev num (e:En):Int:=e.2.2.2
theorem bL_irr: ∀a:List UInt8,Op.bytesLess a a=false
 | []=>rfl
 |x::a=>by unfold Op.bytesLess;rw[bL_irr a];simp
theorem bL_tr: ∀{a b c:List UInt8},Op.bytesLess a b=true→Op.bytesLess b c=true→Op.bytesLess a c=true
 |_,_,[],_,h=>by cases h':(‹List UInt8›)<;>simp_all [Op.bytesLess]
 |_,[],_::_,h,_=>by simp_all [Op.bytesLess]
 | [],_::_,_::_,_,_=>rfl
 |x::a,y::b,z::c,h1,h2=>by
  unfold Op.bytesLess at h1 h2 ⊢
  simp only[Bool.or_eq_true,Bool.and_eq_true,decide_eq_true_eq,beq_iff_eq]at h1 h2 ⊢
  rcases h1 with h1|⟨rfl,h1⟩
  ·rcases h2 with h2|⟨rfl,h2⟩
   ·exact .inl (UInt8.lt_trans h1 h2)
   ·exact .inl h1
  ·rcases h2 with h2|⟨rfl,h2⟩
   ·exact .inl h2
   ·exact .inr ⟨rfl,bL_tr h1 h2⟩
theorem bL_tri: ∀{a b:List UInt8},Op.bytesLess a b=false→Op.bytesLess b a=false→a=b
 | [],[],_,_=>rfl
 | [],_::_,h,_=>by simp[Op.bytesLess]at h
 |_::_,[],_,h=>by simp[Op.bytesLess]at h
 |x::a,y::b,h1,h2=>by
  unfold Op.bytesLess at h1 h2
  simp only[Bool.or_eq_false_iff,decide_eq_false_iff_not,Bool.and_eq_false_iff]at h1 h2
  have e:x=y:=UInt8.le_antisymm (UInt8.not_lt.1 h2.1) (UInt8.not_lt.1 h1.1)
  subst e
  have h3:Op.bytesLess a b=false:=by rcases h1.2 with h|h;simp at h;exact h
  have h4:Op.bytesLess b a=false:=by rcases h2.2 with h|h;simp at h;exact h
  rw[bL_tri h3 h4]
def bl (s t:ByteArray):Bool:=Op.bytesLess s.toList t.toList
theorem bl_irr (s:ByteArray):bl s s=false:=bL_irr _
theorem bl_tr {s t u:ByteArray}(h1:bl s t=true)(h2:bl t u=true):bl s u=true:=bL_tr h1 h2
theorem bl_tri {s t:ByteArray}(h1:bl s t=false)(h2:bl t s=false):s=t:=by
 have:=bL_tri h1 h2
 rw[Lib.toList_data,Lib.toList_data]at this
 exact ba_eq this
def rl (a b:Int×ByteArray):Bool:=decide (a.1<b.1)||(decide (a.1=b.1)&&bl a.2 b.2)
theorem rl_irr (a:Int×ByteArray):rl a a=false:=by unfold rl;rw[bl_irr];simp
theorem rl_tr {a b c:Int×ByteArray}(h1:rl a b=true)(h2:rl b c=true):rl a c=true:=by
 unfold rl at h1 h2 ⊢
 simp only[Bool.or_eq_true,Bool.and_eq_true,decide_eq_true_eq]at h1 h2 ⊢
 rcases h1 with h1|⟨h1,h1'⟩
 ·rcases h2 with h2|⟨h2,h2'⟩
  ·left;omega
  ·left;omega
 ·rcases h2 with h2|⟨h2,h2'⟩
  ·left;omega
  ·exact .inr ⟨h1.trans h2,bl_tr h1' h2'⟩
theorem rl_tri {a b:Int×ByteArray}(h1:rl a b=false)(h2:rl b a=false):a=b:=by
 unfold rl at h1 h2
 simp only[Bool.or_eq_false_iff,decide_eq_false_iff_not,Bool.and_eq_false_iff]at h1 h2
 have e:a.1=b.1:=by omega
 have h3:bl a.2 b.2=false:=by rcases h1.2 with h|h;exact absurd e h;exact h
 have h4:bl b.2 a.2=false:=by rcases h2.2 with h|h;exact absurd e.symm h;exact h
 exact Prod.ext e (bl_tri h3 h4)
def kl (a b:Ky):Bool:=decide (a.1<b.1)||(decide (a.1=b.1)&&rl a.2 b.2)
theorem kl_irr (a:Ky):kl a a=false:=by unfold kl;rw[rl_irr];simp
theorem kl_tr {a b c:Ky}(h1:kl a b=true)(h2:kl b c=true):kl a c=true:=by
 unfold kl at h1 h2 ⊢
 simp only[Bool.or_eq_true,Bool.and_eq_true,decide_eq_true_eq]at h1 h2 ⊢
 rcases h1 with h1|⟨h1,h1'⟩
 ·rcases h2 with h2|⟨h2,h2'⟩
  ·left;omega
  ·left;omega
 ·rcases h2 with h2|⟨h2,h2'⟩
  ·left;omega
  ·exact .inr ⟨h1.trans h2,rl_tr h1' h2'⟩
theorem kl_tri {a b:Ky}(h1:kl a b=false)(h2:kl b a=false):a=b:=by
 unfold kl at h1 h2
 simp only[Bool.or_eq_false_iff,decide_eq_false_iff_not,Bool.and_eq_false_iff]at h1 h2
 have e:a.1=b.1:=by omega
 have h3:rl a.2 b.2=false:=by rcases h1.2 with h|h;exact absurd e h;exact h
 have h4:rl b.2 a.2=false:=by rcases h2.2 with h|h;exact absurd e.symm h;exact h
 exact Prod.ext e (rl_tri h3 h4)
theorem kl_ne {a b:Ky}(h:kl a b=true):a≠b:=fun e=>by subst e;rw[kl_irr]at h;cases h
theorem kl_asy {a b:Ky}(h:kl a b=true):kl b a=false:=by
 cases h2:kl b a with
 |false=>rfl
 |true=>have:=kl_tr h h2;rw[kl_irr]at this;cases this
abbrev Srt (l:List En):Prop:=l.Pairwise fun a b=>kl (key a) (key b)=true
def gv:List En→Ky→Int
 | [],_=>0
 |e::l,k=>if key e=k then num e else gv l k
theorem gv_none: ∀{l:List En} {k:Ky},(∀e,e∈l→key e≠k)→gv l k=0
 | [],_,_=>rfl
 |e::l,k,h=>by unfold gv;rw[if_neg (h e (List.mem_cons_self ..))];exact gv_none fun x hx=>h x (List.mem_cons_of_mem _ hx)
theorem gv_mem: ∀{l:List En} {e:En},Srt l→e∈l→gv l (key e)=num e
 |x::l,e,h,hm=>by
  unfold gv
  rcases List.mem_cons.1 hm with rfl|hm
  ·rw[if_pos rfl]
  ·rw[if_neg (kl_ne ((List.pairwise_cons.1 h).1 e hm))];exact gv_mem (List.pairwise_cons.1 h).2 hm
theorem gv_at {l:List En}{k:Ky}(h:gv l k≠0): ∃e,e∈l∧key e=k∧num e=gv l k:=by
 induction l with
 |nil=>exact absurd rfl h
 |cons x l ih=>
  unfold gv at h ⊢
  by_cases hx:key x=k
  ·rw[if_pos hx];exact⟨x,List.mem_cons_self ..,hx,rfl⟩
  ·rw[if_neg hx]at h ⊢
   obtain⟨e,h1,h2⟩:=ih h
   exact⟨e,List.mem_cons_of_mem _ h1,h2⟩
theorem en_ext {a b:En}(h:key a=key b)(hn:num a=num b):a=b:=by
 obtain⟨a1,a2,a3,a4⟩:=a
 obtain⟨b1,b2,b3,b4⟩:=b
 simp only[key,num,Prod.mk.injEq]at h hn
 obtain⟨rfl,rfl,rfl⟩:=h
 subst hn;rfl
theorem srt_ext: ∀{l m:List En},Srt l→Srt m→(∀e,e∈l↔e∈m)→l=m
 | [],[],_,_,_=>rfl
 | [],y::m,_,_,h=>by have:=(h y).2 (List.mem_cons_self ..);cases this
 |x::l,[],_,_,h=>by have:=(h x).1 (List.mem_cons_self ..);cases this
 |x::l,y::m,hl,hm,h=>by
  have e:x=y:=by
   rcases List.mem_cons.1 ((h x).1 (List.mem_cons_self ..))with e|hx
   ·exact e
   ·rcases List.mem_cons.1 ((h y).2 (List.mem_cons_self ..))with e|hy
    ·exact e.symm
    ·have h1:=(List.pairwise_cons.1 hm).1 x hx
     have h2:=(List.pairwise_cons.1 hl).1 y hy
     rw[kl_asy h1]at h2;cases h2
  subst e
  congr 1
  refine srt_ext (List.pairwise_cons.1 hl).2 (List.pairwise_cons.1 hm).2 fun e=>?_
  have nl: ∀z,z∈l→z≠x:=fun z hz e=>by subst e;have:=(List.pairwise_cons.1 hl).1 z hz;rw[kl_irr]at this;cases this
  have nm: ∀z,z∈m→z≠x:=fun z hz e=>by subst e;have:=(List.pairwise_cons.1 hm).1 z hz;rw[kl_irr]at this;cases this
  exact⟨fun he=>((List.mem_cons.1 ((h e).1 (List.mem_cons_of_mem _ he))).resolve_left (nl e he)),fun he=>((List.mem_cons.1 ((h e).2 (List.mem_cons_of_mem _ he))).resolve_left (nm e he))⟩
structure Nf (l:List En):Prop where
 srt:Srt l
 nz: ∀e,e∈l→num e≠0
theorem nf_mem {l m:List En}(hl:Nf l)(hm:Nf m)(h: ∀k,gv l k=gv m k){e:En}(he:e∈l):e∈m:=by
 have h1:=gv_mem hl.srt he
 rw[h]at h1
 obtain⟨e',h2,h3,h4⟩:=gv_at (l:=m) (k:=key e) (by rw[h1];exact hl.nz e he)
 rw[h1]at h4
 rw[←en_ext h3 h4];exact h2
theorem nf_ext {l m:List En}(hl:Nf l)(hm:Nf m)(h: ∀k,gv l k=gv m k):l=m:=
 srt_ext hl.srt hm.srt fun e=>⟨nf_mem hl hm h,nf_mem hm hl fun k=>(h k).symm⟩
def upd (x e:En)(one:Bool):En:=(x.1,x.2.1,x.2.2.1,if one=true then 1 else min (num x+num e) 1099511627776)
def insP (e:En)(one:Bool):List En→List En
 | []=>[e]
 |x::l=>if key x=key e then upd x e one::l else if kl (key e) (key x)=true then e::x::l else x::insP e one l
def putP (e:En)(one:Bool)(l:List En):List En:=if num e=0 then l else insP e one l
abbrev cap (one:Bool):Int:=if one=true then 1 else 1099511627776
structure Bd (one:Bool) (l:List En):Prop where
 srt:Srt l
 b: ∀e,e∈l→1≤num e∧num e≤cap one
theorem Bd.nf {one:Bool}{l:List En}(h:Bd one l):Nf l:=⟨h.srt,fun e he=>by have:=(h.b e he).1;omega⟩
theorem Bd.gv {one:Bool}{l:List En}(h:Bd one l)(k:Ky):0≤gv l k∧gv l k≤cap one:=by
 by_cases h0:Ent.gv l k=0
 ·rw[h0];cases one<;>decide
 ·obtain⟨e,h1,_,h2⟩:=gv_at h0
  have:=h.b e h1
  rw[h2]at this
  exact⟨by omega,this.2⟩
theorem insP_mem {e:En}{one:Bool}: ∀{l:List En} {x:En},x∈insP e one l→x=e∨x∈l∨∃y,y∈l∧key y=key e∧x=upd y e one
 | [],x,h=>by simp only[insP,List.mem_singleton]at h;exact .inl h
 |y::l,x,h=>by
  unfold insP at h
  split at h
  ·rename_i hk
   rcases List.mem_cons.1 h with rfl|h
   ·exact .inr (.inr ⟨y,List.mem_cons_self ..,hk,rfl⟩)
   ·exact .inr (.inl (List.mem_cons_of_mem _ h))
  ·split at h
   ·rcases List.mem_cons.1 h with rfl|h
    ·exact .inl rfl
    ·exact .inr (.inl h)
   ·rcases List.mem_cons.1 h with rfl|h
    ·exact .inr (.inl (List.mem_cons_self ..))
    ·rcases insP_mem h with h1|h1|⟨z,h1,h2⟩
     ·exact .inl h1
     ·exact .inr (.inl (List.mem_cons_of_mem _ h1))
     ·exact .inr (.inr ⟨z,List.mem_cons_of_mem _ h1,h2⟩)
theorem insP_key {e:En}{one:Bool}{l:List En}{x:En}(h:x∈insP e one l):key x=key e∨∃y,y∈l∧key x=key y:=by
 rcases insP_mem h with rfl|h|⟨y,h1,h2,rfl⟩
 ·exact .inl rfl
 ·exact .inr ⟨x,h,rfl⟩
 ·exact .inr ⟨y,h1,rfl⟩
theorem insP_srt {e:En}{one:Bool}: ∀{l:List En},Srt l→Srt (insP e one l)
 | [],_=>by simp[insP]
 |x::l,h=>by
  obtain⟨h1,h2⟩:=List.pairwise_cons.1 h
  unfold insP
  split
  ·rename_i hk
   exact List.pairwise_cons.2 ⟨fun y hy=>h1 y hy,h2⟩
  ·rename_i hk
   split
   ·rename_i hlt
    exact List.pairwise_cons.2 ⟨fun y hy=>(List.mem_cons.1 hy).elim (fun e=>e▸hlt) fun hy=>kl_tr hlt (h1 y hy),h⟩
   ·rename_i hlt
    refine List.pairwise_cons.2 ⟨fun y hy=>?_,insP_srt h2⟩
    rcases insP_key hy with hye|⟨z,hz,hye⟩
    ·rw[hye]
     cases hxe:kl (key x) (key e)with
     |true=>rfl
     |false=>exact absurd (kl_tri hxe (by simpa using hlt)) hk
    ·rw[hye];exact h1 z hz
theorem insP_gv {e:En}{one:Bool}{k:Ky}: ∀{l:List En},Bd one l→1≤num e→num e≤cap one→gv (insP e one l) k=if k=key e then min (cap one) (gv l k+num e)else gv l k
 | [],_,h1,h2=>by
  unfold insP gv gv
  by_cases hk:k=key e
  ·rw[if_pos hk.symm,if_pos hk];omega
  ·rw[if_neg (fun h=>hk h.symm),if_neg hk]
 |x::l,h,h1,h2=>by
  obtain⟨s1,s2⟩:=List.pairwise_cons.1 h.srt
  have hb:Bd one l:=⟨s2,fun y hy=>h.b y (List.mem_cons_of_mem _ hy)⟩
  have hx:=h.b x (List.mem_cons_self ..)
  unfold insP
  split
  ·rename_i hke
   unfold gv
   by_cases hk:k=key e
   ·rw[if_pos (show key (upd x e one)=k from hke.trans hk.symm),if_pos hk,if_pos (hke.trans hk.symm)]
    unfold num at h1 h2 hx
    unfold upd num
    cases one with
    |true=>simp only[if_true];simp only[cap,if_true]at h2 hx ⊢;omega
    |false=>simp only[Bool.false_eq_true,if_false];simp only[cap,Bool.false_eq_true,if_false];omega
   ·rw[if_neg (show key (upd x e one)≠k from fun h=>hk (h.symm.trans hke)),if_neg hk,if_neg (fun h=>hk (h.symm.trans hke))]
  ·rename_i hke
   split
   ·rename_i hlt
    by_cases hk:k=key e
    ·have h0:gv (x::l) k=0:=gv_none fun y hy he=>by
      have:kl (key e) (key y)=true:=(List.mem_cons.1 hy).elim (fun e=>e▸hlt) fun hy=>kl_tr hlt (s1 y hy)
      exact kl_ne this (he.trans hk).symm
     rw[if_pos hk,h0]
     conv=>lhs;unfold gv
     rw[if_pos hk.symm];omega
    ·conv=>lhs;unfold gv
     rw[if_neg (fun h=>hk h.symm),if_neg hk]
   ·unfold gv
    by_cases hk:key x=k
    ·rw[if_pos hk,if_pos hk,if_neg (fun h=>hke (hk.trans h))]
    ·rw[if_neg hk,if_neg hk];exact insP_gv hb h1 h2
theorem putP_bd {e:En}{one:Bool}{l:List En}(h:Bd one l)(h1:0≤num e)(h2:num e≤cap one):Bd one (putP e one l):=by
 unfold putP
 split
 ·exact h
 ·rename_i h0
  refine⟨insP_srt h.srt,fun x hx=>?_⟩
  rcases insP_mem hx with rfl|hx|⟨y,hy,_,rfl⟩
  ·exact⟨by omega,h2⟩
  ·exact h.b x hx
  ·have:=h.b y hy
   unfold num at this h1 h2
   unfold upd num
   cases one with
   |true=>simp[cap]
   |false=>simp only[Bool.false_eq_true,if_false];simp only[cap,Bool.false_eq_true,if_false];omega
theorem putP_gv {e:En}{one:Bool}{l:List En}(h:Bd one l)(h1:0≤num e)(h2:num e≤cap one)(k:Ky):gv (putP e one l) k=if key e=k then min (cap one) (gv l k+num e)else gv l k:=by
 have:=h.gv k
 unfold putP
 split
 ·rename_i h0
  rw[h0,Int.add_zero]
  split
  ·omega
  ·rfl
 ·rw[insP_gv h (by omega) h2]
  by_cases hk:k=key e
  ·rw[if_pos hk,if_pos hk.symm]
  ·rw[if_neg hk,if_neg (fun h=>hk h.symm)]
def cs (C:Int)(l:List En)(k:Ky):Int:=l.foldl (fun a e=>if key e=k then min C (a+num e)else a) 0
theorem cs_snoc (C:Int)(l:List En)(e:En)(k:Ky):cs C (l++[e]) k=if key e=k then min C (cs C l k+num e)else cs C l k:=by
 unfold cs;rw[List.foldl_append];rfl
def sm:List En→Ky→Int
 | [],_=>0
 |e::l,k=>(if key e=k then num e else 0)+sm l k
theorem sm_nn {l:List En}(h: ∀e,e∈l→0≤num e)(k:Ky):0≤sm l k:=by
 induction l with
 |nil=>simp[sm]
 |cons x l ih=>
  have h1:=ih fun e he=>h e (List.mem_cons_of_mem _ he)
  have h2:=h x (List.mem_cons_self ..)
  unfold sm
  split<;>omega
theorem cs_sm {C:Int}(hC:0≤C): ∀(l:List En),(∀e,e∈l→0≤num e)→∀k,cs C l k=min C (sm l k):=by
 intro l h k
 have main: ∀(l:List En) (a:Int),(∀e,e∈l→0≤num e)→0≤a→a≤C→l.foldl (fun a e=>if key e=k then min C (a+num e)else a) a=min C (a+sm l k):=by
  intro l
  induction l with
  |nil=>intro a _ h1 h2;simp[sm];omega
  |cons x l ih=>
   intro a h h1 h2
   have hx:=h x (List.mem_cons_self ..)
   have hl:=sm_nn (fun e he=>h e (List.mem_cons_of_mem _ he)) k
   rw[List.foldl_cons,sm]
   split
   ·rw[ih _ (fun e he=>h e (List.mem_cons_of_mem _ he)) (by omega) (by omega)];omega
   ·rw[ih _ (fun e he=>h e (List.mem_cons_of_mem _ he)) h1 h2];omega
 have:=main l 0 h (Int.le_refl _) hC
 rw[Int.zero_add]at this
 exact this
theorem sm_gv: ∀{l:List En},Srt l→∀k,sm l k=gv l k
 | [],_,_=>rfl
 |x::l,h,k=>by
  obtain⟨h1,h2⟩:=List.pairwise_cons.1 h
  unfold sm gv
  by_cases hk:key x=k
  ·rw[if_pos hk,if_pos hk,sm_gv h2,gv_none (fun e he h3=>kl_ne (h1 e he) (hk.trans h3.symm))];omega
  ·rw[if_neg hk,if_neg hk,sm_gv h2];omega
theorem Bd.cs {one:Bool}{l:List En}(h:Bd one l)(k:Ky):cs (cap one) l k=Ent.gv l k:=by
 rw[cs_sm (by cases one<;>decide) l (fun e he=>by have:=(h.b e he).1;omega),sm_gv h.srt]
 have:=h.gv k
 omega
def foldP (one:Bool)(l:List En)(a:List En):List En:=l.foldl (fun a e=>putP e one a) a
theorem foldP_ok {one:Bool}: ∀(l a:List En),Bd one a→(∀e,e∈l→0≤num e∧num e≤cap one)→Bd one (foldP one l a)∧∀k,gv (foldP one l a) k=l.foldl (fun v e=>if key e=k then min (cap one) (v+num e)else v) (gv a k)
 | [],a,h,_=>⟨h,fun _=>rfl⟩
 |e::l,a,h,hl=>by
  have he:=hl e (List.mem_cons_self ..)
  obtain⟨i1,i2⟩:=foldP_ok l (putP e one a) (putP_bd h he.1 he.2) fun x hx=>hl x (List.mem_cons_of_mem _ hx)
  refine⟨i1,fun k=>?_⟩
  have:=i2 k
  rw[putP_gv h he.1 he.2]at this
  exact this
theorem foldP_nil {one:Bool}(l:List En)(hl: ∀e,e∈l→0≤num e∧num e≤cap one):Bd one (foldP one l [])∧∀k,gv (foldP one l []) k=cs (cap one) l k:=
 foldP_ok l [] ⟨List.Pairwise.nil,by simp⟩ hl
end Go.Ent
end
section
set_option maxRecDepth 20000
set_option linter.unusedVariables false
set_option linter.unusedSimpArgs false
namespace Go.Proofs.YtfpemeeadiigcaaDoor
open Go.RowKit Go.Graph Go.Utf Go.Ent
def cI (a b:Int):Int:=if a<b then-1 else if b<a then 1 else 0
theorem cmp64_eq (a b:Int):F.cmp_Compare_int64 a b=some (cI a b):=by
 rw[F.cmp_Compare_int64]
 simp only[F.cmp_isNaN_int64,Option.bind_some,ne_eq,not_true,decide_false,Bool.false_eq_true,if_false]
 unfold cI
 by_cases h1:a<b
 ·rw[if_pos h1,if_pos h1]
 ·rw[if_neg h1,if_neg h1]
  by_cases h2:b<a
  ·rw[if_pos h2,if_pos h2]
  ·rw[if_neg h2,if_neg h2]
theorem cmpi_eq (a b:Int):F.cmp_Compare_int a b=some (cI a b):=cmp64_eq a b
def cS (a b:ByteArray):Int:=if bl a b=true then-1 else if a=b then 0 else 1
theorem tl_eq {a b:ByteArray}:(a.toList==b.toList)=decide (a=b):=by
 rw[Lib.toList_data,Lib.toList_data]
 by_cases h:a=b
 ·subst h;simp
 ·rw[decide_eq_false h]
  exact beq_eq_false_iff_ne.2 fun e=>h (ba_eq e)
theorem cmps_eq (a b:ByteArray):F.cmp_Compare_string a b=some (cS a b):=by
 rw[F.cmp_Compare_string]
 simp only[F.cmp_isNaN_string,Option.bind_some,ne_eq,not_true,decide_false,Bool.false_eq_true,if_false,tl_eq]
 unfold cS bl
 by_cases h1:Op.bytesLess a.toList b.toList=true
 ·rw[if_pos h1,if_pos h1]
 ·rw[if_neg h1,if_neg h1]
  rw[Bool.not_eq_true]at h1
  by_cases h2:a=b
  ·subst h2;rw[h1];simp
  ·rw[h1,decide_eq_false h2];simp[h2]
theorem cB_eq: ∀a b:List UInt8,Lib.compareBytes a b=if Op.bytesLess a b=true then-1 else if a=b then 0 else 1
 | [],[]=>rfl
 | [],_::_=>rfl
 |_::_,[]=>by simp[Lib.compareBytes,Op.bytesLess]
 |x::a,y::b=>by
  unfold Lib.compareBytes Op.bytesLess
  by_cases h1:x<y
  ·simp[h1]
  ·by_cases h2:y<x
   ·have hne:x≠y:=fun e=>by subst e;exact h1 h2
    simp[h1,h2,hne]
   ·have e:x=y:=UInt8.le_antisymm (UInt8.not_lt.1 h2) (UInt8.not_lt.1 h1)
    subst e
    rw[if_neg h1,if_neg h1,cB_eq a b]
    simp[h1]
theorem scmp_eq (a b:ByteArray):F.strings_Compare a b=some (cS a b):=by
 rw[F.strings_Compare,cB_eq]
 unfold cS bl
 rw[Lib.toList_data,Lib.toList_data]
 by_cases h:a=b
 ·subst h;simp
 ·have:a.data.toList≠b.data.toList:=fun e=>h (ba_eq e)
  simp[h,this]
theorem or_eq (l:List Int)(hl:l.length≤100):F.cmp_Or_int l=some ((l.find? fun x=>decide (x≠0)).getD 0):=
 A.lp0 l (fun f y=>F.cmp_Or_int_l1 l f y) (fun _ r=>some ((r.find? fun x=>decide (x≠0)).getD 0))
  (fun f=>by rw[F.cmp_Or_int_l1,if_neg (by omega)];rfl)
  (fun f k x hx hk ih=>by
   rw[F.cmp_Or_int_l1,if_pos (by omega),A.ixn hx,Option.bind_some,List.find?_cons]
   by_cases h:x=0
   ·rw[if_neg (fun h2=>h2 h),A.gd1 ⟨by omega,by omega⟩,ih,decide_eq_false (fun h2=>h2 h)]
   ·rw[if_pos h,decide_eq_true h];rfl)
  (by have:=FU_big;omega)
theorem or2 (a b:Int):F.cmp_Or_int [a,b]=some (if a≠0 then a else b):=by
 rw[or_eq _ (by simp)]
 by_cases h:a=0
 ·subst h
  by_cases h2:b=0
  ·subst h2;rfl
  ·simp[h2]
 ·simp[h]
theorem or3 (a b c:Int):F.cmp_Or_int [a,b,c]=some (if a≠0 then a else if b≠0 then b else c):=by
 rw[or_eq _ (by simp)]
 by_cases h:a=0
 ·subst h
  by_cases h2:b=0
  ·subst h2
   by_cases h3:c=0
   ·subst h3;rfl
   ·simp[h3]
  ·simp[h2]
 ·simp[h]
abbrev rec (e:En):Int×ByteArray:=(e.2.1,e.2.2.1)
theorem cS_cases (a b:ByteArray):(bl a b=true∧cS a b= -1)∨(a=b∧bl a b=false∧cS a b=0)∨(a≠b∧bl a b=false∧bl b a=true∧cS a b=1):=by
 unfold cS
 cases h:bl a b with
 |true=>exact .inl ⟨rfl,by simp⟩
 |false=>
  by_cases h2:a=b
  ·exact .inr (.inl ⟨h2,rfl,by simp[h2]⟩)
  ·refine .inr (.inr ⟨h2,rfl,?_,by simp[h2]⟩)
   cases h3:bl b a with
   |true=>rfl
   |false=>exact absurd (bl_tri h h3) h2
theorem cI_cases (a b:Int):(a<b∧cI a b= -1)∨(a=b∧cI a b=0)∨(b<a∧cI a b=1):=by
 unfold cI
 by_cases h:a<b
 ·exact .inl ⟨h,if_pos h⟩
 ·by_cases h2:b<a
  ·exact .inr (.inr ⟨h2,by rw[if_neg h,if_pos h2]⟩)
  ·exact .inr (.inl ⟨by omega,by rw[if_neg h,if_neg h2]⟩)
def cR (a b:Int×ByteArray):Int:=if cI a.1 b.1≠0 then cI a.1 b.1 else cS a.2 b.2
theorem cR_lt (a b:Int×ByteArray):decide (cR a b<0)=rl a b:=by
 unfold cR rl
 rcases cI_cases a.1 b.1 with⟨h,e⟩|⟨h,e⟩|⟨h,e⟩
 ·rw[e];simp[h]
 ·rw[e,h]
  simp only[ne_eq,not_true,if_false,Int.lt_irrefl,decide_false,Bool.false_or,decide_true,Bool.true_and]
  rcases cS_cases a.2 b.2 with⟨h2,e2⟩|⟨h2,h3,e2⟩|⟨h2,h3,h4,e2⟩
  ·rw[e2,h2];rfl
  ·rw[e2,h3];rfl
  ·rw[e2,h3];rfl
 ·rw[e]
  have h1: ¬a.1<b.1:=by omega
  have h2: ¬a.1=b.1:=by omega
  simp[h1,h2]
theorem ahead_eq (a b:En):F.oper_ahead a b=some (rl (rec a) (rec b)):=by
 rw[F.oper_ahead,cmp64_eq,Option.bind_some,scmp_eq,Option.bind_some,or2,Option.bind_some]
 exact congrArg some (cR_lt (rec a) (rec b))
theorem R05_Compare_eq (a b:Int×ByteArray):F.R05_Compare a b=some (cR a b):=by
 rw[F.R05_Compare]
 unfold cR
 rcases cI_cases a.1 b.1 with⟨h,e⟩|⟨h,e⟩|⟨h,e⟩
 ·rw[if_pos h,e];rfl
 ·rw[if_neg (by omega),if_neg (by omega),e]
  simp only[tl_eq]
  unfold cS bl
  by_cases h1:Op.bytesLess a.2.toList b.2.toList=true
  ·rw[if_pos h1,if_pos h1];rfl
  ·rw[if_neg h1,if_neg h1]
   rw[Bool.not_eq_true]at h1
   rw[h1]
   by_cases h2:a.2=b.2
   ·simp[h2]
   ·simp[h2]
 ·rw[if_neg (by omega),if_pos h,e];rfl
theorem R17_ahead_eq (a b:En):F.R17_ahead a b=some (rl (rec a) (rec b)):=by
 rw[F.R17_ahead]
 show(F.R05_Compare (rec a) (rec b)).bind _=_
 rw[R05_Compare_eq,Option.bind_some,cR_lt]
theorem R18_ahead_eq (a b:En):F.R18_ahead a b=some (kl (key a) (key b)):=by
 rw[F.R18_ahead]
 unfold kl rl
 by_cases h:a.1=b.1
 ·rw[if_neg (fun h2=>h2 h)]
  by_cases h2:a.2.1<b.2.1
  ·rw[if_pos h2];simp[h,h2]
  ·rw[if_neg h2]
   show some (bif decide (a.2.1=b.2.1)then bl a.2.2.1 b.2.2.1 else false)=_
   by_cases h3:a.2.1=b.2.1
   ·simp[h,h3]
   ·simp[h,h2,h3]
 ·rw[if_pos h];simp[h]
theorem list1_eq (a b:En): ∃c,F.schema_state_list_1 a b=some c∧decide (c<0)=kl (key a) (key b):=by
 rw[F.schema_state_list_1,cmpi_eq,Option.bind_some,cmp64_eq,Option.bind_some,cmps_eq,Option.bind_some,or3,Option.bind_some]
 refine⟨_,rfl,?_⟩
 unfold kl
 have:=cR_lt (rec a) (rec b)
 unfold cR at this
 rcases cI_cases a.1 b.1 with⟨h,e⟩|⟨h,e⟩|⟨h,e⟩
 ·rw[e];simp[h]
 ·rw[e,if_neg (by omega),this];simp[h]
 ·rw[e]
  have h1: ¬a.1<b.1:=by omega
  have h2: ¬a.1=b.1:=by omega
  simp[h1,h2]
theorem cl0_eq:A.cl0 (fun x y=>F.schema_state_list_1 x y)=fun x y=>kl (key x) (key y):=by
 funext x y
 obtain⟨c,h1,h2⟩:=list1_eq x y
 show(match F.schema_state_list_1 x y with|some c=>decide (c<0)|none=>false)=_
 rw[h1];exact h2
def entOk (n:Nd)(x:En):Bool:=
 if x.1≠n.1 then false else if n.2.1=11 then decide (x.2.2.1=ByteArray.mk #[])&&decide (0≤x.2.2.2)&&decide (x.2.2.2≤1099511627776)else if n.2.1=16 then decide (x.2.2.2=1)&&okT x.2.2.1 else false
def stF (n:Nd):Option En→List En→Bool
 |_,[]=>true
 |none,e::l=>entOk n e&&stF n (some e) l
 |some p,e::l=>entOk n e&&rl (rec p) (rec e)&&stF n (some e) l
def stP (n:Nd)(l:List En):Bool:=stF n none l
theorem entry_eq (n:Nd)(x:En):F.oper_entry n x=some (entOk n x):=by
 rw[F.oper_entry]
 unfold entOk
 by_cases h0:x.1=n.1
 ·have h0': ¬(x.1≠n.1):=fun h=>h h0
  rw[if_neg h0',if_neg h0']
  by_cases h1:n.2.1=11
  ·rw[if_pos h1,if_pos h1]
   congr 1
   by_cases a1:x.2.2.1=ByteArray.mk #[]<;>by_cases a2:(0:Int)≤x.2.2.2<;>by_cases a3:x.2.2.2≤1099511627776<;>simp[a1,a2,a3]
  ·rw[if_neg h1,if_neg h1]
   by_cases h2:n.2.1=16
   ·rw[if_pos h2,if_pos h2]
    by_cases h3:x.2.2.2=1
    ·rw[if_pos h3]
     show(F.rec_Check (rec x)).bind _=_
     rw[rec_Check_eq,Option.bind_some,F.oper_entry_j1,decide_eq_true h3,Bool.true_and]
     show some (decide ((if okT x.2.2.1=true then(0:Int)else 50)=0))=_
     cases okT x.2.2.1<;>rfl
    ·rw[if_neg h3,F.oper_entry_j1,decide_eq_false h3];rfl
   ·rw[if_neg h2,if_neg h2]
 ·rw[if_pos h0,if_pos h0]
abbrev prv (l:List En) (k:Nat):Option En:=if k=0 then none else l[k-1]?
theorem prv_s (l:List En)(k:Nat){x:En}(h:l[k]?=some x):prv l (k+1)=some x:=by unfold prv;rw[if_neg (by omega)];exact h
theorem CheckState_eq (n:Nd)(l:List En)(hl:l.length≤9223372036854775807):F.oper_CheckState n l=some (if stP n l=true then 0 else 171):=
 A.lp0 l (fun f y=>F.oper_CheckState_l2 n l f y) (fun k r=>some (if stF n (prv l k) r=true then 0 else 171))
  (fun f=>by
   rw[F.oper_CheckState_l2,if_neg (by omega)]
   cases prv l l.length<;>rfl)
  (fun f k x hx hk ih=>by
   rw[F.oper_CheckState_l2,if_pos (by omega),A.ixn hx,Option.bind_some]
   show(F.oper_entry n x).bind _=_
   rw[prv_s l k hx]at ih
   have nx: ∀b:Bool,F.oper_CheckState_j1 (F.oper_CheckState_l2 n l f) (k:Int) b=some (if(!b&&stF n (some x) (l.drop (k+1)))=true then 0 else 171):=fun b=>by
    rw[F.oper_CheckState_j1]
    cases b with
    |true=>rw[if_pos rfl];rfl
    |false=>rw[if_neg (by simp),A.gd1 ⟨by omega,by omega⟩,ih];rfl
   rw[entry_eq,Option.bind_some]
   by_cases hk0:k=0
   ·subst hk0
    show _=some (if(entOk n x&&stF n (some x) (l.drop (0+1)))=true then 0 else 171)
    cases he:entOk n x with
    |false=>rw[Bool.not_false,if_pos rfl,nx];rfl
    |true=>rw[Bool.not_true,if_neg (by simp),if_neg (by omega),nx];rfl
   ·have hp:prv l k=l[k-1]?:=by unfold prv;rw[if_neg hk0]
    obtain⟨p,hpp⟩: ∃p,l[k-1]?=some p:=⟨_,List.getElem?_eq_getElem (by omega)⟩
    rw[hp,hpp]
    show _=some (if(entOk n x&&rl (rec p) (rec x)&&stF n (some x) (l.drop (k+1)))=true then 0 else 171)
    cases he:entOk n x with
    |false=>rw[Bool.not_false,if_pos rfl,nx];rfl
    |true=>
     rw[Bool.not_true,if_neg (by simp),if_pos (by omega),A.gd1 ⟨by omega,by omega⟩,show(k:Int)-1=((k-1:Nat):Int) by omega,A.ixn hpp,Option.bind_some]
     show(F.oper_ahead p x).bind _=_
     rw[ahead_eq,Option.bind_some,nx,Bool.not_not,Bool.true_and])
  (by have:=FU_big;omega)
theorem R17_CheckState_eq (n:Nd)(l:List En)(hl:l.length≤9223372036854775807):F.R17_CheckState n l=some (if stP n l=true then 0 else 171):=
 A.lp0 l (fun f y=>F.R17_CheckState_l3 n l f y) (fun k r=>some (if stF n (prv l k) r=true then 0 else 171))
  (fun f=>by
   rw[F.R17_CheckState_l3,if_neg (by omega)]
   cases prv l l.length<;>rfl)
  (fun f k x hx hk ih=>by
   rw[F.R17_CheckState_l3,if_pos (by omega),A.ixn hx,Option.bind_some,F.R17_Keeps,Option.bind_some]
   rw[prv_s l k hx]at ih
   have nx: ∀b:Bool,F.R17_CheckState_j1 (F.R17_CheckState_l3 n l f) (k:Int) b=some (if(b&&stF n (some x) (l.drop (k+1)))=true then 0 else 171):=fun b=>by
    rw[F.R17_CheckState_j1]
    cases b with
    |false=>rw[if_pos (show(!false)=true from rfl)];rfl
    |true=>rw[if_neg (show ¬((!true)=true) by simp),A.gd1 ⟨by omega,by omega⟩,ih];rfl
   have j2: ∀a:Bool,(n.2.1=11∨n.2.1=16)→x.1=n.1→F.R17_CheckState_j2 (F.R17_CheckState_l3 n l f) n (k:Int) x a=some (if(entOk n x&&a&&stF n (some x) (l.drop (k+1)))=true then 0 else 171):=fun a hkd hx1=>by
    rw[F.R17_CheckState_j2]
    unfold entOk
    have hx1': ¬(x.1≠n.1):=fun h=>h hx1
    rw[if_neg hx1']
    by_cases h11:n.2.1=11
    ·rw[if_pos h11,if_pos h11,nx]
     by_cases a1:x.2.2.1=ByteArray.mk #[]<;>by_cases a2:(0:Int)≤x.2.2.2<;>by_cases a3:x.2.2.2≤1099511627776<;>cases a<;>simp[a1,a2,a3]
    ·have h16:n.2.1=16:=hkd.resolve_left h11
     rw[if_neg h11,if_neg h11,if_pos h16]
     cases a with
     |false=>rw[cond_false,if_neg (by simp),nx];simp
     |true=>
      rw[cond_true]
      by_cases h1:x.2.2.2=1
      ·rw[if_pos (decide_eq_true h1)]
       show(F.R05_Check (rec x)).bind _=_
       rw[R05_Check_eq,Option.bind_some,nx,decide_eq_true h1]
       show some (if(decide ((if okT x.2.2.1=true then(0:Int)else 50)=0)&&_)=true then _ else _)=_
       cases okT x.2.2.1<;>rfl
      ·rw[if_neg (by simpa using h1),nx,decide_eq_false h1];rfl
   simp only[A.bo,A.ba]
   have main: ∀a:Bool,(if decide ((n.2.1=11∨n.2.1=16)∧x.1=n.1)=true then F.R17_CheckState_j2 (F.R17_CheckState_l3 n l f) n (k:Int) x a else F.R17_CheckState_j2 (F.R17_CheckState_l3 n l f) n (k:Int) x false)=some (if(entOk n x&&a&&stF n (some x) (l.drop (k+1)))=true then 0 else 171):=fun a=>by
    by_cases hc:(n.2.1=11∨n.2.1=16)∧x.1=n.1
    ·rw[if_pos (decide_eq_true hc),j2 a hc.1 hc.2]
    ·rw[if_neg (by simpa using hc)]
     have he:entOk n x=false:=by
      unfold entOk
      by_cases h0:x.1=n.1
      ·rw[if_neg (fun h=>h h0),if_neg (fun h=>hc ⟨.inl h,h0⟩),if_neg (fun h=>hc ⟨.inr h,h0⟩)]
      ·rw[if_pos h0]
     rw[he,F.R17_CheckState_j2]
     by_cases h11:n.2.1=11
     ·rw[if_pos h11,nx];rfl
     ·rw[if_neg h11,if_neg (by simp),nx];rfl
   by_cases hk0:k=0
   ·subst hk0
    have:=main true
    rw[Bool.and_true]at this
    refine Eq.trans ?_ this
    rfl
   ·have hp:prv l k=l[k-1]?:=by unfold prv;rw[if_neg hk0]
    obtain⟨p,hpp⟩: ∃p,l[k-1]?=some p:=⟨_,List.getElem?_eq_getElem (by omega)⟩
    rw[hp,hpp,if_neg (show ¬((k:Int)=0) by omega),A.gd1 ⟨by omega,by omega⟩,show(k:Int)-1=((k-1:Nat):Int) by omega,A.ixn hpp,Option.bind_some]
    show(if _ then(F.R17_ahead p x).bind _ else _)=_
    rw[R17_ahead_eq,Option.bind_some]
    exact main _)
  (by have:=FU_big;omega)
theorem stF_all {n:Nd}: ∀{p:Option En} {l:List En},stF n p l=true→∀e,e∈l→entOk n e=true
 |_,[],_,e,h=>by cases h
 |none,x::l,h,e,he=>by
  unfold stF at h
  rw[Bool.and_eq_true]at h
  exact(List.mem_cons.1 he).elim (fun e=>e▸h.1) (stF_all h.2 e)
 |some p,x::l,h,e,he=>by
  unfold stF at h
  rw[Bool.and_eq_true,Bool.and_eq_true]at h
  exact(List.mem_cons.1 he).elim (fun e=>e▸h.1.1) (stF_all h.2 e)
theorem stF_pw {n:Nd}: ∀{p:En} {l:List En},stF n (some p) l=true→(p::l).Pairwise fun a b=>rl (rec a) (rec b)=true
 |p,[],_=>by simp
 |p,x::l,h=>by
  unfold stF at h
  rw[Bool.and_eq_true,Bool.and_eq_true]at h
  have ih:=stF_pw h.2
  exact List.pairwise_cons.2 ⟨fun y hy=>(List.mem_cons.1 hy).elim (fun e=>e▸h.1.2) fun hy=>rl_tr h.1.2 ((List.pairwise_cons.1 ih).1 y hy),ih⟩
theorem stP_iff {n:Nd}{l:List En}:stP n l=true↔(∀e,e∈l→entOk n e=true)∧l.Pairwise fun a b=>rl (rec a) (rec b)=true:=by
 constructor
 ·intro h
  refine⟨stF_all h,?_⟩
  cases l with
  |nil=>exact List.Pairwise.nil
  |cons x l=>
   unfold stP stF at h
   rw[Bool.and_eq_true]at h
   exact stF_pw h.2
 ·rintro⟨h1,h2⟩
  have main: ∀(l:List En) (p:En),(∀e,e∈l→entOk n e=true)→(p::l).Pairwise (fun a b=>rl (rec a) (rec b)=true)→stF n (some p) l=true:=by
   intro l
   induction l with
   |nil=>intro p _ _;rfl
   |cons x l ih=>
    intro p h1 h2
    unfold stF
    rw[h1 x (List.mem_cons_self ..),(List.pairwise_cons.1 h2).1 x (List.mem_cons_self ..),ih x (fun e he=>h1 e (List.mem_cons_of_mem _ he)) (List.pairwise_cons.1 h2).2];rfl
  cases l with
  |nil=>rfl
  |cons x l=>
   unfold stP stF
   rw[h1 x (List.mem_cons_self ..),main l x (fun e he=>h1 e (List.mem_cons_of_mem _ he)) h2];rfl
theorem Same_eq (a b:List En)(hl:a.length≤9223372036854775806):F.R18_Same a b=some (decide (a=b)):=by
 rw[F.R18_Same]
 by_cases h:a.length=b.length
 ·rw[if_neg (by omega)]
  have:=A.lp0 a (fun f y=>F.R18_Same_l1 a b f y) (fun k r=>some (decide (r=b.drop k)))
   (fun f=>by
    rw[F.R18_Same_l1,if_neg (by omega),h,List.drop_length];rfl)
   (fun f k x hx hk ih=>by
    obtain⟨y,hy⟩: ∃y,b[k]?=some y:=⟨_,List.getElem?_eq_getElem (by omega)⟩
    rw[F.R18_Same_l1,if_pos (by omega),A.ixn hx,Option.bind_some,A.ixn hy,Option.bind_some,A.dropx hy]
    show(if x≠y then _ else _)=_
    by_cases e:x=y
    ·rw[if_neg (fun h=>h e),A.gd1 ⟨by omega,by omega⟩,ih]
     subst e;simp
    ·rw[if_pos e,decide_eq_false (fun h=>e (List.cons.inj h).1)])
   (by have:=FU_big;omega)
  rw[this];simp
 ·rw[if_pos (by omega),decide_eq_false (fun e=>h (by rw[e]))]
theorem Equal_eq (a b:List En)(hl:a.length≤9223372036854775806):F.slices_Equal_api_Entry_api_Entry a b=some (decide (a=b)):=by
 rw[F.slices_Equal_api_Entry_api_Entry]
 by_cases h:a.length=b.length
 ·rw[if_neg (by omega)]
  have:=A.lp0 a (fun f y=>F.slices_Equal_api_Entry_api_Entry_l1 a b f y) (fun k r=>some (decide (r=b.drop k)))
   (fun f=>by
    rw[F.slices_Equal_api_Entry_api_Entry_l1,if_neg (by omega),h,List.drop_length];rfl)
   (fun f k x hx hk ih=>by
    obtain⟨y,hy⟩: ∃y,b[k]?=some y:=⟨_,List.getElem?_eq_getElem (by omega)⟩
    rw[F.slices_Equal_api_Entry_api_Entry_l1,if_pos (by omega),A.ixn hx,Option.bind_some,A.ixn hy,Option.bind_some,A.dropx hy]
    show(if x≠y then _ else _)=_
    by_cases e:x=y
    ·rw[if_neg (fun h=>h e),A.gd1 ⟨by omega,by omega⟩,ih]
     subst e;simp
    ·rw[if_pos e,decide_eq_false (fun h=>e (List.cons.inj h).1)])
   (by have:=FU_big;omega)
  rw[this];simp
 ·rw[if_pos (by omega),decide_eq_false (fun e=>h (by rw[e]))]
theorem Clone_eq (a:List En)(hl:a.length≤1000):F.slices_Clone_api_Entry_api_Entry a=some a:=by
 rw[F.slices_Clone_api_Entry_api_Entry,A.gd1 (by simp;omega)];rfl
theorem put_eq (l:List En)(e:En)(one:Bool)(hl:l.length≤1000)(hb:Bd one l)(h1:0≤num e)(h2:num e≤cap one):F.R18_put l e one=some (putP e one l):=by
 rw[F.R18_put]
 unfold putP
 by_cases h0:num e=0
 ·rw[if_pos h0,if_pos h0]
 rw[if_neg h0,if_neg h0]
 have hc:cap one≤1099511627776:=by cases one<;>decide
 have kk: ∀x:En,(bif bif decide (x.1=e.1)then decide (x.2.1=e.2.1)else false then decide (x.2.2.1=e.2.2.1)else false)=decide (key x=key e):=fun x=>by
  simp only[A.ba]
  congr 1
  simp[key,and_assoc]
 have:=A.lp l (fun f (s:List En×Bool) y=>F.R18_put_l6 l e one f s.1 s.2 y) (fun k r s=>if s.2=true then some (s.1++r)else some (s.1++insP e one r)) (fun k s=>s.1.length≤k+1∧(s.2=false→s.1.length≤k)∧(s.2=true→∀x,x∈l.drop k→key x≠key e))
  (fun f s hp=>by
   show F.R18_put_l6 l e one (f+1) s.1 s.2 _=_
   rw[F.R18_put_l6,if_neg (by omega)]
   cases hs:s.2 with
   |true=>rw[Bool.not_true,if_neg (by simp),F.R18_put_j5,if_pos rfl,List.append_nil]
   |false=>rw[Bool.not_false,if_pos rfl,A.gd1 (by simp only[List.length_cons,List.length_nil];omega),F.R18_put_j5,if_neg (by simp)];rfl)
  (fun f s k x hx hk hp ih=>by
   show F.R18_put_l6 l e one (f+1) s.1 s.2 _=_
   have hxb:=hb.b x (List.mem_of_getElem? hx)
   have hsr:Srt (x::l.drop (k+1)):=by rw[←A.dropx hx];exact hb.srt.sublist (List.drop_sublist _ _)
   have hd:=(List.pairwise_cons.1 hsr).1
   have j1: ∀(xs:List En) (d:Bool) (v:Int),xs.length≤k+1→(d=false→xs.length≤k)→(d=true→∀y,y∈l.drop (k+1)→key y≠key e)→F.R18_put_j1 (F.R18_put_l6 l e one f) (k:Int) x v xs d=if d=true then some (xs++(x.1,x.2.1,x.2.2.1,v)::l.drop (k+1))else some (xs++(x.1,x.2.1,x.2.2.1,v)::insP e one (l.drop (k+1))):=fun xs d v hxs hxs2 hd2=>by
    rw[F.R18_put_j1,A.gd1 (by simp only[List.length_cons,List.length_nil];omega),A.gd1 ⟨by omega,by omega⟩]
    have:=ih (xs++[(x.1,x.2.1,x.2.2.1,v)],d) ⟨by simp only[List.length_append,List.length_cons,List.length_nil];omega,fun h=>by have:=hxs2 h;simp only[List.length_append,List.length_cons,List.length_nil];omega,hd2⟩
    refine Eq.trans this ?_
    cases d<;>simp
   rw[F.R18_put_l6,if_pos (by omega),A.ixn hx,Option.bind_some,kk]
   by_cases hk1:key x=key e
   ·have hs2:s.2=false:=by
     cases h:s.2 with
     |false=>rfl
     |true=>exact absurd hk1 (hp.2.2 h x (by rw[A.dropx hx];exact List.mem_cons_self ..))
    have hnk: ∀y,y∈l.drop (k+1)→key y≠key e:=fun y hy he=>kl_ne (hd y hy) (hk1.trans he.symm)
    have j4: ∀v:Int,F.R18_put_j4 (F.R18_put_l6 l e one f) e s.1 (k:Int) x v=some (s.1++(x.1,x.2.1,x.2.2.1,v)::l.drop (k+1)):=fun v=>by
     rw[F.R18_put_j4,F.R18_put_j3,Bool.not_true,if_neg (show ¬(false=true) by simp),F.R18_put_j2,if_neg (show ¬(false=true) by simp),j1 _ _ _ hp.1 (fun h=>by cases h) (fun _=>hnk),if_pos rfl]
    have r64:Z.R64 (x.2.2.2+e.2.2.2):=by
     have a1:1≤x.2.2.2∧x.2.2.2≤cap one:=hxb
     have a2:0≤e.2.2.2:=h1
     have a3:e.2.2.2≤cap one:=h2
     exact⟨by omega,by omega⟩
    have hs3: ¬(s.2=true):=by rw[hs2];simp
    rw[if_pos (decide_eq_true hk1),A.gd1 r64,if_neg hs3]
    unfold insP
    rw[if_pos hk1]
    unfold upd
    cases one with
    |true=>rw[if_pos rfl,j4];rfl
    |false=>rw[if_neg (show ¬(false=true) by simp),j4];rfl
   ·have hk1': ¬(decide (key x=key e)=true):=by simpa using hk1
    rw[if_neg hk1',F.R18_put_j3]
    cases hs:s.2 with
    |true=>
     rw[Bool.not_true,if_neg (show ¬(false=true) by simp),F.R18_put_j2,if_neg (show ¬(false=true) by simp),j1 _ _ _ hp.1 (fun h=>by cases h) (fun _ y hy=>hp.2.2 hs y (by rw[A.dropx hx];exact List.mem_cons_of_mem _ hy)),if_pos rfl,if_pos rfl]
    |false=>
     rw[Bool.not_false,if_pos rfl]
     show(F.R18_ahead e (x.1,x.2.1,x.2.2.1,x.2.2.2)).bind _=_
     rw[R18_ahead_eq,Option.bind_some,if_neg (show ¬(false=true) by simp)]
     show F.R18_put_j2 _ _ _ _ _ _ _ (kl (key e) (key x))=_
     unfold insP
     rw[if_neg hk1,F.R18_put_j2]
     have hl2:=hp.2.1 hs
     cases hlt:kl (key e) (key x)with
     |true=>
      rw[if_pos rfl,if_pos rfl,A.gd1 (by simp only[List.length_cons,List.length_nil];omega),j1 _ _ _ (by simp only[List.length_append,List.length_cons,List.length_nil];omega) (fun h=>by cases h) (fun _ y hy he=>kl_ne (kl_tr hlt (hd y hy)) he.symm),if_pos rfl]
      simp
     |false=>
      rw[if_neg (show ¬(false=true) by simp),if_neg (show ¬(false=true) by simp),j1 _ _ _ hp.1 (fun _=>hl2) (fun h=>by cases h),if_neg (show ¬(false=true) by simp)])
  (by have:=FU_big;omega) ([],false) ⟨by simp,fun _=>by simp,fun h=>by cases h⟩
 exact this
end Go.Proofs.YtfpemeeadiigcaaDoor
end
section
set_option maxRecDepth 20000
set_option linter.unusedVariables false
set_option linter.unusedSimpArgs false
namespace Go.A
theorem dem_of {α β:Type}[DecidableEq β]{m:List α}{sn:List Nat}{e:Option β}{g:Nat→α→Option β}{r:β}(h1:(∀i,i<m.length→i∈sn)→e=some r)(h2: ∀i p,m[i]?=some p→i∉sn→g i p=some r):dem m sn e g=some r:=by
 have hmem: ∀i,i∈(List.range m.length).filter (fun i=> !(sn.contains i))↔i<m.length∧i∉sn:=fun i=>by
  rw[List.mem_filter,List.mem_range];simp
 unfold dem
 split
 ·rename_i hl
  rw[hl]at hmem
  refine h1 fun i hi=>?_
  cases hd:decide (i∈sn)with
  |true=>exact of_decide_eq_true hd
  |false=>exact absurd ((hmem i).2 ⟨hi,of_decide_eq_false hd⟩) (by simp)
 ·rename_i i js hl
  rw[hl]at hmem
  obtain⟨hi,hn⟩:=(hmem i).1 (List.mem_cons_self ..)
  rw[List.getElem?_eq_getElem hi,Option.bind_some,if_pos]
  ·exact h2 i _ (List.getElem?_eq_getElem hi) hn
  ·rw[List.all_eq_true]
   intro j hj
   obtain⟨hj1,hj2⟩:=(hmem j).1 (List.mem_cons_of_mem _ hj)
   rw[List.getElem?_eq_getElem hj1,Option.bind_some,h2 j _ (List.getElem?_eq_getElem hj1) hj2,h2 i _ (List.getElem?_eq_getElem hi) hn]
   exact decide_eq_true rfl
end Go.A
namespace Go.Proofs.YtfpemeeadiigcaaDoor
open Go.RowKit Go.Graph Go.Utf Go.Ent
abbrev Mv:=Int×Int×Int×Int×Fun
def entOf (p:Ky×Int):Option En:=if p.2≠0 then some (p.1.1,p.1.2.1,p.1.2.2,p.2)else none
theorem entOf_some {p:Ky×Int}{e:En}(h:entOf p=some e):key e=p.1∧num e=p.2∧p.2≠0:=by
 unfold entOf at h
 split at h
 ·rename_i h0
  injection h with h;subst h;exact⟨rfl,rfl,h0⟩
 ·cases h
abbrev hasK (k:Ky):Prop:=IntKind.i64.has k.1∧IntKind.i64.has k.2.1∧k.2.2.size≤maxLen
theorem list_eq (m:List (Ky×Int))(hn:(m.map Prod.fst).Nodup)(hk: ∀p,p∈m→hasK p.1)(hlen:m.length*40≤140737488355328): ∃L,F.schema_state_list m=some L∧Nf L∧∀k,gv L k=Z.mget 0 m k:=by
 have hinj: ∀{i j:Nat} {p q:Ky×Int},m[i]?=some p→m[j]?=some q→p.1=q.1→i=j:=fun {i j p q} hi hj e=>by
  have h1:(m.map Prod.fst)[i]?=some p.1:=by rw[List.getElem?_map,hi];rfl
  have h2:(m.map Prod.fst)[j]?=some p.1:=by rw[List.getElem?_map,hj,e];rfl
  exact(List.getElem?_inj (by rw[List.length_map];exact(List.getElem?_eq_some_iff.1 hi).1) hn).1 (h1.trans h2.symm)
 have strict: ∀l:List En,(l.map key).Nodup→Srt (A.srtL (fun x y=>kl (key x) (key y)) l):=fun l hnd=>by
  have O:A.OrdOn (fun x y:En=>kl (key x) (key y)) l:=⟨fun x _ y _ h=>kl_asy h,fun x hx y hy h1 h2=>by
   have he:=kl_tri h1 h2
   obtain⟨i,hi⟩:=List.getElem?_of_mem hx
   obtain⟨j,hj⟩:=List.getElem?_of_mem hy
   have h3:(l.map key)[i]?=some (key x):=by rw[List.getElem?_map,hi];rfl
   have h4:(l.map key)[j]?=some (key x):=by rw[List.getElem?_map,hj];exact congrArg some he.symm
   have:=(List.getElem?_inj (by rw[List.length_map];exact(List.getElem?_eq_some_iff.1 hi).1) hnd).1 (h3.trans h4.symm)
   subst this
   rw[hi]at hj;exact Option.some.inj hj,fun x _ y _ z _ h1 h2=>kl_tr h1 h2⟩
  have h1:=A.srtL_pw O l fun a h=>h
  have h2:((A.srtL (fun x y:En=>kl (key x) (key y)) l).map key).Nodup:=((A.srtL_perm _ l).map key).nodup_iff.2 hnd
  have h3:(A.srtL (fun x y:En=>kl (key x) (key y)) l).Pairwise fun a b=>key a≠key b:=List.pairwise_map.1 h2
  exact(h1.and h3).imp fun {a b} ⟨h4,h5⟩=>by
   cases h6:kl (key a) (key b)with
   |true=>rfl
   |false=>exact absurd (kl_tri h6 h4) h5
 have ordB: ∀l:List En,(l.map key).Nodup→A.ordB (fun x y=>F.schema_state_list_1 x y) l=true:=fun l hnd=>by
  unfold A.ordB
  rw[List.all_eq_true]
  intro x hx
  rw[List.all_eq_true]
  intro y hy
  rw[cl0_eq,Bool.and_eq_true,Bool.and_eq_true]
  obtain⟨c,hc,_⟩:=list1_eq x y
  refine⟨⟨by show(F.schema_state_list_1 x y).isSome=true;rw[hc];rfl,?_⟩,?_⟩
  ·show(bif kl (key x) (key y)then !kl (key y) (key x)else kl (key y) (key x)||decide (x=y))=true
   cases h1:kl (key x) (key y)with
   |true=>rw[kl_asy h1];rfl
   |false=>
    cases h2:kl (key y) (key x)with
    |true=>rfl
    |false=>
     have he:=kl_tri h1 h2
     obtain⟨i,hi⟩:=List.getElem?_of_mem hx
     obtain⟨j,hj⟩:=List.getElem?_of_mem hy
     have h3:(l.map key)[i]?=some (key x):=by rw[List.getElem?_map,hi];rfl
     have h4:(l.map key)[j]?=some (key x):=by rw[List.getElem?_map,hj];exact congrArg some he.symm
     have:=(List.getElem?_inj (by rw[List.length_map];exact(List.getElem?_eq_some_iff.1 hi).1) hnd).1 (h3.trans h4.symm)
     subst this
     rw[hi]at hj
     rw[decide_eq_true (Option.some.inj hj)];rfl
  ·rw[List.all_eq_true]
   intro z hz
   show(!(kl (key x) (key y)&&kl (key y) (key z))||kl (key x) (key z))=true
   cases h1:kl (key x) (key y)with
   |false=>rfl
   |true=>
    cases h2:kl (key y) (key z)with
    |false=>rfl
    |true=>rw[kl_tr h1 h2];rfl
 obtain⟨es,hes⟩: ∃es,es=m.filterMap entOf:=⟨_,rfl⟩
 have hes_mem: ∀e,e∈es↔∃(i:Nat) (p:Ky×Int),m[i]?=some p∧entOf p=some e:=fun e=>by
  rw[hes,List.mem_filterMap]
  exact⟨fun⟨p,h1,h2⟩=>by obtain⟨i,hi⟩:=List.getElem?_of_mem h1;exact⟨i,p,hi,h2⟩,fun⟨i,p,h1,h2⟩=>⟨p,List.mem_of_getElem? h1,h2⟩⟩
 have hes_nd:(es.map key).Nodup:=by
  rw[hes]
  have: ∀(l:List (Ky×Int)),(l.map Prod.fst).Nodup→((l.filterMap entOf).map key).Nodup:=by
   intro l
   induction l with
   |nil=>intro _;simp
   |cons p l ih=>
    intro hnd
    rw[List.map_cons,List.nodup_cons]at hnd
    rw[List.filterMap_cons]
    cases hp:entOf p with
    |none=>exact ih hnd.2
    |some e=>
     simp only[List.map_cons]
     refine List.nodup_cons.2 ⟨fun hm=>?_,ih hnd.2⟩
     obtain⟨e2,h1,h2⟩:=List.mem_map.1 hm
     obtain⟨q,h3,h4⟩:=List.mem_filterMap.1 h1
     refine hnd.1 (List.mem_map.2 ⟨q,h3,?_⟩)
     rw[←(entOf_some h4).1,h2,(entOf_some hp).1]
  exact this m hn
 obtain⟨L,hL⟩: ∃L,L=A.srtL (fun x y:En=>kl (key x) (key y)) es:=⟨_,rfl⟩
 have hLs:Srt L:=hL▸strict es hes_nd
 have hLm: ∀e,e∈L↔e∈es:=fun e=>by rw[hL];exact(A.srtL_perm _ es).mem_iff
 have main: ∀(f:Nat) (sn:List Nat) (xs:List En),sn.Nodup→(∀i,i∈sn→i<m.length)→m.length<f+sn.length→xs.length≤sn.length→(∀e,e∈xs↔∃(i:Nat) (p:Ky×Int),i∈sn∧m[i]?=some p∧entOf p=some e)→(xs.map key).Nodup→F.schema_state_list_l1 m f sn xs=some L:=by
  intro f
  induction f with
  |zero=>intro sn xs h1 h2 h3;have:=A.seen_lt h1 h2;omega
  |succ f ih=>
   intro sn xs h1 h2 h3 h4 h5 h6
   have hsl:=A.seen_lt h1 h2
   rw[F.schema_state_list_l1]
   refine A.dem_of (fun hall=>?_) fun i p hp hi=>?_
   ·have hm: ∀e,e∈xs↔e∈es:=fun e=>by
     rw[h5,hes_mem]
     exact⟨fun⟨i,p,_,h⟩=>⟨i,p,h⟩,fun⟨i,p,ha,hb⟩=>⟨i,p,hall i (List.getElem?_eq_some_iff.1 ha).1,ha,hb⟩⟩
    rw[F.slices_SortFunc_api_Entry_api_Entry_schema_state_list_1,A.gd1 (by omega),A.srtF,if_pos (ordB xs h6),Option.bind_some,cl0_eq]
    congr 1
    refine srt_ext (strict xs h6) hLs fun e=>?_
    rw[hLm,←hm]
    exact(A.srtL_perm _ xs).mem_iff
   ·have hk1:=hk p (List.mem_of_getElem? hp)
    have hlt:=(List.getElem?_eq_some_iff.1 hp).1
    have hsn:(i::sn).Nodup:=List.nodup_cons.2 ⟨hi,h1⟩
    have hsb: ∀j,j∈i::sn→j<m.length:=fun j hj=>(List.mem_cons.1 hj).elim (fun e=>e▸hlt) (h2 j)
    have hsl2:=A.seen_lt hsn hsb
    rw[List.length_cons]at hsl2
    rw[A.gd1 ⟨decide_eq_true hk1.1,decide_eq_true hk1.2.1,hk1.2.2⟩]
    by_cases h0:p.2=0
    ·rw[if_neg (fun h=>h h0)]
     refine ih _ _ hsn hsb (by rw[List.length_cons];omega) (by rw[List.length_cons];omega) (fun e=>?_) h6
     rw[h5]
     refine⟨fun⟨j,q,ha,hb⟩=>⟨j,q,List.mem_cons_of_mem _ ha,hb⟩,fun⟨j,q,ha,hb,hc⟩=>⟨j,q,?_,hb,hc⟩⟩
     rcases List.mem_cons.1 ha with rfl|ha
     ·rw[hp]at hb;injection hb with hb;subst hb
      exact absurd h0 (entOf_some hc).2.2
     ·exact ha
    ·have hent:entOf p=some (p.1.1,p.1.2.1,p.1.2.2,p.2):=by unfold entOf;rw[if_pos h0]
     rw[if_pos h0,A.gd1 (by simp only[List.length_cons,List.length_nil];omega)]
     refine ih _ _ hsn hsb (by rw[List.length_cons];omega) (by simp only[List.length_append,List.length_cons,List.length_nil];omega) (fun e=>?_) ?_
     ·rw[List.mem_append,h5,List.mem_singleton]
      constructor
      ·rintro(⟨j,q,ha,hb⟩|rfl)
       ·exact⟨j,q,List.mem_cons_of_mem _ ha,hb⟩
       ·exact⟨i,p,List.mem_cons_self ..,hp,hent⟩
      ·rintro⟨j,q,ha,hb,hc⟩
       rcases List.mem_cons.1 ha with rfl|ha
       ·rw[hp]at hb;injection hb with hb;subst hb
        rw[hent]at hc;exact .inr (Option.some.inj hc).symm
       ·exact .inl ⟨j,q,ha,hb,hc⟩
     ·rw[List.map_append,List.map_cons,List.map_nil]
      refine List.nodup_append.2 ⟨h6,by simp,fun a ha b hb=>?_⟩
      rw[List.mem_singleton]at hb
      subst hb
      intro e
      subst e
      obtain⟨e2,h7,h8⟩:=List.mem_map.1 ha
      obtain⟨j,q,h9,h10,h11⟩:=(h5 e2).1 h7
      have:j=i:=hinj h10 hp (by rw[←(entOf_some h11).1,h8])
      subst this
      exact hi h9
 refine⟨L,?_,⟨hLs,fun e he=>?_⟩,fun k=>?_⟩
 ·exact main A.FU [] [] List.nodup_nil (by simp) (by have:=FU_big;simp;omega) (by simp) (by simp) (by simp)
 ·obtain⟨i,p,h1,h2⟩:=(hes_mem e).1 ((hLm e).1 he)
  rw[(entOf_some h2).2.1];exact(entOf_some h2).2.2
 ·by_cases hm:Z.mget 0 m k=0
  ·rw[hm]
   by_cases hg:gv L k=0
   ·exact hg
   ·obtain⟨e,h1,h2,h3⟩:=gv_at hg
    obtain⟨i,p,h4,h5⟩:=(hes_mem e).1 ((hLm e).1 h1)
    have h6:=(Z.mget_get (z:=0) hn h4).1
    obtain⟨a1,a2,a3⟩:=entOf_some h5
    rw[←a1,h2,hm]at h6
    exact absurd h6.symm a3
  ·have hh:Z.mhas m k=true:=by
    cases h:Z.mhas m k with
    |true=>rfl
    |false=>exact absurd (Z.mget_none h) hm
   have hmem:=Z.mget_mem (z:=0) hh
   have h1:entOf (k,Z.mget 0 m k)=some (k.1,k.2.1,k.2.2,Z.mget 0 m k):=by unfold entOf;rw[if_pos hm]
   obtain⟨i,hi⟩:=List.getElem?_of_mem hmem
   have h2:=gv_mem hLs ((hLm _).2 ((hes_mem _).2 ⟨i,_,hi,h1⟩))
   exact h2
end Go.Proofs.YtfpemeeadiigcaaDoor
end
section
set_option maxRecDepth 20000
set_option linter.unusedVariables false
set_option linter.unusedSimpArgs false
namespace Go.Proofs.YtfpemeeadiigcaaDoor
open Go.RowKit Go.Graph Go.Utf Go.Ent
abbrev MX:Int:=1099511627776
theorem scaled_eq {n a:Int}(h1:0≤n)(h2:n≤MX)(h3:0≤a)(h4:a≤1048576):F.schema_scaled n a=some (min MX (n*a)):=by
 have hm0:0≤n*a:=Int.mul_nonneg h1 h3
 have hm1:n*a≤MX*1048576:=Int.mul_le_mul h2 h4 h3 (by decide)
 have hr:Z.R64 (n*a):=⟨by omega,by simp only[MX]at hm1;omega⟩
 rw[F.schema_scaled]
 by_cases hn:0<n
 ·have e:Int.tdiv 1099511627776 n=1099511627776 / n:=Int.tdiv_eq_ediv_of_nonneg (by decide)
  have b1:0≤1099511627776 / n:=Int.ediv_nonneg (by decide) h1
  have b2:1099511627776 / n≤1099511627776:=Int.ediv_le_self _ (by decide)
  have hlt:(1099511627776 / n<a)↔(1099511627776<n*a):=by
   rw[Int.ediv_lt_iff_lt_mul hn,Int.mul_comm]
  rw[A.gd1 ⟨fun _=>by omega,fun _=>by rw[e];exact⟨by omega,by omega⟩⟩,A.ba,e]
  by_cases h:1099511627776<n*a
  ·rw[if_pos (decide_eq_true ⟨hn,hlt.2 h⟩),Int.min_eq_left (by simp only[MX];omega)]
  ·rw[if_neg (by simp only[decide_eq_true_eq];exact fun h2=>h (hlt.1 h2.2)),A.gd1 hr,Int.min_eq_right (by simp only[MX];omega)]
 ·have hn0:n=0:=by omega
  subst hn0
  rw[A.gd1 ⟨fun h=>absurd (of_decide_eq_true h) (by decide),fun h=>absurd (of_decide_eq_true h) (by decide)⟩,A.ba,if_neg (by simp),A.gd1 hr,Int.zero_mul];rfl
theorem R18_scaled_eq {n a:Int}(h1:0≤n)(h2:n≤MX)(h3:0≤a)(h4:a≤1048576):F.R18_scaled n a=some (min MX (n*a)):=by
 have hm0:0≤n*a:=Int.mul_nonneg h1 h3
 have hm1:n*a≤MX*1048576:=Int.mul_le_mul h2 h4 h3 (by decide)
 have hr:Z.R64 (n*a):=⟨by omega,by simp only[MX]at hm1;omega⟩
 rw[F.R18_scaled]
 by_cases ha:a=0
 ·subst ha
  rw[A.gd1 ⟨fun h=>absurd (of_decide_eq_true h) (by simp),fun h=>absurd (of_decide_eq_true h) (by simp)⟩,A.ba,if_neg (by simp),A.gd1 hr,Int.mul_zero];rfl
 ·have ha1:0<a:=by omega
  have e:Int.tdiv 1099511627776 a=1099511627776 / a:=Int.tdiv_eq_ediv_of_nonneg (by decide)
  have b1:0≤1099511627776 / a:=Int.ediv_nonneg (by decide) h3
  have b2:1099511627776 / a≤1099511627776:=Int.ediv_le_self _ (by decide)
  have hlt:(1099511627776 / a<n)↔(1099511627776<n*a):=Int.ediv_lt_iff_lt_mul ha1
  rw[A.gd1 ⟨fun _=>ha,fun _=>by rw[e];exact⟨by omega,by omega⟩⟩,A.ba,e]
  by_cases h:1099511627776<n*a
  ·rw[if_pos (decide_eq_true ⟨ha,hlt.2 h⟩),Int.min_eq_left (by simp only[MX];omega)]
  ·rw[if_neg (by simp only[decide_eq_true_eq];exact fun h2=>h (hlt.1 h2.2)),A.gd1 hr,Int.min_eq_right (by simp only[MX];omega)]
def z0F:Fun:=(0,0,ByteArray.mk #[])
def formP (m:Mv):Bool:=if m.2.2.1=1 then decide (m.2.2.2.1=0∧m.2.2.2.2=z0F)else if m.2.2.1=2 then decide ((0≤m.2.2.2.1∧m.2.2.2.1≤1048576)∧m.2.2.2.2=z0F)else if m.2.2.1=3 then decide (m.2.2.2.1=0∧chk 2 m.2.2.2.2=0)else false
theorem formed_eq (m:Mv)(hs:m.2.2.2.2.2.2.size≤9223372036854775807):F.schema_formed m=some (formP m):=by
 rw[F.schema_formed]
 unfold formP
 by_cases h1:m.2.2.1=1
 ·rw[if_pos h1,if_pos h1]
  by_cases h2:m.2.2.2.1=0
  ·rw[if_pos h2,F.schema_formed_j1];simp only[h2,true_and];rfl
  ·rw[if_neg h2,F.schema_formed_j1];simp[h2]
 rw[if_neg h1,if_neg h1]
 by_cases h2:m.2.2.1=2
 ·rw[if_pos h2,if_pos h2,A.ba]
  by_cases h3:0≤m.2.2.2.1∧m.2.2.2.1≤1048576
  ·rw[if_pos (decide_eq_true h3),F.schema_formed_j2];simp only[h3,true_and];rfl
  ·rw[if_neg (by simpa using h3),F.schema_formed_j2];simp only[h3,false_and];rfl
 rw[if_neg h2,if_neg h2]
 by_cases h3:m.2.2.1=3
 ·rw[if_pos h3,if_pos h3]
  by_cases h4:m.2.2.2.1=0
  ·rw[if_pos h4]
   show(F.fn_Check 2 m.2.2.2.2).bind _=_
   rw[fn_Check_eq _ _ hs,Option.bind_some,F.schema_formed_j3];simp only[h4,true_and]
  ·rw[if_neg h4,F.schema_formed_j3];simp[h4]
 rw[if_neg h3,if_neg h3]
theorem R18_form_eq (m:Mv)(hs:m.2.2.2.2.2.2.size≤5000):F.R18_form m=some (formP m):=by
 rw[F.R18_form]
 unfold formP
 by_cases h1:m.2.2.1=1
 ·rw[if_pos h1,if_pos h1]
  by_cases h2:m.2.2.2.1=0
  ·rw[if_pos h2,F.R18_form_j1];simp only[h2,true_and];rfl
  ·rw[if_neg h2,F.R18_form_j1];simp[h2]
 rw[if_neg h1,if_neg h1]
 by_cases h2:m.2.2.1=2
 ·rw[if_pos h2,if_pos h2,A.ba]
  by_cases h3:0≤m.2.2.2.1∧m.2.2.2.1≤1048576
  ·rw[if_pos (decide_eq_true h3),F.R18_form_j2];simp only[h3,true_and];rfl
  ·rw[if_neg (by simpa using h3),F.R18_form_j2];simp only[h3,false_and];rfl
 rw[if_neg h2,if_neg h2]
 by_cases h3:m.2.2.1=3
 ·rw[if_pos h3,if_pos h3]
  by_cases h4:m.2.2.2.1=0
  ·rw[if_pos h4]
   show(F.R06_Check 2 m.2.2.2.2).bind _=_
   rw[R06_Check_eq _ _ hs,Option.bind_some,F.R18_form_j3];simp only[h4,true_and]
  ·rw[if_neg h4,F.R18_form_j3];simp[h4]
 rw[if_neg h3,if_neg h3]
def fresh:ByteArray:=ByteArray.mk #[102,114,101,115,104]
def tagP (n:Nd):ByteArray×Bool:=if n.2.1=16 then(fresh,true)else if n.2.1=11∧n.2.2.2.1.1=41 then(ByteArray.mk #[116,111,116,97,108,47,111,110,101],true)else if n.2.1=11∧n.2.2.2.1.1=42 then(ByteArray.mk #[116,111,116,97,108,47,115,105,122,101],true)else(ByteArray.mk #[],false)
theorem Tag_eq (n:Nd):F.schema_Tag n=some (tagP n):=by
 rw[F.schema_Tag]
 unfold tagP
 simp only[A.ba,decide_eq_true_eq]
 by_cases h1:n.2.1=16
 ·rw[if_pos h1,if_pos h1];rfl
 rw[if_neg h1,if_neg h1]
 by_cases h2:n.2.1=11∧n.2.2.2.1.1=41
 ·rw[if_pos h2,if_pos h2]
 rw[if_neg h2,if_neg h2]
 by_cases h3:n.2.1=11∧n.2.2.2.1.1=42
 ·rw[if_pos h3,if_pos h3]
 rw[if_neg h3,if_neg h3]
theorem R18_Tag_eq (n:Nd):F.R18_Tag n=some (tagP n):=by
 rw[F.R18_Tag]
 unfold tagP
 simp only[A.ba,decide_eq_true_eq]
 by_cases h1:n.2.1=16
 ·rw[if_neg (show ¬(n.2.1=11∧n.2.2.2.1.1=41) by omega),if_neg (show ¬(n.2.1=11∧n.2.2.2.1.1=42) by omega),if_pos h1,if_pos h1];rfl
 by_cases h2:n.2.1=11∧n.2.2.2.1.1=41
 ·rw[if_pos h2,if_neg h1,if_pos h2]
 rw[if_neg h2,if_neg h1,if_neg h2]
 by_cases h3:n.2.1=11∧n.2.2.2.1.1=42
 ·rw[if_pos h3,if_neg h1,if_pos h3]
 rw[if_neg h3,if_neg h1,if_neg h3]
def fitsP (a b:Nd)(m:Mv):Int:=if m.1≠a.1∨m.2.1≠b.1∨formP m=false then 180 else if(tagP a).2=false∨(tagP b).2=false∨(tagP a).1≠(tagP b).1∨(m.2.2.1=2∧(tagP a).1=fresh)then 181 else 0
theorem Fits_eq (a b:Nd)(m:Mv)(hs:m.2.2.2.2.2.2.size≤9223372036854775807):F.schema_Fits a b m=some (fitsP a b m):=by
 have j1: ∀y:Bool,F.schema_Fits_j1 a b m y=some (if y=true then 180 else if(tagP a).2=false∨(tagP b).2=false∨(tagP a).1≠(tagP b).1∨(m.2.2.1=2∧(tagP a).1=fresh)then 181 else 0):=fun y=>by
  rw[F.schema_Fits_j1]
  cases y with
  |true=>rfl
  |false=>
   rw[if_neg (show ¬(false=true) by simp),if_neg (show ¬(false=true) by simp)]
   show(F.schema_Tag a).bind _=_
   rw[Tag_eq,Option.bind_some]
   show(F.schema_Tag b).bind _=_
   rw[Tag_eq,Option.bind_some]
   cases hA:(tagP a).2 with
   |false=>simp
   |true=>
    cases hB:(tagP b).2 with
    |false=>simp
    |true=>
     by_cases h:(tagP a).1=(tagP b).1
     ·by_cases h2:m.2.2.1=2
      ·by_cases h3:(tagP a).1=fresh
       ·have h3':(tagP b).1=fresh:=h.symm.trans h3
        have h3'':(tagP b).1=ByteArray.mk #[102,114,101,115,104]:=h3'
        simp[h,h2,h3',h3'']
        rfl
       ·have h3': ¬(tagP b).1=fresh:=fun e=>h3 (h.trans e)
        have h3'': ¬(tagP b).1=ByteArray.mk #[102,114,101,115,104]:=h3'
        simp[h,h2,h3',h3'']
      ·simp[h,h2]
     ·simp[h]
 rw[F.schema_Fits,A.bo]
 unfold fitsP
 by_cases h:m.1≠a.1∨m.2.1≠b.1
 ·rw[if_pos (decide_eq_true h),j1,if_pos rfl,if_pos (by rcases h with h|h;exact .inl h;exact .inr (.inl h))]
 ·rw[if_neg (by simpa using h)]
  show(F.schema_formed m).bind _=_
  rw[formed_eq m hs,Option.bind_some,j1]
  cases hfm:formP m with
  |false=>rw[if_pos (show(!false)=true from rfl),if_pos (.inr (.inr rfl))]
  |true=>rw[if_neg (show ¬((!true)=true) by simp),if_neg (show ¬(m.1≠a.1∨m.2.1≠b.1∨true=false)from fun h2=>h (by rcases h2 with h2|h2|h2;exact .inl h2;exact .inr h2;cases h2))]
theorem R18_Fits_eq (a b:Nd)(m:Mv)(hs:m.2.2.2.2.2.2.size≤5000):F.R18_Fits a b m=some (fitsP a b m):=by
 have j1: ∀y:Bool,F.R18_Fits_j1 a b m y=some (if y=true then 180 else if(tagP a).2=false∨(tagP b).2=false∨(tagP a).1≠(tagP b).1∨(m.2.2.1=2∧(tagP a).1=fresh)then 181 else 0):=fun y=>by
  rw[F.R18_Fits_j1]
  cases y with
  |true=>rfl
  |false=>
   rw[if_neg (show ¬(false=true) by simp),if_neg (show ¬(false=true) by simp)]
   show(F.R18_Tag a).bind _=_
   rw[R18_Tag_eq,Option.bind_some]
   show(F.R18_Tag b).bind _=_
   rw[R18_Tag_eq,Option.bind_some]
   cases hA:(tagP a).2 with
   |false=>simp
   |true=>
    cases hB:(tagP b).2 with
    |false=>simp
    |true=>
     by_cases h:(tagP a).1=(tagP b).1
     ·by_cases h2:m.2.2.1=2
      ·by_cases h3:(tagP a).1=fresh
       ·have h3':(tagP b).1=fresh:=h.symm.trans h3
        have h3'':(tagP b).1=ByteArray.mk #[102,114,101,115,104]:=h3'
        simp[h,h2,h3',h3'']
        rfl
       ·have h3': ¬(tagP b).1=fresh:=fun e=>h3 (h.trans e)
        have h3'': ¬(tagP b).1=ByteArray.mk #[102,114,101,115,104]:=h3'
        simp[h,h2,h3',h3'']
      ·simp[h,h2]
     ·simp[h]
 rw[F.R18_Fits,A.bo]
 unfold fitsP
 by_cases h:m.1≠a.1∨m.2.1≠b.1
 ·rw[if_pos (decide_eq_true h),j1,if_pos rfl,if_pos (by rcases h with h|h;exact .inl h;exact .inr (.inl h))]
 ·rw[if_neg (by simpa using h)]
  show(F.R18_form m).bind _=_
  rw[R18_form_eq m hs,Option.bind_some,j1]
  cases hfm:formP m with
  |false=>rw[if_pos (show(!false)=true from rfl),if_pos (.inr (.inr rfl))]
  |true=>rw[if_neg (show ¬((!true)=true) by simp),if_neg (show ¬(m.1≠a.1∨m.2.1≠b.1∨true=false)from fun h2=>h (by rcases h2 with h2|h2|h2;exact .inl h2;exact .inr h2;cases h2))]
def mvE (tn:Nd)(m:Mv)(e:En):En:=
 if m.2.2.1=2 then(tn.1,e.2.1,e.2.2.1,min MX (e.2.2.2*m.2.2.2.1))else if m.2.2.1=3 then(tn.1,(mapK m.2.2.2.2 (rec e)).1,if tn.2.1=16 then(mapK m.2.2.2.2 (rec e)).2 else e.2.2.1,e.2.2.2)else(tn.1,e.2.1,e.2.2.1,e.2.2.2)
structure Mok (tn:Nd) (m:Mv):Prop where
 kind:m.2.2.1=1∨m.2.2.1=2∨m.2.2.1=3
 sc:m.2.2.1=2→(0≤m.2.2.2.1∧m.2.2.2.1≤1048576)∧tn.2.1=11
 ks:m.2.2.1=3→chk 2 m.2.2.2.2=0
 tn:tn.2.1=11∨tn.2.1=16
theorem tag_kind {n:Nd}(h:(tagP n).2=true):n.2.1=16∧(tagP n).1=fresh∨n.2.1=11:=by
 unfold tagP at h ⊢
 by_cases h1:n.2.1=16
 ·rw[if_pos h1];exact .inl ⟨h1,rfl⟩
 ·rw[if_neg h1]at h ⊢
  split at h
  ·rename_i h2;exact .inr h2.1
  ·split at h
   ·rename_i h2;exact .inr h2.1
   ·cases h
theorem Mok.of {a b:Nd}{m:Mv}(hk:a.2.1=b.2.1)(h:fitsP a b m=0):Mok b m:=by
 unfold fitsP at h
 split at h
 ·cases h
 ·rename_i h1
  split at h
  ·cases h
  ·rename_i h2
   have hf:formP m=true:=by
    cases hh:formP m with
    |true=>rfl
    |false=>exact absurd (.inr (.inr hh)) h1
   have ta:(tagP a).2=true:=by
    cases hh:(tagP a).2 with
    |true=>rfl
    |false=>exact absurd (.inl hh) h2
   have tb:(tagP b).2=true:=by
    cases hh:(tagP b).2 with
    |true=>rfl
    |false=>exact absurd (.inr (.inl hh)) h2
   unfold formP at hf
   by_cases k1:m.2.2.1=1
   ·exact⟨.inl k1,fun h=>by omega,fun h=>by omega,(tag_kind tb).elim (fun h=>.inr h.1) .inl⟩
   rw[if_neg k1]at hf
   by_cases k2:m.2.2.1=2
   ·rw[if_pos k2]at hf
    have hf:=of_decide_eq_true hf
    refine⟨.inr (.inl k2),fun _=>⟨hf.1,?_⟩,fun h=>by omega,(tag_kind tb).elim (fun h=>.inr h.1) .inl⟩
    rcases tag_kind ta with⟨h3,h4⟩|h3
    ·exact absurd (.inr (.inr (.inr ⟨k2,h4⟩))) h2
    ·rw[←hk];exact h3
   rw[if_neg k2]at hf
   by_cases k3:m.2.2.1=3
   ·rw[if_pos k3]at hf
    exact⟨.inr (.inr k3),fun h=>by omega,fun _=>(of_decide_eq_true hf).2,(tag_kind tb).elim (fun h=>.inr h.1) .inl⟩
   ·rw[if_neg k3]at hf;cases hf
structure Eok (tn:Nd) (e:En):Prop where
 t:tn.2.1=11→e.2.2.1=ByteArray.mk #[]∧0≤e.2.2.2∧e.2.2.2≤MX
 f:tn.2.1=16→e.2.2.2=1∧okT e.2.2.1=true
theorem Eok.of {a b:Nd}(hk:a.2.1=b.2.1){e:En}(h:entOk a e=true):Eok b e:=by
 unfold entOk at h
 split at h
 ·cases h
 ·constructor
  ·intro h1
   rw[if_pos (hk.trans h1)]at h
   simp only[Bool.and_eq_true,decide_eq_true_eq]at h
   exact⟨h.1.1,h.1.2,h.2⟩
  ·intro h1
   rw[if_neg (by omega),if_pos (hk.trans h1)]at h
   simp only[Bool.and_eq_true,decide_eq_true_eq]at h
   exact h
theorem okT_nil:okT (ByteArray.mk #[])=true:=by decide
theorem Eok.txt {tn:Nd}{e:En}(h:Eok tn e)(ht:tn.2.1=11∨tn.2.1=16):okT e.2.2.1=true:=by
 rcases ht with ht|ht
 ·rw[(h.t ht).1];exact okT_nil
 ·exact(h.f ht).2
theorem mapP_ok {f:Fun}{r:Rec}(h:chk 2 f=0)(ho:okT r.2=true):mapP f r=(mapK f r,0):=by
 unfold mapP
 rw[if_neg (fun h2=>h2 h),if_pos ho]
theorem moved_eq (tn:Nd)(m:Mv)(e:En)(hm:Mok tn m)(he:Eok tn e)(hs:m.2.2.2.2.2.2.size≤9223372036854775807):F.schema_moved tn m e=some (mvE tn m e):=by
 rw[F.schema_moved]
 unfold mvE
 by_cases k2:m.2.2.1=2
 ·obtain⟨h1,h2⟩:=hm.sc k2
  obtain⟨_,h3,h4⟩:=he.t h2
  rw[if_pos k2,if_pos k2,scaled_eq h3 h4 h1.1 h1.2];rfl
 rw[if_neg k2,if_neg k2]
 by_cases k3:m.2.2.1=3
 ·rw[if_pos k3,if_pos k3]
  show(F.fn_Map m.2.2.2.2 (rec e)).bind _=_
  rw[fn_Map_eq _ _ hs,Option.bind_some,mapP_ok (hm.ks k3) (he.txt hm.tn)]
  by_cases h16:tn.2.1=16
  ·rw[if_pos h16,if_pos h16];rfl
  ·rw[if_neg h16,if_neg h16];rfl
 rw[if_neg k3,if_neg k3];rfl
theorem R18_moved_eq (tn:Nd)(m:Mv)(e:En)(hm:Mok tn m)(he:Eok tn e)(hs:m.2.2.2.2.2.2.size≤5000):F.R18_moved tn m e=some (mvE tn m e):=by
 rw[F.R18_moved]
 unfold mvE
 by_cases k2:m.2.2.1=2
 ·obtain⟨h1,h2⟩:=hm.sc k2
  obtain⟨_,h3,h4⟩:=he.t h2
  rw[if_pos k2,if_pos k2,R18_scaled_eq h3 h4 h1.1 h1.2];rfl
 rw[if_neg k2,if_neg k2]
 by_cases k3:m.2.2.1=3
 ·rw[if_pos k3,if_pos k3]
  show(F.R06_Map m.2.2.2.2 (rec e)).bind _=_
  rw[R06_Map_eq _ _ hs,Option.bind_some,mapP_ok (hm.ks k3) (he.txt hm.tn)]
  by_cases h16:tn.2.1=16
  ·rw[if_pos h16,if_pos h16];rfl
  ·rw[if_neg h16,if_neg h16];rfl
 rw[if_neg k3,if_neg k3];rfl
abbrev oneK (tn:Nd):Bool:=decide (tn.2.1=16)
theorem mv_num {tn:Nd}{m:Mv}{e:En}(hm:Mok tn m)(he:Eok tn e):0≤num (mvE tn m e)∧num (mvE tn m e)≤Ent.cap (oneK tn):=by
 rcases hm.tn with ht|ht
 ·obtain⟨_,h1,h2⟩:=he.t ht
  have hc:Ent.cap (oneK tn)=MX:=by unfold oneK;rw[ht];rfl
  rw[hc]
  unfold mvE
  split
  ·rename_i k2
   have:=(hm.sc k2).1
   have h3:0≤e.2.2.2*m.2.2.2.1:=Int.mul_nonneg h1 this.1
   show 0≤min MX (e.2.2.2*m.2.2.2.1)∧min MX (e.2.2.2*m.2.2.2.1)≤MX
   simp only[MX];omega
  ·(split)
   ·exact⟨h1,h2⟩
   ·exact⟨h1,h2⟩
 ·obtain⟨h1,_⟩:=he.f ht
  have hc:Ent.cap (oneK tn)=1:=by unfold oneK;rw[ht];rfl
  rw[hc]
  unfold mvE
  split
  ·rename_i k2
   have:=(hm.sc k2).2;omega
  ·(split)
   ·show 0≤e.2.2.2∧e.2.2.2≤1;omega
   ·show 0≤e.2.2.2∧e.2.2.2≤1;omega
theorem fresh_num {tn:Nd}{m:Mv}{e:En}(hm:Mok tn m)(he:Eok tn e)(ht:tn.2.1=16):num (mvE tn m e)=1:=by
 obtain⟨h1,_⟩:=he.f ht
 unfold mvE
 split
 ·rename_i k2
  have:=(hm.sc k2).2;omega
 ·(split)
  ·exact h1
  ·exact h1
theorem i64h {x:Int}(h1: -9223372036854775808≤x)(h2:x≤9223372036854775807):IntKind.i64.has x:=Z.i64_has ⟨h1,h2⟩
theorem mapK_has {f:Fun}{r:Rec}(h:chk 2 f=0)(ho:okT r.2=true)(hr:IntKind.i64.has r.1):IntKind.i64.has (mapK f r).1:=by
 obtain⟨h64,hv⟩:=okT_iff.1 ho
 obtain⟨hf,hc⟩:=vld_cks hv
 have hcl:=cks_len r.2
 unfold mapK
 by_cases e2:f.1=2
 ·rw[if_pos e2];exact hr
 rw[if_neg e2]
 by_cases e3:f.1=3
 ·rw[if_pos e3];exact hr
 rw[if_neg e3]
 by_cases e4:f.1=4
 ·rw[if_pos e4];exact hr
 rw[if_neg e4]
 by_cases e5:f.1=5
 ·rw[if_pos e5];exact hr
 rw[if_neg e5]
 by_cases e6:f.1=6
 ·rw[if_pos e6]
  obtain⟨n1,n2⟩:=num_mod h e6
  have t1:Int.tmod (Int.tmod r.1 f.2.1+f.2.1) f.2.1<f.2.1:=Int.tmod_lt_of_pos _ (by omega)
  have t2: -f.2.1<Int.tmod (Int.tmod r.1 f.2.1+f.2.1) f.2.1:=by
   have:=Int.tmod_lt_of_pos (-(Int.tmod r.1 f.2.1+f.2.1)) (show 0<f.2.1 by omega)
   rw[Int.neg_tmod]at this;omega
  exact i64h (by show _≤Int.tmod _ _;omega) (by show Int.tmod _ _≤_;omega)
 rw[if_neg e6]
 by_cases e7:f.1=7
 ·rw[if_pos e7];exact i64h (by show _≤((cks r.2.data.toList).length:Int);omega) (by show((cks r.2.data.toList).length:Int)≤_;omega)
 rw[if_neg e7]
 by_cases e8:f.1=8
 ·rw[if_pos e8]
  cases hx:((cks r.2.data.toList).map (·.2))[0]? with
  |none=>exact i64h (show(-9223372036854775808:Int)≤0 by decide) (show(0:Int)≤9223372036854775807 by decide)
  |some x=>have:=rune_fits hc hx;exact i64h (by show _≤x;omega) (by show x≤_;omega)
 rw[if_neg e8];exact hr
theorem mv_has {tn:Nd}{m:Mv}{e:En}(hm:Mok tn m)(he:Eok tn e)(ht:IntKind.i64.has tn.1)(h:hasK (key e)):hasK (key (mvE tn m e)):=by
 have hot:=he.txt hm.tn
 have hsz: ∀s:ByteArray,okT s=true→s.size≤maxLen:=fun s h=>by
  have:=(okT_iff.1 h).1
  simp only[maxLen];omega
 unfold mvE
 split
 ·exact⟨ht,h.2⟩
 ·(split)
  ·rename_i k3
   refine⟨ht,mapK_has (hm.ks k3) hot h.2.1,?_⟩
   show(if tn.2.1=16 then(mapK m.2.2.2.2 (rec e)).2 else e.2.2.1).size≤maxLen
   split
   ·exact hsz _ (mapK_ok (hm.ks k3) hot)
   ·exact h.2.2
  ·exact⟨ht,h.2⟩
abbrev frm (tn:Nd) (m:Mv):Nd:=(m.1,tn.2)
def migP (tn:Nd)(m:Mv)(l:List En):List En×Int:=
 if m.2.1≠tn.1 then([],180)else if fitsP (frm tn m) tn m≠0 then([],180)else if stP (frm tn m) l=true then(foldP (oneK tn) (l.map (mvE tn m)) [],0)else([],171)
theorem st_eok {tn:Nd}{m:Mv}{l:List En}(h:stP (frm tn m) l=true): ∀e,e∈l→Eok tn e:=fun e he=>Eok.of (a:=frm tn m) (b:=tn) rfl ((stP_iff.1 h).1 e he)
theorem Migrate_eq (tn:Nd)(m:Mv)(l:List En)(hs:m.2.2.2.2.2.2.size≤9223372036854775807)(hl:l.length*40≤140737488355328)(ht:IntKind.i64.has tn.1)(hk: ∀e,e∈l→hasK (key e)):F.schema_Migrate tn m l=some (migP tn m l):=by
 rw[F.schema_Migrate]
 unfold migP
 by_cases h1:m.2.1=tn.1
 case neg=>rw[if_pos h1,if_pos h1]
 rw[if_neg (fun h=>h h1),if_neg (show ¬(m.2.1≠tn.1)from fun h=>h h1)]
 show(F.schema_Fits (frm tn m) tn m).bind _=_
 rw[Fits_eq _ _ _ hs,Option.bind_some]
 by_cases h2:fitsP (frm tn m) tn m=0
 case neg=>rw[if_pos h2,if_pos h2]
 rw[if_neg (show ¬(fitsP (frm tn m) tn m≠0)from fun h=>h h2),if_neg (show ¬(fitsP (frm tn m) tn m≠0)from fun h=>h h2)]
 show(F.oper_CheckState (frm tn m) l).bind _=_
 rw[CheckState_eq _ _ (by omega),Option.bind_some]
 have hm:Mok tn m:=Mok.of (a:=frm tn m) (b:=tn) rfl h2
 by_cases h3:stP (frm tn m) l=true
 case neg=>rw[if_neg h3,if_neg h3];rfl
 rw[if_pos h3,if_pos h3,if_neg (show ¬((0:Int)≠0)from fun h=>h rfl)]
 have hE:=st_eok h3
 have hC:0≤Ent.cap (oneK tn):=by cases oneK tn<;>decide
 have hC2:Ent.cap (oneK tn)≤MX:=by cases oneK tn<;>decide
 have hnum: ∀e,e∈l.map (mvE tn m)→0≤num e∧num e≤Ent.cap (oneK tn):=fun e he=>by
  obtain⟨x,hx,rfl⟩:=List.mem_map.1 he
  exact mv_num hm (hE x hx)
 have csb: ∀(q:List En),(∀e,e∈q→0≤num e)→∀k,0≤cs (Ent.cap (oneK tn)) q k∧cs (Ent.cap (oneK tn)) q k≤Ent.cap (oneK tn):=fun q hq k=>by
  rw[cs_sm hC q hq]
  have:=sm_nn hq k
  omega
 have:=A.lp l (fun f (mm:List (Ky×Int)) y=>F.schema_Migrate_l1 tn m l f mm y) (fun _ _ _=>some (foldP (oneK tn) (l.map (mvE tn m)) [],0)) (fun k mm=>(mm.map Prod.fst).Nodup∧(∀q,Z.mget 0 mm q=cs (Ent.cap (oneK tn)) ((l.take k).map (mvE tn m)) q)∧(∀p,p∈mm→hasK p.1)∧mm.length≤k)
  (fun f mm hp=>by
   show F.schema_Migrate_l1 tn m l (f+1) mm _=_
   obtain⟨p1,p2,p3,p4⟩:=hp
   obtain⟨L,e1,e2,e3⟩:=list_eq mm p1 p3 (by omega)
   rw[F.schema_Migrate_l1,if_neg (by omega),e1,Option.bind_some]
   obtain⟨f1,f2⟩:=foldP_nil (one:=oneK tn) (l.map (mvE tn m)) hnum
   rw[List.take_length]at p2
   rw[nf_ext e2 f1.nf fun k=>by rw[e3,p2,f2]])
  (fun f mm k x hx hk2 hp ih=>by
   show F.schema_Migrate_l1 tn m l (f+1) mm _=_
   obtain⟨p1,p2,p3,p4⟩:=hp
   have hxl:=List.mem_of_getElem? hx
   have hxE:=hE x hxl
   have hn:=mv_num hm hxE
   have hq: ∀e,e∈(l.take k).map (mvE tn m)→0≤num e:=fun e he=>by
    obtain⟨z,hz,rfl⟩:=List.mem_map.1 he
    exact(mv_num hm (hE z (List.mem_of_mem_take hz))).1
   have hb:=csb _ hq (key (mvE tn m x))
   have hr:Z.R64 ((k:Int)+1):=⟨by omega,by omega⟩
   have htk:(l.take (k+1)).map (mvE tn m)=(l.take k).map (mvE tn m)++[mvE tn m x]:=by rw[List.take_add_one,hx];simp
   rw[F.schema_Migrate_l1,if_pos (by omega),A.ixn hx,Option.bind_some]
   show(F.schema_moved tn m x).bind _=_
   rw[moved_eq tn m x hm hxE hs,Option.bind_some]
   show(F.schema_state_add mm tn.2.1 (mvE tn m x)).bind _=_
   have goal: ∀v:Int,v=min (Ent.cap (oneK tn)) (cs (Ent.cap (oneK tn)) ((l.take k).map (mvE tn m)) (key (mvE tn m x))+num (mvE tn m x))→A.gd (Z.R64 ((k:Int)+1)) (F.schema_Migrate_l1 tn m l f (Z.mins mm (key (mvE tn m x)) v) ((k:Int)+1))=some (foldP (oneK tn) (l.map (mvE tn m)) [],0):=fun v hv=>by
    rw[A.gd1 hr]
    refine ih _ ⟨Z.mins_nodup p1 _ _,fun q=>?_,fun p hp2=>?_,?_⟩
    ·rw[Z.mget_ins,htk,cs_snoc]
     by_cases hqk:q=key (mvE tn m x)
     ·rw[if_pos hqk,if_pos hqk.symm,hqk];exact hv
     ·rw[if_neg hqk,if_neg (fun h=>hqk h.symm)];exact p2 q
    ·have h5:p.1∈(Z.mins mm (key (mvE tn m x)) v).map Prod.fst:=List.mem_map.2 ⟨p,hp2,rfl⟩
     rw[Z.mins_keys]at h5
     have hxk:=mv_has hm hxE ht (hk x hxl)
     split at h5
     ·obtain⟨p',h6,h7⟩:=List.mem_map.1 h5
      rw[←h7];exact p3 p' h6
     ·rcases List.mem_append.1 h5 with h5|h5
      ·obtain⟨p',h6,h7⟩:=List.mem_map.1 h5
       rw[←h7];exact p3 p' h6
      ·rw[List.mem_singleton]at h5;rw[h5];exact hxk
    ·have h5:=congrArg List.length (Z.mins_keys mm (key (mvE tn m x)) v)
     rw[List.length_map]at h5
     split at h5
     ·rw[List.length_map]at h5;omega
     ·rw[List.length_append,List.length_map]at h5
      simp only[List.length_cons,List.length_nil]at h5
      omega
   rw[F.schema_state_add]
   rcases hm.tn with h11|h16
   ·have hc:Ent.cap (oneK tn)=MX:=by unfold oneK;rw[h11];rfl
    rw[hc]at hn hb goal
    have hg:Z.mget 0 mm (key (mvE tn m x))=cs MX ((l.take k).map (mvE tn m)) (key (mvE tn m x)):=by rw[p2,hc]
    rw[if_pos h11]
    show(A.gd (Z.R64 (Z.mget 0 mm (key (mvE tn m x))+num (mvE tn m x))) (some (Z.mins mm (key (mvE tn m x)) (min 1099511627776 (Z.mget 0 mm (key (mvE tn m x))+num (mvE tn m x)))))).bind _=_
    rw[hg,A.gd1 ⟨by omega,by simp only[MX]at hn hb ⊢;omega⟩,Option.bind_some]
    exact goal _ rfl
   ·have hc:Ent.cap (oneK tn)=1:=by unfold oneK;rw[h16];rfl
    have h1n:=fresh_num hm hxE h16
    rw[if_neg (by omega)]
    show(some (Z.mins mm (key (mvE tn m x)) (num (mvE tn m x)))).bind _=_
    rw[Option.bind_some]
    exact goal _ (by rw[hc,h1n];rw[hc]at hb;omega))
  (by have:=FU_big;omega) [] ⟨List.nodup_nil,fun q=>rfl,(fun p hp=>(List.not_mem_nil hp).elim),Nat.le_refl _⟩
 exact this
theorem foldP_len (one:Bool): ∀(l a:List En),(foldP one l a).length≤a.length+l.length
 | [],a=>Nat.le_refl _
 |e::l,a=>by
  have h1:=foldP_len one l (putP e one a)
  have h2: ∀(a:List En),(insP e one a).length≤a.length+1:=fun a=>by
   induction a with
   |nil=>simp[insP]
   |cons x a ih=>
    unfold insP
    split
    ·simp
    ·(split)
     ·simp
     ·simp only[List.length_cons];omega
  have h3:(putP e one a).length≤a.length+1:=by
   unfold putP
   split
   ·omega
   ·exact h2 a
  show(foldP one l (putP e one a)).length≤_
  rw[List.length_cons];omega
theorem foldP_snoc (one:Bool)(l:List En)(e:En)(a:List En):foldP one (l++[e]) a=putP e one (foldP one l a):=by
 unfold foldP;rw[List.foldl_append];rfl
theorem R18_Migrate_eq (tn:Nd)(m:Mv)(l:List En)(hs:m.2.2.2.2.2.2.size≤5000)(hl:l.length≤900):F.R18_Migrate tn m l=some (migP tn m l):=by
 rw[F.R18_Migrate]
 unfold migP
 by_cases h1:m.2.1=tn.1
 case neg=>rw[if_pos (fun h=>h1 h.symm),if_pos h1,F.R18_Migrate_j2,if_pos rfl]
 rw[if_neg (fun h=>h h1.symm),if_neg (show ¬(m.2.1≠tn.1)from fun h=>h h1)]
 show(F.R18_Fits (frm tn m) tn m).bind _=_
 rw[R18_Fits_eq _ _ _ hs,Option.bind_some,F.R18_Migrate_j2]
 by_cases h2:fitsP (frm tn m) tn m=0
 case neg=>rw[if_pos (decide_eq_true h2),if_pos h2]
 rw[if_neg (show ¬(decide (fitsP (frm tn m) tn m≠0)=true) by simp[h2]),if_neg (show ¬(fitsP (frm tn m) tn m≠0)from fun h=>h h2)]
 show(F.R17_CheckState (frm tn m) l).bind _=_
 rw[R17_CheckState_eq _ _ (by omega),Option.bind_some]
 have hm:Mok tn m:=Mok.of (a:=frm tn m) (b:=tn) rfl h2
 by_cases h3:stP (frm tn m) l=true
 case neg=>rw[if_neg h3,if_neg h3];rfl
 rw[if_pos h3,if_pos h3,if_neg (show ¬((0:Int)≠0)from fun h=>h rfl)]
 have hE:=st_eok h3
 have:=A.lp l (fun f (xs:List En) y=>F.R18_Migrate_l1 tn m l f xs y) (fun _ _ _=>some (foldP (oneK tn) (l.map (mvE tn m)) [],0)) (fun k xs=>xs=foldP (oneK tn) ((l.take k).map (mvE tn m)) [])
  (fun f xs hp=>by
   show F.R18_Migrate_l1 tn m l (f+1) xs _=_
   rw[F.R18_Migrate_l1,if_neg (by omega),hp,List.take_length])
  (fun f xs k x hx hk2 hp ih=>by
   show F.R18_Migrate_l1 tn m l (f+1) xs _=_
   have hxE:=hE x (List.mem_of_getElem? hx)
   have hn:=mv_num hm hxE
   have hq: ∀e,e∈(l.take k).map (mvE tn m)→0≤num e∧num e≤Ent.cap (oneK tn):=fun e he=>by
    obtain⟨z,hz,rfl⟩:=List.mem_map.1 he
    exact mv_num hm (hE z (List.mem_of_mem_take hz))
   have hlen:=foldP_len (oneK tn) ((l.take k).map (mvE tn m)) []
   rw[List.length_map,List.length_take]at hlen
   simp only[List.length_nil]at hlen
   rw[F.R18_Migrate_l1,if_pos (by omega),A.ixn hx,Option.bind_some]
   show(F.R18_moved tn m x).bind _=_
   rw[R18_moved_eq tn m x hm hxE hs,Option.bind_some]
   show(F.R18_put xs (mvE tn m x) (oneK tn)).bind _=_
   rw[hp,put_eq _ _ _ (by omega) (foldP_nil _ hq).1 hn.1 hn.2,Option.bind_some,A.gd1 ⟨by omega,by omega⟩]
   refine ih _ ?_
   rw[List.take_add_one,hx]
   simp only[Option.toList_some,List.map_append,List.map_cons,List.map_nil]
   rw[foldP_snoc])
  (by have:=FU_big;omega) [] rfl
 exact this
end Go.Proofs.YtfpemeeadiigcaaDoor
end
section
set_option maxRecDepth 20000
set_option linter.unusedVariables false
set_option linter.unusedSimpArgs false
namespace Go.Proofs.YtfpemeeadiigcaaDoor
open Go.RowKit Go.Graph Go.Utf Go.Ent
theorem begun_eq:F.L18_begun=some true:=by kernel_rfl
def finN:Int→List En→Int
 |y,[]=>y
 |y,x::r=>finN (min (y+min (x.2.2.1.size:Int) 1048576) 1048576) r
theorem few_ok (l:List En)(hl:l.length≤maxLen): ∃b,F.L18_few l=some b∧(b=true→l.length≤200):=by
 have hl':l.length≤9223372036854775807:=by simpa[maxLen] using hl
 have hm:(min (l.length:Int) 300).toNat≤l.length:=by omega
 refine⟨bif decide ((l.length:Int)≤200)then decide (finN 0 (List.take (min (l.length:Int) 300).toNat l)≤9000)else false,?_,fun h=>?_⟩
 ·have:=A.lp (List.take (min (l.length:Int) 300).toNat l) (fun f (y:Int) k=>F.L18_few_l1 l f y k) (fun _ r y=>some (bif decide ((l.length:Int)≤200)then decide (finN y r≤9000)else false)) (fun _ y=>0≤y∧y≤1048576)
   (fun f y hp=>by
    show F.L18_few_l1 l (f+1) y _=_
    rw[F.L18_few_l1,if_neg (by omega)];rfl)
   (fun f y k x hx hk hp ih=>by
    show F.L18_few_l1 l (f+1) y _=_
    have h2:k<300:=by rw[List.length_take]at hk;omega
    have hn:(0:Int)≤(x.2.2.1.size:Int):=by omega
    rw[F.L18_few_l1,if_pos (by omega),A.ixn hx,Option.bind_some,A.gd1 ⟨by omega,by omega⟩,A.gd1 ⟨by omega,by omega⟩]
    exact ih _ ⟨by omega,by omega⟩)
   (by have:=FU_big;rw[List.length_take];omega) 0 ⟨by omega,by omega⟩
  rw[F.L18_few,A.gd1 ⟨by omega,hm⟩]
  exact this
 ·by_cases h2:(l.length:Int)≤200
  ·omega
  ·rw[decide_eq_false h2]at h;cases h
theorem hasK_of {l:List En}(h:(Z.Ty.slice T38).ok l): ∀e,e∈l→hasK (key e):=fun e he=>by
 have:=h.2 e he
 exact⟨this.1,this.2.1,this.2.2.1⟩
theorem schemaMoves_plain (a0:Nd)(a1:Mv)(a2:List En)(h0:T25.ok a0)(h1:T27.ok a1)(h2:(Z.Ty.slice T38).ok a2):F.L18_SchemaMoves a0 a1 a2=some true:=by
 have hb: ∀y,y=true→F.L18_SchemaMoves_j2 a0 a1 a2 y=some true:=fun y hy=>by rw[F.L18_SchemaMoves_j2,if_pos hy,begun_eq];rfl
 obtain⟨b,hf,hfl⟩:=few_ok a2 h2.1
 rw[F.L18_SchemaMoves,begun_eq,Option.bind_some,if_neg (by simp),hf,Option.bind_some]
 cases b with
 |false=>exact hb _ rfl
 |true=>
  by_cases hS:(3000:Int)<(a1.2.2.2.2.2.2.size:Int)
  ·exact hb _ (by rw[decide_eq_true hS];rfl)
  ·have hl:=hfl rfl
   rw[decide_eq_false hS]
   show F.L18_SchemaMoves_j2 a0 a1 a2 false=_
   rw[F.L18_SchemaMoves_j2,if_neg (by simp),Clone_eq _ (by omega),Option.bind_some]
   show(F.schema_Migrate a0 a1 a2).bind _=_
   rw[Migrate_eq a0 a1 a2 (by omega) (by omega) h0.1 (hasK_of h2),Option.bind_some]
   show(F.R18_Migrate a0 a1 a2).bind _=_
   rw[R18_Migrate_eq a0 a1 a2 (by omega) (by omega),Option.bind_some]
   have hlen:(migP a0 a1 a2).1.length≤200:=by
    unfold migP
    split
    ·simp
    ·(split)
     ·simp
     ·(split)
      ·have:=foldP_len (oneK a0) (a2.map (mvE a0 a1)) []
       rw[List.length_map]at this
       simp only[List.length_nil]at this
       show(foldP _ _ _).length≤200
       omega
      ·simp
   rw[Same_eq _ _ (by omega),Option.bind_some,decide_eq_true rfl,decide_eq_true rfl]
   rw[if_pos (show(bif true then true else false)=true from rfl),Equal_eq _ _ (by omega),Option.bind_some,decide_eq_true rfl];rfl
end Go.Proofs.YtfpemeeadiigcaaDoor
end
section
namespace Go.Z
open Go.RowKit
def OpenT (P:Program)(T:TypeId)(t:Ty):Prop:=
 P.cellsOf T=t.size∧∀(H:Type) (enc:TypeId×Value→H) (w:World) (base:Nat) (spare:Nat→Bool) (held:Bool) (fuel:Nat) (cs:List Value) (x:DataW H×List MemPlace),
  DataW.trod enc P w base spare held fuel T cs=some x→∃y:t.den,t.rep w (nt []) cs y
section
variable {P:Program}{T e:TypeId}
theorem ot_int {k:IntKind}(hc:P.cellsOf T=1)(ht:P.underlying T=some (.int k)):OpenT P T (.int k):=⟨hc,fun H enc w base spare held fuel cs x h=>by
 obtain⟨n,rfl,_,hw⟩:=DataW.trod_int ht h
 refine⟨n,rfl,?_⟩
 simp only[Lit.wf,Bool.and_eq_true,decide_eq_true_eq]at hw
 exact hw⟩
theorem ot_str (hc:P.cellsOf T=1)(ht:P.underlying T=some .string):OpenT P T .str:=⟨hc,fun H enc w base spare held fuel cs x h=>by
 obtain⟨s,rfl,_,hs⟩:=DataW.trod_string ht h
 exact⟨s,rfl,hs⟩⟩
def OpenPs (P:Program):List (TypeId×Nat)→Nat→Ty→Prop
 | [],_,_=>False
 | [(T,o')],o,t=>o'=o∧OpenT P T t
 |(T,o')::p::ps,o,.pair a b=>o'=o∧OpenT P T a∧OpenPs P (p::ps) (o+a.size) b
 |_::_::_,_,_=>False
theorem open_ps {H:Type}{enc:TypeId×Value→H}{w:World}{base:Nat}{spare:Nat→Bool}{held:Bool}{fuel:Nat}{cs:List Value}:
  ∀(ps:List (TypeId×Nat)) (o:Nat) (t:Ty),OpenPs P ps o t→(∀p∈ps,∃x,DataW.trod enc P w base spare held fuel p.1 ((cs.drop p.2).take (P.cellsOf p.1))=some x)→∃y:t.den,t.rep w (nt []) ((cs.drop o).take t.size) y
 | [],_,_,h,_=>h.elim
 | [(T,o')],o,t,h,hx=>by
  obtain⟨rfl,⟨hc,ho⟩⟩:=h
  obtain⟨x,hx⟩:=hx (T,o') (List.mem_singleton.2 rfl)
  rw[←hc];exact ho _ _ _ _ _ _ _ _ _ hx
 |(T,o')::p::ps,o,.pair a b,h,hx=>by
  obtain⟨rfl,⟨hc,ho⟩,hr⟩:=h
  obtain⟨x,h1⟩:=hx (T,o') (List.mem_cons_self ..)
  obtain⟨ya,hya⟩:=ho _ _ _ _ _ _ _ _ _ h1
  obtain⟨yb,hyb⟩:=open_ps (p::ps) _ b hr fun q hq=>hx q (List.mem_cons_of_mem _ hq)
  refine⟨(ya,yb),_,_,?_,hya,hyb⟩
  show(cs.drop o').take (a.size+b.size)=_
  rw[hc,List.take_add,List.drop_drop]
 |_::_::_,_,.int _,h,_=>h.elim
 |_::_::_,_,.byte,h,_=>h.elim
 |_::_::_,_,.bool,h,_=>h.elim
 |_::_::_,_,.str,h,_=>h.elim
 |_::_::_,_,.slice _,h,_=>h.elim
theorem ot_struct {fs:List Field}{t:Ty}(hc:P.cellsOf T=t.size)(ht:P.underlying T=some (.struct fs.toArray))(h:OpenPs P (fs.map fun f=>(f.type,f.offset)) 0 t):OpenT P T t:=⟨hc,fun H enc w base spare held fuel cs x hx=>by
 obtain⟨xs,n,_,_,hl,hs,hf⟩:=DataW.trod_struct ht hx
 have hcs:cs=(cs.drop 0).take t.size:=by rw[List.drop_zero,List.take_of_length_le (by omega)]
 rw[hcs]
 refine open_ps (fuel:=n) (enc:=enc) (base:=base) (spare:=spare) (held:=held) _ 0 t h fun p hp=>?_
 obtain⟨f,hf1,rfl⟩:=List.mem_map.1 hp
 obtain⟨i,hi,he⟩:=List.getElem_of_mem hf1
 have h1:=hf i f (by rw[List.getElem?_toArray,List.getElem?_eq_getElem hi,he])
 rw[h1,List.getElem?_eq_getElem (by rw[hs];simpa using hi)]
 exact⟨_,rfl⟩⟩
theorem rows_of {t:Ty}{w:World}{g:Addr}: ∀(n:Nat),(∀i,i<n→∃(cs:List Value) (y:t.den),cs.length=t.size∧(∀j u,cs[j]?=some u→w.cell? (g.add (i*t.size+j))=some u)∧t.rep w (nt []) cs y)→
  ∃(cells:List Value) (ys:List t.den),ys.length=n∧cells.length=n*t.size∧(∀j u,cells[j]?=some u→w.cell? (g.add j)=some u)∧∀(i:Nat) (y:t.den),ys[i]?=some y→t.rep w (nt []) ((cells.drop (i*t.size)).take t.size) y
 |0,_=>⟨[],[],rfl,by simp,by simp,by simp⟩
 |n+1,h=>by
  obtain⟨cells,ys,h1,h2,h3,h4⟩:=rows_of n fun i hi=>h i (by omega)
  obtain⟨cs,y,c1,c2,c3⟩:=h n (by omega)
  refine⟨cells++cs,ys++[y],by simp[h1],by rw[List.length_append,h2,c1,Nat.succ_mul],fun j u hj=>?_,?_⟩
  ·by_cases hlt:j<cells.length
   ·rw[List.getElem?_append_left hlt]at hj;exact h3 j u hj
   ·rw[List.getElem?_append_right (by omega)]at hj
    have:=c2 _ u hj
    rwa[h2,show n*t.size+(j-n*t.size)=j by omega]at this
  ·refine rep_append (xs:=ys) (ys:=[y]) (by rw[h2,h1]) h4 fun i y' hi=>?_
   have:i=0:=by have:=(List.getElem?_eq_some_iff.1 hi).1;simp at this;omega
   subst this
   simp at hi;subst hi
   rw[Nat.zero_mul,List.drop_zero,List.take_of_length_le (by omega)];exact c3
theorem ot_slice {t:Ty}(hc:P.cellsOf T=1)(ht:P.underlying T=some (.slice e))(h:OpenT P e t):OpenT P T (.slice t):=⟨hc,fun H enc w base spare held fuel cs x hx=>by
 rcases DataW.trod_slice ht hx with⟨rfl,_⟩|⟨ad,len,cap,elems,rest,n,_,rfl,_,hb,hl,hm,hlen,hel,_,_⟩
 ·exact⟨[],rep_nil _⟩
 ·have each: ∀i,i<len→∃(cs:List Value) (y:t.den),cs.length=t.size∧(∀j u,cs[j]?=some u→w.cell? (ad.add (i*t.size+j))=some u)∧t.rep w (nt []) cs y:=fun i hi=>by
   have h1:=hel i hi
   rw[List.getElem?_eq_getElem (by omega),Option.bind_eq_some_iff]at h1
   obtain⟨cs',h2,h3⟩:=h1
   obtain⟨_,h4,h5⟩:=World.cells?_some h2
   obtain⟨y,hy⟩:=h.2 _ _ _ _ _ _ _ _ _ h3
   rw[h.1]at h4 h5
   refine⟨cs',y,h4,fun j u hj=>?_,hy⟩
   have hlt:=(List.getElem?_eq_some_iff.1 hj).1
   have:=h5 j (by omega)
   rw[add_add]at this
   rw[this,hj]
  obtain⟨cells,ys,h1,h2,h3,h4⟩:=rows_of len each
  by_cases hz:len=0
  ·subst hz
   have:ys=[]:=List.eq_nil_of_length_eq_zero h1
   subst this
   exact⟨[],some ad,cap,[],rfl,by simp,hm,by simp,.inl rfl,by simp⟩
  ·have hp:=pos_size t
   have hlt:0<cells.length:=by rw[h2];exact Nat.mul_pos (by omega) hp
   have h0:=h3 0 _ (List.getElem?_eq_getElem hlt)
   have hspot:=World.cell?_spot h0
   obtain⟨b,off,spot⟩:=ad
   simp only[Addr.add]at hspot
   subst hspot
   refine⟨ys,some ⟨b,off,none⟩,cap,cells,by rw[h1],by omega,hm,by rw[h1];exact h2,.inr ⟨b,off,rfl,by simp[nt],fun j u hj=>?_⟩,h4⟩
   have:=h3 j u hj
   rwa[Addr.add_lit]at this⟩
end
end Go.Z
end
section
namespace Go.Proofs.YtfpemeeadiigcaaDoor.schemaMovesDone
open Go.ChangeShapes Go.WideShapes Go.ChangeAt Go.RowKit
set_option linter.unusedVariables false
theorem own:ownKnob Tryd.prog.godebug=none:=by kernel_rfl
theorem laidOut:laidOutB Tryd.prog=true:=by kernel_rfl
theorem ot3:Z.OpenT Tryd.prog 3 (Z.Ty.int .i64):=Z.ot_int (by kernel_rfl) Tryd.underlying3
theorem ot22:Z.OpenT Tryd.prog 22 (Z.Ty.slice (Z.Ty.int .i64)):=Z.ot_slice (by kernel_rfl) Tryd.underlying22 ot3
theorem ot2:Z.OpenT Tryd.prog 2 (Z.Ty.int .i64):=Z.ot_int (by kernel_rfl) Tryd.underlying2
theorem ot9:Z.OpenT Tryd.prog 9 Z.Ty.str:=Z.ot_str (by kernel_rfl) Tryd.underlying9
theorem ot24:Z.OpenT Tryd.prog 24 T23:=Z.ot_struct (by kernel_rfl) Tryd.underlying24 ⟨rfl,ot3,rfl,ot2,rfl,ot9⟩
theorem ot26:Z.OpenT Tryd.prog 26 T25:=Z.ot_struct (by kernel_rfl) Tryd.underlying26 ⟨rfl,ot3,rfl,ot3,rfl,ot22,rfl,ot24,rfl,ot9,rfl,ot2,rfl,ot3⟩
theorem ot28:Z.OpenT Tryd.prog 28 T27:=Z.ot_struct (by kernel_rfl) Tryd.underlying28 ⟨rfl,ot3,rfl,ot3,rfl,ot3,rfl,ot2,rfl,ot24⟩
theorem ot39:Z.OpenT Tryd.prog 39 T38:=Z.ot_struct (by kernel_rfl) Tryd.underlying39 ⟨rfl,ot3,rfl,ot2,rfl,ot9,rfl,ot2⟩
theorem ot29:Z.OpenT Tryd.prog 29 (Z.Ty.slice T38):=Z.ot_slice (by kernel_rfl) Tryd.underlying29 ot39
set_option maxRecDepth 100000 in
theorem laid_met (os:Os)(args:Array Value):laidMetH Tryd.prog Rows.schemaMovesRow.laid (({World.holding Tryd.prog os ⟨#[],#[],[]⟩with heap:=((World.holding Tryd.prog os ⟨#[],#[],[]⟩).heap.modify 0 (A.putCells A.tabF)).modify 1 (A.putCells A.tabA)}:World).forCall (fun _ _=>0) ⟨#[],args,[]⟩).memory:=by
 rw[MakeChecks.laidMetH_plain _ _ _ (by kernel_rfl)]
 exact(LaidIn.of_run (l:=Rows.schemaMovesRow.laid) [1,0] 8 (by kernel_rfl) (by kernel_rfl) (by kernel_rfl) (by kernel_rfl)).met
theorem of_laid {W:World}(h:laidMetH Tryd.prog Rows.schemaMovesRow.laid W):Lib.Utf8Tabs 0 1 W:=by
 rw[MakeChecks.laidMetH_plain _ _ _ (by kernel_rfl)]at h
 have h1:=Lib.laidMet.reads h (.tail _ (.head _))
 rw[show Rows.laid_unicode_utf8_first=Lib.firstData from Pinned.utf8First_eq]at h1
 have h2:=Lib.laidMet.reads h (.head _)
 rw[show(Rows.laid_unicode_utf8_acceptRanges:DataW Unit)=Lib.acceptData by kernel_rfl]at h2
 exact utf8Tabs_of_readsT (U8Types.of196 Tryd.laysValid) ⟨by kernel_rfl,by kernel_rfl,by kernel_rfl,by kernel_rfl,by kernel_rfl,by kernel_rfl,by kernel_rfl⟩ h1 h2
set_option maxHeartbeats 1000000 in
set_option maxRecDepth 100000 in
theorem lifted (os:Os)(started:os.Started)(H:Type)(enc:TypeId×Value→H):
  ReturnsInHanded {} Tryd.checked os 5 .any (fun w args=>(Rows.schemaMovesSpec.pre enc Tryd.prog Tryd.f5 [] false w args∧laidMetH Tryd.prog Rows.schemaMovesRow.laid w)∧sizedMet enc Tryd.prog Tryd.f5 (OpenSpec.ofChange Rows.schemaMovesSpec) false w args) (Rows.schemaMovesSpec.post enc Tryd.prog Tryd.f5 false true false false):=by
 refine returnsInHanded_of_change_and (C:=Tryd.checked) (X:=fun w _=>laidMetH Tryd.prog Rows.schemaMovesRow.laid w) (fun _ _ _ hh h=>h.of_heap hh) own started (by kernel_rfl) Tryd.func5
  (ChangeSpec.witness_shaped (enc:=enc) (C:=Tryd.checked) (os:=os) (X:=fun w _=>laidMetH Tryd.prog Rows.schemaMovesRow.laid w) false ({World.holding Tryd.prog os ⟨#[],#[],[]⟩with heap:=((World.holding Tryd.prog os ⟨#[],#[],[]⟩).heap.modify 0 (A.putCells A.tabF)).modify 1 (A.putCells A.tabA)}) #[.agg #[.int .i64 0,.int .i64 0,.slice none 0 0,.int .i64 0,.int .i64 0,.string (ByteArray.mk #[]),.string (ByteArray.mk #[]),.int .i64 0,.int .i64 0],.agg #[.int .i64 0,.int .i64 0,.int .i64 0,.int .i64 0,.int .i64 0,.int .i64 0,.string (ByteArray.mk #[])],.slice none 0 0] 16 rfl (World.shaped_of_RefB (by kernel_rfl) (by kernel_rfl)) (by kernel_rfl) (by kernel_rfl) (by kernel_rfl) (laid_met os _)) ?_
 intro W base args ds gs before hval0 hW hcnd hsz0 hL _
 have hval: ∀(j:Nat) t v,Tryd.f5.params[j]?=some t→args[j]?=some v→Value.okWide Tryd.prog W .any base t v:=hval0
 have hW':=hW
 obtain⟨p,q,hA0,hV,rfl,hfz,hnd⟩:=hW
 have hA:DataW.TrodAll enc Tryd.prog W 0 (fun _=>true) true Tryd.f5.params.toList args.toList ds p:=hA0
 rw[Tryd.params5]at hA hval
 obtain⟨v0,vs0,d0,ds0,p0,q0,hargs,rfl,rfl,h0,r0⟩:=trodAll_cons hA
 obtain⟨v1,vs1,d1,ds1,p1,q1,rfl,rfl,rfl,h1,r1⟩:=trodAll_cons r0
 obtain⟨v2,vs2,d2,ds2,p2,q2,rfl,rfl,rfl,h2,r2⟩:=trodAll_cons r1
 obtain⟨rfl,rfl,rfl⟩:=trodAll_nil r2
 obtain rfl:args=#[v0,v1,v2]:=by cases args;simp_all
 obtain⟨rfl,rfl⟩:=trodVars_none hV
 have k0:=h0
 have lt0: ∀x∈p0,x.block<W.heap.size:=by obtain⟨m,hm⟩:=k0;exact DataW.trod_lt m _ _ _ hm
 obtain⟨fu0,hf0⟩:=h0
 obtain⟨x0,hx0⟩:=ot26.2 _ _ _ _ _ _ _ _ _ hf0
 obtain⟨cs0,rfl,_⟩:=okWide_struct Tryd.underlying26 (hval 0 26 v0 rfl rfl)
 replace hx0:T25.rep W (Z.nt []) cs0.toList x0:=hx0
 have hok0:=Z.rep_ok _ hx0
 obtain⟨ca1,cb2,he3,hr4,hr5⟩:=hx0
 have he6:=hr4.1
 obtain⟨ca7,cb8,he9,hr10,hr11⟩:=hr5
 have he12:=hr10.1
 obtain⟨ca13,cb14,he15,hr16,hr17⟩:=hr11
 obtain⟨A18,c19,he20,hn21,hn22⟩:=Z.rep_slice hr16
 rw[he20]at hr16
 have hle_A18:=Z.rep_le hr16
 obtain⟨ca23,cb24,he25,hr26,hr27⟩:=hr17
 obtain⟨ca28,cb29,he30,hr31,hr32⟩:=hr26
 have he33:=hr31.1
 obtain⟨ca34,cb35,he36,hr37,hr38⟩:=hr32
 have he39:=hr37.1
 have he40:=hr38.1
 obtain⟨ca41,cb42,he43,hr44,hr45⟩:=hr27
 have he46:=hr44.1
 obtain⟨ca47,cb48,he49,hr50,hr51⟩:=hr45
 have he52:=hr50.1
 have he53:=hr51.1
 have he0:cs0.toList=[.int .i64 x0.1,.int .i64 x0.2.1,.slice A18 x0.2.2.1.length c19,.int .i64 x0.2.2.2.1.1,.int .i64 x0.2.2.2.1.2.1,.string x0.2.2.2.1.2.2,.string x0.2.2.2.2.1,.int .i64 x0.2.2.2.2.2.1,.int .i64 x0.2.2.2.2.2.2]:=by simp only[he3,he6,he9,he12,he15,he20,he25,he30,he33,he36,he39,he40,he43,he46,he49,he52,he53,List.cons_append,List.nil_append]
 obtain rfl:cs0=#[.int .i64 x0.1,.int .i64 x0.2.1,.slice A18 x0.2.2.1.length c19,.int .i64 x0.2.2.2.1.1,.int .i64 x0.2.2.2.1.2.1,.string x0.2.2.2.1.2.2,.string x0.2.2.2.2.1,.int .i64 x0.2.2.2.2.2.1,.int .i64 x0.2.2.2.2.2.2]:=by rw[←Array.toArray_toList (xs:=cs0),he0]
 have k1:=h1
 have lt1: ∀x∈p1,x.block<W.heap.size:=by obtain⟨m,hm⟩:=k1;exact DataW.trod_lt m _ _ _ hm
 obtain⟨fu1,hf1⟩:=h1
 obtain⟨x1,hx1⟩:=ot28.2 _ _ _ _ _ _ _ _ _ hf1
 obtain⟨cs1,rfl,_⟩:=okWide_struct Tryd.underlying28 (hval 1 28 v1 rfl rfl)
 replace hx1:T27.rep W (Z.nt []) cs1.toList x1:=hx1
 have hok1:=Z.rep_ok _ hx1
 obtain⟨ca54,cb55,he56,hr57,hr58⟩:=hx1
 have he59:=hr57.1
 obtain⟨ca60,cb61,he62,hr63,hr64⟩:=hr58
 have he65:=hr63.1
 obtain⟨ca66,cb67,he68,hr69,hr70⟩:=hr64
 have he71:=hr69.1
 obtain⟨ca72,cb73,he74,hr75,hr76⟩:=hr70
 have he77:=hr75.1
 obtain⟨ca78,cb79,he80,hr81,hr82⟩:=hr76
 have he83:=hr81.1
 obtain⟨ca84,cb85,he86,hr87,hr88⟩:=hr82
 have he89:=hr87.1
 have he90:=hr88.1
 have he1:cs1.toList=[.int .i64 x1.1,.int .i64 x1.2.1,.int .i64 x1.2.2.1,.int .i64 x1.2.2.2.1,.int .i64 x1.2.2.2.2.1,.int .i64 x1.2.2.2.2.2.1,.string x1.2.2.2.2.2.2]:=by simp only[he56,he59,he62,he65,he68,he71,he74,he77,he80,he83,he86,he89,he90,List.cons_append,List.nil_append]
 obtain rfl:cs1=#[.int .i64 x1.1,.int .i64 x1.2.1,.int .i64 x1.2.2.1,.int .i64 x1.2.2.2.1,.int .i64 x1.2.2.2.2.1,.int .i64 x1.2.2.2.2.2.1,.string x1.2.2.2.2.2.2]:=by rw[←Array.toArray_toList (xs:=cs1),he1]
 have k2:=h2
 have lt2: ∀x∈p2,x.block<W.heap.size:=by obtain⟨m,hm⟩:=k2;exact DataW.trod_lt m _ _ _ hm
 obtain⟨fu2,hf2⟩:=h2
 obtain⟨x2,hx2⟩:=ot29.2 _ _ _ _ _ _ _ _ _ hf2
 obtain⟨a2,n2,c2,rfl⟩:=okWide_slice Tryd.underlying29 (hval 2 29 v2 rfl rfl)
 replace hx2:(Z.Ty.slice T38).rep W (Z.nt []) [.slice a2 n2 c2] x2:=hx2
 have hn2:=(Z.rep_slice_len hx2).1
 subst hn2
 clear hA0 hval0
 have htab:=of_laid hL
 have hF:F.L18_SchemaMoves x0 x1 x2=some true:=schemaMoves_plain x0 x1 x2 hok0 hok1 (Z.rep_ok _ hx2)
 have hct:=L18_SchemaMoves_ok x0 x1 x2 A18 c19 a2 c2 hok0.1 hok0.2.1 hok0.2.2.2.1.1 hok0.2.2.2.1.2.1 hok0.2.2.2.1.2.2 hok0.2.2.2.2.1 hok0.2.2.2.2.2.1 hok0.2.2.2.2.2.2 hok1.1 hok1.2.1 hok1.2.2.1 hok1.2.2.2.1 hok1.2.2.2.2.1 hok1.2.2.2.2.2.1 hok1.2.2.2.2.2.2 true hF
 refine(hct W (fun _=>True) (A.Hp.start ⟨A.Hall.sh hr16,A.Hall.sh hx2,A.Hall.tabs htab⟩)).mono ?_
 rintro e W' ⟨v,H',rfl,⟨rfl,rfl⟩,hh⟩
 have bel:=hh.ch.below
 exact⟨_,rfl,_,_,_,[],_,[],hW',trodAll_mk1 (shut_bool Tryd.underlying4 _),(trodAll_cons_mk (Below.trod laidOut (by kernel_rfl) (of_decide_eq_true (by kernel_rfl)) k0 bel lt0) (trodAll_cons_mk (Below.trod laidOut (by kernel_rfl) (of_decide_eq_true (by kernel_rfl)) k1 bel lt1) (trodAll_cons_mk (Below.trod laidOut (by kernel_rfl) (of_decide_eq_true (by kernel_rfl)) k2 bel lt2) trodAll_mk0))),rfl,bel.frame _,fun h=>by cases h⟩
theorem over:Rows.schemaMovesRow.holds Tryd.pinned (OpenSpec.ofChange Rows.schemaMovesSpec):=
 OpenClaim.holds_of_wide 5 Tryd.f5 rfl rfl rfl rfl rfl rfl rfl ⟨rfl,rfl,rfl,rfl,rfl⟩ rfl rfl rfl rfl rfl (by kernel_rfl) Tryd.func5 (by kernel_rfl)
  (of_decide_eq_true (by kernel_rfl)) (by unfold Func.isWrapper;first|(rw[if_pos (by decide+kernel)];kernel_rfl)|(rw[if_neg (by decide+kernel)];exact⟨rfl,rfl⟩))
  (fun os started H enc _=>lifted os started H enc)
theorem proved:Rows.SchemaMovesCardSaid:=
 Claim7.holds_tied_plain_at .later [] [.data,.pinned] true (true,"fa8acff36a242ea293fc14af267c9e684e8a4838917daf524b7bf8516b765854") false
  over (fun _ h=>by cases h) (by kernel_rfl) (fun _ h=>by cases h) schemaMoves_row_tie rfl ⟨rfl,rfl⟩ (by kernel_rfl) rfl
  (fun f fn hf hfn=>by
   obtain rfl:f=5:=Option.some.inj ((show Tryd.prog.funcNamed Rows.schemaMovesRow.func=some 5 by kernel_rfl).symm.trans hf) |>.symm
   obtain rfl:fn=Tryd.f5:=(Option.some.inj (Tryd.func5.symm.trans hfn)).symm
   exact⟨by kernel_rfl,fun j t ht=>by
    rw[Tryd.params5]at ht
    have hm:t∈[26,28,29]:=by simpa using Array.mem_of_getElem? ht
    have hall:([26,28,29].all fun u=> !Tryd.prog.wantsStandIn u)=true:=by kernel_rfl
    exact(show Tryd.prog.wantsStandIn t=false by simpa using List.all_eq_true.1 hall t hm)⟩)
  (by kernel_rfl)
#print axioms proved
end Go.Proofs.YtfpemeeadiigcaaDoor.schemaMovesDone
end
