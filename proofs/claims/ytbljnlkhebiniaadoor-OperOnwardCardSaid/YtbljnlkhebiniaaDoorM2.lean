/- A layer over the small logic, continued: slices.SortFunc of a row of data without rows, by the library's contract. No program in sight. * A layer over the small logic, continued: numbers that stay in their range; strings in their order. No program in sight. * How slices.SortFunc lies in the program. * Functions on data, and that the code computes them. * A layer over the small logic, continued: array variables as rows of their own. No program in sight. * A layer over the small logic, continued: texts put together, texts as bytes, bytes and runes as texts. No program in sight. * A layer over the small logic, continued: arrays in memory: writes at an index that varies, slices of them, their bytes as a text. No program in sight. * A layer over the small logic, continued: iterators that keep a block of their own from yield to yield. No program in sight. -/
import Derived.Test.YtbljnlkhebiniaaDoorM1
import Derived.Shelf.SlSortCmp.NoneTotal
import Derived.Lib.TrimU
import Derived.Shelf.Small.Strs
import Derived.Test.YtbljnlkhebiniaaDoorM0
import Derived.Laws.IdiomStrings
import Derived.Laws.Cover4
section
set_option linter.unusedVariables false
set_option linter.unusedSimpArgs false
namespace Go.A
open Go.RowKit Go.Z Go.Shelf Go.Proofs Go.Sort
section
variable {α:Type}
def cl0 (cmp:α→α→Option Int)(x y:α):Bool:=match cmp x y with
 |some c=>decide (c<0)
 |none=>false
def srtI (lt:α→α→Bool)(x:α):List α→List α
 | []=>[x]
 |y::l=>bif lt y x then y::srtI lt x l else x::y::l
def srtL (lt:α→α→Bool):List α→List α
 | []=>[]
 |x::l=>srtI lt x (srtL lt l)
def ordB [DecidableEq α](cmp:α→α→Option Int)(xs:List α):Bool:=xs.all fun x=>xs.all fun y=>(cmp x y).isSome&&(bif cl0 cmp x y then !cl0 cmp y x else cl0 cmp y x||decide (x=y))&&xs.all fun z=> !(cl0 cmp x y&&cl0 cmp y z)||cl0 cmp x z
def srtF [DecidableEq α](cmp:α→α→Option Int)(xs:List α):Option (List α):=if ordB cmp xs=true then some (srtL (cl0 cmp) xs)else none
structure OrdOn (lt:α→α→Bool) (X:List α):Prop where
 asym: ∀x∈X,∀y∈X,lt x y=true→lt y x=false
 tri: ∀x∈X,∀y∈X,lt x y=false→lt y x=false→x=y
 trans: ∀x∈X,∀y∈X,∀z∈X,lt x y=true→lt y z=true→lt x z=true
theorem OrdOn.nt {lt:α→α→Bool}{X:List α}(O:OrdOn lt X){x y z:α}(hx:x∈X)(hy:y∈X)(hz:z∈X)(h1:lt x y=false)(h2:lt y z=false):lt x z=false:=by
 cases h3:lt x z with
 |false=>rfl
 |true=>
  cases h4:lt y x with
  |true=>rw[O.trans y hy x hx z hz h4 h3]at h2;cases h2
  |false=>
   have:=O.tri x hx y hy h1 h4
   subst this;rw[h3]at h2;cases h2
theorem ordB_on [DecidableEq α]{cmp:α→α→Option Int}{xs:List α}(h:ordB cmp xs=true):OrdOn (cl0 cmp) xs∧∀x∈xs,∀y∈xs,∃c,cmp x y=some c:=by
 unfold ordB at h
 have key: ∀x∈xs,∀y∈xs,((cmp x y).isSome=true∧(bif cl0 cmp x y then !cl0 cmp y x else cl0 cmp y x||decide (x=y))=true)∧∀z∈xs,(!(cl0 cmp x y&&cl0 cmp y z)||cl0 cmp x z)=true:=fun x hx y hy=>by
  have:=List.all_eq_true.1 (List.all_eq_true.1 h x hx) y hy
  rw[Bool.and_eq_true,Bool.and_eq_true,List.all_eq_true]at this
  exact this
 refine⟨⟨fun x hx y hy h1=>?_,fun x hx y hy h1 h2=>?_,fun x hx y hy z hz h1 h2=>?_⟩,fun x hx y hy=>Option.isSome_iff_exists.1 (key x hx y hy).1.1⟩
 ·have:=(key x hx y hy).1.2
  rw[h1,cond_true,Bool.not_eq_true']at this;exact this
 ·have:=(key x hx y hy).1.2
  rw[h1,h2,cond_false,Bool.false_or,decide_eq_true_iff]at this;exact this
 ·have:=(key x hx y hy).2 z hz
  rw[h1,h2]at this;exact this
theorem srtI_perm (lt:α→α→Bool)(x:α): ∀l:List α,(srtI lt x l).Perm (x::l)
 | []=>List.Perm.refl _
 |y::l=>by
  unfold srtI
  cases lt y x with
  |true=>exact((srtI_perm lt x l).cons y).trans (List.Perm.swap x y l)
  |false=>exact List.Perm.refl _
theorem srtL_perm (lt:α→α→Bool): ∀l:List α,(srtL lt l).Perm l
 | []=>List.Perm.refl _
 |x::l=>(srtI_perm lt x _).trans ((srtL_perm lt l).cons x)
theorem srtI_pw {lt:α→α→Bool}{X:List α}(O:OrdOn lt X){x:α}(hx:x∈X): ∀l:List α,(∀a∈l,a∈X)→l.Pairwise (fun a b=>lt b a=false)→(srtI lt x l).Pairwise (fun a b=>lt b a=false)
 | [],_,_=>List.pairwise_singleton ..
 |y::l,hl,hp=>by
  have hy:=hl y (List.mem_cons_self ..)
  have hl2: ∀a∈l,a∈X:=fun a ha=>hl a (List.mem_cons_of_mem _ ha)
  rw[List.pairwise_cons]at hp
  unfold srtI
  cases h:lt y x with
  |true=>
   refine List.pairwise_cons.2 ⟨fun b hb=>?_,srtI_pw O hx l hl2 hp.2⟩
   rcases List.mem_cons.1 ((srtI_perm lt x l).mem_iff.1 hb)with rfl|hb
   ·exact O.asym y hy b hx h
   ·exact hp.1 b hb
  |false=>
   refine List.pairwise_cons.2 ⟨fun b hb=>?_,List.pairwise_cons.2 hp⟩
   rcases List.mem_cons.1 hb with rfl|hb
   ·exact h
   ·exact O.nt (hl2 b hb) hy hx (hp.1 b hb) h
theorem srtL_pw {lt:α→α→Bool}{X:List α}(O:OrdOn lt X): ∀l:List α,(∀a∈l,a∈X)→(srtL lt l).Pairwise (fun a b=>lt b a=false)
 | [],_=>List.Pairwise.nil
 |x::l,hl=>srtI_pw O (hl x (List.mem_cons_self ..)) _ (fun a ha=>hl a (List.mem_cons_of_mem _ ((srtL_perm lt l).mem_iff.1 ha))) (srtL_pw O l fun a ha=>hl a (List.mem_cons_of_mem _ ha))
theorem srt_uniq {lt:α→α→Bool}{xs ys:List α}(O:OrdOn lt xs)(hp:ys.Perm xs)(hs:ys.Pairwise (fun a b=>lt b a=false)):ys=srtL lt xs:=
 List.Perm.eq_of_pairwise (le:=fun a b=>lt b a=false) (fun a b ha hb h1 h2=>O.tri a (hp.mem_iff.1 ha) b ((srtL_perm lt xs).mem_iff.1 hb) h2 h1) hs (srtL_pw O xs fun a h=>h) (hp.trans (srtL_perm lt xs).symm)
end
theorem flat_lv: ∀{t:Ty},t.flat=true→lv t=0
 | .int _,_=>rfl
 | .byte,_=>rfl
 | .bool,_=>rfl
 | .str,_=>rfl
 | .slice _,h=>by cases h
 | .pair a b,h=>by
  simp only[Ty.flat,Bool.and_eq_true]at h
  show lv a+lv b=0
  rw[flat_lv h.1,flat_lv h.2]
theorem cl_len: ∀{t:Ty} (x:t.den) (ps:Lf),t.flat=true→(cl t x ps).length=t.size
 | .int _,_,_,_=>rfl
 | .byte,_,_,_=>rfl
 | .bool,_,_,_=>rfl
 | .str,_,_,_=>rfl
 | .slice _,_,_,h=>by cases h
 | .pair a b,x,ps,h=>by
  simp only[Ty.flat,Bool.and_eq_true]at h
  show(cl a x.1 _++cl b x.2 _).length=a.size+b.size
  rw[List.length_append,cl_len x.1 _ h.1,cl_len x.2 _ h.2]
theorem cl_one: ∀{t:Ty} (x:t.den) (ps:Lf),t.flat=true→∀v∈cl t x ps,v.oneCell'=true
 | .int _,_,_,_,v,hv=>by obtain rfl:=List.mem_singleton.1 hv;rfl
 | .byte,_,_,_,v,hv=>by obtain rfl:=List.mem_singleton.1 hv;rfl
 | .bool,_,_,_,v,hv=>by obtain rfl:=List.mem_singleton.1 hv;rfl
 | .str,_,_,_,v,hv=>by obtain rfl:=List.mem_singleton.1 hv;rfl
 | .slice _,_,_,h,_,_=>by cases h
 | .pair a b,x,ps,h,v,hv=>by
  simp only[Ty.flat,Bool.and_eq_true]at h
  rcases List.mem_append.1 (show v∈cl a x.1 _++cl b x.2 _ from hv)with hv|hv
  ·exact cl_one x.1 _ h.1 v hv
  ·exact cl_one x.2 _ h.2 v hv
theorem rep_cl0 {t:Ty}(ht:t.flat=true){w:World}{F:Nat→Prop}{cs:List Value}{x:t.den}(h:t.rep w F cs x):cs=cl t x []:=by
 obtain⟨ps,hp,hc,_⟩:=rep_cl (B:=fun _ _=>False) t h
 rw[flat_lv ht]at hp
 obtain rfl:=List.eq_nil_of_length_eq_zero hp
 exact hc
theorem ch_grow {W w':World}(h:Ch [] W w')(hd:W.drawn≤w'.drawn): ∃q os',w'=grow (W.drewN q) os':=by
 refine⟨w'.drawn-W.drawn,w'.heap.extract W.heap.size w'.heap.size,?_⟩
 obtain⟨h1,h2,h3,h4,h5⟩:=h
 obtain⟨heap',tape',drawn',os',output'⟩:=w'
 obtain⟨heap,tape,drawn,os,output⟩:=W
 simp only at h1 h2 h3 h4 h5 hd
 subst h1;subst h2;subst h3
 have e:heap'=heap++heap'.extract heap.size heap'.size:=by
  refine Array.ext_getElem? fun i=>?_
  by_cases hi:i<heap.size
  ·rw[h5 i hi (by simp),Array.getElem?_append_left hi]
  ·rw[Array.getElem?_append_right (by omega),Array.getElem?_extract]
   split
   ·congr 1;omega
   ·rw[Array.getElem?_eq_none (by omega)]
 show World.mk heap' tape' drawn' os' output'=World.mk (heap++heap'.extract heap.size heap'.size) tape' (drawn+(drawn'-drawn)) os' output'
 rw[←e,Nat.add_sub_cancel' hd]
theorem Hp.none (W:World)(F:Nat→Prop):Hp ⟨0,[],W,[],F⟩ [] W:=⟨Ch.refl _,fun k r h=>(by cases h),fun k b ⟨_,h,_⟩=>(by cases h),fun k k' b ⟨_,h,_⟩=>(by cases h),fun k r j h=>(by cases h)⟩
theorem Ct.cmp {P:Program}{g:Nat}{vs:List Value}{c:Int}{R:Value→List (Nat×Res)→Prop}(h:Ct P g vs [] [] R)(hR: ∀v H',R v H'→v=.int .i64 c)(W:World):Calls P g vs.toArray W fun e w'=>e=.returned (.int .i64 c)∧∃q os',w'=grow (W.drewN q) os':=
 (Dr.calls (h W (fun _=>False) (Hp.none W _))).mono fun e w' ⟨⟨v,H',he,hr,hh⟩,hd⟩=>⟨by rw[he,hR v H' hr],ch_grow hh.ch (hd v he)⟩
theorem flat_get {α:Type}[Inhabited α](enc:α→List Value)(k:Nat)(d:Array α){i j:Nat}{x:α}(hx:d[i]?=some x)(hj:j<k):i*k+j<d.size*k∧(flatK enc k d)[i*k+j]! =(enc x)[j]! :=by
 obtain⟨hi,he⟩:=Array.getElem?_eq_some_iff.1 hx
 have lt:i*k+j<d.size*k:=by
  have:=Nat.mul_le_mul_right k (show i+1≤d.size from hi);rw[Nat.add_mul,Nat.one_mul]at this;omega
 have e1:(i*k+j) / k=i:=(blk_iff k i _ (by omega)).1 ⟨by omega,by omega⟩
 have e2:(i*k+j)%k=j:=by rw[Nat.mod_eq_sub_div_mul,e1];omega
 refine⟨lt,?_⟩
 rw[get_flatK _ _ _ _ lt,e1,e2,getElem!_pos d i hi,he]
theorem lgetb {l:List Value}{j:Nat}(h:j<l.length):l[j]?=some l[j]! :=by rw[List.getElem?_eq_getElem h,getElem!_pos l j h]
theorem put_id (d:Array Value)(c:Array Value)(j:Nat):(putCells id 0 d c)[j]?=(c[j]?).map fun x=>if j<d.size then d[j]! else x:=by
 unfold putCells
 rw[Array.getElem?_mapIdx]
 congr 1;funext x
 simp
theorem Ct.sortF {P:Program}{ρ:Ren}{f:Nat}(L:SlLaysF0.n6 P ρ)(hf:ρ.f 6=f){t:Ty}[DecidableEq t.den]{e:TypeId}(ht:t.flat=true)
  (aE: ∀w,(isAgg (ρ.t 24)).run P w=.ok true w) (zE: ∀w,(Go.sizeOf (ρ.t 24)).run P w=.ok t.size w) (A:Option Addr) (c:Nat) (g:Nat) (cmp:t.den→t.den→Option Int)
  (eg: ∀args w,(callFunc g args).run P w=.ok (.enter g args) w)
  (hc: ∀x y r,t.ok x→t.ok y→cmp x y=some r→∃R,Ct P g [.agg (cl t x []).toArray,.agg (cl t y []).toArray] [] [] R∧∀v H',R v H'→v=.int .i64 r)
  (xs r:List t.den) (hm:xs.length<4611686018427387904) (hr:srtF cmp xs=some r):
  Ct P f [.slice A xs.length c,.func (.func g) #[] #[]] [(0,.own t e A c xs)] (obl A) (fun v H'=>v=.tuple #[]∧H'=[(0,.own t e A c r)]∧r.length=xs.length):=fun w F hh=>by
 subst hf
 obtain⟨hord,hr⟩:ordB cmp xs=true∧srtL (cl0 cmp) xs=r:=by
  unfold srtF at hr
  split at hr
  ·rename_i h;exact⟨h,Option.some.inj hr⟩
  ·cases hr
 obtain⟨O,tot⟩:=ordB_on hord
 have hlen:r.length=xs.length:=by rw[←hr];exact(srtL_perm (cl0 cmp) xs).length_eq
 obtain⟨cells,hrow,h1,h2⟩:Own t e 0 w (Fh ⟨0,[],w,obl A,F⟩ [(0,.own t e A c xs)]) A c xs:=hh.hold 0 _ rfl
 have hok: ∀x∈xs,t.ok x:=fun x hx=>by
  obtain⟨i,hi⟩:=List.getElem?_of_mem hx
  exact rep_ok t (h2 i x hi)
 by_cases hx0:xs=[]
 ·subst hx0
  obtain rfl:r=[]:=by rw[←hr];rfl
  refine(AnyF.slices_SortFunc_none L A c _ w).mono ?_
  rintro e' w' ⟨rfl,rfl⟩
  exact⟨_,_,rfl,⟨rfl,rfl,rfl⟩,hh⟩
 rcases hrow.2 with⟨hv,hn⟩|⟨b,cap,cur,hv,hb,hg,hnc,hcm,hcs,htake⟩
 ·exact absurd (List.eq_nil_of_length_eq_zero hn) hx0
 injection hv with hA _ hcap
 subst hA;subst hcap
 have hglt:b<w.heap.size:=(Array.getElem?_eq_some_iff.1 hg).1
 have hk:=pos_size t
 have hbound: ∀{n i j:Nat},i<n→j<t.size→i*t.size+j<n*t.size:=fun {n i j} hi hj=>by
  have:=Nat.mul_le_mul_right t.size (show i+1≤n from hi);rw[Nat.add_mul,Nat.one_mul]at this;omega
 have hcell: ∀i x,xs[i]?=some x→∀j,j<t.size→cur[i*t.size+j]?=(cl t x [])[j]?:=fun i x hx j hj=>by
  have h3:=rep_cl0 ht (h2 i x hx)
  have hi:=(List.getElem?_eq_some_iff.1 hx).1
  rw[←h3,List.getElem?_take_of_lt hj,List.getElem?_drop,←htake,List.getElem?_take,if_pos (hbound hi hj)]
  simp
 haveI:Inhabited {x // x∈xs}:=⟨⟨xs.head hx0,List.head_mem hx0⟩⟩
 let enc:{x // x∈xs}→List Value:=fun x=>cl t x.1 []
 have he: ∀x,(enc x).length=t.size:=fun x=>cl_len x.1 [] ht
 let cf:{x // x∈xs}→{x // x∈xs}→Int:=fun x y=>(cmp x.1 y.1).getD 0
 have hlt: ∀x y,ltOf cf x y=cl0 cmp x.1 y.1:=fun x y=>by
  obtain⟨c0,h0⟩:=tot x.1 x.2 y.1 y.2
  show decide ((cmp x.1 y.1).getD 0<0)=_
  unfold cl0;rw[h0];rfl
 have hO:SWO (ltOf cf):=by
  refine⟨fun x=>?_,fun x y z h3 h4=>?_,fun x y z h3 h4=>?_⟩
  ·rw[hlt]
   cases h3:cl0 cmp x.1 x.1 with
   |false=>rfl
   |true=>rw[O.asym _ x.2 _ x.2 h3]at h3;cases h3
  ·rw[hlt]at h3 h4 ⊢;exact O.trans _ x.2 _ y.2 _ z.2 h3 h4
  ·rw[hlt]at h3 h4 ⊢;exact O.nt x.2 y.2 z.2 h3 h4
 obtain⟨d,hd⟩: ∃d:Array {x // x∈xs},d=xs.attach.toArray:=⟨_,rfl⟩
 have hds:d.size=xs.length:=by rw[hd];simp
 have hdg: ∀(i:Nat) (x:{x // x∈xs}),d[i]?=some x→xs[i]?=some x.1:=fun i x hx=>by
  rw[hd,List.getElem?_toArray]at hx
  have:=congrArg (Option.map Subtype.val) hx
  rw[←List.getElem?_map,List.attach_map_subtype_val]at this;exact this
 have hH:HoldsK enc t.size w b 0 d:=fun j hj=>by
  rw[size_flatK]at hj
  have hi:j / t.size<d.size:=Nat.div_lt_of_lt_mul (by rwa[Nat.mul_comm]at hj)
  have hu:=Nat.mod_lt j hk
  have hje:j / t.size*t.size+j%t.size=j:=Nat.div_add_mod' j t.size
  have hx:d[j / t.size]?=some d[j / t.size]:=Array.getElem?_eq_getElem hi
  obtain⟨_,h4⟩:=flat_get enc t.size d hx hu
  rw[hje]at h4
  have h5:=hcell _ _ (hdg _ _ hx) _ hu
  rw[hje]at h5
  refine⟨?_,by simp[World.frozen?,hg]⟩
  rw[Nat.zero_add,cell_of_row w b j cur e (0,0) hg,h5,h4]
  have hl:j%t.size<(enc d[j / t.size]).length:=by rw[he];exact hu
  have e9:(enc d[j / t.size])[j%t.size]?=some ((enc d[j / t.size])[j%t.size]!):=lgetb hl
  exact e9
 have hcl:CmpLays P g #[] enc t.size cf b 0 d.size w:=fun m os dk _ x y=>by
  obtain⟨c0,h0⟩:=tot x.1 x.2 y.1 y.2
  obtain⟨R,h3,h4⟩:=hc x.1 y.1 c0 (hok _ x.2) (hok _ y.2) h0
  have:cf x y=c0:=by show(cmp x.1 y.1).getD 0=c0;rw[h0];rfl
  rw[this]
  exact Ct.cmp h3 h4 _
 have key:=AnyQ.slices_SortFunc L t.size aE zE enc he (fun x v hv=>cl_one x.1 [] ht v hv) cf hO g #[] b 0 c d w eg hcl hH hglt (by rw[hds];exact hm)
 rw[hds]at key
 refine key.mono ?_
 rintro e' w' ⟨rfl,d',n,os,hp,hs,rfl⟩
 clear key
 obtain⟨hsz,_,hperm⟩:=hp
 have hsz2:d'.size=xs.length:=hsz.trans hds
 have hys:d'.toList.map Subtype.val=r:=by
  rw[←hr]
  refine srt_uniq O ?_ ?_
  ·have h3:d'.toList.Perm d.toList:=by
    have e1:d'.extract 0 xs.length=d':=by rw[←hsz2];exact Array.extract_size
    have e2:d.extract 0 xs.length=d:=by rw[←hds];exact Array.extract_size
    rw[e1,e2]at hperm;exact hperm
   have h4:=h3.map Subtype.val
   rw[hd]at h4
   have h5:xs.attach.toArray.toList.map Subtype.val=xs:=List.attach_map_subtype_val xs
   rw[h5]at h4;exact h4
  ·refine List.pairwise_iff_getElem.2 fun i j hi hj hij=>?_
   rw[List.length_map,Array.length_toList]at hi hj
   have h3:=hs i j (Nat.zero_le _) hij (by omega)
   rw[hlt,getElem!_pos d' j (by omega),getElem!_pos d' i (by omega)]at h3
   simpa using h3
 have hrg: ∀(i:Nat) (x:t.den),r[i]?=some x→∃y,d'[i]?=some y∧y.1=x:=fun i x hx=>by
  rw[←hys,List.getElem?_map,Array.getElem?_toList]at hx
  obtain⟨y,h3,h4⟩:=Option.map_eq_some_iff.1 hx
  exact⟨y,h3,h4⟩
 generalize hcd:putCells id 0 (flatK enc t.size d') cur=cur'
 have hheap:(sortWorldK enc t.size w b 0 n d' os).heap[b]?=some (.cells cur' e (0,0)):=by
  show((w.heap.modify b (onCells (putCells id 0 (flatK enc t.size d'))))++os)[b]?=_
  rw[Array.getElem?_append_left (by simpa using hglt),Array.getElem?_modify,if_pos rfl,hg]
  simp only[Option.map_some,onCells,hcd]
 have hch:Ch [b] w (sortWorldK enc t.size w b 0 n d' os):=by
  refine⟨rfl,rfl,rfl,?_,fun k hk hn2=>?_⟩
  ·show w.heap.size≤((w.heap.modify b (onCells (putCells id 0 (flatK enc t.size d'))))++os).size
   simp
  ·show((w.heap.modify b (onCells (putCells id 0 (flatK enc t.size d'))))++os)[k]?=_
   rw[Array.getElem?_append_left (by simpa using hk),Array.getElem?_modify,if_neg (fun e=>hn2 (List.mem_singleton.2 e.symm))]
 have hcs':cur'.size=cur.size:=by rw[←hcd];simp[putCells]
 have hnk:xs.length*t.size≤cur.size:=by rw[hcs];exact Nat.mul_le_mul_right _ hnc
 have hget: ∀(i:Nat) (y:{x // x∈xs}),d'[i]?=some y→∀j,j<t.size→cur'[i*t.size+j]?=(cl t y.1 [])[j]?:=fun i y hy j hj=>by
  have hi:=(Array.getElem?_eq_some_iff.1 hy).1
  obtain⟨h3,h4⟩:=flat_get enc t.size d' hy hj
  have hb2:i*t.size+j<cur.size:=Nat.lt_of_lt_of_le (hbound (by omega) hj) hnk
  rw[←hcd,put_id,Array.getElem?_eq_getElem hb2,Option.map_some,if_pos (by rw[size_flatK];exact h3),h4]
  have hl:j<(enc y).length:=by rw[he];exact hj
  show some (enc y)[j]! =(enc y)[j]?
  exact(lgetb hl).symm
 have hown: ∀F':Nat→Prop,Own t e 0 (sortWorldK enc t.size w b 0 n d' os) F' (some ⟨b,0,none⟩) c r:=fun F'=>by
  refine⟨cur'.toList.take (r.length*t.size),⟨?_,.inr ⟨b,c,cur',rfl,Nat.zero_le _,hheap,by omega,hcm,by rw[hcs',hcs],rfl⟩⟩,fun u hu=>?_,fun i x hx=>?_⟩
  ·rw[List.length_take,Array.length_toList (xs:=cur'),hlen,hcs'];omega
  ·obtain⟨j,hj,rfl⟩:=List.getElem_of_mem hu
   rw[List.length_take]at hj
   have hj2:j<r.length*t.size:=by omega
   have hje:j / t.size*t.size+j%t.size=j:=Nat.div_add_mod' j t.size
   have hi:j / t.size<d'.size:=by rw[hsz2,←hlen];exact Nat.div_lt_of_lt_mul (by rwa[Nat.mul_comm]at hj2)
   have h3:=hget _ _ (Array.getElem?_eq_getElem hi) _ (Nat.mod_lt j hk)
   rw[hje]at h3
   rw[List.getElem_take]
   have hjc:j<cur'.size:=by have:=hj;rw[Array.length_toList (xs:=cur')]at this;omega
   rw[Array.getElem?_eq_getElem hjc]at h3
   rw[Array.getElem_toList]
   exact cl_one _ [] ht _ (List.mem_of_getElem? h3.symm)
  ·obtain⟨y,hy,rfl⟩:=hrg i x hx
   have hi:=(List.getElem?_eq_some_iff.1 hx).1
   have e1:((cur'.toList.take (r.length*t.size)).drop (i*t.size)).take t.size=cl t y.1 []:=by
    refine List.ext_getElem? fun j=>?_
    by_cases hj:j<t.size
    ·rw[List.getElem?_take_of_lt hj,List.getElem?_drop,List.getElem?_take,if_pos (hbound hi hj),Array.getElem?_toList]
     exact hget i y hy j hj
    ·rw[List.getElem?_eq_none (by rw[List.length_take];omega),List.getElem?_eq_none (by rw[cl_len _ _ ht];omega)]
   rw[e1]
   obtain⟨i0,hi0⟩:=List.getElem?_of_mem y.2
   have h3:=h2 i0 y.1 hi0
   rw[rep_cl0 ht h3]at h3
   exact rep_flat t ht (rep_to (F':=no) (rep_flat (F':=no) t ht h3) hch (fun _ h _=>h.elim))
 refine⟨_,[(0,.own t e (some ⟨b,0,none⟩) c r)],rfl,⟨rfl,rfl,hlen⟩,?_⟩
 have h3:=Hp.ren (Hp.upd (k:=0) (r':=.own t e (some ⟨b,0,none⟩) c r) hh hch (fun k hb2=>⟨_,rfl,hb2⟩) (fun k hb2=>.inl ⟨_,rfl,hb2⟩) (fun j hj=>by cases hj) fun F' B _ _ _ _ _=>hown _) [(0,0)] rfl rfl
 exact⟨h3.ch,h3.hold,h3.bnd,h3.dis,h3.ref⟩
end Go.A
end
section
set_option linter.unusedVariables false
set_option linter.unusedSimpArgs false
namespace Go.A
open Go.RowKit Go.Z Go.Shelf Go.Proofs
theorem dec_has {s:ByteArray}{p:Nat}:IntKind.i32.has ((Utf8.decode s p).1:Int):=by
 have h:=Lib.rune_le s p
 exact⟨by show(-2147483648:Int)≤_;omega,by show _≤(2147483647:Int);omega⟩
theorem cmpb_has: ∀a b:List UInt8,IntKind.i64.has (Lib.compareBytes a b)
 | [],[]=>by unfold Lib.compareBytes;decide
 | [],_::_=>by unfold Lib.compareBytes;decide
 |_::_,[]=>by unfold Lib.compareBytes;decide
 |x::a,y::b=>by
  unfold Lib.compareBytes
  have:=cmpb_has a b
  repeat' split
  all_goals first|assumption|decide
theorem Hem.bh {r:Option Nat}{P:Program}{ops:Array Oper}{Q:Exit→Act→World→Prop}{S S':World→Prop}{m m':Nat}: ∀(f:Nat) (li:Array Bool) (a:Act) (w:World),gn ops li m=true→Hem r P ops Q S' m' f li a w→Hem r P ops Q S m f li a w
 |0,_,_,_,_,h=>h
 |f+1,li,a,w,hg,h=>⟨h.1,fun i hi=>wpOpIn_mono (fun a' w' h'=>by
   have hg':gn ops (li.setIfInBounds i true) m=true:=by
    cases hq:gn ops (li.setIfInBounds i true) m with
    |true=>rfl
    |false=>rw[gn_mono hq]at hg;cases hg
   exact⟨fun hm=>(by rw[hg']at hm;cases hm),Hem.bh f _ a' w' hg' h'.2⟩) (h.2 i hi)⟩
theorem AH.bh {r:Option Nat}{P:Program}{ops:Array Oper}{Q:Exit→Act→World→Prop}{Hq:List (Nat×Res)}{m f:Nat}{li:List Bool}{C:Cx}{l:List (Nat×Value)}{H:List (Nat×Res)}(m':Nat)(h:AH r P ops Q [] m' f li C l H)(hg:gn ops li.toArray m=true:=by kernel_rfl):AH r P ops Q Hq m f li C l H:=fun a w hf hh=>
 Hem.bh _ _ a w hg (h a w hf hh)
theorem Ct.scmp {P:Program}{ρ:Ren}{f:Nat}(L:Lays.n106 P ρ)(hf:ρ.f 106=f)(a b:ByteArray)(r:Int)(hr:some (Lib.compareBytes a.data.toList b.data.toList)=some r):
  Ct P f [.string a,.string b] [] [] (fun v H'=>v=.int .i64 r∧H'=[]∧IntKind.i64.has r):=fun w F hh=>by
 subst hf
 have hr:=Option.some.inj hr
 subst hr
 refine(Any.strings_Compare L a b w).mono ?_
 rintro e w' ⟨rfl,rfl⟩
 exact⟨_,[],rfl,⟨rfl,rfl,cmpb_has _ _⟩,Ch.refl _,fun k r h=>(by cases h),fun k b ⟨_,h,_⟩=>(by cases h),fun k k' b ⟨_,h,_⟩=>(by cases h),fun k r j h=>(by cases h)⟩
def dem {α β:Type}[DecidableEq β](m:List α)(sn:List Nat)(e:Option β)(g:Nat→α→Option β):Option β:=
 match(List.range m.length).filter (fun i=> !(sn.contains i))with
 | []=>e
 |i::js=>(m[i]?).bind fun p=>if(js.all fun j=>decide (((m[j]?).bind fun q=>g j q)=g i p))=true then g i p else none
theorem dem_some {α β:Type}[DecidableEq β]{m:List α}{sn:List Nat}{e:Option β}{g:Nat→α→Option β}{r:β}(h:dem m sn e g=some r):
  ((∀i,i<m.length→i∈sn)→e=some r)∧∀i p,m[i]?=some p→i∉sn→g i p=some r:=by
 have hmem: ∀i,i∈(List.range m.length).filter (fun i=> !(sn.contains i))↔i<m.length∧i∉sn:=fun i=>by
  rw[List.mem_filter,List.mem_range];simp
 unfold dem at h
 split at h
 ·rename_i hl
  rw[hl]at hmem
  exact⟨fun _=>h,fun i p hp hn=>absurd ((hmem i).2 ⟨(List.getElem?_eq_some_iff.1 hp).1,hn⟩) (by simp)⟩
 ·rename_i i js hl
  rw[hl]at hmem
  have hi:=(hmem i).1 (List.mem_cons_self ..)
  refine⟨fun hall=>absurd (hall i hi.1) hi.2,fun j q hq hn=>?_⟩
  rw[List.getElem?_eq_getElem hi.1,Option.bind_some]at h
  split at h
  ·rename_i hall
   rcases List.mem_cons.1 ((hmem j).2 ⟨(List.getElem?_eq_some_iff.1 hq).1,hn⟩)with rfl|hj
   ·rw[List.getElem?_eq_getElem hi.1]at hq
    obtain rfl:=Option.some.inj hq
    exact h
   ·have:=of_decide_eq_true (List.all_eq_true.1 hall j hj)
    rw[hq,Option.bind_some]at this
    rw[this];exact h
  ·cases h
section
variable {r:Option Nat}{P:Program}{Q:Exit→Act→World→Prop}{C:Cx}{l:List (Nat×Value)}{H:List (Nat×Res)}{ops:Array Oper}{rest:List Oper}{T:TypeId}{pos:String}{af:Array Edge}{d:Nat}
theorem r_slh {a:Act}{w:World}{tt:TypeId}{x hi:Operand}{s:ByteArray}{k2:IntKind}{q:Int}(ht:P.underlying tt=some .string)(hx:a.eval x=.string s)(hhi:a.eval hi=.int k2 q)(h0:0≤q)(h1:q≤s.size):
  (execOp a.eval ⟨some d,.slice tt x none (some hi) none,T,pos,af,none⟩).run P w=.ok (.value (.string (s.extract 0 q.toNat))) w:=by
 simp[execOp,Instr.sliceAt,run_underlying ht,hx,hhi,run_slice_string_h w tt s ht k2 q h0 h1]
theorem AL.slh {tt:TypeId}{x hi:Operand}{s:ByteArray}{k2:IntKind}{q:Int}(hq:0≤q∧q≤s.size)(h:AL r P ops Q rest C ((d,.string (s.extract 0 q.toNat))::l) H)(hx:ev l x=some (.string s):=by rfl)(hhi:ev l hi=some (.int k2 q):=by rfl)(ht:P.underlying tt=some .string:=by rfl)(hd:Nat.ble (d+1) C.n=true:=by rfl):
  AL r P ops Q (⟨some d,.slice tt x none (some hi) none,T,pos,af,none⟩::rest) C l H:=
 AL.val hd (fun a w hf _=>r_slh ht (hf.eval hx) (hf.eval hhi) hq.1 hq.2) h
theorem ext_le {s:ByteArray}{i j:Nat}(h:s.size≤maxLen):(s.extract i j).size≤maxLen:=by
 rw[ByteArray.size_extract];omega
end
end Go.A
end
section
set_option linter.unusedVariables false
set_option maxRecDepth 100000
namespace Go.Proofs.YtbljnlkhebiniaaDoor
open Go.RowKit Go.Shelf Go.Lib
def Tryd.laysSortFunc10_ren:Go.Shelf.Ren:=⟨fun|6=>10|15=>29|14=>28|28=>57|29=>58|20=>49|21=>50|22=>51|23=>52|24=>53|25=>54|26=>55|27=>56|46=>86|47=>87|48=>88|49=>89|50=>90|57=>101|n=>n,fun|22=>37|24=>46|25=>47|3=>3|39=>72|0=>0|53=>104|55=>106|4=>4|46=>97|45=>96|50=>101|5=>5|9=>9|66=>135|70=>139|76=>146|77=>113|n=>n,fun|n=>n⟩
theorem Tryd.laysSortFunc10:Go.Proofs.SlLaysF0.n6 Tryd.prog Tryd.laysSortFunc10_ren where
 mixed:=by kernel_rfl
 f6:=⟨"slices.SortFunc[[]rivulet/api.Rec,rivulet/api.Rec]",by decide,Tryd.func10.trans (congrArg some (by kernel_rfl))⟩
 f14:=⟨"slices.pdqsortCmpFunc[rivulet/api.Rec]",by decide,Tryd.func28.trans (congrArg some (by kernel_rfl))⟩
 f15:=Tryd.func29.trans (congrArg some (by kernel_rfl))
 f20:=⟨"slices.insertionSortCmpFunc[rivulet/api.Rec]",by decide,Tryd.func49.trans (congrArg some (by kernel_rfl))⟩
 f21:=⟨"slices.heapSortCmpFunc[rivulet/api.Rec]",by decide,Tryd.func50.trans (congrArg some (by kernel_rfl))⟩
 f22:=⟨"slices.breakPatternsCmpFunc[rivulet/api.Rec]",by decide,Tryd.func51.trans (congrArg some (by kernel_rfl))⟩
 f23:=⟨"slices.choosePivotCmpFunc[rivulet/api.Rec]",by decide,Tryd.func52.trans (congrArg some (by kernel_rfl))⟩
 f24:=⟨"slices.reverseRangeCmpFunc[rivulet/api.Rec]",by decide,Tryd.func53.trans (congrArg some (by kernel_rfl))⟩
 f25:=⟨"slices.partialInsertionSortCmpFunc[rivulet/api.Rec]",by decide,Tryd.func54.trans (congrArg some (by kernel_rfl))⟩
 f26:=⟨"slices.partitionEqualCmpFunc[rivulet/api.Rec]",by decide,Tryd.func55.trans (congrArg some (by kernel_rfl))⟩
 f27:=⟨"slices.partitionCmpFunc[rivulet/api.Rec]",by decide,Tryd.func56.trans (congrArg some (by kernel_rfl))⟩
 f28:=Tryd.func57.trans (congrArg some (by kernel_rfl))
 f29:=Tryd.func58.trans (congrArg some (by kernel_rfl))
 f46:=⟨"slices.siftDownCmpFunc[rivulet/api.Rec]",by decide,Tryd.func86.trans (congrArg some (by kernel_rfl))⟩
 f47:=Tryd.func87.trans (congrArg some (by kernel_rfl))
 f48:=Tryd.func88.trans (congrArg some (by kernel_rfl))
 f49:=⟨"slices.medianAdjacentCmpFunc[rivulet/api.Rec]",by decide,Tryd.func89.trans (congrArg some (by kernel_rfl))⟩
 f50:=⟨"slices.medianCmpFunc[rivulet/api.Rec]",by decide,Tryd.func90.trans (congrArg some (by kernel_rfl))⟩
 f57:=⟨"slices.order2CmpFunc[rivulet/api.Rec]",by decide,Tryd.func101.trans (congrArg some (by kernel_rfl))⟩
 t0:=Tryd.underlying0
 a0:=Tryd.isAgg0
 z0:=Tryd.sizeOf0
 v0:=Tryd.zeroValue0
 t3:=Tryd.underlying3
 a3:=Tryd.isAgg3
 z3:=Tryd.sizeOf3
 v3:=Tryd.zeroValue3
 t4:=Tryd.underlying4
 a4:=Tryd.isAgg4
 z4:=Tryd.sizeOf4
 v4:=Tryd.zeroValue4
 t5:=Tryd.underlying5
 a5:=Tryd.isAgg5
 z5:=Tryd.sizeOf5
 v5:=Tryd.zeroValue5
 t9:=Tryd.underlying9
 a9:=Tryd.isAgg9
 z9:=Tryd.sizeOf9
 v9:=Tryd.zeroValue9
 t22:=Tryd.underlying37
 a22:=Tryd.isAgg37
 z22:=Tryd.sizeOf37
 v22:=Tryd.zeroValue37
 t25:=Tryd.underlying47
 a25:=Tryd.isAgg47
 z25:=Tryd.sizeOf47
 v25:=Tryd.zeroValue47
 t39:=Tryd.underlying72
 a39:=Tryd.isAgg72
 z39:=Tryd.sizeOf72
 v39:=Tryd.zeroValue72
 t45:=Tryd.underlying96
 a45:=Tryd.isAgg96
 z45:=Tryd.sizeOf96
 v45:=Tryd.zeroValue96
 t46:=Tryd.underlying97
 a46:=Tryd.isAgg97
 z46:=Tryd.sizeOf97
 v46:=Tryd.zeroValue97
 t50:=Tryd.underlying101
 a50:=Tryd.isAgg101
 z50:=Tryd.sizeOf101
 v50:=Tryd.zeroValue101
 t53:=Tryd.underlying104
 a53:=Tryd.isAgg104
 z53:=Tryd.sizeOf104
 v53:=Tryd.zeroValue104
 t55:=Tryd.underlying106
 a55:=Tryd.isAgg106
 z55:=Tryd.sizeOf106
 v55:=Tryd.zeroValue106
 t66:=Tryd.underlying135
 a66:=Tryd.isAgg135
 z66:=Tryd.sizeOf135
 v66:=Tryd.zeroValue135
 t70:=Tryd.underlying139
 a70:=Tryd.isAgg139
 z70:=Tryd.sizeOf139
 v70:=Tryd.zeroValue139
 t76:=Tryd.underlying146
 a76:=Tryd.isAgg146
 z76:=Tryd.sizeOf146
 v76:=Tryd.zeroValue146
 t77:=Tryd.underlying113
 a77:=Tryd.isAgg113
 z77:=Tryd.sizeOf113
 v77:=Tryd.zeroValue113
def Tryd.laysSortFunc12_ren:Go.Shelf.Ren:=⟨fun|6=>12|15=>29|14=>30|28=>57|29=>58|20=>59|21=>60|22=>61|23=>62|24=>63|25=>64|26=>65|27=>66|46=>91|47=>87|48=>88|49=>92|50=>93|57=>102|n=>n,fun|22=>31|24=>42|25=>49|3=>3|39=>72|0=>0|53=>104|55=>106|4=>4|46=>97|45=>96|50=>101|5=>5|9=>9|66=>135|70=>139|76=>146|77=>113|n=>n,fun|n=>n⟩
theorem Tryd.laysSortFunc12:Go.Proofs.SlLaysF0.n6 Tryd.prog Tryd.laysSortFunc12_ren where
 mixed:=by kernel_rfl
 f6:=⟨"slices.SortFunc[[]rivulet/api.Entry,rivulet/api.Entry]",by decide,Tryd.func12.trans (congrArg some (by kernel_rfl))⟩
 f14:=⟨"slices.pdqsortCmpFunc[rivulet/api.Entry]",by decide,Tryd.func30.trans (congrArg some (by kernel_rfl))⟩
 f15:=Tryd.func29.trans (congrArg some (by kernel_rfl))
 f20:=⟨"slices.insertionSortCmpFunc[rivulet/api.Entry]",by decide,Tryd.func59.trans (congrArg some (by kernel_rfl))⟩
 f21:=⟨"slices.heapSortCmpFunc[rivulet/api.Entry]",by decide,Tryd.func60.trans (congrArg some (by kernel_rfl))⟩
 f22:=⟨"slices.breakPatternsCmpFunc[rivulet/api.Entry]",by decide,Tryd.func61.trans (congrArg some (by kernel_rfl))⟩
 f23:=⟨"slices.choosePivotCmpFunc[rivulet/api.Entry]",by decide,Tryd.func62.trans (congrArg some (by kernel_rfl))⟩
 f24:=⟨"slices.reverseRangeCmpFunc[rivulet/api.Entry]",by decide,Tryd.func63.trans (congrArg some (by kernel_rfl))⟩
 f25:=⟨"slices.partialInsertionSortCmpFunc[rivulet/api.Entry]",by decide,Tryd.func64.trans (congrArg some (by kernel_rfl))⟩
 f26:=⟨"slices.partitionEqualCmpFunc[rivulet/api.Entry]",by decide,Tryd.func65.trans (congrArg some (by kernel_rfl))⟩
 f27:=⟨"slices.partitionCmpFunc[rivulet/api.Entry]",by decide,Tryd.func66.trans (congrArg some (by kernel_rfl))⟩
 f28:=Tryd.func57.trans (congrArg some (by kernel_rfl))
 f29:=Tryd.func58.trans (congrArg some (by kernel_rfl))
 f46:=⟨"slices.siftDownCmpFunc[rivulet/api.Entry]",by decide,Tryd.func91.trans (congrArg some (by kernel_rfl))⟩
 f47:=Tryd.func87.trans (congrArg some (by kernel_rfl))
 f48:=Tryd.func88.trans (congrArg some (by kernel_rfl))
 f49:=⟨"slices.medianAdjacentCmpFunc[rivulet/api.Entry]",by decide,Tryd.func92.trans (congrArg some (by kernel_rfl))⟩
 f50:=⟨"slices.medianCmpFunc[rivulet/api.Entry]",by decide,Tryd.func93.trans (congrArg some (by kernel_rfl))⟩
 f57:=⟨"slices.order2CmpFunc[rivulet/api.Entry]",by decide,Tryd.func102.trans (congrArg some (by kernel_rfl))⟩
 t0:=Tryd.underlying0
 a0:=Tryd.isAgg0
 z0:=Tryd.sizeOf0
 v0:=Tryd.zeroValue0
 t3:=Tryd.underlying3
 a3:=Tryd.isAgg3
 z3:=Tryd.sizeOf3
 v3:=Tryd.zeroValue3
 t4:=Tryd.underlying4
 a4:=Tryd.isAgg4
 z4:=Tryd.sizeOf4
 v4:=Tryd.zeroValue4
 t5:=Tryd.underlying5
 a5:=Tryd.isAgg5
 z5:=Tryd.sizeOf5
 v5:=Tryd.zeroValue5
 t9:=Tryd.underlying9
 a9:=Tryd.isAgg9
 z9:=Tryd.sizeOf9
 v9:=Tryd.zeroValue9
 t22:=Tryd.underlying31
 a22:=Tryd.isAgg31
 z22:=Tryd.sizeOf31
 v22:=Tryd.zeroValue31
 t25:=Tryd.underlying49
 a25:=Tryd.isAgg49
 z25:=Tryd.sizeOf49
 v25:=Tryd.zeroValue49
 t39:=Tryd.underlying72
 a39:=Tryd.isAgg72
 z39:=Tryd.sizeOf72
 v39:=Tryd.zeroValue72
 t45:=Tryd.underlying96
 a45:=Tryd.isAgg96
 z45:=Tryd.sizeOf96
 v45:=Tryd.zeroValue96
 t46:=Tryd.underlying97
 a46:=Tryd.isAgg97
 z46:=Tryd.sizeOf97
 v46:=Tryd.zeroValue97
 t50:=Tryd.underlying101
 a50:=Tryd.isAgg101
 z50:=Tryd.sizeOf101
 v50:=Tryd.zeroValue101
 t53:=Tryd.underlying104
 a53:=Tryd.isAgg104
 z53:=Tryd.sizeOf104
 v53:=Tryd.zeroValue104
 t55:=Tryd.underlying106
 a55:=Tryd.isAgg106
 z55:=Tryd.sizeOf106
 v55:=Tryd.zeroValue106
 t66:=Tryd.underlying135
 a66:=Tryd.isAgg135
 z66:=Tryd.sizeOf135
 v66:=Tryd.zeroValue135
 t70:=Tryd.underlying139
 a70:=Tryd.isAgg139
 z70:=Tryd.sizeOf139
 v70:=Tryd.zeroValue139
 t76:=Tryd.underlying146
 a76:=Tryd.isAgg146
 z76:=Tryd.sizeOf146
 v76:=Tryd.zeroValue146
 t77:=Tryd.underlying113
 a77:=Tryd.isAgg113
 z77:=Tryd.sizeOf113
 v77:=Tryd.zeroValue113
def Tryd.laysCompare_ren:Go.Shelf.Ren:=⟨fun|106=>47|213=>85|265=>100|n=>n,fun|9=>9|3=>3|n=>n,fun|n=>n⟩
theorem Tryd.laysCompare:Go.Proofs.Lays.n106 Tryd.prog Tryd.laysCompare_ren where
 mixed:=by kernel_rfl
 f106:=Tryd.func47.trans (congrArg some (by kernel_rfl))
 f213:=Tryd.func85.trans (congrArg some (by kernel_rfl))
 f265:=Tryd.func100.trans (congrArg some (by kernel_rfl))
 t3:=Tryd.underlying3
 a3:=Tryd.isAgg3
 z3:=Tryd.sizeOf3
 v3:=Tryd.zeroValue3
 t9:=Tryd.underlying9
 a9:=Tryd.isAgg9
 z9:=Tryd.sizeOf9
 v9:=Tryd.zeroValue9
def F.strings_Compare (a0 a1:ByteArray):Option Int:=some (Lib.compareBytes a0.data.toList a1.data.toList)
theorem strings_Compare_ok (a0 a1:ByteArray)(h0:a0.size≤maxLen)(h1:a1.size≤maxLen)(r:Int)(hF:F.strings_Compare a0 a1=some r):
  A.Ct Tryd.prog 47 [.string a0,.string a1] [] [] (fun v H'=>v=.int .i64 r∧H'=[]∧IntKind.i64.has r):=
 A.Ct.scmp Tryd.laysCompare rfl a0 a1 r hF
end Go.Proofs.YtbljnlkhebiniaaDoor
end
section
set_option linter.unusedVariables false
set_option linter.unusedSimpArgs false
set_option maxRecDepth 20000
set_option maxHeartbeats 8000000
set_option synthInstance.maxSize 1000000
set_option synthInstance.maxHeartbeats 400000
namespace Go.Proofs.YtbljnlkhebiniaaDoor
open Go.RowKit
def F.oper_Keeps (a0:Int):Option Bool:=some (bif decide (a0=11)then true else decide (a0=16))
theorem oper_Keeps_ok (a0:Int)(h0_:IntKind.i64.has a0)(r:Bool)(hF:F.oper_Keeps a0=some r):
    A.Ct Tryd.prog 68 [.int .i64 a0] [] [] (fun v H'=>v=.bool r∧H'=[]):=by
 refine A.Ct.enter Tryd.func68 rfl Tryd.ntmps68 rfl fun w0 F0=>?_
 rw[F.oper_Keeps]at hF
 refine A.xl 1 ?_
 refine A.q0 [] [] [.n] [] ?_
 refine A.dl 2 ?_
 refine A.q0 [] [] [.n,.n,.n,.sy .n,.sy .n,.pk,.n] [(2,.bool (bif decide (a0=11)then true else decide (a0=16)))] ?_
 refine A.dx 1 ?_
 obtain rfl:=Option.some.inj hF
 exact A.rt1 [] ⟨rfl,rfl⟩
def F.oper_Holds_j1:Option Bool:=some true
def F.oper_Holds_j2 (a0:Int)(y2:Bool):Option Bool:=if y2=true then(F.oper_Holds_j1)else((F.oper_Keeps a0).bind fun r3=>(some r3))
def F.oper_Holds_j3 (a0:Int)(y1:Bool):Option Bool:=if y1=true then(F.oper_Holds_j1)else(if a0=9 then(F.oper_Holds_j2 a0 (decide (a0=9)))else(F.oper_Holds_j2 a0 (decide (a0=10))))
def F.oper_Holds (a0:Int):Option Bool:=if a0=7 then(F.oper_Holds_j3 a0 (decide (a0=7)))else(F.oper_Holds_j3 a0 (decide (a0=8)))
theorem oper_Holds_ok (a0:Int)(h0_:IntKind.i64.has a0)(r:Bool)(hF:F.oper_Holds a0=some r):
    A.Ct Tryd.prog 34 [.int .i64 a0] [] [] (fun v H'=>v=.bool r∧H'=[]):=by
 refine A.Ct.enter Tryd.func34 rfl Tryd.ntmps34 rfl fun w0 F0=>?_
 rw[F.oper_Holds]at hF
 refine A.xl 1 ?_
 refine A.q0 [] [] [.n] [] ?_
 refine A.dl 3 ?_
 refine A.q0 [] [] [.n] [(3,.int .i64 a0)] ?_
 refine A.dx 2 ?_
 refine A.AX.join [] [] (fun nl nh=>nl=[]∧nh=[]∧F.oper_Holds_j1=some r) ?_ ?_
 ·refine A.xx 4 ?_
  refine A.AX.join [0,3] [] (fun nl nh=>∃(y1:Bool),nl=[(4,.bool y1)]∧nh=[]∧F.oper_Holds_j3 a0 y1=some r) ?_ ?_
  ·refine A.xl 1 ?_
   refine A.q0 [] [] [.n,.n] [(4,.bool (decide (a0=7)))] ?_
   refine A.dx 1 ?_
   refine A.AX.cnd rfl hF (fun hb hF=>?_) (fun hb hF=>?_)
   ·refine A.xe 1 ?_
    exact A.j ⟨(decide (a0=7)),rfl,rfl,hF⟩
   refine A.xl 0 ?_
   refine A.q0 [] [] [.n,.n] [(4,.bool (decide (a0=8)))] ?_
   refine A.AL.done ?_
   exact A.j ⟨(decide (a0=8)),rfl,rfl,hF⟩
  rintro _ _ ⟨y1,rfl,rfl,hF⟩
  rw[F.oper_Holds_j3]at hF
  refine A.AX.cnb rfl hF (fun hb hF=>?_) (fun hb hF=>?_)
  ·refine A.xe 2 ?_
   exact A.j ⟨rfl,rfl,hF⟩
  refine A.xx 2 ?_
  refine A.AX.join [0] [] (fun nl nh=>∃(y2:Bool),nl=[(7,.bool y2)]∧nh=[]∧F.oper_Holds_j2 a0 y2=some r) ?_ ?_
  ·refine A.xl 1 ?_
   refine A.q0 [] [] [.n,.n] [(7,.bool (decide (a0=9)))] ?_
   refine A.dx 1 ?_
   refine A.AX.cnd rfl hF (fun hb hF=>?_) (fun hb hF=>?_)
   ·refine A.xe 1 ?_
    exact A.j ⟨(decide (a0=9)),rfl,rfl,hF⟩
   refine A.xl 0 ?_
   refine A.q0 [] [] [.n,.n] [(7,.bool (decide (a0=10)))] ?_
   refine A.AL.done ?_
   exact A.j ⟨(decide (a0=10)),rfl,rfl,hF⟩
  rintro _ _ ⟨y2,rfl,rfl,hF⟩
  rw[F.oper_Holds_j2]at hF
  refine A.AX.cnb rfl hF (fun hb hF=>?_) (fun hb hF=>?_)
  ·refine A.xe 1 ?_
   exact A.j ⟨rfl,rfl,hF⟩
  refine A.xl 5 ?_
  refine A.q0 [] [] [.n] [(10,.int .i64 a0)] ?_
  obtain⟨r3,hv4,hF⟩:=A.bd_some hF
  refine A.AL.call 0 [] (first:=[]) (cap:=[]) cf68 (oper_Keeps_ok a0 h0_ r3 hv4) .nil ?_
  rintro _ _ ⟨rfl,rfl⟩
  refine⟨by kernel_rfl,?_⟩
  refine A.q0 [] [] [.n] [(2,.bool r3)] ?_
  refine A.dx 1 ?_
  obtain rfl:=Option.some.inj hF
  exact A.rt1 [] ⟨rfl,rfl⟩
 rintro _ _ ⟨rfl,rfl,hF⟩
 rw[F.oper_Holds_j1]at hF
 refine A.xl 2 ?_
 refine A.q0 [] [] [.n] [(2,.bool true)] ?_
 refine A.dx 1 ?_
 obtain rfl:=Option.some.inj hF
 exact A.rt1 [] ⟨rfl,rfl⟩
def F.fn_single_j1 (y8:Bool):Option Bool:=some y8
def F.fn_single_l2 (a0:ByteArray):Nat→Nat→Int→Option Bool
 |0,_,_=>none
 |f+1,p2,y3=>if p2<a0.size then(A.gd (Z.R64 (y3+1)) ((F.fn_single_l2 a0 f) (p2+(Utf8.decode a0 p2).2) (y3+1)))else(if y3=1 then((F.utf8_ValidString a0).bind fun r9=>(F.fn_single_j1 r9))else(F.fn_single_j1 false))
def F.fn_single (a0:ByteArray):Option Bool:=F.fn_single_l2 a0 A.FU 0 0
theorem fn_single_ok (a0:ByteArray)(h0_:a0.size≤maxLen)(r:Bool)(hF:F.fn_single a0=some r):
    A.Ct Tryd.prog 97 [.string a0] [(0,.el none 1 0 A.tabF),(1,.el none 2 0 A.tabA)] [] (fun v H'=>v=.bool r∧H'=[]):=by
 refine A.Ct.enter Tryd.func97 rfl Tryd.ntmps97 rfl fun w0 F0=>?_
 rw[F.fn_single]at hF
 refine A.xl 1 ?_
 refine A.q0 [] [] [.n] [] ?_
 refine A.dl 2 ?_
 refine A.q0 [] [] [.n] [(3,.int .i64 0)] ?_
 refine A.dl 3 ?_
 refine A.q0 [] [] [.n] [(4,.string a0)] ?_
 refine A.AL.rgs 2 fun g1=>?_
 refine A.dx 2 ?_
 refine A.lp_ [0,5] [0,1] (fun f nl nh=>∃(p2:Nat),∃(y3:Int),nl=[(3,.int .i64 y3)]∧nh=[(2,.si g1 a0 p2)]∧IntKind.i64.has y3∧F.fn_single_l2 a0 f p2 y3=some r) ⟨0,0,rfl,rfl,(A.hasl .i64 (0) rfl),hF⟩ ?_
 rintro f5 _ _ ⟨p2,y3,rfl,rfl,hy4,hF⟩
 rcases f5 with _|f5
 ·exact A.no0 hF
 rw[F.fn_single_l2]at hF
 refine A.xl 1 ?_
 refine A.AL.nxs 2 [] hF (fun hb6 hF=>?_) (fun hb hF=>?_)
 ·refine A.q0 [] [] [.n] [(7,.bool true)] ?_
  refine A.dx 2 ?_
  refine A.AX.cnt rfl ?_
  refine A.xl 3 ?_
  obtain⟨hc7,hF⟩:=A.gd_some hF
  refine A.q [] [] [.n,.n,.n] [Z.R64 (y3+1)] [(3,.int .i64 (y3+1))] hc7 ?_
  refine A.de 1 ?_
  exact A.j ⟨_,Nat.lt_succ_self _,⟨(p2+(Utf8.decode a0 p2).2),(y3+1),rfl,rfl,(Z.i64_has hc7),hF⟩⟩
 refine A.q0 [] [] [.n] [(7,.bool false)] ?_
 refine A.dx 2 ?_
 refine A.AX.cnf rfl ?_
 refine A.xx 2 ?_
 refine A.AX.join [] [0,1] (fun nl nh=>∃(y8:Bool),nl=[(2,.bool y8)]∧nh=[]∧F.fn_single_j1 y8=some r) ?_ ?_
 ·refine A.xl 0 ?_
  refine A.q0 [] [] [.n,.n,.n] [(12,.bool (decide (y3=1)))] ?_
  refine A.AL.cnp (j:=12) rfl hF (fun hb hF=>?_) (fun hb hF=>?_)
  ·refine A.q0 [] [] [.on .n] [(13,.string a0)] ?_
   refine A.AL.on (dj:=12) rfl rfl ?_
   obtain⟨r9,hv10,hF⟩:=A.bd_some hF
   refine A.AL.call 83 [] (first:=[]) (cap:=[]) cf96 (utf8_ValidString_ok a0 h0_ r9 hv10) (.s 0 (.s 1 .nil)) ?_
   rintro _ _ ⟨rfl,rfl⟩
   refine⟨by kernel_rfl,?_⟩
   refine A.q0 [] [] [.n,.n] [(2,.bool r9)] ?_
   refine A.AL.done ?_
   exact A.j ⟨r9,rfl,rfl,hF⟩
  refine A.q0 [] [] [.off,.off,.n,.n] [(2,.bool false)] ?_
  refine A.AL.done ?_
  exact A.j ⟨false,rfl,rfl,hF⟩
 rintro _ _ ⟨y8,rfl,rfl,hF⟩
 rw[F.fn_single_j1]at hF
 obtain rfl:=Option.some.inj hF
 exact A.rt1 [] ⟨rfl,rfl⟩
def F.fn_text_j1 (y2:Bool):Option Bool:=some y2
def F.fn_text_j2 (a0:D23)(y5:Bool):Option Bool:=if y5=true then((F.fn_single a0.2.2).bind fun r6=>(some r6))else(some (decide (a0.2.2=(ByteArray.mk #[]))))
def F.fn_text (a0:D23):Option Bool:=if a0.1=5 then(if(bif decide (a0.2.2≠(ByteArray.mk #[]))then decide ((a0.2.2.size:Int)≤16)else false)=true then((F.utf8_ValidString a0.2.2).bind fun r3=>(F.fn_text_j1 r3))else(F.fn_text_j1 false))else(if a0.1=12 then(F.fn_text_j2 a0 (decide (a0.1=12)))else(F.fn_text_j2 a0 (decide (a0.1=22))))
theorem fn_text_ok (a0:D23)(h0_:IntKind.i64.has a0.1)(h1_:IntKind.i64.has a0.2.1)(h2_:a0.2.2.size≤maxLen)(r:Bool)(hF:F.fn_text a0=some r):
    A.Ct Tryd.prog 72 [.agg #[.int .i64 a0.1,.int .i64 a0.2.1,.string a0.2.2]] [(0,.el none 1 0 A.tabF),(1,.el none 2 0 A.tabA)] [] (fun v H'=>v=.bool r∧H'=[]):=by
 refine A.Ct.enter Tryd.func72 rfl Tryd.ntmps72 rfl fun w0 F0=>?_
 rw[F.fn_text]at hF
 refine A.xl 1 ?_
 refine A.AL.box 2 (cs:=[.int .i64 a0.1,.int .i64 a0.2.1,.string a0.2.2]) fun g1=>?_
 refine A.q0 [] [] [.n] [] ?_
 refine A.dl 3 ?_
 refine A.q0 [2] [] [.n,.b 0 0] [(4,.int .i64 a0.1)] ?_
 refine A.dl 3 ?_
 refine A.q0 [] [] [.n,.n] [(5,.bool (decide (a0.1=5)))] ?_
 refine A.dx 1 ?_
 refine A.AX.cnd rfl hF (fun hb hF=>?_) (fun hb hF=>?_)
 ·refine A.AX.join [] [0,1] (fun nl nh=>∃(y2:Bool),nl=[(2,.bool y2)]∧nh=[]∧F.fn_text_j1 y2=some r) ?_ ?_
  ·refine A.xl 0 ?_
   refine A.q0 [2] [] [.n,.b 0 2,.n,.n,.sy .n,.sy (.b 0 2),.sy .n,.sy .n,.pk,.n] [(16,.bool (bif decide (a0.2.2≠(ByteArray.mk #[]))then decide ((a0.2.2.size:Int)≤16)else false))] ?_
   refine A.AL.cnd (j:=16) rfl hF (fun hF=>?_) (fun hF=>?_)
   ·refine A.q0 [2] [] [.on .n,.on (.b 0 2)] [(18,.string a0.2.2)] ?_
    refine A.AL.on (dj:=16) rfl rfl ?_
    obtain⟨r3,hv4,hF⟩:=A.bd_some hF
    refine A.AL.call 3 [] (first:=[]) (cap:=[]) cf96 (utf8_ValidString_ok a0.2.2 h2_ r3 hv4) (.s 0 (.s 1 .nil)) ?_
    rintro _ _ ⟨rfl,rfl⟩
    refine⟨by kernel_rfl,?_⟩
    refine A.q0 [] [] [.n,.n] [(2,.bool r3)] ?_
    refine A.AL.done ?_
    exact A.j ⟨r3,rfl,rfl,hF⟩
   refine A.q0 [] [] [.off,.off,.off,.n,.n] [(2,.bool false)] ?_
   refine A.AL.done ?_
   exact A.j ⟨false,rfl,rfl,hF⟩
  rintro _ _ ⟨y2,rfl,rfl,hF⟩
  rw[F.fn_text_j1]at hF
  obtain rfl:=Option.some.inj hF
  exact A.rt1 [] ⟨rfl,rfl⟩
 refine A.AX.join [1] [0,1,2] (fun nl nh=>∃(y5:Bool),nl=[(21,.bool y5)]∧nh=[]∧F.fn_text_j2 a0 y5=some r) ?_ ?_
 ·refine A.xl 1 ?_
  refine A.q0 [] [] [.n,.n] [(21,.bool (decide (a0.1=12)))] ?_
  refine A.dx 1 ?_
  refine A.AX.cnd rfl hF (fun hb hF=>?_) (fun hb hF=>?_)
  ·refine A.xe 1 ?_
   exact A.j ⟨(decide (a0.1=12)),rfl,rfl,hF⟩
  refine A.xl 0 ?_
  refine A.q0 [] [] [.n,.n] [(21,.bool (decide (a0.1=22)))] ?_
  refine A.AL.done ?_
  exact A.j ⟨(decide (a0.1=22)),rfl,rfl,hF⟩
 rintro _ _ ⟨y5,rfl,rfl,hF⟩
 rw[F.fn_text_j2]at hF
 refine A.AX.cnb rfl hF (fun hb hF=>?_) (fun hb hF=>?_)
 ·refine A.xl 1 ?_
  refine A.q0 [2] [] [.n,.b 0 2] [(25,.string a0.2.2)] ?_
  obtain⟨r6,hv7,hF⟩:=A.bd_some hF
  refine A.AL.call 43 [] (first:=[]) (cap:=[]) cf97 (fn_single_ok a0.2.2 h2_ r6 hv7) (.s 0 (.s 1 .nil)) ?_
  rintro _ _ ⟨rfl,rfl⟩
  refine⟨by kernel_rfl,?_⟩
  refine A.q0 [] [] [.n] [(2,.bool r6)] ?_
  refine A.dx 1 ?_
  obtain rfl:=Option.some.inj hF
  exact A.rt1 [] ⟨rfl,rfl⟩
 refine A.xl 4 ?_
 refine A.q0 [2] [] [.n,.b 0 2,.n,.n] [(2,.bool (decide (a0.2.2=(ByteArray.mk #[]))))] ?_
 refine A.dx 1 ?_
 obtain rfl:=Option.some.inj hF
 exact A.rt1 [] ⟨rfl,rfl⟩
def F.fn_uses (a0:Int):Option (Int×Int):=if a0=2 then(some (1,8))else(if a0=3 then(some (11,13))else(if a0=4 then(some (21,22))else(if a0=8 then(some (31,34))else(if a0=11 then(some (41,42))else(some (0,-1))))))
theorem fn_uses_ok (a0:Int)(h0_:IntKind.i64.has a0)(r:Int×Int)(hF:F.fn_uses a0=some r):
    A.Ct Tryd.prog 69 [.int .i64 a0] [] [] (fun v H'=>v=.tuple #[.int .i64 r.1,.int .i64 r.2]∧H'=[]∧IntKind.i64.has r.1∧IntKind.i64.has r.2):=by
 refine A.Ct.enter Tryd.func69 rfl Tryd.ntmps69 rfl fun w0 F0=>?_
 rw[F.fn_uses]at hF
 refine A.xl 1 ?_
 refine A.q0 [] [] [.n,.n] [] ?_
 refine A.dl 3 ?_
 refine A.q0 [] [] [.n] [(4,.int .i64 a0)] ?_
 refine A.dl 3 ?_
 refine A.q0 [] [] [.n,.n] [(5,.bool (decide (a0=2)))] ?_
 refine A.dx 1 ?_
 refine A.AX.cnd rfl hF (fun hb hF=>?_) (fun hb hF=>?_)
 ·refine A.xl 1 ?_
  refine A.q0 [] [] [.n,.n] [(2,.int .i64 1),(3,.int .i64 8)] ?_
  refine A.dx 1 ?_
  obtain rfl:=Option.some.inj hF
  exact A.rt2 [] ⟨rfl,rfl,(A.hasl .i64 (1) rfl),(A.hasl .i64 (8) rfl)⟩
 refine A.xl 1 ?_
 refine A.q0 [] [] [.n,.n] [(7,.bool (decide (a0=3)))] ?_
 refine A.dx 1 ?_
 refine A.AX.cnd rfl hF (fun hb hF=>?_) (fun hb hF=>?_)
 ·refine A.xl 1 ?_
  refine A.q0 [] [] [.n,.n] [(2,.int .i64 11),(3,.int .i64 13)] ?_
  refine A.dx 1 ?_
  obtain rfl:=Option.some.inj hF
  exact A.rt2 [] ⟨rfl,rfl,(A.hasl .i64 (11) rfl),(A.hasl .i64 (13) rfl)⟩
 refine A.xl 1 ?_
 refine A.q0 [] [] [.n,.n] [(9,.bool (decide (a0=4)))] ?_
 refine A.dx 1 ?_
 refine A.AX.cnd rfl hF (fun hb hF=>?_) (fun hb hF=>?_)
 ·refine A.xl 1 ?_
  refine A.q0 [] [] [.n,.n] [(2,.int .i64 21),(3,.int .i64 22)] ?_
  refine A.dx 1 ?_
  obtain rfl:=Option.some.inj hF
  exact A.rt2 [] ⟨rfl,rfl,(A.hasl .i64 (21) rfl),(A.hasl .i64 (22) rfl)⟩
 refine A.xl 1 ?_
 refine A.q0 [] [] [.n,.n] [(11,.bool (decide (a0=8)))] ?_
 refine A.dx 1 ?_
 refine A.AX.cnd rfl hF (fun hb hF=>?_) (fun hb hF=>?_)
 ·refine A.xl 1 ?_
  refine A.q0 [] [] [.n,.n] [(2,.int .i64 31),(3,.int .i64 34)] ?_
  refine A.dx 1 ?_
  obtain rfl:=Option.some.inj hF
  exact A.rt2 [] ⟨rfl,rfl,(A.hasl .i64 (31) rfl),(A.hasl .i64 (34) rfl)⟩
 refine A.xl 1 ?_
 refine A.q0 [] [] [.n,.n] [(13,.bool (decide (a0=11)))] ?_
 refine A.dx 1 ?_
 refine A.AX.cnd rfl hF (fun hb hF=>?_) (fun hb hF=>?_)
 ·refine A.xl 1 ?_
  refine A.q0 [] [] [.n,.n] [(2,.int .i64 41),(3,.int .i64 42)] ?_
  refine A.dx 1 ?_
  obtain rfl:=Option.some.inj hF
  exact A.rt2 [] ⟨rfl,rfl,(A.hasl .i64 (41) rfl),(A.hasl .i64 (42) rfl)⟩
 refine A.xl 4 ?_
 refine A.q0 [] [] [.n,.n] [(2,.int .i64 0),(3,.int .i64 (-1))] ?_
 refine A.dx 1 ?_
 obtain rfl:=Option.some.inj hF
 exact A.rt2 [] ⟨rfl,rfl,(A.hasl .i64 (0) rfl),(A.hasl .i64 (-1) rfl)⟩
def F.fn_Uses (a0:Int):Option (Int×Int):=(F.fn_uses a0).bind fun r1=>(some (r1.1,r1.2))
theorem fn_Uses_ok (a0:Int)(h0_:IntKind.i64.has a0)(r:(Int×Int))(hF:F.fn_Uses a0=some r):
    A.Ct Tryd.prog 70 [.int .i64 a0] [] [] (fun v H'=>∃(g0':Nat) (g1':Nat),v=.func (.func 95) #[] #[.pointer (some ⟨g0',0,none⟩),.pointer (some ⟨g1',0,none⟩)]∧H'=[(0,.blk g0' 3 [.int .i64 r.1]),(1,.blk g1' 3 [.int .i64 r.2])]∧IntKind.i64.has r.1∧IntKind.i64.has r.2):=by
 refine A.Ct.enter Tryd.func70 rfl Tryd.ntmps70 rfl fun w0 F0=>?_
 rw[F.fn_Uses]at hF
 refine A.xl 1 ?_
 refine A.q0 [] [] [.n] [] ?_
 refine A.dl 2 ?_
 refine A.q0 [] [] [.n] [(6,.int .i64 a0)] ?_
 obtain⟨r1,hv2,hF⟩:=A.bd_some hF
 refine A.AL.call 0 [] (first:=[]) (cap:=[]) cf69 (fn_uses_ok a0 h0_ r1 hv2) .nil ?_
 rintro _ _ ⟨rfl,rfl,hr3,hr4⟩
 refine⟨by kernel_rfl,?_⟩
 refine A.q0 [] [] [.n,.n,.n] [(8,.int .i64 r1.1),(9,.int .i64 r1.2)] ?_
 refine A.AL.alloc 40 (cs:=[.int .i64 0]) Tryd.zeroValue3 fun g5=>?_
 refine A.AL.alloc 41 (cs:=[.int .i64 0]) Tryd.zeroValue3 fun g6=>?_
 refine A.sw 40 [] [.int .i64 r1.1] ?_
 refine A.sw 41 [] [.int .i64 r1.2] ?_
 refine A.dl 2 ?_
 refine A.q0 [] [] [.n,.n] [(2,.func (.func 95) #[] #[.pointer (some ⟨g5,0,none⟩),.pointer (some ⟨g6,0,none⟩)])] ?_
 refine A.dx 1 ?_
 obtain rfl:=Option.some.inj hF
 exact A.rt1 [(0,40),(1,41)] ⟨g5,g6,rfl,rfl,hr3,hr4⟩
def F.fn_number_j1 (a0:D23)(y3:Bool):Option Bool:=if y3=true then(some (bif decide ((1:Int)≤a0.2.1)then decide (a0.2.1≤1048576)else false))else(some (decide (a0.2.1=0)))
def F.fn_number_j2 (a0:D23)(y2:Bool):Option Bool:=if y2=true then(some (bif decide ((0:Int)≤a0.2.1)then decide (a0.2.1≤64)else false))else(if a0.1=6 then(F.fn_number_j1 a0 (decide (a0.1=6)))else(F.fn_number_j1 a0 (decide (a0.1=11))))
def F.fn_number (a0:D23):Option Bool:=if a0.1=3 then(F.fn_number_j2 a0 (decide (a0.1=3)))else(F.fn_number_j2 a0 (decide (a0.1=13)))
theorem fn_number_ok (a0:D23)(h0_:IntKind.i64.has a0.1)(h1_:IntKind.i64.has a0.2.1)(h2_:a0.2.2.size≤maxLen)(r:Bool)(hF:F.fn_number a0=some r):
    A.Ct Tryd.prog 71 [.agg #[.int .i64 a0.1,.int .i64 a0.2.1,.string a0.2.2]] [] [] (fun v H'=>v=.bool r∧H'=[]):=by
 refine A.Ct.enter Tryd.func71 rfl Tryd.ntmps71 rfl fun w0 F0=>?_
 rw[F.fn_number]at hF
 refine A.xl 1 ?_
 refine A.AL.box 0 (cs:=[.int .i64 a0.1,.int .i64 a0.2.1,.string a0.2.2]) fun g1=>?_
 refine A.q0 [] [] [.n] [] ?_
 refine A.dl 3 ?_
 refine A.q0 [0] [] [.n,.b 0 0] [(4,.int .i64 a0.1)] ?_
 refine A.dx 2 ?_
 refine A.AX.join [1,4] [0] (fun nl nh=>∃(y2:Bool),nl=[(5,.bool y2)]∧nh=[]∧F.fn_number_j2 a0 y2=some r) ?_ ?_
 ·refine A.xl 1 ?_
  refine A.q0 [] [] [.n,.n] [(5,.bool (decide (a0.1=3)))] ?_
  refine A.dx 1 ?_
  refine A.AX.cnd rfl hF (fun hb hF=>?_) (fun hb hF=>?_)
  ·refine A.xe 1 ?_
   exact A.j ⟨(decide (a0.1=3)),rfl,rfl,hF⟩
  refine A.xl 0 ?_
  refine A.q0 [] [] [.n,.n] [(5,.bool (decide (a0.1=13)))] ?_
  refine A.AL.done ?_
  exact A.j ⟨(decide (a0.1=13)),rfl,rfl,hF⟩
 rintro _ _ ⟨y2,rfl,rfl,hF⟩
 rw[F.fn_number_j2]at hF
 refine A.AX.cnb rfl hF (fun hb hF=>?_) (fun hb hF=>?_)
 ·refine A.xl 1 ?_
  refine A.q0 [0] [] [.n,.b 0 1,.n,.n,.sy .n,.sy (.b 0 1),.sy .n,.pk,.n] [(2,.bool (bif decide ((0:Int)≤a0.2.1)then decide (a0.2.1≤64)else false))] ?_
  refine A.dx 1 ?_
  obtain rfl:=Option.some.inj hF
  exact A.rt1 [] ⟨rfl,rfl⟩
 refine A.AX.join [1] [0] (fun nl nh=>∃(y3:Bool),nl=[(16,.bool y3)]∧nh=[]∧F.fn_number_j1 a0 y3=some r) ?_ ?_
 ·refine A.xl 1 ?_
  refine A.q0 [] [] [.n,.n] [(16,.bool (decide (a0.1=6)))] ?_
  refine A.dx 1 ?_
  refine A.AX.cnd rfl hF (fun hb hF=>?_) (fun hb hF=>?_)
  ·refine A.xe 1 ?_
   exact A.j ⟨(decide (a0.1=6)),rfl,rfl,hF⟩
  refine A.xl 0 ?_
  refine A.q0 [] [] [.n,.n] [(16,.bool (decide (a0.1=11)))] ?_
  refine A.AL.done ?_
  exact A.j ⟨(decide (a0.1=11)),rfl,rfl,hF⟩
 rintro _ _ ⟨y3,rfl,rfl,hF⟩
 rw[F.fn_number_j1]at hF
 refine A.AX.cnb rfl hF (fun hb hF=>?_) (fun hb hF=>?_)
 ·refine A.xl 1 ?_
  refine A.q0 [0] [] [.n,.b 0 1,.n,.n,.sy .n,.sy (.b 0 1),.sy .n,.pk,.n] [(2,.bool (bif decide ((1:Int)≤a0.2.1)then decide (a0.2.1≤1048576)else false))] ?_
  refine A.dx 1 ?_
  obtain rfl:=Option.some.inj hF
  exact A.rt1 [] ⟨rfl,rfl⟩
 refine A.xl 4 ?_
 refine A.q0 [0] [] [.n,.b 0 1,.n,.n] [(2,.bool (decide (a0.2.1=0)))] ?_
 refine A.dx 1 ?_
 obtain rfl:=Option.some.inj hF
 exact A.rt1 [] ⟨rfl,rfl⟩
def F.fn_Uses_1_it_l1 (b1:Int):Nat→Int→Option (List Int)
 |0,_=>none
 |f+1,y1=>if y1≤b1 then(A.cns y1 (A.gd (Z.R64 (y1+1)) ((F.fn_Uses_1_it_l1 b1 f) (y1+1))))else(some [])
def F.fn_Uses_1_it (b0:Int)(b1:Int):Option (List Int):=F.fn_Uses_1_it_l1 b1 A.FU b0
theorem fn_Uses_1_it_sq (b0:Int)(b1:Int)(g0_:Nat)(g2_:Nat)(h1_:IntKind.i64.has b0)(h3_:IntKind.i64.has b1)(xs:List Int)(hF:F.fn_Uses_1_it b0 b1=some xs):
    A.Sq Tryd.prog 95 [.pointer (some ⟨g0_,0,none⟩),.pointer (some ⟨g2_,0,none⟩)] [(0,.el none g0_ 0 [.int .i64 b0]),(1,.el none g2_ 0 [.int .i64 b1])] (Z.Ty.int .i64) (fun cs=>[Z.vof false cs]) xs:=by
 refine A.Sq.enter Tryd.func95 rfl Tryd.ntmps95 rfl fun lid w0 J Jx Φ hY hJ0=>?_
 obtain⟨rs0,hrs⟩: ∃rs0,rs0=xs:=⟨_,rfl⟩
 have hR0:A.Rem xs 0 rs0:=hrs▸A.Rem.zero xs
 rw[F.fn_Uses_1_it,←hrs]at hF
 clear hrs
 refine A.xl 1 ?_
 refine A.q0 [] [0] [.e 0 0,.n] [(4,.int .i64 b0)] ?_
 refine A.dx 2 ?_
 refine A.AX.loopC (A.CY 15 Φ) (0,w0) [0,2] [1] [1] (fun f i nl nh=>∃(y1:Int),∃(rs:List Int),nl=[(4,.int .i64 y1)]∧nh=[]∧IntKind.i64.has y1∧J i.1 i.2∧A.Rem xs i.1 rs∧F.fn_Uses_1_it_l1 b1 f y1=some rs) A.FU [(4,.int .i64 b0)] [] ⟨b0,_,rfl,rfl,h1_,hJ0,hR0,hF⟩ ?_
 rintro f3 ⟨k4,w5⟩ _ _ ⟨y1,rs8,rfl,rfl,hy2,hJ6,hR7,hF⟩
 rcases f3 with _|f3
 ·exact A.no0 hF
 rw[F.fn_Uses_1_it_l1]at hF
 refine A.xl 2 ?_
 refine A.q0 [] [1] [.n,.e 0 0,.n] [(8,.bool (decide (y1≤b1)))] ?_
 refine A.dx 1 ?_
 refine A.AX.cnd rfl hF (fun hb hF=>?_) (fun hb hF=>?_)
 ·refine A.xl 5 ?_
  refine A.q0 [] [] [.n,.n] [(11,.func (.yield lid) #[] #[]),(12,.int .i64 y1)] ?_
  obtain⟨rs9,hqrs9,hF⟩:=A.cns_some hF
  refine A.AL.yield hY hJ6 (hqrs9▸hR7) [.int .i64 y1] ⟨rfl,hy2⟩ (fun w10 hJ11 hR12=>?_) (fun w10 hX13=>?_)
  ·refine A.q0 [] [] [.n] [(14,.bool false)] ?_
   refine A.dx 1 ?_
   refine A.AX.cnf rfl ?_
   refine A.xl 3 ?_
   obtain⟨hc14,hF⟩:=A.gd_some hF
   refine A.q [] [] [.n,.n,.n] [Z.R64 (y1+1)] [(4,.int .i64 (y1+1))] hc14 ?_
   refine A.AL.done ?_
   exact A.AE.jC (k4+1,w10) [1] [(4,.int .i64 (y1+1))] [] ⟨_,Nat.lt_succ_self _,⟨(y1+1),_,rfl,rfl,(Z.i64_has hc14),hJ11,hR12,hF⟩⟩
  refine A.q0 [] [] [.n] [(14,.bool true)] ?_
  refine A.dx 1 ?_
  refine A.AX.cnt rfl ?_
  exact A.AX.rtX hY hX13
 refine A.xe 1 ?_
 obtain rfl:=Option.some.inj hF
 exact A.AE.rtY hY hJ6 hR7
def F.fn_Check_j1 (k1:Option Int)(y25:Bool):Option Int:=if y25=true then(some 0)else(k1)
def F.fn_Check_l2 (a1:D23):List Int→Option Int
 | []=>some 60
 |y22::f=>if y22=a1.1 then((F.fn_number (a1.1,a1.2.1,a1.2.2)).bind fun r26=>(if r26=true then((F.fn_text (a1.1,a1.2.1,a1.2.2)).bind fun r28=>(F.fn_Check_j1 (F.fn_Check_l2 a1 f) r28))else(F.fn_Check_j1 (F.fn_Check_l2 a1 f) false)))else(F.fn_Check_j1 (F.fn_Check_l2 a1 f) false)
def F.fn_Check (a0:Int)(a1:D23):Option Int:=(F.fn_uses a0).bind fun r3=>(if r3.2<0 then(if(a1.1,a1.2.1,a1.2.2)≠(0,0,ByteArray.mk #[])then(some 60)else(some 0))else((F.fn_Uses a0).bind fun r7=>((F.fn_Uses_1_it r7.1 r7.2).bind fun xs13=>F.fn_Check_l2 a1 xs13)))
theorem fn_Check_ok (a0:Int)(a1:D23)(h0_:IntKind.i64.has a0)(h1_:IntKind.i64.has a1.1)(h2_:IntKind.i64.has a1.2.1)(h3_:a1.2.2.size≤maxLen)(r:Int)(hF:F.fn_Check a0 a1=some r):
    A.Ct Tryd.prog 35 [.int .i64 a0,.agg #[.int .i64 a1.1,.int .i64 a1.2.1,.string a1.2.2]] [(0,.el none 1 0 A.tabF),(1,.el none 2 0 A.tabA)] [] (fun v H'=>v=.int .i64 r∧H'=[]∧IntKind.i64.has r):=by
 refine A.Ct.enterM Tryd.func35 rfl Tryd.ntmps35 rfl fun w0 F0=>?_
 rw[F.fn_Check]at hF
 refine A.xl 1 ?_
 refine A.AL.box 2 (cs:=[.int .i64 a1.1,.int .i64 a1.2.1,.string a1.2.2]) fun g1=>?_
 refine A.AL.alloc 3 (cs:=[.int .i64 0]) Tryd.zeroValue38 fun g2=>?_
 refine A.dl 3 ?_
 refine A.q0 [] [] [.n] [(9,.int .i64 a0)] ?_
 obtain⟨r3,hv4,hF⟩:=A.bd_some hF
 refine A.AL.call 4 [] (first:=[]) (cap:=[]) cf69 (fn_uses_ok a0 h0_ r3 hv4) .nil ?_
 rintro _ _ ⟨rfl,rfl,hr5,hr6⟩
 refine⟨by kernel_rfl,?_⟩
 refine A.q0 [] [] [.n,.n,.n,.n,.n] [(6,.int .i64 r3.2)] ?_
 refine A.dl 2 ?_
 refine A.q0 [] [] [.n,.n] [(14,.bool (decide (r3.2<0)))] ?_
 refine A.dx 1 ?_
 refine A.AX.cnd rfl hF (fun hb hF=>?_) (fun hb hF=>?_)
 ·refine A.xl 2 ?_
  refine A.q0 [2] [] [.b 0 0,.n] [(15,.agg #[.int .i64 a1.1,.int .i64 a1.2.1,.string a1.2.2]),(16,.agg #[.int .i64 0,.int .i64 0,.string (ByteArray.mk #[])])] ?_
  refine A.AL.val rfl (fun a w hf hh=>eqagg_neq24 (x:=(a1.1,a1.2.1,a1.2.2)) (y:=(0,0,ByteArray.mk #[])) (hf.eval rfl) (hf.eval rfl)) ?_
  refine A.dx 1 ?_
  refine A.AX.cnd rfl hF (fun hb hF=>?_) (fun hb hF=>?_)
  ·refine A.xl 1 ?_
   refine A.sw 3 [] [.int .i64 60] ?_
   refine A.dx 1 ?_
   obtain rfl:=Option.some.inj hF
   exact A.AX.rtM (Ds:=[]) [] [] (.int .i64 60) (trivial) (fun a w hf hh=>Z.resv1 rfl (Z.rv_1 hf rfl Tryd.isAgg38 (A.Hp.blk hh 3))) (⟨rfl,rfl,(A.hasl .i64 (60) rfl)⟩)
  refine A.xl 3 ?_
  refine A.sw 3 [] [.int .i64 0] ?_
  refine A.dx 1 ?_
  obtain rfl:=Option.some.inj hF
  exact A.AX.rtM (Ds:=[]) [] [] (.int .i64 0) (trivial) (fun a w hf hh=>Z.resv1 rfl (Z.rv_1 hf rfl Tryd.isAgg38 (A.Hp.blk hh 3))) (⟨rfl,rfl,(A.hasl .i64 (0) rfl)⟩)
 refine A.xl 4 ?_
 refine A.q0 [] [] [.n] [(18,.int .i64 a0)] ?_
 obtain⟨r7,hv8,hF⟩:=A.bd_some hF
 refine A.AL.call 44 [] (first:=[]) (cap:=[]) cf70 (fn_Uses_ok a0 h0_ r7 hv8) .nil ?_
 rintro _ _ ⟨g9,g11,rfl,rfl,hr10,hr12⟩
 refine⟨by kernel_rfl,?_⟩
 refine A.dx 2 ?_
 obtain⟨xs13,hv14,hF⟩:=A.bd_some hF
 refine A.AX.rgf 84 85 86 [0,1,2,3,44,45] [0,1,2,3,44,45] [85,84,0,1,2,3,44,45] (fun k nh=>nh=[]∧F.fn_Check_l2 a1 (List.drop k xs13)=some r) [] cf95 (fn_Uses_1_it_sq r7.1 r7.2 g9 g11 hr10 hr12 xs13 hv14) (fun _=>rfl) ⟨rfl,hF⟩ ?_ ?_ ?_
 ·rintro k21 _ D15 L16 ⟨rfl,hF⟩
  exact⟨⟨_,(.b 44 (.b 45 .nil))⟩,rfl,fun o=>rfl⟩
 ·rintro k21 _ y22 D15 L16 w20 o17 ⟨rfl,hF⟩ hx23 hxo24 hh19
  rw[A.drop_at hx23,F.fn_Check_l2]at hF
  refine A.xl 0 ?_
  refine A.q0 [] [] [.n] [(7,.int .i64 y22)] ?_
  refine A.AL.done ?_
  refine A.AE.flip 84 85 fun o18=>?_
  refine A.xx 1 ?_
  refine A.AX.join [3,4] [0,1,2,3,44,45,84,85] (fun nl nh=>∃(y25:Bool),nl=[(32,.bool y25)]∧nh=[]∧F.fn_Check_j1 (F.fn_Check_l2 a1 (List.drop (k21+1) xs13)) y25=some r) ?_ ?_
  ·refine A.xl 0 ?_
   refine A.q0 [2] [] [.n,.n,.b 0 0,.n,.n] [(25,.bool (decide (y22=a1.1)))] ?_
   refine A.AL.cnp (j:=25) rfl hF (fun hb hF=>?_) (fun hb hF=>?_)
   ·refine A.q0 [2] [] [.on (.b 0 0)] [(26,.agg #[.int .i64 a1.1,.int .i64 a1.2.1,.string a1.2.2])] ?_
    refine A.AL.on (dj:=25) rfl rfl ?_
    obtain⟨r26,hv27,hF⟩:=A.bd_some hF
    refine A.AL.call 167 [] (first:=[]) (cap:=[]) cf71 (fn_number_ok (a1.1,a1.2.1,a1.2.2) h1_ h2_ h3_ r26 hv27) .nil ?_
    rintro _ _ ⟨rfl,rfl⟩
    refine⟨by kernel_rfl,?_⟩
    refine A.q0 [] [] [.n,.n] [(29,.bool r26)] ?_
    refine A.AL.cnd (j:=29) rfl hF (fun hF=>?_) (fun hF=>?_)
    ·refine A.q0 [2] [] [.on (.b 0 0)] [(30,.agg #[.int .i64 a1.1,.int .i64 a1.2.1,.string a1.2.2])] ?_
     refine A.AL.on (dj:=29) rfl rfl ?_
     obtain⟨r28,hv29,hF⟩:=A.bd_some hF
     refine A.AL.call 207 [] (first:=[]) (cap:=[]) cf72 (fn_text_ok (a1.1,a1.2.1,a1.2.2) h1_ h2_ h3_ r28 hv29) (.s 0 (.s 1 .nil)) ?_
     rintro _ _ ⟨rfl,rfl⟩
     refine⟨by kernel_rfl,?_⟩
     refine A.q0 [] [] [.n] [(32,.bool r28)] ?_
     refine A.AL.done ?_
     exact A.j ⟨r28,rfl,rfl,hF⟩
    refine A.q0 [] [] [.off,.off,.n] [(32,.bool false)] ?_
    refine A.AL.done ?_
    exact A.j ⟨false,rfl,rfl,hF⟩
   refine A.q0 [] [] [.off,.off,.n,.n,.off,.off,.n] [(32,.bool false)] ?_
   refine A.AL.done ?_
   exact A.j ⟨false,rfl,rfl,hF⟩
  rintro _ _ ⟨y25,rfl,rfl,hF⟩
  rw[F.fn_Check_j1]at hF
  refine A.AX.cnb rfl hF (fun hb hF=>?_) (fun hb hF=>?_)
  ·refine A.xl 1 ?_
   refine A.sw 3 [] [.int .i64 0] ?_
   refine A.dx 1 ?_
   refine A.AX.bret hh19 [85,2,3,44,45,84] 100000 [(85,100085),(2,100002),(3,100003),(44,100044),(45,100045),(84,100084),(0,0),(1,1)] [(2,.blk g1 24 [.int .i64 a1.1,.int .i64 a1.2.1,.string a1.2.2]),(3,.blk g2 38 [.int .i64 0]),(44,.blk g9 3 [.int .i64 r7.1]),(45,.blk g11 3 [.int .i64 r7.2]),(84,.ob D15 A.dfT),(0,.el none 1 0 A.tabF),(1,.el none 2 0 A.tabA)] ?_ rfl rfl
   obtain rfl:=Option.some.inj hF
   exact A.AE.rtM (Ds:=[D15]) [84] [] (.int .i64 0) (⟨rfl,trivial⟩) (fun a w hf hh=>Z.resv1 rfl (Z.rv_1 hf rfl Tryd.isAgg38 (A.Hp.blk hh 3))) (⟨rfl,rfl,(A.hasl .i64 (0) rfl)⟩)
  refine A.xe 2 ?_
  exact A.AE.bn hh19 [85,84,2,3,44,45] 100000 [(85,100085),(84,100084),(0,0),(1,1),(2,100002),(3,100003),(44,100044),(45,100045)] [] ⟨rfl,hF⟩ rfl rfl
 rintro _ D15 L16 ⟨rfl,hF⟩
 rw[List.drop_length,F.fn_Check_l2]at hF
 refine A.el 3 ?_
 refine A.sw 3 [] [.int .i64 60] ?_
 refine A.dx 1 ?_
 obtain rfl:=Option.some.inj hF
 exact A.AX.rtM (Ds:=[D15]) [84] [] (.int .i64 60) (⟨rfl,trivial⟩) (fun a w hf hh=>Z.resv1 rfl (Z.rv_1 hf rfl Tryd.isAgg38 (A.Hp.blk hh 3))) (⟨rfl,rfl,(A.hasl .i64 (60) rfl)⟩)
end Go.Proofs.YtbljnlkhebiniaaDoor
end
section
set_option linter.unusedVariables false
set_option linter.unusedSimpArgs false
namespace Go.A
open Go.RowKit Go.Z
section
variable {C:Cx}{l:List (Nat×Value)}{H:List (Nat×Res)}{X:Act→World→Prop}
theorem bta (k:Nat)(js:List Nat){t:Ty}{g:Nat}{T:TypeId}{cs:List Value}(xs:List t.den)(hD:Dats H t cs xs)(h: ∀a w,Fr a C.n C.ds l→Hp C ((k,.own t T (some ⟨g,0,none⟩) xs.length xs)::ded js H) w→X a w)
  (hk1:hk H k=some (.blk g T cs):=by rfl) (hx:Nat.ble xs.length 100000=true:=by rfl) (hj:hng [k] js H=true:=by kernel_rfl): ∀a w,Fr a C.n C.ds l→Hp C H w→X a w:=fun a w hf hh=>by
 refine h a w hf (Hp.dd (hh.upd (S:=[]) (Ch.refl w) (by simp) (fun b hb=>.inl ⟨_,hk1,hb⟩) (fun j hj=>by cases hj) fun F B q1 q2 _ _ _=>?_) hj)
 have hB:Blk w g T cs:=hh.hold k _ hk1
 obtain⟨h1,h2,h3⟩:=Dats.all hh hD
 have hx:=Nat.le_of_ble_eq_true hx
 refine⟨cs,⟨h1,.inr ⟨g,xs.length,cs.toArray,rfl,Nat.zero_le _,hB,Nat.le_refl _,by simp only[maxLen];omega,by simp[h1],by simp[←h1]⟩⟩,h2,fun i y hi=>rep_as (h3 i y hi) fun b hb hlt=>q1 b hb hlt⟩
end
section
variable {r:Option Nat}{P:Program}{ops:Array Oper}{Q:Exit→Act→World→Prop}{rest lst:List Oper}{C:Cx}{l:List (Nat×Value)}{H:List (Nat×Res)}{d:Nat}{T:TypeId}{pos:String}{af:Array Edge}
theorem AL.ixoA (k kn:Nat){t:Ty}{e':TypeId}{g c n:Nat}{xs:List t.den}{x y:Operand}{i:Int}{kd:IntKind}{v:t.den}{e tt:TypeId}(hi:ix xs i=some v)(hlen:n=xs.length)
  (h:t.ok v→tele (lv t) fun ps=>AL r P ops Q rest C ((d,.pointer (some ⟨g,i.toNat*t.size,none⟩))::l) (hcat (kx (kn+1) (rs t v ps)) ((kn,.el (some k) g (i.toNat*t.size) (cl t v ps))::H)))
  (hk1:hk H k=some (.own t e' (some ⟨g,0,none⟩) c xs):=by rfl) (hx:ev l x=some (.pointer (some ⟨g,0,none⟩)):=by rfl) (hy:ev l y=some (.int kd i):=by rfl) (ht:P.underlying tt=some (.array n e):=by rfl) (hs:szB P e=some t.size:=by kernel_rfl)
  (hd:Nat.ble (d+1) C.n=true:=by rfl) (hn:nok H kn (1+lv t)=true:=by kernel_rfl):AL r P ops Q (⟨some d,.indexAddr tt x y,T,pos,af,none⟩::rest) C l H:=fun a w hf hh=>by
 subst hlen
 obtain⟨j,rfl,hv⟩:=ix_some hi
 have hlt:=(List.getElem?_eq_some_iff.1 hv).1
 obtain⟨G,hR,hG⟩:=rowO hk1 w hh
 obtain⟨b,o,es,hA,hb,hbl,hc,hr⟩:=hR.at hv
 injection hA with hA;injection hA with e1 e2 _;subst e1;subst e2
 obtain⟨ps,hl,rfl,hrs⟩:=rep_cl (B:=Bk H) t (rep_in t hr)
 have hn':nok H kn (1+(rs t v ps).length)=true:=by rw[rs_len t v ps hl];exact hn
 have hnk:hk H kn=none:=nok_none hn' (Nat.le_refl _) (by omega)
 rw[Nat.zero_add]at hc
 have h1:Hp C ((kn,.el (some k) g (j*t.size) (cl t v ps))::H) w:=hh.add hnk rfl (fun i hi r hr=>by injection hi with hi;subst hi;rw[hk1]at hr;injection hr with hr;subst hr;rfl) ⟨hc,hbl,hG g hb⟩
 have hnn: ∀n k',nok H k' n=true→(∀i,k'≤i→i<k'+n→i≠kn)→nok ((kn,.el (some k) g (j*t.size) (cl t v ps))::H) k' n=true:=by
  intro n
  induction n with
  |zero=>intro _ _ _;rfl
  |succ n ih=>
   intro k' h2 h3
   simp only[nok,Bool.and_eq_true]at h2 ⊢
   refine⟨?_,ih (k'+1) h2.2 fun i h4 h5=>h3 i (by omega) (by omega)⟩
   rw[hk_cons,if_neg (Ne.symm (h3 k' (Nat.le_refl _) (by omega)))];exact h2.1
 have hn2:nok H (kn+1) (rs t v ps).length=true:=by
  rw[Nat.add_comm 1]at hn'
  simp only[nok,Bool.and_eq_true]at hn';exact hn'.2
 have h2:Hp C (hcat (kx (kn+1) (rs t v ps)) ((kn,.el (some k) g (j*t.size) (cl t v ps))::H)) w:=by
  refine h1.adds (hnn _ _ hn2 fun i h4 _=>by omega) fun r2 h4=>?_
  obtain⟨h5,h6,h7⟩:=hrs r2 h4
  have hbk: ∀i b',Bk ((kn,.el (some k) g (j*t.size) (cl t v ps))::H) i b'↔Bk H i b':=fun i b'=>by
   by_cases hj:i=kn
   ·subst hj
    rw[Bk.cons_eq]
    exact⟨fun h=>by simp[Res.bl]at h,fun⟨_,h8,_⟩=>by rw[hnk]at h8;cases h8⟩
   ·exact Bk.cons_ne hj
  exact⟨h6,h7,Res.to h5 (S:=[]) (Ch.refl w) (fun b' hF _=>⟨by simp,⟨fun i hj=>hF.1.1 i ((hbk i b').1 hj),hF.1.2⟩,hF.2⟩) (fun b' hB _=>⟨by simp,fun i hj=>hB i ((hbk i b').1 hj)⟩) (fun i b' _ hB=>⟨by simp,(hbk i b').2 hB⟩) (by simp)⟩
 refine Z.val (v:=.pointer (some ⟨g,j*t.size,none⟩)) hf hd ?_ fun a' hf'=>tele_at (h (rep_ok t hr)) ps hl a' w hf' h2
 have:=r_indexArr (P:=P) (a:=a) (w:=w) (T:=T) (pos:=pos) (af:=af) (dd:=some d) (gd:=none) (o:=0) ht (szB_run hs) (hf.eval hx) (hf.eval hy) (by omega) (by omega)
 rw[Nat.zero_add,Int.toNat_natCast]at this
 exact this
end
end Go.A
end
section
set_option linter.unusedVariables false
set_option linter.unusedSimpArgs false
namespace Go.A
open Go.RowKit Go.Z
theorem cat_le {s u:ByteArray}(h:s.size+u.size≤9223372036854775807):(s++u).size≤maxLen:=by
 rw[ByteArray.size_append];simpa[maxLen] using h
theorem si_has {p:Nat}{s:ByteArray}(h:p<s.size)(hs:s.size≤maxLen):IntKind.i64.has (p:Int):=has_nat (by omega)
theorem mk_le {xs:List UInt8}(h:xs.length≤maxLen):(ByteArray.mk xs.toArray).size≤maxLen:=by simpa[ByteArray.size] using h
def b8 (x:Int):UInt8:=UInt8.ofNat (x%256).toNat
theorem b8_wrap (x:Int):IntKind.u8.wrap x=((b8 x).toNat:Int):=by
 have h1:=Int.emod_nonneg x (show(256:Int)≠0 by decide)
 have h2:=Int.emod_lt_of_pos x (show(0:Int)<256 by decide)
 have h3:IntKind.u8.wrap x=x%256:=by simp[IntKind.wrap,IntKind.bits,IntKind.signed]
 have h4:(b8 x).toNat=(x%256).toNat:=by
  unfold b8
  rw[UInt8.toNat_ofNat']
  omega
 rw[h3,h4];omega
def Bs (e:TypeId)(c:Nat)(xs:List UInt8):Obj→Prop:=fun o=>∃cur:Array Value,o=.cells cur e (cur.size,cur.size+1)∧cur.size=c∧c≤maxLen∧xs.length≤c∧∀(j:Nat) (b:UInt8),xs[j]?=some b→cur[j]?=some (.int .u8 (b.toNat:Int))
theorem Bs.cell {w:World}{g:Nat}{e:TypeId}{c:Nat}{xs:List UInt8}{o:Obj}(ho:w.heap[g]?=some o)(h:Bs e c xs o){j:Nat}{b:UInt8}(hj:xs[j]?=some b):w.cell? ⟨g,j,none⟩=some (.int .u8 (b.toNat:Int)):=by
 obtain⟨cur,rfl,_,_,_,h5⟩:=h
 rw[cell_of_row w g j cur e _ ho]
 exact h5 j b hj
section
variable {r:Option Nat}{P:Program}{ops:Array Oper}{Q:Exit→Act→World→Prop}{rest:List Oper}{C:Cx}{l:List (Nat×Value)}{H:List (Nat×Res)}{d:Nat}{T:TypeId}{pos:String}{af:Array Edge}
theorem AL.cvt {src dst e:TypeId}{x:Operand}{A:Option Addr}{c n:Nat}{xs:List UInt8}{kp':(Nat→Prop)→Prop}(hrow: ∀w,Hp C H w→∃G:Nat→Prop,Row .byte w (Fh C H) G A c xs∧kp' G)(hlen:n=xs.length)(h:AL r P ops Q rest C ((d,.string ⟨xs.toArray⟩)::l) H)
  (hx:ev l x=some (.slice A n c):=by rfl) (h1:P.underlying src=some (.slice e):=by rfl) (h2:P.underlying e=some (.int .u8):=by rfl) (h3:P.underlying dst=some .string:=by rfl) (hd:Nat.ble (d+1) C.n=true:=by rfl):
  AL r P ops Q (⟨some d,.convert src dst x,T,pos,af,none⟩::rest) C l H:=fun a w hf hh=>by
 subst hlen
 obtain⟨G,hR,_⟩:=hrow w hh
 refine Z.val hf hd ?_ fun a' hf'=>h a' w hf' hh
 obtain⟨cells,p1,p2,p3,p4⟩:=hR.cells
 rcases p3 with h0|⟨ad,rfl,hcell⟩
 ·have:xs=[]:=List.eq_nil_of_length_eq_zero h0
  subst this
  have hl:(execOp a.eval ⟨some d,.convert src dst x,T,pos,af,none⟩).run P w=.ok (.value (.string ⟨([]:List UInt8).toArray⟩)) w:=by
   have hrep:(Ty.slice .byte).rep w no [.slice A 0 c] []:=⟨A,c,[],rfl,Nat.zero_le _,hR.2.1,rfl,.inl rfl,fun i x h=>by simp at h⟩
   exact r_b2s h1 h2 h3 (hf.eval hx) hrep
  exact hl
 ·have:=run_convert_bytes_back (P:=P) w src dst e ad c xs h1 h2 h3 fun j hj=>by
   refine hcell j _ ?_
   have h4:=p4 j _ (List.getElem?_eq_getElem hj)
   have h5:(cells.drop (j*1)).take 1=[.int .u8 (xs[j].toNat:Int)]:=h4
   rw[Nat.mul_one]at h5
   have h6:((cells.drop j).take 1)[0]?=some (.int .u8 (xs[j].toNat:Int)):=by rw[h5];rfl
   rwa[List.getElem?_take_of_lt (by omega),List.getElem?_drop,Nat.add_zero]at h6
  simp[execOp,hf.eval hx,this]
end
end Go.A
end
section
set_option linter.unusedVariables false
set_option linter.unusedSimpArgs false
namespace Go.Z
open Go.RowKit Go.Lib
section
variable {P:Program}{a:Act}{w:World}{d:Option Tmp}{T:TypeId}{pos:String}{af:Array Edge}{gd:Option (Nat×Bool)}
theorem r_sliceA_l {t e:TypeId}{x lo:Operand}{n sz g o u:Nat}{k:IntKind}{p:Int}(ht:P.underlying t=some (.array n e))(hS: ∀w,(sizeOf e).run P w=.ok sz w)(hx:a.eval x=.pointer (some ⟨g,o,none⟩))(hl:a.eval lo=.int k p)(hp:p=(u:Int))(h1:u≤n):
  (execOp a.eval ⟨d,.slice t x (some lo) none none,T,pos,af,gd⟩).run P w=.ok (.value (.slice (cutA (some ⟨g,o,none⟩) n u sz) (n-u) (n-u))) w:=by
 subst hp
 by_cases hc:n=u<;>simp[execOp,Instr.sliceAt,run_underlying ht,hx,hl,Instr.sureAddr,Instr.sliceBounds,Instr.sliceBound,asIntOf,h1,hS,cutA,hc]
end
end Go.Z
namespace Go.A
open Go.RowKit Go.Z
section
variable {r:Option Nat}{P:Program}{ops:Array Oper}{Q:Exit→Act→World→Prop}{rest lst:List Oper}{C:Cx}{l:List (Nat×Value)}{H:List (Nat×Res)}{d:Nat}{T:TypeId}{pos:String}{af:Array Edge}
theorem AL.slA (k kn:Nat){t:Ty}{tt e:TypeId}{x lo:Operand}{g c n:Nat}{xs:List t.den}{k1:IntKind}{p:Int}{u:Nat}(hlen:n=xs.length)(hp:p=(u:Int))(h1:u≤xs.length)
  (h: ∀A' c',AL r P ops Q rest C ((d,.slice A' (xs.drop u).length c')::l) ((kn,.sh (.slice t) [.slice A' (xs.drop u).length c'] (xs.drop u))::H))
  (hk1:hk H k=some (.sh (.slice t) [.slice (some ⟨g,0,none⟩) xs.length c] xs):=by rfl) (hx:ev l x=some (.pointer (some ⟨g,0,none⟩)):=by rfl) (hlo:ev l lo=some (.int k1 p):=by rfl) (hS:szB P e=some t.size:=by kernel_rfl)
  (ht:P.underlying tt=some (.array n e):=by rfl) (hd:Nat.ble (d+1) C.n=true:=by rfl) (hn:hk H kn=none:=by kernel_rfl):AL r P ops Q (⟨some d,.slice tt x (some lo) none none,T,pos,af,none⟩::rest) C l H:=fun a w hf hh=>by
 subst hlen
 have hr:(Ty.slice t).rep w (Fh C H) [.slice (some ⟨g,0,none⟩) xs.length c] xs:=hh.hold k _ hk1
 have hlen:=rep_slice_len hr
 have hlen2:(xs.drop u).length=xs.length-u:=by rw[List.length_drop]
 refine Z.val (v:=.slice (cutA (some ⟨g,0,none⟩) xs.length u t.size) (xs.length-u) (xs.length-u)) hf hd (r_sliceA_l ht (szB_run hS) (hf.eval hx) (hf.eval hlo) hp h1) fun a' hf'=>?_
 have hr2:(Ty.slice t).rep w (Fh C H) [.slice (cutA (some ⟨g,0,none⟩) xs.length u t.size) (xs.length-u) (xs.length-u)] (xs.drop u):=by
  refine rep_drop hr h1 (Nat.le_refl _) (by omega) fun hlt ad hA=>?_
  unfold cutA
  rw[if_neg (by omega),hA];rfl
 rw[←hlen2]at hr2 hf'
 exact h _ _ a' w hf' (hh.add hn rfl (fun j hj=>by cases hj) (rep_in _ hr2))
theorem AL.ixv {τ:Type}(f:τ→Value)(vals:List τ){tt e:TypeId}{n:Nat}{x y:Operand}{i:Int}{kd:IntKind}{v:τ}(hi:ix vals i=some v)(h:AL r P ops Q rest C ((d,f v)::l) H)
  (hx:ev l x=some (.agg (vals.map f).toArray):=by rfl) (hy:ev l y=some (.int kd i):=by rfl) (ht:P.underlying tt=some (.array n e):=by rfl) (hl:vals.length=n:=by rfl) (hS:szB P e=some 1:=by kernel_rfl) (hA:aggB P e=some false:=by kernel_rfl) (hd:Nat.ble (d+1) C.n=true:=by rfl):
  AL r P ops Q (⟨some d,.index tt x y,T,pos,af,none⟩::rest) C l H:=fun a w hf hh=>by
 subst hl
 obtain⟨p,q⟩:=ix_ok hi
 obtain⟨j,rfl,hj⟩:=ix_some hi
 refine Z.val hf hd ?_ fun a' hf'=>h a' w hf' hh
 have h0:(part e (vals.map f).toArray (((j:Int)).toNat*1)).run P w=.ok (f v) w:=Z.part_one w (aggB_run hA) (by simp[hj])
 simp only[execOp,Instr.index,Sem.run_bind,hf.eval hx,hf.eval hy,asIntOf,Sem.run_pure,Result.andThen_ok,run_underlying ht,szB_run hS w]
 rw[if_pos ⟨p,q⟩]
 simp only[Sem.run_bind,szB_run hS w,Result.andThen_ok,h0,Sem.run_pure]
theorem AL.cutv (k:Nat){t:Ty}{tt e e':TypeId}{x lo:Operand}{A:Option Addr}{c u:Nat}{xs:List t.den}{k1:IntKind}{p:Int}(hp:p=(u:Int))(h1:u≤xs.length)
  (h:AL r P ops Q rest C ((d,.slice (cutA A c u t.size) (xs.length-u) (c-u))::l) H)
  (hk1:hk H k=some (.own t e' A c xs):=by rfl) (hx:ev l x=some (.slice A xs.length c):=by rfl) (hlo:ev l lo=some (.int k1 p):=by rfl) (hS:szB P e=some t.size:=by kernel_rfl)
  (ht:P.underlying tt=some (.slice e):=by rfl) (hd:Nat.ble (d+1) C.n=true:=by rfl):AL r P ops Q (⟨some d,.slice tt x (some lo) none none,T,pos,af,none⟩::rest) C l H:=fun a w hf hh=>
 Z.val hf hd (r_slice_l ht (szB_run hS) (hf.eval hx) (hf.eval hlo) hp h1) fun a' hf'=>h a' w hf' hh
theorem Row.drop {t:Ty}{w:World}{F G:Nat→Prop}{A:Option Addr}{c u:Nat}{xs:List t.den}(h:Row t w F G A c xs)(hu:u≤xs.length):Row t w F G (cutA A c u t.size) (c-u) (xs.drop u):=by
 obtain⟨h2,h3,cells,h4,h5,h6⟩:=h
 refine⟨by rw[List.length_drop];omega,by omega,cells.drop (u*t.size),by rw[List.length_drop,List.length_drop,h4,Nat.sub_mul],?_,fun i x hi=>?_⟩
 ·rw[List.length_drop]
  by_cases hz:xs.length-u=0
  ·exact .inl hz
  ·rcases h5 with h5|⟨b,o,rfl,hb,hc⟩
   ·omega
   ·refine .inr ⟨b,o+u*t.size,by unfold cutA;rw[if_neg (by omega),Option.map_some,Addr.add_lit],hb,fun j v hv=>?_⟩
    rw[List.getElem?_drop]at hv
    rw[Nat.add_assoc];exact hc _ v hv
 ·rw[List.getElem?_drop]at hi
  rw[List.drop_drop,←Nat.add_mul]
  exact h6 _ x hi
theorem AL.ixw (k kn:Nat){t:Ty}{e':TypeId}{A:Option Addr}{c u n2:Nat}{xs:List t.den}{x y:Operand}{i:Int}{kd:IntKind}{v:t.den}{e tt:TypeId}(hi:ix (xs.drop u) i=some v)(hu:u≤xs.length)(hlen:n2-u=xs.length-u)
  (h:t.ok v→tele (lv t) fun ps=>∀b o,AL r P ops Q rest C ((d,.pointer (some ⟨b,o+i.toNat*t.size,none⟩))::l) (hcat (kx (kn+1) (rs t v ps)) ((kn,.el (some k) b (o+i.toNat*t.size) (cl t v ps))::H)))
  (hk1:hk H k=some (.own t e' A c xs):=by rfl) (hx:ev l x=some (.slice (cutA A c u t.size) (n2-u) (c-u)):=by rfl) (hy:ev l y=some (.int kd i):=by rfl) (ht:P.underlying tt=some (.slice e):=by rfl) (hs:szB P e=some t.size:=by kernel_rfl)
  (hd:Nat.ble (d+1) C.n=true:=by rfl) (hn:nok H kn (1+lv t)=true:=by kernel_rfl):AL r P ops Q (⟨some d,.indexAddr tt x y,T,pos,af,none⟩::rest) C l H:=
 AL.ixc (ko:=some k) (fun w hh=>by
  obtain⟨G,hR,hG⟩:=rowO hk1 w hh
  exact⟨G,hR.drop hu,hG⟩) (fun j h r hr=>by injection h with h;subst h;rw[hk1]at hr;injection hr with hr;subst hr;rfl) (by rw[hx,hlen,List.length_drop]) hy hi ht hs (fun ho=>tele_map (fun ps h b o _=>h b o) (h ho)) hd fun ps hl=>by rw[rs_len t v ps hl];exact hn
end
section
variable {C:Cx}{l:List (Nat×Value)}{H:List (Nat×Res)}{P:Program}
theorem vw {x:Operand}{A:Option Addr}{c n2 u:Nat}{α:Type}{xs:List α}(hx:ev l x=some (.slice A (n2-u) c))(h:n2-u=xs.length-u):ev l x=some (.slice A (xs.drop u).length c):=by rw[hx,h,List.length_drop]
theorem pkw {X:Act→World→Prop}(k kn:Nat){t:Ty}{e:TypeId}{A:Option Addr}{c u:Nat}{xs:List t.den}{i:Int}{v:t.den}(hi:ix (xs.drop u) i=some v)(hu:u≤xs.length)
  (h:t.ok v→tele (lv t) fun ps=>∀b o,cutA A c u t.size=some ⟨b,o,none⟩→∀a w,Fr a C.n C.ds l→Hp C (hcat (kx (kn+1) (rs t v ps)) ((kn,.el (some k) b (o+i.toNat*t.size) (cl t v ps))::H)) w→X a w)
  (hk1:hk H k=some (.own t e A c xs):=by rfl) (hn:nok H kn (1+lv t)=true:=by kernel_rfl): ∀a w,Fr a C.n C.ds l→Hp C H w→X a w:=fun a w hf hh=>by
 obtain⟨k',rfl,hv⟩:=ix_some hi
 obtain⟨G,hR,hG⟩:=rowO hk1 w hh
 obtain⟨b,o,es,hA,hb,hbl,hc,hr⟩:=(hR.drop hu).at hv
 obtain⟨ps,hl,rfl,hrs⟩:=rep_cl (B:=Bk H) t (rep_in t hr)
 have hnk:hk H kn=none:=nok_none hn (Nat.le_refl _) (by omega)
 have h1:Hp C ((kn,.el (some k) b (o+k'*t.size) (cl t v ps))::H) w:=hh.add hnk rfl (fun j hj r hr=>by injection hj with hj;subst hj;rw[hk1]at hr;injection hr with hr;subst hr;rfl) ⟨hc,hbl,hG b hb⟩
 have hn2:nok H (kn+1) (rs t v ps).length=true:=by
  rw[rs_len t v ps hl]
  rw[Nat.add_comm 1]at hn
  simp only[nok,Bool.and_eq_true]at hn;exact hn.2
 have hnn: ∀n k2,nok H k2 n=true→(∀j,k2≤j→j<k2+n→j≠kn)→nok ((kn,.el (some k) b (o+k'*t.size) (cl t v ps))::H) k2 n=true:=by
  intro n
  induction n with
  |zero=>intro _ _ _;rfl
  |succ n ih=>
   intro k2 h2 h3
   simp only[nok,Bool.and_eq_true]at h2 ⊢
   refine⟨?_,ih (k2+1) h2.2 fun j h4 h5=>h3 j (by omega) (by omega)⟩
   rw[hk_cons,if_neg (Ne.symm (h3 k2 (Nat.le_refl _) (by omega)))];exact h2.1
 have h2:Hp C (hcat (kx (kn+1) (rs t v ps)) ((kn,.el (some k) b (o+k'*t.size) (cl t v ps))::H)) w:=by
  refine h1.adds (hnn _ _ hn2 fun j h4 _=>by omega) fun r2 h4=>?_
  obtain⟨h5,h6,h7⟩:=hrs r2 h4
  have hbk: ∀j b',Bk ((kn,.el (some k) b (o+k'*t.size) (cl t v ps))::H) j b'↔Bk H j b':=fun j b'=>by
   by_cases hj:j=kn
   ·subst hj
    rw[Bk.cons_eq]
    exact⟨fun h=>by simp[Res.bl]at h,fun⟨_,h8,_⟩=>by rw[hnk]at h8;cases h8⟩
   ·exact Bk.cons_ne hj
  exact⟨h6,h7,Res.to h5 (S:=[]) (Ch.refl w) (fun b' hF _=>⟨by simp,⟨fun j hj=>hF.1.1 j ((hbk j b').1 hj),hF.1.2⟩,hF.2⟩) (fun b' hB _=>⟨by simp,fun j hj=>hB j ((hbk j b').1 hj)⟩) (fun i b' _ hB=>⟨by simp,(hbk i b').2 hB⟩) (by simp)⟩
 exact tele_at (h (rep_ok t hr)) ps hl b o hA a w hf (by rw[Int.toNat_natCast];exact h2)
theorem Dats.rep0 (H:List (Nat×Res)): ∀n,Dats H .byte (List.replicate n (.int .u8 0)) (List.replicate n 0)
 |0=>rfl
 |n+1=>⟨rfl,Dats.rep0 H n⟩
theorem bta0 {X:Act→World→Prop}(k:Nat)(js:List Nat){g:Nat}{T:TypeId}{cs:List Value}(n:Nat)(h: ∀a w,Fr a C.n C.ds l→Hp C ((k,.own .byte T (some ⟨g,0,none⟩) (List.replicate n (0:UInt8)).length (List.replicate n (0:UInt8)))::ded js H) w→X a w)
  (hk1:hk H k=some (.blk g T cs):=by rfl) (hcs:cs=List.replicate n (.int .u8 0):=by rfl) (hx:Nat.ble (List.replicate n (0:UInt8)).length 100000=true:=by rfl) (hj:hng [k] js H=true:=by kernel_rfl): ∀a w,Fr a C.n C.ds l→Hp C H w→X a w:=by
 subst hcs
 exact bta k js (t:=.byte) (List.replicate n (0:UInt8)) (Dats.rep0 H n) h hk1 hx hj
theorem cutpb {X:Act→World→Prop}(k kn:Nat){t:Ty}{A:Option Addr}{c:Nat}{xs:List t.den}(u v:Nat)(h1:u≤v)(h2:v≤xs.length)
  (h: ∀A' c',A'=cutA A c u t.size→c'=c-u→∀a w,Fr a C.n C.ds l→Hp C ((kn,.sh (.slice t) [.slice A' ((xs.take v).drop u).length c'] ((xs.take v).drop u))::H) w→X a w)
  (hk1:hk H k=some (.sh (.slice t) [.slice A xs.length c] xs):=by rfl) (hn:hk H kn=none:=by kernel_rfl): ∀a w,Fr a C.n C.ds l→Hp C H w→X a w:=fun a w hf hh=>by
 have hr:(Ty.slice t).rep w (Fh C H) [.slice A xs.length c] xs:=hh.hold k _ hk1
 have hlen:=rep_slice_len hr
 have hlen2:((xs.take v).drop u).length=v-u:=by rw[List.length_drop,List.length_take];omega
 have hr2:(Ty.slice t).rep w (Fh C H) [.slice (cutA A c u t.size) (v-u) (c-u)] ((xs.take v).drop u):=by
  refine rep_drop (rep_take hr h2) (by rw[List.length_take];omega) (by omega) (by omega) fun hlt ad hA=>?_
  rw[List.length_take]at hlt
  unfold cutA
  rw[if_neg (by omega),hA];rfl
 rw[←hlen2]at hr2
 exact h _ _ rfl rfl a w hf (hh.add hn rfl (fun j hj=>by cases hj) (rep_in _ hr2))
theorem r_cutb (k:Nat){a:Act}{w:World}{t:Ty}{tt e:TypeId}{x lo hi:Operand}{A A':Option Addr}{c c':Nat}{xs:List t.den}{k1 k2:IntKind}{p q:Int}{u v:Nat}{d:Option Tmp}{T:TypeId}{pos:String}{af:Array Edge}{gd:Option (Nat×Bool)}(hf:Fr a C.n C.ds l)(hh:Hp C H w)
  (hp:p=(u:Int)) (hq:q=(v:Int)) (h1:u≤v) (h2:v≤xs.length) (hA:A'=cutA A c u t.size) (hc:c'=c-u)
  (hk1:hk H k=some (.sh (.slice t) [.slice A xs.length c] xs):=by rfl) (hx:ev l x=some (.slice A xs.length c):=by rfl) (hlo:ev l lo=some (.int k1 p):=by rfl) (hhi:ev l hi=some (.int k2 q):=by rfl) (hS:szB P e=some t.size:=by kernel_rfl)
  (ht:P.underlying tt=some (.slice e):=by rfl):(execOp a.eval ⟨d,.slice tt x (some lo) (some hi) none,T,pos,af,gd⟩).run P w=.ok (.value (.slice A' ((xs.take v).drop u).length c')) w:=by
 subst hA;subst hc
 have hr:(Ty.slice t).rep w (Fh C H) [.slice A xs.length c] xs:=hh.hold k _ hk1
 have hlen:=rep_slice_len hr
 have hlen2:((xs.take v).drop u).length=v-u:=by rw[List.length_drop,List.length_take];omega
 rw[hlen2]
 exact r_slice_lh ht (szB_run hS) (hf.eval hx) (hf.eval hlo) (hf.eval hhi) hp hq h1 (by omega)
theorem r_bldA {a:Act}{w:World}{d:Option Tmp}{T:TypeId}{pos:String}{af:Array Edge}{gd:Option (Nat×Bool)}{n:Nat}{ds:List Deferred}{tt e:TypeId}{m:Nat}{z:Value}{ps:Array (Nat×Operand)}{vs:List (Nat×Value)}{cs:Array Value}(hf:Fr a n ds l)(hz: ∀w,(zeroValue tt).run P w=.ok z w)
  (ht:P.underlying tt=some (.array m e):=by rfl) (hS:szB P e=some 1:=by kernel_rfl) (hq:qps (ev l) ps.toList=some vs:=by rfl) (hc:Instr.fill (fun i=>some (i*1,1)) z.cells vs=some cs:=by rfl):
  (execOp a.eval ⟨d,.build tt ps,T,pos,af,gd⟩).run P w=.ok (.value (.agg cs)) w:=by
 have h1:=qps_eval (a:=a) (fun x v h=>hf.eval h) _ hq
 simp only[Array.toArray_toList]at h1
 simp only[execOp,Instr.build,h1]
 simp only[Sem.run_bind,hz,Result.andThen_ok,run_underlying ht,szB_run hS w,hc,Sem.run_pure]
end
theorem AH.nmY {r:Option Nat}{P:Program}{ops:Array Oper}{Q:Exit→Act→World→Prop}{S:World→Prop}{m f i:Nat}{li:List Bool}{C:Cx}{l:List (Nat×Value)}{H:List (Nat×Res)}(li':List Bool)(h:AH r P ops Q [] m f li' C l H)(hl:(li.toArray.setIfInBounds i true).toList=li':=by kernel_rfl)(hg:gn ops li'.toArray m=true:=by kernel_rfl):
  AL r P ops (HZ r P ops Q S m f li.toArray i) [] C l H:=fun a w hf hh=>by
 refine Z.done ?_
 show(_→S w)∧_
 have:=Hem.bh (S:=S) _ _ a w hg (h a w hf hh)
 rw[←hl,Array.toArray_toList]at this
 rw[←hl,Array.toArray_toList]at hg
 exact⟨fun h=>(by rw[hg]at h;cases h),this⟩
end Go.A
end
section
set_option linter.unusedVariables false
set_option linter.unusedSimpArgs false
set_option maxRecDepth 20000
set_option maxHeartbeats 8000000
set_option synthInstance.maxSize 1000000
set_option synthInstance.maxHeartbeats 400000
namespace Go.Proofs.YtbljnlkhebiniaaDoor
open Go.RowKit
def F.tstamp_Check_l1 (a0:D28):Nat→Int→Option Int
 |0,_=>none
 |f+1,y2=>if y2<4 then((A.ix [a0.2.2.1,a0.2.2.2.1,a0.2.2.2.2.1,a0.2.2.2.2.2] y2).bind fun x5=>(if(bif decide (x5<0)then true else decide ((1048576:Int)<x5))=true then(some 10)else(if(bif decide (a0.2.1≤y2)then decide (x5≠0)else false)=true then(some 10)else(A.gd (Z.R64 (y2+1)) ((F.tstamp_Check_l1 a0 f) (y2+1))))))else(some 0)
def F.tstamp_Check (a0:D28):Option Int:=if(bif bif bif decide (a0.1<0)then true else decide ((1073741824:Int)<a0.1)then true else decide (a0.2.1<0)then true else decide ((4:Int)<a0.2.1))=true then(some 10)else(F.tstamp_Check_l1 a0 A.FU 0)
theorem tstamp_Check_ok (a0:D28)(h0_:IntKind.i64.has a0.1)(h1_:IntKind.i64.has a0.2.1)(h2_:IntKind.i64.has a0.2.2.1)(h3_:IntKind.i64.has a0.2.2.2.1)(h4_:IntKind.i64.has a0.2.2.2.2.1)(h5_:IntKind.i64.has a0.2.2.2.2.2)(r:Int)(hF:F.tstamp_Check a0=some r):
    A.Ct Tryd.prog 36 [.agg #[.int .i64 a0.1,.int .i64 a0.2.1,.int .i64 a0.2.2.1,.int .i64 a0.2.2.2.1,.int .i64 a0.2.2.2.2.1,.int .i64 a0.2.2.2.2.2]] [] [] (fun v H'=>v=.int .i64 r∧H'=[]∧IntKind.i64.has r):=by
 refine A.Ct.enter Tryd.func36 rfl Tryd.ntmps36 rfl fun w0 F0=>?_
 rw[F.tstamp_Check]at hF
 refine A.xl 1 ?_
 refine A.AL.box 0 (cs:=[.int .i64 a0.1,.int .i64 a0.2.1,.int .i64 a0.2.2.1,.int .i64 a0.2.2.2.1,.int .i64 a0.2.2.2.2.1,.int .i64 a0.2.2.2.2.2]) fun g1=>?_
 refine A.q0 [] [] [.n] [] ?_
 refine A.dl 3 ?_
 refine A.q0 [0] [] [.n,.b 0 0,.n,.n,.sy .n,.sy (.b 0 0),.sy .n,.pk,.n,.sy .n,.sy (.b 0 1),.sy .n,.pk,.n,.sy .n,.sy (.b 0 1),.sy .n,.pk] [(22,.bool (bif bif bif decide (a0.1<0)then true else decide ((1073741824:Int)<a0.1)then true else decide (a0.2.1<0)then true else decide ((4:Int)<a0.2.1)))] ?_
 refine A.dx 1 ?_
 refine A.AX.cnb rfl hF (fun hb hF=>?_) (fun hb hF=>?_)
 ·refine A.xl 1 ?_
  refine A.q0 [] [] [.n] [(2,.int .i64 10)] ?_
  refine A.dx 1 ?_
  obtain rfl:=Option.some.inj hF
  exact A.rt1 [] ⟨rfl,rfl,(A.hasl .i64 (10) rfl)⟩
 refine A.xl 4 ?_
 refine A.q0 [0] [] [.n,.b 0 2,.n] [(24,.agg #[.int .i64 a0.2.2.1,.int .i64 a0.2.2.2.1,.int .i64 a0.2.2.2.2.1,.int .i64 a0.2.2.2.2.2]),(25,.int .i64 0)] ?_
 refine A.dx 2 ?_
 refine A.lp_ [1,24] [0] (fun f nl nh=>∃(y2:Int),nl=[(25,.int .i64 y2)]∧nh=[]∧IntKind.i64.has y2∧F.tstamp_Check_l1 a0 f y2=some r) ⟨0,rfl,rfl,(A.hasl .i64 (0) rfl),hF⟩ ?_
 rintro f4 _ _ ⟨y2,rfl,rfl,hy3,hF⟩
 rcases f4 with _|f4
 ·exact A.no0 hF
 rw[F.tstamp_Check_l1]at hF
 refine A.xl 1 ?_
 refine A.q0 [] [] [.n] [(26,.bool (decide (y2<4)))] ?_
 refine A.dx 2 ?_
 refine A.AX.cnd rfl hF (fun hb hF=>?_) (fun hb hF=>?_)
 ·refine A.xl 5 ?_
  refine A.q0 [] [] [.n] [(27,.int .i64 y2)] ?_
  obtain⟨x5,hv6,hF⟩:=A.bd_some hF
  refine A.AL.ixv (fun v:Int=>.int .i64 v) [a0.2.2.1,a0.2.2.2.1,a0.2.2.2.2.1,a0.2.2.2.2.2] hv6 ?_
  refine A.q0 [] [] [.n,.n] [(3,.int .i64 y2),(4,.int .i64 x5)] ?_
  refine A.dl 2 ?_
  refine A.q0 [] [] [.n,.n,.n,.sy .n,.sy .n,.pk,.n] [(35,.bool (bif decide (x5<0)then true else decide ((1048576:Int)<x5)))] ?_
  refine A.AL.cnd (j:=35) rfl hF (fun hF=>?_) (fun hF=>?_)
  ·refine A.q0 [] [] [.off,.off,.off,.off,.off,.off,.off,.off,.n] [(44,.bool true)] ?_
   refine A.dx 1 ?_
   refine A.AX.cnt rfl ?_
   refine A.xl 1 ?_
   refine A.q0 [] [] [.n] [(2,.int .i64 10)] ?_
   refine A.dx 1 ?_
   obtain rfl:=Option.some.inj hF
   exact A.rt1 [] ⟨rfl,rfl,(A.hasl .i64 (10) rfl)⟩
  refine A.q0 [0] [] [.on .n,.on .n,.on (.b 0 1),.on .n,.on .n,.sy .n,.sy .n,.on .pk,.n] [(44,.bool (bif decide (a0.2.1≤y2)then decide (x5≠0)else false))] ?_
  refine A.dx 1 ?_
  refine A.AX.cnb rfl hF (fun hb hF=>?_) (fun hb hF=>?_)
  ·refine A.xl 1 ?_
   refine A.q0 [] [] [.n] [(2,.int .i64 10)] ?_
   refine A.dx 1 ?_
   obtain rfl:=Option.some.inj hF
   exact A.rt1 [] ⟨rfl,rfl,(A.hasl .i64 (10) rfl)⟩
  refine A.xl 3 ?_
  obtain⟨hc7,hF⟩:=A.gd_some hF
  refine A.q [] [] [.n,.n] [Z.R64 (y2+1)] [(25,.int .i64 (y2+1))] hc7 ?_
  refine A.AL.done ?_
  exact A.j ⟨_,Nat.lt_succ_self _,⟨(y2+1),rfl,rfl,(Z.i64_has hc7),hF⟩⟩
 refine A.xl 3 ?_
 refine A.q0 [] [] [.n] [(2,.int .i64 0)] ?_
 refine A.dx 1 ?_
 obtain rfl:=Option.some.inj hF
 exact A.rt1 [] ⟨rfl,rfl,(A.hasl .i64 (0) rfl)⟩
def F.rec_Check_j1 (y2:Bool):Option Int:=if y2=true then(some 50)else(some 0)
def F.rec_Check (a0:D45):Option Int:=if(64:Int)<(a0.2.size:Int)then(F.rec_Check_j1 true)else((F.utf8_ValidString a0.2).bind fun r3=>(F.rec_Check_j1 (!r3)))
theorem rec_Check_ok (a0:D45)(h0_:IntKind.i64.has a0.1)(h1_:a0.2.size≤maxLen)(r:Int)(hF:F.rec_Check a0=some r):
    A.Ct Tryd.prog 75 [.agg #[.int .i64 a0.1,.string a0.2]] [(0,.el none 1 0 A.tabF),(1,.el none 2 0 A.tabA)] [] (fun v H'=>v=.int .i64 r∧H'=[]∧IntKind.i64.has r):=by
 refine A.Ct.enter Tryd.func75 rfl Tryd.ntmps75 rfl fun w0 F0=>?_
 rw[F.rec_Check]at hF
 refine A.xl 1 ?_
 refine A.AL.box 2 (cs:=[.int .i64 a0.1,.string a0.2]) fun g1=>?_
 refine A.q0 [] [] [.n] [] ?_
 refine A.dx 2 ?_
 refine A.AX.join [] [0,1] (fun nl nh=>∃(y2:Bool),nl=[(12,.bool y2)]∧nh=[]∧F.rec_Check_j1 y2=some r) ?_ ?_
 ·refine A.xl 0 ?_
  refine A.q0 [2] [] [.n,.b 0 1,.n,.n,.n] [(7,.bool (decide ((64:Int)<(a0.2.size:Int))))] ?_
  refine A.AL.cnp (j:=7) rfl hF (fun hb hF=>?_) (fun hb hF=>?_)
  ·refine A.q0 [] [] [.off,.off,.off,.off,.n] [(12,.bool true)] ?_
   refine A.AL.done ?_
   exact A.j ⟨true,rfl,rfl,hF⟩
  refine A.q0 [2] [] [.on .n,.on (.b 0 1)] [(9,.string a0.2)] ?_
  refine A.AL.on (dj:=7) rfl rfl ?_
  obtain⟨r3,hv4,hF⟩:=A.bd_some hF
  refine A.AL.call 3 [] (first:=[]) (cap:=[]) cf96 (utf8_ValidString_ok a0.2 h1_ r3 hv4) (.s 0 (.s 1 .nil)) ?_
  rintro _ _ ⟨rfl,rfl⟩
  refine⟨by kernel_rfl,?_⟩
  refine A.q0 [] [] [.on .n,.n] [(12,.bool (!r3))] ?_
  refine A.AL.done ?_
  exact A.j ⟨(!r3),rfl,rfl,hF⟩
 rintro _ _ ⟨y2,rfl,rfl,hF⟩
 rw[F.rec_Check_j1]at hF
 refine A.AX.cnb rfl hF (fun hb hF=>?_) (fun hb hF=>?_)
 ·refine A.xl 1 ?_
  refine A.q0 [] [] [.n] [(2,.int .i64 50)] ?_
  refine A.dx 1 ?_
  obtain rfl:=Option.some.inj hF
  exact A.rt1 [] ⟨rfl,rfl,(A.hasl .i64 (50) rfl)⟩
 refine A.xl 3 ?_
 refine A.q0 [] [] [.n] [(2,.int .i64 0)] ?_
 refine A.dx 1 ?_
 obtain rfl:=Option.some.inj hF
 exact A.rt1 [] ⟨rfl,rfl,(A.hasl .i64 (0) rfl)⟩
def F.rec_CheckBag_1 (a0:D57):Option Bool:=(F.rec_Check (a0.1.1,a0.1.2)).bind fun r2=>(some (decide (r2≠0)))
theorem rec_CheckBag_1_ok (a0:D57)(h0_:IntKind.i64.has a0.1.1)(h1_:a0.1.2.size≤maxLen)(h2_:IntKind.i64.has a0.2)(r:Bool)(hF:F.rec_CheckBag_1 a0=some r):
    A.Ct Tryd.prog 74 [.agg #[.int .i64 a0.1.1,.string a0.1.2,.int .i64 a0.2]] [(0,.el none 1 0 A.tabF),(1,.el none 2 0 A.tabA)] [] (fun v H'=>v=.bool r∧H'=[]):=by
 refine A.Ct.enter Tryd.func74 rfl Tryd.ntmps74 rfl fun w0 F0=>?_
 rw[F.rec_CheckBag_1]at hF
 refine A.xl 1 ?_
 refine A.AL.box 2 (cs:=[.int .i64 a0.1.1,.string a0.1.2,.int .i64 a0.2]) fun g1=>?_
 refine A.q0 [] [] [.n] [] ?_
 refine A.dl 2 ?_
 refine A.q0 [2] [] [.n,.b 0 0] [(4,.agg #[.int .i64 a0.1.1,.string a0.1.2])] ?_
 obtain⟨r2,hv3,hF⟩:=A.bd_some hF
 refine A.AL.call 3 [] (first:=[]) (cap:=[]) cf75 (rec_Check_ok (a0.1.1,a0.1.2) h0_ h1_ r2 hv3) (.s 0 (.s 1 .nil)) ?_
 rintro _ _ ⟨rfl,rfl,hr4⟩
 refine⟨by kernel_rfl,?_⟩
 refine A.q0 [] [] [.n,.n] [(2,.bool (decide (r2≠0)))] ?_
 refine A.dx 1 ?_
 obtain rfl:=Option.some.inj hF
 exact A.rt1 [] ⟨rfl,rfl⟩
def F.cmp_Or_int_l1 (a0:(List Int)):Nat→Int→Option Int
 |0,_=>none
 |f+1,y1=>if y1<((a0).length:Int)then((A.ix a0 y1).bind fun x4=>(if x4≠0 then(some x4)else(A.gd (Z.R64 (y1+1)) ((F.cmp_Or_int_l1 a0 f) (y1+1)))))else(some 0)
def F.cmp_Or_int (a0:(List Int)):Option Int:=F.cmp_Or_int_l1 a0 A.FU 0
theorem cmp_Or_int_ok (a0:(List Int))(A0_:Option Addr)(c1_:Nat)(r:Int)(hF:F.cmp_Or_int a0=some r):
    A.Ct Tryd.prog 45 [.slice A0_ ((a0).length) c1_] [(0,.ln (Z.Ty.int .i64) A0_ c1_ a0)] [] (fun v H'=>v=.int .i64 r∧H'=[]∧IntKind.i64.has r):=by
 refine A.Ct.enter Tryd.func45 rfl Tryd.ntmps45 rfl fun w0 F0=>?_
 rw[F.cmp_Or_int]at hF
 refine A.xl 1 ?_
 refine A.q0 [] [] [.n] [] ?_
 refine A.dl 2 ?_
 refine A.q0 [] [] [.n] [(3,.int .i64 0)] ?_
 refine A.dl 3 ?_
 refine A.q0 [] [] [.n,.n,.n] [(6,.slice A0_ ((a0).length) c1_),(7,.int .i64 ((a0).length:Int)),(8,.int .i64 0)] ?_
 refine A.dx 2 ?_
 refine A.lp_ [3,6,7] [0] (fun f nl nh=>∃(y1:Int),nl=[(8,.int .i64 y1)]∧nh=[]∧IntKind.i64.has y1∧F.cmp_Or_int_l1 a0 f y1=some r) ⟨0,rfl,rfl,(A.hasl .i64 (0) rfl),hF⟩ ?_
 rintro f3 _ _ ⟨y1,rfl,rfl,hy2,hF⟩
 rcases f3 with _|f3
 ·exact A.no0 hF
 rw[F.cmp_Or_int_l1]at hF
 refine A.xl 1 ?_
 refine A.q0 [] [] [.n] [(9,.bool (decide (y1<((a0).length:Int))))] ?_
 refine A.dx 2 ?_
 refine A.AX.cnd rfl hF (fun hb hF=>?_) (fun hb hF=>?_)
 ·refine A.xl 5 ?_
  obtain⟨x4,hv5,hF⟩:=A.bd_some hF
  refine A.AL.ixl 0 3 hv5 fun ho6=>?_
  intro b7 o8
  refine A.q0 [] [3] [.e 0 0,.n] [(5,.int .i64 x4)] ?_
  refine A.dl 2 ?_
  refine A.q0 [] [] [.n,.n,.n] [(14,.bool (decide (x4≠0)))] ?_
  refine A.dx 1 ?_
  refine A.AX.cnd rfl hF (fun hb hF=>?_) (fun hb hF=>?_)
  ·refine A.xl 1 ?_
   refine A.q0 [] [] [.n,.n] [(2,.int .i64 x4)] ?_
   refine A.dx 1 ?_
   obtain rfl:=Option.some.inj hF
   exact A.rt1 [] ⟨rfl,rfl,ho6⟩
  refine A.xl 3 ?_
  obtain⟨hc9,hF⟩:=A.gd_some hF
  refine A.q [] [] [.n,.n] [Z.R64 (y1+1)] [(8,.int .i64 (y1+1))] hc9 ?_
  refine A.AL.done ?_
  exact A.j ⟨_,Nat.lt_succ_self _,⟨(y1+1),rfl,rfl,(Z.i64_has hc9),hF⟩⟩
 refine A.xl 3 ?_
 refine A.q0 [] [] [.n,.n] [(2,.int .i64 0)] ?_
 refine A.dx 1 ?_
 obtain rfl:=Option.some.inj hF
 exact A.rt1 [] ⟨rfl,rfl,(A.hasl .i64 (0) rfl)⟩
def F.cmp_isNaN_int64 (a0:Int):Option Bool:=some (decide (a0≠a0))
theorem cmp_isNaN_int64_ok (a0:Int)(h0_:IntKind.i64.has a0)(r:Bool)(hF:F.cmp_isNaN_int64 a0=some r):
    A.Ct Tryd.prog 84 [.int .i64 a0] [] [] (fun v H'=>v=.bool r∧H'=[]):=by
 refine A.Ct.enter Tryd.func84 rfl Tryd.ntmps84 rfl fun w0 F0=>?_
 rw[F.cmp_isNaN_int64]at hF
 refine A.xl 1 ?_
 refine A.q0 [] [] [.n] [] ?_
 refine A.dl 2 ?_
 refine A.q0 [] [] [.n,.n,.n,.n] [(2,.bool (decide (a0≠a0)))] ?_
 refine A.dx 1 ?_
 obtain rfl:=Option.some.inj hF
 exact A.rt1 [] ⟨rfl,rfl⟩
def F.cmp_Compare_int64 (a0:Int)(a1:Int):Option Int:=(F.cmp_isNaN_int64 a0).bind fun r1=>((F.cmp_isNaN_int64 a1).bind fun r3=>(if r1=true then(if r3=true then(some 0)else(some (-1)))else(if r3=true then(some 1)else(if a0<a1 then(some (-1))else(if a1<a0 then(some 1)else(some 0))))))
theorem cmp_Compare_int64_ok (a0:Int)(a1:Int)(h0_:IntKind.i64.has a0)(h1_:IntKind.i64.has a1)(r:Int)(hF:F.cmp_Compare_int64 a0 a1=some r):
    A.Ct Tryd.prog 46 [.int .i64 a0,.int .i64 a1] [] [] (fun v H'=>v=.int .i64 r∧H'=[]∧IntKind.i64.has r):=by
 refine A.Ct.enter Tryd.func46 rfl Tryd.ntmps46 rfl fun w0 F0=>?_
 rw[F.cmp_Compare_int64]at hF
 refine A.xl 1 ?_
 refine A.q0 [] [] [.n] [] ?_
 refine A.dl 2 ?_
 refine A.q0 [] [] [.n] [(7,.int .i64 a0)] ?_
 obtain⟨r1,hv2,hF⟩:=A.bd_some hF
 refine A.AL.call 0 [] (first:=[]) (cap:=[]) cf84 (cmp_isNaN_int64_ok a0 h0_ r1 hv2) .nil ?_
 rintro _ _ ⟨rfl,rfl⟩
 refine⟨by kernel_rfl,?_⟩
 refine A.q0 [] [] [.n] [(5,.bool r1)] ?_
 refine A.dl 2 ?_
 refine A.q0 [] [] [.n] [(9,.int .i64 a1)] ?_
 obtain⟨r3,hv4,hF⟩:=A.bd_some hF
 refine A.AL.call 40 [] (first:=[]) (cap:=[]) cf84 (cmp_isNaN_int64_ok a1 h1_ r3 hv4) .nil ?_
 rintro _ _ ⟨rfl,rfl⟩
 refine⟨by kernel_rfl,?_⟩
 refine A.q0 [] [] [.n] [(6,.bool r3)] ?_
 refine A.dl 3 ?_
 refine A.q0 [] [] [.n] [(11,.bool r1)] ?_
 refine A.dx 1 ?_
 refine A.AX.cnb rfl hF (fun hb hF=>?_) (fun hb hF=>?_)
 ·refine A.xl 2 ?_
  refine A.q0 [] [] [.n] [(12,.bool r3)] ?_
  refine A.dx 1 ?_
  refine A.AX.cnb rfl hF (fun hb hF=>?_) (fun hb hF=>?_)
  ·refine A.xl 1 ?_
   refine A.q0 [] [] [.n] [(4,.int .i64 0)] ?_
   refine A.dx 1 ?_
   obtain rfl:=Option.some.inj hF
   exact A.rt1 [] ⟨rfl,rfl,(A.hasl .i64 (0) rfl)⟩
  refine A.xl 3 ?_
  refine A.q0 [] [] [.n] [(4,.int .i64 (-1))] ?_
  refine A.dx 1 ?_
  obtain rfl:=Option.some.inj hF
  exact A.rt1 [] ⟨rfl,rfl,(A.hasl .i64 (-1) rfl)⟩
 refine A.xl 4 ?_
 refine A.q0 [] [] [.n] [(13,.bool r3)] ?_
 refine A.dx 1 ?_
 refine A.AX.cnb rfl hF (fun hb hF=>?_) (fun hb hF=>?_)
 ·refine A.xl 1 ?_
  refine A.q0 [] [] [.n] [(4,.int .i64 1)] ?_
  refine A.dx 1 ?_
  obtain rfl:=Option.some.inj hF
  exact A.rt1 [] ⟨rfl,rfl,(A.hasl .i64 (1) rfl)⟩
 refine A.xl 4 ?_
 refine A.q0 [] [] [.n,.n,.n] [(16,.bool (decide (a0<a1)))] ?_
 refine A.dx 1 ?_
 refine A.AX.cnd rfl hF (fun hb hF=>?_) (fun hb hF=>?_)
 ·refine A.xl 1 ?_
  refine A.q0 [] [] [.n] [(4,.int .i64 (-1))] ?_
  refine A.dx 1 ?_
  obtain rfl:=Option.some.inj hF
  exact A.rt1 [] ⟨rfl,rfl,(A.hasl .i64 (-1) rfl)⟩
 refine A.xl 4 ?_
 refine A.q0 [] [] [.n,.n,.n] [(19,.bool (decide (a1<a0)))] ?_
 refine A.dx 1 ?_
 refine A.AX.cnd rfl hF (fun hb hF=>?_) (fun hb hF=>?_)
 ·refine A.xl 1 ?_
  refine A.q0 [] [] [.n] [(4,.int .i64 1)] ?_
  refine A.dx 1 ?_
  obtain rfl:=Option.some.inj hF
  exact A.rt1 [] ⟨rfl,rfl,(A.hasl .i64 (1) rfl)⟩
 refine A.xl 3 ?_
 refine A.q0 [] [] [.n] [(4,.int .i64 0)] ?_
 refine A.dx 1 ?_
 obtain rfl:=Option.some.inj hF
 exact A.rt1 [] ⟨rfl,rfl,(A.hasl .i64 (0) rfl)⟩
def F.rec_Compare (a0:D45)(a1:D45):Option Int:=(F.cmp_Compare_int64 a0.1 a1.1).bind fun r3=>((F.strings_Compare a0.2 a1.2).bind fun r6=>((F.cmp_Or_int [r3,r6]).bind fun r10=>(some r10)))
theorem rec_Compare_ok (a0:D45)(a1:D45)(h0_:IntKind.i64.has a0.1)(h1_:a0.2.size≤maxLen)(h2_:IntKind.i64.has a1.1)(h3_:a1.2.size≤maxLen)(r:Int)(hF:F.rec_Compare a0 a1=some r):
    A.Ct Tryd.prog 25 [.agg #[.int .i64 a0.1,.string a0.2],.agg #[.int .i64 a1.1,.string a1.2]] [] [] (fun v H'=>v=.int .i64 r∧H'=[]∧IntKind.i64.has r):=by
 refine A.Ct.enter Tryd.func25 rfl Tryd.ntmps25 rfl fun w0 F0=>?_
 rw[F.rec_Compare]at hF
 refine A.xl 1 ?_
 refine A.AL.box 0 (cs:=[.int .i64 a0.1,.string a0.2]) fun g1=>?_
 refine A.AL.box 1 (cs:=[.int .i64 a1.1,.string a1.2]) fun g2=>?_
 refine A.q0 [] [] [.n] [] ?_
 refine A.dx 2 ?_
 refine A.AX.dr mixed 13 13 (A.mb 13 0) ?_
 refine A.hq A.pb [] [0,1] [0,1] [] (A.mb 13 495) 5 [(0,.n),(2,.n),(5,.n),(7,.n),(1,.b 0 0),(3,.b 1 0),(6,.b 0 1),(8,.b 1 1)] [(6,.int .i64 a0.1),(8,.int .i64 a1.1),(11,.string a0.2),(13,.string a1.2)] ?_
 refine A.AH.one 4 ?_
 obtain⟨r3,hv4,hF⟩:=A.bd_some hF
 refine A.AL.call 2 [] (first:=[]) (cap:=[]) cf46 (cmp_Compare_int64_ok a0.1 a1.1 h0_ h2_ r3 hv4) .nil ?_
 rintro _ _ ⟨rfl,rfl,hr5⟩
 refine⟨by kernel_rfl,?_⟩
 refine A.AH.nx (A.mb 13 511) [0,1] ?_
 refine A.AH.one 9 ?_
 obtain⟨r6,hv7,hF⟩:=A.bd_some hF
 refine A.AL.call 42 [] (first:=[]) (cap:=[]) cf47 (strings_Compare_ok a0.2 a1.2 h1_ h3_ r6 hv7) .nil ?_
 rintro _ _ ⟨rfl,rfl,hr8⟩
 refine⟨by kernel_rfl,?_⟩
 refine A.AH.nx (A.mb 13 1023) [0,1] ?_
 refine A.AH.one 10 ?_
 refine A.AL.bsl 82 (ty:=(Z.Ty.int .i64)) (cs:=[.int .i64 r3,.int .i64 r6]) [r3,r6] ⟨⟨rfl,hr5⟩,⟨⟨rfl,hr8⟩,rfl⟩⟩ (fun g9=>?_) Tryd.zeroValue3 Tryd.sizeOf3
 refine A.AH.nx (A.mb 13 2047) [0,1] ?_
 refine A.AH.one 11 ?_
 obtain⟨r10,hv11,hF⟩:=A.bd_some hF
 refine A.AL.call 83 [] (first:=[]) (cap:=[]) cf45 (cmp_Or_int_ok [r3,r6] (some ⟨g9,0,none⟩) 2 r10 hv11) (.o 82 .nil) ?_
 rintro _ _ ⟨rfl,rfl,hr12⟩
 refine⟨by kernel_rfl,?_⟩
 refine A.AH.nx (A.mb 13 4095) [0,1] ?_
 refine A.hq A.pb [0,1] [0,1,82] [] [] (A.mb 13 8191) 0 [(12,.n)] [(4,.int .i64 r10)] ?_
 refine A.AH.done ?_
 refine A.ex 1 ?_
 obtain rfl:=Option.some.inj hF
 exact A.rt1 [] ⟨rfl,rfl,hr12⟩
def F.slices_IndexFunc_api_Many_api_Many_rec_CheckBag_1_l1 (a0:(List D57)):Nat→Int→Option Int
 |0,_=>none
 |f+1,y1=>if y1<((a0).length:Int)then((A.ix a0 y1).bind fun x4=>((F.rec_CheckBag_1 ((x4.1.1,x4.1.2),x4.2)).bind fun r9=>(if r9=true then(some y1)else(A.gd (Z.R64 (y1+1)) ((F.slices_IndexFunc_api_Many_api_Many_rec_CheckBag_1_l1 a0 f) (y1+1))))))else(some (-1))
def F.slices_IndexFunc_api_Many_api_Many_rec_CheckBag_1 (a0:(List D57)):Option Int:=F.slices_IndexFunc_api_Many_api_Many_rec_CheckBag_1_l1 a0 A.FU 0
theorem slices_IndexFunc_api_Many_api_Many_rec_CheckBag_1_ok (a0:(List D57))(A0_:Option Addr)(c1_:Nat)(r:Int)(hF:F.slices_IndexFunc_api_Many_api_Many_rec_CheckBag_1 a0=some r):
    A.Ct Tryd.prog 98 [.slice A0_ ((a0).length) c1_,.func (.func 74) #[] #[]] [(0,.ln T57 A0_ c1_ a0),(1,.el none 1 0 A.tabF),(2,.el none 2 0 A.tabA)] [] (fun v H'=>v=.int .i64 r∧H'=[]∧IntKind.i64.has r):=by
 refine A.Ct.enter Tryd.func98 rfl Tryd.ntmps98 rfl fun w0 F0=>?_
 rw[F.slices_IndexFunc_api_Many_api_Many_rec_CheckBag_1]at hF
 refine A.xl 1 ?_
 refine A.q0 [] [] [.n] [] ?_
 refine A.dl 3 ?_
 refine A.q0 [] [] [.n,.n,.n] [(7,.int .i64 ((a0).length:Int)),(8,.int .i64 0)] ?_
 refine A.dx 2 ?_
 refine A.lp_ [0,1,7] [0,1,2] (fun f nl nh=>∃(y1:Int),nl=[(8,.int .i64 y1)]∧nh=[]∧IntKind.i64.has y1∧F.slices_IndexFunc_api_Many_api_Many_rec_CheckBag_1_l1 a0 f y1=some r) ⟨0,rfl,rfl,(A.hasl .i64 (0) rfl),hF⟩ ?_
 rintro f3 _ _ ⟨y1,rfl,rfl,hy2,hF⟩
 rcases f3 with _|f3
 ·exact A.no0 hF
 rw[F.slices_IndexFunc_api_Many_api_Many_rec_CheckBag_1_l1]at hF
 refine A.xl 1 ?_
 refine A.q0 [] [] [.n] [(9,.bool (decide (y1<((a0).length:Int))))] ?_
 refine A.dx 2 ?_
 refine A.AX.cnd rfl hF (fun hb hF=>?_) (fun hb hF=>?_)
 ·refine A.xl 5 ?_
  refine A.q0 [] [] [.n,.n] [(5,.int .i64 y1)] ?_
  refine A.dl 2 ?_
  refine A.q0 [] [] [.n,.n,.n] [(11,.func (.func 74) #[] #[]),(12,.slice A0_ ((a0).length) c1_),(13,.int .i64 y1)] ?_
  obtain⟨x4,hv5,hF⟩:=A.bd_some hF
  refine A.AL.ixl 0 85 hv5 fun ho6=>?_
  intro b7 o8
  refine A.q0 [] [85] [.e 0 0] [(15,.agg #[.int .i64 x4.1.1,.string x4.1.2,.int .i64 x4.2])] ?_
  obtain⟨r9,hv10,hF⟩:=A.bd_some hF
  refine A.AL.call 86 [] (first:=[]) (cap:=[]) cf74 (rec_CheckBag_1_ok ((x4.1.1,x4.1.2),x4.2) ho6.1.1 ho6.1.2 ho6.2 r9 hv10) (.s 1 (.s 2 .nil)) ?_
  rintro _ _ ⟨rfl,rfl⟩
  refine⟨by kernel_rfl,?_⟩
  refine A.dx 1 ?_
  refine A.AX.cnb rfl hF (fun hb hF=>?_) (fun hb hF=>?_)
  ·refine A.xl 1 ?_
   refine A.q0 [] [] [.n,.n] [(4,.int .i64 y1)] ?_
   refine A.dx 1 ?_
   obtain rfl:=Option.some.inj hF
   exact A.rt1 [] ⟨rfl,rfl,hy2⟩
  refine A.xl 3 ?_
  obtain⟨hc11,hF⟩:=A.gd_some hF
  refine A.q [] [] [.n,.n] [Z.R64 (y1+1)] [(8,.int .i64 (y1+1))] hc11 ?_
  refine A.AL.done ?_
  exact A.j ⟨_,Nat.lt_succ_self _,⟨(y1+1),rfl,rfl,(Z.i64_has hc11),hF⟩⟩
 refine A.xl 3 ?_
 refine A.q0 [] [] [.n] [(4,.int .i64 (-1))] ?_
 refine A.dx 1 ?_
 obtain rfl:=Option.some.inj hF
 exact A.rt1 [] ⟨rfl,rfl,(A.hasl .i64 (-1) rfl)⟩
def F.slices_ContainsFunc_api_Many_api_Many_rec_CheckBag_1 (a0:(List D57)):Option Bool:=(F.slices_IndexFunc_api_Many_api_Many_rec_CheckBag_1 a0).bind fun r1=>(some (decide ((0:Int)≤r1)))
theorem slices_ContainsFunc_api_Many_api_Many_rec_CheckBag_1_ok (a0:(List D57))(A0_:Option Addr)(c1_:Nat)(r:Bool)(hF:F.slices_ContainsFunc_api_Many_api_Many_rec_CheckBag_1 a0=some r):
    A.Ct Tryd.prog 73 [.slice A0_ ((a0).length) c1_,.func (.func 74) #[] #[]] [(0,.ln T57 A0_ c1_ a0),(1,.el none 1 0 A.tabF),(2,.el none 2 0 A.tabA)] [] (fun v H'=>v=.bool r∧H'=[]):=by
 refine A.Ct.enter Tryd.func73 rfl Tryd.ntmps73 rfl fun w0 F0=>?_
 rw[F.slices_ContainsFunc_api_Many_api_Many_rec_CheckBag_1]at hF
 refine A.xl 1 ?_
 refine A.q0 [] [] [.n] [] ?_
 refine A.dl 2 ?_
 refine A.q0 [] [] [.n,.n] [(5,.slice A0_ ((a0).length) c1_),(6,.func (.func 74) #[] #[])] ?_
 obtain⟨r1,hv2,hF⟩:=A.bd_some hF
 refine A.AL.call 3 [] (first:=[]) (cap:=[]) cf98 (slices_IndexFunc_api_Many_api_Many_rec_CheckBag_1_ok a0 A0_ c1_ r1 hv2) (.s 0 (.s 1 (.s 2 .nil))) ?_
 rintro _ _ ⟨rfl,rfl,hr3⟩
 refine⟨by kernel_rfl,?_⟩
 refine A.q0 [] [] [.n,.n] [(4,.bool (decide ((0:Int)≤r1)))] ?_
 refine A.dx 1 ?_
 obtain rfl:=Option.some.inj hF
 exact A.rt1 [] ⟨rfl,rfl⟩
def F.rec_CheckBag_j1 (k1:Int→Option Int)(y3:Int)(y12:Bool):Option Int:=if y12=true then(some 51)else(A.gd (Z.R64 (y3+1)) (k1 (y3+1)))
def F.rec_CheckBag_l2 (a0:(List D57)):Nat→Int→Option Int
 |0,_=>none
 |f+1,y3=>if y3<((a0).length:Int)then((A.ix a0 y3).bind fun x6=>(if(bif decide (x6.2<1)then true else decide ((1048576:Int)<x6.2))=true then(F.rec_CheckBag_j1 (F.rec_CheckBag_l2 a0 f) y3 true)else(if(0:Int)<y3 then(A.gd (Z.R64 (y3-1)) ((A.ix a0 (y3-1)).bind fun x15=>((F.rec_Compare (x15.1.1,x15.1.2) (x6.1.1,x6.1.2)).bind fun r21=>(F.rec_CheckBag_j1 (F.rec_CheckBag_l2 a0 f) y3 (decide ((0:Int)≤r21))))))else(F.rec_CheckBag_j1 (F.rec_CheckBag_l2 a0 f) y3 false))))else(some 0)
def F.rec_CheckBag (a0:(List D57)):Option Int:=(F.slices_ContainsFunc_api_Many_api_Many_rec_CheckBag_1 a0).bind fun r1=>(if r1=true then(some 50)else(F.rec_CheckBag_l2 a0 A.FU 0))
theorem rec_CheckBag_ok (a0:(List D57))(A0_:Option Addr)(c1_:Nat)(r:Int)(hF:F.rec_CheckBag a0=some r):
    A.Ct Tryd.prog 37 [.slice A0_ ((a0).length) c1_] [(0,.ln T57 A0_ c1_ a0),(1,.el none 1 0 A.tabF),(2,.el none 2 0 A.tabA)] [] (fun v H'=>v=.int .i64 r∧H'=[]∧IntKind.i64.has r):=by
 refine A.Ct.enter Tryd.func37 rfl Tryd.ntmps37 rfl fun w0 F0=>?_
 rw[F.rec_CheckBag]at hF
 refine A.xl 1 ?_
 refine A.q0 [] [] [.n] [] ?_
 refine A.dl 3 ?_
 refine A.q0 [] [] [.n] [(5,.slice A0_ ((a0).length) c1_)] ?_
 obtain⟨r1,hv2,hF⟩:=A.bd_some hF
 refine A.AL.call 3 [] (first:=[]) (cap:=[]) cf73 (slices_ContainsFunc_api_Many_api_Many_rec_CheckBag_1_ok a0 A0_ c1_ r1 hv2) (.s 0 (.s 1 (.s 2 .nil))) ?_
 rintro _ _ ⟨rfl,rfl⟩
 refine⟨by kernel_rfl,?_⟩
 refine A.dx 1 ?_
 refine A.AX.cnb rfl hF (fun hb hF=>?_) (fun hb hF=>?_)
 ·refine A.xl 1 ?_
  refine A.q0 [] [] [.n] [(2,.int .i64 50)] ?_
  refine A.dx 1 ?_
  obtain rfl:=Option.some.inj hF
  exact A.rt1 [] ⟨rfl,rfl,(A.hasl .i64 (50) rfl)⟩
 refine A.xl 4 ?_
 refine A.q0 [] [] [.n,.n,.n] [(7,.slice A0_ ((a0).length) c1_),(8,.int .i64 ((a0).length:Int)),(9,.int .i64 0)] ?_
 refine A.dx 2 ?_
 refine A.lp_ [0,7,8] [0,1,2] (fun f nl nh=>∃(y3:Int),nl=[(9,.int .i64 y3)]∧nh=[]∧IntKind.i64.has y3∧F.rec_CheckBag_l2 a0 f y3=some r) ⟨0,rfl,rfl,(A.hasl .i64 (0) rfl),hF⟩ ?_
 rintro f5 _ _ ⟨y3,rfl,rfl,hy4,hF⟩
 rcases f5 with _|f5
 ·exact A.no0 hF
 rw[F.rec_CheckBag_l2]at hF
 refine A.xl 1 ?_
 refine A.q0 [] [] [.n] [(10,.bool (decide (y3<((a0).length:Int))))] ?_
 refine A.dx 2 ?_
 refine A.AX.cnd rfl hF (fun hb hF=>?_) (fun hb hF=>?_)
 ·refine A.xl 5 ?_
  refine A.q0 [] [] [.n] [(11,.int .i64 y3)] ?_
  obtain⟨x6,hv7,hF⟩:=A.bd_some hF
  refine A.AL.ixl 0 129 hv7 fun ho8=>?_
  intro b9 o10
  refine A.q0 [] [129] [.e 0 0] [(13,.agg #[.int .i64 x6.1.1,.string x6.1.2,.int .i64 x6.2])] ?_
  refine A.AL.alloc 130 (cs:=[.int .i64 0,.string (ByteArray.mk #[]),.int .i64 0]) Tryd.zeroValue58 fun g11=>?_
  refine A.q0 [] [] [.n] [(3,.int .i64 y3)] ?_
  refine A.sw 130 [] [.int .i64 x6.1.1,.string x6.1.2,.int .i64 x6.2] ?_
  refine A.dx 1 ?_
  refine A.AX.join [0,7,8,9] [0,1,2] (fun nl nh=>∃(y12:Bool),nl=[(37,.bool y12)]∧nh=[]∧F.rec_CheckBag_j1 (F.rec_CheckBag_l2 a0 f5) y3 y12=some r) ?_ ?_
  ·refine A.AX.dr mixed 24 24 (A.mb 24 0) ?_
   refine A.hq A.pb [] [0,1,2,129,130] [130] [] (A.mb 24 511) 15 [(0,.n),(1,.b 0 2),(2,.n),(3,.n),(4,.sy .n),(5,.sy (.b 0 2)),(6,.sy .n),(7,.pk),(8,.n)] [(22,.bool (bif decide (x6.2<1)then true else decide ((1048576:Int)<x6.2)))] ?_
   refine A.AH.cnd (j:=22) rfl hF (fun hF=>?_) (fun hF=>?_)
   ·refine A.hq A.pb [0,1,2,129,130] [0,1,2,129,130] [] [] (A.mb 24 16777215) 0 [(9,.off),(10,.off),(11,.off),(12,.off),(13,.off),(18,.off),(14,.off),(19,.off),(15,.off),(16,.off),(17,.off),(20,.off),(21,.off),(22,.off),(23,.n)] [(37,.bool true)] ?_
    refine A.AH.done ?_
    exact A.j ⟨true,rfl,rfl,hF⟩
   refine A.hq A.pb [0,1,2,129,130] [0,1,2,129,130] [] [] (A.mb 24 4095) 12 [(9,.on .n),(10,.on .n),(11,.on .n)] [(25,.bool (decide ((0:Int)<y3)))] ?_
   refine A.AH.cnp (j:=25) rfl hF (fun hb hF=>?_) (fun hb hF=>?_)
   ·obtain⟨hc14,hF⟩:=A.gd_some hF
    refine A.AH.q A.pb [0,1,2,129,130] [0,1,2,129,130] [130] [] (A.mb 24 819199) 7 [(12,.on .n),(13,.on .n),(18,.on .n),(14,.on .n),(19,.on (.b 0 0))] [26,28,33] [Z.R64 (y3-1)] [(26,.slice A0_ ((a0).length) c1_),(28,.int .i64 (y3-1)),(33,.agg #[.int .i64 x6.1.1,.string x6.1.2])] hc14 ?_
    obtain⟨x15,hv16,hF⟩:=A.bd_some hF
    refine A.AH.pkl 0 131 hv16 fun ho17=>?_
    intro b19 o20 hA18
    refine A.AH.vg A.pb [0,1,2,129,130] [0,1,2,129,130,131] 15 (A.mb 24 851967) (dj:=25) rfl (fun a w hf hh=>A.r_ixa (t:=T57) hv16 hA18 hf) ?_
    refine A.hq A.pb [0,1,2,129,130,131] [0,1,2,129,130,131] [] [131] (A.mb 24 1048575) 4 [(16,.on .n),(17,.on (.e 0 0))] [(31,.agg #[.int .i64 x15.1.1,.string x15.1.2])] ?_
    refine A.AH.one 20 ?_
    refine A.AL.on (dj:=25) rfl rfl ?_
    obtain⟨r21,hv22,hF⟩:=A.bd_some hF
    refine A.AL.call 132 [] (first:=[]) (cap:=[]) cf25 (rec_Compare_ok (x15.1.1,x15.1.2) (x6.1.1,x6.1.2) ho17.1.1 ho17.1.2 ho8.1.1 ho8.1.2 r21 hv22) .nil ?_
    rintro _ _ ⟨rfl,rfl,hr23⟩
    refine⟨by kernel_rfl,?_⟩
    refine A.AH.nx (A.mb 24 2097151) [0,1,2,129,130,131] ?_
    refine A.hq A.pb [0,1,2,129,130,131] [0,1,2,129,130,131] [] [] (A.mb 24 16777215) 0 [(21,.on .n),(22,.on .n),(23,.n)] [(37,.bool (decide ((0:Int)≤r21)))] ?_
    refine A.AH.done ?_
    exact A.j ⟨(decide ((0:Int)≤r21)),rfl,rfl,hF⟩
   refine A.hq A.pb [0,1,2,129,130] [0,1,2,129,130] [] [] (A.mb 24 16777215) 0 [(12,.off),(13,.off),(18,.off),(14,.off),(19,.off),(15,.off),(16,.off),(17,.off),(20,.off),(21,.off),(22,.on .n),(23,.n)] [(37,.bool false)] ?_
   refine A.AH.done ?_
   exact A.j ⟨false,rfl,rfl,hF⟩
  rintro _ _ ⟨y12,rfl,rfl,hF⟩
  rw[F.rec_CheckBag_j1]at hF
  refine A.AX.cnb rfl hF (fun hb hF=>?_) (fun hb hF=>?_)
  ·refine A.xl 1 ?_
   refine A.q0 [] [] [.n] [(2,.int .i64 51)] ?_
   refine A.dx 1 ?_
   obtain rfl:=Option.some.inj hF
   exact A.rt1 [] ⟨rfl,rfl,(A.hasl .i64 (51) rfl)⟩
  refine A.xl 3 ?_
  obtain⟨hc13,hF⟩:=A.gd_some hF
  refine A.q [] [] [.n,.n] [Z.R64 (y3+1)] [(9,.int .i64 (y3+1))] hc13 ?_
  refine A.AL.done ?_
  exact A.j ⟨_,Nat.lt_succ_self _,⟨(y3+1),rfl,rfl,(Z.i64_has hc13),hF⟩⟩
 refine A.xl 3 ?_
 refine A.q0 [] [] [.n] [(2,.int .i64 0)] ?_
 refine A.dx 1 ?_
 obtain rfl:=Option.some.inj hF
 exact A.rt1 [] ⟨rfl,rfl,(A.hasl .i64 (0) rfl)⟩
end Go.Proofs.YtbljnlkhebiniaaDoor
end
section
set_option linter.unusedVariables false
set_option linter.unusedSimpArgs false
set_option maxRecDepth 20000
set_option maxHeartbeats 8000000
set_option synthInstance.maxSize 1000000
set_option synthInstance.maxHeartbeats 400000
namespace Go.Proofs.YtbljnlkhebiniaaDoor
open Go.RowKit
def F.oper_entry_j1 (y3:Bool):Option Bool:=some y3
def F.oper_entry (a0:D25)(a1:D41):Option Bool:=if a1.1≠a0.1 then(some false)else(if a0.2.1=11 then(some (bif bif decide (a1.2.2.1=(ByteArray.mk #[]))then decide ((0:Int)≤a1.2.2.2)else false then decide (a1.2.2.2≤1099511627776)else false))else(if a0.2.1=16 then(if a1.2.2.2=1 then((F.rec_Check (a1.2.1,a1.2.2.1)).bind fun r4=>(F.oper_entry_j1 (decide (r4=0))))else(F.oper_entry_j1 false))else(some false)))
theorem oper_entry_ok (a0:D25)(a1:D41)(A2_:Option Addr)(c3_:Nat)(h0_:IntKind.i64.has a0.1)(h1_:IntKind.i64.has a0.2.1)(h4_:IntKind.i64.has a0.2.2.2.1.1)(h5_:IntKind.i64.has a0.2.2.2.1.2.1)(h6_:a0.2.2.2.1.2.2.size≤maxLen)(h7_:a0.2.2.2.2.1.size≤maxLen)(h8_:IntKind.i64.has a0.2.2.2.2.2.1)(h9_:IntKind.i64.has a0.2.2.2.2.2.2)(h10_:IntKind.i64.has a1.1)(h11_:IntKind.i64.has a1.2.1)(h12_:a1.2.2.1.size≤maxLen)(h13_:IntKind.i64.has a1.2.2.2)(r:Bool)(hF:F.oper_entry a0 a1=some r):
    A.Ct Tryd.prog 76 [.agg #[.int .i64 a0.1,.int .i64 a0.2.1,.slice A2_ ((a0.2.2.1).length) c3_,.int .i64 a0.2.2.2.1.1,.int .i64 a0.2.2.2.1.2.1,.string a0.2.2.2.1.2.2,.string a0.2.2.2.2.1,.int .i64 a0.2.2.2.2.2.1,.int .i64 a0.2.2.2.2.2.2],.agg #[.int .i64 a1.1,.int .i64 a1.2.1,.string a1.2.2.1,.int .i64 a1.2.2.2]] [(0,.sh (.slice (Z.Ty.int .i64)) [.slice A2_ (a0.2.2.1).length c3_] a0.2.2.1),(1,.el none 1 0 A.tabF),(2,.el none 2 0 A.tabA)] [] (fun v H'=>v=.bool r∧H'=[]):=by
 refine A.Ct.enter Tryd.func76 rfl Tryd.ntmps76 rfl fun w0 F0=>?_
 rw[F.oper_entry]at hF
 refine A.xl 1 ?_
 refine A.AL.box 3 (cs:=[.int .i64 a0.1,.int .i64 a0.2.1,.slice A2_ ((a0.2.2.1).length) c3_,.int .i64 a0.2.2.2.1.1,.int .i64 a0.2.2.2.1.2.1,.string a0.2.2.2.1.2.2,.string a0.2.2.2.2.1,.int .i64 a0.2.2.2.2.2.1,.int .i64 a0.2.2.2.2.2.2]) fun g1=>?_
 refine A.AL.box 4 (cs:=[.int .i64 a1.1,.int .i64 a1.2.1,.string a1.2.2.1,.int .i64 a1.2.2.2]) fun g2=>?_
 refine A.q0 [] [] [.n] [] ?_
 refine A.dl 4 ?_
 refine A.q0 [4,3] [] [.n,.b 0 0,.n,.b 1 0,.n,.n] [(5,.bool (decide (a1.1≠a0.1)))] ?_
 refine A.dx 1 ?_
 refine A.AX.cnd rfl hF (fun hb hF=>?_) (fun hb hF=>?_)
 ·refine A.xl 1 ?_
  refine A.q0 [] [] [.n] [(4,.bool false)] ?_
  refine A.dx 1 ?_
  obtain rfl:=Option.some.inj hF
  exact A.rt1 [] ⟨rfl,rfl⟩
 refine A.xl 1 ?_
 refine A.q0 [3] [] [.n,.b 0 1,.n,.n] [(11,.bool (decide (a0.2.1=11)))] ?_
 refine A.dx 1 ?_
 refine A.AX.cnd rfl hF (fun hb hF=>?_) (fun hb hF=>?_)
 ·refine A.xl 1 ?_
  refine A.q0 [4] [] [.n,.b 0 2,.n,.n,.sy .n,.sy (.b 0 3),.sy .n,.pk,.n,.sy .n,.sy (.b 0 3),.sy .n,.pk,.n] [(4,.bool (bif bif decide (a1.2.2.1=(ByteArray.mk #[]))then decide ((0:Int)≤a1.2.2.2)else false then decide (a1.2.2.2≤1099511627776)else false))] ?_
  refine A.dx 1 ?_
  obtain rfl:=Option.some.inj hF
  exact A.rt1 [] ⟨rfl,rfl⟩
 refine A.xl 1 ?_
 refine A.q0 [3] [] [.n,.b 0 1,.n,.n] [(28,.bool (decide (a0.2.1=16)))] ?_
 refine A.dx 1 ?_
 refine A.AX.cnd rfl hF (fun hb hF=>?_) (fun hb hF=>?_)
 ·refine A.AX.join [] [1,2] (fun nl nh=>∃(y3:Bool),nl=[(4,.bool y3)]∧nh=[]∧F.oper_entry_j1 y3=some r) ?_ ?_
  ·refine A.xl 0 ?_
   refine A.q0 [4] [] [.n,.b 0 3,.n,.n] [(35,.bool (decide (a1.2.2.2=1)))] ?_
   refine A.AL.cnp (j:=35) rfl hF (fun hb hF=>?_) (fun hb hF=>?_)
   ·refine A.q0 [4] [] [.on .n,.on (.b 0 1),.on .n,.on (.b 0 2),.on .n] [(40,.agg #[.int .i64 a1.2.1,.string a1.2.2.1])] ?_
    refine A.AL.on (dj:=35) rfl rfl ?_
    obtain⟨r4,hv5,hF⟩:=A.bd_some hF
    refine A.AL.call 5 [] (first:=[]) (cap:=[]) cf75 (rec_Check_ok (a1.2.1,a1.2.2.1) h11_ h12_ r4 hv5) (.s 1 (.s 2 .nil)) ?_
    rintro _ _ ⟨rfl,rfl,hr6⟩
    refine⟨by kernel_rfl,?_⟩
    refine A.q0 [] [] [.on .n,.n,.n] [(4,.bool (decide (r4=0)))] ?_
    refine A.AL.done ?_
    exact A.j ⟨(decide (r4=0)),rfl,rfl,hF⟩
   refine A.q0 [] [] [.off,.off,.off,.off,.off,.off,.off,.n,.n] [(4,.bool false)] ?_
   refine A.AL.done ?_
   exact A.j ⟨false,rfl,rfl,hF⟩
  rintro _ _ ⟨y3,rfl,rfl,hF⟩
  rw[F.oper_entry_j1]at hF
  obtain rfl:=Option.some.inj hF
  exact A.rt1 [] ⟨rfl,rfl⟩
 refine A.xl 4 ?_
 refine A.q0 [] [] [.n] [(4,.bool false)] ?_
 refine A.dx 1 ?_
 obtain rfl:=Option.some.inj hF
 exact A.rt1 [] ⟨rfl,rfl⟩
def F.oper_ahead (a0:D41)(a1:D41):Option Bool:=(F.cmp_Compare_int64 a0.2.1 a1.2.1).bind fun r3=>((F.strings_Compare a0.2.2.1 a1.2.2.1).bind fun r6=>((F.cmp_Or_int [r3,r6]).bind fun r10=>(some (decide (r10<0)))))
theorem oper_ahead_ok (a0:D41)(a1:D41)(h0_:IntKind.i64.has a0.1)(h1_:IntKind.i64.has a0.2.1)(h2_:a0.2.2.1.size≤maxLen)(h3_:IntKind.i64.has a0.2.2.2)(h4_:IntKind.i64.has a1.1)(h5_:IntKind.i64.has a1.2.1)(h6_:a1.2.2.1.size≤maxLen)(h7_:IntKind.i64.has a1.2.2.2)(r:Bool)(hF:F.oper_ahead a0 a1=some r):
    A.Ct Tryd.prog 77 [.agg #[.int .i64 a0.1,.int .i64 a0.2.1,.string a0.2.2.1,.int .i64 a0.2.2.2],.agg #[.int .i64 a1.1,.int .i64 a1.2.1,.string a1.2.2.1,.int .i64 a1.2.2.2]] [] [] (fun v H'=>v=.bool r∧H'=[]):=by
 refine A.Ct.enter Tryd.func77 rfl Tryd.ntmps77 rfl fun w0 F0=>?_
 rw[F.oper_ahead]at hF
 refine A.xl 1 ?_
 refine A.AL.box 0 (cs:=[.int .i64 a0.1,.int .i64 a0.2.1,.string a0.2.2.1,.int .i64 a0.2.2.2]) fun g1=>?_
 refine A.AL.box 1 (cs:=[.int .i64 a1.1,.int .i64 a1.2.1,.string a1.2.2.1,.int .i64 a1.2.2.2]) fun g2=>?_
 refine A.q0 [] [] [.n] [] ?_
 refine A.dx 2 ?_
 refine A.AX.dr mixed 14 14 (A.mb 14 0) ?_
 refine A.hq A.pb [] [0,1] [0,1] [] (A.mb 14 495) 6 [(0,.n),(2,.n),(5,.n),(7,.n),(1,.b 0 1),(3,.b 1 1),(6,.b 0 2),(8,.b 1 2)] [(6,.int .i64 a0.2.1),(8,.int .i64 a1.2.1),(11,.string a0.2.2.1),(13,.string a1.2.2.1)] ?_
 refine A.AH.one 4 ?_
 obtain⟨r3,hv4,hF⟩:=A.bd_some hF
 refine A.AL.call 2 [] (first:=[]) (cap:=[]) cf46 (cmp_Compare_int64_ok a0.2.1 a1.2.1 h1_ h5_ r3 hv4) .nil ?_
 rintro _ _ ⟨rfl,rfl,hr5⟩
 refine⟨by kernel_rfl,?_⟩
 refine A.AH.nx (A.mb 14 511) [0,1] ?_
 refine A.AH.one 9 ?_
 obtain⟨r6,hv7,hF⟩:=A.bd_some hF
 refine A.AL.call 42 [] (first:=[]) (cap:=[]) cf47 (strings_Compare_ok a0.2.2.1 a1.2.2.1 h2_ h6_ r6 hv7) .nil ?_
 rintro _ _ ⟨rfl,rfl,hr8⟩
 refine⟨by kernel_rfl,?_⟩
 refine A.AH.nx (A.mb 14 1023) [0,1] ?_
 refine A.AH.one 10 ?_
 refine A.AL.bsl 82 (ty:=(Z.Ty.int .i64)) (cs:=[.int .i64 r3,.int .i64 r6]) [r3,r6] ⟨⟨rfl,hr5⟩,⟨⟨rfl,hr8⟩,rfl⟩⟩ (fun g9=>?_) Tryd.zeroValue3 Tryd.sizeOf3
 refine A.AH.nx (A.mb 14 2047) [0,1] ?_
 refine A.AH.one 11 ?_
 obtain⟨r10,hv11,hF⟩:=A.bd_some hF
 refine A.AL.call 83 [] (first:=[]) (cap:=[]) cf45 (cmp_Or_int_ok [r3,r6] (some ⟨g9,0,none⟩) 2 r10 hv11) (.o 82 .nil) ?_
 rintro _ _ ⟨rfl,rfl,hr12⟩
 refine⟨by kernel_rfl,?_⟩
 refine A.AH.nx (A.mb 14 4095) [0,1] ?_
 refine A.hq A.pb [0,1] [0,1,82] [] [] (A.mb 14 16383) 0 [(12,.n),(13,.n)] [(4,.bool (decide (r10<0)))] ?_
 refine A.AH.done ?_
 refine A.ex 1 ?_
 obtain rfl:=Option.some.inj hF
 exact A.rt1 [] ⟨rfl,rfl⟩
def F.oper_CheckState_j1 (k1:Int→Option Int)(y2:Int)(y11:Bool):Option Int:=if y11=true then(some 171)else(A.gd (Z.R64 (y2+1)) (k1 (y2+1)))
def F.oper_CheckState_l2 (a0:D25)(a1:(List D41)):Nat→Int→Option Int
 |0,_=>none
 |f+1,y2=>if y2<((a1).length:Int)then((A.ix a1 y2).bind fun x5=>((F.oper_entry (a0.1,a0.2.1,a0.2.2.1,(a0.2.2.2.1.1,a0.2.2.2.1.2.1,a0.2.2.2.1.2.2),a0.2.2.2.2.1,a0.2.2.2.2.2.1,a0.2.2.2.2.2.2) (x5.1,x5.2.1,x5.2.2.1,x5.2.2.2)).bind fun r13=>(if(!r13)=true then(F.oper_CheckState_j1 (F.oper_CheckState_l2 a0 a1 f) y2 true)else(if(0:Int)<y2 then(A.gd (Z.R64 (y2-1)) ((A.ix a1 (y2-1)).bind fun x16=>((F.oper_ahead (x16.1,x16.2.1,x16.2.2.1,x16.2.2.2) (x5.1,x5.2.1,x5.2.2.1,x5.2.2.2)).bind fun r22=>(F.oper_CheckState_j1 (F.oper_CheckState_l2 a0 a1 f) y2 (!r22)))))else(F.oper_CheckState_j1 (F.oper_CheckState_l2 a0 a1 f) y2 false)))))else(some 0)
def F.oper_CheckState (a0:D25)(a1:(List D41)):Option Int:=F.oper_CheckState_l2 a0 a1 A.FU 0
theorem oper_CheckState_ok (a0:D25)(a1:(List D41))(A2_:Option Addr)(c3_:Nat)(A10_:Option Addr)(c11_:Nat)(h0_:IntKind.i64.has a0.1)(h1_:IntKind.i64.has a0.2.1)(h4_:IntKind.i64.has a0.2.2.2.1.1)(h5_:IntKind.i64.has a0.2.2.2.1.2.1)(h6_:a0.2.2.2.1.2.2.size≤maxLen)(h7_:a0.2.2.2.2.1.size≤maxLen)(h8_:IntKind.i64.has a0.2.2.2.2.2.1)(h9_:IntKind.i64.has a0.2.2.2.2.2.2)(r:Int)(hF:F.oper_CheckState a0 a1=some r):
    A.Ct Tryd.prog 38 [.agg #[.int .i64 a0.1,.int .i64 a0.2.1,.slice A2_ ((a0.2.2.1).length) c3_,.int .i64 a0.2.2.2.1.1,.int .i64 a0.2.2.2.1.2.1,.string a0.2.2.2.1.2.2,.string a0.2.2.2.2.1,.int .i64 a0.2.2.2.2.2.1,.int .i64 a0.2.2.2.2.2.2],.slice A10_ ((a1).length) c11_] [(0,.sh (.slice (Z.Ty.int .i64)) [.slice A2_ (a0.2.2.1).length c3_] a0.2.2.1),(1,.ln T41 A10_ c11_ a1),(2,.el none 1 0 A.tabF),(3,.el none 2 0 A.tabA)] [] (fun v H'=>v=.int .i64 r∧H'=[]∧IntKind.i64.has r):=by
 refine A.Ct.enter Tryd.func38 rfl Tryd.ntmps38 rfl fun w0 F0=>?_
 rw[F.oper_CheckState]at hF
 refine A.xl 1 ?_
 refine A.AL.box 4 (cs:=[.int .i64 a0.1,.int .i64 a0.2.1,.slice A2_ ((a0.2.2.1).length) c3_,.int .i64 a0.2.2.2.1.1,.int .i64 a0.2.2.2.1.2.1,.string a0.2.2.2.1.2.2,.string a0.2.2.2.2.1,.int .i64 a0.2.2.2.2.2.1,.int .i64 a0.2.2.2.2.2.2]) fun g1=>?_
 refine A.q0 [] [] [.n] [] ?_
 refine A.dl 3 ?_
 refine A.q0 [] [] [.n,.n,.n] [(7,.slice A10_ ((a1).length) c11_),(8,.int .i64 ((a1).length:Int)),(9,.int .i64 0)] ?_
 refine A.dx 2 ?_
 refine A.lp_ [1,2,7,8] [0,1,2,3,4] (fun f nl nh=>∃(y2:Int),nl=[(9,.int .i64 y2)]∧nh=[]∧IntKind.i64.has y2∧F.oper_CheckState_l2 a0 a1 f y2=some r) ⟨0,rfl,rfl,(A.hasl .i64 (0) rfl),hF⟩ ?_
 rintro f4 _ _ ⟨y2,rfl,rfl,hy3,hF⟩
 rcases f4 with _|f4
 ·exact A.no0 hF
 rw[F.oper_CheckState_l2]at hF
 refine A.xl 1 ?_
 refine A.q0 [] [] [.n] [(10,.bool (decide (y2<((a1).length:Int))))] ?_
 refine A.dx 2 ?_
 refine A.AX.cnd rfl hF (fun hb hF=>?_) (fun hb hF=>?_)
 ·refine A.xl 5 ?_
  refine A.q0 [] [] [.n] [(11,.int .i64 y2)] ?_
  obtain⟨x5,hv6,hF⟩:=A.bd_some hF
  refine A.AL.ixl 1 171 hv6 fun ho7=>?_
  intro b8 o9
  refine A.q0 [] [171] [.e 0 0] [(13,.agg #[.int .i64 x5.1,.int .i64 x5.2.1,.string x5.2.2.1,.int .i64 x5.2.2.2])] ?_
  refine A.AL.alloc 172 (cs:=[.int .i64 0,.int .i64 0,.string (ByteArray.mk #[]),.int .i64 0]) Tryd.zeroValue42 fun g10=>?_
  refine A.q0 [] [] [.n] [(5,.int .i64 y2)] ?_
  refine A.sw 172 [] [.int .i64 x5.1,.int .i64 x5.2.1,.string x5.2.2.1,.int .i64 x5.2.2.2] ?_
  refine A.dx 1 ?_
  refine A.AX.join [1,2,7,8,9] [0,1,2,3,4] (fun nl nh=>∃(y11:Bool),nl=[(31,.bool y11)]∧nh=[]∧F.oper_CheckState_j1 (F.oper_CheckState_l2 a0 a1 f4) y2 y11=some r) ?_ ?_
  ·refine A.AX.dr mixed 18 18 (A.mb 18 0) ?_
   refine A.hq A.pb [] [0,1,2,3,4,171,172] [4,172] [] (A.mb 18 3) 16 [(0,.b 0 0),(1,.b 1 0)] [(14,.agg #[.int .i64 a0.1,.int .i64 a0.2.1,.slice A2_ ((a0.2.2.1).length) c3_,.int .i64 a0.2.2.2.1.1,.int .i64 a0.2.2.2.1.2.1,.string a0.2.2.2.1.2.2,.string a0.2.2.2.2.1,.int .i64 a0.2.2.2.2.2.1,.int .i64 a0.2.2.2.2.2.2]),(15,.agg #[.int .i64 x5.1,.int .i64 x5.2.1,.string x5.2.2.1,.int .i64 x5.2.2.2])] ?_
   refine A.AH.one 2 ?_
   obtain⟨r13,hv14,hF⟩:=A.bd_some hF
   refine A.AL.call 173 [] (first:=[]) (cap:=[]) cf76 (oper_entry_ok (a0.1,a0.2.1,a0.2.2.1,(a0.2.2.2.1.1,a0.2.2.2.1.2.1,a0.2.2.2.1.2.2),a0.2.2.2.2.1,a0.2.2.2.2.2.1,a0.2.2.2.2.2.2) (x5.1,x5.2.1,x5.2.2.1,x5.2.2.2) A2_ c3_ h0_ h1_ h4_ h5_ h6_ h7_ h8_ h9_ ho7.1 ho7.2.1 ho7.2.2.1 ho7.2.2.2 r13 hv14) (.s 0 (.s 2 (.s 3 .nil))) ?_
   rintro _ _ ⟨rfl,rfl⟩
   refine⟨by kernel_rfl,?_⟩
   refine A.AH.nx (A.mb 18 7) [0,1,2,3,4,171,172] ?_
   refine A.hq A.pb [0,1,2,3,4,171,172] [0,1,2,3,4,171,172] [] [] (A.mb 18 31) 13 [(3,.n),(4,.n)] [(18,.bool (!r13))] ?_
   refine A.AH.cnd (j:=18) rfl hF (fun hF=>?_) (fun hF=>?_)
   ·refine A.hq A.pb [0,1,2,3,4,171,172] [0,1,2,3,4,171,172] [] [] (A.mb 18 262143) 0 [(5,.off),(6,.off),(7,.off),(8,.off),(9,.off),(13,.off),(10,.off),(11,.off),(12,.off),(14,.off),(15,.off),(16,.off),(17,.n)] [(31,.bool true)] ?_
    refine A.AH.done ?_
    exact A.j ⟨true,rfl,rfl,hF⟩
   refine A.hq A.pb [0,1,2,3,4,171,172] [0,1,2,3,4,171,172] [] [] (A.mb 18 255) 10 [(5,.on .n),(6,.on .n),(7,.on .n)] [(21,.bool (decide ((0:Int)<y2)))] ?_
   refine A.AH.cnp (j:=21) rfl hF (fun hb hF=>?_) (fun hb hF=>?_)
   ·obtain⟨hc15,hF⟩:=A.gd_some hF
    refine A.AH.q A.pb [0,1,2,3,4,171,172] [0,1,2,3,4,171,172] [172] [] (A.mb 18 10239) 6 [(8,.on .n),(9,.on .n),(13,.on (.b 0 0)),(10,.on .n)] [22,27,24] [Z.R64 (y2-1)] [(22,.slice A10_ ((a1).length) c11_),(27,.agg #[.int .i64 x5.1,.int .i64 x5.2.1,.string x5.2.2.1,.int .i64 x5.2.2.2]),(24,.int .i64 (y2-1))] hc15 ?_
    obtain⟨x16,hv17,hF⟩:=A.bd_some hF
    refine A.AH.pkl 1 213 hv17 fun ho18=>?_
    intro b20 o21 hA19
    refine A.AH.vg A.pb [0,1,2,3,4,171,172] [0,1,2,3,4,171,172,213] 11 (A.mb 18 12287) (dj:=21) rfl (fun a w hf hh=>A.r_ixa (t:=T41) hv17 hA19 hf) ?_
    refine A.hq A.pb [0,1,2,3,4,171,172,213] [0,1,2,3,4,171,172,213] [] [213] (A.mb 18 16383) 4 [(12,.on (.e 0 0))] [(26,.agg #[.int .i64 x16.1,.int .i64 x16.2.1,.string x16.2.2.1,.int .i64 x16.2.2.2])] ?_
    refine A.AH.one 14 ?_
    refine A.AL.on (dj:=21) rfl rfl ?_
    obtain⟨r22,hv23,hF⟩:=A.bd_some hF
    refine A.AL.call 214 [] (first:=[]) (cap:=[]) cf77 (oper_ahead_ok (x16.1,x16.2.1,x16.2.2.1,x16.2.2.2) (x5.1,x5.2.1,x5.2.2.1,x5.2.2.2) ho18.1 ho18.2.1 ho18.2.2.1 ho18.2.2.2 ho7.1 ho7.2.1 ho7.2.2.1 ho7.2.2.2 r22 hv23) .nil ?_
    rintro _ _ ⟨rfl,rfl⟩
    refine⟨by kernel_rfl,?_⟩
    refine A.AH.nx (A.mb 18 32767) [0,1,2,3,4,171,172,213] ?_
    refine A.hq A.pb [0,1,2,3,4,171,172,213] [0,1,2,3,4,171,172,213] [] [] (A.mb 18 262143) 0 [(15,.on .n),(16,.on .n),(17,.n)] [(31,.bool (!r22))] ?_
    refine A.AH.done ?_
    exact A.j ⟨(!r22),rfl,rfl,hF⟩
   refine A.hq A.pb [0,1,2,3,4,171,172] [0,1,2,3,4,171,172] [] [] (A.mb 18 262143) 0 [(8,.off),(9,.off),(13,.off),(10,.off),(11,.off),(12,.off),(14,.off),(15,.off),(16,.on .n),(17,.n)] [(31,.bool false)] ?_
   refine A.AH.done ?_
   exact A.j ⟨false,rfl,rfl,hF⟩
  rintro _ _ ⟨y11,rfl,rfl,hF⟩
  rw[F.oper_CheckState_j1]at hF
  refine A.AX.cnb rfl hF (fun hb hF=>?_) (fun hb hF=>?_)
  ·refine A.xl 1 ?_
   refine A.q0 [] [] [.n] [(4,.int .i64 171)] ?_
   refine A.dx 1 ?_
   obtain rfl:=Option.some.inj hF
   exact A.rt1 [] ⟨rfl,rfl,(A.hasl .i64 (171) rfl)⟩
  refine A.xl 3 ?_
  obtain⟨hc12,hF⟩:=A.gd_some hF
  refine A.q [] [] [.n,.n] [Z.R64 (y2+1)] [(9,.int .i64 (y2+1))] hc12 ?_
  refine A.AL.done ?_
  exact A.j ⟨_,Nat.lt_succ_self _,⟨(y2+1),rfl,rfl,(Z.i64_has hc12),hF⟩⟩
 refine A.xl 3 ?_
 refine A.q0 [] [] [.n] [(4,.int .i64 0)] ?_
 refine A.dx 1 ?_
 obtain rfl:=Option.some.inj hF
 exact A.rt1 [] ⟨rfl,rfl,(A.hasl .i64 (0) rfl)⟩
def F.oper_may_l1 (a0:D25)(a3:(List D57))(a4:(List D41))(r5:Int)(r8:Int)(r11:Int)(r14:Int):Nat→Int→Option Int
 |0,_=>none
 |f+1,y17=>if y17<4 then((A.ix [r5,r8,r11,r14] y17).bind fun x20=>(if x20≠0 then(some x20)else(A.gd (Z.R64 (y17+1)) ((F.oper_may_l1 a0 a3 a4 r5 r8 r11 r14 f) (y17+1)))))else(if(bif decide ((0:Int)<((a3).length:Int))then decide (a0.2.1≠9)else false)=true then(some 1)else((F.oper_CheckState (a0.1,a0.2.1,a0.2.2.1,(a0.2.2.2.1.1,a0.2.2.2.1.2.1,a0.2.2.2.1.2.2),a0.2.2.2.2.1,a0.2.2.2.2.2.1,a0.2.2.2.2.2.2) a4).bind fun r23=>(some r23)))
def F.oper_may (a0:D25)(a1:D28)(a2:(List D57))(a3:(List D57))(a4:(List D41)):Option Int:=(F.oper_Holds a0.2.1).bind fun r3=>(if(!r3)=true then(some 170)else((F.fn_Check a0.2.1 (a0.2.2.2.1.1,a0.2.2.2.1.2.1,a0.2.2.2.1.2.2)).bind fun r5=>((F.tstamp_Check (a1.1,a1.2.1,(a1.2.2.1,a1.2.2.2.1,a1.2.2.2.2.1,a1.2.2.2.2.2))).bind fun r8=>((F.rec_CheckBag a2).bind fun r11=>((F.rec_CheckBag a3).bind fun r14=>(F.oper_may_l1 a0 a3 a4 r5 r8 r11 r14 A.FU 0))))))
theorem oper_may_ok (a0:D25)(a1:D28)(a2:(List D57))(a3:(List D57))(a4:(List D41))(A2_:Option Addr)(c3_:Nat)(A16_:Option Addr)(c17_:Nat)(A18_:Option Addr)(c19_:Nat)(A20_:Option Addr)(c21_:Nat)(h0_:IntKind.i64.has a0.1)(h1_:IntKind.i64.has a0.2.1)(h4_:IntKind.i64.has a0.2.2.2.1.1)(h5_:IntKind.i64.has a0.2.2.2.1.2.1)(h6_:a0.2.2.2.1.2.2.size≤maxLen)(h7_:a0.2.2.2.2.1.size≤maxLen)(h8_:IntKind.i64.has a0.2.2.2.2.2.1)(h9_:IntKind.i64.has a0.2.2.2.2.2.2)(h10_:IntKind.i64.has a1.1)(h11_:IntKind.i64.has a1.2.1)(h12_:IntKind.i64.has a1.2.2.1)(h13_:IntKind.i64.has a1.2.2.2.1)(h14_:IntKind.i64.has a1.2.2.2.2.1)(h15_:IntKind.i64.has a1.2.2.2.2.2)(r:Int)(hF:F.oper_may a0 a1 a2 a3 a4=some r):
    A.Ct Tryd.prog 19 [.agg #[.int .i64 a0.1,.int .i64 a0.2.1,.slice A2_ ((a0.2.2.1).length) c3_,.int .i64 a0.2.2.2.1.1,.int .i64 a0.2.2.2.1.2.1,.string a0.2.2.2.1.2.2,.string a0.2.2.2.2.1,.int .i64 a0.2.2.2.2.2.1,.int .i64 a0.2.2.2.2.2.2],.agg #[.int .i64 a1.1,.int .i64 a1.2.1,.int .i64 a1.2.2.1,.int .i64 a1.2.2.2.1,.int .i64 a1.2.2.2.2.1,.int .i64 a1.2.2.2.2.2],.slice A16_ ((a2).length) c17_,.slice A18_ ((a3).length) c19_,.slice A20_ ((a4).length) c21_] [(0,.sh (.slice (Z.Ty.int .i64)) [.slice A2_ (a0.2.2.1).length c3_] a0.2.2.1),(1,.ln T57 A16_ c17_ a2),(2,.ln T57 A18_ c19_ a3),(3,.ln T41 A20_ c21_ a4),(4,.el none 1 0 A.tabF),(5,.el none 2 0 A.tabA)] [] (fun v H'=>v=.int .i64 r∧H'=[]∧IntKind.i64.has r):=by
 refine A.Ct.enter Tryd.func19 rfl Tryd.ntmps19 rfl fun w0 F0=>?_
 rw[F.oper_may]at hF
 refine A.xl 1 ?_
 refine A.AL.box 6 (cs:=[.int .i64 a0.1,.int .i64 a0.2.1,.slice A2_ ((a0.2.2.1).length) c3_,.int .i64 a0.2.2.2.1.1,.int .i64 a0.2.2.2.1.2.1,.string a0.2.2.2.1.2.2,.string a0.2.2.2.2.1,.int .i64 a0.2.2.2.2.2.1,.int .i64 a0.2.2.2.2.2.2]) fun g1=>?_
 refine A.AL.box 7 (cs:=[.int .i64 a1.1,.int .i64 a1.2.1,.int .i64 a1.2.2.1,.int .i64 a1.2.2.2.1,.int .i64 a1.2.2.2.2.1,.int .i64 a1.2.2.2.2.2]) fun g2=>?_
 refine A.q0 [] [] [.n] [] ?_
 refine A.dl 3 ?_
 refine A.q0 [6] [] [.n,.b 0 1] [(14,.int .i64 a0.2.1)] ?_
 obtain⟨r3,hv4,hF⟩:=A.bd_some hF
 refine A.AL.call 8 [] (first:=[]) (cap:=[]) cf34 (oper_Holds_ok a0.2.1 h1_ r3 hv4) .nil ?_
 rintro _ _ ⟨rfl,rfl⟩
 refine⟨by kernel_rfl,?_⟩
 refine A.q0 [] [] [.n] [(16,.bool (!r3))] ?_
 refine A.dx 1 ?_
 refine A.AX.cnb rfl hF (fun hb hF=>?_) (fun hb hF=>?_)
 ·refine A.xl 1 ?_
  refine A.q0 [] [] [.n] [(10,.int .i64 170)] ?_
  refine A.dx 1 ?_
  obtain rfl:=Option.some.inj hF
  exact A.rt1 [] ⟨rfl,rfl,(A.hasl .i64 (170) rfl)⟩
 refine A.xx 4 ?_
 refine A.AX.dr mixed 13 13 (A.mb 13 0) ?_
 refine A.hq A.pb [] [0,1,2,3,4,5,6,7] [7,6] [] (A.mb 13 4783) 5 [(0,.n),(2,.n),(5,.b 0 0),(7,.n),(9,.n),(12,.n),(1,.b 1 1),(3,.b 1 3)] [(22,.agg #[.int .i64 a1.1,.int .i64 a1.2.1,.int .i64 a1.2.2.1,.int .i64 a1.2.2.2.1,.int .i64 a1.2.2.2.2.1,.int .i64 a1.2.2.2.2.2]),(24,.slice A16_ ((a2).length) c17_),(26,.slice A18_ ((a3).length) c19_),(29,.int .i64 0),(18,.int .i64 a0.2.1),(20,.agg #[.int .i64 a0.2.2.2.1.1,.int .i64 a0.2.2.2.1.2.1,.string a0.2.2.2.1.2.2])] ?_
 refine A.AH.one 4 ?_
 obtain⟨r5,hv6,hF⟩:=A.bd_some hF
 refine A.AL.call 48 [] (first:=[]) (cap:=[]) cf35 (fn_Check_ok a0.2.1 (a0.2.2.2.1.1,a0.2.2.2.1.2.1,a0.2.2.2.1.2.2) h1_ h4_ h5_ h6_ r5 hv6) (.s 4 (.s 5 .nil)) ?_
 rintro _ _ ⟨rfl,rfl,hr7⟩
 refine⟨by kernel_rfl,?_⟩
 refine A.AH.nx (A.mb 13 4799) [0,1,2,3,4,5,6,7] ?_
 refine A.AH.one 6 ?_
 obtain⟨r8,hv9,hF⟩:=A.bd_some hF
 refine A.AL.call 88 [] (first:=[]) (cap:=[]) cf36 (tstamp_Check_ok (a1.1,a1.2.1,(a1.2.2.1,a1.2.2.2.1,a1.2.2.2.2.1,a1.2.2.2.2.2)) h10_ h11_ h12_ h13_ h14_ h15_ r8 hv9) .nil ?_
 rintro _ _ ⟨rfl,rfl,hr10⟩
 refine⟨by kernel_rfl,?_⟩
 refine A.AH.nx (A.mb 13 4863) [0,1,2,3,4,5,6,7] ?_
 refine A.AH.one 8 ?_
 obtain⟨r11,hv12,hF⟩:=A.bd_some hF
 refine A.AL.call 128 [] (first:=[]) (cap:=[]) cf37 (rec_CheckBag_ok a2 A16_ c17_ r11 hv12) (.s 1 (.s 4 (.s 5 .nil))) ?_
 rintro _ _ ⟨rfl,rfl,hr13⟩
 refine⟨by kernel_rfl,?_⟩
 refine A.AH.nx (A.mb 13 5119) [0,1,2,3,4,5,6,7] ?_
 refine A.AH.one 10 ?_
 obtain⟨r14,hv15,hF⟩:=A.bd_some hF
 refine A.AL.call 168 [] (first:=[]) (cap:=[]) cf37 (rec_CheckBag_ok a3 A18_ c19_ r14 hv15) (.s 2 (.s 4 (.s 5 .nil))) ?_
 rintro _ _ ⟨rfl,rfl,hr16⟩
 refine⟨by kernel_rfl,?_⟩
 refine A.AH.nx (A.mb 13 6143) [0,1,2,3,4,5,6,7] ?_
 refine A.AH.v A.pb [0,1,2,3,4,5,6,7] [0,1,2,3,4,5,6,7] 11 (A.mb 13 8191) rfl (fun a w hf hh=>A.r_bldA (cs:=#[.int .i64 r5,.int .i64 r8,.int .i64 r11,.int .i64 r14]) hf Tryd.zeroValue79) ?_
 refine A.AH.done ?_
 refine A.ex 2 ?_
 refine A.lp_ [3,4,5,28] [0,2,3,4,5,6] (fun f nl nh=>∃(y17:Int),nl=[(29,.int .i64 y17)]∧nh=[]∧IntKind.i64.has y17∧F.oper_may_l1 a0 a3 a4 r5 r8 r11 r14 f y17=some r) ⟨0,rfl,rfl,(A.hasl .i64 (0) rfl),hF⟩ ?_
 rintro f19 _ _ ⟨y17,rfl,rfl,hy18,hF⟩
 rcases f19 with _|f19
 ·exact A.no0 hF
 rw[F.oper_may_l1]at hF
 refine A.xl 1 ?_
 refine A.q0 [] [] [.n] [(30,.bool (decide (y17<4)))] ?_
 refine A.dx 2 ?_
 refine A.AX.cnd rfl hF (fun hb hF=>?_) (fun hb hF=>?_)
 ·refine A.xl 5 ?_
  obtain⟨x20,hv21,hF⟩:=A.bd_some hF
  refine A.AL.ixv (fun v:Int=>.int .i64 v) [r5,r8,r11,r14] hv21 ?_
  refine A.q0 [] [] [.n] [(12,.int .i64 x20)] ?_
  refine A.dl 2 ?_
  refine A.q0 [] [] [.n,.n] [(33,.bool (decide (x20≠0)))] ?_
  refine A.dx 1 ?_
  refine A.AX.cnd rfl hF (fun hb hF=>?_) (fun hb hF=>?_)
  ·refine A.xl 1 ?_
   refine A.q0 [] [] [.n,.n] [(10,.int .i64 x20)] ?_
   refine A.dx 1 ?_
   obtain rfl:=Option.some.inj hF
   exact A.rt1 [] ⟨rfl,rfl,(A.has_ix hv21 (List.forall_mem_cons.2 ⟨hr7,(List.forall_mem_cons.2 ⟨hr10,(List.forall_mem_cons.2 ⟨hr13,(List.forall_mem_cons.2 ⟨hr16,(by simp)⟩)⟩)⟩)⟩))⟩
  refine A.xl 3 ?_
  obtain⟨hc22,hF⟩:=A.gd_some hF
  refine A.q [] [] [.n,.n] [Z.R64 (y17+1)] [(29,.int .i64 (y17+1))] hc22 ?_
  refine A.AL.done ?_
  exact A.j ⟨_,Nat.lt_succ_self _,⟨(y17+1),rfl,rfl,(Z.i64_has hc22),hF⟩⟩
 refine A.xl 4 ?_
 refine A.q0 [6] [] [.n,.n,.n,.n,.sy .n,.sy (.b 0 1),.sy .n,.pk] [(43,.bool (bif decide ((0:Int)<((a3).length:Int))then decide (a0.2.1≠9)else false))] ?_
 refine A.dx 1 ?_
 refine A.AX.cnb rfl hF (fun hb hF=>?_) (fun hb hF=>?_)
 ·refine A.xl 1 ?_
  refine A.q0 [] [] [.n] [(10,.int .i64 1)] ?_
  refine A.dx 1 ?_
  obtain rfl:=Option.some.inj hF
  exact A.rt1 [] ⟨rfl,rfl,(A.hasl .i64 (1) rfl)⟩
 refine A.xl 3 ?_
 refine A.q0 [6] [] [.b 0 0,.n] [(44,.agg #[.int .i64 a0.1,.int .i64 a0.2.1,.slice A2_ ((a0.2.2.1).length) c3_,.int .i64 a0.2.2.2.1.1,.int .i64 a0.2.2.2.1.2.1,.string a0.2.2.2.1.2.2,.string a0.2.2.2.2.1,.int .i64 a0.2.2.2.2.2.1,.int .i64 a0.2.2.2.2.2.2]),(45,.slice A20_ ((a4).length) c21_)] ?_
 obtain⟨r23,hv24,hF⟩:=A.bd_some hF
 refine A.AL.call 288 [] (first:=[]) (cap:=[]) cf38 (oper_CheckState_ok (a0.1,a0.2.1,a0.2.2.1,(a0.2.2.2.1.1,a0.2.2.2.1.2.1,a0.2.2.2.1.2.2),a0.2.2.2.2.1,a0.2.2.2.2.2.1,a0.2.2.2.2.2.2) a4 A2_ c3_ A20_ c21_ h0_ h1_ h4_ h5_ h6_ h7_ h8_ h9_ r23 hv24) (.s 0 (.s 3 (.s 4 (.s 5 .nil)))) ?_
 rintro _ _ ⟨rfl,rfl,hr25⟩
 refine⟨by kernel_rfl,?_⟩
 refine A.q0 [] [] [.n] [(10,.int .i64 r23)] ?_
 refine A.dx 1 ?_
 obtain rfl:=Option.some.inj hF
 exact A.rt1 [] ⟨rfl,rfl,hr25⟩
def F.oper_number_l1:Nat→(List UInt8)→Int→Int→Option ByteArray
 |0,_,_,_=>none
 |f+1,xs4,y6,y8=>A.gd (Z.R64 (y8-1)) (A.gd ((10:Int)≠0∧Z.R64 (48+(Int.tmod y6 10))) (A.gd (20=(xs4).length) ((A.ix xs4 (y8-1)).bind fun x13=>(A.gd ((10:Int)≠0∧Z.R64 (Int.tdiv y6 10)) (if Int.tdiv y6 10=0 then(A.gd (20=(xs4.set (y8-1).toNat (A.b8 (48+(Int.tmod y6 10)))).length) (A.gd (0≤y8-1∧(y8-1).toNat≤(xs4.set (y8-1).toNat (A.b8 (48+(Int.tmod y6 10)))).length) (some (ByteArray.mk ((xs4.set (y8-1).toNat (A.b8 (48+(Int.tmod y6 10)))).drop (y8-1).toNat).toArray))))else((F.oper_number_l1 f) (xs4.set (y8-1).toNat (A.b8 (48+(Int.tmod y6 10)))) (Int.tdiv y6 10) (y8-1)))))))
def F.oper_number (a0:Int):Option ByteArray:=F.oper_number_l1 A.FU (List.replicate 20 (0:UInt8)) a0 20
theorem oper_number_ok (a0:Int)(h0_:IntKind.i64.has a0)(r:ByteArray)(hF:F.oper_number a0=some r):
    A.Ct Tryd.prog 40 [.int .i64 a0] [] [] (fun v H'=>v=.string r∧H'=[]∧r.size≤maxLen):=by
 refine A.Ct.enter Tryd.func40 rfl Tryd.ntmps40 rfl fun w0 F0=>?_
 rw[F.oper_number]at hF
 refine A.xl 1 ?_
 refine A.q0 [] [] [.n] [] ?_
 refine A.dl 2 ?_
 refine A.AL.alloc 0 (cs:=[.int .u8 0,.int .u8 0,.int .u8 0,.int .u8 0,.int .u8 0,.int .u8 0,.int .u8 0,.int .u8 0,.int .u8 0,.int .u8 0,.int .u8 0,.int .u8 0,.int .u8 0,.int .u8 0,.int .u8 0,.int .u8 0,.int .u8 0,.int .u8 0,.int .u8 0,.int .u8 0]) Tryd.zeroValue125 fun g1=>?_
 refine A.bta0 0 [] 20 ?_
 refine A.dl 2 ?_
 refine A.q0 [] [] [.n] [(4,.int .i64 20)] ?_
 refine A.dx 2 ?_
 refine A.lp_ [3] [] (fun f nl nh=>∃(xs4:List UInt8),∃(y6:Int),∃(y8:Int),nl=[(0,.int .i64 y6),(4,.int .i64 y8)]∧nh=[(0,.own Z.Ty.byte 125 (some ⟨g1,0,none⟩) ((List.replicate 20 (0:UInt8)).length) xs4)]∧(List.replicate 20 (0:UInt8)).length=xs4.length∧IntKind.i64.has y6∧IntKind.i64.has y8∧F.oper_number_l1 f xs4 y6 y8=some r) ⟨(List.replicate 20 (0:UInt8)),a0,20,rfl,rfl,rfl,h0_,(A.hasl .i64 (20) rfl),hF⟩ ?_
 rintro f10 _ _ ⟨xs4,y6,y8,rfl,rfl,hn5,hy7,hy9,hF⟩
 rcases f10 with _|f10
 ·exact A.no0 hF
 rw[F.oper_number_l1]at hF
 refine A.xl 2 ?_
 obtain⟨hc11,hF⟩:=A.gd_some hF
 refine A.q [] [] [.n,.n,.n] [Z.R64 (y8-1)] [(4,.int .i64 (y8-1))] hc11 ?_
 refine A.dl 2 ?_
 obtain⟨hc12,hF⟩:=A.gd_some hF
 refine A.q [] [] [.n,.n,.n,.n,.n] [(10:Int)≠0,Z.R64 (48+(Int.tmod y6 10))] [(7,.int .i64 (y8-1)),(11,.int .u8 (IntKind.u8.wrap (48+(Int.tmod y6 10))))] hc12 ?_
 obtain⟨hl15,hF⟩:=A.gd_some hF
 obtain⟨x13,hv14,hF⟩:=A.bd_some hF
 refine A.AL.ixoA 0 5 hv14 hl15 fun _=>?_
 refine A.AL.setel 0 5 [5] (o:=0) (m:=1) (t:=Z.Ty.byte) (new:=[.int .u8 (IntKind.u8.wrap (48+(Int.tmod y6 10)))]) (es:=[.int .u8 (x13.toNat:Int)]) (A.b8 (48+(Int.tmod y6 10))) hv14 rfl (congrArg (fun z=>[Value.int .u8 z]) (A.b8_wrap _)) ?_
 refine A.dl 2 ?_
 obtain⟨hc16,hF⟩:=A.gd_some hF
 refine A.q [] [] [.n,.n,.n] [(10:Int)≠0,Z.R64 (Int.tdiv y6 10)] [(0,.int .i64 (Int.tdiv y6 10))] hc16 ?_
 refine A.dl 2 ?_
 refine A.q0 [] [] [.n,.n] [(16,.bool (decide (Int.tdiv y6 10=0)))] ?_
 refine A.dx 1 ?_
 refine A.AX.cnd rfl hF (fun hb hF=>?_) (fun hb hF=>?_)
 ·refine A.xl 1 ?_
  refine A.q0 [] [] [.n] [(17,.int .i64 (y8-1))] ?_
  refine A.frz 0 [] ?_
  obtain⟨hl19,hF⟩:=A.gd_some hF
  obtain⟨hc20,hF⟩:=A.gd_some hF
  refine A.AL.slA 0 6 hl19 (Int.toNat_of_nonneg hc20.1).symm hc20.2 fun A17 c18=>?_
  refine A.oks 6 fun hl21=>?_
  refine A.AL.cvt (A.rowS (k:=6) rfl) rfl ?_
  refine A.q0 [] [] [.n] [(2,.string (ByteArray.mk ((xs4.set (y8-1).toNat (A.b8 (48+(Int.tmod y6 10)))).drop (y8-1).toNat).toArray))] ?_
  refine A.dx 1 ?_
  obtain rfl:=Option.some.inj hF
  exact A.rt1 [] ⟨rfl,rfl,(A.mk_le hl21.1)⟩
 refine A.xe 2 ?_
 exact A.j ⟨_,Nat.lt_succ_self _,⟨(xs4.set (y8-1).toNat (A.b8 (48+(Int.tmod y6 10)))),(Int.tdiv y6 10),(y8-1),rfl,rfl,(by rw[List.length_set];exact hn5),(Z.i64_has hc16.2),(Z.i64_has hc11),hF⟩⟩
end Go.Proofs.YtbljnlkhebiniaaDoor
end
section
set_option linter.unusedVariables false
set_option linter.unusedSimpArgs false
set_option maxRecDepth 20000
set_option maxHeartbeats 8000000
set_option synthInstance.maxSize 1000000
set_option synthInstance.maxHeartbeats 400000
namespace Go.Proofs.YtbljnlkhebiniaaDoor
open Go.RowKit
def F.oper_times_l1 (a0:(List D57)):Nat→Int→Int→Option Int
 |0,_,_=>none
 |f+1,y1,y3=>if y3<((a0).length:Int)then((A.ix a0 y3).bind fun x6=>(A.gd (Z.R64 (y1+x6.2)) (A.gd (Z.R64 (y3+1)) ((F.oper_times_l1 a0 f) (y1+x6.2) (y3+1)))))else(some y1)
def F.oper_times (a0:(List D57)):Option Int:=F.oper_times_l1 a0 A.FU 0 0
theorem oper_times_ok (a0:(List D57))(A0_:Option Addr)(c1_:Nat)(r:Int)(hF:F.oper_times a0=some r):
    A.Ct Tryd.prog 41 [.slice A0_ ((a0).length) c1_] [(0,.ln T57 A0_ c1_ a0)] [] (fun v H'=>v=.int .i64 r∧H'=[]∧IntKind.i64.has r):=by
 refine A.Ct.enter Tryd.func41 rfl Tryd.ntmps41 rfl fun w0 F0=>?_
 rw[F.oper_times]at hF
 refine A.xl 1 ?_
 refine A.q0 [] [] [.n] [] ?_
 refine A.dl 2 ?_
 refine A.q0 [] [] [.n] [(3,.int .i64 0)] ?_
 refine A.dl 3 ?_
 refine A.q0 [] [] [.n,.n,.n] [(6,.slice A0_ ((a0).length) c1_),(7,.int .i64 ((a0).length:Int)),(8,.int .i64 0)] ?_
 refine A.dx 2 ?_
 refine A.lp_ [6,7] [0] (fun f nl nh=>∃(y1:Int),∃(y3:Int),nl=[(3,.int .i64 y1),(8,.int .i64 y3)]∧nh=[]∧IntKind.i64.has y1∧IntKind.i64.has y3∧F.oper_times_l1 a0 f y1 y3=some r) ⟨0,0,rfl,rfl,(A.hasl .i64 (0) rfl),(A.hasl .i64 (0) rfl),hF⟩ ?_
 rintro f5 _ _ ⟨y1,y3,rfl,rfl,hy2,hy4,hF⟩
 rcases f5 with _|f5
 ·exact A.no0 hF
 rw[F.oper_times_l1]at hF
 refine A.xl 1 ?_
 refine A.q0 [] [] [.n] [(9,.bool (decide (y3<((a0).length:Int))))] ?_
 refine A.dx 2 ?_
 refine A.AX.cnd rfl hF (fun hb hF=>?_) (fun hb hF=>?_)
 ·refine A.xl 5 ?_
  obtain⟨x6,hv7,hF⟩:=A.bd_some hF
  refine A.AL.ixl 0 5 hv7 fun ho8=>?_
  intro b9 o10
  refine A.q0 [] [5] [.e 0 0] [(11,.agg #[.int .i64 x6.1.1,.string x6.1.2,.int .i64 x6.2])] ?_
  refine A.AL.alloc 6 (cs:=[.int .i64 0,.string (ByteArray.mk #[]),.int .i64 0]) Tryd.zeroValue58 fun g11=>?_
  refine A.sw 6 [] [.int .i64 x6.1.1,.string x6.1.2,.int .i64 x6.2] ?_
  refine A.dl 1 ?_
  obtain⟨hc12,hF⟩:=A.gd_some hF
  refine A.q [6] [] [.n,.n,.b 0 2,.n,.n] [Z.R64 (y1+x6.2)] [(3,.int .i64 (y1+x6.2))] hc12 ?_
  refine A.dl 2 ?_
  obtain⟨hc13,hF⟩:=A.gd_some hF
  refine A.q [] [] [.n,.n] [Z.R64 (y3+1)] [(8,.int .i64 (y3+1))] hc13 ?_
  refine A.AL.done ?_
  exact A.j ⟨_,Nat.lt_succ_self _,⟨(y1+x6.2),(y3+1),rfl,rfl,(Z.i64_has hc12),(Z.i64_has hc13),hF⟩⟩
 refine A.xl 3 ?_
 refine A.q0 [] [] [.n,.n] [(2,.int .i64 y1)] ?_
 refine A.dx 1 ?_
 obtain rfl:=Option.some.inj hF
 exact A.rt1 [] ⟨rfl,rfl,hy2⟩
def F.slices_Clone_api_Many_api_Many (a0:(List D57)):Option (List D57):=A.gd ((List.length (α:=D57) []+List.length (α:=D57) a0)*32≤140737488355328) (some ([]++a0))
theorem slices_Clone_api_Many_api_Many_ok (a0:(List D57))(A0_:Option Addr)(c1_:Nat)(r:(List D57))(hF:F.slices_Clone_api_Many_api_Many a0=some r):
    A.Ct Tryd.prog 78 [.slice A0_ ((a0).length) c1_] [(0,.ln T57 A0_ c1_ a0)] [] (fun v H'=>∃(A0':Option Addr) (c1':Nat),v=.slice A0' ((r).length) c1'∧H'=[(0,.own T57 58 A0' c1' r)]):=by
 refine A.Ct.enter Tryd.func78 rfl Tryd.ntmps78 rfl fun w0 F0=>?_
 rw[F.slices_Clone_api_Many_api_Many]at hF
 refine A.xl 1 ?_
 refine A.q0 [] [] [.n] [] ?_
 refine A.dl 3 ?_
 refine A.q0 [] [] [.n,.n] [(4,.bool A0_.isNone)] ?_
 refine A.dx 1 ?_
 refine A.AX.cnn rfl (fun hb=>?_) (fun hb=>?_)
 ·refine A.nilL 0 hb fun hb=>?_
  subst hb
  replace hF:some []=some r:=by simpa[A.gd,A.ix] using hF
  refine A.xl 1 ?_
  refine A.q0 [] [] [.n] [(2,.slice none 0 0)] ?_
  refine A.dx 1 ?_
  obtain rfl:=Option.some.inj hF
  refine A.nil 2 T57 58 ?_
  exact A.rt1 [(0,2)] ⟨none,0,rfl,rfl⟩
 refine A.xl 3 ?_
 refine A.AL.bs0 1 T57 (fun g1=>?_) Tryd.sizeOf58
 refine A.q0 [] [] [.n] [(6,.slice A0_ ((a0).length) c1_)] ?_
 obtain⟨hl4,hF⟩:=A.gd_some hF
 refine A.AL.app (k:=1) [] (A.rowL (k:=0) rfl) inf58 hl4 fun A2 c3=>?_
 refine A.q0 [] [] [.n] [(2,.slice A2 (([]++a0).length) c3)] ?_
 refine A.dx 1 ?_
 obtain rfl:=Option.some.inj hF
 exact A.rt1 [(0,1)] ⟨A2,c3,rfl,rfl⟩
def F.oper_Keys_j1 (xs4:List D57):Option ((List D57)):=(F.slices_Clone_api_Many_api_Many xs4).bind fun r5=>(some r5)
def F.oper_Keys (a0:(List D57)):Option ((List D57)):=(F.rec_CheckBag a0).bind fun r9=>(if r9≠0 then(F.oper_Keys_j1 [])else(F.oper_Keys_j1 a0))
theorem oper_Keys_ok (a0:(List D57))(A0_:Option Addr)(c1_:Nat)(r:((List D57)))(hF:F.oper_Keys a0=some r):
    A.Ct Tryd.prog 39 [.slice A0_ ((a0).length) c1_] [(0,.sh (.slice T57) [.slice A0_ (a0).length c1_] a0),(1,.el none 1 0 A.tabF),(2,.el none 2 0 A.tabA)] [] (fun v H'=>∃(g0':Nat) (A1':Option Addr) (c2':Nat),v=.func (.func 79) #[] #[.pointer (some ⟨g0',0,none⟩)]∧H'=[(0,.blk g0' 30 [.slice A1' ((r).length) c2']),(1,.sh (.slice T57) [.slice A1' (r).length c2'] r)]):=by
 refine A.Ct.enter Tryd.func39 rfl Tryd.ntmps39 rfl fun w0 F0=>?_
 rw[F.oper_Keys]at hF
 refine A.xl 1 ?_
 refine A.AL.box 3 (cs:=[.slice A0_ ((a0).length) c1_]) fun g1=>?_
 refine A.q0 [] [] [.n] [] ?_
 refine A.dx 1 ?_
 refine A.AX.join [1] [1,2] (fun nl nh=>∃(xs4:List D57),∃(A2:Option Addr),∃(c3:Nat),nl=[]∧nh=[(3,.blk g1 30 [.slice A2 ((xs4).length) c3]),(44,.sh (.slice T57) [.slice A2 (xs4).length c3] xs4)]∧F.oper_Keys_j1 xs4=some r) ?_ ?_
 ·refine A.xl 1 ?_
  refine A.q0 [3] [] [.b 0 0] [(3,.slice A0_ ((a0).length) c1_)] ?_
  obtain⟨r9,hv10,hF⟩:=A.bd_some hF
  refine A.AL.call 4 [] (first:=[]) (cap:=[]) cf37 (rec_CheckBag_ok a0 A0_ c1_ r9 hv10) (.l 0 (.s 1 (.s 2 .nil))) ?_
  rintro _ _ ⟨rfl,rfl,hr11⟩
  refine⟨by kernel_rfl,?_⟩
  refine A.q0 [] [] [.n] [(5,.bool (decide (r9≠0)))] ?_
  refine A.dx 1 ?_
  refine A.AX.cnd rfl hF (fun hb hF=>?_) (fun hb hF=>?_)
  ·refine A.xl 0 ?_
   refine A.sw 3 [] [.slice none 0 0] ?_
   refine A.AL.done ?_
   refine A.snil 44 T57 ?_
   exact A.j ⟨[],none,0,rfl,rfl,hF⟩
  refine A.xe 1 ?_
  refine A.dup 0 44 ?_
  exact A.j ⟨a0,A0_,c1_,rfl,rfl,hF⟩
 rintro _ _ ⟨xs4,A2,c3,rfl,rfl,hF⟩
 rw[F.oper_Keys_j1]at hF
 refine A.xl 1 ?_
 refine A.q0 [3] [] [.b 0 0] [(6,.slice A2 ((xs4).length) c3)] ?_
 obtain⟨r5,hv6,hF⟩:=A.bd_some hF
 refine A.AL.call 45 [] (first:=[]) (cap:=[]) cf78 (slices_Clone_api_Many_api_Many_ok xs4 A2 c3 r5 hv6) (.l 44 .nil) ?_
 rintro _ _ ⟨A7,c8,rfl,rfl⟩
 refine⟨by kernel_rfl,?_⟩
 refine A.sw 3 [] [.slice A7 ((r5).length) c8] ?_
 refine A.dl 2 ?_
 refine A.q0 [] [] [.n,.n] [(2,.func (.func 79) #[] #[.pointer (some ⟨g1,0,none⟩)])] ?_
 refine A.dx 1 ?_
 obtain rfl:=Option.some.inj hF
 refine A.frz 45 [] ?_
 exact A.rt1 [(0,3),(1,45)] ⟨g1,A7,c8,rfl,rfl⟩
def F.oper_Keys_1_it_j1 (k3:Int→Option (List (Int×(List D57))))(k4:Int→Option (List (Int×(List D57))))(b0:(List D57))(y1:Int)(y9:Int)(y17:Bool):Option (List (Int×(List D57))):=if y17=true then(A.gd (Z.R64 (y9+1)) (k4 (y9+1)))else((A.ix b0 y1).bind fun x24=>(A.gd (0≤y1∧y1≤y9∧y9.toNat≤(b0).length) ((F.slices_Clone_api_Many_api_Many (List.drop y1.toNat (List.take y9.toNat b0))).bind fun r35=>(A.cns (x24.1.1,r35) (k3 y9)))))
def F.oper_Keys_1_it_l2 (k3:Int→Option (List (Int×(List D57))))(b0:(List D57))(y1:Int):Nat→Int→Option (List (Int×(List D57)))
 |0,_=>none
 |f+1,y9=>if y9<((b0).length:Int)then((A.ix b0 y9).bind fun x44=>((A.ix b0 y1).bind fun x50=>(F.oper_Keys_1_it_j1 k3 (F.oper_Keys_1_it_l2 k3 b0 y1 f) b0 y1 y9 (decide (x44.1.1=x50.1.1)))))else(F.oper_Keys_1_it_j1 k3 (F.oper_Keys_1_it_l2 k3 b0 y1 f) b0 y1 y9 false)
def F.oper_Keys_1_it_l3 (b0:(List D57)):Nat→Int→Option (List (Int×(List D57)))
 |0,_=>none
 |f+1,y1=>if y1<((b0).length:Int)then(F.oper_Keys_1_it_l2 (F.oper_Keys_1_it_l3 b0 f) b0 y1 A.FU y1)else(some [])
def F.oper_Keys_1_it (b0:(List D57)):Option (List (Int×(List D57))):=F.oper_Keys_1_it_l3 b0 A.FU 0
theorem oper_Keys_1_it_sq (b0:(List D57))(g0_:Nat)(A1_:Option Addr)(c2_:Nat)(xs:List (Int×(List D57)))(hF:F.oper_Keys_1_it b0=some xs):
    A.Sq Tryd.prog 79 [.pointer (some ⟨g0_,0,none⟩)] [(0,.el none g0_ 0 [.slice A1_ ((b0).length) c2_]),(1,.sh (.slice T57) [.slice A1_ (b0).length c2_] b0)] (Z.Ty.pair (Z.Ty.int .i64) (Z.Ty.slice T57)) (fun cs=>[Z.vof false (cs.take 1),Z.vof false (cs.drop 1)]) xs:=by
 refine A.Sq.enter Tryd.func79 rfl Tryd.ntmps79 rfl fun lid w0 J Jx Φ hY hJ0=>?_
 obtain⟨rs0,hrs⟩: ∃rs0,rs0=xs:=⟨_,rfl⟩
 have hR0:A.Rem xs 0 rs0:=hrs▸A.Rem.zero xs
 rw[F.oper_Keys_1_it,←hrs]at hF
 clear hrs
 refine A.xl 1 ?_
 refine A.q0 [] [] [.n] [(3,.int .i64 0)] ?_
 refine A.dx 2 ?_
 refine A.AX.loopC (A.CY 46 Φ) (0,w0) [0,1] [0,1] [0,1] (fun f i nl nh=>∃(y1:Int),∃(rs:List (Int×(List D57))),nl=[(3,.int .i64 y1)]∧nh=[]∧IntKind.i64.has y1∧J i.1 i.2∧A.Rem xs i.1 rs∧F.oper_Keys_1_it_l3 b0 f y1=some rs) A.FU [(3,.int .i64 0)] [] ⟨0,_,rfl,rfl,(A.hasl .i64 (0) rfl),hJ0,hR0,hF⟩ ?_
 rintro f3 ⟨k4,w5⟩ _ _ ⟨y1,rs8,rfl,rfl,hy2,hJ6,hR7,hF⟩
 rcases f3 with _|f3
 ·exact A.no0 hF
 rw[F.oper_Keys_1_it_l3]at hF
 refine A.xl 2 ?_
 refine A.q0 [] [0] [.n,.e 0 0,.n,.n] [(8,.bool (decide (y1<((b0).length:Int))))] ?_
 refine A.dx 1 ?_
 refine A.AX.cnd rfl hF (fun hb hF=>?_) (fun hb hF=>?_)
 ·refine A.xl 4 ?_
  refine A.q0 [] [] [.n,.n] [(4,.int .i64 y1)] ?_
  refine A.dx 3 ?_
  refine A.AX.loopC (A.CY 46 Φ) (k4,w5) [0,1,3] [0,1] [0,1] (fun f i nl nh=>∃(y9:Int),∃(rs:List (Int×(List D57))),nl=[(4,.int .i64 y9)]∧nh=[]∧IntKind.i64.has y9∧J i.1 i.2∧A.Rem xs i.1 rs∧F.oper_Keys_1_it_l2 (F.oper_Keys_1_it_l3 b0 f3) b0 y1 f y9=some rs) A.FU [(4,.int .i64 y1)] [] ⟨y1,_,rfl,rfl,hy2,hJ6,hR7,hF⟩ ?_
  rintro f11 ⟨k12,w13⟩ _ _ ⟨y9,rs16,rfl,rfl,hy10,hJ14,hR15,hF⟩
  rcases f11 with _|f11
  ·exact A.no0 hF
  rw[F.oper_Keys_1_it_l2]at hF
  refine A.xx 1 ?_
  refine A.AX.joinC (A.CY 46 Φ) [0,1,3,4] [0,1] (fun i nl nh=>∃(y17:Bool),∃(rs:List (Int×(List D57))),nl=[(28,.bool y17)]∧nh=[]∧J i.1 i.2∧A.Rem xs i.1 rs∧F.oper_Keys_1_it_j1 (F.oper_Keys_1_it_l3 b0 f3) (F.oper_Keys_1_it_l2 (F.oper_Keys_1_it_l3 b0 f3) b0 y1 f11) b0 y1 y9 y17=some rs) ?_ ?_
  ·refine A.AX.dr mixed 19 19 (A.mb 19 0) ?_
   refine A.hq A.pb [] [0,1] [] [0] (A.mb 19 31) 14 [(0,.n),(1,.e 0 0),(2,.n),(3,.n),(4,.n)] [(14,.bool (decide (y9<((b0).length:Int))))] ?_
   refine A.AH.cnp (j:=14) rfl hF (fun hb hF=>?_) (fun hb hF=>?_)
   ·refine A.hq A.pb [0,1] [0,1] [] [0] (A.mb 19 6271) 10 [(5,.on (.e 0 0)),(6,.on .n),(11,.on (.e 0 0)),(12,.on .n)] [(15,.slice A1_ ((b0).length) c2_),(16,.int .i64 y9),(21,.slice A1_ ((b0).length) c2_),(22,.int .i64 y1)] ?_
    obtain⟨x44,hv45,hF⟩:=A.bd_some hF
    refine A.AH.pks 1 354 hv45 fun ho46=>?_
    intro b48 o49 hA47
    refine A.AH.vg A.pb [0,1] [0,1,354] 7 (A.mb 19 6399) (dj:=14) rfl (fun a w hf hh=>A.r_ixa (t:=T57) hv45 hA47 hf) ?_
    refine A.hq A.pb [0,1,354] [0,1,354] [] [354] (A.mb 19 8191) 6 [(8,.on .n),(9,.on .n),(10,.on (.e 0 0))] [(20,.int .i64 x44.1.1)] ?_
    obtain⟨x50,hv51,hF⟩:=A.bd_some hF
    refine A.AH.pks 1 355 hv51 fun ho52=>?_
    intro b54 o55 hA53
    refine A.AH.vg A.pb [0,1,354] [0,1,354,355] 13 (A.mb 19 16383) (dj:=14) rfl (fun a w hf hh=>A.r_ixa (t:=T57) hv51 hA53 hf) ?_
    refine A.hq A.pb [0,1,354,355] [0,1,354,355] [] [355] (A.mb 19 524287) 0 [(14,.on .n),(15,.on .n),(16,.on (.e 0 0)),(17,.on .n),(18,.n)] [(28,.bool (decide (x44.1.1=x50.1.1)))] ?_
    refine A.AH.done ?_
    exact A.AE.jC (k12,w13) [0,1] [(28,.bool (decide (x44.1.1=x50.1.1)))] [] ⟨(decide (x44.1.1=x50.1.1)),_,rfl,rfl,hJ14,hR15,hF⟩
   refine A.hq A.pb [0,1] [0,1] [] [] (A.mb 19 524287) 0 [(5,.off),(6,.off),(11,.off),(12,.off),(7,.off),(13,.off),(8,.off),(14,.off),(9,.off),(15,.off),(10,.off),(16,.off),(17,.off),(18,.n)] [(28,.bool false)] ?_
   refine A.AH.done ?_
   exact A.AE.jC (k12,w13) [0,1] [(28,.bool false)] [] ⟨false,_,rfl,rfl,hJ14,hR15,hF⟩
  rintro⟨k18,w19⟩ _ _ ⟨y17,rs22,rfl,rfl,hJ20,hR21,hF⟩
  rw[F.oper_Keys_1_it_j1]at hF
  refine A.AX.cnb rfl hF (fun hb hF=>?_) (fun hb hF=>?_)
  ·refine A.xl 3 ?_
   obtain⟨hc23,hF⟩:=A.gd_some hF
   refine A.q [] [] [.n,.n,.n] [Z.R64 (y9+1)] [(4,.int .i64 (y9+1))] hc23 ?_
   refine A.de 1 ?_
   exact A.AE.jC (k18,w19) [0,1] [(4,.int .i64 (y9+1))] [] ⟨_,Nat.lt_succ_self _,⟨(y9+1),_,rfl,rfl,(Z.i64_has hc23),hJ20,hR21,hF⟩⟩
  refine A.xx 4 ?_
  refine A.AX.dr mixed 12 14 (A.mb 14 0) ?_
  refine A.hq A.pb [] [0,1] [] [0] (A.mb 14 903) 8 [(0,.n),(1,.e 0 0),(2,.n),(7,.e 0 0),(8,.n),(9,.n)] [(31,.func (.yield lid) #[] #[]),(32,.slice A1_ ((b0).length) c2_),(33,.int .i64 y1),(38,.slice A1_ ((b0).length) c2_),(39,.int .i64 y1),(40,.int .i64 y9)] ?_
  obtain⟨x24,hv25,hF⟩:=A.bd_some hF
  refine A.AH.pks 1 356 hv25 fun ho26=>?_
  intro b28 o29 hA27
  refine A.AH.v A.pb [0,1] [0,1,356] 3 (A.mb 14 911) rfl (fun a w hf hh=>A.r_ixa (t:=T57) hv25 hA27 hf) ?_
  refine A.hq A.pb [0,1,356] [0,1,356] [] [356] (A.mb 14 1023) 4 [(4,.n),(5,.n),(6,.e 0 0)] [(37,.int .i64 x24.1.1)] ?_
  obtain⟨hc30,hF⟩:=A.gd_some hF
  refine A.cutpb 1 357 y1.toNat y9.toNat (Int.toNat_le_toNat hc30.2.1) hc30.2.2 fun A33 c34 hA31 hcc32=>?_
  refine A.AH.v A.pb [0,1,356] [0,1,356,357] 10 (A.mb 14 2047) rfl (fun a w hf hh=>A.r_cutb (u:=y1.toNat) (v:=y9.toNat) 1 hf hh (Int.toNat_of_nonneg hc30.1).symm (Int.toNat_of_nonneg (Int.le_trans hc30.1 hc30.2.1)).symm (Int.toNat_le_toNat hc30.2.1) hc30.2.2 hA31 hcc32) ?_
  refine A.AH.one 11 ?_
  obtain⟨r35,hv36,hF⟩:=A.bd_some hF
  refine A.AL.call 358 [] (first:=[]) (cap:=[]) cf78 (slices_Clone_api_Many_api_Many_ok (List.drop y1.toNat (List.take y9.toNat b0)) A33 c34 r35 hv36) (.l 357 .nil) ?_
  rintro _ _ ⟨A37,c38,rfl,rfl⟩
  refine⟨by kernel_rfl,?_⟩
  refine A.AH.nx (A.mb 14 4095) [0,1,356,357] ?_
  refine A.AH.one 12 ?_
  refine A.frz 358 [] ?_
  obtain⟨rs39,hqrs39,hF⟩:=A.cns_some hF
  refine A.AL.yield (t:=.pair (Z.Ty.int .i64) (Z.Ty.slice T57)) (x:=(x24.1.1,r35)) hY hJ20 (hqrs39▸hR21) [.int .i64 x24.1.1,.slice A37 ((r35).length) c38] ⟨⟨rfl,ho26.1.1⟩,.inl ⟨358,rfl⟩⟩ (fun w40 hJ41 hR42=>?_) (fun w40 hX43=>?_)
  ·refine A.AH.nmY (A.mb 14 8191) ?_
   refine A.AH.qr A.pb (A.mb 14 16383) 0 [(13,.n)] [(44,.bool false)] ?_
   refine A.AH.done ?_
   refine A.ex 1 ?_
   refine A.AX.cnf rfl ?_
   refine A.xl 2 ?_
   refine A.q0 [] [] [.n,.n] [(3,.int .i64 y9)] ?_
   refine A.de 1 ?_
   exact A.AE.jC (k18+1,w40) [0,1] [(3,.int .i64 y9)] [] ⟨_,Nat.lt_succ_self _,⟨y9,_,rfl,rfl,hy10,hJ41,hR42,hF⟩⟩
  refine A.AH.nmY (A.mb 14 8191) ?_
  refine A.AH.qr A.pb (A.mb 14 16383) 0 [(13,.n)] [(44,.bool true)] ?_
  refine A.AH.done ?_
  refine A.ex 1 ?_
  refine A.AX.cnt rfl ?_
  exact A.AX.rtX hY hX43
 refine A.xe 1 ?_
 obtain rfl:=Option.some.inj hF
 exact A.AE.rtY hY hJ6 hR7
def F.oper_teller_counts_l1 (a0:(D25×(List D45)×(List (D45×Int)))):List (Int×(List D57))→(List D45)→Int→Int→Int→Int→ByteArray→ByteArray→Int→Int→Option (D25×(List D45)×(List (D45×Int)))
 | [],xs23,y24,y26,y28,y30,y32,y34,y36,y38=>some ((y24,y26,a0.1.2.2.1,(y28,y30,y32),y34,y36,y38),xs23,a0.2.2)
 |y16::f,xs23,y24,y26,y28,y30,y32,y34,y36,y38=>(F.oper_times y16.2).bind fun r40=>((F.oper_number r40).bind fun r43=>(A.gd ((List.length (α:=D45) xs23+List.length (α:=D45) [(y16.1,r43)])*24≤140737488355328) ((F.oper_teller_counts_l1 a0 f) (xs23++[(y16.1,r43)]) y24 y26 y28 y30 y32 y34 y36 y38)))
def F.oper_teller_counts (a0:(D25×(List D45)×(List (D45×Int))))(a1:(List D57)):Option (D25×(List D45)×(List (D45×Int))):=(F.oper_Keys a1).bind fun r2=>((F.oper_Keys_1_it r2).bind fun xs7=>F.oper_teller_counts_l1 a0 xs7 a0.2.1 a0.1.1 a0.1.2.1 a0.1.2.2.2.1.1 a0.1.2.2.2.1.2.1 a0.1.2.2.2.1.2.2 a0.1.2.2.2.2.1 a0.1.2.2.2.2.2.1 a0.1.2.2.2.2.2.2)
theorem oper_teller_counts_ok (a0:(D25×(List D45)×(List (D45×Int))))(a1:(List D57))(g0_:Nat)(A3_:Option Addr)(c4_:Nat)(A11_:Option Addr)(c12_:Nat)(b13_:Nat)(A14_:Option Addr)(c15_:Nat)(h1_:IntKind.i64.has a0.1.1)(h2_:IntKind.i64.has a0.1.2.1)(h5_:IntKind.i64.has a0.1.2.2.2.1.1)(h6_:IntKind.i64.has a0.1.2.2.2.1.2.1)(h7_:a0.1.2.2.2.1.2.2.size≤maxLen)(h8_:a0.1.2.2.2.2.1.size≤maxLen)(h9_:IntKind.i64.has a0.1.2.2.2.2.2.1)(h10_:IntKind.i64.has a0.1.2.2.2.2.2.2)(r:(D25×(List D45)×(List (D45×Int))))(hF:F.oper_teller_counts a0 a1=some r):
    A.Ct Tryd.prog 20 [.pointer (some ⟨g0_,0,none⟩),.slice A14_ ((a1).length) c15_] [(0,.blk g0_ 65 [.int .i64 a0.1.1,.int .i64 a0.1.2.1,.slice A3_ ((a0.1.2.2.1).length) c4_,.int .i64 a0.1.2.2.2.1.1,.int .i64 a0.1.2.2.2.1.2.1,.string a0.1.2.2.2.1.2.2,.string a0.1.2.2.2.2.1,.int .i64 a0.1.2.2.2.2.2.1,.int .i64 a0.1.2.2.2.2.2.2,.slice A11_ ((a0.2.1).length) c12_,.map (some b13_)]),(1,.sh (.slice (Z.Ty.int .i64)) [.slice A3_ (a0.1.2.2.1).length c4_] a0.1.2.2.1),(2,.own T45 46 A11_ c12_ a0.2.1),(3,.mp D45 (fun x:D45=>.agg #[.int .i64 x.1,.string x.2]) (Z.Ty.int .i64) false b13_ a0.2.2),(4,.sh (.slice T57) [.slice A14_ (a1).length c15_] a1),(5,.el none 1 0 A.tabF),(6,.el none 2 0 A.tabA)] ([g0_]++(Z.obl A11_++([b13_]++[]))) (fun v H'=>∃(A0':Option Addr) (c1':Nat) (A2':Option Addr) (c3':Nat) (b4':Nat),v=.tuple #[]∧H'=[(0,.blk g0_ 65 [.int .i64 r.1.1,.int .i64 r.1.2.1,.slice A0' ((r.1.2.2.1).length) c1',.int .i64 r.1.2.2.2.1.1,.int .i64 r.1.2.2.2.1.2.1,.string r.1.2.2.2.1.2.2,.string r.1.2.2.2.2.1,.int .i64 r.1.2.2.2.2.2.1,.int .i64 r.1.2.2.2.2.2.2,.slice A2' ((r.2.1).length) c3',.map (some b4')]),(1,.sh (.slice (Z.Ty.int .i64)) [.slice A0' (r.1.2.2.1).length c1'] r.1.2.2.1),(2,.own T45 46 A2' c3' r.2.1),(3,.mp D45 (fun x:D45=>.agg #[.int .i64 x.1,.string x.2]) (Z.Ty.int .i64) false b4' r.2.2)]∧IntKind.i64.has r.1.1∧IntKind.i64.has r.1.2.1∧IntKind.i64.has r.1.2.2.2.1.1∧IntKind.i64.has r.1.2.2.2.1.2.1∧r.1.2.2.2.1.2.2.size≤maxLen∧r.1.2.2.2.2.1.size≤maxLen∧IntKind.i64.has r.1.2.2.2.2.2.1∧IntKind.i64.has r.1.2.2.2.2.2.2):=by
 refine A.Ct.enterM Tryd.func20 rfl Tryd.ntmps20 rfl fun w0 F0=>?_
 rw[F.oper_teller_counts]at hF
 refine A.xl 1 ?_
 refine A.AL.box 7 (cs:=[.pointer (some ⟨g0_,0,none⟩)]) fun g1=>?_
 refine A.dl 2 ?_
 refine A.q0 [] [] [.n] [(6,.slice A14_ ((a1).length) c15_)] ?_
 obtain⟨r2,hv3,hF⟩:=A.bd_some hF
 refine A.AL.call 8 [] (first:=[]) (cap:=[]) cf39 (oper_Keys_ok a1 A14_ c15_ r2 hv3) (.s 4 (.s 5 (.s 6 .nil))) ?_
 rintro _ _ ⟨g4,A5,c6,rfl,rfl⟩
 refine⟨by kernel_rfl,?_⟩
 refine A.dx 2 ?_
 obtain⟨xs7,hv8,hF⟩:=A.bd_some hF
 refine A.AX.rgf 48 49 50 [1,3,5,6,7,8,9] [0,2,1,3,5,6,7,8,9] [49,48,0,2,1,3,5,6,7,8,9] (fun k nh=>∃(xs23:List D45),∃(y24:Int),∃(y26:Int),∃(y28:Int),∃(y30:Int),∃(y32:ByteArray),∃(y34:ByteArray),∃(y36:Int),∃(y38:Int),∃(A21:Option Addr),∃(c22:Nat),nh=[(0,.blk g0_ 65 [.int .i64 y24,.int .i64 y26,.slice A3_ ((a0.1.2.2.1).length) c4_,.int .i64 y28,.int .i64 y30,.string y32,.string y34,.int .i64 y36,.int .i64 y38,.slice A21 ((xs23).length) c22,.map (some b13_)]),(2,.own T45 46 A21 c22 xs23)]∧IntKind.i64.has y24∧IntKind.i64.has y26∧IntKind.i64.has y28∧IntKind.i64.has y30∧y32.size≤maxLen∧y34.size≤maxLen∧IntKind.i64.has y36∧IntKind.i64.has y38∧F.oper_teller_counts_l1 a0 (List.drop k xs7) xs23 y24 y26 y28 y30 y32 y34 y36 y38=some r) [(0,.blk g0_ 65 [.int .i64 a0.1.1,.int .i64 a0.1.2.1,.slice A3_ ((a0.1.2.2.1).length) c4_,.int .i64 a0.1.2.2.2.1.1,.int .i64 a0.1.2.2.2.1.2.1,.string a0.1.2.2.2.1.2.2,.string a0.1.2.2.2.2.1,.int .i64 a0.1.2.2.2.2.2.1,.int .i64 a0.1.2.2.2.2.2.2,.slice A11_ ((a0.2.1).length) c12_,.map (some b13_)]),(2,.own T45 46 A11_ c12_ a0.2.1)] cf79 (oper_Keys_1_it_sq r2 g4 A5 c6 xs7 hv8) (fun _=>rfl) ⟨a0.2.1,a0.1.1,a0.1.2.1,a0.1.2.2.2.1.1,a0.1.2.2.2.1.2.1,a0.1.2.2.2.1.2.2,a0.1.2.2.2.2.1,a0.1.2.2.2.2.2.1,a0.1.2.2.2.2.2.2,A11_,c12_,rfl,h1_,h2_,h5_,h6_,h7_,h8_,h9_,h10_,hF⟩ ?_ ?_ ?_
 ·rintro k15 _ D9 L10 ⟨xs23,y24,y26,y28,y30,y32,y34,y36,y38,A21,c22,rfl,hy25,hy27,hy29,hy31,hy33,hy35,hy37,hy39,hF⟩
  exact⟨⟨_,(.b 8 (.s 9 .nil))⟩,rfl,fun o=>rfl⟩
 ·rintro k15 _ y16 D9 L10 w14 o11 ⟨xs23,y24,y26,y28,y30,y32,y34,y36,y38,A21,c22,rfl,hy25,hy27,hy29,hy31,hy33,hy35,hy37,hy39,hF⟩ hx19 hxo20 hh13
  intro A17 c18
  rw[A.drop_at hx19,F.oper_teller_counts_l1]at hF
  refine A.xl 1 ?_
  refine A.q0 [] [] [.n] [(4,.int .i64 y16.1)] ?_
  refine A.dl 1 ?_
  refine A.q0 [] [] [.n] [(5,.slice A17 ((y16.2).length) c18)] ?_
  refine A.AL.done ?_
  refine A.AE.flip 48 49 fun o12=>?_
  refine A.xx 1 ?_
  refine A.AX.dr mixed 14 15 (A.mb 15 0) ?_
  refine A.hq (A.pk_kont A.RQ.pq) [] [0,1,3,5,6,7,8,9,48,49,50] [7,0] [] (A.mb 15 127) 8 [(0,.b 0 0),(1,.b 0 0),(5,.n),(6,.n),(2,.n),(3,.n),(4,.b 1 9)] [(10,.pointer (some ⟨g0_,0,none⟩)),(15,.int .i64 y16.1),(16,.slice A17 ((y16.2).length) c18),(14,.slice A21 ((xs23).length) c22)] ?_
  refine A.AH.one 7 ?_
  obtain⟨r40,hv41,hF⟩:=A.bd_some hF
  refine A.AL.call 213 [] (first:=[]) (cap:=[]) cf41 (oper_times_ok y16.2 A17 c18 r40 hv41) (.l 50 .nil) ?_
  rintro _ _ ⟨rfl,rfl,hr42⟩
  refine⟨by kernel_rfl,?_⟩
  refine A.AH.nx (A.mb 15 255) [0,1,3,5,6,7,8,9,48,49,50] ?_
  refine A.AH.one 8 ?_
  obtain⟨r43,hv44,hF⟩:=A.bd_some hF
  refine A.AL.call 253 [] (first:=[]) (cap:=[]) cf40 (oper_number_ok r40 hr42 r43 hv44) .nil ?_
  rintro _ _ ⟨rfl,rfl,hr45⟩
  refine⟨by kernel_rfl,?_⟩
  refine A.AH.nx (A.mb 15 511) [0,1,3,5,6,7,8,9,48,49,50] ?_
  refine A.hq (A.pk_kont A.RQ.pq) [0,1,3,5,6,7,8,9,48,49,50] [0,1,3,5,6,7,8,9,48,49,50] [] [] (A.mb 15 1023) 5 [(9,.n)] [(19,.agg #[.int .i64 y16.1,.string r43])] ?_
  refine A.AH.one 10 ?_
  refine A.AL.bsl 293 (ty:=T45) (cs:=[.int .i64 y16.1,.string r43]) [(y16.1,r43)] ⟨⟨⟨rfl,hxo20.1⟩,⟨rfl,hr45⟩⟩,rfl⟩ (fun g46=>?_) Tryd.zeroValue46 Tryd.sizeOf46
  refine A.AH.nx (A.mb 15 2047) [0,1,3,5,6,7,8,9,48,49,50] ?_
  refine A.AH.one 11 ?_
  obtain⟨hl49,hF⟩:=A.gd_some hF
  refine A.AL.app (k:=2) [] (A.rowO (k:=293) rfl) inf46 hl49 fun A47 c48=>?_
  refine A.AH.nx (A.mb 15 4095) [0,1,3,5,6,7,8,9,48,49,50] ?_
  refine A.hq (A.pk_kont A.RQ.pq) [0,1,3,5,6,7,8,9,48,49,50] [0,1,2,3,5,6,7,8,9,48,49,50,293] [] [] (A.mb 15 16383) 1 [(12,.n),(13,.n)] [(23,.pointer (some ⟨g0_,9,none⟩))] ?_
  refine A.AH.one 14 ?_
  refine A.AL.store 0 [] (new:=[.slice A47 ((xs23++[(y16.1,r43)]).length) c48]) (cs':=[.int .i64 y24,.int .i64 y26,.slice A3_ ((a0.1.2.2.1).length) c4_,.int .i64 y28,.int .i64 y30,.string y32,.string y34,.int .i64 y36,.int .i64 y38,.slice A47 ((xs23++[(y16.1,r43)]).length) c48,.map (some b13_)]) ?_
  refine A.AH.nm (A.mb 15 32767) ?_
  refine A.AH.done ?_
  refine A.ee 1 ?_
  exact A.AE.bn hh13 [49,48,0,2,1,3,7,8,9] 100000 [(49,100049),(48,100048),(0,100000),(2,100002),(1,100001),(3,100003),(5,5),(6,6),(7,100007),(8,100008),(9,100009)] [(0,.blk g0_ 65 [.int .i64 y24,.int .i64 y26,.slice A3_ ((a0.1.2.2.1).length) c4_,.int .i64 y28,.int .i64 y30,.string y32,.string y34,.int .i64 y36,.int .i64 y38,.slice A47 ((xs23++[(y16.1,r43)]).length) c48,.map (some b13_)]),(2,.own T45 46 A47 c48 (xs23++[(y16.1,r43)]))] ⟨(xs23++[(y16.1,r43)]),y24,y26,y28,y30,y32,y34,y36,y38,A47,c48,rfl,hy25,hy27,hy29,hy31,hy33,hy35,hy37,hy39,hF⟩ rfl rfl
 rintro _ D9 L10 ⟨xs23,y24,y26,y28,y30,y32,y34,y36,y38,A21,c22,rfl,hy25,hy27,hy29,hy31,hy33,hy35,hy37,hy39,hF⟩
 rw[List.drop_length,F.oper_teller_counts_l1]at hF
 refine A.ee 1 ?_
 obtain rfl:=Option.some.inj hF
 exact A.AE.rtN (Ds:=[D9]) [48] [(0,0),(1,1),(2,2),(3,3)] (.tuple #[]) (⟨rfl,trivial⟩) (fun a w hf hh=>Z.res0 rfl w) (⟨A3_,c4_,A21,c22,b13_,rfl,rfl,hy25,hy27,hy29,hy31,hy33,hy35,hy37,hy39⟩)
def F.fn_runes_l1 (a0:ByteArray):Nat→Nat→(List Int)→Option (List Int)
 |0,_,_=>none
 |f+1,p2,xs5=>if p2<a0.size then(A.gd ((List.length (α:=Int) xs5+List.length (α:=Int) [((Utf8.decode a0 p2).1:Int)])*4≤140737488355328) ((F.fn_runes_l1 a0 f) (p2+(Utf8.decode a0 p2).2) (xs5++[((Utf8.decode a0 p2).1:Int)])))else(some xs5)
def F.fn_runes (a0:ByteArray):Option (List Int):=F.fn_runes_l1 a0 A.FU 0 []
theorem fn_runes_ok (a0:ByteArray)(h0_:a0.size≤maxLen)(r:(List Int))(hF:F.fn_runes a0=some r):
    A.Ct Tryd.prog 83 [.string a0] [] [] (fun v H'=>∃(A0':Option Addr) (c1':Nat),v=.slice A0' ((r).length) c1'∧H'=[(0,.own (Z.Ty.int .i32) 21 A0' c1' r)]):=by
 refine A.Ct.enter Tryd.func83 rfl Tryd.ntmps83 rfl fun w0 F0=>?_
 rw[F.fn_runes]at hF
 refine A.xl 1 ?_
 refine A.q0 [] [] [.n] [] ?_
 refine A.dl 2 ?_
 refine A.q0 [] [] [.n] [(3,.slice none 0 0)] ?_
 refine A.dl 3 ?_
 refine A.q0 [] [] [.n] [(6,.string a0)] ?_
 refine A.AL.rgs 0 fun g1=>?_
 refine A.dx 2 ?_
 refine A.nil 4 (Z.Ty.int .i32) 21 ?_
 refine A.lp_ [7] [] (fun f nl nh=>∃(p2:Nat),∃(xs5:List Int),∃(A3:Option Addr),∃(c4:Nat),nl=[(3,.slice A3 ((xs5).length) c4)]∧nh=[(0,.si g1 a0 p2),(4,.own (Z.Ty.int .i32) 21 A3 c4 xs5)]∧F.fn_runes_l1 a0 f p2 xs5=some r) ⟨0,[],none,0,rfl,rfl,hF⟩ ?_
 rintro f6 _ _ ⟨p2,xs5,A3,c4,rfl,rfl,hF⟩
 rcases f6 with _|f6
 ·exact A.no0 hF
 rw[F.fn_runes_l1]at hF
 refine A.xl 1 ?_
 refine A.AL.nxs 0 [] hF (fun hb7 hF=>?_) (fun hb hF=>?_)
 ·refine A.q0 [] [] [.n] [(9,.bool true)] ?_
  refine A.dx 2 ?_
  refine A.AX.cnt rfl ?_
  refine A.xl 4 ?_
  refine A.q0 [] [] [.n,.n] [(5,.int .i32 ((Utf8.decode a0 p2).1:Int))] ?_
  refine A.dl 1 ?_
  refine A.q0 [] [] [.n,.n] [(11,.slice A3 ((xs5).length) c4),(12,.int .i32 ((Utf8.decode a0 p2).1:Int))] ?_
  refine A.AL.bsl 7 (ty:=(Z.Ty.int .i32)) (cs:=[.int .i32 ((Utf8.decode a0 p2).1:Int)]) [((Utf8.decode a0 p2).1:Int)] ⟨⟨rfl,A.dec_has⟩,rfl⟩ (fun g8=>?_) Tryd.zeroValue21 Tryd.sizeOf21
  obtain⟨hl11,hF⟩:=A.gd_some hF
  refine A.AL.app (k:=4) [] (A.rowO (k:=7) rfl) inf21 hl11 fun A9 c10=>?_
  refine A.q0 [] [] [.n] [(3,.slice A9 ((xs5++[((Utf8.decode a0 p2).1:Int)]).length) c10)] ?_
  refine A.de 1 ?_
  exact A.j ⟨_,Nat.lt_succ_self _,⟨(p2+(Utf8.decode a0 p2).2),(xs5++[((Utf8.decode a0 p2).1:Int)]),A9,c10,rfl,rfl,hF⟩⟩
 refine A.q0 [] [] [.n] [(9,.bool false)] ?_
 refine A.dx 2 ?_
 refine A.AX.cnf rfl ?_
 refine A.xl 3 ?_
 refine A.q0 [] [] [.n,.n] [(2,.slice A3 ((xs5).length) c4)] ?_
 refine A.dx 1 ?_
 obtain rfl:=Option.some.inj hF
 exact A.rt1 [(0,4)] ⟨A3,c4,rfl,rfl⟩
end Go.Proofs.YtbljnlkhebiniaaDoor
end
section
set_option linter.unusedVariables false
set_option linter.unusedSimpArgs false
namespace Go.A
open Go.RowKit Go.Z
def SeqUk (P:Program)(gf:FuncId)(cap:List Value)(N:Nat)(E:Nat→Nat→World→World→List Value→Prop)(D0:World→Prop)(Dat:Nat→Nat→World→Prop):Prop:=
 ∀(lid:Nat) (w:World) (J0:World→Prop) (J:Nat→Nat→World→Prop) (Jx:World→Prop),(∀W W',J0 W→Ch [] W W'→J0 W')→(∀g k W W',J g k W→Ch [g] W W'→J g k W')→(∀W W',Jx W→Ch [] W W'→Jx W')→
  (∀W,J0 W→D0 W)→(∀g W W',J0 W→Ch [] W W'→W.heap.size≤g→g<W'.heap.size→J g 0 W')→(∀g k W,J g k W→Dat g k W)→J0 w→
  (∀g k W0 W args,k<N→J g k W0→Ch [g] W0 W→E g k W0 W args→YieldAt (FW none) 0 P lid args.toArray W fun e W'=>(e=.returned (.bool true)∧J g (k+1) W'∧W'.heap[g]?=W.heap[g]?)∨(e=.returned (.bool false)∧Jx W'))→
  Calls P gf (.func (.yield lid) #[] #[]::cap).toArray w fun e W'=>e=.returned (.tuple #[])∧((∃g,J g N W')∨Jx W')
section
variable {P:Program}{Q:Exit→Act→World→Prop}{a:Act}{w:World}{n:Nat}{ds:List Deferred}{l:List (Nat×Value)}
theorem rangeKU {g:Operand}{ps:List Nat}{assign body:Code}{gf:FuncId}{cap:List Value}(hf:Fr a n ds l)(hg:ev l g=some (.func (.func gf) #[] cap.toArray))
  (hcf: ∀args w,(callFunc gf args).run P w=.ok (.enter gf args) w) (N:Nat) (E:Nat→Nat→World→World→List Value→Prop) (D0:World→Prop) (Dat:Nat→Nat→World→Prop) (I0:World→Prop) (I:Nat→Nat→World→Prop) (X:Exit→World→Prop) (hseq:SeqUk P gf cap N E D0 Dat)
  (hlen: ∀g k W0 W args,E g k W0 W args→args.length=ps.length) (hps: ∀p,p∈ps→p<n)
  (hI0: ∀W1,(∃W',Ch [] w W'∧W'.heap.size=w.heap.size+1∧Dfr W' w.heap.size∧Ch [] W' W1∧W1.heap.size=W'.heap.size+1)→(∃o,W1.heap[w.heap.size+1]?=some o)→I0 W1)
  (hst0: ∀W W',I0 W→Ch [w.heap.size+1] W W'→I0 W') (hst: ∀g k W W',w.heap.size+1<g→I g k W→Ch [w.heap.size+1] W W'→I g k W') (hsg: ∀g k W W',w.heap.size+1<g→I g k W→Ch [g] W W'→I g k W') (hcv: ∀g W W',I0 W→Ch [] W W'→W.heap.size≤g→g<W'.heap.size→I g 0 W') (hxt: ∀e W W',X e W→Ch [w.heap.size+1] W W'→X e W') (hdat0: ∀W,I0 W→D0 W) (hdat: ∀g k W,w.heap.size+1<g→I g k W→Dat g k W)
  (hround: ∀g k W0 W args a o,k<N→w.heap.size+1<g→g<W.heap.size→I g k W0→Ch [g] W0 W→w.heap.size+1<W0.heap.size→E g k W0 W args→args.length=ps.length→W.heap[w.heap.size+1]?=some o→Dfr W w.heap.size→Fr a n [] (bindl ps args l)→
   WP (some (w.heap.size+1)) P assign (fun e a1 W1=>e=.normal∧W1.heap[w.heap.size+1]?=some o∧Dfr W1 w.heap.size∧∀W2 o2,Ch [w.heap.size+1] W1 W2→W2.heap[w.heap.size+1]?=some o2→Dfr W2 w.heap.size→
    WP (some (w.heap.size+1)) P body (RQ w.heap.size (w.heap.size+1) o2 (fun k W'=>I g k W'∧W'.heap[g]?=W.heap[g]?) X k) a1 W2) a W)
  (hdone: ∀g W a',w.heap.size+1<g→I g N W→Dfr W w.heap.size→Fr a' n (mkD w.heap.size::ds) l→Q .normal a' W)
  (hret: ∀W a',X .ret W→Dfr W w.heap.size→Fr a' n (mkD w.heap.size::ds) l→Q .ret a' W)
  (hexit: ∀id W a',X (.exit id) W→Dfr W w.heap.size→Fr a' n (mkD w.heap.size::ds) l→Q (.exit id) a' W):WP none P (Code.rangeFunc g ps.toArray assign body) Q a w:=by
 refine wpIn_rangeFunc fun fn hfn=>?_
 obtain⟨rec,hrec⟩: ∃rec:LoopState→Option Code→Loop,rec=fun st pe=>{state:=st,pending:=pe,fn,tmps:=a.tmps,params:=ps.toArray,assign,body,defers:=w.heap.size}:=⟨_,rfl⟩
 obtain⟨W1,hW1⟩: ∃W1,(w.alloc (.deferred (some []))).alloc (.loop (rec .ready none))=W1:=⟨_,rfl⟩
 have hL1:W1.heap[w.heap.size+1]?=some (.loop (rec .ready none)):=by
  rw[←hW1];have:=World.alloc_heap_new (w.alloc (.deferred (some []))) (.loop (rec .ready none));rwa[World.size_alloc]at this
 have hK1:Dfr W1 w.heap.size:=by
  rw[←hW1];exact(Below.heap_alloc _ _ _ (by simp)).trans (World.alloc_heap_new w _)
 have up: ∀{W W':World},Ch [] W W'→Ch [w.heap.size+1] W W':=fun h=>h.mono (by simp)
 have hI1:I0 W1:=hI0 W1 ⟨_,Ch.alloc w _,World.size_alloc ..,World.alloc_heap_new w _,by rw[←hW1];exact Ch.alloc _ _,by rw[←hW1];exact World.size_alloc ..⟩ ⟨_,hL1⟩
 have hfr:a.eval g=.func (.func gf) #[] cap.toArray:=hf.eval hg
 have hcall:=hseq (w.heap.size+1) W1
  (fun W=>I0 W∧W.heap[w.heap.size+1]?=some (.loop (rec .ready none))∧Dfr W w.heap.size)
  (fun g k W=>I g k W∧(w.heap.size+1<g∧g<W.heap.size)∧W.heap[w.heap.size+1]?=some (.loop (rec .ready none))∧Dfr W w.heap.size)
  (fun W=>∃e c,X e W∧((e=.ret∧c=Code.ret)∨∃id,e=.exit id∧c=Code.exit id)∧W.heap[w.heap.size+1]?=some (.loop (rec .done (some c)))∧Dfr W w.heap.size)
  (fun W W' ⟨h1,h2,h3⟩ hc=>⟨hst0 W W' h1 (up hc),(hc.block _ (Array.getElem?_eq_some_iff.1 h2).1 (by simp)).trans h2,h3.ch hc (by simp)⟩)
  (fun g k W W' ⟨h1,h0,h2,h3⟩ hc=>⟨hsg g k W W' h0.1 h1 hc,⟨h0.1,Nat.lt_of_lt_of_le h0.2 hc.size⟩,(hc.block _ (Array.getElem?_eq_some_iff.1 h2).1 (by simp;omega)).trans h2,h3.ch hc (by simp;omega)⟩)
  (fun W W' ⟨e,c,h1,h0,h2,h3⟩ hc=>⟨e,c,hxt e W W' h1 (up hc),h0,(hc.block _ (Array.getElem?_eq_some_iff.1 h2).1 (by simp)).trans h2,h3.ch hc (by simp)⟩)
  (fun W h=>hdat0 W h.1) (fun g W W' ⟨h1,h2,h3⟩ hc hg hg'=>⟨hcv g W W' h1 hc hg hg',⟨Nat.lt_of_lt_of_le (Array.getElem?_eq_some_iff.1 h2).1 hg,hg'⟩,(hc.block _ (Array.getElem?_eq_some_iff.1 h2).1 (by simp)).trans h2,h3.ch hc (by simp)⟩) (fun g k W h=>hdat g k W h.2.1.1 h.1) ⟨hI1,hL1,hK1⟩ ?_
 ·refine⟨w.heap.size+1,[mkD w.heap.size],W1,{target:=.fn (.func gf) cap.toArray,args:=#[.func (.yield (w.heap.size+1)) #[] #[]]},W1,gf,
   (.func (.yield (w.heap.size+1)) #[] #[]::cap).toArray,W1,?_,?_,fun _ _=>trivial,?_,(fun h=>by cases h),(callsFW hcall).mono ?_⟩
  ·rw[←hW1,hrec];exact run_enterLoop_outer _ _ _ _ _
  ·simp only[resolve,hfr]
   simp[go_sem]
  ·simp[invoke,go_sem,hcf]
  ·have fin: ∀(W:World) (st:LoopState) (pe:Option Code),W.heap[w.heap.size+1]?=some (.loop (rec st pe))→st≠ .busy→Dfr W w.heap.size→
     ∃W',(Instr.endLoop (w.heap.size+1)).run P W=.ok pe W'∧Ch [w.heap.size+1] W W'∧Dfr W' w.heap.size:=fun W st pe hl hb hk=>by
    have:=run_endLoop (P:=P) hl (by rw[hrec];exact hb)
    rw[hrec]at this
    exact⟨_,this,Ch.putObj _ _ _,hk.ch (Ch.putObj _ _ _) (by simp)⟩
   rintro e W ⟨rfl,⟨g,h1,h0,h2,h3⟩|⟨e,c,h1,h0,h2,h3⟩⟩
   ·obtain⟨W',hr,hc,hk⟩:=fin W .ready none h2 (by simp) h3
    exact⟨none,W',hr,hdone g W' _ h0.1 (hst g N W W' h0.1 h1 hc) hk ⟨hf.size,by show [mkD w.heap.size]++a.defers=_;rw[hf.defs];rfl,hf.get⟩⟩
   ·obtain⟨W',hr,hc,hk⟩:=fin W .done (some c) h2 (by simp) h3
    have hfr':Fr {a with defers:=[mkD w.heap.size]++a.defers} n (mkD w.heap.size::ds) l:=⟨hf.size,by show [mkD w.heap.size]++a.defers=_;rw[hf.defs];rfl,hf.get⟩
    refine⟨some c,W',hr,?_⟩
    rcases h0 with⟨rfl,rfl⟩|⟨id,rfl,rfl⟩
    ·exact wpIn_ret (hret W' _ (hxt _ W W' h1 hc) hk hfr')
    ·exact wpIn_exit (hexit id W' _ (hxt _ W W' h1 hc) hk hfr')
 ·rintro g k W0 W args hk ⟨h1,h0,h2,h3⟩ hc hEk
  have hlt:w.heap.size+1<W0.heap.size:=(Array.getElem?_eq_some_iff.1 h2).1
  have hl:W.heap[w.heap.size+1]?=some (.loop (rec .ready none)):=(hc.block _ hlt (by have:=h0.1;simp;omega)).trans h2
  have hkk:Dfr W w.heap.size:=h3.ch hc (by have:=h0.1;simp;omega)
  have hlen':=hlen g k W0 W args hEk
  have hy:=run_yield (P:=P) (args:=args.toArray) hl (by rw[hrec];simpa using hlen')
  refine⟨fn,_,assign,body,by rw[hrec]at hy;exact hy,roundIn_of_wpIn hfn ?_⟩
  have hfr0:Fr ⟨(ps.zip args).foldl (fun t (p,v)=>t.setIfInBounds p v) a.tmps,[]⟩ n [] (bindl ps args l):=bind_fr ps args hps ⟨hf.size,rfl,hf.get⟩
  have hzip:((rec .ready none).params.zip args.toArray).foldl (fun t (p,v)=>t.setIfInBounds p v) (rec .ready none).tmps=(ps.zip args).foldl (fun t (p,v)=>t.setIfInBounds p v) a.tmps:=by
   rw[hrec];simp
  rw[hrec]at hzip
  simp only at hzip
  rw[hzip]
  refine wpIn_mono (hround g k W0 W args _ _ hk h0.1 (Nat.lt_of_lt_of_le h0.2 hc.size) h1 hc hlt hEk hlen' hl hkk hfr0) ?_
  rintro e a1 W' ⟨rfl,hl',hk',hbody⟩
  refine⟨_,run_beginRound hl' (by rw[hrec]),?_⟩
  have hltW:w.heap.size+1<W'.heap.size:=(Array.getElem?_eq_some_iff.1 hl').1
  have hc2:Ch [w.heap.size+1] W' (W'.putObj (w.heap.size+1) (.loop {rec .ready none with state:=.busy})):=Ch.putObj _ _ _
  have hl2:(W'.putObj (w.heap.size+1) (.loop {rec .ready none with state:=.busy})).heap[w.heap.size+1]?=some (.loop {rec .ready none with state:=.busy}):=World.putObj_heap_same hltW
  have hk2:=hk'.ch hc2 (by simp)
  refine wpIn_mono (hbody _ _ hc2 hl2 hk2) ?_
  have fin: ∀(jump:Option Code) (W3:World),W3.heap[w.heap.size+1]?=some (.loop {rec .ready none with state:=.busy})→Dfr W3 w.heap.size→
    ∃W4,(Instr.endRound (w.heap.size+1) jump).run P W3=.ok (.bool jump.isNone) W4∧Ch [w.heap.size+1] W3 W4∧W4.heap[w.heap.size+1]?=some (.loop (rec (if jump.isNone then .ready else .done) jump))∧Dfr W4 w.heap.size:=fun jump W3 hl3 hk3=>by
   have hend:=run_endRound (P:=P) jump hl3
   rw[hrec]at hend ⊢
   exact⟨_,hend,Ch.putObj _ _ _,World.putObj_heap_same (Array.getElem?_eq_some_iff.1 hl3).1,hk3.ch (Ch.putObj _ _ _) (by simp)⟩
  rintro e a3 W3 ⟨hl3,hk3,hp⟩
  cases e with
  |normal=>
   obtain⟨W4,hr,hc4,hl4,hk4⟩:=fin none W3 hl3 hk3
   have hg3:g<W3.heap.size:=Classical.byContradiction fun hn=>by
    have h5:=hp.2
    rw[Array.getElem?_eq_none_iff.2 (Nat.le_of_not_lt hn)]at h5
    have:=Array.getElem?_eq_none_iff.1 h5.symm
    have:=Nat.lt_of_lt_of_le h0.2 hc.size
    omega
   refine⟨_,W4,hr,.inl ⟨rfl,⟨hst _ _ _ _ h0.1 hp.1 hc4,⟨h0.1,Nat.lt_of_lt_of_le hg3 hc4.size⟩,hl4,hk4⟩,?_⟩⟩
   rw[hc4.block g hg3 (by have:=h0.1;simp;omega)]
   exact hp.2
  |ret=>
   obtain⟨W4,hr,hc4,hl4,hk4⟩:=fin (some .ret) W3 hl3 hk3
   exact⟨_,W4,hr,.inr ⟨rfl,.ret,.ret,hxt _ _ _ hp hc4,.inl ⟨rfl,rfl⟩,hl4,hk4⟩⟩
  |exit id=>
   obtain⟨W4,hr,hc4,hl4,hk4⟩:=fin (some (.exit id)) W3 hl3 hk3
   exact⟨_,W4,hr,.inr ⟨rfl,.exit id,.exit id,hxt _ _ _ hp hc4,.inr ⟨id,rfl,rfl⟩,hl4,hk4⟩⟩
  |goto t=>exact hp.elim
  |panic ch=>exact hp.elim
  |outgrown=>exact hp.elim
end
def ElU (t:Ty)(ag:List Value→List Value)(xs:List t.den)(Φ:Nat→Nat→World→Nat→Prop):Nat→Nat→World→World→List Value→Prop:=fun g k W0 W args=>
 ∃x cs,xs[k]?=some x∧args=ag cs∧t.rep W (fun b=>Φ g k W0 b∨W0.heap.size≤b) cs x
abbrev kU:Nat:=4711
def SqU (P:Program)(gf:FuncId)(cap:List Value)(Hc:List (Nat×Res))(t:Ty)(ag:List Value→List Value)(xs:List t.den):Prop:=
 ∀(Φ0:World→Nat→Prop) (Φ:Nat→Nat→World→Nat→Prop),SeqUk P gf cap xs.length (ElU t ag xs Φ) (fun W=>Hp ⟨0,[],W,[],Φ0 W⟩ Hc W) (fun g k W=>Hp ⟨0,[],W,[g],Φ g k W⟩ ((kU,.ob g lpT)::Hc) W)
def JU (ku g:Nat)(q:Obj→Prop)(J:Nat→List (Nat×Res)→Prop):Nat→List (Nat×Res)→Prop:=fun k nh=>∃nh0,nh=(ku,.ob g q)::nh0∧J k nh0
theorem Hp.swap {C:Cx}{H:List (Nat×Res)}{w:World}{k j:Nat}{r s:Res}(h:Hp C ((k,r)::(j,s)::H) w)(hn:k≠j):Hp C ((j,s)::(k,r)::H) w:=h.ext fun i=>.inl (by
 rw[hk_cons,hk_cons,hk_cons,hk_cons]
 by_cases h1:j=i
 ·rw[if_pos h1,if_neg (fun e=>hn (e.trans h1.symm)),if_pos h1]
 ·rw[if_neg h1,if_neg h1])
theorem nrf_cons {k j:Nat}{g:Nat}{p:Obj→Prop}{H:List (Nat×Res)}(h:nrf k H=true):nrf k ((j,.ob g p)::H)=true:=by
 unfold nrf at h ⊢;rw[List.all_cons,h];rfl
theorem Hp.ob2 {C:Cx}{H:List (Nat×Res)}{w w':World}{kl ku L g:Nat}{p q:Obj→Prop}{s:Obj→Prop}{o:Obj}(h:Hp C ((kl,.ob L s)::(ku,.ob g p)::H) w)(hn:kl≠ku)(hr:nrf ku H=true)(hc:Ch [g] w w')(ho:w'.heap[g]?=some o)(hq:q o):Hp C ((kl,.ob L s)::(ku,.ob g q)::H) w':=
 ((h.swap hn).ob (nrf_cons hr) hc ho hq).swap (Ne.symm hn)
section
variable {P:Program}{Y:Exit→Act→World→Prop}{K:List Kx}{C:Cx}{l:List (Nat×Value)}{H:List (Nat×Res)}
abbrev HX (kd kl ku D L g:Nat) (p q:Obj→Prop) (nh H:List (Nat×Res)):List (Nat×Res):=HK kd kl D L p ((ku,.ob g q)::nh) H
theorem AX.rgfU {g:Operand}{ps:List Nat}{assign body:Code}{gf:FuncId}{cap:List Value}{Hc:List (Nat×Res)}{t:Ty}{ag:List Value→List Value}{xs:List t.den}
  (kd kl ku kn:Nat) (hs gs bs:List Nat) (J:Nat→List (Nat×Res)→Prop) (nh:List (Nat×Res)) (hcf: ∀args w,(callFunc gf args).run P w=.ok (.enter gf args) w) (hseq:SqU P gf cap Hc t ag xs) (hag: ∀cs,(ag cs).length=ps.length) (hJ0:J 0 nh)
  (hsub: ∀k nh D L u,J k nh→(∃ls,Sub (HX kd kl ku D L u lpT lpT nh (kpH H hs hs)) Hc [] ls∧ls.all (fun k=> !(Nat.beq k ku))=true)∧(nrf kl (hcat nh (kpH H hs hs))&&nrf ku (hcat nh (kpH H hs hs))&&(match hk (hcat nh (kpH H hs hs)) ku with|none=>true|_=>false))=true∧∀o p,nok (kpH (HX kd kl ku D L u (fun x=>x=o) p nh (kpH H hs hs)) [] bs) kn (lv t)=true)
  (hsub0: ∀D L,∃ls,Sub (HK kd kl D L lpT nh (kpH H hs hs)) Hc [] ls)
  (hround: ∀u ou k nh x D L W o,J k nh→xs[k]?=some x→t.ok x→Hp C (HX kd kl ku D L u (fun x=>x=o) (fun x=>x=ou) nh (kpH H hs hs)) W→tele (lv t) fun pl=>
   AX (some L) P (fun _ _ _=>False) [.m (MF P D L o (fun o2=>RQ D L o2 (IK C kd kl D L (JU ku u (fun x=>x=ou) J) (kpH H hs hs)) (XK P Y K C l D L) k) body)] assign
    ⟨C.n,[],W,blks (HX kd kl ku D L u (fun x=>x=o) (fun x=>x=ou) nh (kpH H hs hs)) (mvl (HX kd kl ku D L u (fun x=>x=o) (fun x=>x=ou) nh (kpH H hs hs)) bs),Fh C (HX kd kl ku D L u (fun x=>x=o) (fun x=>x=ou) nh (kpH H hs hs))⟩ (bindl ps (ag (cl t x pl)) l)
    (hcat (kx kn (rs t x pl)) (kpH (HX kd kl ku D L u (fun x=>x=o) (fun x=>x=ou) nh (kpH H hs hs)) [] bs)))
  (hdone: ∀u nh D L,J xs.length nh→AE none P Y K .normal ⟨C.n,mkD D::C.ds,C.w0,C.S,C.F⟩ l (HX kd kl ku D L u lpT lpT nh (kpH H hs hs)))
  (hg:ev l g=some (.func (.func gf) #[] cap.toArray):=by rfl) (hps:ps.all (fun p=>Nat.ble (p+1) C.n)=true:=by rfl) (h0:kpH H gs gs=hcat nh (kpH H hs hs):=by kernel_rfl)
  (hn1:hk (hcat nh (kpH H hs hs)) kd=none:=by kernel_rfl) (hn2:hk (hcat nh (kpH H hs hs)) kl=none:=by kernel_rfl) (hne:Nat.beq kd kl=false:=by rfl) (hne1:Nat.beq kl ku=false:=by rfl) (hne2:Nat.beq kd ku=false:=by rfl) (hbs:nod bs=true:=by rfl) (hHc:nod (kU::Hc.map (·.1))=true:=by rfl):
  AX none P Y K (.rangeFunc g ps.toArray assign body) C l H:=fun a w hf hh=>by
 have hne:kd≠kl:=fun e=>by rw[e,Nat.beq_refl]at hne;cases hne
 have hlu:kl≠ku:=fun e=>by rw[e,Nat.beq_refl]at hne1;cases hne1
 have hdu:kd≠ku:=fun e=>by rw[e,Nat.beq_refl]at hne2;cases hne2
 have hHc0:nod (Hc.map (·.1))=true:=by unfold nod at hHc;rw[Bool.and_eq_true]at hHc;exact hHc.2
 obtain⟨I,hI⟩: ∃I:Nat→Nat→World→Prop,I=fun g k W=>∃nh,J k nh∧Hp C (HX kd kl ku w.heap.size (w.heap.size+1) g lpT lpT nh (kpH H hs hs)) W:=⟨_,rfl⟩
 obtain⟨Φ,hΦ⟩: ∃Φ:Nat→Nat→World→Nat→Prop,Φ=fun g k W b=>∃h:(∃nh,J k nh∧Hp C (HX kd kl ku w.heap.size (w.heap.size+1) g lpT lpT nh (kpH H hs hs)) W),Fh C (HX kd kl ku w.heap.size (w.heap.size+1) g lpT lpT (Classical.choose h) (kpH H hs hs)) b:=⟨_,rfl⟩
 have hΦe: ∀g k W (h: ∃nh,J k nh∧Hp C (HX kd kl ku w.heap.size (w.heap.size+1) g lpT lpT nh (kpH H hs hs)) W),Φ g k W=Fh C (HX kd kl ku w.heap.size (w.heap.size+1) g lpT lpT (Classical.choose h) (kpH H hs hs)):=fun g k W h=>by
  subst hΦ;funext b;exact propext ⟨fun⟨_,h2⟩=>h2,fun h2=>⟨h,h2⟩⟩
 have hch: ∀{k:Nat} {nh:List (Nat×Res)},J k nh→nrf kl (hcat nh (kpH H hs hs))=true∧nrf ku (hcat nh (kpH H hs hs))=true∧hk (hcat nh (kpH H hs hs)) ku=none:=fun h=>by
  have:=(hsub _ _ 0 0 0 h).2.1
  rw[Bool.and_eq_true,Bool.and_eq_true]at this
  refine⟨this.1.1,this.1.2,?_⟩
  have h2:=this.2
  split at h2
  ·assumption
  ·cases h2
 have hlast: ∀{k g D:Nat} {q:Obj→Prop} {nh:List (Nat×Res)},J k nh→nrf kl ((kd,.ob D dfT)::hcat ((ku,.ob g q)::nh) (kpH H hs hs))=true:=fun h=>nrf_cons (nrf_cons (hch h).1)
 have hlast0: ∀{k D:Nat} {nh:List (Nat×Res)},J k nh→nrf kl ((kd,.ob D dfT)::hcat nh (kpH H hs hs))=true:=fun h=>nrf_cons (hch h).1
 have hext: ∀{g D L:Nat} {p q:Obj→Prop} {nh:List (Nat×Res)} {W:World},Hp C (HX kd kl ku D L g p q nh (kpH H hs hs)) W↔Hp C ((kl,.ob L p)::(ku,.ob g q)::(kd,.ob D dfT)::hcat nh (kpH H hs hs)) W:=by
  intro g D L p q nh W
  have e: ∀i,hk (HX kd kl ku D L g p q nh (kpH H hs hs)) i=hk ((kl,.ob L p)::(ku,.ob g q)::(kd,.ob D dfT)::hcat nh (kpH H hs hs)) i:=fun i=>by
   show hk ((kl,.ob L p)::(kd,.ob D dfT)::(ku,.ob g q)::hcat nh (kpH H hs hs)) i=_
   simp only[hk_cons]
   by_cases h1:kl=i
   ·rw[if_pos h1,if_pos h1]
   ·rw[if_neg h1,if_neg h1]
    by_cases h2:kd=i
    ·rw[if_pos h2,if_neg (fun e=>hdu (h2.trans e.symm)),if_pos h2]
    ·rw[if_neg h2,if_neg h2]
  exact⟨fun h=>h.ext fun i=>.inl (e i).symm,fun h=>h.ext fun i=>.inl (e i)⟩
 have htu: ∀{k g D L:Nat} {p q q':Obj→Prop} {nh:List (Nat×Res)} {W W':World} {o:Obj},J k nh→Hp C (HX kd kl ku D L g p q nh (kpH H hs hs)) W→Ch [g] W W'→W'.heap[g]?=some o→q' o→Hp C (HX kd kl ku D L g p q' nh (kpH H hs hs)) W':=fun hJ h hc ho hq=>hext.2 ((hext.1 h).ob2 hlu (nrf_cons (hch hJ).2.1) hc ho hq)
 have hgo: ∀{g D L:Nat} {p q:Obj→Prop} {nh:List (Nat×Res)} {W:World},Hp C (HX kd kl ku D L g p q nh (kpH H hs hs)) W→∃o,W.heap[g]?=some o∧q o:=fun h=>(hext.1 h).hold ku (.ob _ _) (by rw[hk_cons,if_neg hlu,hk_cons,if_pos rfl])
 have hlo: ∀{g D L:Nat} {p q:Obj→Prop} {nh:List (Nat×Res)} {W:World},Hp C (HX kd kl ku D L g p q nh (kpH H hs hs)) W→∃o,W.heap[L]?=some o∧p o:=fun h=>(hext.1 h).hold kl (.ob _ _) (by rw[hk_cons,if_pos rfl])
 have grow: ∀{b:Nat} {o:Obj} {S:List Nat} {W W':World},W.heap[b]?=some o→Ch S W W'→∃o',W'.heap[b]?=some o':=fun ho hc=>⟨_,Array.getElem?_eq_getElem (Nat.lt_of_lt_of_le (Array.getElem?_eq_some_iff.1 ho).1 hc.size)⟩
 refine rangeKU hf hg hcf xs.length _ _ _ (IK C kd kl w.heap.size (w.heap.size+1) (fun _ x=>x=nh) (kpH H hs hs) 0) I (XK P Y K C l w.heap.size (w.heap.size+1)) (hseq (fun W=>Fh C (HK kd kl w.heap.size (w.heap.size+1) lpT nh (kpH H hs hs))) Φ) (fun g k W0 W args ⟨x,cs,_,h2,_⟩=>by rw[h2];exact hag cs) (fun p hp=>Nat.le_of_ble_eq_true (List.all_eq_true.1 hps p hp)) ?_ ?_ ?_ ?_ ?_ ?_ ?_ ?_ ?_ ?_ ?_ ?_
 ·rintro W1 ⟨W',hc1,hz1,hd,hc2,hz2⟩ ⟨o,ho⟩
  refine⟨nh,rfl,?_⟩
  have h1:Hp C (hcat nh (kpH H hs hs)) w:=hh.cov gs h0
  have h2:Hp C ((kd,.ob w.heap.size dfT)::hcat nh (kpH H hs hs)) W':=h1.new hn1 hc1 (fun b hb=>by simp only[Res.bl,List.mem_singleton]at hb;omega) (fun j hj=>by cases hj) fun F B _ _ _=>⟨_,hd,rfl⟩
  refine h2.new (by rw[hk_cons,if_neg hne];exact hn2) hc2 (fun b hb=>by simp only[Res.bl,List.mem_singleton]at hb;omega) (fun j hj=>by cases hj) fun F B _ _ _=>⟨o,ho,trivial⟩
 ·rintro W W' ⟨nh',rfl,hW⟩ hc
  obtain⟨o,ho,_⟩: ∃o,W.heap[w.heap.size+1]?=some o∧lpT o:=hW.hold kl (.ob (w.heap.size+1) lpT) (by rw[hk_cons,if_pos rfl])
  obtain⟨o',ho'⟩:=grow ho hc
  exact⟨nh',rfl,hW.ob (hlast0 hJ0) hc ho' trivial⟩
 ·rintro u k W W' _ hIk hc
  subst hI
  obtain⟨nh',hJ,hW⟩:=hIk
  obtain⟨o,ho,_⟩:=hlo hW
  obtain⟨o',ho'⟩:=grow ho hc
  exact⟨nh',hJ,hW.ob (hlast hJ) hc ho' trivial⟩
 ·rintro u k W W' _ hIk hc
  subst hI
  obtain⟨nh',hJ,hW⟩:=hIk
  obtain⟨o,ho,_⟩:=hgo hW
  obtain⟨o',ho'⟩:=grow ho hc
  exact⟨nh',hJ,htu hJ hW hc ho' trivial⟩
 ·rintro u W W' ⟨nh',rfl,hW⟩ hc hu hu'
  subst hI
  refine⟨nh',hJ0,hext.2 ?_⟩
  have h1:Hp C ((kl,.ob (w.heap.size+1) lpT)::(kd,.ob w.heap.size dfT)::hcat nh' (kpH H hs hs)) W:=hW
  have h2:hk ((kl,.ob (w.heap.size+1) lpT)::(kd,.ob w.heap.size dfT)::hcat nh' (kpH H hs hs)) ku=none:=by
   rw[hk_cons,if_neg hlu,hk_cons,if_neg hdu];exact(hch hJ0).2.2
  exact(h1.new (r':=.ob u lpT) h2 hc (fun b hb=>by simp only[Res.bl,List.mem_singleton]at hb;omega) (fun j hj=>by cases hj) fun F B _ _ _=>⟨_,Array.getElem?_eq_getElem hu',trivial⟩).swap (Ne.symm hlu)
 ·exact fun e W W' h hc W2 hc2=>h W2 (Ch.then (U:=[w.heap.size+1]) hc hc2 (by simp) (by simp))
 ·rintro W ⟨nh',rfl,hW⟩
  obtain⟨ls,hS⟩:=hsub0 w.heap.size (w.heap.size+1)
  exact hS.hp hW hHc0 rfl (by simp)
 ·intro u k W _ h
  subst hI
  show Hp ⟨0,[],W,[u],Φ u k W⟩ _ W
  rw[hΦe u k W h]
  obtain⟨hJ,hW⟩:=Classical.choose_spec h
  obtain⟨ls,hS,hls⟩:=(hsub _ _ w.heap.size (w.heap.size+1) u hJ).1
  have hku:hk (HX kd kl ku w.heap.size (w.heap.size+1) u lpT lpT (Classical.choose h) (kpH H hs hs)) ku=some (.ob u lpT):=by
   rw[hk_cons,if_neg hlu,hk_cons,if_neg hdu]
   show hk ((ku,.ob u lpT)::hcat (Classical.choose h) (kpH H hs hs)) ku=_
   rw[hk_cons,if_pos rfl]
  have h3:=(Sub.m (k0:=kU) ku hS hku rfl).hp hW hHc rfl (by simpa using hls)
  have e:blks (HX kd kl ku w.heap.size (w.heap.size+1) u lpT lpT (Classical.choose h) (kpH H hs hs)) [(kU,ku)]=[u]:=by
   unfold blks;rw[hku];rfl
  rw[e]at h3
  exact h3
 ·intro u k W0 W args a1 o hk1 _ hgW hIk hc hlt ⟨x,cs,hx,hargs,hrep⟩ hlen ho hdf hfr
  subst hI
  rw[hΦe u k W0 hIk]at hrep
  obtain⟨hJ,hW⟩:=Classical.choose_spec hIk
  obtain⟨nh',hnh⟩: ∃nh',nh'=Classical.choose hIk:=⟨_,rfl⟩
  rw[←hnh]at hrep hJ hW
  obtain⟨ou,hou⟩: ∃ou,W.heap[u]?=some ou:=⟨_,Array.getElem?_eq_getElem hgW⟩
  have hWu:Hp C (HX kd kl ku w.heap.size (w.heap.size+1) u lpT (fun x=>x=ou) nh' (kpH H hs hs)) W:=htu hJ hW hc hou rfl
  have hW1:Hp C (HX kd kl ku w.heap.size (w.heap.size+1) u (fun x=>x=o) (fun x=>x=ou) nh' (kpH H hs hs)) W:=hWu.ob (hlast hJ) (Ch.refl' _ _) ho rfl
  have hb:=(sub_mvl (HX kd kl ku w.heap.size (w.heap.size+1) u (fun x=>x=o) (fun x=>x=ou) nh' (kpH H hs hs)) bs).hp hW1 (nod_nodup.2 ((kpH_sub _ _ bs).nodup (nod_nodup.1 hbs))) (nod_nodup.2 ((mvl_sub _ bs).nodup (nod_nodup.1 hbs))) (by simp)
  have hpq: ∀j b,Bk (HX kd kl ku w.heap.size (w.heap.size+1) u (fun x=>x=o) (fun x=>x=ou) nh' (kpH H hs hs)) j b→Bk (HX kd kl ku w.heap.size (w.heap.size+1) u lpT lpT nh' (kpH H hs hs)) j b:=fun j b ⟨r,h1,h2⟩=>by
   have h1':hk ((kl,.ob (w.heap.size+1) (fun x=>x=o))::(kd,.ob w.heap.size dfT)::(ku,.ob u (fun x=>x=ou))::hcat nh' (kpH H hs hs)) j=some r:=h1
   show Bk ((kl,.ob (w.heap.size+1) lpT)::(kd,.ob w.heap.size dfT)::(ku,.ob u lpT)::hcat nh' (kpH H hs hs)) j b
   unfold Bk
   simp only[hk_cons]at h1' ⊢
   by_cases e1:kl=j
   ·rw[if_pos e1]at h1' ⊢
    injection h1' with h1';subst h1'
    exact⟨_,rfl,h2⟩
   ·rw[if_neg e1]at h1' ⊢
    by_cases e2:kd=j
    ·rw[if_pos e2]at h1' ⊢
     exact⟨r,h1',h2⟩
    ·rw[if_neg e2]at h1' ⊢
     by_cases e3:ku=j
     ·rw[if_pos e3]at h1' ⊢
      injection h1' with h1';subst h1'
      exact⟨_,rfl,h2⟩
     ·rw[if_neg e3]at h1' ⊢
      exact⟨r,h1',h2⟩
  have hrep2:t.rep W (Fh ⟨C.n,[],W,blks (HX kd kl ku w.heap.size (w.heap.size+1) u (fun x=>x=o) (fun x=>x=ou) nh' (kpH H hs hs)) (mvl (HX kd kl ku w.heap.size (w.heap.size+1) u (fun x=>x=o) (fun x=>x=ou) nh' (kpH H hs hs)) bs),Fh C (HX kd kl ku w.heap.size (w.heap.size+1) u (fun x=>x=o) (fun x=>x=ou) nh' (kpH H hs hs))⟩ (kpH (HX kd kl ku w.heap.size (w.heap.size+1) u (fun x=>x=o) (fun x=>x=ou) nh' (kpH H hs hs)) [] bs)) cs x:=by
   have hnb: ∀b,(∀j,¬Bk (HX kd kl ku w.heap.size (w.heap.size+1) u (fun x=>x=o) (fun x=>x=ou) nh' (kpH H hs hs)) j b)→∀j,¬Bk (kpH (HX kd kl ku w.heap.size (w.heap.size+1) u (fun x=>x=o) (fun x=>x=ou) nh' (kpH H hs hs)) [] bs) j b:=fun b hB j ⟨r,h1,h2⟩=>hB j ⟨r,(hk_kpH h1).1,h2⟩
   refine rep_to hrep (S:=[]) (Ch.refl W) fun b hb hl=>⟨by simp,?_⟩
   have:Fh C (HX kd kl ku w.heap.size (w.heap.size+1) u (fun x=>x=o) (fun x=>x=ou) nh' (kpH H hs hs)) b:=by
    rcases hb with hb|hb
    ·exact⟨fun j hj=>hb.1 j (hpq j b hj),hb.2⟩
    ·exact⟨fun j hj=>by have:=(hW.bnd j b (hpq j b hj)).2;omega,.inr (.inl (Nat.le_trans hW.ch.size hb))⟩
   exact⟨hnb b this.1,.inl this⟩
  obtain⟨pl,hpl,hcs,hb2⟩:=put_dat hb.nds hrep2 kn ((hsub _ _ w.heap.size (w.heap.size+1) u hJ).2.2 o _)
  subst hcs
  rw[hargs]at hfr
  refine wpIn_mono (tele_at (hround u ou k nh' x w.heap.size (w.heap.size+1) W o hJ hx (rep_ok t hrep) hW1) pl hpl a1 W hfr hb2) fun e a2 W2 he=>?_
  cases e with
  |normal=>
   obtain⟨h1,h2,h3⟩:=he
   refine⟨rfl,h1,h2,fun W3 o2 hc3 ho3 hd3=>wpIn_mono (h3 W3 o2 hc3 ho3 hd3) fun e a4 W4 he4=>?_⟩
   obtain⟨h5,h6,h7⟩:=he4
   refine⟨h5,h6,?_⟩
   cases e with
   |normal=>
    obtain⟨nh2,⟨nh3,rfl,hJ3⟩,h8⟩:=h7
    obtain⟨o9,ho9,rfl⟩:=hgo (q:=fun x=>x=ou) h8
    exact⟨⟨nh3,hJ3,htu (q:=fun x=>x=o9) hJ3 h8 (Ch.refl' _ _) ho9 trivial⟩,ho9.trans hou.symm⟩
   |_=>exact h7
  |_=>exact False.elim he
 ·rintro u W a' _ hIk hd hf'
  subst hI
  obtain⟨nh',hJ,hW⟩:=hIk
  exact hdone u nh' _ _ hJ a' W hf' hW.nds
 ·exact fun W a' hX hd hf'=>hX W (Ch.refl' _ _) a' hf'
 ·exact fun id W a' hX hd hf'=>hX W (Ch.refl' _ _) a' hf'
end
structure YlU (P:Program) (lid:Nat) (J0:World→Prop) (J:Nat→Nat→World→Prop) (Jx:World→Prop) (Φ0:World→Nat→Prop) (Φ:Nat→Nat→World→Nat→Prop) (Hc:List (Nat×Res)) (t:Ty) (ag:List Value→List Value) (xs:List t.den):Prop where
 js0: ∀W W',J0 W→Ch [] W W'→J0 W'
 js: ∀g k W W',J g k W→Ch [g] W W'→J g k W'
 jx: ∀W W',Jx W→Ch [] W W'→Jx W'
 dat0: ∀W,J0 W→Hp ⟨0,[],W,[],Φ0 W⟩ Hc W
 cv: ∀g W W',J0 W→Ch [] W W'→W.heap.size≤g→g<W'.heap.size→J g 0 W'
 dat: ∀g k W,J g k W→Hp ⟨0,[],W,[g],Φ g k W⟩ ((kU,.ob g lpT)::Hc) W
 y: ∀g k W0 W args,k<xs.length→J g k W0→Ch [g] W0 W→ElU t ag xs Φ g k W0 W args→YieldAt (FW none) 0 P lid args.toArray W fun e W'=>(e=.returned (.bool true)∧J g (k+1) W'∧W'.heap[g]?=W.heap[g]?)∨(e=.returned (.bool false)∧Jx W')
abbrev CY0 (n:Nat) (Φ0:World→Nat→Prop) (w:World):Cx:=⟨n,[],w,[],Φ0 w⟩
abbrev CYU (n g:Nat) (Φ:Nat→Nat→World→Nat→Prop) (i:Nat×World):Cx:=⟨n,[],i.2,[g],Φ g i.1 i.2⟩
section
variable {P:Program}{lid:Nat}{J0:World→Prop}{J:Nat→Nat→World→Prop}{Jx:World→Prop}{Φ0:World→Nat→Prop}{Φ:Nat→Nat→World→Nat→Prop}{Hc:List (Nat×Res)}{t:Ty}{ag:List Value→List Value}{xs:List t.den}{n:Nat}
theorem SqU.enter {gf:FuncId}{fn:Func}{c:Code}{cap:List Value}(hf:P.funcs[gf]?=some fn)(hb:fn.body=some c)(hn:fn.ntmps=n)(hm:Nat.ble (cap.length+1) n=true)
  (h: ∀lid w J0 J Jx Φ0 Φ,YlU P lid J0 J Jx Φ0 Φ Hc t ag xs→J0 w→AX none P (bodyPost P fn fun e W'=>e=.returned (.tuple #[])∧((∃g,J g xs.length W')∨Jx W')) [] c (CY0 n Φ0 w) (argl (.func (.yield lid) #[] #[]::cap) 0) Hc):SqU P gf cap Hc t ag xs:=fun Φ0 Φ lid w J0 J Jx h1 h2 h3 h4 h5 h6 h7 h8=>
 Z.enter hf hb hn (Nat.le_of_ble_eq_true hm) fun a hf'=>h lid w J0 J Jx Φ0 Φ ⟨h1,h2,h3,h4,h5,h6,h8⟩ h7 a w hf' (h4 w h7).nds
theorem Hp.turn {C:Cx}{H:List (Nat×Res)}{w:World}{k g p:Nat}{s:ByteArray}{q:Obj→Prop}(h:Hp C ((k,.ob g q)::H) w)(hs:Si w g s p)(hr:nrf k H=true):Hp C ((k,.si g s p)::H) w:=by
 have h1:Hp C ((k,.si g s p)::drp k ((k,.ob g q)::H)) w:=h.upd (Ch.refl w) (fun b hb=>by cases hb) (fun b hb=>.inl (Bk.cons_eq.2 hb)) (fun j hj=>by cases hj) fun _ _ _ _ _ _ _=>hs
 refine h1.ext fun j=>.inl ?_
 rw[hk_cons,hk_cons]
 by_cases e:k=j
 ·rw[if_pos e,if_pos e]
 ·rw[if_neg e,if_neg e,hk_drp_eq,hk_cons,if_neg e]
  cases hj:hk H j with
  |none=>rfl
  |some v=>
   have:=nrf_spec hr hj
   cases hv:v.ref with
   |none=>simp[rin,hv]
   |some i=>
    have hi:i≠k:=fun e=>this (by rw[hv,e])
    have hb:Nat.beq i k=false:=by cases hb:Nat.beq i k with
     |false=>rfl
     |true=>exact absurd (Nat.eq_of_beq_eq_true hb) hi
    simp[rin,hv,hb]
theorem AL.rgsU {ops:Array Oper}{Q:Exit→Act→World→Prop}{rest:List Oper}{l:List (Nat×Value)}{H:List (Nat×Res)}{d:Nat}{T:TypeId}{pos:String}{af:Array Edge}{w0:World}{tt:TypeId}{x:Operand}{s:ByteArray}(hY:YlU P lid J0 J Jx Φ0 Φ Hc t ag xs)(hJ:J0 w0)
  (h: ∀g w',J g 0 w'→AL none P ops Q rest (CYU n g Φ (0,w')) ((d,.pointer (some ⟨g,0,none⟩))::l) ((kU,.si g s 0)::Hc))
  (ht:P.underlying tt=some .string:=by rfl) (hx:ev l x=some (.string s):=by rfl) (hd:Nat.ble (d+1) n=true:=by rfl) (hr:nrf kU Hc=true:=by kernel_rfl):AL none P ops Q (⟨some d,.range tt x,T,pos,af,none⟩::rest) (CY0 n Φ0 w0) l H:=fun a w hf hh=>
 Z.st_rangeStr hf hd ht hx fun g w' a' hg hs hb hch hf'=>by
  have hJ':J g 0 w':=hY.cv g w w' (hY.js0 _ _ hJ hh.ch) hch (by omega) hb.lt
  exact h g w' hJ' a' w' hf' ((hY.dat g 0 w' hJ').turn hb hr).nds
theorem AL.yieldU {ops:Array Oper}{Q:Exit→Act→World→Prop}{rest:List Oper}{l:List (Nat×Value)}{H:List (Nat×Res)}{d:Nat}{T:TypeId}{pos:String}{af:Array Edge}{c:Operand}{ass:List Operand}{ts:Array TypeId}{vs:List Value}{g k p:Nat}{w0:World}{s:ByteArray}{x:t.den}{rs:List t.den}
  (hY:YlU P lid J0 J Jx Φ0 Φ Hc t ag xs) (hJ:J g k w0) (hR:Rem xs k (x::rs)) (cs:List Value) (hD:Dat H t cs x)
  (ht: ∀w',J g (k+1) w'→Rem xs (k+1) rs→AL none P ops Q rest (CYU n g Φ (k+1,w')) ((d,.bool true)::l) ((kU,.si g s p)::Hc))
  (he: ∀w',Jx w'→AL none P ops Q rest ⟨n,[],w',[],no⟩ ((d,.bool false)::l) [])
  (hsi:hk H kU=some (.si g s p):=by rfl) (hr:nrf kU Hc=true:=by kernel_rfl)
  (hc:ev l c=some (.func (.yield lid) #[] #[]):=by rfl) (hx:evs l ass=some vs:=by rfl) (hv:ag cs=vs:=by rfl) (hd:Nat.ble (d+1) n=true:=by rfl):
  AL none P ops Q (⟨some d,.call {callee:=.value c,args:=ass.toArray,argTypes:=ts},T,pos,af,none⟩::rest) (CYU n g Φ (k,w0)) l H:=fun a w hf hh=>by
 subst hv
 have hlt:k<xs.length:=(List.getElem?_eq_some_iff.1 hR.at).1
 have hs:Si w g s p:=hh.hold kU _ hsi
 refine callY hf hd hc hx (hY.y g k w0 w _ hlt hJ hh.ch ⟨x,cs,hR.at,rfl,rep_as (Dat.rep hh t hD) fun b hb hl=>?_⟩) ?_
 ·rcases hb.2 with h1|h1|h1
  ·exact .inl h1
  ·exact .inr h1
  ·exact absurd (show Bk H kU b from⟨_,hsi,h1⟩) (hb.1 kU)
 ·rintro e w' (⟨rfl,h1,h2⟩|⟨rfl,h1⟩)
  ·exact⟨_,rfl,fun a' hf'=>ht w' h1 hR.next a' w' hf' ((hY.dat _ _ _ h1).turn (show Si w' g s p from h2.trans hs) hr).nds⟩
  ·exact⟨_,rfl,fun a' hf'=>he w' h1 a' w' hf' ⟨Ch.refl' _ _,fun k r h=>(by cases h),fun k b ⟨_,h,_⟩=>(by cases h),fun k k' b ⟨_,h,_⟩=>(by cases h),fun k r j h=>(by cases h)⟩⟩
theorem AX.rtYU {fn:Func}{K:List Kx}{l:List (Nat×Value)}{H:List (Nat×Res)}{g k:Nat}{w0:World}(hY:YlU P lid J0 J Jx Φ0 Φ Hc t ag xs)(hJ:J g k w0)(hR:Rem xs k [])(h:fn.results=#[]:=by rfl):AX none P (bodyPost P fn fun e W'=>e=.returned (.tuple #[])∧((∃g,J g xs.length W')∨Jx W')) K .ret (CYU n g Φ (k,w0)) l H:=AX.ret0 fun a w hf hh=>
 Z.retv hf (Z.res0 h w) ⟨rfl,.inl ⟨g,hR.nil▸hY.js _ _ _ _ hJ hh.ch⟩⟩
theorem AE.rtYU {fn:Func}{l:List (Nat×Value)}{H:List (Nat×Res)}{g k:Nat}{w0:World}(hY:YlU P lid J0 J Jx Φ0 Φ Hc t ag xs)(hJ:J g k w0)(hR:Rem xs k [])(h:fn.results=#[]:=by rfl):AE none P (bodyPost P fn fun e W'=>e=.returned (.tuple #[])∧((∃g,J g xs.length W')∨Jx W')) [] .normal (CYU n g Φ (k,w0)) l H:=fun a w hf hh=>
 Z.endv hf (Z.res0 h w) ⟨rfl,.inl ⟨g,hR.nil▸hY.js _ _ _ _ hJ hh.ch⟩⟩
theorem AX.rtXU {fn:Func}{K:List Kx}{l:List (Nat×Value)}{H:List (Nat×Res)}{w0:World}{F:Nat→Prop}(hY:YlU P lid J0 J Jx Φ0 Φ Hc t ag xs)(hJ:Jx w0)(h:fn.results=#[]:=by rfl):AX none P (bodyPost P fn fun e W'=>e=.returned (.tuple #[])∧((∃g,J g xs.length W')∨Jx W')) K .ret ⟨n,[],w0,[],F⟩ l H:=AX.ret0 fun a w hf hh=>
 Z.retv hf (Z.res0 h w) ⟨rfl,.inr (hY.jx _ _ hJ hh.ch)⟩
theorem AE.rtXU {fn:Func}{l:List (Nat×Value)}{H:List (Nat×Res)}{w0:World}{F:Nat→Prop}(hY:YlU P lid J0 J Jx Φ0 Φ Hc t ag xs)(hJ:Jx w0)(h:fn.results=#[]:=by rfl):AE none P (bodyPost P fn fun e W'=>e=.returned (.tuple #[])∧((∃g,J g xs.length W')∨Jx W')) [] .normal ⟨n,[],w0,[],F⟩ l H:=fun a w hf hh=>
 Z.endv hf (Z.res0 h w) ⟨rfl,.inr (hY.jx _ _ hJ hh.ch)⟩
end
end Go.A
end
section
set_option linter.unusedVariables false
set_option linter.unusedSimpArgs false
set_option maxRecDepth 20000
set_option maxHeartbeats 8000000
set_option synthInstance.maxSize 1000000
set_option synthInstance.maxHeartbeats 400000
namespace Go.Proofs.YtbljnlkhebiniaaDoor
open Go.RowKit
def F.fn_ahead (a0:Int)(a1:ByteArray)(a2:ByteArray):Option Bool:=if a0=31 then(some (Op.bytesLess a1.toList a2.toList))else(if a0=32 then(some (!(Op.bytesLess a1.toList a2.toList||a1.toList==a2.toList)))else((F.fn_runes a1).bind fun r1=>((F.fn_runes a2).bind fun r5=>(if((r5).length:Int)<((r1).length:Int)then(some true)else(some (bif decide (((r1).length:Int)=((r5).length:Int))then Op.bytesLess a1.toList a2.toList else false))))))
theorem fn_ahead_ok (a0:Int)(a1:ByteArray)(a2:ByteArray)(h0_:IntKind.i64.has a0)(h1_:a1.size≤maxLen)(h2_:a2.size≤maxLen)(r:Bool)(hF:F.fn_ahead a0 a1 a2=some r):
    A.Ct Tryd.prog 80 [.int .i64 a0,.string a1,.string a2] [] [] (fun v H'=>v=.bool r∧H'=[]):=by
 refine A.Ct.enter Tryd.func80 rfl Tryd.ntmps80 rfl fun w0 F0=>?_
 rw[F.fn_ahead]at hF
 refine A.xl 1 ?_
 refine A.q0 [] [] [.n] [] ?_
 refine A.dl 3 ?_
 refine A.q0 [] [] [.n] [(9,.int .i64 a0)] ?_
 refine A.dl 3 ?_
 refine A.q0 [] [] [.n,.n] [(10,.bool (decide (a0=31)))] ?_
 refine A.dx 1 ?_
 refine A.AX.cnd rfl hF (fun hb hF=>?_) (fun hb hF=>?_)
 ·refine A.xl 1 ?_
  refine A.q0 [] [] [.n,.n,.n,.n] [(6,.bool (Op.bytesLess a1.toList a2.toList))] ?_
  refine A.dx 1 ?_
  obtain rfl:=Option.some.inj hF
  exact A.rt1 [] ⟨rfl,rfl⟩
 refine A.xl 1 ?_
 refine A.q0 [] [] [.n,.n] [(15,.bool (decide (a0=32)))] ?_
 refine A.dx 1 ?_
 refine A.AX.cnd rfl hF (fun hb hF=>?_) (fun hb hF=>?_)
 ·refine A.xl 1 ?_
  refine A.q0 [] [] [.n,.n,.n,.n] [(6,.bool (!(Op.bytesLess a1.toList a2.toList||a1.toList==a2.toList)))] ?_
  refine A.dx 1 ?_
  obtain rfl:=Option.some.inj hF
  exact A.rt1 [] ⟨rfl,rfl⟩
 refine A.xl 4 ?_
 refine A.q0 [] [] [.n] [(20,.string a1)] ?_
 obtain⟨r1,hv2,hF⟩:=A.bd_some hF
 refine A.AL.call 0 [] (first:=[]) (cap:=[]) cf83 (fn_runes_ok a1 h1_ r1 hv2) .nil ?_
 rintro _ _ ⟨A3,c4,rfl,rfl⟩
 refine⟨by kernel_rfl,?_⟩
 refine A.q0 [] [] [.n,.n] [(22,.int .i64 ((r1).length:Int)),(23,.string a2)] ?_
 obtain⟨r5,hv6,hF⟩:=A.bd_some hF
 refine A.AL.call 40 [] (first:=[]) (cap:=[]) cf83 (fn_runes_ok a2 h2_ r5 hv6) .nil ?_
 rintro _ _ ⟨A7,c8,rfl,rfl⟩
 refine⟨by kernel_rfl,?_⟩
 refine A.q0 [] [] [.n,.n,.n] [(7,.int .i64 ((r1).length:Int)),(8,.int .i64 ((r5).length:Int))] ?_
 refine A.dl 2 ?_
 refine A.q0 [] [] [.n,.n,.n,.n] [(29,.bool (decide (((r5).length:Int)<((r1).length:Int))))] ?_
 refine A.AL.cnp (j:=29) rfl hF (fun hb hF=>?_) (fun hb hF=>?_)
 ·refine A.q0 [] [] [.off,.off,.off,.off,.off,.off,.off,.off,.n,.n] [(6,.bool true)] ?_
  refine A.dx 1 ?_
  obtain rfl:=Option.some.inj hF
  exact A.rt1 [] ⟨rfl,rfl⟩
 refine A.q0 [] [] [.on .n,.on .n,.on .n,.on .n,.sy .n,.sy .n,.sy .n,.on .pk,.n,.n] [(6,.bool (bif decide (((r1).length:Int)=((r5).length:Int))then Op.bytesLess a1.toList a2.toList else false))] ?_
 refine A.dx 1 ?_
 obtain rfl:=Option.some.inj hF
 exact A.rt1 [] ⟨rfl,rfl⟩
def F.rec_Runes (a0:ByteArray):Option (ByteArray):=some a0
theorem rec_Runes_ok (a0:ByteArray)(h0_:a0.size≤maxLen)(r:(ByteArray))(hF:F.rec_Runes a0=some r):
    A.Ct Tryd.prog 81 [.string a0] [] [] (fun v H'=>∃(g0':Nat),v=.func (.func 99) #[] #[.pointer (some ⟨g0',0,none⟩)]∧H'=[(0,.blk g0' 9 [.string r])]∧r.size≤maxLen):=by
 refine A.Ct.enter Tryd.func81 rfl Tryd.ntmps81 rfl fun w0 F0=>?_
 rw[F.rec_Runes]at hF
 refine A.xl 1 ?_
 refine A.AL.box 0 (cs:=[.string a0]) fun g1=>?_
 refine A.q0 [] [] [.n] [] ?_
 refine A.dl 2 ?_
 refine A.q0 [] [] [.n,.n] [(2,.func (.func 99) #[] #[.pointer (some ⟨g1,0,none⟩)])] ?_
 refine A.dx 1 ?_
 obtain rfl:=Option.some.inj hF
 exact A.rt1 [(0,0)] ⟨g1,rfl,rfl,h0_⟩
def F.rec_Runes_1_it_l1 (b0:ByteArray):Nat→Nat→Option (List (Int×Int))
 |0,_=>none
 |f+1,p4=>if p4<b0.size then(A.cns ((p4:Int),((Utf8.decode b0 p4).1:Int)) ((F.rec_Runes_1_it_l1 b0 f) (p4+(Utf8.decode b0 p4).2)))else(some [])
def F.rec_Runes_1_it (b0:ByteArray):Option (List (Int×Int)):=F.rec_Runes_1_it_l1 b0 A.FU 0
theorem rec_Runes_1_it_sq (b0:ByteArray)(g0_:Nat)(h1_:b0.size≤maxLen)(xs:List (Int×Int))(hF:F.rec_Runes_1_it b0=some xs):
    A.SqU Tryd.prog 99 [.pointer (some ⟨g0_,0,none⟩)] [(0,.el none g0_ 0 [.string b0])] (Z.Ty.pair (Z.Ty.int .i64) (Z.Ty.int .i32)) (fun cs=>[Z.vof false (cs.take 1),Z.vof false (cs.drop 1)]) xs:=by
 refine A.SqU.enter Tryd.func99 rfl Tryd.ntmps99 rfl fun lid w0 J0 J Jx Φ0 Φ hY hJ0=>?_
 obtain⟨rs0,hrs⟩: ∃rs0,rs0=xs:=⟨_,rfl⟩
 have hR0:A.Rem xs 0 rs0:=hrs▸A.Rem.zero xs
 rw[F.rec_Runes_1_it,←hrs]at hF
 clear hrs
 refine A.xl 1 ?_
 refine A.q0 [] [0] [.e 0 0] [(5,.string b0)] ?_
 refine A.AL.rgsU hY hJ0 fun g1 w2 hJ3=>?_
 refine A.dx 2 ?_
 refine A.AX.loopC (A.CYU 16 g1 Φ) (0,w2) [0,6] [] [4711] (fun f i nl nh=>∃(p4:Nat),∃(rs:List (Int×Int)),nl=[]∧nh=[(4711,.si g1 b0 p4)]∧J g1 i.1 i.2∧A.Rem xs i.1 rs∧F.rec_Runes_1_it_l1 b0 f p4=some rs) A.FU [] [(4711,.si g1 b0 0)] ⟨0,_,rfl,rfl,hJ3,hR0,hF⟩ ?_
 rintro f5 ⟨k6,w7⟩ _ _ ⟨p4,rs10,rfl,rfl,hJ8,hR9,hF⟩
 rcases f5 with _|f5
 ·exact A.no0 hF
 rw[F.rec_Runes_1_it_l1]at hF
 refine A.xl 1 ?_
 refine A.AL.nxs 4711 [] hF (fun hb11 hF=>?_) (fun hb hF=>?_)
 ·refine A.q0 [] [] [.n] [(8,.bool true)] ?_
  refine A.dx 2 ?_
  refine A.AX.cnt rfl ?_
  refine A.xl 4 ?_
  refine A.q0 [] [] [.n,.n,.n,.n] [(3,.int .i64 (p4:Int)),(4,.int .i32 ((Utf8.decode b0 p4).1:Int))] ?_
  refine A.dl 2 ?_
  refine A.q0 [] [] [.n,.n,.n] [(11,.func (.yield lid) #[] #[]),(12,.int .i64 (p4:Int)),(13,.int .i32 ((Utf8.decode b0 p4).1:Int))] ?_
  obtain⟨rs12,hqrs12,hF⟩:=A.cns_some hF
  refine A.AL.yieldU (t:=.pair (Z.Ty.int .i64) (Z.Ty.int .i32)) (x:=((p4:Int),((Utf8.decode b0 p4).1:Int))) hY hJ8 (hqrs12▸hR9) [.int .i64 (p4:Int),.int .i32 ((Utf8.decode b0 p4).1:Int)] ⟨⟨rfl,(A.si_has hb11 h1_)⟩,⟨rfl,A.dec_has⟩⟩ (fun w13 hJ14 hR15=>?_) (fun w13 hX16=>?_)
  ·refine A.q0 [] [] [.n] [(15,.bool false)] ?_
   refine A.dx 1 ?_
   refine A.AX.cnf rfl ?_
   refine A.xe 2 ?_
   exact A.AE.jC (k6+1,w13) [4711] [] [(4711,.si g1 b0 (p4+(Utf8.decode b0 p4).2))] ⟨_,Nat.lt_succ_self _,⟨(p4+(Utf8.decode b0 p4).2),_,rfl,rfl,hJ14,hR15,hF⟩⟩
  refine A.q0 [] [] [.n] [(15,.bool true)] ?_
  refine A.dx 1 ?_
  refine A.AX.cnt rfl ?_
  exact A.AX.rtXU hY hX16
 refine A.q0 [] [] [.n] [(8,.bool false)] ?_
 refine A.dx 2 ?_
 refine A.AX.cnf rfl ?_
 refine A.xe 1 ?_
 obtain rfl:=Option.some.inj hF
 exact A.AE.rtYU hY hJ8 hR9
def F.rec_Cut_l1 (a0:ByteArray)(a1:Int):List (Int×Int)→Int→Option ByteArray
 | [],y23=>if(a0.size:Int)≤a1 then(some a0)else(A.gd (0≤y23∧y23≤(a0.size:Int)) (some (a0.extract 0 y23.toNat)))
 |y20::f,y23=>if a1<y20.1 then(A.gd (0≤y23∧y23≤(a0.size:Int)) (some (a0.extract 0 y23.toNat)))else((F.rec_Cut_l1 a0 a1 f) y20.1)
def F.rec_Cut (a0:ByteArray)(a1:Int):Option ByteArray:=(F.rec_Runes a0).bind fun r5=>((F.rec_Runes_1_it r5).bind fun xs9=>F.rec_Cut_l1 a0 a1 xs9 0)
theorem rec_Cut_ok (a0:ByteArray)(a1:Int)(h0_:a0.size≤maxLen)(h1_:IntKind.i64.has a1)(r:ByteArray)(hF:F.rec_Cut a0 a1=some r):
    A.Ct Tryd.prog 43 [.string a0,.int .i64 a1] [] [] (fun v H'=>v=.string r∧H'=[]∧r.size≤maxLen):=by
 refine A.Ct.enterM Tryd.func43 rfl Tryd.ntmps43 rfl fun w0 F0=>?_
 rw[F.rec_Cut]at hF
 refine A.xl 1 ?_
 refine A.AL.box 0 (cs:=[.string a0]) fun g1=>?_
 refine A.AL.box 1 (cs:=[.int .i64 a1]) fun g2=>?_
 refine A.AL.alloc 2 (cs:=[.string (ByteArray.mk #[])]) Tryd.zeroValue9 fun g3=>?_
 refine A.dl 2 ?_
 refine A.AL.alloc 3 (cs:=[.int .i64 0]) Tryd.zeroValue3 fun g4=>?_
 refine A.sw 3 [] [.int .i64 0] ?_
 refine A.dl 3 ?_
 refine A.q0 [0] [] [.b 0 0] [(7,.string a0)] ?_
 obtain⟨r5,hv6,hF⟩:=A.bd_some hF
 refine A.AL.call 4 [] (first:=[]) (cap:=[]) cf81 (rec_Runes_ok a0 h0_ r5 hv6) .nil ?_
 rintro _ _ ⟨g7,rfl,rfl,hr8⟩
 refine⟨by kernel_rfl,?_⟩
 refine A.dx 2 ?_
 obtain⟨xs9,hv10,hF⟩:=A.bd_some hF
 refine A.AX.rgfU 44 45 46 47 [0,1,2,4] [3,0,1,2,4] [45,44,3,0,1,2,4] (fun k nh=>∃(y23:Int),nh=[(3,.blk g4 3 [.int .i64 y23])]∧IntKind.i64.has y23∧F.rec_Cut_l1 a0 a1 (List.drop k xs9) y23=some r) [(3,.blk g4 3 [.int .i64 0])] cf99 (rec_Runes_1_it_sq r5 g7 hr8 xs9 hv10) (fun _=>rfl) ⟨0,rfl,(A.hasl .i64 (0) rfl),hF⟩ ?_ ?_ ?_ ?_
 ·rintro k19 _ D13 L14 u11 ⟨y23,rfl,hy24,hF⟩
  exact⟨⟨_,(.b 4 .nil),rfl⟩,by kernel_rfl,fun o p=>rfl⟩
 ·intro D13 L14
  exact⟨_,(.b 4 .nil)⟩
 ·rintro u11 ou12 k19 _ y20 D13 L14 w18 o15 ⟨y23,rfl,hy24,hF⟩ hx21 hxo22 hh17
  rw[A.drop_at hx21,F.rec_Cut_l1]at hF
  refine A.xl 0 ?_
  refine A.q0 [] [] [.n] [(6,.int .i64 y20.1)] ?_
  refine A.AL.done ?_
  refine A.AE.flip 44 45 fun o16=>?_
  refine A.xl 3 ?_
  refine A.q0 [1] [] [.n,.b 0 0,.n] [(13,.bool (decide (a1<y20.1)))] ?_
  refine A.dx 1 ?_
  refine A.AX.cnd rfl hF (fun hb hF=>?_) (fun hb hF=>?_)
  ·refine A.xl 1 ?_
   refine A.q0 [0,3] [] [.b 0 0,.b 1 0] [(14,.string a0),(15,.int .i64 y23)] ?_
   obtain⟨hc25,hF⟩:=A.gd_some hF
   refine A.AL.slh hc25 ?_
   refine A.sw 2 [] [.string (a0.extract 0 y23.toNat)] ?_
   refine A.dx 1 ?_
   refine A.AX.bret hh17 [45,0,1,2,3,4,44] 100000 [(45,100045),(0,100000),(1,100001),(2,100002),(3,100003),(4,100004),(44,100044)] [(0,.blk g1 9 [.string a0]),(1,.blk g2 3 [.int .i64 a1]),(2,.blk g3 9 [.string (a0.extract 0 y23.toNat)]),(3,.blk g4 3 [.int .i64 y23]),(4,.blk g7 9 [.string r5]),(44,.ob D13 A.dfT)] ?_ rfl rfl
   obtain rfl:=Option.some.inj hF
   exact A.AE.rtM (Ds:=[D13]) [44] [] (.string (a0.extract 0 y23.toNat)) (⟨rfl,trivial⟩) (fun a w hf hh=>Z.resv1 rfl (Z.rv_1 hf rfl Tryd.isAgg9 (A.Hp.blk hh 2))) (⟨rfl,rfl,(A.ext_le h0_)⟩)
  refine A.xl 2 ?_
  refine A.q0 [] [] [.n] [(17,.int .i64 y20.1)] ?_
  refine A.sw 3 [] [.int .i64 y20.1] ?_
  refine A.de 1 ?_
  exact A.AE.bn hh17 [45,44,3,0,1,2,4] 100000 [(45,100045),(44,100044),(46,46),(3,100003),(0,100000),(1,100001),(2,100002),(4,100004)] [(46,.ob u11 (fun x=>x=ou12)),(3,.blk g4 3 [.int .i64 y20.1])] ⟨_,rfl,y20.1,rfl,hxo22.1,hF⟩ rfl rfl
 rintro u11 _ D13 L14 ⟨y23,rfl,hy24,hF⟩
 rw[List.drop_length,F.rec_Cut_l1]at hF
 refine A.el 4 ?_
 refine A.q0 [0,1] [] [.b 0 0,.n,.b 1 0,.n] [(21,.bool (decide ((a0.size:Int)≤a1)))] ?_
 refine A.dx 1 ?_
 refine A.AX.cnd rfl hF (fun hb hF=>?_) (fun hb hF=>?_)
 ·refine A.xl 1 ?_
  refine A.q0 [0] [] [.b 0 0] [(22,.string a0)] ?_
  refine A.sw 2 [] [.string a0] ?_
  refine A.dx 1 ?_
  obtain rfl:=Option.some.inj hF
  exact A.AX.rtM (Ds:=[D13]) [44] [] (.string a0) (⟨rfl,trivial⟩) (fun a w hf hh=>Z.resv1 rfl (Z.rv_1 hf rfl Tryd.isAgg9 (A.Hp.blk hh 2))) (⟨rfl,rfl,h0_⟩)
 refine A.xl 3 ?_
 refine A.q0 [0,3] [] [.b 0 0,.b 1 0] [(23,.string a0),(24,.int .i64 y23)] ?_
 obtain⟨hc26,hF⟩:=A.gd_some hF
 refine A.AL.slh hc26 ?_
 refine A.sw 2 [] [.string (a0.extract 0 y23.toNat)] ?_
 refine A.dx 1 ?_
 obtain rfl:=Option.some.inj hF
 exact A.AX.rtM (Ds:=[D13]) [44] [] (.string (a0.extract 0 y23.toNat)) (⟨rfl,trivial⟩) (fun a w hf hh=>Z.resv1 rfl (Z.rv_1 hf rfl Tryd.isAgg9 (A.Hp.blk hh 2))) (⟨rfl,rfl,(A.ext_le h0_)⟩)
def F.fn_Reduce_j1 (k1:Int→ByteArray→Int→Option (D45×Int))(y18:Int)(y22:Int)(y25:ByteArray):Option (D45×Int):=A.gd (Z.R64 (y22+1)) (k1 y18 y25 (y22+1))
def F.fn_Reduce_l2 (a0:D23)(a1:(List D57)):Nat→Int→ByteArray→Int→Option (D45×Int)
 |0,_,_,_=>none
 |f+1,y18,y20,y22=>if y22<((List.drop ((1:Int).toNat) a1).length:Int)then((A.ix (List.drop ((1:Int).toNat) a1) y22).bind fun x28=>(if x28.1.1≠y18 then(some ((0,ByteArray.mk #[]),1))else(if a0.1=34 then(A.gd (y20.size+x28.1.2.size≤9223372036854775807) (F.fn_Reduce_j1 (F.fn_Reduce_l2 a0 a1 f) y18 y22 (y20++x28.1.2)))else((F.fn_ahead a0.1 x28.1.2 y20).bind fun r35=>(if r35=true then(F.fn_Reduce_j1 (F.fn_Reduce_l2 a0 a1 f) y18 y22 x28.1.2)else(F.fn_Reduce_j1 (F.fn_Reduce_l2 a0 a1 f) y18 y22 y20))))))else((F.rec_Cut y20 64).bind fun r37=>(some ((y18,r37),0)))
def F.fn_Reduce (a0:D23)(a1:(List D57)):Option (D45×Int):=(F.fn_Check 8 (a0.1,a0.2.1,a0.2.2)).bind fun r3=>(if r3≠0 then(some ((0,ByteArray.mk #[]),r3))else((F.rec_CheckBag a1).bind fun r6=>(if r6≠0 then(some ((0,ByteArray.mk #[]),r6))else(if((a1).length:Int)=0 then(some ((0,ByteArray.mk #[]),4))else((A.ix a1 0).bind fun x9=>(A.gd (0≤(1:Int)∧(1:Int).toNat≤(a1).length) (F.fn_Reduce_l2 a0 a1 A.FU x9.1.1 x9.1.2 0)))))))
theorem fn_Reduce_ok (a0:D23)(a1:(List D57))(A3_:Option Addr)(c4_:Nat)(h0_:IntKind.i64.has a0.1)(h1_:IntKind.i64.has a0.2.1)(h2_:a0.2.2.size≤maxLen)(r:D45×Int)(hF:F.fn_Reduce a0 a1=some r):
    A.Ct Tryd.prog 42 [.agg #[.int .i64 a0.1,.int .i64 a0.2.1,.string a0.2.2],.slice A3_ ((a1).length) c4_] [(0,.sh (.slice T57) [.slice A3_ (a1).length c4_] a1),(1,.el none 1 0 A.tabF),(2,.el none 2 0 A.tabA)] [] (fun v H'=>v=.tuple #[.agg #[.int .i64 r.1.1,.string r.1.2],.int .i64 r.2]∧H'=[]∧IntKind.i64.has r.1.1∧r.1.2.size≤maxLen∧IntKind.i64.has r.2):=by
 refine A.Ct.enter Tryd.func42 rfl Tryd.ntmps42 rfl fun w0 F0=>?_
 rw[F.fn_Reduce]at hF
 refine A.xl 1 ?_
 refine A.AL.box 3 (cs:=[.int .i64 a0.1,.int .i64 a0.2.1,.string a0.2.2]) fun g1=>?_
 refine A.AL.alloc 4 (cs:=[.int .i64 0,.string (ByteArray.mk #[])]) Tryd.zeroValue46 fun g2=>?_
 refine A.q0 [] [] [.n] [] ?_
 refine A.dl 3 ?_
 refine A.q0 [3] [] [.b 0 0] [(11,.agg #[.int .i64 a0.1,.int .i64 a0.2.1,.string a0.2.2])] ?_
 obtain⟨r3,hv4,hF⟩:=A.bd_some hF
 refine A.AL.call 5 [] (first:=[]) (cap:=[]) cf35 (fn_Check_ok 8 (a0.1,a0.2.1,a0.2.2) (A.hasl .i64 (8) rfl) h0_ h1_ h2_ r3 hv4) (.s 1 (.s 2 .nil)) ?_
 rintro _ _ ⟨rfl,rfl,hr5⟩
 refine⟨by kernel_rfl,?_⟩
 refine A.q0 [] [] [.n] [(6,.int .i64 r3)] ?_
 refine A.dl 2 ?_
 refine A.q0 [] [] [.n,.n] [(14,.bool (decide (r3≠0)))] ?_
 refine A.dx 1 ?_
 refine A.AX.cnd rfl hF (fun hb hF=>?_) (fun hb hF=>?_)
 ·refine A.xl 1 ?_
  refine A.q0 [] [] [.n,.n] [(15,.agg #[.int .i64 0,.string (ByteArray.mk #[])]),(16,.int .i64 r3)] ?_
  refine A.sw 4 [] [.int .i64 0,.string (ByteArray.mk #[])] ?_
  refine A.q0 [] [] [.n] [(5,.int .i64 r3)] ?_
  refine A.dx 1 ?_
  obtain rfl:=Option.some.inj hF
  exact A.AX.ret [] (.tuple #[.agg #[.int .i64 0,.string (ByteArray.mk #[])],.int .i64 r3]) (fun a w hf hh=>Z.resv2 rfl (Z.rv_n hf rfl Tryd.isAgg46 Tryd.sizeOf46 (A.Hp.blk hh 4) rfl) (Z.rv_t hf rfl)) (⟨rfl,rfl,(A.hasl .i64 (0) rfl),(A.szl (ByteArray.mk #[]) rfl),hr5⟩)
 refine A.xl 4 ?_
 refine A.q0 [] [] [.n] [(17,.slice A3_ ((a1).length) c4_)] ?_
 obtain⟨r6,hv7,hF⟩:=A.bd_some hF
 refine A.AL.call 45 [] (first:=[]) (cap:=[]) cf37 (rec_CheckBag_ok a1 A3_ c4_ r6 hv7) (.l 0 (.s 1 (.s 2 .nil))) ?_
 rintro _ _ ⟨rfl,rfl,hr8⟩
 refine⟨by kernel_rfl,?_⟩
 refine A.q0 [] [] [.n] [(7,.int .i64 r6)] ?_
 refine A.dl 2 ?_
 refine A.q0 [] [] [.n,.n] [(20,.bool (decide (r6≠0)))] ?_
 refine A.dx 1 ?_
 refine A.AX.cnd rfl hF (fun hb hF=>?_) (fun hb hF=>?_)
 ·refine A.xl 1 ?_
  refine A.q0 [] [] [.n,.n] [(21,.agg #[.int .i64 0,.string (ByteArray.mk #[])]),(22,.int .i64 r6)] ?_
  refine A.sw 4 [] [.int .i64 0,.string (ByteArray.mk #[])] ?_
  refine A.q0 [] [] [.n] [(5,.int .i64 r6)] ?_
  refine A.dx 1 ?_
  obtain rfl:=Option.some.inj hF
  exact A.AX.ret [] (.tuple #[.agg #[.int .i64 0,.string (ByteArray.mk #[])],.int .i64 r6]) (fun a w hf hh=>Z.resv2 rfl (Z.rv_n hf rfl Tryd.isAgg46 Tryd.sizeOf46 (A.Hp.blk hh 4) rfl) (Z.rv_t hf rfl)) (⟨rfl,rfl,(A.hasl .i64 (0) rfl),(A.szl (ByteArray.mk #[]) rfl),hr8⟩)
 refine A.xl 4 ?_
 refine A.q0 [] [] [.n,.n,.n] [(25,.bool (decide (((a1).length:Int)=0)))] ?_
 refine A.dx 1 ?_
 refine A.AX.cnd rfl hF (fun hb hF=>?_) (fun hb hF=>?_)
 ·refine A.xl 1 ?_
  refine A.q0 [] [] [.n] [(26,.agg #[.int .i64 0,.string (ByteArray.mk #[])])] ?_
  refine A.sw 4 [] [.int .i64 0,.string (ByteArray.mk #[])] ?_
  refine A.q0 [] [] [.n] [(5,.int .i64 4)] ?_
  refine A.dx 1 ?_
  obtain rfl:=Option.some.inj hF
  exact A.AX.ret [] (.tuple #[.agg #[.int .i64 0,.string (ByteArray.mk #[])],.int .i64 4]) (fun a w hf hh=>Z.resv2 rfl (Z.rv_n hf rfl Tryd.isAgg46 Tryd.sizeOf46 (A.Hp.blk hh 4) rfl) (Z.rv_t hf rfl)) (⟨rfl,rfl,(A.hasl .i64 (0) rfl),(A.szl (ByteArray.mk #[]) rfl),(A.hasl .i64 (4) rfl)⟩)
 refine A.xl 3 ?_
 refine A.q0 [] [] [.n] [(27,.slice A3_ ((a1).length) c4_)] ?_
 obtain⟨x9,hv10,hF⟩:=A.bd_some hF
 refine A.AL.ixs 0 85 hv10 fun ho11=>?_
 intro b12 o13
 refine A.q0 [] [85] [.n,.e 0 0] [(30,.agg #[.int .i64 x9.1.1,.string x9.1.2])] ?_
 refine A.AL.alloc 86 (cs:=[.int .i64 0,.string (ByteArray.mk #[])]) Tryd.zeroValue46 fun g14=>?_
 refine A.sw 86 [] [.int .i64 x9.1.1,.string x9.1.2] ?_
 refine A.dl 3 ?_
 refine A.q0 [] [] [.n] [(31,.slice A3_ ((a1).length) c4_)] ?_
 obtain⟨hc15,hF⟩:=A.gd_some hF
 refine A.AL.cutl 0 87 (u:=(1:Int).toNat) (Int.toNat_of_nonneg hc15.1).symm hc15.2 fun A16 c17=>?_
 refine A.q0 [] [] [.n,.n] [(33,.int .i64 ((List.drop ((1:Int).toNat) a1).length:Int)),(34,.int .i64 0)] ?_
 refine A.dx 2 ?_
 refine A.lp_ [2,4,8,32,33] [1,2,3,4,87] (fun f nl nh=>∃(y18:Int),∃(y20:ByteArray),∃(y22:Int),nl=[(34,.int .i64 y22)]∧nh=[(86,.blk g14 46 [.int .i64 y18,.string y20])]∧IntKind.i64.has y18∧y20.size≤maxLen∧IntKind.i64.has y22∧F.fn_Reduce_l2 a0 a1 f y18 y20 y22=some r) ⟨x9.1.1,x9.1.2,0,rfl,rfl,ho11.1.1,ho11.1.2,(A.hasl .i64 (0) rfl),hF⟩ ?_
 rintro f24 _ _ ⟨y18,y20,y22,rfl,rfl,hy19,hy21,hy23,hF⟩
 rcases f24 with _|f24
 ·exact A.no0 hF
 rw[F.fn_Reduce_l2]at hF
 refine A.xl 1 ?_
 refine A.q0 [] [] [.n] [(35,.bool (decide (y22<((List.drop ((1:Int).toNat) a1).length:Int))))] ?_
 refine A.dx 2 ?_
 refine A.AX.cnd rfl hF (fun hb hF=>?_) (fun hb hF=>?_)
 ·refine A.xx 2 ?_
  refine A.AX.join [2,4,8,32,33,34] [1,2,3,4,87] (fun nl nh=>∃(y25:ByteArray),nl=[]∧nh=[(86,.blk g14 46 [.int .i64 y18,.string y25])]∧y25.size≤maxLen∧F.fn_Reduce_j1 (F.fn_Reduce_l2 a0 a1 f24) y18 y22 y25=some r) ?_ ?_
  ·refine A.xl 2 ?_
   obtain⟨x28,hv29,hF⟩:=A.bd_some hF
   refine A.AL.ixs 87 252 hv29 fun ho30=>?_
   intro b31 o32
   refine A.q0 [] [252] [.e 0 0] [(37,.agg #[.int .i64 x28.1.1,.string x28.1.2,.int .i64 x28.2])] ?_
   refine A.AL.alloc 253 (cs:=[.int .i64 0,.string (ByteArray.mk #[]),.int .i64 0]) Tryd.zeroValue58 fun g33=>?_
   refine A.sw 253 [] [.int .i64 x28.1.1,.string x28.1.2,.int .i64 x28.2] ?_
   refine A.dl 3 ?_
   refine A.q0 [253,86] [] [.n,.n,.b 0 0,.n,.b 1 0,.n,.n] [(38,.bool (decide (x28.1.1≠y18)))] ?_
   refine A.dx 1 ?_
   refine A.AX.cnd rfl hF (fun hb hF=>?_) (fun hb hF=>?_)
   ·refine A.xl 1 ?_
    refine A.q0 [] [] [.n] [(45,.agg #[.int .i64 0,.string (ByteArray.mk #[])])] ?_
    refine A.sw 4 [] [.int .i64 0,.string (ByteArray.mk #[])] ?_
    refine A.q0 [] [] [.n] [(5,.int .i64 1)] ?_
    refine A.dx 1 ?_
    obtain rfl:=Option.some.inj hF
    exact A.AX.ret [] (.tuple #[.agg #[.int .i64 0,.string (ByteArray.mk #[])],.int .i64 1]) (fun a w hf hh=>Z.resv2 rfl (Z.rv_n hf rfl Tryd.isAgg46 Tryd.sizeOf46 (A.Hp.blk hh 4) rfl) (Z.rv_t hf rfl)) (⟨rfl,rfl,(A.hasl .i64 (0) rfl),(A.szl (ByteArray.mk #[]) rfl),(A.hasl .i64 (1) rfl)⟩)
   refine A.xl 1 ?_
   refine A.q0 [3] [] [.n,.b 0 0,.n,.n] [(46,.bool (decide (a0.1=34)))] ?_
   refine A.dx 1 ?_
   refine A.AX.cnd rfl hF (fun hb hF=>?_) (fun hb hF=>?_)
   ·refine A.xl 0 ?_
    obtain⟨hc34,hF⟩:=A.gd_some hF
    refine A.q [86,253] [] [.n,.b 0 1,.n,.n,.b 1 1,.n,.n] [y20.size+x28.1.2.size≤9223372036854775807] [(55,.string (y20++x28.1.2)),(56,.pointer (some ⟨g14,1,none⟩))] hc34 ?_
    refine A.AL.store 86 [] (new:=[.string (y20++x28.1.2)]) (cs':=[.int .i64 y18,.string (y20++x28.1.2)]) ?_
    refine A.de 2 ?_
    exact A.j ⟨(y20++x28.1.2),rfl,rfl,(A.cat_le hc34),hF⟩
   refine A.xl 1 ?_
   refine A.q0 [3,253,86] [] [.n,.b 0 0,.n,.n,.b 1 1,.n,.b 2 1] [(59,.int .i64 a0.1),(62,.string x28.1.2),(64,.string y20)] ?_
   obtain⟨r35,hv36,hF⟩:=A.bd_some hF
   refine A.AL.call 254 [] (first:=[]) (cap:=[]) cf80 (fn_ahead_ok a0.1 x28.1.2 y20 h0_ ho30.1.2 hy21 r35 hv36) .nil ?_
   rintro _ _ ⟨rfl,rfl⟩
   refine⟨by kernel_rfl,?_⟩
   refine A.q0 [] [] [.n] [(57,.bool r35)] ?_
   refine A.dx 1 ?_
   refine A.AX.cnb rfl hF (fun hb hF=>?_) (fun hb hF=>?_)
   ·refine A.xl 0 ?_
    refine A.q0 [253] [] [.n,.n,.b 0 1,.n] [(68,.string x28.1.2),(69,.pointer (some ⟨g14,1,none⟩))] ?_
    refine A.AL.store 86 [] (new:=[.string x28.1.2]) (cs':=[.int .i64 y18,.string x28.1.2]) ?_
    refine A.de 2 ?_
    exact A.j ⟨x28.1.2,rfl,rfl,ho30.1.2,hF⟩
   refine A.xe 3 ?_
   exact A.j ⟨y20,rfl,rfl,hy21,hF⟩
  rintro _ _ ⟨y25,rfl,rfl,hy26,hF⟩
  rw[F.fn_Reduce_j1]at hF
  refine A.xl 0 ?_
  obtain⟨hc27,hF⟩:=A.gd_some hF
  refine A.q [] [] [.n,.n] [Z.R64 (y22+1)] [(34,.int .i64 (y22+1))] hc27 ?_
  refine A.AL.done ?_
  exact A.j ⟨_,Nat.lt_succ_self _,⟨y18,y25,(y22+1),rfl,rfl,hy19,hy26,(Z.i64_has hc27),hF⟩⟩
 refine A.xl 3 ?_
 refine A.q0 [86] [] [.n,.b 0 1] [(72,.string y20)] ?_
 obtain⟨r37,hv38,hF⟩:=A.bd_some hF
 refine A.AL.call 294 [] (first:=[]) (cap:=[]) cf43 (rec_Cut_ok y20 64 hy21 (A.hasl .i64 (64) rfl) r37 hv38) .nil ?_
 rintro _ _ ⟨rfl,rfl,hr39⟩
 refine⟨by kernel_rfl,?_⟩
 refine A.q0 [] [] [.n] [(74,.pointer (some ⟨g14,1,none⟩))] ?_
 refine A.AL.store 86 [] (new:=[.string r37]) (cs':=[.int .i64 y18,.string r37]) ?_
 refine A.dl 2 ?_
 refine A.q0 [86] [] [.b 0 0] [(75,.agg #[.int .i64 y18,.string r37])] ?_
 refine A.sw 4 [] [.int .i64 y18,.string r37] ?_
 refine A.q0 [] [] [.n] [(5,.int .i64 0)] ?_
 refine A.dx 1 ?_
 obtain rfl:=Option.some.inj hF
 exact A.AX.ret [] (.tuple #[.agg #[.int .i64 y18,.string r37],.int .i64 0]) (fun a w hf hh=>Z.resv2 rfl (Z.rv_n hf rfl Tryd.isAgg46 Tryd.sizeOf46 (A.Hp.blk hh 4) rfl) (Z.rv_t hf rfl)) (⟨rfl,rfl,hy19,hr39,(A.hasl .i64 (0) rfl)⟩)
end Go.Proofs.YtbljnlkhebiniaaDoor
end
section
set_option linter.unusedVariables false
set_option linter.unusedSimpArgs false
set_option maxRecDepth 20000
set_option maxHeartbeats 8000000
set_option synthInstance.maxSize 1000000
set_option synthInstance.maxHeartbeats 400000
namespace Go.Proofs.YtbljnlkhebiniaaDoor
open Go.RowKit
def F.oper_teller_reduces_l1 (a0:(D25×(List D45)×(List (D45×Int)))):List (Int×(List D57))→(List D45)→Int→Int→Int→Int→ByteArray→ByteArray→Int→Int→Option (D25×(List D45)×(List (D45×Int)))
 | [],xs23,y24,y26,y28,y30,y32,y34,y36,y38=>some ((y24,y26,a0.1.2.2.1,(y28,y30,y32),y34,y36,y38),xs23,a0.2.2)
 |y16::f,xs23,y24,y26,y28,y30,y32,y34,y36,y38=>(F.fn_Reduce (y28,y30,y32) y16.2).bind fun r40=>(if r40.2=0 then(A.gd ((List.length (α:=D45) xs23+List.length (α:=D45) [(r40.1.1,r40.1.2)])*24≤140737488355328) ((F.oper_teller_reduces_l1 a0 f) (xs23++[(r40.1.1,r40.1.2)]) y24 y26 y28 y30 y32 y34 y36 y38))else((F.oper_teller_reduces_l1 a0 f) xs23 y24 y26 y28 y30 y32 y34 y36 y38))
def F.oper_teller_reduces (a0:(D25×(List D45)×(List (D45×Int))))(a1:(List D57)):Option (D25×(List D45)×(List (D45×Int))):=(F.oper_Keys a1).bind fun r2=>((F.oper_Keys_1_it r2).bind fun xs7=>F.oper_teller_reduces_l1 a0 xs7 a0.2.1 a0.1.1 a0.1.2.1 a0.1.2.2.2.1.1 a0.1.2.2.2.1.2.1 a0.1.2.2.2.1.2.2 a0.1.2.2.2.2.1 a0.1.2.2.2.2.2.1 a0.1.2.2.2.2.2.2)
theorem oper_teller_reduces_ok (a0:(D25×(List D45)×(List (D45×Int))))(a1:(List D57))(g0_:Nat)(A3_:Option Addr)(c4_:Nat)(A11_:Option Addr)(c12_:Nat)(b13_:Nat)(A14_:Option Addr)(c15_:Nat)(h1_:IntKind.i64.has a0.1.1)(h2_:IntKind.i64.has a0.1.2.1)(h5_:IntKind.i64.has a0.1.2.2.2.1.1)(h6_:IntKind.i64.has a0.1.2.2.2.1.2.1)(h7_:a0.1.2.2.2.1.2.2.size≤maxLen)(h8_:a0.1.2.2.2.2.1.size≤maxLen)(h9_:IntKind.i64.has a0.1.2.2.2.2.2.1)(h10_:IntKind.i64.has a0.1.2.2.2.2.2.2)(r:(D25×(List D45)×(List (D45×Int))))(hF:F.oper_teller_reduces a0 a1=some r):
    A.Ct Tryd.prog 21 [.pointer (some ⟨g0_,0,none⟩),.slice A14_ ((a1).length) c15_] [(0,.blk g0_ 65 [.int .i64 a0.1.1,.int .i64 a0.1.2.1,.slice A3_ ((a0.1.2.2.1).length) c4_,.int .i64 a0.1.2.2.2.1.1,.int .i64 a0.1.2.2.2.1.2.1,.string a0.1.2.2.2.1.2.2,.string a0.1.2.2.2.2.1,.int .i64 a0.1.2.2.2.2.2.1,.int .i64 a0.1.2.2.2.2.2.2,.slice A11_ ((a0.2.1).length) c12_,.map (some b13_)]),(1,.sh (.slice (Z.Ty.int .i64)) [.slice A3_ (a0.1.2.2.1).length c4_] a0.1.2.2.1),(2,.own T45 46 A11_ c12_ a0.2.1),(3,.mp D45 (fun x:D45=>.agg #[.int .i64 x.1,.string x.2]) (Z.Ty.int .i64) false b13_ a0.2.2),(4,.sh (.slice T57) [.slice A14_ (a1).length c15_] a1),(5,.el none 1 0 A.tabF),(6,.el none 2 0 A.tabA)] ([g0_]++(Z.obl A11_++([b13_]++[]))) (fun v H'=>∃(A0':Option Addr) (c1':Nat) (A2':Option Addr) (c3':Nat) (b4':Nat),v=.tuple #[]∧H'=[(0,.blk g0_ 65 [.int .i64 r.1.1,.int .i64 r.1.2.1,.slice A0' ((r.1.2.2.1).length) c1',.int .i64 r.1.2.2.2.1.1,.int .i64 r.1.2.2.2.1.2.1,.string r.1.2.2.2.1.2.2,.string r.1.2.2.2.2.1,.int .i64 r.1.2.2.2.2.2.1,.int .i64 r.1.2.2.2.2.2.2,.slice A2' ((r.2.1).length) c3',.map (some b4')]),(1,.sh (.slice (Z.Ty.int .i64)) [.slice A0' (r.1.2.2.1).length c1'] r.1.2.2.1),(2,.own T45 46 A2' c3' r.2.1),(3,.mp D45 (fun x:D45=>.agg #[.int .i64 x.1,.string x.2]) (Z.Ty.int .i64) false b4' r.2.2)]∧IntKind.i64.has r.1.1∧IntKind.i64.has r.1.2.1∧IntKind.i64.has r.1.2.2.2.1.1∧IntKind.i64.has r.1.2.2.2.1.2.1∧r.1.2.2.2.1.2.2.size≤maxLen∧r.1.2.2.2.2.1.size≤maxLen∧IntKind.i64.has r.1.2.2.2.2.2.1∧IntKind.i64.has r.1.2.2.2.2.2.2):=by
 refine A.Ct.enterM Tryd.func21 rfl Tryd.ntmps21 rfl fun w0 F0=>?_
 rw[F.oper_teller_reduces]at hF
 refine A.xl 1 ?_
 refine A.AL.box 7 (cs:=[.pointer (some ⟨g0_,0,none⟩)]) fun g1=>?_
 refine A.dl 2 ?_
 refine A.q0 [] [] [.n] [(8,.slice A14_ ((a1).length) c15_)] ?_
 obtain⟨r2,hv3,hF⟩:=A.bd_some hF
 refine A.AL.call 8 [] (first:=[]) (cap:=[]) cf39 (oper_Keys_ok a1 A14_ c15_ r2 hv3) (.s 4 (.s 5 (.s 6 .nil))) ?_
 rintro _ _ ⟨g4,A5,c6,rfl,rfl⟩
 refine⟨by kernel_rfl,?_⟩
 refine A.dx 2 ?_
 obtain⟨xs7,hv8,hF⟩:=A.bd_some hF
 refine A.AX.rgf 48 49 50 [1,3,5,6,7,8,9] [0,2,1,3,5,6,7,8,9] [49,48,0,2,1,3,5,6,7,8,9] (fun k nh=>∃(xs23:List D45),∃(y24:Int),∃(y26:Int),∃(y28:Int),∃(y30:Int),∃(y32:ByteArray),∃(y34:ByteArray),∃(y36:Int),∃(y38:Int),∃(A21:Option Addr),∃(c22:Nat),nh=[(0,.blk g0_ 65 [.int .i64 y24,.int .i64 y26,.slice A3_ ((a0.1.2.2.1).length) c4_,.int .i64 y28,.int .i64 y30,.string y32,.string y34,.int .i64 y36,.int .i64 y38,.slice A21 ((xs23).length) c22,.map (some b13_)]),(2,.own T45 46 A21 c22 xs23)]∧IntKind.i64.has y24∧IntKind.i64.has y26∧IntKind.i64.has y28∧IntKind.i64.has y30∧y32.size≤maxLen∧y34.size≤maxLen∧IntKind.i64.has y36∧IntKind.i64.has y38∧F.oper_teller_reduces_l1 a0 (List.drop k xs7) xs23 y24 y26 y28 y30 y32 y34 y36 y38=some r) [(0,.blk g0_ 65 [.int .i64 a0.1.1,.int .i64 a0.1.2.1,.slice A3_ ((a0.1.2.2.1).length) c4_,.int .i64 a0.1.2.2.2.1.1,.int .i64 a0.1.2.2.2.1.2.1,.string a0.1.2.2.2.1.2.2,.string a0.1.2.2.2.2.1,.int .i64 a0.1.2.2.2.2.2.1,.int .i64 a0.1.2.2.2.2.2.2,.slice A11_ ((a0.2.1).length) c12_,.map (some b13_)]),(2,.own T45 46 A11_ c12_ a0.2.1)] cf79 (oper_Keys_1_it_sq r2 g4 A5 c6 xs7 hv8) (fun _=>rfl) ⟨a0.2.1,a0.1.1,a0.1.2.1,a0.1.2.2.2.1.1,a0.1.2.2.2.1.2.1,a0.1.2.2.2.1.2.2,a0.1.2.2.2.2.1,a0.1.2.2.2.2.2.1,a0.1.2.2.2.2.2.2,A11_,c12_,rfl,h1_,h2_,h5_,h6_,h7_,h8_,h9_,h10_,hF⟩ ?_ ?_ ?_
 ·rintro k15 _ D9 L10 ⟨xs23,y24,y26,y28,y30,y32,y34,y36,y38,A21,c22,rfl,hy25,hy27,hy29,hy31,hy33,hy35,hy37,hy39,hF⟩
  exact⟨⟨_,(.b 8 (.s 9 .nil))⟩,rfl,fun o=>rfl⟩
 ·rintro k15 _ y16 D9 L10 w14 o11 ⟨xs23,y24,y26,y28,y30,y32,y34,y36,y38,A21,c22,rfl,hy25,hy27,hy29,hy31,hy33,hy35,hy37,hy39,hF⟩ hx19 hxo20 hh13
  intro A17 c18
  rw[A.drop_at hx19,F.oper_teller_reduces_l1]at hF
  refine A.xl 0 ?_
  refine A.q0 [] [] [.n] [(5,.slice A17 ((y16.2).length) c18)] ?_
  refine A.AL.done ?_
  refine A.AE.flip 48 49 fun o12=>?_
  refine A.xl 2 ?_
  refine A.q0 [7,0] [] [.b 0 0,.n,.n,.n,.b 1 3,.n] [(17,.agg #[.int .i64 y28,.int .i64 y30,.string y32]),(18,.slice A17 ((y16.2).length) c18)] ?_
  obtain⟨r40,hv41,hF⟩:=A.bd_some hF
  refine A.AL.call 135 [] (first:=[]) (cap:=[]) cf42 (fn_Reduce_ok (y28,y30,y32) y16.2 A17 c18 hy29 hy31 hy33 r40 hv41) (.s 50 (.s 5 (.s 6 .nil))) ?_
  rintro _ _ ⟨rfl,rfl,hr42,hr43,hr44⟩
  refine⟨by kernel_rfl,?_⟩
  refine A.q0 [] [] [.n,.n,.n] [(20,.agg #[.int .i64 r40.1.1,.string r40.1.2]),(21,.int .i64 r40.2)] ?_
  refine A.AL.alloc 175 (cs:=[.int .i64 0,.string (ByteArray.mk #[])]) Tryd.zeroValue46 fun g45=>?_
  refine A.sw 175 [] [.int .i64 r40.1.1,.string r40.1.2] ?_
  refine A.q0 [] [] [.n] [(7,.int .i64 r40.2)] ?_
  refine A.dl 2 ?_
  refine A.q0 [] [] [.n,.n] [(23,.bool (decide (r40.2=0)))] ?_
  refine A.dx 1 ?_
  refine A.AX.cnd rfl hF (fun hb hF=>?_) (fun hb hF=>?_)
  ·refine A.AX.dr mixed 10 11 (A.mb 11 0) ?_
   refine A.hq (A.pk_kont A.RQ.pq) [] [0,1,3,5,6,7,8,9,48,49,50,175] [7,175,0] [] (A.mb 11 63) 5 [(0,.b 0 0),(1,.b 0 0),(5,.b 1 0),(2,.n),(3,.n),(4,.b 2 9)] [(24,.pointer (some ⟨g0_,0,none⟩)),(29,.agg #[.int .i64 r40.1.1,.string r40.1.2]),(28,.slice A21 ((xs23).length) c22)] ?_
   refine A.AH.one 6 ?_
   refine A.AL.bsl 176 (ty:=T45) (cs:=[.int .i64 r40.1.1,.string r40.1.2]) [(r40.1.1,r40.1.2)] ⟨⟨⟨rfl,hr42⟩,⟨rfl,hr43⟩⟩,rfl⟩ (fun g46=>?_) Tryd.zeroValue46 Tryd.sizeOf46
   refine A.AH.nx (A.mb 11 127) [0,1,3,5,6,7,8,9,48,49,50,175] ?_
   refine A.AH.one 7 ?_
   obtain⟨hl49,hF⟩:=A.gd_some hF
   refine A.AL.app (k:=2) [] (A.rowO (k:=176) rfl) inf46 hl49 fun A47 c48=>?_
   refine A.AH.nx (A.mb 11 255) [0,1,3,5,6,7,8,9,48,49,50,175] ?_
   refine A.hq (A.pk_kont A.RQ.pq) [0,1,3,5,6,7,8,9,48,49,50,175] [0,1,2,3,5,6,7,8,9,48,49,50,175,176] [] [] (A.mb 11 1023) 1 [(8,.n),(9,.n)] [(33,.pointer (some ⟨g0_,9,none⟩))] ?_
   refine A.AH.one 10 ?_
   refine A.AL.store 0 [] (new:=[.slice A47 ((xs23++[(r40.1.1,r40.1.2)]).length) c48]) (cs':=[.int .i64 y24,.int .i64 y26,.slice A3_ ((a0.1.2.2.1).length) c4_,.int .i64 y28,.int .i64 y30,.string y32,.string y34,.int .i64 y36,.int .i64 y38,.slice A47 ((xs23++[(r40.1.1,r40.1.2)]).length) c48,.map (some b13_)]) ?_
   refine A.AH.nm (A.mb 11 2047) ?_
   refine A.AH.done ?_
   refine A.ee 1 ?_
   exact A.AE.bn hh13 [49,48,0,2,1,3,7,8,9] 100000 [(49,100049),(48,100048),(0,100000),(2,100002),(1,100001),(3,100003),(5,5),(6,6),(7,100007),(8,100008),(9,100009)] [(0,.blk g0_ 65 [.int .i64 y24,.int .i64 y26,.slice A3_ ((a0.1.2.2.1).length) c4_,.int .i64 y28,.int .i64 y30,.string y32,.string y34,.int .i64 y36,.int .i64 y38,.slice A47 ((xs23++[(r40.1.1,r40.1.2)]).length) c48,.map (some b13_)]),(2,.own T45 46 A47 c48 (xs23++[(r40.1.1,r40.1.2)]))] ⟨(xs23++[(r40.1.1,r40.1.2)]),y24,y26,y28,y30,y32,y34,y36,y38,A47,c48,rfl,hy25,hy27,hy29,hy31,hy33,hy35,hy37,hy39,hF⟩ rfl rfl
  refine A.xe 2 ?_
  exact A.AE.bn hh13 [49,48,0,2,1,3,7,8,9] 100000 [(49,100049),(48,100048),(0,100000),(2,100002),(1,100001),(3,100003),(5,5),(6,6),(7,100007),(8,100008),(9,100009)] [(0,.blk g0_ 65 [.int .i64 y24,.int .i64 y26,.slice A3_ ((a0.1.2.2.1).length) c4_,.int .i64 y28,.int .i64 y30,.string y32,.string y34,.int .i64 y36,.int .i64 y38,.slice A21 ((xs23).length) c22,.map (some b13_)]),(2,.own T45 46 A21 c22 xs23)] ⟨xs23,y24,y26,y28,y30,y32,y34,y36,y38,A21,c22,rfl,hy25,hy27,hy29,hy31,hy33,hy35,hy37,hy39,hF⟩ rfl rfl
 rintro _ D9 L10 ⟨xs23,y24,y26,y28,y30,y32,y34,y36,y38,A21,c22,rfl,hy25,hy27,hy29,hy31,hy33,hy35,hy37,hy39,hF⟩
 rw[List.drop_length,F.oper_teller_reduces_l1]at hF
 refine A.ee 1 ?_
 obtain rfl:=Option.some.inj hF
 exact A.AE.rtN (Ds:=[D9]) [48] [(0,0),(1,1),(2,2),(3,3)] (.tuple #[]) (⟨rfl,trivial⟩) (fun a w hf hh=>Z.res0 rfl w) (⟨A3_,c4_,A21,c22,b13_,rfl,rfl,hy25,hy27,hy29,hy31,hy33,hy35,hy37,hy39⟩)
def F.oper_teller_joins_l1 (k13:(List D45)→Int→Int→Int→Int→ByteArray→ByteArray→Int→Int→Int→Option (D25×(List D45)×(List (D45×Int))))(y38:(Int×(List D57)))(y81:Int)(x84:D57)(x90:(List D57)):Nat→(List D45)→Int→Int→Int→Int→ByteArray→ByteArray→Int→Int→Int→Option (D25×(List D45)×(List (D45×Int)))
 |0,_,_,_,_,_,_,_,_,_,_=>none
 |f+1,xs97,y98,y100,y102,y104,y106,y108,y110,y112,y114=>if y114<((x90).length:Int)then((A.ix x90 y114).bind fun x117=>(A.gd (x84.1.2.size+(ByteArray.mk #[43]).size≤9223372036854775807∧(x84.1.2++(ByteArray.mk #[43])).size+x117.1.2.size≤9223372036854775807) ((F.rec_Cut ((x84.1.2++(ByteArray.mk #[43]))++x117.1.2) 64).bind fun r124=>(A.gd ((List.length (α:=D45) xs97+List.length (α:=D45) [(y38.1,r124)])*24≤140737488355328) (A.gd (Z.R64 (y114+1)) ((F.oper_teller_joins_l1 k13 y38 y81 x84 x90 f) (xs97++[(y38.1,r124)]) y98 y100 y102 y104 y106 y108 y110 y112 (y114+1)))))))else(A.gd (Z.R64 (y81+1)) (k13 xs97 y98 y100 y102 y104 y106 y108 y110 y112 (y81+1)))
def F.oper_teller_joins_l2 (k10:(List D45)→Int→Int→Int→Int→ByteArray→ByteArray→Int→Int→Option (D25×(List D45)×(List (D45×Int))))(m23:List (Int×(List D57)))(y38:(Int×(List D57))):Nat→(List D45)→Int→Int→Int→Int→ByteArray→ByteArray→Int→Int→Int→Option (D25×(List D45)×(List (D45×Int)))
 |0,_,_,_,_,_,_,_,_,_,_=>none
 |f+1,xs64,y65,y67,y69,y71,y73,y75,y77,y79,y81=>if y81<((y38.2).length:Int)then((A.ix y38.2 y81).bind fun x84=>(A.lt (Z.mget ([]:(List D57)) m23 y38.1) fun x90=>(F.oper_teller_joins_l1 (F.oper_teller_joins_l2 k10 m23 y38 f) y38 y81 x84 x90 A.FU xs64 y65 y67 y69 y71 y73 y75 y77 y79 0)))else(k10 xs64 y65 y67 y69 y71 y73 y75 y77 y79)
def F.oper_teller_joins_l3 (a0:(D25×(List D45)×(List (D45×Int))))(m23:List (Int×(List D57))):List (Int×(List D57))→(List D45)→Int→Int→Int→Int→ByteArray→ByteArray→Int→Int→Option (D25×(List D45)×(List (D45×Int)))
 | [],xs45,y46,y48,y50,y52,y54,y56,y58,y60=>some ((y46,y48,a0.1.2.2.1,(y50,y52,y54),y56,y58,y60),xs45,a0.2.2)
 |y38::f,xs45,y46,y48,y50,y52,y54,y56,y58,y60=>F.oper_teller_joins_l2 (F.oper_teller_joins_l3 a0 m23 f) m23 y38 A.FU xs45 y46 y48 y50 y52 y54 y56 y58 y60 0
def F.oper_teller_joins_l4 (a0:(D25×(List D45)×(List (D45×Int))))(a1:(List D57)):List (Int×(List D57))→(List (Int×(List D57)))→Option (D25×(List D45)×(List (D45×Int)))
 | [],m23=>(F.oper_Keys a1).bind fun r24=>((F.oper_Keys_1_it r24).bind fun xs29=>F.oper_teller_joins_l3 a0 m23 xs29 a0.2.1 a0.1.1 a0.1.2.1 a0.1.2.2.2.1.1 a0.1.2.2.2.1.2.1 a0.1.2.2.2.1.2.2 a0.1.2.2.2.2.1 a0.1.2.2.2.2.2.1 a0.1.2.2.2.2.2.2)
 |y18::f,m23=>(F.oper_teller_joins_l4 a0 a1 f) (Z.mins m23 y18.1 y18.2)
def F.oper_teller_joins (a0:(D25×(List D45)×(List (D45×Int))))(a1:(List D57))(a2:(List D57)):Option (D25×(List D45)×(List (D45×Int))):=(F.oper_Keys a2).bind fun r4=>((F.oper_Keys_1_it r4).bind fun xs9=>F.oper_teller_joins_l4 a0 a1 xs9 [])
theorem oper_teller_joins_ok (a0:(D25×(List D45)×(List (D45×Int))))(a1:(List D57))(a2:(List D57))(g0_:Nat)(A3_:Option Addr)(c4_:Nat)(A11_:Option Addr)(c12_:Nat)(b13_:Nat)(A14_:Option Addr)(c15_:Nat)(A16_:Option Addr)(c17_:Nat)(h1_:IntKind.i64.has a0.1.1)(h2_:IntKind.i64.has a0.1.2.1)(h5_:IntKind.i64.has a0.1.2.2.2.1.1)(h6_:IntKind.i64.has a0.1.2.2.2.1.2.1)(h7_:a0.1.2.2.2.1.2.2.size≤maxLen)(h8_:a0.1.2.2.2.2.1.size≤maxLen)(h9_:IntKind.i64.has a0.1.2.2.2.2.2.1)(h10_:IntKind.i64.has a0.1.2.2.2.2.2.2)(r:(D25×(List D45)×(List (D45×Int))))(hF:F.oper_teller_joins a0 a1 a2=some r):
    A.Ct Tryd.prog 22 [.pointer (some ⟨g0_,0,none⟩),.slice A14_ ((a1).length) c15_,.slice A16_ ((a2).length) c17_] [(0,.blk g0_ 65 [.int .i64 a0.1.1,.int .i64 a0.1.2.1,.slice A3_ ((a0.1.2.2.1).length) c4_,.int .i64 a0.1.2.2.2.1.1,.int .i64 a0.1.2.2.2.1.2.1,.string a0.1.2.2.2.1.2.2,.string a0.1.2.2.2.2.1,.int .i64 a0.1.2.2.2.2.2.1,.int .i64 a0.1.2.2.2.2.2.2,.slice A11_ ((a0.2.1).length) c12_,.map (some b13_)]),(1,.sh (.slice (Z.Ty.int .i64)) [.slice A3_ (a0.1.2.2.1).length c4_] a0.1.2.2.1),(2,.own T45 46 A11_ c12_ a0.2.1),(3,.mp D45 (fun x:D45=>.agg #[.int .i64 x.1,.string x.2]) (Z.Ty.int .i64) false b13_ a0.2.2),(4,.sh (.slice T57) [.slice A14_ (a1).length c15_] a1),(5,.sh (.slice T57) [.slice A16_ (a2).length c17_] a2),(6,.el none 1 0 A.tabF),(7,.el none 2 0 A.tabA)] ([g0_]++(Z.obl A11_++([b13_]++[]))) (fun v H'=>∃(A0':Option Addr) (c1':Nat) (A2':Option Addr) (c3':Nat) (b4':Nat),v=.tuple #[]∧H'=[(0,.blk g0_ 65 [.int .i64 r.1.1,.int .i64 r.1.2.1,.slice A0' ((r.1.2.2.1).length) c1',.int .i64 r.1.2.2.2.1.1,.int .i64 r.1.2.2.2.1.2.1,.string r.1.2.2.2.1.2.2,.string r.1.2.2.2.2.1,.int .i64 r.1.2.2.2.2.2.1,.int .i64 r.1.2.2.2.2.2.2,.slice A2' ((r.2.1).length) c3',.map (some b4')]),(1,.sh (.slice (Z.Ty.int .i64)) [.slice A0' (r.1.2.2.1).length c1'] r.1.2.2.1),(2,.own T45 46 A2' c3' r.2.1),(3,.mp D45 (fun x:D45=>.agg #[.int .i64 x.1,.string x.2]) (Z.Ty.int .i64) false b4' r.2.2)]∧IntKind.i64.has r.1.1∧IntKind.i64.has r.1.2.1∧IntKind.i64.has r.1.2.2.2.1.1∧IntKind.i64.has r.1.2.2.2.1.2.1∧r.1.2.2.2.1.2.2.size≤maxLen∧r.1.2.2.2.2.1.size≤maxLen∧IntKind.i64.has r.1.2.2.2.2.2.1∧IntKind.i64.has r.1.2.2.2.2.2.2):=by
 refine A.Ct.enterM Tryd.func22 rfl Tryd.ntmps22 rfl fun w0 F0=>?_
 rw[F.oper_teller_joins]at hF
 refine A.xl 1 ?_
 refine A.AL.box 8 (cs:=[.pointer (some ⟨g0_,0,none⟩)]) fun g1=>?_
 refine A.dl 2 ?_
 refine A.AL.mkm 9 Int (fun i:Int=>.int .i64 i) (Z.Ty.slice T57) false fun b2=>?_
 refine A.AL.alloc 10 (cs:=[.map none]) Tryd.zeroValue88 fun g3=>?_
 refine A.sw 10 [] [.map (some b2)] ?_
 refine A.dl 3 ?_
 refine A.q0 [] [] [.n] [(16,.slice A16_ ((a2).length) c17_)] ?_
 obtain⟨r4,hv5,hF⟩:=A.bd_some hF
 refine A.AL.call 11 [] (first:=[]) (cap:=[]) cf39 (oper_Keys_ok a2 A16_ c17_ r4 hv5) (.s 5 (.s 6 (.s 7 .nil))) ?_
 rintro _ _ ⟨g6,A7,c8,rfl,rfl⟩
 refine⟨by kernel_rfl,?_⟩
 refine A.dx 2 ?_
 obtain⟨xs9,hv10,hF⟩:=A.bd_some hF
 refine A.AX.rgf 51 52 53 [0,1,2,3,4,6,7,8,10,11,12] [9,0,1,2,3,4,6,7,8,10,11,12] [52,51,9,0,1,2,3,4,6,7,8,10,11,12] (fun k nh=>∃(m23:List (Int×(List D57))),nh=[(9,.mp Int (fun i:Int=>.int .i64 i) (Z.Ty.slice T57) false b2 m23)]∧F.oper_teller_joins_l4 a0 a1 (List.drop k xs9) m23=some r) [(9,.mp Int (fun i:Int=>.int .i64 i) (Z.Ty.slice T57) false b2 [])] cf79 (oper_Keys_1_it_sq r4 g6 A7 c8 xs9 hv10) (fun _=>rfl) ⟨[],rfl,hF⟩ ?_ ?_ ?_
 ·rintro k17 _ D11 L12 ⟨m23,rfl,hF⟩
  exact⟨⟨_,(.b 11 (.s 12 .nil))⟩,rfl,fun o=>rfl⟩
 ·rintro k17 _ y18 D11 L12 w16 o13 ⟨m23,rfl,hF⟩ hx21 hxo22 hh15
  intro A19 c20
  rw[A.drop_at hx21,F.oper_teller_joins_l4]at hF
  refine A.xl 1 ?_
  refine A.q0 [] [] [.n] [(7,.int .i64 y18.1)] ?_
  refine A.dl 1 ?_
  refine A.q0 [] [] [.n] [(8,.slice A19 ((y18.2).length) c20)] ?_
  refine A.AL.done ?_
  refine A.AE.flip 51 52 fun o14=>?_
  refine A.xl 1 ?_
  refine A.q0 [10] [] [.b 0 0,.n,.n] [(20,.map (some b2)),(21,.int .i64 y18.1),(22,.slice A19 ((y18.2).length) c20)] ?_
  refine A.AL.mup (t:=(Z.Ty.slice T57)) 9 [] (cs:=[.slice A19 ((y18.2).length) c20]) (u:=y18.2) ky2 y18.1 (.inl ⟨53,rfl⟩) ?_
  refine A.de 1 ?_
  exact A.AE.bn hh15 [52,51,9,0,1,2,3,4,8,10,11,12] 100000 [(52,100052),(51,100051),(9,100009),(0,100000),(1,100001),(2,100002),(3,100003),(4,100004),(6,6),(7,7),(8,100008),(10,100010),(11,100011),(12,100012)] [(9,.mp Int (fun i:Int=>.int .i64 i) (Z.Ty.slice T57) false b2 (Z.mins m23 y18.1 y18.2))] ⟨(Z.mins m23 y18.1 y18.2),rfl,hF⟩ rfl rfl
 rintro _ D11 L12 ⟨m23,rfl,hF⟩
 rw[List.drop_length,F.oper_teller_joins_l4]at hF
 refine A.el 3 ?_
 refine A.q0 [] [] [.n] [(23,.slice A14_ ((a1).length) c15_)] ?_
 obtain⟨r24,hv25,hF⟩:=A.bd_some hF
 refine A.AL.call 54 [] (first:=[]) (cap:=[]) cf39 (oper_Keys_ok a1 A14_ c15_ r24 hv25) (.s 4 (.s 6 (.s 7 .nil))) ?_
 rintro _ _ ⟨g26,A27,c28,rfl,rfl⟩
 refine⟨by kernel_rfl,?_⟩
 refine A.dx 2 ?_
 obtain⟨xs29,hv30,hF⟩:=A.bd_some hF
 refine A.AX.rgf 94 95 96 [1,3,6,7,8,9,10,51,54,55] [0,2,1,3,6,7,8,9,10,51,54,55] [95,94,0,2,1,3,6,7,8,9,10,51,54,55] (fun k nh=>∃(xs45:List D45),∃(y46:Int),∃(y48:Int),∃(y50:Int),∃(y52:Int),∃(y54:ByteArray),∃(y56:ByteArray),∃(y58:Int),∃(y60:Int),∃(A43:Option Addr),∃(c44:Nat),nh=[(0,.blk g0_ 65 [.int .i64 y46,.int .i64 y48,.slice A3_ ((a0.1.2.2.1).length) c4_,.int .i64 y50,.int .i64 y52,.string y54,.string y56,.int .i64 y58,.int .i64 y60,.slice A43 ((xs45).length) c44,.map (some b13_)]),(2,.own T45 46 A43 c44 xs45)]∧IntKind.i64.has y46∧IntKind.i64.has y48∧IntKind.i64.has y50∧IntKind.i64.has y52∧y54.size≤maxLen∧y56.size≤maxLen∧IntKind.i64.has y58∧IntKind.i64.has y60∧F.oper_teller_joins_l3 a0 m23 (List.drop k xs29) xs45 y46 y48 y50 y52 y54 y56 y58 y60=some r) [(0,.blk g0_ 65 [.int .i64 a0.1.1,.int .i64 a0.1.2.1,.slice A3_ ((a0.1.2.2.1).length) c4_,.int .i64 a0.1.2.2.2.1.1,.int .i64 a0.1.2.2.2.1.2.1,.string a0.1.2.2.2.1.2.2,.string a0.1.2.2.2.2.1,.int .i64 a0.1.2.2.2.2.2.1,.int .i64 a0.1.2.2.2.2.2.2,.slice A11_ ((a0.2.1).length) c12_,.map (some b13_)]),(2,.own T45 46 A11_ c12_ a0.2.1)] cf79 (oper_Keys_1_it_sq r24 g26 A27 c28 xs29 hv30) (fun _=>rfl) ⟨a0.2.1,a0.1.1,a0.1.2.1,a0.1.2.2.2.1.1,a0.1.2.2.2.1.2.1,a0.1.2.2.2.1.2.2,a0.1.2.2.2.2.1,a0.1.2.2.2.2.2.1,a0.1.2.2.2.2.2.2,A11_,c12_,rfl,h1_,h2_,h5_,h6_,h7_,h8_,h9_,h10_,hF⟩ ?_ ?_ ?_
 ·rintro k37 _ D31 L32 ⟨xs45,y46,y48,y50,y52,y54,y56,y58,y60,A43,c44,rfl,hy47,hy49,hy51,hy53,hy55,hy57,hy59,hy61,hF⟩
  exact⟨⟨_,(.b 54 (.s 55 .nil))⟩,rfl,fun o=>rfl⟩
 ·rintro k37 _ y38 D31 L32 w36 o33 ⟨xs45,y46,y48,y50,y52,y54,y56,y58,y60,A43,c44,rfl,hy47,hy49,hy51,hy53,hy55,hy57,hy59,hy61,hF⟩ hx41 hxo42 hh35
  intro A39 c40
  rw[A.drop_at hx41,F.oper_teller_joins_l3]at hF
  refine A.xl 1 ?_
  refine A.q0 [] [] [.n] [(9,.int .i64 y38.1)] ?_
  refine A.dl 1 ?_
  refine A.q0 [] [] [.n] [(10,.slice A39 ((y38.2).length) c40)] ?_
  refine A.AL.done ?_
  refine A.AE.flip 94 95 fun o34=>?_
  refine A.xl 2 ?_
  refine A.q0 [] [] [.n,.n,.n] [(27,.slice A39 ((y38.2).length) c40),(28,.int .i64 ((y38.2).length:Int)),(29,.int .i64 0)] ?_
  refine A.dx 2 ?_
  refine A.lp_ [3,6,9,27,28] [1,3,6,7,8,9,10,51,54,55,94,95,96] (fun f nl nh=>∃(xs64:List D45),∃(y65:Int),∃(y67:Int),∃(y69:Int),∃(y71:Int),∃(y73:ByteArray),∃(y75:ByteArray),∃(y77:Int),∃(y79:Int),∃(y81:Int),∃(A62:Option Addr),∃(c63:Nat),nl=[(29,.int .i64 y81)]∧nh=[(0,.blk g0_ 65 [.int .i64 y65,.int .i64 y67,.slice A3_ ((a0.1.2.2.1).length) c4_,.int .i64 y69,.int .i64 y71,.string y73,.string y75,.int .i64 y77,.int .i64 y79,.slice A62 ((xs64).length) c63,.map (some b13_)]),(2,.own T45 46 A62 c63 xs64)]∧IntKind.i64.has y65∧IntKind.i64.has y67∧IntKind.i64.has y69∧IntKind.i64.has y71∧y73.size≤maxLen∧y75.size≤maxLen∧IntKind.i64.has y77∧IntKind.i64.has y79∧IntKind.i64.has y81∧F.oper_teller_joins_l2 (F.oper_teller_joins_l3 a0 m23 (List.drop (k37+1) xs29)) m23 y38 f xs64 y65 y67 y69 y71 y73 y75 y77 y79 y81=some r) ⟨xs45,y46,y48,y50,y52,y54,y56,y58,y60,0,A43,c44,rfl,rfl,hy47,hy49,hy51,hy53,hy55,hy57,hy59,hy61,(A.hasl .i64 (0) rfl),hF⟩ ?_
  rintro f83 _ _ ⟨xs64,y65,y67,y69,y71,y73,y75,y77,y79,y81,A62,c63,rfl,rfl,hy66,hy68,hy70,hy72,hy74,hy76,hy78,hy80,hy82,hF⟩
  rcases f83 with _|f83
  ·exact A.no0 hF
  rw[F.oper_teller_joins_l2]at hF
  refine A.xl 1 ?_
  refine A.q0 [] [] [.n] [(30,.bool (decide (y81<((y38.2).length:Int))))] ?_
  refine A.dx 2 ?_
  refine A.AX.cnd rfl hF (fun hb hF=>?_) (fun hb hF=>?_)
  ·refine A.xl 5 ?_
   obtain⟨x84,hv85,hF⟩:=A.bd_some hF
   refine A.AL.ixs 96 1153 hv85 fun ho86=>?_
   intro b87 o88
   refine A.q0 [] [1153] [.e 0 0] [(32,.agg #[.int .i64 x84.1.1,.string x84.1.2,.int .i64 x84.2])] ?_
   refine A.AL.alloc 1154 (cs:=[.int .i64 0,.string (ByteArray.mk #[]),.int .i64 0]) Tryd.zeroValue58 fun g89=>?_
   refine A.sw 1154 [] [.int .i64 x84.1.1,.string x84.1.2,.int .i64 x84.2] ?_
   refine A.dl 2 ?_
   refine A.q0 [10] [] [.b 0 0,.n] [(33,.map (some b2)),(34,.int .i64 y38.1)] ?_
   obtain⟨x90,hv91,hF⟩:=A.lt_some hF
   refine A.AL.lku (t:=(Z.Ty.slice T57)) 9 1155 (z:=([]:(List D57))) (zs:=[.slice none 0 0]) ky2 y38.1 Tryd.zeroValue30 (.inr ⟨rfl,rfl⟩) hv91 fun ho92=>?_
   intro A93 c94
   refine A.q0 [] [] [.n,.n] [(36,.int .i64 ((x90).length:Int)),(37,.int .i64 0)] ?_
   refine A.dx 2 ?_
   refine A.lp_ [3,6,9,12,27,28,29,35,36] [1,3,6,7,8,9,10,51,54,55,94,95,96,1154,1155] (fun f nl nh=>∃(xs97:List D45),∃(y98:Int),∃(y100:Int),∃(y102:Int),∃(y104:Int),∃(y106:ByteArray),∃(y108:ByteArray),∃(y110:Int),∃(y112:Int),∃(y114:Int),∃(A95:Option Addr),∃(c96:Nat),nl=[(37,.int .i64 y114)]∧nh=[(0,.blk g0_ 65 [.int .i64 y98,.int .i64 y100,.slice A3_ ((a0.1.2.2.1).length) c4_,.int .i64 y102,.int .i64 y104,.string y106,.string y108,.int .i64 y110,.int .i64 y112,.slice A95 ((xs97).length) c96,.map (some b13_)]),(2,.own T45 46 A95 c96 xs97)]∧IntKind.i64.has y98∧IntKind.i64.has y100∧IntKind.i64.has y102∧IntKind.i64.has y104∧y106.size≤maxLen∧y108.size≤maxLen∧IntKind.i64.has y110∧IntKind.i64.has y112∧IntKind.i64.has y114∧F.oper_teller_joins_l1 (F.oper_teller_joins_l2 (F.oper_teller_joins_l3 a0 m23 (List.drop (k37+1) xs29)) m23 y38 f83) y38 y81 x84 x90 f xs97 y98 y100 y102 y104 y106 y108 y110 y112 y114=some r) ⟨xs64,y65,y67,y69,y71,y73,y75,y77,y79,0,A62,c63,rfl,rfl,hy66,hy68,hy70,hy72,hy74,hy76,hy78,hy80,(A.hasl .i64 (0) rfl),hF⟩ ?_
   rintro f116 _ _ ⟨xs97,y98,y100,y102,y104,y106,y108,y110,y112,y114,A95,c96,rfl,rfl,hy99,hy101,hy103,hy105,hy107,hy109,hy111,hy113,hy115,hF⟩
   rcases f116 with _|f116
   ·exact A.no0 hF
   rw[F.oper_teller_joins_l1]at hF
   refine A.xl 1 ?_
   refine A.q0 [] [] [.n] [(38,.bool (decide (y114<((x90).length:Int))))] ?_
   refine A.dx 2 ?_
   refine A.AX.cnd rfl hF (fun hb hF=>?_) (fun hb hF=>?_)
   ·refine A.xl 5 ?_
    obtain⟨x117,hv118,hF⟩:=A.bd_some hF
    refine A.AL.ixs 1155 1242 hv118 fun ho119=>?_
    intro b120 o121
    refine A.q0 [] [1242] [.e 0 0] [(40,.agg #[.int .i64 x117.1.1,.string x117.1.2,.int .i64 x117.2])] ?_
    refine A.AL.alloc 1243 (cs:=[.int .i64 0,.string (ByteArray.mk #[]),.int .i64 0]) Tryd.zeroValue58 fun g122=>?_
    refine A.sw 1243 [] [.int .i64 x117.1.1,.string x117.1.2,.int .i64 x117.2] ?_
    refine A.dx 1 ?_
    refine A.AX.dr mixed 20 21 (A.mb 21 0) ?_
    obtain⟨hc123,hF⟩:=A.gd_some hF
    refine A.AH.q (A.pk_kont A.RQ.pq) [] [0,1,3,6,7,8,9,10,51,54,55,94,95,96,1154,1155,1242,1243] [8,1154,1243,0] [] (A.mb 21 16383) 7 [(0,.b 0 0),(1,.b 0 0),(5,.n),(6,.n),(10,.n),(2,.n),(7,.n),(11,.n),(3,.n),(8,.b 1 1),(12,.b 2 1),(4,.b 3 9),(9,.n),(13,.n)] [41,46,45,54] [x84.1.2.size+(ByteArray.mk #[43]).size≤9223372036854775807,(x84.1.2++(ByteArray.mk #[43])).size+x117.1.2.size≤9223372036854775807] [(41,.pointer (some ⟨g0_,0,none⟩)),(46,.int .i64 y38.1),(45,.slice A95 ((xs97).length) c96),(54,.string ((x84.1.2++(ByteArray.mk #[43]))++x117.1.2))] hc123 ?_
    refine A.AH.one 14 ?_
    obtain⟨r124,hv125,hF⟩:=A.bd_some hF
    refine A.AL.call 1244 [] (first:=[]) (cap:=[]) cf43 (rec_Cut_ok ((x84.1.2++(ByteArray.mk #[43]))++x117.1.2) 64 (A.cat_le hc123.2) (A.hasl .i64 (64) rfl) r124 hv125) .nil ?_
    rintro _ _ ⟨rfl,rfl,hr126⟩
    refine⟨by kernel_rfl,?_⟩
    refine A.AH.nx (A.mb 21 32767) [0,1,3,6,7,8,9,10,51,54,55,94,95,96,1154,1155,1242,1243] ?_
    refine A.hq (A.pk_kont A.RQ.pq) [0,1,3,6,7,8,9,10,51,54,55,94,95,96,1154,1155,1242,1243] [0,1,3,6,7,8,9,10,51,54,55,94,95,96,1154,1155,1242,1243] [] [] (A.mb 21 65535) 5 [(15,.n)] [(56,.agg #[.int .i64 y38.1,.string r124])] ?_
    refine A.AH.one 16 ?_
    refine A.AL.bsl 1284 (ty:=T45) (cs:=[.int .i64 y38.1,.string r124]) [(y38.1,r124)] ⟨⟨⟨rfl,hxo42.1⟩,⟨rfl,hr126⟩⟩,rfl⟩ (fun g127=>?_) Tryd.zeroValue46 Tryd.sizeOf46
    refine A.AH.nx (A.mb 21 131071) [0,1,3,6,7,8,9,10,51,54,55,94,95,96,1154,1155,1242,1243] ?_
    refine A.AH.one 17 ?_
    obtain⟨hl130,hF⟩:=A.gd_some hF
    refine A.AL.app (k:=2) [] (A.rowO (k:=1284) rfl) inf46 hl130 fun A128 c129=>?_
    refine A.AH.nx (A.mb 21 262143) [0,1,3,6,7,8,9,10,51,54,55,94,95,96,1154,1155,1242,1243] ?_
    refine A.hq (A.pk_kont A.RQ.pq) [0,1,3,6,7,8,9,10,51,54,55,94,95,96,1154,1155,1242,1243] [0,1,2,3,6,7,8,9,10,51,54,55,94,95,96,1154,1155,1242,1243,1284] [] [] (A.mb 21 1048575) 1 [(18,.n),(19,.n)] [(60,.pointer (some ⟨g0_,9,none⟩))] ?_
    refine A.AH.one 20 ?_
    refine A.AL.store 0 [] (new:=[.slice A128 ((xs97++[(y38.1,r124)]).length) c129]) (cs':=[.int .i64 y98,.int .i64 y100,.slice A3_ ((a0.1.2.2.1).length) c4_,.int .i64 y102,.int .i64 y104,.string y106,.string y108,.int .i64 y110,.int .i64 y112,.slice A128 ((xs97++[(y38.1,r124)]).length) c129,.map (some b13_)]) ?_
    refine A.AH.nm (A.mb 21 2097151) ?_
    refine A.AH.done ?_
    refine A.el 2 ?_
    obtain⟨hc131,hF⟩:=A.gd_some hF
    refine A.q [] [] [.n,.n] [Z.R64 (y114+1)] [(37,.int .i64 (y114+1))] hc131 ?_
    refine A.AL.done ?_
    exact A.j ⟨_,Nat.lt_succ_self _,⟨(xs97++[(y38.1,r124)]),y98,y100,y102,y104,y106,y108,y110,y112,(y114+1),A128,c129,rfl,rfl,hy99,hy101,hy103,hy105,hy107,hy109,hy111,hy113,(Z.i64_has hc131),hF⟩⟩
   refine A.xl 3 ?_
   obtain⟨hc132,hF⟩:=A.gd_some hF
   refine A.q [] [] [.n,.n] [Z.R64 (y81+1)] [(29,.int .i64 (y81+1))] hc132 ?_
   refine A.AL.done ?_
   exact A.j ⟨_,Nat.lt_succ_self _,⟨xs97,y98,y100,y102,y104,y106,y108,y110,y112,(y81+1),A95,c96,rfl,rfl,hy99,hy101,hy103,hy105,hy107,hy109,hy111,hy113,(Z.i64_has hc132),hF⟩⟩
  refine A.xe 2 ?_
  exact A.AE.bn hh35 [95,94,0,2,1,3,8,9,10,51,54,55] 100000 [(95,100095),(94,100094),(0,100000),(2,100002),(1,100001),(3,100003),(6,6),(7,7),(8,100008),(9,100009),(10,100010),(51,100051),(54,100054),(55,100055)] [(0,.blk g0_ 65 [.int .i64 y65,.int .i64 y67,.slice A3_ ((a0.1.2.2.1).length) c4_,.int .i64 y69,.int .i64 y71,.string y73,.string y75,.int .i64 y77,.int .i64 y79,.slice A62 ((xs64).length) c63,.map (some b13_)]),(2,.own T45 46 A62 c63 xs64)] ⟨xs64,y65,y67,y69,y71,y73,y75,y77,y79,A62,c63,rfl,hy66,hy68,hy70,hy72,hy74,hy76,hy78,hy80,hF⟩ rfl rfl
 rintro _ D31 L32 ⟨xs45,y46,y48,y50,y52,y54,y56,y58,y60,A43,c44,rfl,hy47,hy49,hy51,hy53,hy55,hy57,hy59,hy61,hF⟩
 rw[List.drop_length,F.oper_teller_joins_l3]at hF
 refine A.ee 1 ?_
 obtain rfl:=Option.some.inj hF
 exact A.AE.rtN (Ds:=[D31,D11]) [94,51] [(0,0),(1,1),(2,2),(3,3)] (.tuple #[]) (⟨rfl,⟨rfl,trivial⟩⟩) (fun a w hf hh=>Z.res0 rfl w) (⟨A3_,c4_,A43,c44,b13_,rfl,rfl,hy47,hy49,hy51,hy53,hy55,hy57,hy59,hy61⟩)
end Go.Proofs.YtbljnlkhebiniaaDoor
end
