/- Functions on data, what they tell, and that the code computes them. -/
import Derived.Test.YtlhiofnikdppeaaGreatDoorK1
import Derived.Shelf.SlSortCmp.NoneTotal
import Derived.Lib.TrimU
import Derived.Shelf.Small.Strs
import Derived.Shelf.Spec.SlicesGrow
import Derived.Test.YtlhiofnikdppeaaGreatDoorK0
import Derived.Laws.IdiomStrings
import Derived.Laws.Cover4
set_option linter.unusedVariables false
set_option linter.unusedSimpArgs false
set_option maxRecDepth 20000
set_option maxHeartbeats 8000000
set_option synthInstance.maxSize 1000000
set_option synthInstance.maxHeartbeats 400000
section
namespace Go.A
open Go.RowKit Go.Z
theorem z0:h6 0:=hasl .i64 (0) rfl
theorem ck{b:Bool}{p:Prop}(h:p)(e:b=true:=by kernel_rfl):b=true∧p:=⟨e,h⟩
theorem b{α β:Type}{x:Option α}{f:α→Option β}{y:β}(h:x.bind f=some y):∃v,x=some v∧f v=some y:=Y0.1 h
theorem g{α:Type}{p:Prop}[Decidable p]{x:Option α}{y:α}(h:gd p x=some y):p∧x=some y:=gd_some h
section
variable{r:Option Nat}{P:Program}{ops:Array Oper}{Q:Exit→Act→World→Prop}{lst rest:List Oper}{C:Cx}{l:List (Nat×Value)}{H:List (Nat×Res)}{Y:Exit→Act→World→Prop}{K:List Kx}
theorem n(k:Nat)(nl:List (Nat×Value))(h:AL r P ops Q (lst.drop k) C (cat nl l) H)
    (hq:((qs P ⟨knb H [],kne H []⟩ C.n ops (List.replicate k .n) lst (Z.q0 l)).bind (qfin l (nl.map Prod.fst)))=some ([],nl):=by kernel_rfl)
    (E:(qs P ⟨knb H [],kne H []⟩ C.n ops (List.replicate k .n) lst (Z.q0 l)).map (fun s=>s.q.map Prod.fst)=(qs P ⟨knb H [],kne H []⟩ C.n ops (List.replicate k .n) lst (Z.q0 l)).map (fun s=>s.q.map Prod.snd):=by kernel_rfl):AL r P ops Q lst C l H:=q0 [] [] (List.replicate k .n) nl (by rw[List.length_replicate];exact h) hq E
theorem m(k:Nat)(cs:List Prop)(nl:List (Nat×Value))(E:conj cs)(h:AL r P ops Q (lst.drop k) C (cat nl l) H)
    (hq:((qs P ⟨knb H [],kne H []⟩ C.n ops (List.replicate k .n) lst (Z.q0 l)).bind (qfin l (nl.map Prod.fst)))=some (cs,nl):=by kernel_rfl)
    (I:(qs P ⟨knb H [],kne H []⟩ C.n ops (List.replicate k .n) lst (Z.q0 l)).map (fun s=>s.q.map Prod.fst)=(qs P ⟨knb H [],kne H []⟩ C.n ops (List.replicate k .n) lst (Z.q0 l)).map (fun s=>s.q.map Prod.snd):=by kernel_rfl):AL r P ops Q lst C l H:=q [] [] (List.replicate k .n) cs nl E (by rw[List.length_replicate];exact h) hq I
theorem c{ρ:Type}{A B R:Option ρ}{c:Operand}{x y:Code}{p:Prop}[Decidable p](E:(if p then A else B)=R)(I:p→A=R→AX r P Y K x C l H)(L:¬p→B=R→AX r P Y K y C l H)(N:ev l c=some (.bool (decide p)):=by rfl):AX r P Y K (.cond c x y) C l H:=AX.cnd N E I L
theorem d{ρ:Type}{A B R:Option ρ}{c:Operand}{x y:Code}{b:Bool}(E:(if b=true then A else B)=R)(I:b=true→A=R→AX r P Y K x C l H)(L:b=false→B=R→AX r P Y K y C l H)(N:ev l c=some (.bool b):=by rfl):AX r P Y K (.cond c x y) C l H:=AX.cnb N E I L
theorem v{ρ σ:Type}{d:Tmp}{T:TypeId}{pos:String}{af:Array Edge}(n:Nat)(js:List Nat){f:FuncId}{c:Operand}{xs:List Operand}{vs:List Value}{ts:Array TypeId}{H0:List (Nat×Res)}{ms:List (Nat×Nat)}{ls:List Nat}{S:List Nat}{R:ρ→Value→List (Nat×Res)→Prop}{X:Option ρ}{fF:ρ→Option σ}{yF:σ}
    (E:X.bind fF=some yF)(I:∀x,X=some x→Ct P f vs H0 S (R x))(hs:Sub H H0 ms ls)
    (h:∀x,X=some x→fF x=some yF→∀v H',R x v H'→(outs H'&&frs n H H')=true∧AL r P ops Q rest C ((d,v)::l) (hcat (sft n H') (kld js H (ms.map (·.2)))))
    (L:∀args w,(callFunc f args).run P w=.ok (.enter f args) w:=by intros;kernel_rfl)
    (N:ev l c=some (.func (.func f) #[] #[]):=by rfl)(O:evs l xs=some vs:=by rfl)(V:blks H ms=S:=by rfl)(W:nod (H0.map (·.1))=true:=by rfl)(h2:nod (ms.map (·.2))=true:=by rfl)(h3:ls.all (fun k=>!(ms.map (·.2)).any (Nat.beq k))=true:=by rfl)(hd:Nat.ble (d+1) C.n=true:=by rfl)(hj:hng (ms.map (·.2)) js H=true:=by kernel_rfl):
    AL r P ops Q (⟨some d,.call {callee:=.value c,args:=xs.toArray,argTypes:=ts},T,pos,af,none⟩::rest) C l H:=by
 obtain⟨x,e,E⟩:=bd_some E
 exact AL.call n js (first:=[]) (cap:=[]) L (I x e) hs (h x e E) N O (by rw[Q9];rfl) V W h2 h3 hd hj
end
abbrev raa(x:Int×Int):List Value:=[i x.1,i x.2]
abbrev rab(x:Int×Int×Int×Int×Int×Int×Int×Int):List Value:=[i x.1,i x.2.1,i x.2.2.1,i x.2.2.2.1,i x.2.2.2.2.1,i x.2.2.2.2.2.1,i x.2.2.2.2.2.2.1,i x.2.2.2.2.2.2.2]
abbrev rac(x:Int×Int):Value:=.agg #[i x.1,i x.2]
abbrev rad(x:Int×Int×Int×Int×Int×Int×Int×Int):Value:=.agg #[i x.1,i x.2.1,i x.2.2.1,i x.2.2.2.1,i x.2.2.2.2.1,i x.2.2.2.2.2.1,i x.2.2.2.2.2.2.1,i x.2.2.2.2.2.2.2]
end Go.A
end
set_option linter.defProp false
def Jc:=@Go.A.xl
def Jd:=@Go.A.dx
def Je:=@Go.A.AL.done
def Jf:=@Go.A.q0
def Jg:=@Go.A.Ct.enter
def Jh:=@Go.A.AL.alloc
def Ji:=@Go.A.n
def Jj:=@Go.Z.i64_has
def Jk:=@Go.A.dl
def Jl:=@Go.A.AL.box
def Jm:=@Go.A.si
def Jn:=@Go.A.hasl
def Jo:=@Go.A.rt1
def Jp:=@Go.A.AX.join
def Jq:=@Go.A.ck
def Jr:=@Go.A.AH.one
def Js:=@Go.A.z0
def Jt:=@Go.A.AH.done
def Ju:=@Go.A.AH.nx
def Jv:=@Go.A.Hp.blk
def Jw:=@Go.A.sw
def Jy:=@Go.A.pb
def Jz:=@Go.A.lt_some
def J1:=@Go.A.no0
def J2:=@Go.A.j
def J3:=@Go.A.lp_
def J4:=@Go.A.AL.ixs
def J5:=@Go.A.AL.on
def J6:=@Go.A.AL.bsl
def J7:=@Go.A.AL.cnd
def J8:=@Go.A.hq
def J9:=@Go.A.c
def Va:=@Go.A.v
def Vb:=@Go.A.AX.dr
def Vc:=@Go.A.AX.ret
def Vd:=@Go.A.AL.store
def Ve:=@Go.A.g
def Vf:=@Go.Z.resv2
def Vg:=@Go.A.mvd
def Vh:=@Go.A.AL.app
def Vi:=@Go.A.xe
def Vj:=@Go.A.AH.v
def Vk:=@Go.A.AX.cnf
def Vl:=@Go.Z.mget_ins
def Vm:=@Go.A.rt2
def Vn:=@Go.A.AX.cnt
def Vo:=@Go.A.b
def Vp:=@Go.Z.rv_n
def Vq:=@Go.A.AX.rtM
def Vr:=@Go.A.AL.lku
def Vs:=@Go.Z.rv_1
def Vt:=@Go.Z.resv1
def Vu:=@Go.A.AL.cnp
def Vv:=@Go.A.AL.ixl
def Vw:=@Go.Z.rv_t
def Vx:=@Go.A.AL.call
def Vy:=@Go.A.m
def Vz:=@Go.A.rowO
def V0:=@Go.A.d
def V1:=@Go.A.nil
def V2:=@Go.A.AL.mup
def V3:=@Go.Z.slice_n
def V4:=@Go.A.de
def V5:=@Go.A.xx
def V6:=@Go.A.szl
def V7:=@Go.A.AH.pko
def V8:=@Go.A.AL.mkm
def V9:=@Go.A.AL.ixo
def Ua:=@Go.A.Ct.enterM
def Ub:=@Go.A.r_ixa
def Uc:=@Go.A.r_ixo
def Ud:=@Go.A.AH.nm
def Ue:=@Go.A.drop_at
def Uf:=@Go.A.AE.flip
def Ug:=@Go.A.seen_bd
def Uh:=@Go.A.AL.lk2
def Ui:=@Go.A.r_lkf
section
namespace Go.A
open Go.RowKit Go.Z Go.Shelf Go.Proofs Go.Sort
section
variable {α:Type}
def cl0 (cmp:α→α→Option Int)(x y:α):Bool:=match cmp x y with
 |some c=>decide (c<0)
 |none=>false
def srtI (lt:α→α→Bool)(x:α):List α→List α
 | []=>[x]
 |y::l=>bif lt y x then y::srtI lt x l else x::y::l
def srtL (lt:α→α→Bool):List α→List α
 | []=>[]
 |x::l=>srtI lt x (srtL lt l)
def ordB [DecidableEq α](cmp:α→α→Option Int)(xs:List α):Bool:=xs.all fun x=>xs.all fun y=>(cmp x y).isSome&&(bif cl0 cmp x y then !cl0 cmp y x else cl0 cmp y x||decide (x=y))&&xs.all fun z=> !(cl0 cmp x y&&cl0 cmp y z)||cl0 cmp x z
def srtF [DecidableEq α](cmp:α→α→Option Int)(xs:List α):Option (List α):=if ordB cmp xs=true then some (srtL (cl0 cmp) xs)else none
structure OrdOn (lt:α→α→Bool) (X:List α):Prop where
 asym: ∀x∈X,∀y∈X,lt x y=true→lt y x=false
 tri: ∀x∈X,∀y∈X,lt x y=false→lt y x=false→x=y
 trans: ∀x∈X,∀y∈X,∀z∈X,lt x y=true→lt y z=true→lt x z=true
theorem OrdOn.nt {lt:α→α→Bool}{X:List α}(O:OrdOn lt X){x y z:α}(I:x∈X)(L:y∈X)(W:z∈X)(h1:lt x y=false)(E:lt y z=false):lt x z=false:=by
 cases N:lt x z with
 |false=>rfl
 |true=>
  cases V:lt y x with
  |true=>rw[O.trans y L x I z W V N]at E;cases E
  |false=>
   have:=O.tri x I y L h1 V
   subst this;rw[N]at E;cases E
theorem ordB_on [DecidableEq α]{cmp:α→α→Option Int}{xs:List α}(h:ordB cmp xs=true):OrdOn (cl0 cmp) xs∧∀x∈xs,∀y∈xs,∃c,cmp x y=some c:=by
 unfold ordB at h
 have key: ∀x∈xs,∀y∈xs,((cmp x y).isSome=true∧(bif cl0 cmp x y then !cl0 cmp y x else cl0 cmp y x||decide (x=y))=true)∧∀z∈xs,(!(cl0 cmp x y&&cl0 cmp y z)||cl0 cmp x z)=true:=fun x E y I=>by
  have:=Q7.1 (Q7.1 h x E) y I
  rw[Qk,Qk,Q7]at this
  exact this
 refine⟨⟨fun x E y I L=>?_,fun x E y I L N=>?_,fun x E y I z O L N=>?_⟩,fun x E y I=>Option.isSome_iff_exists.1 (key x E y I).1.1⟩
 ·have:=(key x E y I).1.2
  rw[L,cond_true,Ym]at this;exact this
 ·have:=(key x E y I).1.2
  rw[L,N,cond_false,Xd,decide_eq_true_iff]at this;exact this
 ·have:=(key x E y I).2 z O
  rw[L,N]at this;exact this
theorem Qdw (lt:α→α→Bool)(x:α): ∀l:List α,(srtI lt x l).Perm (x::l)
 | []=>List.Perm.refl _
 |y::l=>by
  unfold srtI
  cases lt y x with
  |true=>exact((Qdw lt x l).cons y).trans (List.Perm.swap x y l)
  |false=>exact List.Perm.refl _
theorem srtL_perm (lt:α→α→Bool): ∀l:List α,(srtL lt l).Perm l
 | []=>List.Perm.refl _
 |x::l=>(Qdw lt x _).trans ((srtL_perm lt l).cons x)
theorem srtI_pw {lt:α→α→Bool}{X:List α}(O:OrdOn lt X){x:α}(L:x∈X): ∀l:List α,(∀a∈l,a∈X)→l.Pairwise (fun a b=>lt b a=false)→(srtI lt x l).Pairwise (fun a b=>lt b a=false)
 | [],_,_=>List.pairwise_singleton ..
 |y::l,N,hp=>by
  have V:=N y (Qf ..)
  have I: ∀a∈l,a∈X:=fun a W=>N a (Qb _ W)
  rw[Qo]at hp
  unfold srtI
  cases h:lt y x with
  |true=>
   refine Qo.2 ⟨fun b E=>?_,srtI_pw O L l I hp.2⟩
   rcases Qg.1 ((Qdw lt x l).mem_iff.1 E)with rfl|E
   ·exact O.asym y V b L h
   ·exact hp.1 b E
  |false=>
   refine Qo.2 ⟨fun b E=>?_,Qo.2 hp⟩
   rcases Qg.1 E with rfl|E
   ·exact h
   ·exact O.nt (I b E) V L (hp.1 b E) h
theorem srtL_pw {lt:α→α→Bool}{X:List α}(O:OrdOn lt X): ∀l:List α,(∀a∈l,a∈X)→(srtL lt l).Pairwise (fun a b=>lt b a=false)
 | [],_=>List.Pairwise.nil
 |x::l,E=>srtI_pw O (E x (Qf ..)) _ (fun a I=>E a (Qb _ ((srtL_perm lt l).mem_iff.1 I))) (srtL_pw O l fun a I=>E a (Qb _ I))
theorem srt_uniq {lt:α→α→Bool}{xs ys:List α}(O:OrdOn lt xs)(hp:ys.Perm xs)(hs:ys.Pairwise (fun a b=>lt b a=false)):ys=srtL lt xs:=
 List.Perm.eq_of_pairwise (le:=fun a b=>lt b a=false) (fun a b E I L N=>O.tri a (hp.mem_iff.1 E) b ((srtL_perm lt xs).mem_iff.1 I) N L) hs (srtL_pw O xs fun a h=>h) (hp.trans (srtL_perm lt xs).symm)
end
theorem Qii: ∀{t:Ty},t.flat=true→lv t=0
 | .int _,_=>rfl
 | .byte,_=>rfl
 | .bool,_=>rfl
 | .str,_=>rfl
 | .slice _,h=>by cases h
 | .pair a b,h=>by
  simp only[Ty.flat,Qk]at h
  show lv a+lv b=0
  rw[Qii h.1,Qii h.2]
theorem cl_len: ∀{t:Ty} (x:t.den) (ps:Lf),t.flat=true→(cl t x ps).length=t.size
 | .int _,_,_,_=>rfl
 | .byte,_,_,_=>rfl
 | .bool,_,_,_=>rfl
 | .str,_,_,_=>rfl
 | .slice _,_,_,h=>by cases h
 | .pair a b,x,ps,h=>by
  simp only[Ty.flat,Qk]at h
  show(cl a x.1 _++cl b x.2 _).length=a.size+b.size
  rw[Qj,cl_len x.1 _ h.1,cl_len x.2 _ h.2]
theorem cl_one: ∀{t:Ty} (x:t.den) (ps:Lf),t.flat=true→∀v∈cl t x ps,v.oneCell'=true
 | .int _,_,_,_,v,E=>by obtain rfl:=Qi.1 E;rfl
 | .byte,_,_,_,v,E=>by obtain rfl:=Qi.1 E;rfl
 | .bool,_,_,_,v,E=>by obtain rfl:=Qi.1 E;rfl
 | .str,_,_,_,v,E=>by obtain rfl:=Qi.1 E;rfl
 | .slice _,_,_,h,_,_=>by cases h
 | .pair a b,x,ps,h,v,E=>by
  simp only[Ty.flat,Qk]at h
  rcases Qu.1 (show v∈cl a x.1 _++cl b x.2 _ from E)with E|E
  ·exact cl_one x.1 _ h.1 v E
  ·exact cl_one x.2 _ h.2 v E
theorem rep_cl0 {t:Ty}(E:t.flat=true){w:World}{F:Nat→Prop}{cs:List Value}{x:t.den}(h:t.rep w F cs x):cs=cl t x []:=by
 obtain⟨ps,hp,I,_⟩:=rep_cl (B:=fun _ _=>False) t h
 rw[Qii E]at hp
 obtain rfl:=Q6 hp
 exact I
theorem ch_grow {W w':World}(h:Ch [] W w')(E:W.drawn≤w'.drawn): ∃q os',w'=grow (W.drewN q) os':=by
 refine⟨w'.drawn-W.drawn,w'.heap.extract W.heap.size w'.heap.size,?_⟩
 obtain⟨I,L,N,h4,O⟩:=h
 obtain⟨heap',tape',drawn',os',output'⟩:=w'
 obtain⟨heap,tape,drawn,os,output⟩:=W
 simp only at I L N h4 O E
 subst I;subst L;subst N
 have e:heap'=heap++heap'.extract heap.size heap'.size:=by
  refine Array.ext_getElem? fun i=>?_
  by_cases V:i<heap.size
  ·rw[O i V (by simp),Xp V]
  ·rw[Array.getElem?_append_right (by omega),Array.getElem?_extract]
   split
   ·congr 1;omega
   ·rw[Xz (by omega)]
 show World.mk heap' tape' drawn' os' output'=World.mk (heap++heap'.extract heap.size heap'.size) tape' (drawn+(drawn'-drawn)) os' output'
 rw[←e,Nat.add_sub_cancel' E]
theorem Hp.none (W:World)(F:Nat→Prop):Hp ⟨0,[],W,[],F⟩ [] W:=⟨Ch.refl _,fun k r h=>(by cases h),fun k b ⟨_,h,_⟩=>(by cases h),fun k k' b ⟨_,h,_⟩=>(by cases h),fun k r j h=>(by cases h)⟩
theorem Ct.cmp {P:Program}{g:Nat}{vs:List Value}{c:Int}{R:Value→List (Nat×Res)→Prop}(h:Ct P g vs [] [] R)(I: ∀v H',R v H'→v=.int .i64 c)(W:World):Calls P g vs.toArray W fun e w'=>e=.returned (.int .i64 c)∧∃q os',w'=grow (W.drewN q) os':=
 (Dr.calls (h W (fun _=>False) (Hp.none W _))).mono fun e w' ⟨⟨v,H',E,L,N⟩,O⟩=>⟨by rw[E,I v H' L],ch_grow N.ch (O v E)⟩
theorem flat_get {α:Type}[Inhabited α](enc:α→List Value)(k:Nat)(d:Array α){i j:Nat}{x:α}(I:d[i]?=some x)(N:j<k):i*k+j<d.size*k∧(flatK enc k d)[i*k+j]! =(enc x)[j]! :=by
 obtain⟨E,L⟩:=Qn.1 I
 have lt:i*k+j<d.size*k:=by
  have:=Wd k (show i+1≤d.size from E);rw[Xi,Ya]at this;omega
 have e1:(i*k+j) / k=i:=(blk_iff k i _ (by omega)).1 ⟨by omega,by omega⟩
 have e2:(i*k+j)%k=j:=by rw[Nat.mod_eq_sub_div_mul,e1];omega
 refine⟨lt,?_⟩
 rw[get_flatK _ _ _ _ lt,e1,e2,getElem!_pos d i E,L]
theorem lgetb {l:List Value}{j:Nat}(h:j<l.length):l[j]?=some l[j]! :=by rw[Qe h,getElem!_pos l j h]
theorem put_id (d:Array Value)(c:Array Value)(j:Nat):(putCells id 0 d c)[j]?=(c[j]?).map fun x=>if j<d.size then d[j]! else x:=by
 unfold putCells
 rw[Array.getElem?_mapIdx]
 congr 1;funext x
 simp
theorem Ct.sortF {P:Program}{ρ:Ren}{f:Nat}(L:SlLaysF0.n6 P ρ)(hf:ρ.f 6=f){t:Ty}[DecidableEq t.den]{e:TypeId}(ht:t.flat=true)
  (aE: ∀w,(isAgg (ρ.t 24)).run P w=.ok true w) (zE: ∀w,(Go.sizeOf (ρ.t 24)).run P w=.ok t.size w) (A:Option Addr) (c:Nat) (g:Nat) (cmp:t.den→t.den→Option Int)
  (eg: ∀args w,(callFunc g args).run P w=.ok (.enter g args) w)
  (hc: ∀x y r,t.ok x→t.ok y→cmp x y=some r→∃R,Ct P g [.agg (cl t x []).toArray,.agg (cl t y []).toArray] [] [] R∧∀v H',R v H'→v=.int .i64 r)
  (xs r:List t.den) (hm:xs.length<4611686018427387904) (hr:srtF cmp xs=some r):
  Ct P f [.slice A xs.length c,.func (.func g) #[] #[]] [(0,.own t e A c xs)] (obl A) (fun v H'=>v=.tuple #[]∧H'=[(0,.own t e A c r)]∧r.length=xs.length):=fun w F hh=>by
 subst hf
 obtain⟨hord,hr⟩:ordB cmp xs=true∧srtL (cl0 cmp) xs=r:=by
  unfold srtF at hr
  split at hr
  ·rename_i h;exact⟨h,Wz hr⟩
  ·cases hr
 obtain⟨O,tot⟩:=ordB_on hord
 have hlen:r.length=xs.length:=by rw[←hr];exact(srtL_perm (cl0 cmp) xs).length_eq
 obtain⟨cells,hrow,h1,h2⟩:Own t e 0 w (Fh ⟨0,[],w,obl A,F⟩ [(0,.own t e A c xs)]) A c xs:=hh.hold 0 _ rfl
 have hok: ∀x∈xs,t.ok x:=fun x V=>by
  obtain⟨i,W⟩:=Wv V
  exact rep_ok t (h2 i x W)
 by_cases hx0:xs=[]
 ·subst hx0
  obtain rfl:r=[]:=by rw[←hr];rfl
  refine(AnyF.slices_SortFunc_none L A c _ w).mono ?_
  rintro e' w' ⟨rfl,rfl⟩
  exact⟨_,_,rfl,⟨rfl,rfl,rfl⟩,hh⟩
 rcases hrow.2 with⟨hv,hn⟩|⟨b,cap,cur,hv,hb,hg,hnc,hcm,hcs,htake⟩
 ·exact absurd (Q6 hn) hx0
 injection hv with hA _ hcap
 subst hA;subst hcap
 have hglt:b<w.heap.size:=(Qn.1 hg).1
 have hk:=Qao t
 have hbound: ∀{n i j:Nat},i<n→j<t.size→i*t.size+j<n*t.size:=fun {n i j} W I=>by
  have:=Wd t.size (show i+1≤n from W);rw[Xi,Ya]at this;omega
 have hcell: ∀i x,xs[i]?=some x→∀j,j<t.size→cur[i*t.size+j]?=(cl t x [])[j]?:=fun i x V j I=>by
  have E:=rep_cl0 ht (h2 i x V)
  have W:=(Qc.1 V).1
  rw[←E,Wf I,Xh,←htake,Xa,if_pos (hbound W I)]
  simp
 haveI:Inhabited {x // x∈xs}:=⟨⟨xs.head hx0,List.head_mem hx0⟩⟩
 let enc:{x // x∈xs}→List Value:=fun x=>cl t x.1 []
 have he: ∀x,(enc x).length=t.size:=fun x=>cl_len x.1 [] ht
 let cf:{x // x∈xs}→{x // x∈xs}→Int:=fun x y=>(cmp x.1 y.1).getD 0
 have hlt: ∀x y,ltOf cf x y=cl0 cmp x.1 y.1:=fun x y=>by
  obtain⟨c0,h0⟩:=tot x.1 x.2 y.1 y.2
  show decide ((cmp x.1 y.1).getD 0<0)=_
  unfold cl0;rw[h0];rfl
 have hO:SWO (ltOf cf):=by
  refine⟨fun x=>?_,fun x y z E N=>?_,fun x y z E N=>?_⟩
  ·rw[hlt]
   cases E:cl0 cmp x.1 x.1 with
   |false=>rfl
   |true=>rw[O.asym _ x.2 _ x.2 E]at E;cases E
  ·rw[hlt]at E N ⊢;exact O.trans _ x.2 _ y.2 _ z.2 E N
  ·rw[hlt]at E N ⊢;exact O.nt x.2 y.2 z.2 E N
 obtain⟨d,hd⟩: ∃d:Array {x // x∈xs},d=xs.attach.toArray:=⟨_,rfl⟩
 have hds:d.size=xs.length:=by rw[hd];simp
 have hdg: ∀(i:Nat) (x:{x // x∈xs}),d[i]?=some x→xs[i]?=some x.1:=fun i x V=>by
  rw[hd,Wy]at V
  have:=congrArg (Option.map Subtype.val) V
  rw[←Qp,List.attach_map_subtype_val]at this;exact this
 have hH:HoldsK enc t.size w b 0 d:=fun j I=>by
  rw[size_flatK]at I
  have W:j / t.size<d.size:=Nat.div_lt_of_lt_mul (by rwa[Nat.mul_comm]at I)
  have hu:=Nat.mod_lt j hk
  have hje:j / t.size*t.size+j%t.size=j:=Nat.div_add_mod' j t.size
  have V:d[j / t.size]?=some d[j / t.size]:=Wi W
  obtain⟨_,N⟩:=flat_get enc t.size d V hu
  rw[hje]at N
  have h5:=hcell _ _ (hdg _ _ V) _ hu
  rw[hje]at h5
  refine⟨?_,by simp[World.frozen?,hg]⟩
  rw[Ws,cell_of_row w b j cur e (0,0) hg,h5,N]
  have hl:j%t.size<(enc d[j / t.size]).length:=by rw[he];exact hu
  have e9:(enc d[j / t.size])[j%t.size]?=some ((enc d[j / t.size])[j%t.size]!):=lgetb hl
  exact e9
 have hcl:CmpLays P g #[] enc t.size cf b 0 d.size w:=fun m os dk _ x y=>by
  obtain⟨c0,h0⟩:=tot x.1 x.2 y.1 y.2
  obtain⟨R,E,N⟩:=hc x.1 y.1 c0 (hok _ x.2) (hok _ y.2) h0
  have:cf x y=c0:=by show(cmp x.1 y.1).getD 0=c0;rw[h0];rfl
  rw[this]
  exact Ct.cmp E N _
 have key:=AnyQ.slices_SortFunc L t.size aE zE enc he (fun x v hv=>cl_one x.1 [] ht v hv) cf hO g #[] b 0 c d w eg hcl hH hglt (by rw[hds];exact hm)
 rw[hds]at key
 refine key.mono ?_
 rintro e' w' ⟨rfl,d',n,os,hp,hs,rfl⟩
 clear key
 obtain⟨hsz,_,hperm⟩:=hp
 have hsz2:d'.size=xs.length:=hsz.trans hds
 have hys:d'.toList.map Subtype.val=r:=by
  rw[←hr]
  refine srt_uniq O ?_ ?_
  ·have E:d'.toList.Perm d.toList:=by
    have e1:d'.extract 0 xs.length=d':=by rw[←hsz2];exact Array.extract_size
    have e2:d.extract 0 xs.length=d:=by rw[←hds];exact Array.extract_size
    rw[e1,e2]at hperm;exact hperm
   have N:=E.map Subtype.val
   rw[hd]at N
   have h5:xs.attach.toArray.toList.map Subtype.val=xs:=List.attach_map_subtype_val xs
   rw[h5]at N;exact N
  ·refine X4.2 fun i j W I hij=>?_
   rw[Qr,Array.length_toList]at W I
   have E:=hs i j (Xe _) hij (by omega)
   rw[hlt,getElem!_pos d' j (by omega),getElem!_pos d' i (by omega)]at E
   simpa using E
 have hrg: ∀(i:Nat) (x:t.den),r[i]?=some x→∃y,d'[i]?=some y∧y.1=x:=fun i x V=>by
  rw[←hys,Qp,X3]at V
  obtain⟨y,E,N⟩:=X1.1 V
  exact⟨y,E,N⟩
 generalize hcd:putCells id 0 (flatK enc t.size d') cur=cur'
 have hheap:(sortWorldK enc t.size w b 0 n d' os).heap[b]?=some (.cells cur' e (0,0)):=by
  show((w.heap.modify b (onCells (putCells id 0 (flatK enc t.size d'))))++os)[b]?=_
  rw[Xp (by simpa using hglt),Yh,if_pos rfl,hg]
  simp only[Wb,onCells,hcd]
 have hch:Ch [b] w (sortWorldK enc t.size w b 0 n d' os):=by
  refine⟨rfl,rfl,rfl,?_,fun k hk hn2=>?_⟩
  ·show w.heap.size≤((w.heap.modify b (onCells (putCells id 0 (flatK enc t.size d'))))++os).size
   simp
  ·show((w.heap.modify b (onCells (putCells id 0 (flatK enc t.size d'))))++os)[k]?=_
   rw[Xp (by simpa using hk),Yh,if_neg (fun e=>hn2 (Qi.2 e.symm))]
 have hcs':cur'.size=cur.size:=by rw[←hcd];simp[putCells]
 have hnk:xs.length*t.size≤cur.size:=by rw[hcs];exact Wd _ hnc
 have hget: ∀(i:Nat) (y:{x // x∈xs}),d'[i]?=some y→∀j,j<t.size→cur'[i*t.size+j]?=(cl t y.1 [])[j]?:=fun i y hy j I=>by
  have W:=(Qn.1 hy).1
  obtain⟨E,N⟩:=flat_get enc t.size d' hy I
  have hb2:i*t.size+j<cur.size:=Qy (hbound (by omega) I) hnk
  rw[←hcd,put_id,Wi hb2,Wb,if_pos (by rw[size_flatK];exact E),N]
  have hl:j<(enc y).length:=by rw[he];exact I
  show some (enc y)[j]! =(enc y)[j]?
  exact(lgetb hl).symm
 have hown: ∀F':Nat→Prop,Own t e 0 (sortWorldK enc t.size w b 0 n d' os) F' (some ⟨b,0,none⟩) c r:=fun F'=>by
  refine⟨cur'.toList.take (r.length*t.size),⟨?_,.inr ⟨b,c,cur',rfl,Xe _,hheap,by omega,hcm,by rw[hcs',hcs],rfl⟩⟩,fun u hu=>?_,fun i x V=>?_⟩
  ·rw[Qz,Array.length_toList (xs:=cur'),hlen,hcs'];omega
  ·obtain⟨j,I,rfl⟩:=Xy hu
   rw[Qz]at I
   have hj2:j<r.length*t.size:=by omega
   have hje:j / t.size*t.size+j%t.size=j:=Nat.div_add_mod' j t.size
   have W:j / t.size<d'.size:=by rw[hsz2,←hlen];exact Nat.div_lt_of_lt_mul (by rwa[Nat.mul_comm]at hj2)
   have E:=hget _ _ (Wi W) _ (Nat.mod_lt j hk)
   rw[hje]at E
   rw[List.getElem_take]
   have hjc:j<cur'.size:=by have:=I;rw[Array.length_toList (xs:=cur')]at this;omega
   rw[Wi hjc]at E
   rw[Array.getElem_toList]
   exact cl_one _ [] ht _ (Qh E.symm)
  ·obtain⟨y,hy,rfl⟩:=hrg i x V
   have W:=(Qc.1 V).1
   have e1:((cur'.toList.take (r.length*t.size)).drop (i*t.size)).take t.size=cl t y.1 []:=by
    refine Wx fun j=>?_
    by_cases I:j<t.size
    ·rw[Wf I,Xh,Xa,if_pos (hbound W I),X3]
     exact hget i y hy j I
    ·rw[Wk (by rw[Qz];omega),Wk (by rw[cl_len _ _ ht];omega)]
   rw[e1]
   obtain⟨i0,hi0⟩:=Wv y.2
   have E:=h2 i0 y.1 hi0
   rw[rep_cl0 ht E]at E
   exact rep_flat t ht (rep_to (F':=no) (rep_flat (F':=no) t ht E) hch (fun _ h _=>h.elim))
 refine⟨_,[(0,.own t e (some ⟨b,0,none⟩) c r)],rfl,⟨rfl,rfl,hlen⟩,?_⟩
 have E:=Hp.ren (Hp.upd (k:=0) (r':=.own t e (some ⟨b,0,none⟩) c r) hh hch (fun k hb2=>⟨_,rfl,hb2⟩) (fun k hb2=>.inl ⟨_,rfl,hb2⟩) (fun j I=>by cases I) fun F' B _ _ _ _ _=>hown _) [(0,0)] rfl rfl
 exact⟨E.ch,E.hold,E.bnd,E.dis,E.ref⟩
end Go.A
end
section
namespace Go.A
open Go.RowKit Go.Z Go.Shelf Go.Proofs
theorem has_zero (k:IntKind):k.has 0:=by cases k<;>exact(by decide)
theorem has_mid {k:IntKind}{a x:Int}(h:k.has a)(I:0≤x∧x≤a∨a≤x∧x≤0):k.has x:=by
 have E:=has_zero k
 exact⟨by have:=h.1;have:=E.1;omega,by have:=h.2;have:=E.2;omega⟩
theorem tmod_has {k:IntKind}{a b:Int}(h:k.has a):k.has (Int.tmod a b):=by
 refine has_mid h ?_
 have I:=Int.natAbs_tmod a b
 have L:=Nat.mod_le a.natAbs b.natAbs
 rcases Int.le_total 0 a with E|E
 ·have:=Int.tmod_nonneg b E
  exact .inl ⟨this,by omega⟩
 ·have N:Int.tmod a b= -Int.tmod (-a) b:=by rw[Int.neg_tmod,Int.neg_neg]
  have:=Int.tmod_nonneg b (a:= -a) (by omega)
  exact .inr ⟨by omega,by omega⟩
theorem dec_has {s:ByteArray}{p:Nat}:IntKind.i32.has ((Utf8.decode s p).1:Int):=by
 have h:=Lib.rune_le s p
 exact⟨by show(-2147483648:Int)≤_;omega,by show _≤(2147483647:Int);omega⟩
theorem cmpb_has: ∀a b:List UInt8,IntKind.i64.has (Lib.compareBytes a b)
 | [],[]=>by unfold Lib.compareBytes;decide
 | [],_::_=>by unfold Lib.compareBytes;decide
 |_::_,[]=>by unfold Lib.compareBytes;decide
 |x::a,y::b=>by
  unfold Lib.compareBytes
  have:=cmpb_has a b
  repeat' split
  all_goals first|assumption|decide
theorem Hem.bh {r:Option Nat}{P:Program}{ops:Array Oper}{Q:Exit→Act→World→Prop}{S S':World→Prop}{m m':Nat}: ∀(f:Nat) (li:Array Bool) (a:Act) (w:World),gn ops li m=true→Hem r P ops Q S' m' f li a w→Hem r P ops Q S m f li a w
 |0,_,_,_,_,h=>h
 |f+1,li,a,w,E,h=>⟨h.1,fun i L=>wpOpIn_mono (fun a' w' h'=>by
   have hg':gn ops (li.setIfInBounds i true) m=true:=by
    cases hq:gn ops (li.setIfInBounds i true) m with
    |true=>rfl
    |false=>rw[Qfn hq]at E;cases E
   exact⟨fun I=>(by rw[hg']at I;cases I),Hem.bh f _ a' w' hg' h'.2⟩) (h.2 i L)⟩
theorem AH.bh {r:Option Nat}{P:Program}{ops:Array Oper}{Q:Exit→Act→World→Prop}{Hq:List (Nat×Res)}{m f:Nat}{li:List Bool}{C:Cx}{l:List (Nat×Value)}{H:List (Nat×Res)}(m':Nat)(h:AH r P ops Q [] m' f li C l H)(E:gn ops li.toArray m=true:=by kernel_rfl):AH r P ops Q Hq m f li C l H:=fun a w I L=>
 Hem.bh _ _ a w E (h a w I L)
theorem Ct.scmp {P:Program}{ρ:Ren}{f:Nat}(L:Lays.n106 P ρ)(I:ρ.f 106=f)(a b:ByteArray)(r:Int)(E:some (Lib.compareBytes a.data.toList b.data.toList)=some r):
  Ct P f [.string a,.string b] [] [] (fun v H'=>v=.int .i64 r∧H'=[]∧IntKind.i64.has r):=fun w F N=>by
 subst I
 have E:=Wz E
 subst E
 refine(Any.strings_Compare L a b w).mono ?_
 rintro e w' ⟨rfl,rfl⟩
 exact⟨_,[],rfl,⟨rfl,rfl,cmpb_has _ _⟩,Ch.refl _,fun k r h=>(by cases h),fun k b ⟨_,h,_⟩=>(by cases h),fun k k' b ⟨_,h,_⟩=>(by cases h),fun k r j h=>(by cases h)⟩
def dem {α β:Type}[DecidableEq β](m:List α)(sn:List Nat)(e:Option β)(g:Nat→α→Option β):Option β:=
 match(List.range m.length).filter (fun i=> !(sn.contains i))with
 | []=>e
 |i::js=>(m[i]?).bind fun p=>if(js.all fun j=>decide (((m[j]?).bind fun q=>g j q)=g i p))=true then g i p else none
theorem dem_some {α β:Type}[DecidableEq β]{m:List α}{sn:List Nat}{e:Option β}{g:Nat→α→Option β}{r:β}(h:dem m sn e g=some r):
  ((∀i,i<m.length→i∈sn)→e=some r)∧∀i p,m[i]?=some p→i∉sn→g i p=some r:=by
 have hmem: ∀i,i∈(List.range m.length).filter (fun i=> !(sn.contains i))↔i<m.length∧i∉sn:=fun i=>by
  rw[Yd,List.mem_range];simp
 unfold dem at h
 split at h
 ·rename_i I
  rw[I]at hmem
  exact⟨fun _=>h,fun i p hp L=>absurd ((hmem i).2 ⟨(Qc.1 hp).1,L⟩) (by simp)⟩
 ·rename_i i js I
  rw[I]at hmem
  have E:=(hmem i).1 (Qf ..)
  refine⟨fun hall=>absurd (hall i E.1) E.2,fun j q hq L=>?_⟩
  rw[Qe E.1,Qa]at h
  split at h
  ·rename_i hall
   rcases Qg.1 ((hmem j).2 ⟨(Qc.1 hq).1,L⟩)with rfl|N
   ·rw[Qe E.1]at hq
    obtain rfl:=Wz hq
    exact h
   ·have:=of_decide_eq_true (Q7.1 hall j N)
    rw[hq,Qa]at this
    rw[this];exact h
  ·cases h
section
variable {r:Option Nat}{P:Program}{Q:Exit→Act→World→Prop}{C:Cx}{l:List (Nat×Value)}{H:List (Nat×Res)}{ops:Array Oper}{rest:List Oper}{T:TypeId}{pos:String}{af:Array Edge}{d:Nat}
theorem r_slh {a:Act}{w:World}{tt:TypeId}{x I:Operand}{s:ByteArray}{L:IntKind}{q:Int}(N:P.underlying tt=some .string)(O:a.eval x=.string s)(E:a.eval I=.int L q)(V:0≤q)(W:q≤s.size):
  (execOp a.eval ⟨some d,.slice tt x none (some I) none,T,pos,af,none⟩).run P w=.ok (.value (.string (s.extract 0 q.toNat))) w:=by
 simp[execOp,Instr.sliceAt,run_underlying N,O,E,run_slice_string_h w tt s N L q V W]
theorem AL.slh {tt:TypeId}{x I:Operand}{s:ByteArray}{N:IntKind}{q:Int}(hq:0≤q∧q≤s.size)(h:AL r P ops Q rest C ((d,.string (s.extract 0 q.toNat))::l) H)(O:ev l x=some (.string s):=by rfl)(E:ev l I=some (.int N q):=by rfl)(V:P.underlying tt=some .string:=by rfl)(W:Nat.ble (d+1) C.n=true:=by rfl):
  AL r P ops Q (⟨some d,.slice tt x none (some I) none,T,pos,af,none⟩::rest) C l H:=
 AL.val W (fun a w L _=>r_slh V (L.eval O) (L.eval E) hq.1 hq.2) h
theorem ext_le {s:ByteArray}{i j:Nat}(h:s.size≤maxLen):(s.extract i j).size≤maxLen:=by
 rw[ByteArray.size_extract];omega
end
theorem Ct.grow {P:Program}{ρ:Ren}(L:Lays8.n4 P ρ){t:Ty}{e:TypeId}{f:FuncId}{S:List Nat}(hf:ρ.f 4=f)(he:ρ.t 25=e){i:TypeInfo}{z:Value}(hi:P.info? e=some i)(hz:i.zero=some z)(hs:i.size=t.size)(N:z.cells.size=t.size)(E:Nat.ble 1 i.bytes=true)(n:Nat)(I:n*i.bytes≤140737488355328):
  Ct P f [.slice none 0 0,.int .i64 (n:Int)] [] S (fun v H'=>∃A' c',v=.slice A' 0 c'∧H'=[(0,.own t e A' c' [])]):=fun w F hh=>by
 subst hf;subst he
 have E:=Q0 E
 have O:=Qao t
 have hn:n≤140737488355328:=Wl (Yz _ E) I
 by_cases h0:n=0
 ·subst h0
  refine(Any8.slices_Grow_room L none 0 0 0 w (Qq _) (by decide) (by decide) (by decide)).mono ?_
  rintro e' w' ⟨rfl,rfl⟩
  refine⟨_,[(0,.own t (ρ.t 25) none 0 [])],rfl,⟨none,0,rfl,rfl⟩,?_⟩
  exact Hp.add (r':=.own t (ρ.t 25) none 0 []) hh rfl rfl (fun j V=>by cases V) (Own.nil t (ρ.t 25) 0 w' _)
 ·refine(Any8.slices_Grow_grow L i z hi hz (by rw[hs];exact O) none 0 0 n [] w (Qq _) (by omega) (by rw[Ws];exact I) (by omega) (by simp) (fun _=>rfl) (fun a ha=>by cases ha)).mono ?_
  rintro e' w' ⟨rfl,rfl⟩
  refine⟨_,[(0,.own t (ρ.t 25) (some ⟨w.heap.size,0,none⟩) (grownCap w (0+n) 0 (ρ.t 25)) [])],rfl,⟨_,_,rfl,rfl⟩,?_⟩
  have hge:=grownCap_ge w (0+n) 0 (ρ.t 25)
  have W:=grownCap_le_maxLen w (0+n) 0 (ρ.t 25) (by simp only[maxLen];omega)
  obtain⟨row,hrow⟩: ∃row,([]:List Value).toArray++Builtin.zeroCells z.cells (0+n-0)++Builtin.zeroCells z.cells (grownCap w (0+n) 0 (ρ.t 25)-(0+n))=row:=⟨_,rfl⟩
  rw[hrow]
  have hrs:row.size=grownCap w (0+n) 0 (ρ.t 25)*t.size:=by
   rw[←hrow]
   simp only[Array.size_append,Yk,Qm,size_zeroCells,N]
   rw[Ws,←Xi]
   congr 1
   omega
  have hch:Ch [] w (w.drew.alloc (.cells row (ρ.t 25))):=by
   refine⟨rfl,rfl,rfl,?_,fun k hk _=>?_⟩
   ·show w.heap.size≤(w.heap.push _).size
    rw[Array.size_push];omega
   ·show(w.heap.push _)[k]?=_
    rw[Array.getElem?_push_lt hk,Wi hk]
  refine Hp.new (r':=.own t (ρ.t 25) (some ⟨w.heap.size,0,none⟩) (grownCap w (0+n) 0 (ρ.t 25)) []) hh rfl hch (fun b I=>?_) (fun j V=>by cases V) fun F' B _ _ _=>?_
  ·simp only[Res.bl,obl,Qi]at I
   rw[I]
   exact⟨Qq _,by show w.heap.size<(w.heap.push _).size;rw[Array.size_push];omega⟩
  ·refine⟨[],⟨by simp,.inr ⟨w.heap.size,grownCap w (0+n) 0 (ρ.t 25),row,rfl,Xe _,?_,Xe _,W,hrs,by simp⟩⟩,by simp,fun j x hx=>by simp at hx⟩
   show(w.heap.push _)[w.heap.size]?=_
   rw[Array.getElem?_push_size]
end Go.A
end
section
namespace Go.Proofs.YtlhiofnikdppeaaGreatDoor
open Go.RowKit Go.Shelf Go.Lib
abbrev l2a:List Value:=[A.i 0,A.i 0,.slice none 0 0,A.i 0,A.i 0,.string (ByteArray.mk #[]),.string (ByteArray.mk #[]),A.i 0,A.i 0]
abbrev l2b:List Nat:=[0,1,2,3,4,171,172]
abbrev l2c:List Value:=[A.i 0,A.i 0,.string (ByteArray.mk #[]),A.i 0]
abbrev l2d:List Nat:=[0,1,2,3,4,171,172,213]
abbrev l2e:List Value:=[A.i 0,A.i 0,.string (ByteArray.mk #[])]
abbrev l2f:List Nat:=[0,1,2,3]
abbrev l2g:List Nat:=[0,1,2]
abbrev l2h:List Nat:=[0,1]
def Tryz.laysSortFunc49_ren:Go.Shelf.Ren:=⟨fun|6=>49|15=>82|14=>81|28=>119|29=>120|20=>111|21=>112|22=>113|23=>114|24=>115|25=>116|26=>117|27=>118|46=>154|47=>155|48=>156|49=>157|50=>158|57=>178|n=>n,fun|22=>29|24=>50|25=>102|3=>3|39=>120|0=>0|53=>150|55=>152|4=>4|46=>143|45=>142|50=>147|5=>5|9=>9|66=>188|70=>192|76=>223|77=>173|n=>n,fun|n=>n⟩
theorem Tryz.laysSortFunc49:Go.Proofs.SlLaysF0.n6 Tryz.prog Tryz.laysSortFunc49_ren where
 mixed:=by kernel_rfl
 f6:=⟨"slices.SortFunc[[]rivulet/api.Entry,rivulet/api.Entry]",by decide,Tryz.func49.trans (congrArg some (by kernel_rfl))⟩
 f14:=⟨"slices.pdqsortCmpFunc[rivulet/api.Entry]",by decide,Tryz.func81.trans (congrArg some (by kernel_rfl))⟩
 f15:=Tryz.func82.trans (congrArg some (by kernel_rfl))
 f20:=⟨"slices.insertionSortCmpFunc[rivulet/api.Entry]",by decide,Tryz.func111.trans (congrArg some (by kernel_rfl))⟩
 f21:=⟨"slices.heapSortCmpFunc[rivulet/api.Entry]",by decide,Tryz.func112.trans (congrArg some (by kernel_rfl))⟩
 f22:=⟨"slices.breakPatternsCmpFunc[rivulet/api.Entry]",by decide,Tryz.func113.trans (congrArg some (by kernel_rfl))⟩
 f23:=⟨"slices.choosePivotCmpFunc[rivulet/api.Entry]",by decide,Tryz.func114.trans (congrArg some (by kernel_rfl))⟩
 f24:=⟨"slices.reverseRangeCmpFunc[rivulet/api.Entry]",by decide,Tryz.func115.trans (congrArg some (by kernel_rfl))⟩
 f25:=⟨"slices.partialInsertionSortCmpFunc[rivulet/api.Entry]",by decide,Tryz.func116.trans (congrArg some (by kernel_rfl))⟩
 f26:=⟨"slices.partitionEqualCmpFunc[rivulet/api.Entry]",by decide,Tryz.func117.trans (congrArg some (by kernel_rfl))⟩
 f27:=⟨"slices.partitionCmpFunc[rivulet/api.Entry]",by decide,Tryz.func118.trans (congrArg some (by kernel_rfl))⟩
 f28:=Tryz.func119.trans (congrArg some (by kernel_rfl))
 f29:=Tryz.func120.trans (congrArg some (by kernel_rfl))
 f46:=⟨"slices.siftDownCmpFunc[rivulet/api.Entry]",by decide,Tryz.func154.trans (congrArg some (by kernel_rfl))⟩
 f47:=Tryz.func155.trans (congrArg some (by kernel_rfl))
 f48:=Tryz.func156.trans (congrArg some (by kernel_rfl))
 f49:=⟨"slices.medianAdjacentCmpFunc[rivulet/api.Entry]",by decide,Tryz.func157.trans (congrArg some (by kernel_rfl))⟩
 f50:=⟨"slices.medianCmpFunc[rivulet/api.Entry]",by decide,Tryz.func158.trans (congrArg some (by kernel_rfl))⟩
 f57:=⟨"slices.order2CmpFunc[rivulet/api.Entry]",by decide,Tryz.func178.trans (congrArg some (by kernel_rfl))⟩
 t0:=Tryz.underlying0
 a0:=Tryz.isAgg0
 z0:=Tryz.sizeOf0
 v0:=Tryz.zeroValue0
 t3:=Tryz.underlying3
 a3:=Tryz.isAgg3
 z3:=Tryz.sizeOf3
 v3:=Tryz.zeroValue3
 t4:=Tryz.underlying4
 a4:=Tryz.isAgg4
 z4:=Tryz.sizeOf4
 v4:=Tryz.zeroValue4
 t5:=Tryz.underlying5
 a5:=Tryz.isAgg5
 z5:=Tryz.sizeOf5
 v5:=Tryz.zeroValue5
 t9:=Tryz.underlying9
 a9:=Tryz.isAgg9
 z9:=Tryz.sizeOf9
 v9:=Tryz.zeroValue9
 t22:=Tryz.underlying29
 a22:=Tryz.isAgg29
 z22:=Tryz.sizeOf29
 v22:=Tryz.zeroValue29
 t25:=Tryz.underlying102
 a25:=Tryz.isAgg102
 z25:=Tryz.sizeOf102
 v25:=Tryz.zeroValue102
 t39:=Tryz.underlying120
 a39:=Tryz.isAgg120
 z39:=Tryz.sizeOf120
 v39:=Tryz.zeroValue120
 t45:=Tryz.underlying142
 a45:=Tryz.isAgg142
 z45:=Tryz.sizeOf142
 v45:=Tryz.zeroValue142
 t46:=Tryz.underlying143
 a46:=Tryz.isAgg143
 z46:=Tryz.sizeOf143
 v46:=Tryz.zeroValue143
 t50:=Tryz.underlying147
 a50:=Tryz.isAgg147
 z50:=Tryz.sizeOf147
 v50:=Tryz.zeroValue147
 t53:=Tryz.underlying150
 a53:=Tryz.isAgg150
 z53:=Tryz.sizeOf150
 v53:=Tryz.zeroValue150
 t55:=Tryz.underlying152
 a55:=Tryz.isAgg152
 z55:=Tryz.sizeOf152
 v55:=Tryz.zeroValue152
 t66:=Tryz.underlying188
 a66:=Tryz.isAgg188
 z66:=Tryz.sizeOf188
 v66:=Tryz.zeroValue188
 t70:=Tryz.underlying192
 a70:=Tryz.isAgg192
 z70:=Tryz.sizeOf192
 v70:=Tryz.zeroValue192
 t76:=Tryz.underlying223
 a76:=Tryz.isAgg223
 z76:=Tryz.sizeOf223
 v76:=Tryz.zeroValue223
 t77:=Tryz.underlying173
 a77:=Tryz.isAgg173
 z77:=Tryz.sizeOf173
 v77:=Tryz.zeroValue173
def Tryz.laysGrow40_ren:Go.Shelf.Ren:=⟨fun|4=>40|n=>n,fun|22=>22|25=>55|3=>3|4=>4|9=>9|20=>20|0=>0|n=>n,fun|n=>n⟩
theorem Tryz.laysGrow40:Go.Proofs.Lays8.n4 Tryz.prog Tryz.laysGrow40_ren where
 mixed:=by kernel_rfl
 f4:=⟨"slices.Grow[[]rivulet/api.Node,rivulet/api.Node]",by decide,Tryz.func40.trans (congrArg some (by kernel_rfl))⟩
 t0:=Tryz.underlying0
 a0:=Tryz.isAgg0
 z0:=Tryz.sizeOf0
 v0:=Tryz.zeroValue0
 t3:=Tryz.underlying3
 a3:=Tryz.isAgg3
 z3:=Tryz.sizeOf3
 v3:=Tryz.zeroValue3
 t4:=Tryz.underlying4
 a4:=Tryz.isAgg4
 z4:=Tryz.sizeOf4
 v4:=Tryz.zeroValue4
 t9:=Tryz.underlying9
 a9:=Tryz.isAgg9
 z9:=Tryz.sizeOf9
 v9:=Tryz.zeroValue9
 t20:=Tryz.underlying20
 a20:=Tryz.isAgg20
 z20:=Tryz.sizeOf20
 v20:=Tryz.zeroValue20
 t22:=Tryz.underlying22
 a22:=Tryz.isAgg22
 z22:=Tryz.sizeOf22
 v22:=Tryz.zeroValue22
def Tryz.laysCompare_ren:Go.Shelf.Ren:=⟨fun|106=>98|213=>142|265=>170|n=>n,fun|9=>9|3=>3|n=>n,fun|n=>n⟩
theorem Tryz.laysCompare:Go.Proofs.Lays.n106 Tryz.prog Tryz.laysCompare_ren where
 mixed:=by kernel_rfl
 f106:=Tryz.func98.trans (congrArg some (by kernel_rfl))
 f213:=Tryz.func142.trans (congrArg some (by kernel_rfl))
 f265:=Tryz.func170.trans (congrArg some (by kernel_rfl))
 t3:=Tryz.underlying3
 a3:=Tryz.isAgg3
 z3:=Tryz.sizeOf3
 v3:=Tryz.zeroValue3
 t9:=Tryz.underlying9
 a9:=Tryz.isAgg9
 z9:=Tryz.sizeOf9
 v9:=Tryz.zeroValue9
def F.c1 (e f:ByteArray):Option Int:=some (Lib.compareBytes e.data.toList f.data.toList)
theorem o_aB (e f:ByteArray)(h0:e.size≤maxLen)(h1:f.size≤maxLen)(r:Int)(h:F.c1 e f=some r):
  A.Ct Tryz.prog 98 [.string e,.string f] [] [] (fun v H'=>v=A.i r∧H'=[]∧A.h6 r):=
 A.Ct.scmp Tryz.laysCompare rfl e f r h
end Go.Proofs.YtlhiofnikdppeaaGreatDoor
end
section
namespace Go.Proofs.YtlhiofnikdppeaaGreatDoor
open Go.RowKit
variable(A0_ A1_ A2_ A3_ A4_ A5_ A6_ A7_ A8_ A10_ A12_ A13_ A17_:Option Addr)(b0_ g0_ b1_ c1_ c2_ g2_ c3_ b4_ c4_ b5_ c5_ b6_ c6_ c7_ c8_ c9_ g10_ c11_ c13_ c14_ c18_:Nat)
def F.eU (e:Int):Option (Int×Int):=if e=2 then(some (1,8))else(if e=3 then(some (11,13))else(if e=4 then(some (21,22))else(if e=8 then(some (31,34))else(if e=11 then(some (41,42))else(some (0,-1))))))
theorem o_aS (f:Int)(k:A.h6 f)(r:Int×Int)(e:F.eU f=some r):
    A.Ct Tryz.prog 137 [A.i f] [] [] (fun v H'=>v=.tuple #[A.i r.1,A.i r.2]∧H'=[]∧A.h6 r.1∧A.h6 r.2):=by
 refine Jg Tryz.func137 rfl Tryz.ntmps137 rfl fun o p=>?_;rw[F.eU]at e;refine Jc 1 ?_;refine Ji 2 [] (Jk 3 ?_);refine Ji 1 [(4,A.i f)] (Jk 3 ?_);refine Ji 2 [(5,.bool (decide (f=2)))] (Jd 1 ?_);refine J9 e ?_ ?_<;>intro h e
 ·refine Jc 1 ?_;refine Ji 2 [(2,A.i 1),(3,A.i 8)] (Jd 1 ?_);obtain rfl:=Jm e;exact Vm [] ⟨rfl,rfl,(Jn .i64 (1) rfl),(Jn .i64 (8) rfl)⟩
 refine Jc 1 ?_;refine Ji 2 [(7,.bool (decide (f=3)))] (Jd 1 ?_);refine J9 e ?_ ?_<;>intro h e
 ·refine Jc 1 ?_;refine Ji 2 [(2,A.i 11),(3,A.i 13)] (Jd 1 ?_);obtain rfl:=Jm e;exact Vm [] ⟨rfl,rfl,(Jn .i64 (11) rfl),(Jn .i64 (13) rfl)⟩
 refine Jc 1 ?_;refine Ji 2 [(9,.bool (decide (f=4)))] (Jd 1 ?_);refine J9 e ?_ ?_<;>intro h e
 ·refine Jc 1 ?_;refine Ji 2 [(2,A.i 21),(3,A.i 22)] (Jd 1 ?_);obtain rfl:=Jm e;exact Vm [] ⟨rfl,rfl,(Jn .i64 (21) rfl),(Jn .i64 (22) rfl)⟩
 refine Jc 1 ?_;refine Ji 2 [(11,.bool (decide (f=8)))] (Jd 1 ?_);refine J9 e ?_ ?_<;>intro h e
 ·refine Jc 1 ?_;refine Ji 2 [(2,A.i 31),(3,A.i 34)] (Jd 1 ?_);obtain rfl:=Jm e;exact Vm [] ⟨rfl,rfl,(Jn .i64 (31) rfl),(Jn .i64 (34) rfl)⟩
 refine Jc 1 ?_;refine Ji 2 [(13,.bool (decide (f=11)))] (Jd 1 ?_);refine J9 e ?_ ?_<;>intro h e
 ·refine Jc 1 ?_;refine Ji 2 [(2,A.i 41),(3,A.i 42)] (Jd 1 ?_);obtain rfl:=Jm e;exact Vm [] ⟨rfl,rfl,(Jn .i64 (41) rfl),(Jn .i64 (42) rfl)⟩
 refine Jc 4 ?_;refine Ji 2 [(2,A.i 0),(3,A.i (-1))] (Jd 1 ?_);obtain rfl:=Jm e;exact Vm [] ⟨rfl,rfl,Js,(Jn .i64 (-1) rfl)⟩
def F.fe (e:Int):Option (Int×Int):=(F.eU e).bind fun f=>(some f)
theorem o_bu (e:Int)(p:A.h6 e)(r:(Int×Int))(f:F.fe e=some r):
    A.Ct Tryz.prog 138 [A.i e] [] [] (fun v H'=>∃(g0':Nat) (g1':Nat),v=.func (.func 167) #[] #[.pointer (some ⟨g0',0,none⟩),.pointer (some ⟨g1',0,none⟩)]∧H'=[(0,.blk g0' 3 [A.i r.1]),(1,.blk g1' 3 [A.i r.2])]∧A.h6 r.1∧A.h6 r.2):=by
 refine Jg Tryz.func138 rfl Tryz.ntmps138 rfl fun s u=>?_;rw[F.fe]at f;refine Jc 1 ?_;refine Ji 1 [] (Jk 2 ?_);refine Ji 1 [(6,A.i e)] ?_;refine Va 0 [] f (o_aS e p) .nil ?_;rintro h - f _ _ ⟨rfl,rfl,hr3,hr4⟩;refine Jq ?_;refine Ji 3 [(8,A.i h.1),(9,A.i h.2)] ?_;refine Jh 40 (cs:=[A.i 0]) Tryz.zeroValue3 fun k=>?_;refine Jh 41 (cs:=[A.i 0]) Tryz.zeroValue3 fun o=>?_;refine Jw 40 [] [A.i h.1] ?_;refine Jw 41 [] [A.i h.2] ?_;refine Jk 2 ?_;refine Ji 2 [(2,.func (.func 167) #[] #[.pointer (some ⟨k,0,none⟩),.pointer (some ⟨o,0,none⟩)])] (Jd 1 ?_);obtain rfl:=Jm f;exact Jo [(0,40),(1,41)] ⟨k,o,rfl,rfl,hr3,hr4⟩
def F.c4 (e:D40)(f:Bool):Option Bool:=if f=true then(some (bif decide ((1:Int)≤e.2.1)then decide (e.2.1≤1048576)else false))else(some (decide (e.2.1=0)))
def F.c5 (e:D40)(f:Bool):Option Bool:=if f=true then(some (bif decide ((0:Int)≤e.2.1)then decide (e.2.1≤64)else false))else(if e.1=6 then(F.c4 e (decide (e.1=6)))else(F.c4 e (decide (e.1=11))))
def F.eb (e:D40):Option Bool:=if e.1=3 then(F.c5 e (decide (e.1=3)))else(F.c5 e (decide (e.1=13)))
theorem o_bh (e:D40)(u:A.h6 e.1)(x:A.h6 e.2.1)(y:e.2.2.size≤maxLen)(r:Bool)(f:F.eb e=some r):
    A.Ct Tryz.prog 139 [.agg #[A.i e.1,A.i e.2.1,.string e.2.2]] [] [] (fun v H'=>v=.bool r∧H'=[]):=by
 refine Jg Tryz.func139 rfl Tryz.ntmps139 rfl fun z B=>?_;rw[F.eb]at f;refine Jc 1 ?_;refine Jl 0 (cs:=[A.i e.1,A.i e.2.1,.string e.2.2]) fun E=>?_;refine Ji 1 [] (Jk 3 ?_);refine Jf [0] [] [.n,.b 0 0] [(4,A.i e.1)] (Jd 2 ?_);refine Jp [1,4] [0] (fun h k=>∃(o:Bool),h=[(5,.bool o)]∧k=[]∧F.c5 e o=some r) ?_ ?_
 ·refine Jc 1 ?_;refine Ji 2 [(5,.bool (decide (e.1=3)))] (Jd 1 ?_);refine J9 f ?_ ?_<;>intro p f
  ·refine Vi 1 ?_;exact J2 ⟨(decide (e.1=3)),rfl,rfl,f⟩
  refine Jc 0 ?_;refine Ji 2 [(5,.bool (decide (e.1=13)))] (Je ?_);exact J2 ⟨(decide (e.1=13)),rfl,rfl,f⟩
 rintro _ _ ⟨o,rfl,rfl,f⟩;rw[F.c5]at f;refine V0 f ?_ ?_<;>intro p f
 ·refine Jc 1 ?_;refine Jf [0] [] [.n,.b 0 1,.n,.n,.sy .n,.sy (.b 0 1),.sy .n,.pk,.n] [(2,.bool (bif decide ((0:Int)≤e.2.1)then decide (e.2.1≤64)else false))] (Jd 1 ?_);obtain rfl:=Jm f;exact Jo [] ⟨rfl,rfl⟩
 refine Jp [1] [0] (fun h k=>∃(s:Bool),h=[(16,.bool s)]∧k=[]∧F.c4 e s=some r) ?_ ?_
 ·refine Jc 1 ?_;refine Ji 2 [(16,.bool (decide (e.1=6)))] (Jd 1 ?_);refine J9 f ?_ ?_<;>intro p f
  ·refine Vi 1 ?_;exact J2 ⟨(decide (e.1=6)),rfl,rfl,f⟩
  refine Jc 0 ?_;refine Ji 2 [(16,.bool (decide (e.1=11)))] (Je ?_);exact J2 ⟨(decide (e.1=11)),rfl,rfl,f⟩
 rintro _ _ ⟨s,rfl,rfl,f⟩;rw[F.c4]at f;refine V0 f ?_ ?_<;>intro p f
 ·refine Jc 1 ?_;refine Jf [0] [] [.n,.b 0 1,.n,.n,.sy .n,.sy (.b 0 1),.sy .n,.pk,.n] [(2,.bool (bif decide ((1:Int)≤e.2.1)then decide (e.2.1≤1048576)else false))] (Jd 1 ?_);obtain rfl:=Jm f;exact Jo [] ⟨rfl,rfl⟩
 refine Jc 4 ?_;refine Jf [0] [] [.n,.b 0 1,.n,.n] [(2,.bool (decide (e.2.1=0)))] (Jd 1 ?_);obtain rfl:=Jm f;exact Jo [] ⟨rfl,rfl⟩
def F.cr (e:Bool):Option Bool:=some e
def F.b6 (e:ByteArray):Nat→Nat→Int→Option Bool
 |0,_,_=>none
 |f+1,h,k=>if h<e.size then(A.gd (Z.R64 (k+1)) ((F.b6 e f) (h+(Utf8.decode e h).2) (k+1)))else(if k=1 then((F.aJ e).bind fun o=>(F.cr o))else(F.cr false))
def F.ec (e:ByteArray):Option Bool:=F.b6 e A.FU 0 0
theorem o_bi (h:ByteArray)(E:h.size≤maxLen)(r:Bool)(e:F.ec h=some r):
    A.Ct Tryz.prog 168 [.string h] [(0,.el none 0 0 A.tabF),(1,.el none 1 0 A.tabA)] [] (fun v H'=>v=.bool r∧H'=[]):=by
 refine Jg Tryz.func168 rfl Tryz.ntmps168 rfl fun N O=>?_;rw[F.ec]at e;refine Jc 1 ?_;refine Ji 1 [] (Jk 2 ?_);refine Ji 1 [(3,A.i 0)] (Jk 3 ?_);refine Ji 1 [(4,.string h)] ?_;refine A.AL.rgs 2 fun I=>?_;refine Jd 2 ?_;refine J3 [0,5] l2h (fun f p u=>∃(o:Nat),∃(k:Int),p=[(3,A.i k)]∧u=[(2,.si I h o)]∧A.h6 k∧F.b6 h f o k=some r) ⟨0,0,rfl,rfl,Js,e⟩ ?_;rintro y _ _ ⟨o,k,rfl,rfl,U,e⟩;rcases y with _|y
 ·exact J1 e
 rw[F.b6]at e;refine Jc 1 ?_;refine A.AL.nxs 2 [] e (fun hb6 e=>?_) (fun L e=>?_)
 ·refine Ji 1 [(7,.bool true)] (Jd 2 ?_);refine Vn rfl ?_;refine Jc 3 ?_;have⟨z,e⟩:=Ve e;refine Vy 3 [Z.R64 (k+1)] [(3,A.i (k+1))] z (V4 1 ?_);exact J2 ⟨_,Ql _,⟨(o+(Utf8.decode h o).2),(k+1),rfl,rfl,(Jj z),e⟩⟩
 refine Ji 1 [(7,.bool false)] (Jd 2 ?_);refine Vk rfl ?_;refine V5 2 ?_;refine Jp [] l2h (fun p u=>∃(x:Bool),p=[(2,.bool x)]∧u=[]∧F.cr x=some r) ?_ ?_
 ·refine Jc 0 ?_;refine Ji 3 [(12,.bool (decide (k=1)))] ?_;refine Vu (j:=12) rfl e ?_ ?_<;>intro L e
  ·refine Jf [] [] [.on .n] [(13,.string h)] ?_;refine J5 (dj:=12) rfl rfl ?_;refine Va 83 [] e (o_m h E) (.s 0 (.s 1 .nil)) ?_;rintro B - e _ _ ⟨rfl,rfl⟩;refine Jq ?_;refine Ji 2 [(2,.bool B)] (Je ?_);exact J2 ⟨B,rfl,rfl,e⟩
  refine Jf [] [] [.off,.off,.n,.n] [(2,.bool false)] (Je ?_);exact J2 ⟨false,rfl,rfl,e⟩
 rintro _ _ ⟨x,rfl,rfl,e⟩;rw[F.cr]at e;obtain rfl:=Jm e;exact Jo [] ⟨rfl,rfl⟩
def F.dM (e:Bool):Option Bool:=some e
def F.dN (e:D40)(f:Bool):Option Bool:=if f=true then((F.ec e.2.2).bind fun h=>(some h))else(some (decide (e.2.2=(ByteArray.mk #[]))))
def F.eV (e:D40):Option Bool:=if e.1=5 then(if(bif decide (e.2.2≠(ByteArray.mk #[]))then decide ((e.2.2.size:Int)≤16)else false)=true then((F.aJ e.2.2).bind fun f=>(F.dM f))else(F.dM false))else(if e.1=12 then(F.dN e (decide (e.1=12)))else(F.dN e (decide (e.1=22))))
theorem o_bv (f:D40)(B:A.h6 f.1)(E:A.h6 f.2.1)(u:f.2.2.size≤maxLen)(r:Bool)(e:F.eV f=some r):
    A.Ct Tryz.prog 140 [.agg #[A.i f.1,A.i f.2.1,.string f.2.2]] [(0,.el none 0 0 A.tabF),(1,.el none 1 0 A.tabA)] [] (fun v H'=>v=.bool r∧H'=[]):=by
 refine Jg Tryz.func140 rfl Tryz.ntmps140 rfl fun I L=>?_;rw[F.eV]at e;refine Jc 1 ?_;refine Jl 2 (cs:=[A.i f.1,A.i f.2.1,.string f.2.2]) fun N=>?_;refine Ji 1 [] (Jk 3 ?_);refine Jf [2] [] [.n,.b 0 0] [(4,A.i f.1)] (Jk 3 ?_);refine Ji 2 [(5,.bool (decide (f.1=5)))] (Jd 1 ?_);refine J9 e ?_ ?_<;>intro x e
 ·refine Jp [] l2h (fun h k=>∃(o:Bool),h=[(2,.bool o)]∧k=[]∧F.dM o=some r) ?_ ?_
  ·refine Jc 0 ?_;refine Jf [2] [] [.n,.b 0 2,.n,.n,.sy .n,.sy (.b 0 2),.sy .n,.sy .n,.pk,.n] [(16,.bool (bif decide (f.2.2≠(ByteArray.mk #[]))then decide ((f.2.2.size:Int)≤16)else false))] ?_;refine J7 (j:=16) rfl e (fun e=>?_) (fun e=>?_)
   ·refine Jf [2] [] [.on .n,.on (.b 0 2)] [(18,.string f.2.2)] ?_;refine J5 (dj:=16) rfl rfl ?_;refine Va 3 [] e (o_m f.2.2 u) (.s 0 (.s 1 .nil)) ?_;rintro y - e _ _ ⟨rfl,rfl⟩;refine Jq ?_;refine Ji 2 [(2,.bool y)] (Je ?_);exact J2 ⟨y,rfl,rfl,e⟩
   refine Jf [] [] [.off,.off,.off,.n,.n] [(2,.bool false)] (Je ?_);exact J2 ⟨false,rfl,rfl,e⟩
  rintro _ _ ⟨o,rfl,rfl,e⟩;rw[F.dM]at e;obtain rfl:=Jm e;exact Jo [] ⟨rfl,rfl⟩
 refine Jp [1] l2g (fun h k=>∃(p:Bool),h=[(21,.bool p)]∧k=[]∧F.dN f p=some r) ?_ ?_
 ·refine Jc 1 ?_;refine Ji 2 [(21,.bool (decide (f.1=12)))] (Jd 1 ?_);refine J9 e ?_ ?_<;>intro x e
  ·refine Vi 1 ?_;exact J2 ⟨(decide (f.1=12)),rfl,rfl,e⟩
  refine Jc 0 ?_;refine Ji 2 [(21,.bool (decide (f.1=22)))] (Je ?_);exact J2 ⟨(decide (f.1=22)),rfl,rfl,e⟩
 rintro _ _ ⟨p,rfl,rfl,e⟩;rw[F.dN]at e;refine V0 e ?_ ?_<;>intro x e
 ·refine Jc 1 ?_;refine Jf [2] [] [.n,.b 0 2] [(25,.string f.2.2)] ?_;refine Va 43 [] e (o_bi f.2.2 u) (.s 0 (.s 1 .nil)) ?_;rintro z - e _ _ ⟨rfl,rfl⟩;refine Jq ?_;refine Ji 1 [(2,.bool z)] (Jd 1 ?_);obtain rfl:=Jm e;exact Jo [] ⟨rfl,rfl⟩
 refine Jc 4 ?_;refine Jf [2] [] [.n,.b 0 2,.n,.n] [(2,.bool (decide (f.2.2=(ByteArray.mk #[]))))] (Jd 1 ?_);obtain rfl:=Jm e;exact Jo [] ⟨rfl,rfl⟩
def F.c2 (h:Int):Nat→Int→Option (List Int)
 |0,_=>none
 |f+1,e=>if e≤h then(A.cns e (A.gd (Z.R64 (e+1)) ((F.c2 h f) (e+1))))else(some [])
def F.bD (e:Int)(f:Int):Option (List Int):=F.c2 f A.FU e
theorem o_aT(o:Int)(p:Int)(y:A.h6 o)(N:A.h6 p)(xs:List Int)(h:F.bD o p=some xs):
    A.Sq Tryz.prog 167 [.pointer (some ⟨g0_,0,none⟩),.pointer (some ⟨g2_,0,none⟩)] [(0,.el none g0_ 0 [A.i o]),(1,.el none g2_ 0 [A.i p])] A.ti (fun cs=>[Z.vof false cs]) xs:=by
 refine A.Sq.enter Tryz.func167 rfl Tryz.ntmps167 rfl fun lid z J Jx Φ hY hJ0=>?_;obtain⟨rs0,hrs⟩: ∃rs0,rs0=xs:=⟨_,rfl⟩
 have hR0:A.Rem xs 0 rs0:=hrs▸A.Rem.zero xs
 rw[F.bD,←hrs]at h
 clear hrs
 refine Jc 1 ?_;refine Jf [] [0] [.e 0 0,.n] [(4,A.i o)] (Jd 2 ?_);refine A.AX.loopC (A.CY 15 Φ) (0,z) [0,2] [1] [1] (fun f i B E=>∃(k:Int),∃(rs:List Int),B=[(4,A.i k)]∧E=[]∧A.h6 k∧J i.1 i.2∧A.Rem xs i.1 rs∧F.c2 p f k=some rs) A.FU [(4,A.i o)] [] ⟨o,_,rfl,rfl,y,hJ0,hR0,h⟩ ?_;rintro s ⟨I,O⟩ _ _ ⟨k,rs8,rfl,rfl,L,hJ6,hR7,h⟩;rcases s with _|s
 ·exact J1 h
 rw[F.c2]at h;refine Jc 2 ?_;refine Jf [] [1] [.n,.e 0 0,.n] [(8,.bool (decide (k≤p)))] (Jd 1 ?_);refine J9 h ?_ ?_<;>intro U h
 ·refine Jc 5 ?_;refine Ji 2 [(11,.func (.yield lid) #[] #[]),(12,A.i k)] ?_;obtain⟨rs9,hqrs9,h⟩:=A.cns_some h;refine A.AL.yield hY hJ6 (hqrs9▸hR7) [A.i k] ⟨rfl,L⟩ (fun u hJ11 hR12=>?_) (fun u hX13=>?_)
  ·refine Ji 1 [(14,.bool false)] (Jd 1 ?_);refine Vk rfl ?_;refine Jc 3 ?_;have⟨x,h⟩:=Ve h;refine Vy 3 [Z.R64 (k+1)] [(4,A.i (k+1))] x (Je ?_);exact A.AE.jC (I+1,u) [1] [(4,A.i (k+1))] [] ⟨_,Ql _,⟨(k+1),_,rfl,rfl,(Jj x),hJ11,hR12,h⟩⟩
  refine Ji 1 [(14,.bool true)] (Jd 1 ?_);refine Vn rfl ?_;exact A.AX.rtX hY hX13
 refine Vi 1 ?_;obtain rfl:=Jm h;exact A.AE.rtY hY hJ6 hR7
def F.cT (e:Option Int)(f:Bool):Option Int:=if f=true then(some 0)else(e)
def F.bb (e:D40):List Int→Option Int
 | []=>some 60
 |h::f=>if h=e.1 then((F.eb e).bind fun k=>(if k=true then((F.eV e).bind fun o=>(F.cT (F.bb e f) o))else(F.cT (F.bb e f) false)))else(F.cT (F.bb e f) false)
def F.cn (e:Int)(f:D40):Option Int:=(F.eU e).bind fun k=>(if k.2<0 then(if f≠(0,0,ByteArray.mk #[])then(some 60)else(some 0))else((F.fe e).bind fun h=>((F.bD h.1 h.2).bind fun o=>F.bb f o)))
theorem o_ak (h:Int)(f:D40)(I:A.h6 h)(L:A.h6 f.1)(N:A.h6 f.2.1)(O:f.2.2.size≤maxLen)(r:Int)(e:F.cn h f=some r):
    A.Ct Tryz.prog 96 [A.i h,.agg #[A.i f.1,A.i f.2.1,.string f.2.2]] [(0,.el none 0 0 A.tabF),(1,.el none 1 0 A.tabA)] [] (fun v H'=>v=A.i r∧H'=[]∧A.h6 r):=by
 refine Ua Tryz.func96 rfl Tryz.ntmps96 rfl fun w0 F0=>?_;rw[F.cn]at e;refine Jc 1 ?_;refine Jl 2 (cs:=[A.i f.1,A.i f.2.1,.string f.2.2]) fun g1=>?_;refine Jh 3 (cs:=[A.i 0]) Tryz.zeroValue33 fun g2=>?_;refine Jk 3 ?_;refine Ji 1 [(9,A.i h)] ?_;refine Va 4 [] e (o_aS h I) .nil ?_;rintro U - e _ _ ⟨rfl,rfl,hr5,hr6⟩;refine Jq ?_;refine Ji 5 [(6,A.i U.2)] (Jk 2 ?_);refine Ji 2 [(14,.bool (decide (U.2<0)))] (Jd 1 ?_);refine J9 e ?_ ?_<;>intro u e
 ·refine Jc 2 ?_;refine Jf [2] [] [.b 0 0,.n] [(15,.agg #[A.i f.1,A.i f.2.1,.string f.2.2]),(16,.agg #[A.i 0,A.i 0,.string (ByteArray.mk #[])])] ?_;refine A.AL.val rfl (fun a w hf hh=>eqagg_neq41 (x:=f) (y:=(0,0,ByteArray.mk #[])) (hf.eval rfl) (hf.eval rfl)) ?_;refine Jd 1 ?_;refine J9 e ?_ ?_<;>intro u e
  ·refine Jc 1 ?_;refine Jw 3 [] [A.i 60] ?_;refine Jd 1 ?_;obtain rfl:=Jm e;exact Vq (Ds:=[]) [] [] (A.i 60) (trivial) (fun a w hf hh=>Vt rfl (Vs hf rfl Tryz.isAgg33 (Jv hh 3))) (⟨rfl,rfl,(Jn .i64 (60) rfl)⟩)
  refine Jc 3 ?_;refine Jw 3 [] [A.i 0] ?_;refine Jd 1 ?_;obtain rfl:=Jm e;exact Vq (Ds:=[]) [] [] (A.i 0) (trivial) (fun a w hf hh=>Vt rfl (Vs hf rfl Tryz.isAgg33 (Jv hh 3))) (⟨rfl,rfl,Js⟩)
 refine Jc 4 ?_;refine Ji 1 [(18,A.i h)] ?_;refine Va 44 [] e (o_bu h I) .nil ?_;rintro p - e _ _ ⟨V,W,rfl,rfl,hr10,hr12⟩;refine Jq ?_;refine Jd 2 ?_;have⟨z,a5,e⟩:=Vo e;refine A.AX.rgf 84 85 86 [0,1,2,3,44,45] [0,1,2,3,44,45] [85,84,0,1,2,3,44,45] (fun k B=>B=[]∧F.bb f (List.drop k z)=some r) [] cf167 (o_aT V W p.1 p.2 hr10 hr12 z a5) (fun _=>rfl) ⟨rfl,e⟩ ?_ ?_ ?_
 ·rintro X _ D15 L16 ⟨rfl,e⟩;exact⟨⟨_,(.b 44 (.b 45 .nil))⟩,rfl,fun o=>rfl⟩
 ·rintro X _ a2 D15 L16 a7 a8 ⟨rfl,e⟩ hx23 hxo24 a3;rw[Ue hx23,F.bb]at e
  refine Jc 0 ?_;refine Ji 1 [(7,A.i a2)] (Je ?_);refine Uf 84 85 fun a9=>?_;refine V5 1 ?_;refine Jp [3,4] [0,1,2,3,44,45,84,85] (fun nl B=>∃(E:Bool),nl=[(32,.bool E)]∧B=[]∧F.cT (F.bb f (List.drop (X+1) z)) E=some r) ?_ ?_
  ·refine Jc 0 ?_;refine Jf [2] [] [.n,.n,.b 0 0,.n,.n] [(25,.bool (decide (a2=f.1)))] ?_;refine Vu (j:=25) rfl e ?_ ?_<;>intro u e
   ·refine Jf [2] [] [.on (.b 0 0)] [(26,.agg #[A.i f.1,A.i f.2.1,.string f.2.2])] ?_;refine J5 (dj:=25) rfl rfl ?_;refine Va 167 [] e (o_bh f L N O) .nil ?_;rintro a6 - e _ _ ⟨rfl,rfl⟩;refine Jq ?_;refine Ji 2 [(29,.bool a6)] ?_;refine J7 (j:=29) rfl e (fun e=>?_) (fun e=>?_)
    ·refine Jf [2] [] [.on (.b 0 0)] [(30,.agg #[A.i f.1,A.i f.2.1,.string f.2.2])] ?_;refine J5 (dj:=29) rfl rfl ?_;refine Va 207 [] e (o_bv f L N O) (.s 0 (.s 1 .nil)) ?_;rintro a4 - e _ _ ⟨rfl,rfl⟩;refine Jq ?_;refine Ji 1 [(32,.bool a4)] (Je ?_);exact J2 ⟨a4,rfl,rfl,e⟩
    refine Jf [] [] [.off,.off,.n] [(32,.bool false)] (Je ?_);exact J2 ⟨false,rfl,rfl,e⟩
   refine Jf [] [] [.off,.off,.n,.n,.off,.off,.n] [(32,.bool false)] (Je ?_);exact J2 ⟨false,rfl,rfl,e⟩
  rintro _ _ ⟨E,rfl,rfl,e⟩;rw[F.cT]at e;refine V0 e ?_ ?_<;>intro u e
  ·refine Jc 1 ?_;refine Jw 3 [] [A.i 0] ?_;refine Jd 1 ?_;refine A.AX.bret a3 [85,2,3,44,45,84] 100000 [(85,100085),(2,100002),(3,100003),(44,100044),(45,100045),(84,100084),(0,0),(1,1)] [(2,.blk g1 41 [A.i f.1,A.i f.2.1,.string f.2.2]),(3,.blk g2 33 [A.i 0]),(44,.blk V 3 [A.i p.1]),(45,.blk W 3 [A.i p.2]),(84,.ob D15 A.dfT),(0,.el none 0 0 A.tabF),(1,.el none 1 0 A.tabA)] ?_ rfl rfl
   obtain rfl:=Jm e;exact A.AE.rtM (Ds:=[D15]) [84] [] (A.i 0) (⟨rfl,trivial⟩) (fun a w hf hh=>Vt rfl (Vs hf rfl Tryz.isAgg33 (Jv hh 3))) (⟨rfl,rfl,Js⟩)
  refine Vi 2 ?_;exact A.AE.bn a3 [85,84,2,3,44,45] 100000 [(85,100085),(84,100084),(0,0),(1,1),(2,100002),(3,100003),(44,100044),(45,100045)] [] ⟨rfl,e⟩ rfl rfl
 rintro _ D15 L16 ⟨rfl,e⟩;rw[X2,F.bb]at e
 refine A.el 3 ?_;refine Jw 3 [] [A.i 60] ?_;refine Jd 1 ?_;obtain rfl:=Jm e;exact Vq (Ds:=[D15]) [84] [] (A.i 60) (⟨rfl,trivial⟩) (fun a w hf hh=>Vt rfl (Vs hf rfl Tryz.isAgg33 (Jv hh 3))) (⟨rfl,rfl,(Jn .i64 (60) rfl)⟩)
def F.bt (e:Bool):Option Bool:=some e
def F.bu (e:Bool):Option Bool:=some e
def F.bv (e:Bool):Option Bool:=some e
def F.cf (e:D42):Option Bool:=if e.2.2.1=1 then(if e.2.2.2.1=0 then(F.bt (decide (e.2.2.2.2=(0,0,ByteArray.mk #[]))))else(F.bt false))else(if e.2.2.1=2 then(if(bif decide ((0:Int)≤e.2.2.2.1)then decide (e.2.2.2.1≤1048576)else false)=true then(F.bu (decide (e.2.2.2.2=(0,0,ByteArray.mk #[]))))else(F.bu false))else(if e.2.2.1=3 then(if e.2.2.2.1=0 then((F.cn 2 e.2.2.2.2).bind fun f=>(F.bv (decide (f=0))))else(F.bv false))else(some false)))
theorem o_aL (e:D42)(N:A.h6 e.1)(O:A.h6 e.2.1)(U:A.h6 e.2.2.1)(V:A.h6 e.2.2.2.1)(E:A.h6 e.2.2.2.2.1)(I:A.h6 e.2.2.2.2.2.1)(L:e.2.2.2.2.2.2.size≤maxLen)(r:Bool)(f:F.cf e=some r):
    A.Ct Tryz.prog 69 [.agg #[A.i e.1,A.i e.2.1,A.i e.2.2.1,A.i e.2.2.2.1,A.i e.2.2.2.2.1,A.i e.2.2.2.2.2.1,.string e.2.2.2.2.2.2]] [(0,.el none 0 0 A.tabF),(1,.el none 1 0 A.tabA)] [] (fun v H'=>v=.bool r∧H'=[]):=by
 refine Jg Tryz.func69 rfl Tryz.ntmps69 rfl fun W X=>?_;rw[F.cf]at f;refine Jc 1 ?_;refine Jl 2 (cs:=[A.i e.1,A.i e.2.1,A.i e.2.2.1,A.i e.2.2.2.1,A.i e.2.2.2.2.1,A.i e.2.2.2.2.2.1,.string e.2.2.2.2.2.2]) fun g1=>?_;refine Ji 1 [] (Jk 3 ?_);refine Jf [2] [] [.n,.b 0 2] [(4,A.i e.2.2.1)] (Jk 3 ?_);refine Ji 2 [(5,.bool (decide (e.2.2.1=1)))] (Jd 1 ?_);refine J9 f ?_ ?_<;>intro o f
 ·refine Jp [] l2h (fun h k=>∃(p:Bool),h=[(2,.bool p)]∧k=[]∧F.bt p=some r) ?_ ?_
  ·refine Jc 0 ?_;refine Jf [2] [] [.n,.b 0 3,.n,.n] [(10,.bool (decide (e.2.2.2.1=0)))] ?_;refine Vu (j:=10) rfl f ?_ ?_<;>intro o f
   ·refine Jf [2] [] [.on .n,.on (.b 0 4),.on .n] [(12,.agg #[A.i e.2.2.2.2.1,A.i e.2.2.2.2.2.1,.string e.2.2.2.2.2.2]),(13,.agg #[A.i 0,A.i 0,.string (ByteArray.mk #[])])] ?_;refine J5 (dj:=10) rfl rfl ?_;refine A.AL.val rfl (fun a w hf hh=>eqagg_eql41 (x:=e.2.2.2.2) (y:=(0,0,ByteArray.mk #[])) (hf.eval rfl) (hf.eval rfl)) ?_;refine Ji 2 [(2,.bool (decide (e.2.2.2.2=(0,0,ByteArray.mk #[]))))] (Je ?_);exact J2 ⟨(decide (e.2.2.2.2=(0,0,ByteArray.mk #[]))),rfl,rfl,f⟩
   refine Jf [] [] [.off,.off,.off,.off,.n,.n] [(2,.bool false)] (Je ?_);exact J2 ⟨false,rfl,rfl,f⟩
  rintro _ _ ⟨p,rfl,rfl,f⟩;rw[F.bt]at f;obtain rfl:=Jm f;exact Jo [] ⟨rfl,rfl⟩
 refine Jc 1 ?_;refine Ji 2 [(16,.bool (decide (e.2.2.1=2)))] (Jd 1 ?_);refine J9 f ?_ ?_<;>intro o f
 ·refine Jp [] l2h (fun h k=>∃(u:Bool),h=[(2,.bool u)]∧k=[]∧F.bu u=some r) ?_ ?_
  ·refine Jc 0 ?_;refine Jf [2] [] [.n,.b 0 3,.n,.n,.sy .n,.sy (.b 0 3),.sy .n,.pk,.n] [(26,.bool (bif decide ((0:Int)≤e.2.2.2.1)then decide (e.2.2.2.1≤1048576)else false))] ?_;refine J7 (j:=26) rfl f (fun f=>?_) (fun f=>?_)
   ·refine Jf [2] [] [.on .n,.on (.b 0 4),.on .n] [(28,.agg #[A.i e.2.2.2.2.1,A.i e.2.2.2.2.2.1,.string e.2.2.2.2.2.2]),(29,.agg #[A.i 0,A.i 0,.string (ByteArray.mk #[])])] ?_;refine J5 (dj:=26) rfl rfl ?_;refine A.AL.val rfl (fun a w hf hh=>eqagg_eql41 (x:=e.2.2.2.2) (y:=(0,0,ByteArray.mk #[])) (hf.eval rfl) (hf.eval rfl)) ?_;refine Ji 2 [(2,.bool (decide (e.2.2.2.2=(0,0,ByteArray.mk #[]))))] (Je ?_);exact J2 ⟨(decide (e.2.2.2.2=(0,0,ByteArray.mk #[]))),rfl,rfl,f⟩
   refine Jf [] [] [.off,.off,.off,.off,.n,.n] [(2,.bool false)] (Je ?_);exact J2 ⟨false,rfl,rfl,f⟩
  rintro _ _ ⟨u,rfl,rfl,f⟩;rw[F.bu]at f;obtain rfl:=Jm f;exact Jo [] ⟨rfl,rfl⟩
 refine Jc 1 ?_;refine Ji 2 [(32,.bool (decide (e.2.2.1=3)))] (Jd 1 ?_);refine J9 f ?_ ?_<;>intro o f
 ·refine Jp [] l2h (fun h k=>∃(z:Bool),h=[(2,.bool z)]∧k=[]∧F.bv z=some r) ?_ ?_
  ·refine Jc 0 ?_;refine Jf [2] [] [.n,.b 0 3,.n,.n] [(37,.bool (decide (e.2.2.2.1=0)))] ?_;refine Vu (j:=37) rfl f ?_ ?_<;>intro o f
   ·refine Jf [2] [] [.on .n,.on (.b 0 4)] [(39,.agg #[A.i e.2.2.2.2.1,A.i e.2.2.2.2.2.1,.string e.2.2.2.2.2.2])] ?_;refine J5 (dj:=37) rfl rfl ?_;refine Va 3 [] f (o_ak 2 e.2.2.2.2 (Jn .i64 (2) rfl) E I L) (.s 0 (.s 1 .nil)) ?_;rintro B - f _ _ ⟨rfl,rfl,hr7⟩;refine Jq ?_;refine Jf [] [] [.on .n,.n,.n] [(2,.bool (decide (B=0)))] (Je ?_);exact J2 ⟨(decide (B=0)),rfl,rfl,f⟩
   refine Jf [] [] [.off,.off,.off,.off,.n,.n] [(2,.bool false)] (Je ?_);exact J2 ⟨false,rfl,rfl,f⟩
  rintro _ _ ⟨z,rfl,rfl,f⟩;rw[F.bv]at f;obtain rfl:=Jm f;exact Jo [] ⟨rfl,rfl⟩
 refine Jc 4 ?_;refine Ji 1 [(2,.bool false)] (Jd 1 ?_);obtain rfl:=Jm f;exact Jo [] ⟨rfl,rfl⟩
def F.ck (e:D54):Option (ByteArray×Bool):=if e.2.1=16 then(some (ByteArray.mk #[102,114,101,115,104],true))else(if(bif decide (e.2.1=11)then decide (e.2.2.2.1.1=41)else false)=true then(some (ByteArray.mk #[116,111,116,97,108,47,111,110,101],true))else(if(bif decide (e.2.1=11)then decide (e.2.2.2.1.1=42)else false)=true then(some (ByteArray.mk #[116,111,116,97,108,47,115,105,122,101],true))else(some (ByteArray.mk #[],false))))
theorem o_aw(e:D54)(k:A.h6 e.1)(o:A.h6 e.2.1)(p:A.h6 e.2.2.2.1.1)(s:A.h6 e.2.2.2.1.2.1)(u:e.2.2.2.1.2.2.size≤maxLen)(x:e.2.2.2.2.1.size≤maxLen)(y:A.h6 e.2.2.2.2.2.1)(z:A.h6 e.2.2.2.2.2.2)(r:ByteArray×Bool)(f:F.ck e=some r):
    A.Ct Tryz.prog 70 [.agg #[A.i e.1,A.i e.2.1,.slice A2_ e.2.2.1.length c3_,A.i e.2.2.2.1.1,A.i e.2.2.2.1.2.1,.string e.2.2.2.1.2.2,.string e.2.2.2.2.1,A.i e.2.2.2.2.2.1,A.i e.2.2.2.2.2.2]] [(0,.sh A.TI [.slice A2_ e.2.2.1.length c3_] e.2.2.1)] [] (fun v H'=>v=.tuple #[.string r.1,.bool r.2]∧H'=[]∧r.1.size≤maxLen):=by
 refine Jg Tryz.func70 rfl Tryz.ntmps70 rfl fun B E=>?_;rw[F.ck]at f;refine Jc 1 ?_;refine Jl 1 (cs:=[A.i e.1,A.i e.2.1,.slice A2_ e.2.2.1.length c3_,A.i e.2.2.2.1.1,A.i e.2.2.2.1.2.1,.string e.2.2.2.1.2.2,.string e.2.2.2.2.1,A.i e.2.2.2.2.2.1,A.i e.2.2.2.2.2.2]) fun I=>?_;refine Ji 2 [] (Jk 4 ?_);refine Jf [1] [] [.n,.b 0 1,.n,.n] [(4,.bool (decide (e.2.1=16)))] (Jd 1 ?_);refine J9 f ?_ ?_<;>intro h f
 ·refine Jc 1 ?_;refine Ji 2 [(2,.string (ByteArray.mk #[102,114,101,115,104])),(3,.bool true)] (Jd 1 ?_);obtain rfl:=Jm f;exact Vm [] ⟨rfl,rfl,(V6 (ByteArray.mk #[102,114,101,115,104]) rfl)⟩
 refine Jc 1 ?_;refine Jf [1] [] [.n,.b 0 1,.n,.n,.sy .n,.sy .n,.sy (.b 0 3),.sy .n,.pk,.n] [(8,.bool (bif decide (e.2.1=11)then decide (e.2.2.2.1.1=41)else false))] (Jd 1 ?_);refine V0 f ?_ ?_<;>intro h f
 ·refine Jc 1 ?_;refine Ji 2 [(2,.string (ByteArray.mk #[116,111,116,97,108,47,111,110,101])),(3,.bool true)] (Jd 1 ?_);obtain rfl:=Jm f;exact Vm [] ⟨rfl,rfl,(V6 (ByteArray.mk #[116,111,116,97,108,47,111,110,101]) rfl)⟩
 refine Jc 1 ?_;refine Jf [1] [] [.n,.b 0 1,.n,.n,.sy .n,.sy .n,.sy (.b 0 3),.sy .n,.pk,.n] [(18,.bool (bif decide (e.2.1=11)then decide (e.2.2.2.1.1=42)else false))] (Jd 1 ?_);refine V0 f ?_ ?_<;>intro h f
 ·refine Jc 1 ?_;refine Ji 2 [(2,.string (ByteArray.mk #[116,111,116,97,108,47,115,105,122,101])),(3,.bool true)] (Jd 1 ?_);obtain rfl:=Jm f;exact Vm [] ⟨rfl,rfl,(V6 (ByteArray.mk #[116,111,116,97,108,47,115,105,122,101]) rfl)⟩
 refine Jc 4 ?_;refine Ji 2 [(2,.string (ByteArray.mk #[])),(3,.bool false)] (Jd 1 ?_);obtain rfl:=Jm f;exact Vm [] ⟨rfl,rfl,(V6 (ByteArray.mk #[]) rfl)⟩
def F.b1 (h:D54)(k:D54)(o:D42)(p:Bool):Option Int:=if p=true then(some 180)else((F.ck h).bind fun e=>((F.ck k).bind fun f=>(if(bif bif !e.2 then true else !f.2 then true else decide (e.1≠f.1))=true then(some 181)else(if(bif decide (o.2.2.1=2)then decide (e.1=(ByteArray.mk #[102,114,101,115,104]))else false)=true then(some 181)else(some 0)))))
def F.bX (f:D54)(h:D54)(e:D42):Option Int:=if(bif decide (e.1≠f.1)then true else decide (e.2.1≠h.1))=true then(F.b1 f h e true)else((F.cf e).bind fun k=>(F.b1 f h e (!k)))
theorem o_am(e:D54)(f:D54)(h:D42)(y:A.h6 e.1)(z:A.h6 e.2.1)(B:A.h6 e.2.2.2.1.1)(E:A.h6 e.2.2.2.1.2.1)(I:e.2.2.2.1.2.2.size≤maxLen)(L:e.2.2.2.2.1.size≤maxLen)(N:A.h6 e.2.2.2.2.2.1)(O:A.h6 e.2.2.2.2.2.2)(U:A.h6 f.1)(V:A.h6 f.2.1)(W:A.h6 f.2.2.2.1.1)(X:A.h6 f.2.2.2.1.2.1)(a3:f.2.2.2.1.2.2.size≤maxLen)(a4:f.2.2.2.2.1.size≤maxLen)(a5:A.h6 f.2.2.2.2.2.1)(a6:A.h6 f.2.2.2.2.2.2)(a7:A.h6 h.1)(a8:A.h6 h.2.1)(a9:A.h6 h.2.2.1)(aa:A.h6 h.2.2.2.1)(ab:A.h6 h.2.2.2.2.1)(ac:A.h6 h.2.2.2.2.2.1)(ad:h.2.2.2.2.2.2.size≤maxLen)(r:Int)(k:F.bX e f h=some r):
    A.Ct Tryz.prog 36 [.agg #[A.i e.1,A.i e.2.1,.slice A2_ e.2.2.1.length c3_,A.i e.2.2.2.1.1,A.i e.2.2.2.1.2.1,.string e.2.2.2.1.2.2,.string e.2.2.2.2.1,A.i e.2.2.2.2.2.1,A.i e.2.2.2.2.2.2],.agg #[A.i f.1,A.i f.2.1,.slice A12_ f.2.2.1.length c13_,A.i f.2.2.2.1.1,A.i f.2.2.2.1.2.1,.string f.2.2.2.1.2.2,.string f.2.2.2.2.1,A.i f.2.2.2.2.2.1,A.i f.2.2.2.2.2.2],.agg #[A.i h.1,A.i h.2.1,A.i h.2.2.1,A.i h.2.2.2.1,A.i h.2.2.2.2.1,A.i h.2.2.2.2.2.1,.string h.2.2.2.2.2.2]] [(0,.sh A.TI [.slice A2_ e.2.2.1.length c3_] e.2.2.1),(1,.sh A.TI [.slice A12_ f.2.2.1.length c13_] f.2.2.1),(2,.el none 0 0 A.tabF),(3,.el none 1 0 A.tabA)] [] (fun v H'=>v=A.i r∧H'=[]∧A.h6 r):=by
 refine Jg Tryz.func36 rfl Tryz.ntmps36 rfl fun w0 F0=>?_;rw[F.bX]at k;refine Jc 1 ?_;refine Jl 4 (cs:=[A.i e.1,A.i e.2.1,.slice A2_ e.2.2.1.length c3_,A.i e.2.2.2.1.1,A.i e.2.2.2.1.2.1,.string e.2.2.2.1.2.2,.string e.2.2.2.2.1,A.i e.2.2.2.2.2.1,A.i e.2.2.2.2.2.2]) fun g1=>?_;refine Jl 5 (cs:=[A.i f.1,A.i f.2.1,.slice A12_ f.2.2.1.length c13_,A.i f.2.2.2.1.1,A.i f.2.2.2.1.2.1,.string f.2.2.2.1.2.2,.string f.2.2.2.2.1,A.i f.2.2.2.2.2.1,A.i f.2.2.2.2.2.2]) fun g2=>?_;refine Jl 6 (cs:=[A.i h.1,A.i h.2.1,A.i h.2.2.1,A.i h.2.2.2.1,A.i h.2.2.2.2.1,A.i h.2.2.2.2.2.1,.string h.2.2.2.2.2.2]) fun g3=>?_;refine Ji 1 [] (Jd 2 ?_);refine Jp [3,4,5] [0,1,2,3,4,5,6] (fun nl nh=>∃(u:Bool),nl=[(27,.bool u)]∧nh=[]∧F.b1 e f h u=some r) ?_ ?_
 ·refine Jc 0 ?_;refine Jf [6,4,5] [] [.n,.b 0 0,.n,.b 1 0,.n,.n,.sy .n,.sy (.b 0 1),.sy .n,.sy (.b 2 0),.sy .n,.pk,.n] [(23,.bool (bif decide (h.1≠e.1)then true else decide (h.2.1≠f.1)))] ?_;refine J7 (j:=23) rfl k (fun k=>?_) (fun k=>?_)
  ·refine Jf [] [] [.off,.off,.off,.n] [(27,.bool true)] (Je ?_);exact J2 ⟨true,rfl,rfl,k⟩
  refine Jf [6] [] [.on (.b 0 0)] [(24,.agg #[A.i h.1,A.i h.2.1,A.i h.2.2.1,A.i h.2.2.2.1,A.i h.2.2.2.2.1,A.i h.2.2.2.2.2.1,.string h.2.2.2.2.2.2])] ?_;refine J5 (dj:=23) rfl rfl ?_;refine Va 7 [] k (o_aL h a7 a8 a9 aa ab ac ad) (.s 2 (.s 3 .nil)) ?_;rintro x - k _ _ ⟨rfl,rfl⟩;refine Jq ?_;refine Jf [] [] [.on .n,.n] [(27,.bool (!x))] (Je ?_);exact J2 ⟨(!x),rfl,rfl,k⟩
 rintro _ _ ⟨u,rfl,rfl,k⟩;rw[F.b1]at k;refine V0 k ?_ ?_<;>intro hb k
 ·refine Jc 1 ?_;refine Ji 1 [(6,A.i 180)] (Jd 1 ?_);obtain rfl:=Jm k;exact Jo [] ⟨rfl,rfl,(Jn .i64 (180) rfl)⟩
 refine Jc 3 ?_;refine Jf [4] [] [.b 0 0] [(29,.agg #[A.i e.1,A.i e.2.1,.slice A2_ e.2.2.1.length c3_,A.i e.2.2.2.1.1,A.i e.2.2.2.1.2.1,.string e.2.2.2.1.2.2,.string e.2.2.2.2.1,A.i e.2.2.2.2.2.1,A.i e.2.2.2.2.2.2])] ?_;refine Va 47 [] k (o_aw A2_ c3_ e y z B E I L N O) (.s 0 .nil) ?_;rintro o - k _ _ ⟨rfl,rfl,hr7⟩;refine Jq ?_;refine Ji 5 [(7,.string o.1),(8,.bool o.2)] (Jk 2 ?_);refine Jf [5] [] [.b 0 0] [(34,.agg #[A.i f.1,A.i f.2.1,.slice A12_ f.2.2.1.length c13_,A.i f.2.2.2.1.1,A.i f.2.2.2.1.2.1,.string f.2.2.2.1.2.2,.string f.2.2.2.2.1,A.i f.2.2.2.2.2.1,A.i f.2.2.2.2.2.2])] ?_;refine Va 87 [] k (o_aw A12_ c13_ f U V W X a3 a4 a5 a6) (.s 1 .nil) ?_;rintro p - k _ _ ⟨rfl,rfl,hr10⟩;refine Jq ?_;refine Ji 5 [(9,.string p.1),(10,.bool p.2)] (Jk 3 ?_);refine Jf [] [] [.n,.n,.n,.sy .n,.sy .n,.pk,.n,.sy .n,.sy .n,.sy .n,.pk,.n] [(49,.bool (bif bif !o.2 then true else !p.2 then true else decide (o.1≠p.1)))] ?_;refine J7 (j:=49) rfl k (fun k=>?_) (fun k=>?_)
 ·refine Jf [] [] [.off,.off,.off,.off,.off,.off,.off,.n] [(57,.bool true)] (Jd 1 ?_);refine Vn rfl ?_;refine Jc 1 ?_;refine Ji 1 [(6,A.i 181)] (Jd 1 ?_);obtain rfl:=Jm k;exact Jo [] ⟨rfl,rfl,(Jn .i64 (181) rfl)⟩
 refine Jf [6] [] [.on .n,.on (.b 0 2),.on .n,.on .n,.sy .n,.sy .n,.on .pk,.n] [(57,.bool (bif decide (h.2.2.1=2)then decide (o.1=(ByteArray.mk #[102,114,101,115,104]))else false))] (Jd 1 ?_);refine V0 k ?_ ?_<;>intro hb k
 ·refine Jc 1 ?_;refine Ji 1 [(6,A.i 181)] (Jd 1 ?_);obtain rfl:=Jm k;exact Jo [] ⟨rfl,rfl,(Jn .i64 (181) rfl)⟩
 refine Jc 3 ?_;refine Ji 1 [(6,A.i 0)] (Jd 1 ?_);obtain rfl:=Jm k;exact Jo [] ⟨rfl,rfl,Js⟩
def F.bP (h:(List Int)):Nat→Int→Option Int
 |0,_=>none
 |f+1,e=>if e<(h.length:Int)then((A.ix h e).bind fun k=>(if k≠0 then(some k)else(A.gd (Z.R64 (e+1)) ((F.bP h f) (e+1)))))else(some 0)
def F.cJ (e:(List Int)):Option Int:=F.bP e A.FU 0
theorem o_ax(o:(List Int))(r:Int)(h:F.cJ o=some r):
    A.Ct Tryz.prog 51 [.slice A0_ o.length c1_] [(0,.ln A.ti A0_ c1_ o)] [] (fun v H'=>v=A.i r∧H'=[]∧A.h6 r):=by
 refine Jg Tryz.func51 rfl Tryz.ntmps51 rfl fun I L=>?_;rw[F.cJ]at h;refine Jc 1 ?_;refine Ji 1 [] (Jk 2 ?_);refine Ji 1 [(3,A.i 0)] (Jk 3 ?_);refine Ji 3 [(6,.slice A0_ o.length c1_),(7,A.i (o.length:Int)),(8,A.i 0)] (Jd 2 ?_);refine J3 [3,6,7] [0] (fun f x y=>∃(k:Int),x=[(8,A.i k)]∧y=[]∧A.h6 k∧F.bP o f k=some r) ⟨0,rfl,rfl,Js,h⟩ ?_;rintro s _ _ ⟨k,rfl,rfl,N,h⟩;rcases s with _|s
 ·exact J1 h
 rw[F.bP]at h;refine Jc 1 ?_;refine Ji 1 [(9,.bool (decide (k<(o.length:Int))))] (Jd 2 ?_);refine J9 h ?_ ?_<;>intro z h
 ·refine Jc 5 ?_;have⟨p,B,h⟩:=Vo h;refine Vv 0 3 B fun E=>?_;intro O U;refine Jf [] [3] [.e 0 0,.n] [(5,A.i p)] (Jk 2 ?_);refine Ji 3 [(14,.bool (decide (p≠0)))] (Jd 1 ?_);refine J9 h ?_ ?_<;>intro z h
  ·refine Jc 1 ?_;refine Ji 2 [(2,A.i p)] (Jd 1 ?_);obtain rfl:=Jm h;exact Jo [] ⟨rfl,rfl,E⟩
  refine Jc 3 ?_;have⟨u,h⟩:=Ve h;refine Vy 2 [Z.R64 (k+1)] [(8,A.i (k+1))] u (Je ?_);exact J2 ⟨_,Ql _,⟨(k+1),rfl,rfl,(Jj u),h⟩⟩
 refine Jc 3 ?_;refine Ji 2 [(2,A.i 0)] (Jd 1 ?_);obtain rfl:=Jm h;exact Jo [] ⟨rfl,rfl,Js⟩
def F.cl (e:Int):Option Bool:=some (decide (e≠e))
theorem o_ac (e:Int)(h:A.h6 e)(r:Bool)(f:F.cl e=some r):
    A.Ct Tryz.prog 84 [A.i e] [] [] (fun v H'=>v=.bool r∧H'=[]):=by
 refine Jg Tryz.func84 rfl Tryz.ntmps84 rfl fun k o=>?_;rw[F.cl]at f;refine Jc 1 ?_;refine Ji 1 [] (Jk 2 ?_);refine Ji 4 [(2,.bool (decide (e≠e)))] (Jd 1 ?_);obtain rfl:=Jm f;exact Jo [] ⟨rfl,rfl⟩
def F.bk (e:Int)(f:Int):Option Int:=(F.cl e).bind fun k=>((F.cl f).bind fun h=>(if k=true then(if h=true then(some 0)else(some (-1)))else(if h=true then(some 1)else(if e<f then(some (-1))else(if f<e then(some 1)else(some 0))))))
theorem o_w (f:Int)(h:Int)(s:A.h6 f)(u:A.h6 h)(r:Int)(e:F.bk f h=some r):
    A.Ct Tryz.prog 53 [A.i f,A.i h] [] [] (fun v H'=>v=A.i r∧H'=[]∧A.h6 r):=by
 refine Jg Tryz.func53 rfl Tryz.ntmps53 rfl fun x y=>?_;rw[F.bk]at e;refine Jc 1 ?_;refine Ji 1 [] (Jk 2 ?_);refine Ji 1 [(7,A.i f)] ?_;refine Va 0 [] e (o_ac f s) .nil ?_;rintro p - e _ _ ⟨rfl,rfl⟩;refine Jq ?_;refine Ji 1 [(5,.bool p)] (Jk 2 ?_);refine Ji 1 [(9,A.i h)] ?_;refine Va 40 [] e (o_ac h u) .nil ?_;rintro o - e _ _ ⟨rfl,rfl⟩;refine Jq ?_;refine Ji 1 [(6,.bool o)] (Jk 3 ?_);refine Ji 1 [(11,.bool p)] (Jd 1 ?_);refine V0 e ?_ ?_<;>intro k e
 ·refine Jc 2 ?_;refine Ji 1 [(12,.bool o)] (Jd 1 ?_);refine V0 e ?_ ?_<;>intro k e
  ·refine Jc 1 ?_;refine Ji 1 [(4,A.i 0)] (Jd 1 ?_);obtain rfl:=Jm e;exact Jo [] ⟨rfl,rfl,Js⟩
  refine Jc 3 ?_;refine Ji 1 [(4,A.i (-1))] (Jd 1 ?_);obtain rfl:=Jm e;exact Jo [] ⟨rfl,rfl,(Jn .i64 (-1) rfl)⟩
 refine Jc 4 ?_;refine Ji 1 [(13,.bool o)] (Jd 1 ?_);refine V0 e ?_ ?_<;>intro k e
 ·refine Jc 1 ?_;refine Ji 1 [(4,A.i 1)] (Jd 1 ?_);obtain rfl:=Jm e;exact Jo [] ⟨rfl,rfl,(Jn .i64 (1) rfl)⟩
 refine Jc 4 ?_;refine Ji 3 [(16,.bool (decide (f<h)))] (Jd 1 ?_);refine J9 e ?_ ?_<;>intro k e
 ·refine Jc 1 ?_;refine Ji 1 [(4,A.i (-1))] (Jd 1 ?_);obtain rfl:=Jm e;exact Jo [] ⟨rfl,rfl,(Jn .i64 (-1) rfl)⟩
 refine Jc 4 ?_;refine Ji 3 [(19,.bool (decide (h<f)))] (Jd 1 ?_);refine J9 e ?_ ?_<;>intro k e
 ·refine Jc 1 ?_;refine Ji 1 [(4,A.i 1)] (Jd 1 ?_);obtain rfl:=Jm e;exact Jo [] ⟨rfl,rfl,(Jn .i64 (1) rfl)⟩
 refine Jc 3 ?_;refine Ji 1 [(4,A.i 0)] (Jd 1 ?_);obtain rfl:=Jm e;exact Jo [] ⟨rfl,rfl,Js⟩
def F.dp (e:D49)(f:D49):Option Bool:=(F.bk e.2.1 f.2.1).bind fun h=>((F.c1 e.2.2.1 f.2.2.1).bind fun k=>((F.cJ [h,k]).bind fun o=>(some (decide (o<0)))))
theorem o_a4 (e:D49)(f:D49)(E:A.h6 e.1)(s:A.h6 e.2.1)(u:e.2.2.1.size≤maxLen)(I:A.h6 e.2.2.2)(L:A.h6 f.1)(x:A.h6 f.2.1)(y:f.2.2.1.size≤maxLen)(N:A.h6 f.2.2.2)(r:Bool)(h:F.dp e f=some r):
    A.Ct Tryz.prog 72 [.agg #[A.i e.1,A.i e.2.1,.string e.2.2.1,A.i e.2.2.2],.agg #[A.i f.1,A.i f.2.1,.string f.2.2.1,A.i f.2.2.2]] [] [] (fun v H'=>v=.bool r∧H'=[]):=by
 refine Jg Tryz.func72 rfl Tryz.ntmps72 rfl fun O U=>?_;rw[F.dp]at h;refine Jc 1 ?_;refine Jl 0 (cs:=[A.i e.1,A.i e.2.1,.string e.2.2.1,A.i e.2.2.2]) fun V=>?_;refine Jl 1 (cs:=[A.i f.1,A.i f.2.1,.string f.2.2.1,A.i f.2.2.2]) fun W=>?_;refine Ji 1 [] (Jd 2 ?_);refine Vb mixed 14 14 (A.mb 14 0) ?_;refine J8 Jy [] l2h [0,1] [] (A.mb 14 495) 6 [(0,.n),(2,.n),(5,.n),(7,.n),(1,.b 0 1),(3,.b 1 1),(6,.b 0 2),(8,.b 1 2)] [(6,A.i e.2.1),(8,A.i f.2.1),(11,.string e.2.2.1),(13,.string f.2.2.1)] ?_;refine Jr 4 ?_;refine Va 2 [] h (o_w e.2.1 f.2.1 s x) .nil ?_;rintro k - h _ _ ⟨rfl,rfl,hr5⟩;refine Jq ?_;refine Ju (A.mb 14 511) l2h ?_;refine Jr 9 ?_;refine Va 42 [] h (o_aB e.2.2.1 f.2.2.1 u y) .nil ?_;rintro p - h _ _ ⟨rfl,rfl,hr8⟩;refine Jq ?_;refine Ju (A.mb 14 1023) l2h ?_;refine Jr 10 ?_;refine J6 82 (ty:=A.ti) (cs:=[A.i k,A.i p]) [k,p] ⟨⟨rfl,hr5⟩,⟨⟨rfl,hr8⟩,rfl⟩⟩ (fun z=>?_) Tryz.zeroValue3 Tryz.sizeOf3
 refine Ju (A.mb 14 2047) l2h ?_;refine Jr 11 ?_;refine Va 83 [] h (o_ax (some ⟨z,0,none⟩) 2 [k,p]) (.o 82 .nil) ?_;rintro B - h _ _ ⟨rfl,rfl,hr12⟩;refine Jq ?_;refine Ju (A.mb 14 4095) l2h ?_;refine J8 Jy l2h [0,1,82] [] [] (A.mb 14 16383) 0 [(12,.n),(13,.n)] [(4,.bool (decide (B<0)))] (Jt ?_);refine A.ex 1 ?_;obtain rfl:=Jm h;exact Jo [] ⟨rfl,rfl⟩
def F.cs (e:Bool):Option Int:=if e=true then(some 50)else(some 0)
def F.cI (e:D91):Option Int:=if(64:Int)<(e.2.size:Int)then(F.cs true)else((F.aJ e.2).bind fun f=>(F.cs (!f)))
theorem o_aC (f:D91)(y:A.h6 f.1)(o:f.2.size≤maxLen)(r:Int)(e:F.cI f=some r):
    A.Ct Tryz.prog 97 [.agg #[A.i f.1,.string f.2]] [(0,.el none 0 0 A.tabF),(1,.el none 1 0 A.tabA)] [] (fun v H'=>v=A.i r∧H'=[]∧A.h6 r):=by
 refine Jg Tryz.func97 rfl Tryz.ntmps97 rfl fun z B=>?_;rw[F.cI]at e;refine Jc 1 ?_;refine Jl 2 (cs:=[A.i f.1,.string f.2]) fun E=>?_;refine Ji 1 [] (Jd 2 ?_);refine Jp [] l2h (fun p u=>∃(h:Bool),p=[(12,.bool h)]∧u=[]∧F.cs h=some r) ?_ ?_
 ·refine Jc 0 ?_;refine Jf [2] [] [.n,.b 0 1,.n,.n,.n] [(7,.bool (decide ((64:Int)<(f.2.size:Int))))] ?_;refine Vu (j:=7) rfl e ?_ ?_<;>intro x e
  ·refine Jf [] [] [.off,.off,.off,.off,.n] [(12,.bool true)] (Je ?_);exact J2 ⟨true,rfl,rfl,e⟩
  refine Jf [2] [] [.on .n,.on (.b 0 1)] [(9,.string f.2)] ?_;refine J5 (dj:=7) rfl rfl ?_;refine Va 3 [] e (o_m f.2 o) (.s 0 (.s 1 .nil)) ?_;rintro k - e _ _ ⟨rfl,rfl⟩;refine Jq ?_;refine Jf [] [] [.on .n,.n] [(12,.bool (!k))] (Je ?_);exact J2 ⟨(!k),rfl,rfl,e⟩
 rintro _ _ ⟨h,rfl,rfl,e⟩;rw[F.cs]at e;refine V0 e ?_ ?_<;>intro x e
 ·refine Jc 1 ?_;refine Ji 1 [(2,A.i 50)] (Jd 1 ?_);obtain rfl:=Jm e;exact Jo [] ⟨rfl,rfl,(Jn .i64 (50) rfl)⟩
 refine Jc 3 ?_;refine Ji 1 [(2,A.i 0)] (Jd 1 ?_);obtain rfl:=Jm e;exact Jo [] ⟨rfl,rfl,Js⟩
def F.cg (e:Bool):Option Bool:=some e
def F.dq (f:D54)(e:D49):Option Bool:=if e.1≠f.1 then(some false)else(if f.2.1=11 then(some (bif bif decide (e.2.2.1=(ByteArray.mk #[]))then decide ((0:Int)≤e.2.2.2)else false then decide (e.2.2.2≤1099511627776)else false))else(if f.2.1=16 then(if e.2.2.2=1 then((F.cI (e.2.1,e.2.2.1)).bind fun h=>(F.cg (decide (h=0))))else(F.cg false))else(some false)))
theorem o_a5(e:D54)(f:D49)(B:A.h6 e.1)(E:A.h6 e.2.1)(I:A.h6 e.2.2.2.1.1)(L:A.h6 e.2.2.2.1.2.1)(N:e.2.2.2.1.2.2.size≤maxLen)(O:e.2.2.2.2.1.size≤maxLen)(U:A.h6 e.2.2.2.2.2.1)(V:A.h6 e.2.2.2.2.2.2)(W:A.h6 f.1)(u:A.h6 f.2.1)(x:f.2.2.1.size≤maxLen)(X:A.h6 f.2.2.2)(r:Bool)(h:F.dq e f=some r):
    A.Ct Tryz.prog 71 [.agg #[A.i e.1,A.i e.2.1,.slice A2_ e.2.2.1.length c3_,A.i e.2.2.2.1.1,A.i e.2.2.2.1.2.1,.string e.2.2.2.1.2.2,.string e.2.2.2.2.1,A.i e.2.2.2.2.2.1,A.i e.2.2.2.2.2.2],.agg #[A.i f.1,A.i f.2.1,.string f.2.2.1,A.i f.2.2.2]] [(0,.sh A.TI [.slice A2_ e.2.2.1.length c3_] e.2.2.1),(1,.el none 0 0 A.tabF),(2,.el none 1 0 A.tabA)] [] (fun v H'=>v=.bool r∧H'=[]):=by
 refine Jg Tryz.func71 rfl Tryz.ntmps71 rfl fun w0 F0=>?_;rw[F.dq]at h;refine Jc 1 ?_;refine Jl 3 (cs:=[A.i e.1,A.i e.2.1,.slice A2_ e.2.2.1.length c3_,A.i e.2.2.2.1.1,A.i e.2.2.2.1.2.1,.string e.2.2.2.1.2.2,.string e.2.2.2.2.1,A.i e.2.2.2.2.2.1,A.i e.2.2.2.2.2.2]) fun g1=>?_;refine Jl 4 (cs:=[A.i f.1,A.i f.2.1,.string f.2.2.1,A.i f.2.2.2]) fun g2=>?_;refine Ji 1 [] (Jk 4 ?_);refine Jf [4,3] [] [.n,.b 0 0,.n,.b 1 0,.n,.n] [(5,.bool (decide (f.1≠e.1)))] (Jd 1 ?_);refine J9 h ?_ ?_<;>intro k h
 ·refine Jc 1 ?_;refine Ji 1 [(4,.bool false)] (Jd 1 ?_);obtain rfl:=Jm h;exact Jo [] ⟨rfl,rfl⟩
 refine Jc 1 ?_;refine Jf [3] [] [.n,.b 0 1,.n,.n] [(11,.bool (decide (e.2.1=11)))] (Jd 1 ?_);refine J9 h ?_ ?_<;>intro k h
 ·refine Jc 1 ?_;refine Jf [4] [] [.n,.b 0 2,.n,.n,.sy .n,.sy (.b 0 3),.sy .n,.pk,.n,.sy .n,.sy (.b 0 3),.sy .n,.pk,.n] [(4,.bool (bif bif decide (f.2.2.1=(ByteArray.mk #[]))then decide ((0:Int)≤f.2.2.2)else false then decide (f.2.2.2≤1099511627776)else false))] (Jd 1 ?_);obtain rfl:=Jm h;exact Jo [] ⟨rfl,rfl⟩
 refine Jc 1 ?_;refine Jf [3] [] [.n,.b 0 1,.n,.n] [(28,.bool (decide (e.2.1=16)))] (Jd 1 ?_);refine J9 h ?_ ?_<;>intro k h
 ·refine Jp [] [1,2] (fun y z=>∃(o:Bool),y=[(4,.bool o)]∧z=[]∧F.cg o=some r) ?_ ?_
  ·refine Jc 0 ?_;refine Jf [4] [] [.n,.b 0 3,.n,.n] [(35,.bool (decide (f.2.2.2=1)))] ?_;refine Vu (j:=35) rfl h ?_ ?_<;>intro k h
   ·refine Jf [4] [] [.on .n,.on (.b 0 1),.on .n,.on (.b 0 2),.on .n] [(40,.agg #[A.i f.2.1,.string f.2.2.1])] ?_;refine J5 (dj:=35) rfl rfl ?_;refine Va 5 [] h (o_aC (f.2.1,f.2.2.1) u x) (.s 1 (.s 2 .nil)) ?_;rintro p - h _ _ ⟨rfl,rfl,hr6⟩;refine Jq ?_;refine Jf [] [] [.on .n,.n,.n] [(4,.bool (decide (p=0)))] (Je ?_);exact J2 ⟨(decide (p=0)),rfl,rfl,h⟩
   refine Jf [] [] [.off,.off,.off,.off,.off,.off,.off,.n,.n] [(4,.bool false)] (Je ?_);exact J2 ⟨false,rfl,rfl,h⟩
  rintro _ _ ⟨o,rfl,rfl,h⟩;rw[F.cg]at h;obtain rfl:=Jm h;exact Jo [] ⟨rfl,rfl⟩
 refine Jc 4 ?_;refine Ji 1 [(4,.bool false)] (Jd 1 ?_);obtain rfl:=Jm h;exact Jo [] ⟨rfl,rfl⟩
end Go.Proofs.YtlhiofnikdppeaaGreatDoor
end
section
namespace Go.A
open Go.RowKit Go.Z
theorem cat_le {s u:ByteArray}(h:s.size+u.size≤9223372036854775807):(s++u).size≤maxLen:=by
 rw[ByteArray.size_append];simpa[maxLen] using h
theorem si_has {p:Nat}{s:ByteArray}(h:p<s.size)(hs:s.size≤maxLen):IntKind.i64.has (p:Int):=has_nat (by omega)
theorem le_max {n:Nat}(h:n≤9223372036854775807):n≤maxLen:=by simpa[maxLen] using h
theorem mk_le {xs:List UInt8}(h:xs.length≤maxLen):(ByteArray.mk xs.toArray).size≤maxLen:=by simpa[ByteArray.size] using h
def b8 (x:Int):UInt8:=UInt8.ofNat (x%256).toNat
theorem b8_wrap (x:Int):IntKind.u8.wrap x=((b8 x).toNat:Int):=by
 have L:=Int.emod_nonneg x (show(256:Int)≠0 by decide)
 have N:=Int.emod_lt_of_pos x (show(0:Int)<256 by decide)
 have E:IntKind.u8.wrap x=x%256:=by simp[IntKind.wrap,IntKind.bits,IntKind.signed]
 have I:(b8 x).toNat=(x%256).toNat:=by
  unfold b8
  rw[UInt8.toNat_ofNat']
  omega
 rw[E,I];omega
def Fz (fz:Nat×Nat)(n:Nat):Prop:=∀j,j<n→¬(fz.1≤j∧j<fz.2)
def Bs (e:TypeId)(c:Nat)(xs:List UInt8):Obj→Prop:=fun o=>∃(cur:Array Value) (fz:Nat×Nat),o=.cells cur e fz∧Fz fz c∧cur.size=c∧c≤maxLen∧xs.length≤c∧∀(j:Nat) (b:UInt8),xs[j]?=some b→cur[j]?=some (.int .u8 (b.toNat:Int))
theorem Bs.cell {w:World}{g:Nat}{e:TypeId}{c:Nat}{xs:List UInt8}{o:Obj}(E:w.heap[g]?=some o)(h:Bs e c xs o){j:Nat}{b:UInt8}(I:xs[j]?=some b):w.cell? ⟨g,j,none⟩=some (.int .u8 (b.toNat:Int)):=by
 obtain⟨cur,fz,rfl,_,_,_,_,L⟩:=h
 rw[cell_of_row w g j cur e _ E]
 exact L j b I
section
variable {r:Option Nat}{P:Program}{ops:Array Oper}{Q:Exit→Act→World→Prop}{rest:List Oper}{C:Cx}{l:List (Nat×Value)}{H:List (Nat×Res)}{d:Nat}{T:TypeId}{pos:String}{af:Array Edge}
theorem okB {X:Act→World→Prop}(k:Nat){g:Nat}{e:TypeId}{c:Nat}{xs:List UInt8}(h:xs.length≤maxLen→∀a w,Fr a C.n C.ds l→Hp C H w→X a w)(E:hk H k=some (.ob g (Bs e c xs)):=by rfl): ∀a w,Fr a C.n C.ds l→Hp C H w→X a w:=fun a w L I=>by
 obtain⟨o,W,N⟩: ∃o,w.heap[g]?=some o∧Bs e c xs o:=I.hold k _ E
 obtain⟨cur,_,_,_,_,O,V,_⟩:=N
 exact h (Wl V O) a w L I
theorem AL.cvb (k:Nat){src dst e:TypeId}{x:Operand}{s:ByteArray}(hs:s.size≤maxLen)(h: ∀g c,AL r P ops Q rest C ((d,.slice (some ⟨g,0,none⟩) s.data.toList.length c)::l) ((k,.ob g (Bs e c s.data.toList))::H))
  (h1:P.underlying src=some .string:=by rfl) (h2:P.underlying dst=some (.slice e):=by rfl) (h3:P.underlying e=some (.int .u8):=by rfl) (hx:ev l x=some (.string s):=by rfl) (hd:Nat.ble (d+1) C.n=true:=by rfl) (hn:hk H k=none:=by kernel_rfl):
  AL r P ops Q (⟨some d,.convert src dst x,T,pos,af,none⟩::rest) C l H:=fun a w hf hh=>by
 have N:=grownCap_ge w s.size 0 e
 have O:grownCap w s.size 0 e≤maxLen:=grownCap_le_maxLen w s.size 0 e hs
 have I:(bytesRow s (grownCap w s.size 0 e)).size=grownCap w s.size 0 e:=by
  have:s.data.size=s.size:=rfl
  simp[bytesRow,this];omega
 refine Z.valw (w':=w.drew.alloc (.cells (bytesRow s (grownCap w s.size 0 e)) e ((bytesRow s (grownCap w s.size 0 e)).size,(bytesRow s (grownCap w s.size 0 e)).size+1))) (v:=.slice (some ⟨w.heap.size,0,none⟩) s.data.toList.length (grownCap w s.size 0 e)) hf hd ?_ fun a' hf'=>h _ _ a' _ hf' (hh.new hn ?_ (fun b hb'=>?_) (fun j E=>by cases E) fun _ _ _ _ _=>?_)
 ·simp[execOp,hf.eval hx,run_bytes_of_string w src dst e s h1 h2 h3]
 ·have L:=Ch.alloc w.drew (.cells (bytesRow s (grownCap w s.size 0 e)) e ((bytesRow s (grownCap w s.size 0 e)).size,(bytesRow s (grownCap w s.size 0 e)).size+1))
  exact⟨L.os,L.tape,L.output,L.size,L.block⟩
 ·simp only[Res.bl,Qi]at hb'
  subst hb'
  exact⟨Qq _,by rw[World.size_alloc];exact Ql _⟩
 ·refine⟨_,World.alloc_heap_new w.drew _,bytesRow s (grownCap w s.size 0 e),_,rfl,fun j E h=>by rw[I]at h;exact absurd h.1 (Nat.not_le_of_lt E),I,O,N,fun j b E=>?_⟩
  have V:=(Qc.1 E).1
  have W:s.data[j]?=some b:=by rw[←X3];exact E
  unfold bytesRow
  rw[Xp (by simpa using V),Array.getElem?_map,W]
  rfl
theorem AL.ixB (k kn:Nat){e tt:TypeId}{c g n:Nat}{xs:List UInt8}{x y:Operand}{i:Int}{kd:IntKind}{v:UInt8}(hi:ix xs i=some v)(hlen:n=xs.length)
  (h:AL r P ops Q rest C ((d,.pointer (some ⟨g,i.toNat,none⟩))::l) ((kn,.el (some k) g i.toNat [.int .u8 (v.toNat:Int)])::H))
  (E:hk H k=some (.ob g (Bs e c xs)):=by rfl) (hx:ev l x=some (.slice (some ⟨g,0,none⟩) n c):=by rfl) (hy:ev l y=some (.int kd i):=by rfl) (ht:P.underlying tt=some (.slice e):=by rfl) (hs:szB P e=some 1:=by kernel_rfl)
  (hd:Nat.ble (d+1) C.n=true:=by rfl) (hn:hk H kn=none:=by kernel_rfl) (I:Nat.beq k kn=false:=by rfl):AL r P ops Q (⟨some d,.indexAddr tt x y,T,pos,af,none⟩::rest) C l H:=fun a w O W=>by
 obtain⟨m,rfl,hm⟩:=Qbf hi
 have hlt:=(Qc.1 hm).1
 have I:k≠kn:=fun e=>by rw[e,Xv]at I;cases I
 obtain⟨o,ho,hb⟩: ∃o,w.heap[g]?=some o∧Bs e c xs o:=W.hold k _ E
 refine Z.val (v:=.pointer (some ⟨g,m,none⟩)) O hd ?_ fun a' hf'=>h a' w hf' ?_
 ·have:=r_indexAddrA (P:=P) (w:=w) (d:=some d) (T:=T) (pos:=pos) (af:=af) (gd:=none) ht (Qal hs) (O.eval hx) rfl (O.eval hy) rfl (by omega:m<n)
  rw[Addr.add_lit,Ws,Nat.mul_one]at this
  exact this
 ·exact W.add hn rfl (fun j V r L=>by injection V with V;subst V;rw[E]at L;injection L with L;subst L;rfl) ⟨fun j u N=>by
   cases j with
   |zero=>injection N with N;subst N;rw[Addr.add_lit];exact Bs.cell ho hb hm
   |succ j=>simp at N,(Qn.1 ho).1,⟨_,E,by simp[Res.bl]⟩⟩
theorem AL.stB (k ke:Nat)(js:List Nat){e tt:TypeId}{c g:Nat}{xs:List UInt8}{px py:Operand}{i:Int}{v:UInt8}{n:Int}(y:UInt8)(hi:ix xs i=some v)(O:n=(y.toNat:Int))
  (h:AL r P ops Q rest C l ((k,.ob g (Bs e c (xs.set i.toNat y)))::ded js H))
  (I:hk H k=some (.ob g (Bs e c xs)):=by rfl) (hx:ev l px=some (.pointer (some ⟨g,i.toNat,none⟩)):=by rfl) (hy:ev l py=some (.int .u8 n):=by rfl) (hS:szB P tt=some 1:=by kernel_rfl) (L:hng [k] js H=true:=by kernel_rfl):
  AL r P ops Q (⟨none,.store tt px py,T,pos,af,none⟩::rest) C l H:=fun a w V hh=>by
 subst O
 obtain⟨m,rfl,hm⟩:=Qbf hi
 have W:=(Qc.1 hm).1
 obtain⟨o,ho,N⟩: ∃o,w.heap[g]?=some o∧Bs e c xs o:=hh.hold k _ I
 have hcell:=Bs.cell ho N hm
 obtain⟨cur,fz,rfl,hz,h2,h3,h4,h5⟩:=N
 have hmc:m<cur.size:=by omega
 have hfz:w.frozen? ⟨g,m,none⟩=false:=by
  obtain⟨lo,hi'⟩:=fz
  have:=hz m (by omega)
  simp only[World.frozen?,ho,Yi,decide_eq_false_iff_not]
  simp only at this
  omega
 have hrun:=run_storeCells_cells (P:=P) g m [Value.int .u8 (y.toNat:Int)] 0 w (fun j L=>by
  have:j=0:=by simpa using L
  subst this;simp[hcell]) (fun j L=>by
  have:j=0:=by simpa using L
  subst this;simpa using hfz) (by simp[Value.oneCell'])
 have hw:w.setCells g (m+0) [Value.int .u8 (y.toNat:Int)]=w.setCell ⟨g,m,none⟩ (.int .u8 (y.toNat:Int)):=rfl
 rw[hw]at hrun
 have hg':(w.setCell ⟨g,m,none⟩ (.int .u8 (y.toNat:Int))).heap[g]?=some (.cells (cur.setIfInBounds m (.int .u8 (y.toNat:Int))) e fz):=by
  unfold World.setCell
  simp[Yh,ho]
 have hch:Ch [g] w (w.setCell ⟨g,m,none⟩ (.int .u8 (y.toNat:Int))):=⟨rfl,rfl,rfl,by simp[World.setCell],fun b N O=>by
  have:b≠g:=by simpa using O
  simp[World.setCell,Yh,Ne.symm this]⟩
 refine Z.skipw (w':=w.setCell ⟨g,m,none⟩ (.int .u8 (y.toNat:Int))) V ?_ fun a' hf'=>h a' _ hf' (Hp.dd (hh.upd hch (fun b N=>⟨_,I,N⟩) (fun b N=>.inl ⟨_,I,N⟩) (fun j L=>by cases L) fun _ _ _ _ _ _ _=>⟨_,hg',cur.setIfInBounds m (.int .u8 (y.toNat:Int)),fz,rfl,hz,by simpa using h2,h3,by simpa using h4,fun j b E=>?_⟩) L)
 ·have hx':=V.eval hx
  have hy':=V.eval hy
  simp only[execOp,hx',hy',Instr.storeAt,Instr.sureAddr,Sem.run_bind,Sem.run_pure,Result.andThen_ok,storeVar,Qal hS,Qt]
  have hc:(Value.int .u8 (y.toNat:Int)).cells=#[.int .u8 (y.toNat:Int)]:=rfl
  simp only[hc,Yk,List.length_singleton,ne_eq,not_true,if_false,hrun,Result.andThen_ok,Sem.run_pure]
 ·rw[Qt,X6]at E
  rw[Array.getElem?_setIfInBounds]
  by_cases e1:m=j
  ·subst e1
   rw[if_pos rfl,if_pos W]at E
   injection E with E;subst E
   rw[if_pos rfl,if_pos hmc]
  ·rw[if_neg e1]at E
   rw[if_neg e1]
   exact h5 j b E
theorem AL.cbs (k:Nat){src dst e:TypeId}{x:Operand}{c g n:Nat}{xs:List UInt8}(hlen:n=xs.length)(h:AL r P ops Q rest C ((d,.string ⟨xs.toArray⟩)::l) H)
  (E:hk H k=some (.ob g (Bs e c xs)):=by rfl) (N:ev l x=some (.slice (some ⟨g,0,none⟩) n c):=by rfl)
  (O:P.underlying src=some (.slice e):=by rfl) (V:P.underlying e=some (.int .u8):=by rfl) (W:P.underlying dst=some .string:=by rfl) (hd:Nat.ble (d+1) C.n=true:=by rfl):
  AL r P ops Q (⟨some d,.convert src dst x,T,pos,af,none⟩::rest) C l H:=fun a w I L=>by
 subst hlen
 obtain⟨o,ho,hb⟩: ∃o,w.heap[g]?=some o∧Bs e c xs o:=L.hold k _ E
 refine Z.val I hd ?_ fun a' hf'=>h a' w hf' L
 have:=run_convert_bytes_back (P:=P) w src dst e ⟨g,0,none⟩ c xs O V W fun j hj=>by
  rw[Addr.add_lit,Ws];exact Bs.cell ho hb (Qe hj)
 simp[execOp,I.eval N,this]
theorem AL.cvr {src dst e:TypeId}{x:Operand}{A:Option Addr}{c n:Nat}{xs:List Int}{kp':(Nat→Prop)→Prop}(hrow: ∀w,Hp C H w→∃G:Nat→Prop,Row (.int .i32) w (Fh C H) G A c xs∧kp' G)(hlen:n=xs.length)(h:AL r P ops Q rest C ((d,.string (runesBytes xs))::l) H)
  (L:ev l x=some (.slice A n c):=by rfl) (N:P.underlying src=some (.slice e):=by rfl) (O:P.underlying e=some (.int .i32):=by rfl) (V:P.underlying dst=some .string:=by rfl) (hd:Nat.ble (d+1) C.n=true:=by rfl):
  AL r P ops Q (⟨some d,.convert src dst x,T,pos,af,none⟩::rest) C l H:=fun a w E W=>by
 subst hlen
 obtain⟨G,hR,_⟩:=hrow w W
 refine Z.val E hd ?_ fun a' hf'=>h a' w hf' W
 obtain⟨cells,p1,p2,p3,p4⟩:=hR.cells
 have h0nil: ∀c,(convert src dst (.slice none 0 c)).run P w=.ok (.string (runesBytes [])) w:=fun c=>run_convert_runes_nil w src dst e 0 c N O V
 rcases p3 with h0|⟨ad,rfl,hcell⟩
 ·have:xs=[]:=Q6 h0
  subst this
  cases A with
  |none=>simp[execOp,E.eval L,h0nil]
  |some ad=>
   have:=run_convert_runes (P:=P) w src dst e ad 0 c [] (Qq _) N O V (fun j I=>by simp at I)
   simp[execOp,E.eval L,this]
 ·have:=run_convert_runes (P:=P) w src dst e ad xs.length c xs (Qq _) N O V fun j I=>by
   refine hcell j _ ?_
   have h4:=p4 j _ (Qe I)
   have h5:(cells.drop (j*1)).take 1=[.int .i32 xs[j]]:=h4.1
   rw[Nat.mul_one]at h5
   have h6:((cells.drop j).take 1)[0]?=some (.int .i32 xs[j]):=by rw[h5];rfl
   rw[Wf (by omega),Xh,Nat.add_zero]at h6
   rw[h6,Yn,Qe I];rfl
  simp[execOp,E.eval L,this,List.take_length]
end
end Go.A
end
section
namespace Go.Proofs.YtlhiofnikdppeaaGreatDoor
open Go.RowKit
variable(A0_ A1_ A2_ A3_ A4_ A5_ A6_ A7_ A8_ A10_ A12_ A13_ A17_:Option Addr)(b0_ g0_ b1_ c1_ c2_ g2_ c3_ b4_ c4_ b5_ c5_ b6_ c6_ c7_ c8_ c9_ g10_ c11_ c13_ c14_ c18_:Nat)
def F.aK (f:Int→Option Int)(e:Int)(h:Bool):Option Int:=if h=true then(some 171)else(A.gd (Z.R64 (e+1)) (f (e+1)))
def F.w (k:D54)(h:(List D49)):Nat→Int→Option Int
 |0,_=>none
 |f+1,e=>if e<(h.length:Int)then((A.ix h e).bind fun o=>((F.dq k o).bind fun p=>(if(!p)=true then(F.aK (F.w k h f) e true)else(if(0:Int)<e then(A.gd (Z.R64 (e-1)) ((A.ix h (e-1)).bind fun s=>((F.dp s o).bind fun u=>(F.aK (F.w k h f) e (!u)))))else(F.aK (F.w k h f) e false)))))else(some 0)
def F.bc (e:D54)(f:(List D49)):Option Int:=F.w e f A.FU 0
theorem o_ad(h:D54)(u:(List D49))(W:A.h6 h.1)(X:A.h6 h.2.1)(a2:A.h6 h.2.2.2.1.1)(a3:A.h6 h.2.2.2.1.2.1)(a4:h.2.2.2.1.2.2.size≤maxLen)(a5:h.2.2.2.2.1.size≤maxLen)(a6:A.h6 h.2.2.2.2.2.1)(a7:A.h6 h.2.2.2.2.2.2)(r:Int)(k:F.bc h u=some r):
    A.Ct Tryz.prog 38 [.agg #[A.i h.1,A.i h.2.1,.slice A2_ h.2.2.1.length c3_,A.i h.2.2.2.1.1,A.i h.2.2.2.1.2.1,.string h.2.2.2.1.2.2,.string h.2.2.2.2.1,A.i h.2.2.2.2.2.1,A.i h.2.2.2.2.2.2],.slice A10_ u.length c11_] [(0,.sh A.TI [.slice A2_ h.2.2.1.length c3_] h.2.2.1),(1,.ln T49 A10_ c11_ u),(2,.el none 0 0 A.tabF),(3,.el none 1 0 A.tabA)] [] (fun v H'=>v=A.i r∧H'=[]∧A.h6 r):=by
 refine Jg Tryz.func38 rfl Tryz.ntmps38 rfl fun w0 F0=>?_;rw[F.bc]at k;refine Jc 1 ?_;refine Jl 4 (cs:=[A.i h.1,A.i h.2.1,.slice A2_ h.2.2.1.length c3_,A.i h.2.2.2.1.1,A.i h.2.2.2.1.2.1,.string h.2.2.2.1.2.2,.string h.2.2.2.2.1,A.i h.2.2.2.2.2.1,A.i h.2.2.2.2.2.2]) fun g1=>?_;refine Ji 1 [] (Jk 3 ?_);refine Ji 3 [(7,.slice A10_ u.length c11_),(8,A.i (u.length:Int)),(9,A.i 0)] (Jd 2 ?_);refine J3 [1,2,7,8] [0,1,2,3,4] (fun f B E=>∃(p:Int),B=[(9,A.i p)]∧E=[]∧A.h6 p∧F.w h u f p=some r) ⟨0,rfl,rfl,Js,k⟩ ?_;rintro I _ _ ⟨p,rfl,rfl,ac,k⟩;rcases I with _|I
 ·exact J1 k
 rw[F.w]at k;refine Jc 1 ?_;refine Ji 1 [(10,.bool (decide (p<(u.length:Int))))] (Jd 2 ?_);refine J9 k ?_ ?_<;>intro N k
 ·refine Jc 5 ?_;refine Ji 1 [(11,A.i p)] ?_;have⟨o,a8,k⟩:=Vo k;refine Vv 1 171 a8 fun x=>?_;intro b8 o9;refine Jf [] [171] [.e 0 0] [(13,.agg #[A.i o.1,A.i o.2.1,.string o.2.2.1,A.i o.2.2.2])] ?_;refine Jh 172 (cs:=l2c) Tryz.zeroValue50 fun ad=>?_;refine Ji 1 [(5,A.i p)] ?_;refine Jw 172 [] [A.i o.1,A.i o.2.1,.string o.2.2.1,A.i o.2.2.2] ?_;refine Jd 1 ?_;refine Jp [1,2,7,8,9] [0,1,2,3,4] (fun B E=>∃(L:Bool),B=[(31,.bool L)]∧E=[]∧F.aK (F.w h u I) p L=some r) ?_ ?_
  ·refine Vb mixed 18 18 (A.mb 18 0) ?_;refine J8 Jy [] l2b [4,172] [] (A.mb 18 3) 16 [(0,.b 0 0),(1,.b 1 0)] [(14,.agg #[A.i h.1,A.i h.2.1,.slice A2_ h.2.2.1.length c3_,A.i h.2.2.2.1.1,A.i h.2.2.2.1.2.1,.string h.2.2.2.1.2.2,.string h.2.2.2.2.1,A.i h.2.2.2.2.2.1,A.i h.2.2.2.2.2.2]),(15,.agg #[A.i o.1,A.i o.2.1,.string o.2.2.1,A.i o.2.2.2])] ?_;refine Jr 2 ?_;refine Va 173 [] k (o_a5 A2_ c3_ h o W X a2 a3 a4 a5 a6 a7 x.1 x.2.1 x.2.2.1 x.2.2.2) (.s 0 (.s 2 (.s 3 .nil))) ?_;rintro a9 - k _ _ ⟨rfl,rfl⟩;refine Jq ?_;refine Ju (A.mb 18 7) l2b ?_;refine J8 Jy l2b l2b [] [] (A.mb 18 31) 13 [(3,.n),(4,.n)] [(18,.bool (!a9))] ?_;refine A.AH.cnd (j:=18) rfl k (fun k=>?_) (fun k=>?_)
   ·refine J8 Jy l2b l2b [] [] (A.mb 18 262143) 0 [(5,.off),(6,.off),(7,.off),(8,.off),(9,.off),(13,.off),(10,.off),(11,.off),(12,.off),(14,.off),(15,.off),(16,.off),(17,.n)] [(31,.bool true)] (Jt ?_);exact J2 ⟨true,rfl,rfl,k⟩
   refine J8 Jy l2b l2b [] [] (A.mb 18 255) 10 [(5,.on .n),(6,.on .n),(7,.on .n)] [(21,.bool (decide ((0:Int)<p)))] ?_;refine A.AH.cnp (j:=21) rfl k ?_ ?_<;>intro N k
   ·have⟨aa,k⟩:=Ve k;refine A.AH.q Jy l2b l2b [172] [] (A.mb 18 10239) 6 [(8,.on .n),(9,.on .n),(13,.on (.b 0 0)),(10,.on .n)] [22,27,24] [Z.R64 (p-1)] [(22,.slice A10_ u.length c11_),(27,.agg #[A.i o.1,A.i o.2.1,.string o.2.2.1,A.i o.2.2.2]),(24,A.i (p-1))] aa ?_;have⟨y,O,k⟩:=Vo k;refine A.AH.pkl 1 213 O fun z=>?_;intro ae ah ab;refine A.AH.vg Jy l2b l2d 11 (A.mb 18 12287) (dj:=21) rfl (fun a w hf hh=>Ub (t:=T49) O ab hf) ?_;refine J8 Jy l2d l2d [] [213] (A.mb 18 16383) 4 [(12,.on (.e 0 0))] [(26,.agg #[A.i y.1,A.i y.2.1,.string y.2.2.1,A.i y.2.2.2])] ?_;refine Jr 14 ?_;refine J5 (dj:=21) rfl rfl ?_;refine Va 214 [] k (o_a4 y o z.1 z.2.1 z.2.2.1 z.2.2.2 x.1 x.2.1 x.2.2.1 x.2.2.2) .nil ?_;rintro U - k _ _ ⟨rfl,rfl⟩;refine Jq ?_;refine Ju (A.mb 18 32767) l2d ?_;refine J8 Jy l2d l2d [] [] (A.mb 18 262143) 0 [(15,.on .n),(16,.on .n),(17,.n)] [(31,.bool (!U))] (Jt ?_);exact J2 ⟨(!U),rfl,rfl,k⟩
   refine J8 Jy l2b l2b [] [] (A.mb 18 262143) 0 [(8,.off),(9,.off),(13,.off),(10,.off),(11,.off),(12,.off),(14,.off),(15,.off),(16,.on .n),(17,.n)] [(31,.bool false)] (Jt ?_);exact J2 ⟨false,rfl,rfl,k⟩
  rintro _ _ ⟨L,rfl,rfl,k⟩;rw[F.aK]at k;refine V0 k ?_ ?_<;>intro N k
  ·refine Jc 1 ?_;refine Ji 1 [(4,A.i 171)] (Jd 1 ?_);obtain rfl:=Jm k;exact Jo [] ⟨rfl,rfl,(Jn .i64 (171) rfl)⟩
  refine Jc 3 ?_;have⟨V,k⟩:=Ve k;refine Vy 2 [Z.R64 (p+1)] [(9,A.i (p+1))] V (Je ?_);exact J2 ⟨_,Ql _,⟨(p+1),rfl,rfl,(Jj V),k⟩⟩
 refine Jc 3 ?_;refine Ji 1 [(4,A.i 0)] (Jd 1 ?_);obtain rfl:=Jm k;exact Jo [] ⟨rfl,rfl,Js⟩
def F.cM (e:Int)(f:Int):Option Int:=A.gd (((decide ((0:Int)<e))=true→e≠0)∧((decide ((0:Int)<e))=true→Z.R64 (Int.tdiv 1099511627776 e))) (if(bif decide ((0:Int)<e)then decide (Int.tdiv 1099511627776 e<f)else false)=true then(some 1099511627776)else(A.gd (Z.R64 (e*f)) (some (e*f))))
theorem o_aM (e:Int)(h:Int)(p:A.h6 e)(s:A.h6 h)(r:Int)(f:F.cM e h=some r):
    A.Ct Tryz.prog 73 [A.i e,A.i h] [] [] (fun v H'=>v=A.i r∧H'=[]∧A.h6 r):=by
 refine Jg Tryz.func73 rfl Tryz.ntmps73 rfl fun u x=>?_;rw[F.cM]at f;refine Jc 1 ?_;refine Ji 1 [] (Jk 3 ?_);have⟨o,f⟩:=Ve f;refine A.q [] [] [.n,.n,.n,.sy .n,.sy .n,.sy .n,.sy .n,.pk] [(decide ((0:Int)<e))=true→e≠0,(decide ((0:Int)<e))=true→Z.R64 (Int.tdiv 1099511627776 e)] [(12,.bool (bif decide ((0:Int)<e)then decide (Int.tdiv 1099511627776 e<h)else false))] o (Jd 1 ?_);refine V0 f ?_ ?_<;>intro y f
 ·refine Jc 1 ?_;refine Ji 1 [(4,A.i 1099511627776)] (Jd 1 ?_);obtain rfl:=Jm f;exact Jo [] ⟨rfl,rfl,(Jn .i64 (1099511627776) rfl)⟩
 refine Jc 3 ?_;have⟨k,f⟩:=Ve f;refine Vy 4 [Z.R64 (e*h)] [(4,A.i (e*h))] k (Jd 1 ?_);obtain rfl:=Jm f;exact Jo [] ⟨rfl,rfl,(Jj k)⟩
def F.em (f:Int)(h:D40)(k:D91):Option Int:=(F.cn f h).bind fun e=>(if e≠0 then(some e)else((F.cI k).bind fun o=>(some o)))
theorem o_bw (k:Int)(e:D40)(f:D91)(p:A.h6 k)(u:A.h6 e.1)(x:A.h6 e.2.1)(y:e.2.2.size≤maxLen)(z:A.h6 f.1)(B:f.2.size≤maxLen)(r:Int)(h:F.em k e f=some r):
    A.Ct Tryz.prog 99 [A.i k,.agg #[A.i e.1,A.i e.2.1,.string e.2.2],.agg #[A.i f.1,.string f.2]] [(0,.el none 0 0 A.tabF),(1,.el none 1 0 A.tabA)] [] (fun v H'=>v=A.i r∧H'=[]∧A.h6 r):=by
 refine Jg Tryz.func99 rfl Tryz.ntmps99 rfl fun I L=>?_;rw[F.em]at h;refine Jc 1 ?_;refine Jl 2 (cs:=[A.i e.1,A.i e.2.1,.string e.2.2]) fun N=>?_;refine Jl 3 (cs:=[A.i f.1,.string f.2]) fun O=>?_;refine Ji 1 [] (Jk 3 ?_);refine Jf [2] [] [.n,.b 0 0] [(8,A.i k),(9,.agg #[A.i e.1,A.i e.2.1,.string e.2.2])] ?_;refine Va 4 [] h (o_ak k e p u x y) (.s 0 (.s 1 .nil)) ?_;rintro o - h _ _ ⟨rfl,rfl,hr5⟩;refine Jq ?_;refine Ji 1 [(7,A.i o)] (Jk 2 ?_);refine Ji 2 [(12,.bool (decide (o≠0)))] (Jd 1 ?_);refine J9 h ?_ ?_<;>intro U h
 ·refine Jc 1 ?_;refine Ji 2 [(6,A.i o)] (Jd 1 ?_);obtain rfl:=Jm h;exact Jo [] ⟨rfl,rfl,hr5⟩
 refine Jc 3 ?_;refine Jf [3] [] [.b 0 0] [(14,.agg #[A.i f.1,.string f.2])] ?_;refine Va 44 [] h (o_aC f z B) (.s 0 (.s 1 .nil)) ?_;rintro E - h _ _ ⟨rfl,rfl,hr8⟩;refine Jq ?_;refine Ji 1 [(6,A.i E)] (Jd 1 ?_);obtain rfl:=Jm h;exact Jo [] ⟨rfl,rfl,hr8⟩
def F.bY (e:ByteArray):Nat→Nat→(List Int)→Option (List Int)
 |0,_,_=>none
 |f+1,h,k=>if h<e.size then(A.gd ((List.length (α:=Int) k+List.length (α:=Int) [((Utf8.decode e h).1:Int)])*4≤140737488355328) ((F.bY e f) (h+(Utf8.decode e h).2) (k++[((Utf8.decode e h).1:Int)])))else(some k)
def F.eo (e:ByteArray):Option (List Int):=F.bY e A.FU 0 []
theorem o_bq (e:ByteArray)(L:e.size≤maxLen)(r:(List Int))(h:F.eo e=some r):
    A.Ct Tryz.prog 100 [.string e] [] [] (fun v H'=>∃(A0':Option Addr) (c1':Nat),v=.slice A0' r.length c1'∧H'=[(0,.own (Z.Ty.int .i32) 21 A0' c1' r)]):=by
 refine Jg Tryz.func100 rfl Tryz.ntmps100 rfl fun N O=>?_;rw[F.eo]at h;refine Jc 1 ?_;refine Ji 1 [] (Jk 2 ?_);refine Ji 1 [(3,.slice none 0 0)] (Jk 3 ?_);refine Ji 1 [(6,.string e)] ?_;refine A.AL.rgs 0 fun B=>?_;refine Jd 2 ?_;refine V1 4 (Z.Ty.int .i32) 21 ?_;refine J3 [7] [] (fun f E I=>∃(o:Nat),∃(p:List Int),∃(s:Option Addr),∃(u:Nat),E=[(3,.slice s p.length u)]∧I=[(0,.si B e o),(4,.own (Z.Ty.int .i32) 21 s u p)]∧F.bY e f o p=some r) ⟨0,[],none,0,rfl,rfl,h⟩ ?_;rintro x _ _ ⟨o,p,s,u,rfl,rfl,h⟩;rcases x with _|x
 ·exact J1 h
 rw[F.bY]at h;refine Jc 1 ?_;refine A.AL.nxs 0 [] h (fun hb7 h=>?_) (fun U h=>?_)
 ·refine Ji 1 [(9,.bool true)] (Jd 2 ?_);refine Vn rfl ?_;refine Jc 4 ?_;refine Ji 2 [(5,.int .i32 ((Utf8.decode e o).1:Int))] (Jk 1 ?_);refine Ji 2 [(11,.slice s p.length u),(12,.int .i32 ((Utf8.decode e o).1:Int))] ?_;refine J6 7 (ty:=(Z.Ty.int .i32)) (cs:=[.int .i32 ((Utf8.decode e o).1:Int)]) [((Utf8.decode e o).1:Int)] ⟨⟨rfl,A.dec_has⟩,rfl⟩ (fun V=>?_) Tryz.zeroValue21 Tryz.sizeOf21
  have⟨hl11,h⟩:=Ve h;refine Vh (k:=4) [] (Vz (k:=7) rfl) inf21 hl11 fun y z=>?_;refine Ji 1 [(3,.slice y ((p++[((Utf8.decode e o).1:Int)]).length) z)] (V4 1 ?_);exact J2 ⟨_,Ql _,⟨(o+(Utf8.decode e o).2),(p++[((Utf8.decode e o).1:Int)]),y,z,rfl,rfl,h⟩⟩
 refine Ji 1 [(9,.bool false)] (Jd 2 ?_);refine Vk rfl ?_;refine Jc 3 ?_;refine Ji 2 [(2,.slice s p.length u)] (Jd 1 ?_);obtain rfl:=Jm h;exact Jo [(0,4)] ⟨s,u,rfl,rfl⟩
def F.cU (f:(List UInt8)→Int→Option ByteArray)(e:Int)(h:List UInt8):Option ByteArray:=A.gd (Z.R64 (e+1)) (f h (e+1))
def F.aX (k:ByteArray):Nat→(List UInt8)→Int→Option ByteArray
 |0,_,_=>none
 |f+1,h,e=>if e<((k.data.toList).length:Int)then((A.ix h e).bind fun o=>(if(bif decide ((97:Int)≤(o.toNat:Int))then decide ((o.toNat:Int)≤122)else false)=true then((A.ix h e).bind fun p=>(F.cU (F.aX k f) e (h.set e.toNat (A.b8 ((IntKind.u8.wrap ((o.toNat:Int)-97))+65)))))else(F.cU (F.aX k f) e h)))else(some (ByteArray.mk (h).toArray))
def F.ep (e:ByteArray):Option ByteArray:=F.aX e A.FU e.data.toList 0
theorem o_br (k:ByteArray)(N:k.size≤maxLen)(r:ByteArray)(h:F.ep k=some r):
    A.Ct Tryz.prog 101 [.string k] [] [] (fun v H'=>v=.string r∧H'=[]∧r.size≤maxLen):=by
 refine Jg Tryz.func101 rfl Tryz.ntmps101 rfl fun V W=>?_;rw[F.ep]at h;refine Jc 1 ?_;refine Ji 1 [] (Jk 2 ?_);refine Ji 1 [(6,.string k)] ?_;refine A.AL.cvb 0 N fun s u=>?_;refine Ji 1 [(3,.slice (some ⟨s,0,none⟩) ((k.data.toList).length) u)] (Jk 3 ?_);refine Ji 3 [(8,.slice (some ⟨s,0,none⟩) ((k.data.toList).length) u),(9,A.i ((k.data.toList).length:Int)),(10,A.i 0)] (Jd 2 ?_);refine J3 [3,8,9] [] (fun f z B=>∃(p:List UInt8),∃(o:Int),z=[(10,A.i o)]∧B=[(0,.ob s (A.Bs 5 u p))]∧(k.data.toList).length=p.length∧A.h6 o∧F.aX k f p o=some r) ⟨k.data.toList,0,rfl,rfl,rfl,Js,h⟩ ?_;rintro E _ _ ⟨p,o,rfl,rfl,hn4,X,h⟩;rcases E with _|E
 ·exact J1 h
 rw[F.aX]at h;refine Jc 1 ?_;refine Ji 1 [(11,.bool (decide (o<((k.data.toList).length:Int))))] (Jd 2 ?_);refine J9 h ?_ ?_<;>intro O h
 ·refine V5 2 ?_;refine Jp [3,8,9,10] [] (fun z B=>∃(y:List UInt8),z=[]∧B=[(0,.ob s (A.Bs 5 u y))]∧(k.data.toList).length=y.length∧F.cU (F.aX k E) o y=some r) ?_ ?_
  ·refine Jc 2 ?_;refine Ji 1 [(12,A.i o)] ?_;have⟨x,U,h⟩:=Vo h;refine A.AL.ixB 0 5 U hn4 ?_;refine Jf [] [5] [.e 0 0,.n,.n] [(4,A.i o),(5,.int .u8 (x.toNat:Int))] (Jk 2 ?_);refine Jf [] [] [.n,.n,.n,.sy .n,.sy .n,.pk] [(20,.bool (bif decide ((97:Int)≤(x.toNat:Int))then decide ((x.toNat:Int)≤122)else false))] (Jd 1 ?_);refine V0 h ?_ ?_<;>intro O h
   ·refine Jc 0 ?_;refine Ji 5 [(21,.slice (some ⟨s,0,none⟩) ((k.data.toList).length) u),(22,A.i o),(25,.int .u8 (IntKind.u8.wrap ((IntKind.u8.wrap ((x.toNat:Int)-97))+65)))] ?_;have⟨a1,I,h⟩:=Vo h;refine A.AL.ixB 0 6 I hn4 ?_;refine A.AL.stB 0 6 [5,6] (A.b8 ((IntKind.u8.wrap ((x.toNat:Int)-97))+65)) I (A.b8_wrap _) ?_;refine V4 1 ?_;exact J2 ⟨(p.set o.toNat (A.b8 ((IntKind.u8.wrap ((x.toNat:Int)-97))+65))),rfl,rfl,(by rw[Xc];exact hn4),h⟩
   refine Vi 2 ?_;exact J2 ⟨p,rfl,rfl,hn4,h⟩
  rintro _ _ ⟨y,rfl,rfl,hn9,h⟩;rw[F.cU]at h;refine Jc 0 ?_;have⟨L,h⟩:=Ve h;refine Vy 2 [Z.R64 (o+1)] [(10,A.i (o+1))] L (Je ?_);exact J2 ⟨_,Ql _,⟨y,(o+1),rfl,rfl,hn9,(Jj L),h⟩⟩
 refine Jc 3 ?_;refine Ji 1 [(28,.slice (some ⟨s,0,none⟩) ((k.data.toList).length) u)] ?_;refine A.okB 0 fun hl15=>?_;refine A.AL.cbs 0 hn4 ?_;refine Ji 1 [(2,.string (ByteArray.mk (p).toArray))] (Jd 1 ?_);obtain rfl:=Jm h;exact Jo [] ⟨rfl,rfl,(A.mk_le hl15)⟩
def F.p:Nat→(List Int)→Int→Int→Option (List Int)
 |0,_,_,_=>none
 |f+1,h,e,k=>if e<k then((A.ix h k).bind fun o=>((A.ix h e).bind fun s=>((A.ix h e).bind fun u=>((A.ix (h.set e.toNat o) k).bind fun x=>(A.gd (Z.R64 (e+1)∧Z.R64 (k-1)) ((F.p f) ((h.set e.toNat o).set k.toNat s) (e+1) (k-1)))))))else(some h)
def F.aL (e:(List Int)):Option (List Int):=A.gd (Z.R64 ((e.length:Int)-1)) (F.p A.FU e 0 ((e.length:Int)-1))
theorem o_ae(k:(List Int))(r:(List Int))(h:F.aL k=some r):
    A.Ct Tryz.prog 102 [.slice A0_ k.length c1_] [(0,.own (Z.Ty.int .i32) 21 A0_ c1_ k)] (Z.obl A0_++[]) (fun v H'=>v=.tuple #[]∧H'=[(0,.own (Z.Ty.int .i32) 21 A0_ c1_ r)]∧r.length=k.length):=by
 refine Jg Tryz.func102 rfl Tryz.ntmps102 rfl fun w0 F0=>?_;rw[F.aL]at h;refine Jc 1 ?_;have⟨L,h⟩:=Ve h;refine Vy 5 [Z.R64 ((k.length:Int)-1)] [(2,A.i 0),(3,A.i ((k.length:Int)-1))] L (Jd 2 ?_);refine J3 [0] [] (fun f X nh=>∃(x:List Int),∃(s:Int),∃(u:Int),X=[(2,A.i s),(3,A.i u)]∧nh=[(0,.own (Z.Ty.int .i32) 21 A0_ c1_ x)]∧k.length=x.length∧A.h6 s∧A.h6 u∧F.p f x s u=some r) ⟨k,0,((k.length:Int)-1),rfl,rfl,rfl,Js,(Jj L),h⟩ ?_;rintro N _ _ ⟨x,s,u,rfl,rfl,hn5,a7,a8,h⟩;rcases N with _|N
 ·exact J1 h
 rw[F.p]at h;refine Jc 2 ?_;refine Ji 3 [(9,.bool (decide (s<u)))] (Jd 1 ?_);refine J9 h ?_ ?_<;>intro hb h
 ·refine V5 4 ?_;refine Vb mixed 13 16 (A.mb 16 0) ?_;refine J8 Jy [] [0] [] [] (A.mb 16 819) 10 [(0,.n),(1,.n),(4,.n),(5,.n),(8,.n),(9,.n)] [(14,.slice A0_ k.length c1_),(15,A.i s),(18,.slice A0_ k.length c1_),(19,A.i u),(22,.slice A0_ k.length c1_),(23,A.i s)] ?_;refine A.AH.qp Jy [0] (A.mb 16 831) 8 [(2,.n),(3,.n)] [(16,.slice A0_ k.length c1_),(17,A.i u)] ?_;refine A.cst 18 (V3 (show k.length=x.length from hn5)) ?_;have⟨y,O,h⟩:=Vo h;refine V7 0 9 O fun a1=>?_;intro a9 a2;refine Vj Jy [0] [0,9] 6 (A.mb 16 895) rfl (fun a w hf hh=>Uc (t:=(Z.Ty.int .i32)) O a2 hf) ?_;refine J8 Jy [0,9] [0,9] [] [9] (A.mb 16 1023) 6 [(7,.e 0 0)] [(21,.int .i32 y)] ?_;refine A.cst 22 (V3 (show k.length=x.length from hn5)) ?_;have⟨z,U,h⟩:=Vo h;refine V7 0 10 U fun a3=>?_;intro aa a4;refine Vj Jy [0,9] [0,9,10] 10 (A.mb 16 2047) rfl (fun a w hf hh=>Uc (t:=(Z.Ty.int .i32)) U a4 hf) ?_;refine J8 Jy [0,9,10] [0,9,10] [] [10] (A.mb 16 4095) 4 [(11,.e 0 0)] [(25,.int .i32 z)] ?_;refine A.cst 14 (V3 (show k.length=x.length from hn5)) ?_;have⟨a5,B,h⟩:=Vo h;refine V7 0 11 B fun ab=>?_;intro ac V;refine Vj Jy [0,9,10] [0,9,10,11] 12 (A.mb 16 8191) rfl (fun a w hf hh=>Uc (t:=(Z.Ty.int .i32)) B V hf) ?_;refine Jr 13 ?_;refine A.AL.setel 0 11 [9,10,11] (o:=0) (m:=1) (t:=(Z.Ty.int .i32)) (new:=[.int .i32 y]) (es:=[.int .i32 a5]) y B V ⟨rfl,a1⟩ ?_;refine Ud (A.mb 16 16383) ?_;refine A.AH.bh 15 ?_;refine A.cst 16 (V3 (show k.length=(x.set s.toNat y).length from(by rw[Xc];exact hn5))) ?_;have⟨a6,E,h⟩:=Vo h;refine V7 0 12 E fun ad=>?_;intro ae W;refine Vj Jy [] [0,12] 14 (A.mb 16 32767) rfl (fun a w hf hh=>Uc (t:=(Z.Ty.int .i32)) E W hf) ?_;refine Jr 15 ?_;refine A.AL.setel 0 12 [12] (o:=0) (m:=1) (t:=(Z.Ty.int .i32)) (new:=[.int .i32 z]) (es:=[.int .i32 a6]) z E W ⟨rfl,a3⟩ ?_;refine Ud (A.mb 16 65535) ?_;refine Jt ?_;refine A.el 2 ?_;have⟨I,h⟩:=Ve h;refine Vy 6 [Z.R64 (s+1),Z.R64 (u-1)] [(2,A.i (s+1)),(3,A.i (u-1))] I (Je ?_);exact J2 ⟨_,Ql _,⟨((x.set s.toNat y).set u.toNat z),(s+1),(u-1),rfl,rfl,(by rw[Xc];exact(by rw[Xc];exact hn5)),(Jj I.1),(Jj I.2),h⟩⟩
 refine Vi 1 ?_;obtain rfl:=Jm h;exact A.AE.ret [(0,0)] (.tuple #[]) (fun a w hf hh=>Z.res0 rfl w) (⟨rfl,rfl,(Eq.symm hn5)⟩)
def F.eF (e:ByteArray):Option (ByteArray):=some e
theorem o_bj (e:ByteArray)(k:e.size≤maxLen)(r:(ByteArray))(f:F.eF e=some r):
    A.Ct Tryz.prog 143 [.string e] [] [] (fun v H'=>∃(g0':Nat),v=.func (.func 171) #[] #[.pointer (some ⟨g0',0,none⟩)]∧H'=[(0,.blk g0' 9 [.string r])]∧r.size≤maxLen):=by
 refine Jg Tryz.func143 rfl Tryz.ntmps143 rfl fun o p=>?_;rw[F.eF]at f;refine Jc 1 ?_;refine Jl 0 (cs:=[.string e]) fun h=>?_;refine Ji 1 [] (Jk 2 ?_);refine Ji 2 [(2,.func (.func 171) #[] #[.pointer (some ⟨h,0,none⟩)])] (Jd 1 ?_);obtain rfl:=Jm f;exact Jo [(0,0)] ⟨h,rfl,rfl,k⟩
end Go.Proofs.YtlhiofnikdppeaaGreatDoor
end
section
namespace Go.A
open Go.RowKit Go.Z
def SeqUk (P:Program)(gf:FuncId)(cap:List Value)(N:Nat)(E:Nat→Nat→World→World→List Value→Prop)(D0:World→Prop)(Dat:Nat→Nat→World→Prop):Prop:=
 ∀(lid:Nat) (w:World) (J0:World→Prop) (J:Nat→Nat→World→Prop) (Jx:World→Prop),(∀W W',J0 W→Ch [] W W'→J0 W')→(∀g k W W',J g k W→Ch [g] W W'→J g k W')→(∀W W',Jx W→Ch [] W W'→Jx W')→
  (∀W,J0 W→D0 W)→(∀g W W',J0 W→Ch [] W W'→W.heap.size≤g→g<W'.heap.size→J g 0 W')→(∀g k W,J g k W→Dat g k W)→J0 w→
  (∀g k W0 W args,k<N→J g k W0→Ch [g] W0 W→E g k W0 W args→YieldAt (FW none) 0 P lid args.toArray W fun e W'=>(e=.returned (.bool true)∧J g (k+1) W'∧W'.heap[g]?=W.heap[g]?)∨(e=.returned (.bool false)∧Jx W'))→
  Calls P gf (.func (.yield lid) #[] #[]::cap).toArray w fun e W'=>e=.returned (.tuple #[])∧((∃g,J g N W')∨Jx W')
section
variable {P:Program}{Q:Exit→Act→World→Prop}{a:Act}{w:World}{n:Nat}{ds:List Deferred}{l:List (Nat×Value)}
theorem rangeKU {g:Operand}{ps:List Nat}{assign body:Code}{gf:FuncId}{cap:List Value}(hf:Fr a n ds l)(hg:ev l g=some (.func (.func gf) #[] cap.toArray))
  (hcf: ∀args w,(callFunc gf args).run P w=.ok (.enter gf args) w) (N:Nat) (E:Nat→Nat→World→World→List Value→Prop) (D0:World→Prop) (Dat:Nat→Nat→World→Prop) (I0:World→Prop) (I:Nat→Nat→World→Prop) (X:Exit→World→Prop) (hseq:SeqUk P gf cap N E D0 Dat)
  (hlen: ∀g k W0 W args,E g k W0 W args→args.length=ps.length) (hps: ∀p,p∈ps→p<n)
  (hI0: ∀W1,(∃W',Ch [] w W'∧W'.heap.size=w.heap.size+1∧Dfr W' w.heap.size∧Ch [] W' W1∧W1.heap.size=W'.heap.size+1)→(∃o,W1.heap[w.heap.size+1]?=some o)→I0 W1)
  (hst0: ∀W W',I0 W→Ch [w.heap.size+1] W W'→I0 W') (hst: ∀g k W W',w.heap.size+1<g→I g k W→Ch [w.heap.size+1] W W'→I g k W') (hsg: ∀g k W W',w.heap.size+1<g→I g k W→Ch [g] W W'→I g k W') (hcv: ∀g W W',I0 W→Ch [] W W'→W.heap.size≤g→g<W'.heap.size→I g 0 W') (hxt: ∀e W W',X e W→Ch [w.heap.size+1] W W'→X e W') (hdat0: ∀W,I0 W→D0 W) (hdat: ∀g k W,w.heap.size+1<g→I g k W→Dat g k W)
  (hround: ∀g k W0 W args a o,k<N→w.heap.size+1<g→g<W.heap.size→I g k W0→Ch [g] W0 W→w.heap.size+1<W0.heap.size→E g k W0 W args→args.length=ps.length→W.heap[w.heap.size+1]?=some o→Dfr W w.heap.size→Fr a n [] (Qhh ps args l)→
   WP (some (w.heap.size+1)) P assign (fun e a1 W1=>e=.normal∧W1.heap[w.heap.size+1]?=some o∧Dfr W1 w.heap.size∧∀W2 o2,Ch [w.heap.size+1] W1 W2→W2.heap[w.heap.size+1]?=some o2→Dfr W2 w.heap.size→
    WP (some (w.heap.size+1)) P body (RQ w.heap.size (w.heap.size+1) o2 (fun k W'=>I g k W'∧W'.heap[g]?=W.heap[g]?) X k) a1 W2) a W)
  (hdone: ∀g W a',w.heap.size+1<g→I g N W→Dfr W w.heap.size→Fr a' n (mkD w.heap.size::ds) l→Q .normal a' W)
  (hret: ∀W a',X .ret W→Dfr W w.heap.size→Fr a' n (mkD w.heap.size::ds) l→Q .ret a' W)
  (hexit: ∀id W a',X (.exit id) W→Dfr W w.heap.size→Fr a' n (mkD w.heap.size::ds) l→Q (.exit id) a' W):WP none P (Code.rangeFunc g ps.toArray assign body) Q a w:=by
 refine wpIn_rangeFunc fun fn hfn=>?_
 obtain⟨rec,hrec⟩: ∃rec:LoopState→Option Code→Loop,rec=fun st pe=>{state:=st,pending:=pe,fn,tmps:=a.tmps,params:=ps.toArray,assign,body,defers:=w.heap.size}:=⟨_,rfl⟩
 obtain⟨W1,hW1⟩: ∃W1,(w.alloc (.deferred (some []))).alloc (.loop (rec .ready none))=W1:=⟨_,rfl⟩
 have hL1:W1.heap[w.heap.size+1]?=some (.loop (rec .ready none)):=by
  rw[←hW1];have:=World.alloc_heap_new (w.alloc (.deferred (some []))) (.loop (rec .ready none));rwa[World.size_alloc]at this
 have hK1:Dfr W1 w.heap.size:=by
  rw[←hW1];exact(Below.heap_alloc _ _ _ (by simp)).trans (World.alloc_heap_new w _)
 have up: ∀{W W':World},Ch [] W W'→Ch [w.heap.size+1] W W':=fun h=>h.mono (by simp)
 have hI1:I0 W1:=hI0 W1 ⟨_,Ch.alloc w _,World.size_alloc ..,World.alloc_heap_new w _,by rw[←hW1];exact Ch.alloc _ _,by rw[←hW1];exact World.size_alloc ..⟩ ⟨_,hL1⟩
 have hfr:a.eval g=.func (.func gf) #[] cap.toArray:=hf.eval hg
 have hcall:=hseq (w.heap.size+1) W1
  (fun W=>I0 W∧W.heap[w.heap.size+1]?=some (.loop (rec .ready none))∧Dfr W w.heap.size)
  (fun g k W=>I g k W∧(w.heap.size+1<g∧g<W.heap.size)∧W.heap[w.heap.size+1]?=some (.loop (rec .ready none))∧Dfr W w.heap.size)
  (fun W=>∃e c,X e W∧((e=.ret∧c=Code.ret)∨∃id,e=.exit id∧c=Code.exit id)∧W.heap[w.heap.size+1]?=some (.loop (rec .done (some c)))∧Dfr W w.heap.size)
  (fun W W' ⟨h1,O,h3⟩ L=>⟨hst0 W W' h1 (up L),(L.block _ (Qn.1 O).1 (by simp)).trans O,h3.ch L (by simp)⟩)
  (fun g k W W' ⟨h1,V,O,h3⟩ L=>⟨hsg g k W W' V.1 h1 L,⟨V.1,Qy V.2 L.size⟩,(L.block _ (Qn.1 O).1 (by simp;omega)).trans O,h3.ch L (by simp;omega)⟩)
  (fun W W' ⟨e,c,h1,V,O,h3⟩ L=>⟨e,c,hxt e W W' h1 (up L),V,(L.block _ (Qn.1 O).1 (by simp)).trans O,h3.ch L (by simp)⟩)
  (fun W h=>hdat0 W h.1) (fun g W W' ⟨h1,O,h3⟩ L hg hg'=>⟨hcv g W W' h1 L hg hg',⟨Qy (Qn.1 O).1 hg,hg'⟩,(L.block _ (Qn.1 O).1 (by simp)).trans O,h3.ch L (by simp)⟩) (fun g k W h=>hdat g k W h.2.1.1 h.1) ⟨hI1,hL1,hK1⟩ ?_
 ·refine⟨w.heap.size+1,[mkD w.heap.size],W1,{target:=.fn (.func gf) cap.toArray,args:=#[.func (.yield (w.heap.size+1)) #[] #[]]},W1,gf,
   (.func (.yield (w.heap.size+1)) #[] #[]::cap).toArray,W1,?_,?_,fun _ _=>trivial,?_,(fun h=>by cases h),(Qik hcall).mono ?_⟩
  ·rw[←hW1,hrec];exact run_enterLoop_outer _ _ _ _ _
  ·simp only[resolve,hfr]
   simp[go_sem]
  ·simp[invoke,go_sem,hcf]
  ·have fin: ∀(W:World) (st:LoopState) (pe:Option Code),W.heap[w.heap.size+1]?=some (.loop (rec st pe))→st≠ .busy→Dfr W w.heap.size→
     ∃W',(Instr.endLoop (w.heap.size+1)).run P W=.ok pe W'∧Ch [w.heap.size+1] W W'∧Dfr W' w.heap.size:=fun W st pe hl hb hk=>by
    have:=run_endLoop (P:=P) hl (by rw[hrec];exact hb)
    rw[hrec]at this
    exact⟨_,this,Ch.putObj _ _ _,hk.ch (Ch.putObj _ _ _) (by simp)⟩
   rintro e W ⟨rfl,⟨g,h1,V,O,h3⟩|⟨e,c,h1,V,O,h3⟩⟩
   ·obtain⟨W',hr,L,hk⟩:=fin W .ready none O (by simp) h3
    exact⟨none,W',hr,hdone g W' _ V.1 (hst g N W W' V.1 h1 L) hk ⟨hf.size,by show [mkD w.heap.size]++a.defers=_;rw[hf.defs];rfl,hf.get⟩⟩
   ·obtain⟨W',hr,L,hk⟩:=fin W .done (some c) O (by simp) h3
    have hfr':Fr {a with defers:=[mkD w.heap.size]++a.defers} n (mkD w.heap.size::ds) l:=⟨hf.size,by show [mkD w.heap.size]++a.defers=_;rw[hf.defs];rfl,hf.get⟩
    refine⟨some c,W',hr,?_⟩
    rcases V with⟨rfl,rfl⟩|⟨id,rfl,rfl⟩
    ·exact wpIn_ret (hret W' _ (hxt _ W W' h1 L) hk hfr')
    ·exact wpIn_exit (hexit id W' _ (hxt _ W W' h1 L) hk hfr')
 ·rintro g k W0 W args hk ⟨h1,V,O,h3⟩ L hEk
  have hlt:w.heap.size+1<W0.heap.size:=(Qn.1 O).1
  have hl:W.heap[w.heap.size+1]?=some (.loop (rec .ready none)):=(L.block _ hlt (by have:=V.1;simp;omega)).trans O
  have hkk:Dfr W w.heap.size:=h3.ch L (by have:=V.1;simp;omega)
  have hlen':=hlen g k W0 W args hEk
  have hy:=run_yield (P:=P) (args:=args.toArray) hl (by rw[hrec];simpa using hlen')
  refine⟨fn,_,assign,body,by rw[hrec]at hy;exact hy,roundIn_of_wpIn hfn ?_⟩
  have hfr0:Fr ⟨(ps.zip args).foldl (fun t (p,v)=>t.setIfInBounds p v) a.tmps,[]⟩ n [] (Qhh ps args l):=Qjb ps args hps ⟨hf.size,rfl,hf.get⟩
  have hzip:((rec .ready none).params.zip args.toArray).foldl (fun t (p,v)=>t.setIfInBounds p v) (rec .ready none).tmps=(ps.zip args).foldl (fun t (p,v)=>t.setIfInBounds p v) a.tmps:=by
   rw[hrec];simp
  rw[hrec]at hzip
  simp only at hzip
  rw[hzip]
  refine wpIn_mono (hround g k W0 W args _ _ hk V.1 (Qy V.2 L.size) h1 L hlt hEk hlen' hl hkk hfr0) ?_
  rintro e a1 W' ⟨rfl,hl',hk',hbody⟩
  refine⟨_,run_beginRound hl' (by rw[hrec]),?_⟩
  have hltW:w.heap.size+1<W'.heap.size:=(Qn.1 hl').1
  have hc2:Ch [w.heap.size+1] W' (W'.putObj (w.heap.size+1) (.loop {rec .ready none with state:=.busy})):=Ch.putObj _ _ _
  have hl2:(W'.putObj (w.heap.size+1) (.loop {rec .ready none with state:=.busy})).heap[w.heap.size+1]?=some (.loop {rec .ready none with state:=.busy}):=World.putObj_heap_same hltW
  have hk2:=hk'.ch hc2 (by simp)
  refine wpIn_mono (hbody _ _ hc2 hl2 hk2) ?_
  have fin: ∀(jump:Option Code) (W3:World),W3.heap[w.heap.size+1]?=some (.loop {rec .ready none with state:=.busy})→Dfr W3 w.heap.size→
    ∃W4,(Instr.endRound (w.heap.size+1) jump).run P W3=.ok (.bool jump.isNone) W4∧Ch [w.heap.size+1] W3 W4∧W4.heap[w.heap.size+1]?=some (.loop (rec (if jump.isNone then .ready else .done) jump))∧Dfr W4 w.heap.size:=fun jump W3 hl3 hk3=>by
   have hend:=run_endRound (P:=P) jump hl3
   rw[hrec]at hend ⊢
   exact⟨_,hend,Ch.putObj _ _ _,World.putObj_heap_same (Qn.1 hl3).1,hk3.ch (Ch.putObj _ _ _) (by simp)⟩
  rintro e a3 W3 ⟨hl3,hk3,hp⟩
  cases e with
  |normal=>
   obtain⟨W4,hr,hc4,hl4,hk4⟩:=fin none W3 hl3 hk3
   have hg3:g<W3.heap.size:=Classical.byContradiction fun hn=>by
    have h5:=hp.2
    rw[Array.getElem?_eq_none_iff.2 (X9 hn)]at h5
    have:=Array.getElem?_eq_none_iff.1 h5.symm
    have:=Qy V.2 L.size
    omega
   refine⟨_,W4,hr,.inl ⟨rfl,⟨hst _ _ _ _ V.1 hp.1 hc4,⟨V.1,Qy hg3 hc4.size⟩,hl4,hk4⟩,?_⟩⟩
   rw[hc4.block g hg3 (by have:=V.1;simp;omega)]
   exact hp.2
  |ret=>
   obtain⟨W4,hr,hc4,hl4,hk4⟩:=fin (some .ret) W3 hl3 hk3
   exact⟨_,W4,hr,.inr ⟨rfl,.ret,.ret,hxt _ _ _ hp hc4,.inl ⟨rfl,rfl⟩,hl4,hk4⟩⟩
  |exit id=>
   obtain⟨W4,hr,hc4,hl4,hk4⟩:=fin (some (.exit id)) W3 hl3 hk3
   exact⟨_,W4,hr,.inr ⟨rfl,.exit id,.exit id,hxt _ _ _ hp hc4,.inr ⟨id,rfl,rfl⟩,hl4,hk4⟩⟩
  |goto t=>exact hp.elim
  |panic ch=>exact hp.elim
  |outgrown=>exact hp.elim
end
def ElU (t:Ty)(ag:List Value→List Value)(xs:List t.den)(Φ:Nat→Nat→World→Nat→Prop):Nat→Nat→World→World→List Value→Prop:=fun g k W0 W args=>
 ∃x cs,xs[k]?=some x∧args=ag cs∧t.rep W (fun b=>Φ g k W0 b∨W0.heap.size≤b) cs x
abbrev kU:Nat:=4711
def SqU (P:Program)(gf:FuncId)(cap:List Value)(Hc:List (Nat×Res))(t:Ty)(ag:List Value→List Value)(xs:List t.den):Prop:=
 ∀(Φ0:World→Nat→Prop) (Φ:Nat→Nat→World→Nat→Prop),SeqUk P gf cap xs.length (ElU t ag xs Φ) (fun W=>Hp ⟨0,[],W,[],Φ0 W⟩ Hc W) (fun g k W=>Hp ⟨0,[],W,[g],Φ g k W⟩ ((kU,.ob g lpT)::Hc) W)
def JU (ku g:Nat)(q:Obj→Prop)(J:Nat→List (Nat×Res)→Prop):Nat→List (Nat×Res)→Prop:=fun k nh=>∃nh0,nh=(ku,.ob g q)::nh0∧J k nh0
theorem Hp.swap {C:Cx}{H:List (Nat×Res)}{w:World}{k j:Nat}{r s:Res}(h:Hp C ((k,r)::(j,s)::H) w)(I:k≠j):Hp C ((j,s)::(k,r)::H) w:=h.ext fun i=>.inl (by
 rw[Qaa,Qaa,Qaa,Qaa]
 by_cases E:j=i
 ·rw[if_pos E,if_neg (fun e=>I (e.trans E.symm)),if_pos E]
 ·rw[if_neg E,if_neg E])
theorem Qci {k j:Nat}{g:Nat}{p:Obj→Prop}{H:List (Nat×Res)}(h:nrf k H=true):nrf k ((j,.ob g p)::H)=true:=by
 unfold nrf at h ⊢;rw[W6,h];rfl
theorem Hp.ob2 {C:Cx}{H:List (Nat×Res)}{w w':World}{kl ku L g:Nat}{p q:Obj→Prop}{s:Obj→Prop}{o:Obj}(h:Hp C ((kl,.ob L s)::(ku,.ob g p)::H) w)(E:kl≠ku)(I:nrf ku H=true)(N:Ch [g] w w')(O:w'.heap[g]?=some o)(hq:q o):Hp C ((kl,.ob L s)::(ku,.ob g q)::H) w':=
 ((h.swap E).ob (Qci I) N O hq).swap (Ne.symm E)
section
variable {P:Program}{Y:Exit→Act→World→Prop}{K:List Kx}{C:Cx}{l:List (Nat×Value)}{H:List (Nat×Res)}
abbrev HX (kd kl ku D L g:Nat) (p q:Obj→Prop) (nh H:List (Nat×Res)):List (Nat×Res):=HK kd kl D L p ((ku,.ob g q)::nh) H
theorem AX.rgfU {g:Operand}{ps:List Nat}{assign body:Code}{gf:FuncId}{cap:List Value}{Hc:List (Nat×Res)}{t:Ty}{ag:List Value→List Value}{xs:List t.den}
  (kd kl ku kn:Nat) (hs gs bs:List Nat) (J:Nat→List (Nat×Res)→Prop) (nh:List (Nat×Res)) (hcf: ∀args w,(callFunc gf args).run P w=.ok (.enter gf args) w) (hseq:SqU P gf cap Hc t ag xs) (hag: ∀cs,(ag cs).length=ps.length) (hJ0:J 0 nh)
  (hsub: ∀k nh D L u,J k nh→(∃ls,Sub (HX kd kl ku D L u lpT lpT nh (kpH H hs hs)) Hc [] ls∧ls.all (fun k=> !(Nat.beq k ku))=true)∧(nrf kl (hcat nh (kpH H hs hs))&&nrf ku (hcat nh (kpH H hs hs))&&(match hk (hcat nh (kpH H hs hs)) ku with|none=>true|_=>false))=true∧∀o p,nok (kpH (HX kd kl ku D L u (fun x=>x=o) p nh (kpH H hs hs)) [] bs) kn (lv t)=true)
  (hsub0: ∀D L,∃ls,Sub (HK kd kl D L lpT nh (kpH H hs hs)) Hc [] ls)
  (hround: ∀u ou k nh x D L W o,J k nh→xs[k]?=some x→t.ok x→Hp C (HX kd kl ku D L u (fun x=>x=o) (fun x=>x=ou) nh (kpH H hs hs)) W→tele (lv t) fun pl=>
   AX (some L) P (fun _ _ _=>False) [.m (MF P D L o (fun o2=>RQ D L o2 (IK C kd kl D L (JU ku u (fun x=>x=ou) J) (kpH H hs hs)) (XK P Y K C l D L) k) body)] assign
    ⟨C.n,[],W,blks (HX kd kl ku D L u (fun x=>x=o) (fun x=>x=ou) nh (kpH H hs hs)) (mvl (HX kd kl ku D L u (fun x=>x=o) (fun x=>x=ou) nh (kpH H hs hs)) bs),Fh C (HX kd kl ku D L u (fun x=>x=o) (fun x=>x=ou) nh (kpH H hs hs))⟩ (Qhh ps (ag (cl t x pl)) l)
    (hcat (kx kn (rs t x pl)) (kpH (HX kd kl ku D L u (fun x=>x=o) (fun x=>x=ou) nh (kpH H hs hs)) [] bs)))
  (hdone: ∀u nh D L,J xs.length nh→AE none P Y K .normal ⟨C.n,mkD D::C.ds,C.w0,C.S,C.F⟩ l (HX kd kl ku D L u lpT lpT nh (kpH H hs hs)))
  (hg:ev l g=some (.func (.func gf) #[] cap.toArray):=by rfl) (hps:ps.all (fun p=>Nat.ble (p+1) C.n)=true:=by rfl) (h0:kpH H gs gs=hcat nh (kpH H hs hs):=by kernel_rfl)
  (hn1:hk (hcat nh (kpH H hs hs)) kd=none:=by kernel_rfl) (hn2:hk (hcat nh (kpH H hs hs)) kl=none:=by kernel_rfl) (hne:Nat.beq kd kl=false:=by rfl) (hne1:Nat.beq kl ku=false:=by rfl) (hne2:Nat.beq kd ku=false:=by rfl) (hbs:nod bs=true:=by rfl) (hHc:nod (kU::Hc.map (·.1))=true:=by rfl):
  AX none P Y K (.rangeFunc g ps.toArray assign body) C l H:=fun a w hf hh=>by
 have hne:kd≠kl:=fun e=>by rw[e,Xv]at hne;cases hne
 have hlu:kl≠ku:=fun e=>by rw[e,Xv]at hne1;cases hne1
 have hdu:kd≠ku:=fun e=>by rw[e,Xv]at hne2;cases hne2
 have hHc0:nod (Hc.map (·.1))=true:=by unfold nod at hHc;rw[Qk]at hHc;exact hHc.2
 obtain⟨I,hI⟩: ∃I:Nat→Nat→World→Prop,I=fun g k W=>∃nh,J k nh∧Hp C (HX kd kl ku w.heap.size (w.heap.size+1) g lpT lpT nh (kpH H hs hs)) W:=⟨_,rfl⟩
 obtain⟨Φ,hΦ⟩: ∃Φ:Nat→Nat→World→Nat→Prop,Φ=fun g k W b=>∃h:(∃nh,J k nh∧Hp C (HX kd kl ku w.heap.size (w.heap.size+1) g lpT lpT nh (kpH H hs hs)) W),Fh C (HX kd kl ku w.heap.size (w.heap.size+1) g lpT lpT (Classical.choose h) (kpH H hs hs)) b:=⟨_,rfl⟩
 have hΦe: ∀g k W (h: ∃nh,J k nh∧Hp C (HX kd kl ku w.heap.size (w.heap.size+1) g lpT lpT nh (kpH H hs hs)) W),Φ g k W=Fh C (HX kd kl ku w.heap.size (w.heap.size+1) g lpT lpT (Classical.choose h) (kpH H hs hs)):=fun g k W h=>by
  subst hΦ;funext b;exact propext ⟨fun⟨_,E⟩=>E,fun E=>⟨h,E⟩⟩
 have hch: ∀{k:Nat} {nh:List (Nat×Res)},J k nh→nrf kl (hcat nh (kpH H hs hs))=true∧nrf ku (hcat nh (kpH H hs hs))=true∧hk (hcat nh (kpH H hs hs)) ku=none:=fun h=>by
  have:=(hsub _ _ 0 0 0 h).2.1
  rw[Qk,Qk]at this
  refine⟨this.1.1,this.1.2,?_⟩
  have E:=this.2
  split at E
  ·assumption
  ·cases E
 have hlast: ∀{k g D:Nat} {q:Obj→Prop} {nh:List (Nat×Res)},J k nh→nrf kl ((kd,.ob D dfT)::hcat ((ku,.ob g q)::nh) (kpH H hs hs))=true:=fun h=>Qci (Qci (hch h).1)
 have hlast0: ∀{k D:Nat} {nh:List (Nat×Res)},J k nh→nrf kl ((kd,.ob D dfT)::hcat nh (kpH H hs hs))=true:=fun h=>Qci (hch h).1
 have hext: ∀{g D L:Nat} {p q:Obj→Prop} {nh:List (Nat×Res)} {W:World},Hp C (HX kd kl ku D L g p q nh (kpH H hs hs)) W↔Hp C ((kl,.ob L p)::(ku,.ob g q)::(kd,.ob D dfT)::hcat nh (kpH H hs hs)) W:=by
  intro g D L p q nh W
  have e: ∀i,hk (HX kd kl ku D L g p q nh (kpH H hs hs)) i=hk ((kl,.ob L p)::(ku,.ob g q)::(kd,.ob D dfT)::hcat nh (kpH H hs hs)) i:=fun i=>by
   show hk ((kl,.ob L p)::(kd,.ob D dfT)::(ku,.ob g q)::hcat nh (kpH H hs hs)) i=_
   simp only[Qaa]
   by_cases h1:kl=i
   ·rw[if_pos h1,if_pos h1]
   ·rw[if_neg h1,if_neg h1]
    by_cases E:kd=i
    ·rw[if_pos E,if_neg (fun e=>hdu (E.trans e.symm)),if_pos E]
    ·rw[if_neg E,if_neg E]
  exact⟨fun h=>h.ext fun i=>.inl (e i).symm,fun h=>h.ext fun i=>.inl (e i)⟩
 have htu: ∀{k g D L:Nat} {p q q':Obj→Prop} {nh:List (Nat×Res)} {W W':World} {o:Obj},J k nh→Hp C (HX kd kl ku D L g p q nh (kpH H hs hs)) W→Ch [g] W W'→W'.heap[g]?=some o→q' o→Hp C (HX kd kl ku D L g p q' nh (kpH H hs hs)) W':=fun V h O ho hq=>hext.2 ((hext.1 h).ob2 hlu (Qci (hch V).2.1) O ho hq)
 have hgo: ∀{g D L:Nat} {p q:Obj→Prop} {nh:List (Nat×Res)} {W:World},Hp C (HX kd kl ku D L g p q nh (kpH H hs hs)) W→∃o,W.heap[g]?=some o∧q o:=fun h=>(hext.1 h).hold ku (.ob _ _) (by rw[Qaa,if_neg hlu,Qaa,if_pos rfl])
 have hlo: ∀{g D L:Nat} {p q:Obj→Prop} {nh:List (Nat×Res)} {W:World},Hp C (HX kd kl ku D L g p q nh (kpH H hs hs)) W→∃o,W.heap[L]?=some o∧p o:=fun h=>(hext.1 h).hold kl (.ob _ _) (by rw[Qaa,if_pos rfl])
 have grow: ∀{b:Nat} {o:Obj} {S:List Nat} {W W':World},W.heap[b]?=some o→Ch S W W'→∃o',W'.heap[b]?=some o':=fun ho O=>⟨_,Wi (Qy (Qn.1 ho).1 O.size)⟩
 refine rangeKU hf hg hcf xs.length _ _ _ (IK C kd kl w.heap.size (w.heap.size+1) (fun _ x=>x=nh) (kpH H hs hs) 0) I (XK P Y K C l w.heap.size (w.heap.size+1)) (hseq (fun W=>Fh C (HK kd kl w.heap.size (w.heap.size+1) lpT nh (kpH H hs hs))) Φ) (fun g k W0 W args ⟨x,cs,_,E,_⟩=>by rw[E];exact hag cs) (fun p hp=>Q0 (Q7.1 hps p hp)) ?_ ?_ ?_ ?_ ?_ ?_ ?_ ?_ ?_ ?_ ?_ ?_
 ·rintro W1 ⟨W',hc1,hz1,hd,hc2,hz2⟩ ⟨o,ho⟩
  refine⟨nh,rfl,?_⟩
  have h1:Hp C (hcat nh (kpH H hs hs)) w:=hh.cov gs h0
  have E:Hp C ((kd,.ob w.heap.size dfT)::hcat nh (kpH H hs hs)) W':=h1.new hn1 hc1 (fun b hb=>by simp only[Res.bl,Qi]at hb;omega) (fun j hj=>by cases hj) fun F B _ _ _=>⟨_,hd,rfl⟩
  refine E.new (by rw[Qaa,if_neg hne];exact hn2) hc2 (fun b hb=>by simp only[Res.bl,Qi]at hb;omega) (fun j hj=>by cases hj) fun F B _ _ _=>⟨o,ho,trivial⟩
 ·rintro W W' ⟨nh',rfl,N⟩ O
  obtain⟨o,ho,_⟩: ∃o,W.heap[w.heap.size+1]?=some o∧lpT o:=N.hold kl (.ob (w.heap.size+1) lpT) (by rw[Qaa,if_pos rfl])
  obtain⟨o',ho'⟩:=grow ho O
  exact⟨nh',rfl,N.ob (hlast0 hJ0) O ho' trivial⟩
 ·rintro u k W W' _ hIk O
  subst hI
  obtain⟨nh',V,N⟩:=hIk
  obtain⟨o,ho,_⟩:=hlo N
  obtain⟨o',ho'⟩:=grow ho O
  exact⟨nh',V,N.ob (hlast V) O ho' trivial⟩
 ·rintro u k W W' _ hIk O
  subst hI
  obtain⟨nh',V,N⟩:=hIk
  obtain⟨o,ho,_⟩:=hgo N
  obtain⟨o',ho'⟩:=grow ho O
  exact⟨nh',V,htu V N O ho' trivial⟩
 ·rintro u W W' ⟨nh',rfl,N⟩ O hu hu'
  subst hI
  refine⟨nh',hJ0,hext.2 ?_⟩
  have h1:Hp C ((kl,.ob (w.heap.size+1) lpT)::(kd,.ob w.heap.size dfT)::hcat nh' (kpH H hs hs)) W:=N
  have E:hk ((kl,.ob (w.heap.size+1) lpT)::(kd,.ob w.heap.size dfT)::hcat nh' (kpH H hs hs)) ku=none:=by
   rw[Qaa,if_neg hlu,Qaa,if_neg hdu];exact(hch hJ0).2.2
  exact(h1.new (r':=.ob u lpT) E O (fun b hb=>by simp only[Res.bl,Qi]at hb;omega) (fun j hj=>by cases hj) fun F B _ _ _=>⟨_,Wi hu',trivial⟩).swap (Ne.symm hlu)
 ·exact fun e W W' h O W2 hc2=>h W2 (Ch.then (U:=[w.heap.size+1]) O hc2 (by simp) (by simp))
 ·rintro W ⟨nh',rfl,N⟩
  obtain⟨ls,hS⟩:=hsub0 w.heap.size (w.heap.size+1)
  exact hS.hp N hHc0 rfl (by simp)
 ·intro u k W _ h
  subst hI
  show Hp ⟨0,[],W,[u],Φ u k W⟩ _ W
  rw[hΦe u k W h]
  obtain⟨V,N⟩:=Yg h
  obtain⟨ls,hS,hls⟩:=(hsub _ _ w.heap.size (w.heap.size+1) u V).1
  have hku:hk (HX kd kl ku w.heap.size (w.heap.size+1) u lpT lpT (Classical.choose h) (kpH H hs hs)) ku=some (.ob u lpT):=by
   rw[Qaa,if_neg hlu,Qaa,if_neg hdu]
   show hk ((ku,.ob u lpT)::hcat (Classical.choose h) (kpH H hs hs)) ku=_
   rw[Qaa,if_pos rfl]
  have h3:=(Sub.m (k0:=kU) ku hS hku rfl).hp N hHc rfl (by simpa using hls)
  have e:blks (HX kd kl ku w.heap.size (w.heap.size+1) u lpT lpT (Classical.choose h) (kpH H hs hs)) [(kU,ku)]=[u]:=by
   unfold blks;rw[hku];rfl
  rw[e]at h3
  exact h3
 ·intro u k W0 W args a1 o hk1 _ hgW hIk O hlt ⟨x,cs,hx,hargs,hrep⟩ hlen ho hdf hfr
  subst hI
  rw[hΦe u k W0 hIk]at hrep
  obtain⟨V,N⟩:=Yg hIk
  obtain⟨nh',hnh⟩: ∃nh',nh'=Classical.choose hIk:=⟨_,rfl⟩
  rw[←hnh]at hrep V N
  obtain⟨ou,hou⟩: ∃ou,W.heap[u]?=some ou:=⟨_,Wi hgW⟩
  have hWu:Hp C (HX kd kl ku w.heap.size (w.heap.size+1) u lpT (fun x=>x=ou) nh' (kpH H hs hs)) W:=htu V N O hou rfl
  have hW1:Hp C (HX kd kl ku w.heap.size (w.heap.size+1) u (fun x=>x=o) (fun x=>x=ou) nh' (kpH H hs hs)) W:=hWu.ob (hlast V) (Ch.refl' _ _) ho rfl
  have hb:=(Qcn (HX kd kl ku w.heap.size (w.heap.size+1) u (fun x=>x=o) (fun x=>x=ou) nh' (kpH H hs hs)) bs).hp hW1 (Qag.2 ((Qdy _ _ bs).nodup (Qag.1 hbs))) (Qag.2 ((Qcs _ bs).nodup (Qag.1 hbs))) (by simp)
  have hpq: ∀j b,Bk (HX kd kl ku w.heap.size (w.heap.size+1) u (fun x=>x=o) (fun x=>x=ou) nh' (kpH H hs hs)) j b→Bk (HX kd kl ku w.heap.size (w.heap.size+1) u lpT lpT nh' (kpH H hs hs)) j b:=fun j b ⟨r,h1,E⟩=>by
   have h1':hk ((kl,.ob (w.heap.size+1) (fun x=>x=o))::(kd,.ob w.heap.size dfT)::(ku,.ob u (fun x=>x=ou))::hcat nh' (kpH H hs hs)) j=some r:=h1
   show Bk ((kl,.ob (w.heap.size+1) lpT)::(kd,.ob w.heap.size dfT)::(ku,.ob u lpT)::hcat nh' (kpH H hs hs)) j b
   unfold Bk
   simp only[Qaa]at h1' ⊢
   by_cases e1:kl=j
   ·rw[if_pos e1]at h1' ⊢
    injection h1' with h1';subst h1'
    exact⟨_,rfl,E⟩
   ·rw[if_neg e1]at h1' ⊢
    by_cases e2:kd=j
    ·rw[if_pos e2]at h1' ⊢
     exact⟨r,h1',E⟩
    ·rw[if_neg e2]at h1' ⊢
     by_cases e3:ku=j
     ·rw[if_pos e3]at h1' ⊢
      injection h1' with h1';subst h1'
      exact⟨_,rfl,E⟩
     ·rw[if_neg e3]at h1' ⊢
      exact⟨r,h1',E⟩
  have hrep2:t.rep W (Fh ⟨C.n,[],W,blks (HX kd kl ku w.heap.size (w.heap.size+1) u (fun x=>x=o) (fun x=>x=ou) nh' (kpH H hs hs)) (mvl (HX kd kl ku w.heap.size (w.heap.size+1) u (fun x=>x=o) (fun x=>x=ou) nh' (kpH H hs hs)) bs),Fh C (HX kd kl ku w.heap.size (w.heap.size+1) u (fun x=>x=o) (fun x=>x=ou) nh' (kpH H hs hs))⟩ (kpH (HX kd kl ku w.heap.size (w.heap.size+1) u (fun x=>x=o) (fun x=>x=ou) nh' (kpH H hs hs)) [] bs)) cs x:=by
   have hnb: ∀b,(∀j,¬Bk (HX kd kl ku w.heap.size (w.heap.size+1) u (fun x=>x=o) (fun x=>x=ou) nh' (kpH H hs hs)) j b)→∀j,¬Bk (kpH (HX kd kl ku w.heap.size (w.heap.size+1) u (fun x=>x=o) (fun x=>x=ou) nh' (kpH H hs hs)) [] bs) j b:=fun b hB j ⟨r,h1,E⟩=>hB j ⟨r,(Qbw h1).1,E⟩
   refine rep_to hrep (S:=[]) (Ch.refl W) fun b hb hl=>⟨by simp,?_⟩
   have:Fh C (HX kd kl ku w.heap.size (w.heap.size+1) u (fun x=>x=o) (fun x=>x=ou) nh' (kpH H hs hs)) b:=by
    rcases hb with hb|hb
    ·exact⟨fun j hj=>hb.1 j (hpq j b hj),hb.2⟩
    ·exact⟨fun j hj=>by have:=(N.bnd j b (hpq j b hj)).2;omega,.inr (.inl (Wl N.ch.size hb))⟩
   exact⟨hnb b this.1,.inl this⟩
  obtain⟨pl,hpl,hcs,hb2⟩:=Qej hb.nds hrep2 kn ((hsub _ _ w.heap.size (w.heap.size+1) u V).2.2 o _)
  subst hcs
  rw[hargs]at hfr
  refine wpIn_mono (Qav (hround u ou k nh' x w.heap.size (w.heap.size+1) W o V hx (rep_ok t hrep) hW1) pl hpl a1 W hfr hb2) fun e a2 W2 he=>?_
  cases e with
  |normal=>
   obtain⟨h1,E,h3⟩:=he
   refine⟨rfl,h1,E,fun W3 o2 hc3 ho3 hd3=>wpIn_mono (h3 W3 o2 hc3 ho3 hd3) fun e a4 W4 he4=>?_⟩
   obtain⟨h5,h6,h7⟩:=he4
   refine⟨h5,h6,?_⟩
   cases e with
   |normal=>
    obtain⟨nh2,⟨nh3,rfl,hJ3⟩,h8⟩:=h7
    obtain⟨o9,ho9,rfl⟩:=hgo (q:=fun x=>x=ou) h8
    exact⟨⟨nh3,hJ3,htu (q:=fun x=>x=o9) hJ3 h8 (Ch.refl' _ _) ho9 trivial⟩,ho9.trans hou.symm⟩
   |_=>exact h7
  |_=>exact False.elim he
 ·rintro u W a' _ hIk hd hf'
  subst hI
  obtain⟨nh',V,N⟩:=hIk
  exact hdone u nh' _ _ V a' W hf' N.nds
 ·exact fun W a' hX hd hf'=>hX W (Ch.refl' _ _) a' hf'
 ·exact fun id W a' hX hd hf'=>hX W (Ch.refl' _ _) a' hf'
end
structure YlU (P:Program) (lid:Nat) (J0:World→Prop) (J:Nat→Nat→World→Prop) (Jx:World→Prop) (Φ0:World→Nat→Prop) (Φ:Nat→Nat→World→Nat→Prop) (Hc:List (Nat×Res)) (t:Ty) (ag:List Value→List Value) (xs:List t.den):Prop where
 js0: ∀W W',J0 W→Ch [] W W'→J0 W'
 js: ∀g k W W',J g k W→Ch [g] W W'→J g k W'
 jx: ∀W W',Jx W→Ch [] W W'→Jx W'
 dat0: ∀W,J0 W→Hp ⟨0,[],W,[],Φ0 W⟩ Hc W
 cv: ∀g W W',J0 W→Ch [] W W'→W.heap.size≤g→g<W'.heap.size→J g 0 W'
 dat: ∀g k W,J g k W→Hp ⟨0,[],W,[g],Φ g k W⟩ ((kU,.ob g lpT)::Hc) W
 y: ∀g k W0 W args,k<xs.length→J g k W0→Ch [g] W0 W→ElU t ag xs Φ g k W0 W args→YieldAt (FW none) 0 P lid args.toArray W fun e W'=>(e=.returned (.bool true)∧J g (k+1) W'∧W'.heap[g]?=W.heap[g]?)∨(e=.returned (.bool false)∧Jx W')
abbrev CY0 (n:Nat) (Φ0:World→Nat→Prop) (w:World):Cx:=⟨n,[],w,[],Φ0 w⟩
abbrev CYU (n g:Nat) (Φ:Nat→Nat→World→Nat→Prop) (i:Nat×World):Cx:=⟨n,[],i.2,[g],Φ g i.1 i.2⟩
section
variable {P:Program}{lid:Nat}{J0:World→Prop}{J:Nat→Nat→World→Prop}{Jx:World→Prop}{Φ0:World→Nat→Prop}{Φ:Nat→Nat→World→Nat→Prop}{Hc:List (Nat×Res)}{t:Ty}{ag:List Value→List Value}{xs:List t.den}{n:Nat}
theorem SqU.enter {gf:FuncId}{fn:Func}{c:Code}{cap:List Value}(L:P.funcs[gf]?=some fn)(N:fn.body=some c)(O:fn.ntmps=n)(V:Nat.ble (cap.length+1) n=true)
  (h: ∀lid w J0 J Jx Φ0 Φ,YlU P lid J0 J Jx Φ0 Φ Hc t ag xs→J0 w→AX none P (bodyPost P fn fun e W'=>e=.returned (.tuple #[])∧((∃g,J g xs.length W')∨Jx W')) [] c (CY0 n Φ0 w) (argl (.func (.yield lid) #[] #[]::cap) 0) Hc):SqU P gf cap Hc t ag xs:=fun Φ0 Φ lid w J0 J Jx W h2 h3 E h5 h6 I h8=>
 Z.enter L N O (Q0 V) fun a hf'=>h lid w J0 J Jx Φ0 Φ ⟨W,h2,h3,E,h5,h6,h8⟩ I a w hf' (E w I).nds
theorem Hp.turn {C:Cx}{H:List (Nat×Res)}{w:World}{k g p:Nat}{s:ByteArray}{q:Obj→Prop}(h:Hp C ((k,.ob g q)::H) w)(hs:Si w g s p)(N:nrf k H=true):Hp C ((k,.si g s p)::H) w:=by
 have O:Hp C ((k,.si g s p)::drp k ((k,.ob g q)::H)) w:=h.upd (Ch.refl w) (fun b E=>by cases E) (fun b E=>.inl (Bk.cons_eq.2 E)) (fun j I=>by cases I) fun _ _ _ _ _ _ _=>hs
 refine O.ext fun j=>.inl ?_
 rw[Qaa,Qaa]
 by_cases e:k=j
 ·rw[if_pos e,if_pos e]
 ·rw[if_neg e,if_neg e,Qbi,Qaa,if_neg e]
  cases I:hk H j with
  |none=>rfl
  |some v=>
   have:=nrf_spec N I
   cases L:v.ref with
   |none=>simp[rin,L]
   |some i=>
    have V:i≠k:=fun e=>this (by rw[L,e])
    have E:Nat.beq i k=false:=by cases E:Nat.beq i k with
     |false=>rfl
     |true=>exact absurd (Wj E) V
    simp[rin,L,E]
theorem AL.rgsU {ops:Array Oper}{Q:Exit→Act→World→Prop}{rest:List Oper}{l:List (Nat×Value)}{H:List (Nat×Res)}{d:Nat}{T:TypeId}{pos:String}{af:Array Edge}{L:World}{tt:TypeId}{x:Operand}{s:ByteArray}(E:YlU P lid J0 J Jx Φ0 Φ Hc t ag xs)(O:J0 L)
  (h: ∀g w',J g 0 w'→AL none P ops Q rest (CYU n g Φ (0,w')) ((d,.pointer (some ⟨g,0,none⟩))::l) ((kU,.si g s 0)::Hc))
  (V:P.underlying tt=some .string:=by rfl) (W:ev l x=some (.string s):=by rfl) (hd:Nat.ble (d+1) n=true:=by rfl) (hr:nrf kU Hc=true:=by kernel_rfl):AL none P ops Q (⟨some d,.range tt x,T,pos,af,none⟩::rest) (CY0 n Φ0 L) l H:=fun a w hf hh=>
 Z.st_rangeStr hf hd V W fun g w' a' hg hs N I hf'=>by
  have hJ':J g 0 w':=E.cv g w w' (E.js0 _ _ O hh.ch) I (by omega) N.lt
  exact h g w' hJ' a' w' hf' ((E.dat g 0 w' hJ').turn N hr).nds
theorem AL.yieldU {ops:Array Oper}{Q:Exit→Act→World→Prop}{rest:List Oper}{l:List (Nat×Value)}{H:List (Nat×Res)}{d:Nat}{T:TypeId}{pos:String}{af:Array Edge}{c:Operand}{ass:List Operand}{ts:Array TypeId}{vs:List Value}{g k p:Nat}{L:World}{s:ByteArray}{x:t.den}{rs:List t.den}
  (W:YlU P lid J0 J Jx Φ0 Φ Hc t ag xs) (hJ:J g k L) (N:Rem xs k (x::rs)) (cs:List Value) (hD:Dat H t cs x)
  (ht: ∀w',J g (k+1) w'→Rem xs (k+1) rs→AL none P ops Q rest (CYU n g Φ (k+1,w')) ((d,.bool true)::l) ((kU,.si g s p)::Hc))
  (he: ∀w',Jx w'→AL none P ops Q rest ⟨n,[],w',[],no⟩ ((d,.bool false)::l) [])
  (I:hk H kU=some (.si g s p):=by rfl) (hr:nrf kU Hc=true:=by kernel_rfl)
  (hc:ev l c=some (.func (.yield lid) #[] #[]):=by rfl) (hx:evs l ass=some vs:=by rfl) (hv:ag cs=vs:=by rfl) (hd:Nat.ble (d+1) n=true:=by rfl):
  AL none P ops Q (⟨some d,.call {callee:=.value c,args:=ass.toArray,argTypes:=ts},T,pos,af,none⟩::rest) (CYU n g Φ (k,L)) l H:=fun a w hf O=>by
 subst hv
 have V:k<xs.length:=(Qc.1 N.at).1
 have hs:Si w g s p:=O.hold kU _ I
 refine callY hf hd hc hx (W.y g k L w _ V hJ O.ch ⟨x,cs,N.at,rfl,Qev (Dat.rep O t hD) fun b hb hl=>?_⟩) ?_
 ·rcases hb.2 with E|E|E
  ·exact .inl E
  ·exact .inr E
  ·exact absurd (show Bk H kU b from⟨_,I,E⟩) (hb.1 kU)
 ·rintro e w' (⟨rfl,E,h2⟩|⟨rfl,E⟩)
  ·exact⟨_,rfl,fun a' hf'=>ht w' E N.next a' w' hf' ((W.dat _ _ _ E).turn (show Si w' g s p from h2.trans hs) hr).nds⟩
  ·exact⟨_,rfl,fun a' hf'=>he w' E a' w' hf' ⟨Ch.refl' _ _,fun k r h=>(by cases h),fun k b ⟨_,h,_⟩=>(by cases h),fun k k' b ⟨_,h,_⟩=>(by cases h),fun k r j h=>(by cases h)⟩⟩
theorem AE.rtYU {fn:Func}{l:List (Nat×Value)}{H:List (Nat×Res)}{g k:Nat}{E:World}(I:YlU P lid J0 J Jx Φ0 Φ Hc t ag xs)(L:J g k E)(N:Rem xs k [])(h:fn.results=#[]:=by rfl):AE none P (bodyPost P fn fun e W'=>e=.returned (.tuple #[])∧((∃g,J g xs.length W')∨Jx W')) [] .normal (CYU n g Φ (k,E)) l H:=fun a w O V=>
 Z.endv O (Z.res0 h w) ⟨rfl,.inl ⟨g,N.nil▸I.js _ _ _ _ L V.ch⟩⟩
theorem AX.rtXU {fn:Func}{K:List Kx}{l:List (Nat×Value)}{H:List (Nat×Res)}{E:World}{F:Nat→Prop}(I:YlU P lid J0 J Jx Φ0 Φ Hc t ag xs)(L:Jx E)(h:fn.results=#[]:=by rfl):AX none P (bodyPost P fn fun e W'=>e=.returned (.tuple #[])∧((∃g,J g xs.length W')∨Jx W')) K .ret ⟨n,[],E,[],F⟩ l H:=AX.ret0 fun a w N O=>
 Z.retv N (Z.res0 h w) ⟨rfl,.inr (I.jx _ _ L O.ch)⟩
end
end Go.A
end
section
namespace Go.Proofs.YtlhiofnikdppeaaGreatDoor
open Go.RowKit
variable(A0_ A1_ A2_ A3_ A4_ A5_ A6_ A7_ A8_ A10_ A12_ A13_ A17_:Option Addr)(b0_ g0_ b1_ c1_ c2_ g2_ c3_ b4_ c4_ b5_ c5_ b6_ c6_ c7_ c8_ c9_ g10_ c11_ c13_ c14_ c18_:Nat)
def F.aG (h:ByteArray):Nat→Nat→Option (List (Int×Int))
 |0,_=>none
 |f+1,e=>if e<h.size then(A.cns ((e:Int),((Utf8.decode h e).1:Int)) ((F.aG h f) (e+(Utf8.decode h e).2)))else(some [])
def F.dr (e:ByteArray):Option (List (Int×Int)):=F.aG e A.FU 0
theorem o_aJ(k:ByteArray)(y:k.size≤maxLen)(xs:List (Int×Int))(o:F.dr k=some xs):
    A.SqU Tryz.prog 171 [.pointer (some ⟨g0_,0,none⟩)] [(0,.el none g0_ 0 [.string k])] (Z.Ty.pair A.ti (Z.Ty.int .i32)) (fun cs=>[Z.vof false (cs.take 1),Z.vof false (cs.drop 1)]) xs:=by
 refine A.SqU.enter Tryz.func171 rfl Tryz.ntmps171 rfl fun lid L J0 J Jx Φ0 Φ hY hJ0=>?_;obtain⟨rs0,hrs⟩: ∃rs0,rs0=xs:=⟨_,rfl⟩
 have hR0:A.Rem xs 0 rs0:=hrs▸A.Rem.zero xs
 rw[F.dr,←hrs]at o
 clear hrs
 refine Jc 1 ?_;refine Jf [] [0] [.e 0 0] [(5,.string k)] ?_;refine A.AL.rgsU hY hJ0 fun p z hJ3=>?_;refine Jd 2 ?_;refine A.AX.loopC (A.CYU 16 p Φ) (0,z) [0,6] [] [4711] (fun f i B E=>∃(h:Nat),∃(rs:List (Int×Int)),B=[]∧E=[(4711,.si p k h)]∧J p i.1 i.2∧A.Rem xs i.1 rs∧F.aG k f h=some rs) A.FU [] [(4711,.si p k 0)] ⟨0,_,rfl,rfl,hJ3,hR0,o⟩ ?_;rintro s ⟨I,N⟩ _ _ ⟨h,rs10,rfl,rfl,hJ8,hR9,o⟩;rcases s with _|s
 ·exact J1 o
 rw[F.aG]at o;refine Jc 1 ?_;refine A.AL.nxs 4711 [] o (fun hb11 o=>?_) (fun O o=>?_)
 ·refine Ji 1 [(8,.bool true)] (Jd 2 ?_);refine Vn rfl ?_;refine Jc 4 ?_;refine Ji 4 [(3,A.i (h:Int)),(4,.int .i32 ((Utf8.decode k h).1:Int))] (Jk 2 ?_);refine Ji 3 [(11,.func (.yield lid) #[] #[]),(12,A.i (h:Int)),(13,.int .i32 ((Utf8.decode k h).1:Int))] ?_;obtain⟨rs12,hqrs12,o⟩:=A.cns_some o;refine A.AL.yieldU (t:=.pair A.ti (Z.Ty.int .i32)) (x:=((h:Int),((Utf8.decode k h).1:Int))) hY hJ8 (hqrs12▸hR9) [A.i (h:Int),.int .i32 ((Utf8.decode k h).1:Int)] ⟨⟨rfl,(A.si_has hb11 y)⟩,⟨rfl,A.dec_has⟩⟩ (fun u hJ14 hR15=>?_) (fun u hX16=>?_)
  ·refine Ji 1 [(15,.bool false)] (Jd 1 ?_);refine Vk rfl ?_;refine Vi 2 ?_;exact A.AE.jC (I+1,u) [4711] [] [(4711,.si p k (h+(Utf8.decode k h).2))] ⟨_,Ql _,⟨(h+(Utf8.decode k h).2),_,rfl,rfl,hJ14,hR15,o⟩⟩
  refine Ji 1 [(15,.bool true)] (Jd 1 ?_);refine Vn rfl ?_;exact A.AX.rtXU hY hX16
 refine Ji 1 [(8,.bool false)] (Jd 2 ?_);refine Vk rfl ?_;refine Vi 1 ?_;obtain rfl:=Jm o;exact A.AE.rtYU hY hJ8 hR9
def F.bU (e:ByteArray)(k:Int):List (Int×Int)→Int→Option ByteArray
 | [],h=>if(e.size:Int)≤k then(some e)else(A.gd (0≤h∧h≤(e.size:Int)) (some (e.extract 0 h.toNat)))
 |o::f,h=>if k<o.1 then(A.gd (0≤h∧h≤(e.size:Int)) (some (e.extract 0 h.toNat)))else((F.bU e k f) o.1)
def F.eW (e:ByteArray)(f:Int):Option ByteArray:=(F.eF e).bind fun h=>((F.dr h).bind fun k=>F.bU e f k 0)
theorem o_bx (f:ByteArray)(s:Int)(y:f.size≤maxLen)(a5:A.h6 s)(r:ByteArray)(e:F.eW f s=some r):
    A.Ct Tryz.prog 103 [.string f,A.i s] [] [] (fun v H'=>v=.string r∧H'=[]∧r.size≤maxLen):=by
 refine Ua Tryz.func103 rfl Tryz.ntmps103 rfl fun w0 F0=>?_;rw[F.eW]at e;refine Jc 1 ?_;refine Jl 0 (cs:=[.string f]) fun U=>?_;refine Jl 1 (cs:=[A.i s]) fun V=>?_;refine Jh 2 (cs:=[.string (ByteArray.mk #[])]) Tryz.zeroValue9 fun W=>?_;refine Jk 2 ?_;refine Jh 3 (cs:=[A.i 0]) Tryz.zeroValue3 fun z=>?_;refine Jw 3 [] [A.i 0] ?_;refine Jk 3 ?_;refine Jf [0] [] [.b 0 0] [(7,.string f)] ?_;refine Va 4 [] e (o_bj f y) .nil ?_;rintro E - e _ _ ⟨I,rfl,rfl,hr8⟩;refine Jq ?_;refine Jd 2 ?_;have⟨L,X,e⟩:=Vo e;refine A.AX.rgfU 44 45 46 47 [0,1,2,4] [3,0,1,2,4] [45,44,3,0,1,2,4] (fun k nh=>∃(h:Int),nh=[(3,.blk z 3 [A.i h])]∧A.h6 h∧F.bU f s (List.drop k L) h=some r) [(3,.blk z 3 [A.i 0])] cf171 (o_aJ I E hr8 L X) (fun _=>rfl) ⟨0,rfl,Js,e⟩ ?_ ?_ ?_ ?_
 ·rintro a2 _ D13 L14 B ⟨h,rfl,N,e⟩;exact⟨⟨_,(.b 4 .nil),rfl⟩,by kernel_rfl,fun o p=>rfl⟩
 ·intro D13 L14;exact⟨_,(.b 4 .nil)⟩
 ·rintro B ou12 a2 _ u D13 L14 a6 a7 ⟨h,rfl,N,e⟩ hx21 hxo22 O;rw[Ue hx21,F.bU]at e
  refine Jc 0 ?_;refine Ji 1 [(6,A.i u.1)] (Je ?_);refine Uf 44 45 fun a8=>?_;refine Jc 3 ?_;refine Jf [1] [] [.n,.b 0 0,.n] [(13,.bool (decide (s<u.1)))] (Jd 1 ?_);refine J9 e ?_ ?_<;>intro hb e
  ·refine Jc 1 ?_;refine Jf [0,3] [] [.b 0 0,.b 1 0] [(14,.string f),(15,A.i h)] ?_;have⟨a3,e⟩:=Ve e;refine A.AL.slh a3 ?_;refine Jw 2 [] [.string (f.extract 0 h.toNat)] ?_;refine Jd 1 ?_;refine A.AX.bret O [45,0,1,2,3,4,44] 100000 [(45,100045),(0,100000),(1,100001),(2,100002),(3,100003),(4,100004),(44,100044)] [(0,.blk U 9 [.string f]),(1,.blk V 3 [A.i s]),(2,.blk W 9 [.string (f.extract 0 h.toNat)]),(3,.blk z 3 [A.i h]),(4,.blk I 9 [.string E]),(44,.ob D13 A.dfT)] ?_ rfl rfl
   obtain rfl:=Jm e;exact A.AE.rtM (Ds:=[D13]) [44] [] (.string (f.extract 0 h.toNat)) (⟨rfl,trivial⟩) (fun a w hf hh=>Vt rfl (Vs hf rfl Tryz.isAgg9 (Jv hh 2))) (⟨rfl,rfl,(A.ext_le y)⟩)
  refine Jc 2 ?_;refine Ji 1 [(17,A.i u.1)] ?_;refine Jw 3 [] [A.i u.1] ?_;refine V4 1 ?_;exact A.AE.bn O [45,44,3,0,1,2,4] 100000 [(45,100045),(44,100044),(46,46),(3,100003),(0,100000),(1,100001),(2,100002),(4,100004)] [(46,.ob B (fun x=>x=ou12)),(3,.blk z 3 [A.i u.1])] ⟨_,rfl,u.1,rfl,hxo22.1,e⟩ rfl rfl
 rintro B _ D13 L14 ⟨h,rfl,N,e⟩;rw[X2,F.bU]at e
 refine A.el 4 ?_;refine Jf [0,1] [] [.b 0 0,.n,.b 1 0,.n] [(21,.bool (decide ((f.size:Int)≤s)))] (Jd 1 ?_);refine J9 e ?_ ?_<;>intro hb e
 ·refine Jc 1 ?_;refine Jf [0] [] [.b 0 0] [(22,.string f)] ?_;refine Jw 2 [] [.string f] ?_;refine Jd 1 ?_;obtain rfl:=Jm e;exact Vq (Ds:=[D13]) [44] [] (.string f) (⟨rfl,trivial⟩) (fun a w hf hh=>Vt rfl (Vs hf rfl Tryz.isAgg9 (Jv hh 2))) (⟨rfl,rfl,y⟩)
 refine Jc 3 ?_;refine Jf [0,3] [] [.b 0 0,.b 1 0] [(23,.string f),(24,A.i h)] ?_;have⟨a4,e⟩:=Ve e;refine A.AL.slh a4 ?_;refine Jw 2 [] [.string (f.extract 0 h.toNat)] ?_;refine Jd 1 ?_;obtain rfl:=Jm e;exact Vq (Ds:=[D13]) [44] [] (.string (f.extract 0 h.toNat)) (⟨rfl,trivial⟩) (fun a w hf hh=>Vt rfl (Vs hf rfl Tryz.isAgg9 (Jv hh 2))) (⟨rfl,rfl,(A.ext_le y)⟩)
def F.ds (e:Int):Option Int:=some e
def F.eX (f:Int)(e:Int):Option Int:=A.gd (e≠0) (if Int.tmod f e<0 then(A.gd (Z.R64 ((Int.tmod f e)+e)) (F.ds ((Int.tmod f e)+e)))else(F.ds (Int.tmod f e)))
theorem o_bz (h:Int)(e:Int)(p:A.h6 h)(z:A.h6 e)(r:Int)(f:F.eX h e=some r):
    A.Ct Tryz.prog 104 [A.i h,A.i e] [] [] (fun v H'=>v=A.i r∧H'=[]∧A.h6 r):=by
 refine Jg Tryz.func104 rfl Tryz.ntmps104 rfl fun B E=>?_;rw[F.eX]at f;refine Jc 1 ?_;refine Ji 1 [] (Jk 2 ?_);have⟨s,f⟩:=Ve f;refine Vy 4 [e≠0] [(0,A.i (Int.tmod h e))] s (Jd 1 ?_);refine Jp [] [] (fun u x=>∃(k:Int),u=[(0,A.i k)]∧x=[]∧A.h6 k∧F.ds k=some r) ?_ ?_
 ·refine Jc 1 ?_;refine Ji 2 [(9,.bool (decide (Int.tmod h e<0)))] (Jd 1 ?_);refine J9 f ?_ ?_<;>intro I f
  ·refine Jc 0 ?_;have⟨o,f⟩:=Ve f;refine Vy 4 [Z.R64 ((Int.tmod h e)+e)] [(0,A.i ((Int.tmod h e)+e))] o (Je ?_);exact J2 ⟨((Int.tmod h e)+e),rfl,rfl,(Jj o),f⟩
  refine Vi 1 ?_;exact J2 ⟨(Int.tmod h e),rfl,rfl,(A.tmod_has p),f⟩
 rintro _ _ ⟨k,rfl,rfl,y,f⟩;rw[F.ds]at f;refine Jc 1 ?_;refine Ji 2 [(4,A.i k)] (Jd 1 ?_);obtain rfl:=Jm f;exact Jo [] ⟨rfl,rfl,y⟩
def F.bE (e:Int)(f:ByteArray):Option (D91×Int):=some ((e,f),0)
def F.eY (f:D40)(e:D91):Option (D91×Int):=(F.em 2 f e).bind fun k=>(if k≠0 then(some ((0,ByteArray.mk #[]),k))else((F.eo e.2).bind fun h=>(if f.1=2 then((F.ep e.2).bind fun s=>(F.bE e.1 s))else(if f.1=3 then(A.gd (0≤min (h.length:Int) f.2.1∧(min (h.length:Int) f.2.1).toNat≤h.length) (A.gd ((runesBytes (List.take ((min (h.length:Int) f.2.1).toNat) h)).size≤9223372036854775807) (F.bE e.1 (runesBytes (List.take ((min (h.length:Int) f.2.1).toNat) h)))))else(if f.1=4 then((F.aL h).bind fun o=>(A.gd ((runesBytes o).size≤9223372036854775807) (F.bE e.1 (runesBytes o))))else(if f.1=5 then(A.gd (e.2.size+f.2.2.size≤9223372036854775807) ((F.eW (e.2++f.2.2) 64).bind fun u=>(F.bE e.1 u)))else(if f.1=6 then((F.eX e.1 f.2.1).bind fun x=>(F.bE x e.2))else(if f.1=7 then(F.bE (h.length:Int) e.2)else(if f.1=8 then(if(0:Int)<(h.length:Int)then((A.ix h 0).bind fun p=>(A.gd (Z.R64 (p)) (F.bE p e.2)))else(F.bE 0 e.2))else(F.bE e.1 e.2))))))))))
theorem o_bE (o:D40)(h:D91)(a6:A.h6 o.1)(a2:A.h6 o.2.1)(a7:o.2.2.size≤maxLen)(z:A.h6 h.1)(x:h.2.size≤maxLen)(r:D91×Int)(f:F.eY o h=some r):
    A.Ct Tryz.prog 74 [.agg #[A.i o.1,A.i o.2.1,.string o.2.2],.agg #[A.i h.1,.string h.2]] [(0,.el none 0 0 A.tabF),(1,.el none 1 0 A.tabA)] [] (fun v H'=>v=.tuple #[.agg #[A.i r.1.1,.string r.1.2],A.i r.2]∧H'=[]∧A.h6 r.1.1∧r.1.2.size≤maxLen∧A.h6 r.2):=by
 refine Jg Tryz.func74 rfl Tryz.ntmps74 rfl fun w0 F0=>?_;rw[F.eY]at f;refine Jc 1 ?_;refine Jl 2 (cs:=[A.i o.1,A.i o.2.1,.string o.2.2]) fun g1=>?_;refine Jl 3 (cs:=[A.i h.1,.string h.2]) fun u=>?_;refine Jh 4 (cs:=[A.i 0,.string (ByteArray.mk #[])]) Tryz.zeroValue92 fun g3=>?_;refine Ji 1 [] (Jk 3 ?_);refine Jf [2,3] [] [.b 0 0,.b 1 0] [(8,.agg #[A.i o.1,A.i o.2.1,.string o.2.2]),(9,.agg #[A.i h.1,.string h.2])] ?_;refine Va 5 [] f (o_bw 2 o h (Jn .i64 (2) rfl) a6 a2 a7 z x) (.s 0 (.s 1 .nil)) ?_;rintro N - f _ _ ⟨rfl,rfl,hr6⟩;refine Jq ?_;refine Ji 1 [(6,A.i N)] (Jk 2 ?_);refine Ji 2 [(12,.bool (decide (N≠0)))] (Jd 1 ?_);refine J9 f ?_ ?_<;>intro y f
 ·refine Jc 1 ?_;refine Ji 2 [(13,.agg #[A.i 0,.string (ByteArray.mk #[])]),(14,A.i N)] ?_;refine Jw 4 [] [A.i 0,.string (ByteArray.mk #[])] ?_;refine Ji 1 [(5,A.i N)] (Jd 1 ?_);obtain rfl:=Jm f;exact Vc [] (.tuple #[.agg #[A.i 0,.string (ByteArray.mk #[])],A.i N]) (fun a w hf hh=>Vf rfl (Vp hf rfl Tryz.isAgg92 Tryz.sizeOf92 (Jv hh 4) rfl) (Vw hf rfl)) (⟨rfl,rfl,Js,(V6 (ByteArray.mk #[]) rfl),hr6⟩)
 refine Jc 3 ?_;refine Jf [3] [] [.n,.b 0 1] [(16,.string h.2)] ?_;refine Va 45 [] f (o_bq h.2 x) .nil ?_;rintro p - f _ _ ⟨I,L,rfl,rfl⟩;refine Jq ?_;refine Ji 1 [(7,.slice I p.length L)] (Jd 1 ?_);refine Jp [3,4] [0,1,4] (fun nl nh=>∃(B:Int),∃(E:ByteArray),nl=[]∧nh=[(3,.blk u 92 [A.i B,.string E])]∧A.h6 B∧E.size≤maxLen∧F.bE B E=some r) ?_ ?_
 ·refine Jc 1 ?_;refine Jf [2] [] [.n,.b 0 0] [(19,A.i o.1)] (Jk 3 ?_);refine Ji 2 [(20,.bool (decide (o.1=2)))] (Jd 1 ?_);refine J9 f ?_ ?_<;>intro y f
  ·refine Jc 0 ?_;refine Jf [3] [] [.n,.b 0 1] [(23,.string h.2)] ?_;refine Va 85 [] f (o_br h.2 x) .nil ?_;rintro V - f _ _ ⟨rfl,rfl,hr17⟩;refine Jq ?_;refine Ji 1 [(25,.pointer (some ⟨u,1,none⟩))] ?_;refine Vd 3 [] (new:=[.string V]) (cs':=[A.i h.1,.string V]) ?_;refine V4 1 ?_;exact J2 ⟨h.1,V,rfl,rfl,z,hr17,f⟩
  refine Jc 1 ?_;refine Ji 2 [(26,.bool (decide (o.1=3)))] (Jd 1 ?_);refine J9 f ?_ ?_<;>intro y f
  ·refine Jc 0 ?_;refine Jf [2] [] [.n,.n,.n,.n,.b 0 1,.n] [(28,.slice I p.length L),(33,A.i (min (p.length:Int) o.2.1))] ?_;have⟨a3,f⟩:=Ve f;refine A.AL.cuto 45 [] (v:=(min (p.length:Int) o.2.1).toNat) (Wu a3.1).symm a3.2 ?_;have⟨hl21,f⟩:=Ve f;refine A.AL.cvr (Vz (k:=45) rfl) rfl ?_;refine Ji 1 [(36,.pointer (some ⟨u,1,none⟩))] ?_;refine Vd 3 [] (new:=[.string (runesBytes (List.take ((min (p.length:Int) o.2.1).toNat) p))]) (cs':=[A.i h.1,.string (runesBytes (List.take ((min (p.length:Int) o.2.1).toNat) p))]) ?_;refine V4 1 ?_;exact J2 ⟨h.1,(runesBytes (List.take ((min (p.length:Int) o.2.1).toNat) p)),rfl,rfl,z,(A.le_max hl21),f⟩
  refine Jc 1 ?_;refine Ji 2 [(37,.bool (decide (o.1=4)))] (Jd 1 ?_);refine J9 f ?_ ?_<;>intro y f
  ·refine Jc 1 ?_;refine Ji 1 [(39,.slice I p.length L)] ?_;refine Va 126 [] f (o_ae I L p) (.m 45 .nil) ?_;rintro U - f _ _ ⟨rfl,rfl,hr24⟩;refine Jq ?_;refine Vg 126 45 [] ?_;refine Jk 1 ?_;refine Ji 1 [(41,.slice I p.length L)] ?_;refine A.cst 41 (V3 (show p.length=U.length from(Eq.symm hr24))) ?_;have⟨hl25,f⟩:=Ve f;refine A.AL.cvr (Vz (k:=45) rfl) rfl ?_;refine Ji 1 [(43,.pointer (some ⟨u,1,none⟩))] ?_;refine Vd 3 [] (new:=[.string (runesBytes U)]) (cs':=[A.i h.1,.string (runesBytes U)]) ?_;refine V4 1 ?_;exact J2 ⟨h.1,(runesBytes U),rfl,rfl,z,(A.le_max hl25),f⟩
  refine Jc 1 ?_;refine Ji 2 [(44,.bool (decide (o.1=5)))] (Jd 1 ?_);refine J9 f ?_ ?_<;>intro y f
  ·refine Jc 0 ?_;have⟨a4,f⟩:=Ve f;refine A.q [3,2] [] [.n,.b 0 1,.n,.b 1 2,.n] [h.2.size+o.2.2.size≤9223372036854775807] [(50,.string (h.2++o.2.2))] a4 ?_;refine Va 166 [] f (o_bx (h.2++o.2.2) 64 (A.cat_le a4) (Jn .i64 (64) rfl)) .nil ?_;rintro W - f _ _ ⟨rfl,rfl,hr29⟩;refine Jq ?_;refine Ji 1 [(52,.pointer (some ⟨u,1,none⟩))] ?_;refine Vd 3 [] (new:=[.string W]) (cs':=[A.i h.1,.string W]) ?_;refine V4 1 ?_;exact J2 ⟨h.1,W,rfl,rfl,z,hr29,f⟩
  refine Jc 1 ?_;refine Ji 2 [(53,.bool (decide (o.1=6)))] (Jd 1 ?_);refine J9 f ?_ ?_<;>intro y f
  ·refine Jc 0 ?_;refine Jf [3,2] [] [.n,.b 0 0,.n,.b 1 1] [(56,A.i h.1),(58,A.i o.2.1)] ?_;refine Va 206 [] f (o_bz h.1 o.2.1 z a2) .nil ?_;rintro X - f _ _ ⟨rfl,rfl,hr32⟩;refine Jq ?_;refine Ji 1 [(60,.pointer (some ⟨u,0,none⟩))] ?_;refine Vd 3 [] (new:=[A.i X]) (cs':=[A.i X,.string h.2]) ?_;refine V4 1 ?_;exact J2 ⟨X,h.2,rfl,rfl,hr32,x,f⟩
  refine Jc 1 ?_;refine Ji 2 [(61,.bool (decide (o.1=7)))] (Jd 1 ?_);refine J9 f ?_ ?_<;>intro y f
  ·refine Jc 0 ?_;refine Ji 3 [(64,A.i (p.length:Int)),(65,.pointer (some ⟨u,0,none⟩))] ?_;refine Vd 3 [] (new:=[A.i (p.length:Int)]) (cs':=[A.i (p.length:Int),.string h.2]) ?_;refine V4 1 ?_;refine A.oko 45 fun hl33=>?_;exact J2 ⟨(p.length:Int),h.2,rfl,rfl,(A.has_len hl33.1),x,f⟩
  refine Jc 1 ?_;refine Ji 2 [(66,.bool (decide (o.1=8)))] (Jd 1 ?_);refine J9 f ?_ ?_<;>intro y f
  ·refine Jc 1 ?_;refine Ji 1 [(68,.pointer (some ⟨u,0,none⟩))] ?_;refine Vd 3 [] (new:=[A.i 0]) (cs':=[A.i 0,.string h.2]) ?_;refine Jk 2 ?_;refine Ji 3 [(71,.bool (decide ((0:Int)<(p.length:Int))))] (Jd 1 ?_);refine J9 f ?_ ?_<;>intro y f
   ·refine Jc 0 ?_;refine Ji 1 [(72,.slice I p.length L)] ?_;have⟨O,a8,f⟩:=Vo f;refine V9 45 246 a8 fun ab=>?_;intro ac ad;have⟨a5,f⟩:=Ve f;refine A.q [] [246] [.e 0 0,.n,.n] [Z.R64 (O)] [(75,A.i O),(76,.pointer (some ⟨u,0,none⟩))] a5 ?_;refine Vd 3 [] (new:=[A.i O]) (cs':=[A.i O,.string h.2]) ?_;refine V4 1 ?_;exact J2 ⟨O,h.2,rfl,rfl,(Jj a5),x,f⟩
   refine Vi 2 ?_;exact J2 ⟨0,h.2,rfl,rfl,Js,x,f⟩
  refine Vi 2 ?_;exact J2 ⟨h.1,h.2,rfl,rfl,z,x,f⟩
 rintro _ _ ⟨B,E,rfl,rfl,a9,aa,f⟩;rw[F.bE]at f;refine Jc 1 ?_;refine Jf [3] [] [.b 0 0] [(77,.agg #[A.i B,.string E])] ?_;refine Jw 4 [] [A.i B,.string E] ?_;refine Ji 1 [(5,A.i 0)] (Jd 1 ?_);obtain rfl:=Jm f;exact Vc [] (.tuple #[.agg #[A.i B,.string E],A.i 0]) (fun a w hf hh=>Vf rfl (Vp hf rfl Tryz.isAgg92 Tryz.sizeOf92 (Jv hh 4) rfl) (Vw hf rfl)) (⟨rfl,rfl,a9,aa,Js⟩)
def F.bN (e:D54)(f:Int)(h:ByteArray)(k:Int):Option D49:=some (e.1,f,h,k)
def F.ct (f:D54)(h:D42)(e:D49):Option D49:=if h.2.2.1=2 then((F.cM e.2.2.2 h.2.2.2.1).bind fun o=>(F.bN f e.2.1 e.2.2.1 o))else(if h.2.2.1=3 then((F.eY h.2.2.2.2 (e.2.1,e.2.2.1)).bind fun k=>(if f.2.1=16 then(F.bN f k.1.1 k.1.2 e.2.2.2)else(F.bN f k.1.1 e.2.2.1 e.2.2.2)))else(F.bN f e.2.1 e.2.2.1 e.2.2.2))
theorem o_aU(e:D54)(h:D42)(f:D49)(N:A.h6 e.1)(a6:A.h6 e.2.1)(a7:A.h6 e.2.2.2.1.1)(a8:A.h6 e.2.2.2.1.2.1)(a9:e.2.2.2.1.2.2.size≤maxLen)(aa:e.2.2.2.2.1.size≤maxLen)(ab:A.h6 e.2.2.2.2.2.1)(ac:A.h6 e.2.2.2.2.2.2)(ad:A.h6 h.1)(ae:A.h6 h.2.1)(ah:A.h6 h.2.2.1)(O:A.h6 h.2.2.2.1)(U:A.h6 h.2.2.2.2.1)(V:A.h6 h.2.2.2.2.2.1)(W:h.2.2.2.2.2.2.size≤maxLen)(ai:A.h6 f.1)(E:A.h6 f.2.1)(z:f.2.2.1.size≤maxLen)(B:A.h6 f.2.2.2)(r:D49)(k:F.ct e h f=some r):
    A.Ct Tryz.prog 39 [.agg #[A.i e.1,A.i e.2.1,.slice A2_ e.2.2.1.length c3_,A.i e.2.2.2.1.1,A.i e.2.2.2.1.2.1,.string e.2.2.2.1.2.2,.string e.2.2.2.2.1,A.i e.2.2.2.2.2.1,A.i e.2.2.2.2.2.2],.agg #[A.i h.1,A.i h.2.1,A.i h.2.2.1,A.i h.2.2.2.1,A.i h.2.2.2.2.1,A.i h.2.2.2.2.2.1,.string h.2.2.2.2.2.2],.agg #[A.i f.1,A.i f.2.1,.string f.2.2.1,A.i f.2.2.2]] [(0,.sh A.TI [.slice A2_ e.2.2.1.length c3_] e.2.2.1),(1,.el none 0 0 A.tabF),(2,.el none 1 0 A.tabA)] [] (fun v H'=>v=.agg #[A.i r.1,A.i r.2.1,.string r.2.2.1,A.i r.2.2.2]∧H'=[]∧A.h6 r.1∧A.h6 r.2.1∧r.2.2.1.size≤maxLen∧A.h6 r.2.2.2):=by
 refine Jg Tryz.func39 rfl Tryz.ntmps39 rfl fun w0 F0=>?_;rw[F.ct]at k;refine Jc 1 ?_;refine Jl 3 (cs:=[A.i e.1,A.i e.2.1,.slice A2_ e.2.2.1.length c3_,A.i e.2.2.2.1.1,A.i e.2.2.2.1.2.1,.string e.2.2.2.1.2.2,.string e.2.2.2.2.1,A.i e.2.2.2.2.2.1,A.i e.2.2.2.2.2.2]) fun g1=>?_;refine Jl 4 (cs:=[A.i h.1,A.i h.2.1,A.i h.2.2.1,A.i h.2.2.2.1,A.i h.2.2.2.2.1,A.i h.2.2.2.2.2.1,.string h.2.2.2.2.2.2]) fun g2=>?_;refine Jl 5 (cs:=[A.i f.1,A.i f.2.1,.string f.2.2.1,A.i f.2.2.2]) fun y=>?_;refine Jh 6 (cs:=l2c) Tryz.zeroValue50 fun g4=>?_;refine Jk 2 ?_;refine Jf [3] [] [.n,.b 0 0,.n] [(10,A.i e.1),(11,.pointer (some ⟨y,0,none⟩))] ?_;refine Vd 5 [] (new:=[A.i e.1]) (cs':=[A.i e.1,A.i f.2.1,.string f.2.2.1,A.i f.2.2.2]) ?_;refine Jd 1 ?_;refine Jp [5,6] [1,2,6] (fun X nh=>∃(p:Int),∃(u:ByteArray),∃(x:Int),X=[]∧nh=[(5,.blk y 50 [A.i e.1,A.i p,.string u,A.i x])]∧A.h6 p∧u.size≤maxLen∧A.h6 x∧F.bN e p u x=some r) ?_ ?_
 ·refine Jc 1 ?_;refine Jf [4] [] [.n,.b 0 2] [(13,A.i h.2.2.1)] (Jk 3 ?_);refine Ji 2 [(14,.bool (decide (h.2.2.1=2)))] (Jd 1 ?_);refine J9 k ?_ ?_<;>intro L k
  ·refine Jc 0 ?_;refine Jf [5,4] [] [.n,.b 0 3,.n,.b 1 3] [(17,A.i f.2.2.2),(19,A.i h.2.2.2.1)] ?_;refine Va 7 [] k (o_aM f.2.2.2 h.2.2.2.1 B O) .nil ?_;rintro I - k _ _ ⟨rfl,rfl,hr13⟩;refine Jq ?_;refine Ji 1 [(21,.pointer (some ⟨y,3,none⟩))] ?_;refine Vd 5 [] (new:=[A.i I]) (cs':=[A.i e.1,A.i f.2.1,.string f.2.2.1,A.i I]) ?_;refine V4 1 ?_;exact J2 ⟨f.2.1,f.2.2.1,I,rfl,rfl,E,z,hr13,k⟩
  refine Jc 1 ?_;refine Ji 2 [(22,.bool (decide (h.2.2.1=3)))] (Jd 1 ?_);refine J9 k ?_ ?_<;>intro L k
  ·refine Jc 1 ?_;refine Jf [4,5] [] [.n,.b 0 4,.n,.b 1 1,.n,.b 1 2,.n] [(26,.agg #[A.i h.2.2.2.2.1,A.i h.2.2.2.2.2.1,.string h.2.2.2.2.2.2]),(31,.agg #[A.i f.2.1,.string f.2.2.1])] ?_;refine Va 47 [] k (o_bE h.2.2.2.2 (f.2.1,f.2.2.1) U V W E z) (.s 1 (.s 2 .nil)) ?_;rintro o - k _ _ ⟨rfl,rfl,hr16,hr17,hr18⟩;refine Jq ?_;refine Ji 3 [(33,.agg #[A.i o.1.1,.string o.1.2]),(34,A.i o.2)] ?_;refine Jh 87 (cs:=[A.i 0,.string (ByteArray.mk #[])]) Tryz.zeroValue92 fun aj=>?_;refine Jw 87 [] [A.i o.1.1,.string o.1.2] ?_;refine Ji 1 [] (Jk 2 ?_);refine Jf [87] [] [.n,.b 0 0,.n] [(36,A.i o.1.1),(37,.pointer (some ⟨y,1,none⟩))] ?_;refine Vd 5 [] (new:=[A.i o.1.1]) (cs':=[A.i e.1,A.i o.1.1,.string f.2.2.1,A.i f.2.2.2]) ?_;refine Jk 2 ?_;refine Jf [3] [] [.n,.b 0 1,.n] [(40,.bool (decide (e.2.1=16)))] (Jd 1 ?_);refine J9 k ?_ ?_<;>intro L k
   ·refine Jc 0 ?_;refine Jf [87] [] [.n,.b 0 1,.n] [(42,.string o.1.2),(43,.pointer (some ⟨y,2,none⟩))] ?_;refine Vd 5 [] (new:=[.string o.1.2]) (cs':=[A.i e.1,A.i o.1.1,.string o.1.2,A.i f.2.2.2]) ?_;refine V4 1 ?_;exact J2 ⟨o.1.1,o.1.2,f.2.2.2,rfl,rfl,hr16,hr17,B,k⟩
   refine Vi 2 ?_;exact J2 ⟨o.1.1,f.2.2.1,f.2.2.2,rfl,rfl,hr16,z,B,k⟩
  refine Vi 2 ?_;exact J2 ⟨f.2.1,f.2.2.1,f.2.2.2,rfl,rfl,E,z,B,k⟩
 rintro _ _ ⟨p,u,x,rfl,rfl,a3,a4,a5,k⟩;rw[F.bN]at k;refine Jc 1 ?_;refine Jf [5] [] [.b 0 0] [(44,.agg #[A.i e.1,A.i p,.string u,A.i x])] ?_;refine Jw 6 [] [A.i e.1,A.i p,.string u,A.i x] ?_;refine Jd 1 ?_;obtain rfl:=Jm k;exact Vc [] (.agg #[A.i e.1,A.i p,.string u,A.i x]) (fun a w hf hh=>Vt rfl (Vp hf rfl Tryz.isAgg50 Tryz.sizeOf50 (Jv hh 6) rfl)) (⟨rfl,rfl,N,a3,a4,a5⟩)
def F.af (f:(List (D93×Int)))(k:Int)(e:D49):Option (List (D93×Int)):=if k=11 then(A.lt (Z.mget (0:Int) f (e.1,(e.2.1,e.2.2.1))) fun h=>(A.gd (Z.R64 (h+e.2.2.2)) (some (Z.mins f (e.1,(e.2.1,e.2.2.1)) (min 1099511627776 (h+e.2.2.2))))))else(some (Z.mins f (e.1,(e.2.1,e.2.2.1)) e.2.2.2))
theorem o_n(o:(List (D93×Int)))(h:Int)(e:D49)(B:A.h6 h)(E:A.h6 e.1)(I:A.h6 e.2.1)(L:e.2.2.1.size≤maxLen)(y:A.h6 e.2.2.2)(r:(List (D93×Int)))(f:F.af o h e=some r):
    A.Ct Tryz.prog 23 [.map (some b0_),A.i h,.agg #[A.i e.1,A.i e.2.1,.string e.2.2.1,A.i e.2.2.2]] [(0,.mp D93 (fun x:D93=>.agg #[A.i x.1,A.i x.2.1,.string x.2.2]) A.ti false b0_ o)] ([b0_]++[]) (fun v H'=>v=.tuple #[]∧H'=[(0,.mp D93 (fun x:D93=>.agg #[A.i x.1,A.i x.2.1,.string x.2.2]) A.ti false b0_ r)]):=by
 refine Jg Tryz.func23 rfl Tryz.ntmps23 rfl fun N O=>?_;rw[F.af]at f;refine Jc 1 ?_;refine Jl 1 (cs:=[A.i e.1,A.i e.2.1,.string e.2.2.1,A.i e.2.2.2]) fun U=>?_;refine Jk 2 ?_;refine Jf [1] [] [.n,.b 0 0,.n,.b 0 1,.n,.b 0 2,.n,.n] [(14,.agg #[A.i e.1,A.i e.2.1,.string e.2.2.1])] ?_;refine Jh 2 (cs:=l2e) Tryz.zeroValue94 fun V=>?_;refine Jw 2 [] [A.i e.1,A.i e.2.1,.string e.2.2.1] ?_;refine Jk 3 ?_;refine Ji 2 [(16,.bool (decide (h=11)))] (Jd 1 ?_);refine J9 f ?_ ?_<;>intro W f
 ·refine V5 1 ?_;refine Vb mixed 9 10 (A.mb 10 0) ?_;refine J8 Jy [] l2g [2,1] [] (A.mb 10 111) 4 [(0,.n),(1,.b 0 0),(2,.n),(3,.b 0 0),(5,.n),(6,.b 1 3)] [(17,.map (some b0_)),(18,.agg #[A.i e.1,A.i e.2.1,.string e.2.2.1]),(19,.map (some b0_)),(20,.agg #[A.i e.1,A.i e.2.1,.string e.2.2.1]),(23,A.i e.2.2.2)] ?_;obtain⟨k,p,f⟩:=Jz f;refine A.okm (t:=A.ti) 0 (e.1,(e.2.1,e.2.2.1)) (z:=(0:Int)) (zs:=[A.i 0]) ⟨rfl,by decide⟩ p fun X=>?_;refine Vj Jy l2g l2g 4 (A.mb 10 127) rfl (fun a w hf hh=>Ui (t:=A.ti) (ok:=false) (z:=(0:Int)) (zs:=[A.i 0]) 0 ky94 (e.1,(e.2.1,e.2.2.1)) Tryz.zeroValue2 ⟨rfl,by decide⟩ p rfl hf hh) ?_;have⟨s,f⟩:=Ve f;refine A.AH.q Jy l2g l2g [] [] (A.mb 10 511) 1 [(7,.n),(8,.n)] [25] [Z.R64 (k+e.2.2.2)] [(25,A.i (min 1099511627776 (k+e.2.2.2)))] s ?_;refine Jr 9 ?_;refine V2 (t:=A.ti) 0 [] (cs:=[A.i (min 1099511627776 (k+e.2.2.2))]) (u:=min 1099511627776 (k+e.2.2.2)) ky94 (e.1,(e.2.1,e.2.2.1)) ⟨rfl,(A.has_min (Jn .i64 (1099511627776) rfl) (Jj s))⟩ ?_;refine Ud (A.mb 10 1023) ?_;refine Jt ?_;refine A.ex 1 ?_;obtain rfl:=Jm f;exact Vc [(0,0)] (.tuple #[]) (fun a w hf hh=>Z.res0 rfl w) (⟨rfl,rfl⟩)
 refine Jc 2 ?_;refine Jf [2,1] [] [.n,.b 0 0,.n,.b 1 3] [(26,.map (some b0_)),(27,.agg #[A.i e.1,A.i e.2.1,.string e.2.2.1]),(29,A.i e.2.2.2)] ?_;refine V2 (t:=A.ti) 0 [] (cs:=[A.i e.2.2.2]) (u:=e.2.2.2) ky94 (e.1,(e.2.1,e.2.2.1)) ⟨rfl,y⟩ ?_;refine Je ?_;obtain rfl:=Jm f;exact A.AE.ret [(0,0)] (.tuple #[]) (fun a w hf hh=>Z.res0 rfl w) (⟨rfl,rfl⟩)
def F.dE (e:Int):Option Bool:=some (decide (e≠e))
theorem o_af (e:Int)(h:A.h6 e)(r:Bool)(f:F.dE e=some r):
    A.Ct Tryz.prog 83 [A.i e] [] [] (fun v H'=>v=.bool r∧H'=[]):=by
 refine Jg Tryz.func83 rfl Tryz.ntmps83 rfl fun k o=>?_;rw[F.dE]at f;refine Jc 1 ?_;refine Ji 1 [] (Jk 2 ?_);refine Ji 4 [(2,.bool (decide (e≠e)))] (Jd 1 ?_);obtain rfl:=Jm f;exact Jo [] ⟨rfl,rfl⟩
def F.c3 (e:Int)(f:Int):Option Int:=(F.dE e).bind fun k=>((F.dE f).bind fun h=>(if k=true then(if h=true then(some 0)else(some (-1)))else(if h=true then(some 1)else(if e<f then(some (-1))else(if f<e then(some 1)else(some 0))))))
theorem o_aD (f:Int)(h:Int)(s:A.h6 f)(u:A.h6 h)(r:Int)(e:F.c3 f h=some r):
    A.Ct Tryz.prog 52 [A.i f,A.i h] [] [] (fun v H'=>v=A.i r∧H'=[]∧A.h6 r):=by
 refine Jg Tryz.func52 rfl Tryz.ntmps52 rfl fun x y=>?_;rw[F.c3]at e;refine Jc 1 ?_;refine Ji 1 [] (Jk 2 ?_);refine Ji 1 [(7,A.i f)] ?_;refine Va 0 [] e (o_af f s) .nil ?_;rintro p - e _ _ ⟨rfl,rfl⟩;refine Jq ?_;refine Ji 1 [(5,.bool p)] (Jk 2 ?_);refine Ji 1 [(9,A.i h)] ?_;refine Va 40 [] e (o_af h u) .nil ?_;rintro o - e _ _ ⟨rfl,rfl⟩;refine Jq ?_;refine Ji 1 [(6,.bool o)] (Jk 3 ?_);refine Ji 1 [(11,.bool p)] (Jd 1 ?_);refine V0 e ?_ ?_<;>intro k e
 ·refine Jc 2 ?_;refine Ji 1 [(12,.bool o)] (Jd 1 ?_);refine V0 e ?_ ?_<;>intro k e
  ·refine Jc 1 ?_;refine Ji 1 [(4,A.i 0)] (Jd 1 ?_);obtain rfl:=Jm e;exact Jo [] ⟨rfl,rfl,Js⟩
  refine Jc 3 ?_;refine Ji 1 [(4,A.i (-1))] (Jd 1 ?_);obtain rfl:=Jm e;exact Jo [] ⟨rfl,rfl,(Jn .i64 (-1) rfl)⟩
 refine Jc 4 ?_;refine Ji 1 [(13,.bool o)] (Jd 1 ?_);refine V0 e ?_ ?_<;>intro k e
 ·refine Jc 1 ?_;refine Ji 1 [(4,A.i 1)] (Jd 1 ?_);obtain rfl:=Jm e;exact Jo [] ⟨rfl,rfl,(Jn .i64 (1) rfl)⟩
 refine Jc 4 ?_;refine Ji 3 [(16,.bool (decide (f<h)))] (Jd 1 ?_);refine J9 e ?_ ?_<;>intro k e
 ·refine Jc 1 ?_;refine Ji 1 [(4,A.i (-1))] (Jd 1 ?_);obtain rfl:=Jm e;exact Jo [] ⟨rfl,rfl,(Jn .i64 (-1) rfl)⟩
 refine Jc 4 ?_;refine Ji 3 [(19,.bool (decide (h<f)))] (Jd 1 ?_);refine J9 e ?_ ?_<;>intro k e
 ·refine Jc 1 ?_;refine Ji 1 [(4,A.i 1)] (Jd 1 ?_);obtain rfl:=Jm e;exact Jo [] ⟨rfl,rfl,(Jn .i64 (1) rfl)⟩
 refine Jc 3 ?_;refine Ji 1 [(4,A.i 0)] (Jd 1 ?_);obtain rfl:=Jm e;exact Jo [] ⟨rfl,rfl,Js⟩
def F.b7 (e:ByteArray):Option Bool:=some (decide (e≠e))
theorem o_z (e:ByteArray)(h:e.size≤maxLen)(r:Bool)(f:F.b7 e=some r):
    A.Ct Tryz.prog 85 [.string e] [] [] (fun v H'=>v=.bool r∧H'=[]):=by
 refine Jg Tryz.func85 rfl Tryz.ntmps85 rfl fun k o=>?_;rw[F.b7]at f;refine Jc 1 ?_;refine Ji 1 [] (Jk 2 ?_);refine Ji 4 [(2,.bool (decide (e≠e)))] (Jd 1 ?_);obtain rfl:=Jm f;exact Jo [] ⟨rfl,rfl⟩
def F.bF (e:ByteArray)(f:ByteArray):Option Int:=(F.b7 e).bind fun k=>((F.b7 f).bind fun h=>(if k=true then(if h=true then(some 0)else(some (-1)))else(if h=true then(some 1)else(if(Op.bytesLess e.toList f.toList)=true then(some (-1))else(if(!(Op.bytesLess e.toList f.toList||e.toList==f.toList))=true then(some 1)else(some 0))))))
theorem o_an (f:ByteArray)(h:ByteArray)(s:f.size≤maxLen)(u:h.size≤maxLen)(r:Int)(e:F.bF f h=some r):
    A.Ct Tryz.prog 54 [.string f,.string h] [] [] (fun v H'=>v=A.i r∧H'=[]∧A.h6 r):=by
 refine Jg Tryz.func54 rfl Tryz.ntmps54 rfl fun x y=>?_;rw[F.bF]at e;refine Jc 1 ?_;refine Ji 1 [] (Jk 2 ?_);refine Ji 1 [(7,.string f)] ?_;refine Va 0 [] e (o_z f s) .nil ?_;rintro p - e _ _ ⟨rfl,rfl⟩;refine Jq ?_;refine Ji 1 [(5,.bool p)] (Jk 2 ?_);refine Ji 1 [(9,.string h)] ?_;refine Va 40 [] e (o_z h u) .nil ?_;rintro o - e _ _ ⟨rfl,rfl⟩;refine Jq ?_;refine Ji 1 [(6,.bool o)] (Jk 3 ?_);refine Ji 1 [(11,.bool p)] (Jd 1 ?_);refine V0 e ?_ ?_<;>intro k e
 ·refine Jc 2 ?_;refine Ji 1 [(12,.bool o)] (Jd 1 ?_);refine V0 e ?_ ?_<;>intro k e
  ·refine Jc 1 ?_;refine Ji 1 [(4,A.i 0)] (Jd 1 ?_);obtain rfl:=Jm e;exact Jo [] ⟨rfl,rfl,Js⟩
  refine Jc 3 ?_;refine Ji 1 [(4,A.i (-1))] (Jd 1 ?_);obtain rfl:=Jm e;exact Jo [] ⟨rfl,rfl,(Jn .i64 (-1) rfl)⟩
 refine Jc 4 ?_;refine Ji 1 [(13,.bool o)] (Jd 1 ?_);refine V0 e ?_ ?_<;>intro k e
 ·refine Jc 1 ?_;refine Ji 1 [(4,A.i 1)] (Jd 1 ?_);obtain rfl:=Jm e;exact Jo [] ⟨rfl,rfl,(Jn .i64 (1) rfl)⟩
 refine Jc 4 ?_;refine Ji 3 [(16,.bool (Op.bytesLess f.toList h.toList))] (Jd 1 ?_);refine V0 e ?_ ?_<;>intro k e
 ·refine Jc 1 ?_;refine Ji 1 [(4,A.i (-1))] (Jd 1 ?_);obtain rfl:=Jm e;exact Jo [] ⟨rfl,rfl,(Jn .i64 (-1) rfl)⟩
 refine Jc 4 ?_;refine Ji 3 [(19,.bool (!(Op.bytesLess f.toList h.toList||f.toList==h.toList)))] (Jd 1 ?_);refine V0 e ?_ ?_<;>intro k e
 ·refine Jc 1 ?_;refine Ji 1 [(4,A.i 1)] (Jd 1 ?_);obtain rfl:=Jm e;exact Jo [] ⟨rfl,rfl,(Jn .i64 (1) rfl)⟩
 refine Jc 3 ?_;refine Ji 1 [(4,A.i 0)] (Jd 1 ?_);obtain rfl:=Jm e;exact Jo [] ⟨rfl,rfl,Js⟩
def F.aa (e:D49)(f:D49):Option Int:=(F.c3 e.1 f.1).bind fun h=>((F.bk e.2.1 f.2.1).bind fun k=>((F.bF e.2.2.1 f.2.2.1).bind fun o=>((F.cJ [h,k,o]).bind fun p=>(some p))))
theorem o_al (e:D49)(f:D49)(u:A.h6 e.1)(x:A.h6 e.2.1)(y:e.2.2.1.size≤maxLen)(N:A.h6 e.2.2.2)(z:A.h6 f.1)(B:A.h6 f.2.1)(E:f.2.2.1.size≤maxLen)(O:A.h6 f.2.2.2)(r:Int)(h:F.aa e f=some r):
    A.Ct Tryz.prog 50 [.agg #[A.i e.1,A.i e.2.1,.string e.2.2.1,A.i e.2.2.2],.agg #[A.i f.1,A.i f.2.1,.string f.2.2.1,A.i f.2.2.2]] [] [] (fun v H'=>v=A.i r∧H'=[]∧A.h6 r):=by
 refine Jg Tryz.func50 rfl Tryz.ntmps50 rfl fun U V=>?_;rw[F.aa]at h;refine Jc 1 ?_;refine Jl 0 (cs:=[A.i e.1,A.i e.2.1,.string e.2.2.1,A.i e.2.2.2]) fun W=>?_;refine Jl 1 (cs:=[A.i f.1,A.i f.2.1,.string f.2.2.1,A.i f.2.2.2]) fun X=>?_;refine Ji 1 [] (Jd 2 ?_);refine Vb mixed 18 18 (A.mb 18 0) ?_;refine J8 Jy [] l2h [0,1] [] (A.mb 18 15855) 6 [(0,.n),(2,.n),(5,.n),(7,.n),(10,.n),(12,.n),(1,.b 0 0),(3,.b 1 0),(6,.b 0 1),(8,.b 1 1),(11,.b 0 2),(13,.b 1 2)] [(6,A.i e.1),(8,A.i f.1),(11,A.i e.2.1),(13,A.i f.2.1),(16,.string e.2.2.1),(18,.string f.2.2.1)] ?_;refine Jr 4 ?_;refine Va 2 [] h (o_aD e.1 f.1 u z) .nil ?_;rintro k - h _ _ ⟨rfl,rfl,hr5⟩;refine Jq ?_;refine Ju (A.mb 18 15871) l2h ?_;refine Jr 9 ?_;refine Va 42 [] h (o_w e.2.1 f.2.1 x B) .nil ?_;rintro p - h _ _ ⟨rfl,rfl,hr8⟩;refine Jq ?_;refine Ju (A.mb 18 16383) l2h ?_;refine Jr 14 ?_;refine Va 82 [] h (o_an e.2.2.1 f.2.2.1 y E) .nil ?_;rintro s - h _ _ ⟨rfl,rfl,hr11⟩;refine Jq ?_;refine Ju (A.mb 18 32767) l2h ?_;refine Jr 15 ?_;refine J6 122 (ty:=A.ti) (cs:=[A.i k,A.i p,A.i s]) [k,p,s] ⟨⟨rfl,hr5⟩,⟨⟨rfl,hr8⟩,⟨⟨rfl,hr11⟩,rfl⟩⟩⟩ (fun I=>?_) Tryz.zeroValue3 Tryz.sizeOf3
 refine Ju (A.mb 18 65535) l2h ?_;refine Jr 16 ?_;refine Va 123 [] h (o_ax (some ⟨I,0,none⟩) 3 [k,p,s]) (.o 122 .nil) ?_;rintro L - h _ _ ⟨rfl,rfl,hr15⟩;refine Jq ?_;refine Ju (A.mb 18 131071) l2h ?_;refine J8 Jy l2h [0,1,122] [] [] (A.mb 18 262143) 0 [(17,.n)] [(4,A.i L)] (Jt ?_);refine A.ex 1 ?_;obtain rfl:=Jm h;exact Jo [] ⟨rfl,rfl,hr15⟩
def F.v (e:List D49):Option (List D49):=A.gd (e.length<4611686018427387904) (A.srtF (fun x y=>F.aa x y) e)
theorem o_d(f:List D49)(r:List D49)(k:F.v f=some r):
    A.Ct Tryz.prog 49 [.slice A0_ f.length c1_,.func (.func 50) #[] #[]] [(0,.own T49 50 A0_ c1_ f)] (Z.obl A0_++[]) (fun v H'=>v=.tuple #[]∧H'=[(0,.own T49 50 A0_ c1_ r)]∧r.length=f.length):=by
 have⟨hc,k⟩:=Ve k;rw[Q9]
 exact A.Ct.sortF (t:=T49) (e:=50) Tryz.laysSortFunc49 rfl rfl Tryz.isAgg50 Tryz.sizeOf50 A0_ c1_ 50 (fun x y=>F.aa x y) cf50 (fun x y r hx hy h=>⟨_,o_al x y hx.1 hx.2.1 hx.2.2.1 hx.2.2.2 hy.1 hy.2.1 hy.2.2.1 hy.2.2.2 r h,fun v H' h=>h.1⟩) f r hc k
def F.ay (k:(List (D93×Int))):Nat→(List Nat)→(List D49)→Option (List D49)
 |0,_,_=>none
 |f+1,o,h=>A.dem k o ((F.v h).bind fun s=>(some s)) fun p e=>(A.gd (decide (A.h6 e.1.1)=true∧decide (A.h6 e.1.2.1)=true∧e.1.2.2.size≤maxLen) (if e.2≠0 then(A.gd ((List.length (α:=D49) h+List.length (α:=D49) [(e.1.1,e.1.2.1,e.1.2.2,e.2)])*40≤140737488355328) ((F.ay k f) (p::o) (h++[(e.1.1,e.1.2.1,e.1.2.2,e.2)])))else((F.ay k f) (p::o) h)))
def F.au (e:(List (D93×Int))):Option (List D49):=F.ay e A.FU [] []
theorem o_x(u:(List (D93×Int)))(r:(List D49))(h:F.au u=some r):
    A.Ct Tryz.prog 25 [.map (some b0_)] [(0,.mp D93 (fun x:D93=>.agg #[A.i x.1,A.i x.2.1,.string x.2.2]) A.ti false b0_ u)] ([b0_]++[]) (fun v H'=>∃(A0':Option Addr) (c1':Nat),v=.slice A0' r.length c1'∧H'=[(0,.own T49 50 A0' c1' r),(1,.mp D93 (fun x:D93=>.agg #[A.i x.1,A.i x.2.1,.string x.2.2]) A.ti false b0_ u)]):=by
 refine Jg Tryz.func25 rfl Tryz.ntmps25 rfl fun W X=>?_;rw[F.au]at h;refine Jc 1 ?_;refine Ji 1 [] (Jk 2 ?_);refine Ji 1 [(3,.slice none 0 0)] (Jk 3 ?_);refine Ji 1 [(6,.map (some b0_))] ?_;refine A.AL.rgm 0 1 fun L=>?_;refine Jd 2 ?_;refine V1 94 T49 50 ?_;refine J3 [7] [0] (fun f N O=>∃(y:List Nat),∃(o:List D49),∃(la20:Option (Value×Value)),∃(p:Option Addr),∃(s:Nat),N=[(3,.slice p o.length s)]∧O=[(1,.mit 0 L b0_ u.length y la20),(94,.own T49 50 p s o)]∧F.ay u f y o=some r) ⟨[],[],none,none,0,rfl,rfl,h⟩ ?_;rintro B _ _ ⟨y,o,la20,p,s,rfl,rfl,h⟩;rcases B with _|B
 ·exact J1 h
 rw[F.ay]at h;refine Jc 1 ?_;obtain⟨hend39,hev40⟩:=A.dem_some h;refine A.AL.nxm 0 1 221 (fun hall=>?_) (fun z e hp30 hs31 U=>?_)
 ·replace h:=hend39 hall
  refine Ji 1 [(9,.bool false)] (Jd 2 ?_);refine Vk rfl ?_;refine Jc 3 ?_;refine Ji 1 [(28,.slice p o.length s)] ?_;refine Va 181 [] h (o_d p s o) (.m 94 .nil) ?_;rintro V - h _ _ ⟨rfl,rfl,hr27⟩;refine Jq ?_;refine Vg 181 94 [] ?_;refine Jk 2 ?_;refine Ji 2 [(2,.slice p o.length s)] (Jd 1 ?_);obtain rfl:=Jm h;refine A.cst 2 (V3 (show o.length=V.length from(Eq.symm hr27))) ?_;exact Jo [(0,94),(1,0)] ⟨p,s,rfl,rfl⟩
 have h:=hev40 z e hp30 hs31
 have⟨hkc33,h⟩:=Ve h;refine Ji 1 [(9,.bool true)] (Jd 2 ?_);refine Vn rfl ?_;refine Jc 4 ?_;refine A.AL.ent 1 ?_;refine Ji 2 [(11,.agg #[A.i e.1.1,A.i e.1.2.1,.string e.1.2.2]),(12,A.i e.2)] ?_;refine Jh 222 (cs:=l2e) Tryz.zeroValue94 fun a1=>?_;refine Jw 222 [] [A.i e.1.1,A.i e.1.2.1,.string e.1.2.2] ?_;refine Ji 1 [(5,A.i e.2)] (Jk 2 ?_);refine Ji 2 [(14,.bool (decide (e.2≠0)))] (Jd 1 ?_);refine J9 h ?_ ?_<;>intro hb h
 ·refine Jc 0 ?_;refine Jf [222] [] [.n,.n,.b 0 0,.n,.n,.b 0 1,.n,.n,.b 0 2,.n,.n] [(15,.slice p o.length s),(25,.agg #[A.i e.1.1,A.i e.1.2.1,.string e.1.2.2,A.i e.2])] ?_;refine J6 223 (ty:=T49) (cs:=[A.i e.1.1,A.i e.1.2.1,.string e.1.2.2,A.i e.2]) [(e.1.1,e.1.2.1,e.1.2.2,e.2)] ⟨⟨⟨rfl,(of_decide_eq_true hkc33.1)⟩,⟨rfl,(of_decide_eq_true hkc33.2.1)⟩,⟨rfl,hkc33.2.2⟩,⟨rfl,U⟩⟩,rfl⟩ (fun a2=>?_) Tryz.zeroValue50 Tryz.sizeOf50
  have⟨hl38,h⟩:=Ve h;refine Vh (k:=94) [] (Vz (k:=223) rfl) inf50 hl38 fun E I=>?_;refine Ji 1 [(3,.slice E ((o++[(e.1.1,e.1.2.1,e.1.2.2,e.2)]).length) I)] (V4 1 ?_);exact J2 ⟨_,Ql _,⟨(z::y),(o++[(e.1.1,e.1.2.1,e.1.2.2,e.2)]),(some (.agg #[A.i e.1.1,A.i e.1.2.1,.string e.1.2.2],A.i e.2)),E,I,rfl,rfl,h⟩⟩
 refine Vi 2 ?_;exact J2 ⟨_,Ql _,⟨(z::y),o,(some (.agg #[A.i e.1.1,A.i e.1.2.1,.string e.1.2.2],A.i e.2)),p,s,rfl,rfl,h⟩⟩
def F.aj (h:D54)(o:D42)(k:(List D49)):Nat→(List (D93×Int))→Int→Option ((List D49)×Int)
 |0,_,_=>none
 |f+1,p,e=>if e<(k.length:Int)then((A.ix k e).bind fun s=>((F.ct h o s).bind fun u=>((F.af p h.2.1 u).bind fun x=>(A.gd (Z.R64 (e+1)) ((F.aj h o k f) x (e+1))))))else((F.au p).bind fun y=>(some (y,0)))
def F.a5 (e:D54)(f:D42)(h:(List D49)):Option ((List D49)×Int):=if f.2.1≠e.1 then(some ([],180))else((F.bX (f.1,e.2.1,e.2.2.1,e.2.2.2.1,e.2.2.2.2.1,e.2.2.2.2.2.1,e.2.2.2.2.2.2) e f).bind fun o=>(if o≠0 then(some ([],180))else((F.bc (f.1,e.2.1,e.2.2.1,e.2.2.2.1,e.2.2.2.2.1,e.2.2.2.2.2.1,e.2.2.2.2.2.2) h).bind fun k=>(if k≠0 then(some ([],k))else(F.aj e f h A.FU [] 0)))))
theorem o_j(h:D54)(k:D42)(u:(List D49))(a3:A.h6 h.1)(B:A.h6 h.2.1)(I:A.h6 h.2.2.2.1.1)(L:A.h6 h.2.2.2.1.2.1)(N:h.2.2.2.1.2.2.size≤maxLen)(O:h.2.2.2.2.1.size≤maxLen)(U:A.h6 h.2.2.2.2.2.1)(V:A.h6 h.2.2.2.2.2.2)(W:A.h6 k.1)(a4:A.h6 k.2.1)(a6:A.h6 k.2.2.1)(a7:A.h6 k.2.2.2.1)(a8:A.h6 k.2.2.2.2.1)(a9:A.h6 k.2.2.2.2.2.1)(aa:k.2.2.2.2.2.2.size≤maxLen)(r:(List D49)×Int)(o:F.a5 h k u=some r):
    A.Ct Tryz.prog 16 [.agg #[A.i h.1,A.i h.2.1,.slice A2_ h.2.2.1.length c3_,A.i h.2.2.2.1.1,A.i h.2.2.2.1.2.1,.string h.2.2.2.1.2.2,.string h.2.2.2.2.1,A.i h.2.2.2.2.2.1,A.i h.2.2.2.2.2.2],.agg #[A.i k.1,A.i k.2.1,A.i k.2.2.1,A.i k.2.2.2.1,A.i k.2.2.2.2.1,A.i k.2.2.2.2.2.1,.string k.2.2.2.2.2.2],.slice A17_ u.length c18_] [(0,.sh A.TI [.slice A2_ h.2.2.1.length c3_] h.2.2.1),(1,.ln T49 A17_ c18_ u),(2,.el none 0 0 A.tabF),(3,.el none 1 0 A.tabA)] [] (fun v H'=>∃(A0':Option Addr) (c1':Nat),v=.tuple #[.slice A0' r.1.length c1',A.i r.2]∧H'=[(0,.own T49 50 A0' c1' r.1)]∧A.h6 r.2):=by
 refine Jg Tryz.func16 rfl Tryz.ntmps16 rfl fun w0 F0=>?_;rw[F.a5]at o;refine Jc 1 ?_;refine Jl 4 (cs:=[A.i h.1,A.i h.2.1,.slice A2_ h.2.2.1.length c3_,A.i h.2.2.2.1.1,A.i h.2.2.2.1.2.1,.string h.2.2.2.1.2.2,.string h.2.2.2.2.1,A.i h.2.2.2.2.2.1,A.i h.2.2.2.2.2.2]) fun g1=>?_;refine Jl 5 (cs:=[A.i k.1,A.i k.2.1,A.i k.2.2.1,A.i k.2.2.2.1,A.i k.2.2.2.2.1,A.i k.2.2.2.2.2.1,.string k.2.2.2.2.2.2]) fun g2=>?_;refine Ji 2 [] (Jk 2 ?_);refine Jf [4] [] [.b 0 0] [(14,.agg #[A.i h.1,A.i h.2.1,.slice A2_ h.2.2.1.length c3_,A.i h.2.2.2.1.1,A.i h.2.2.2.1.2.1,.string h.2.2.2.1.2.2,.string h.2.2.2.2.1,A.i h.2.2.2.2.2.1,A.i h.2.2.2.2.2.2])] ?_;refine Jh 6 (cs:=l2a) Tryz.zeroValue55 fun g3=>?_;refine Jw 6 [] [A.i h.1,A.i h.2.1,.slice A2_ h.2.2.1.length c3_,A.i h.2.2.2.1.1,A.i h.2.2.2.1.2.1,.string h.2.2.2.1.2.2,.string h.2.2.2.2.1,A.i h.2.2.2.2.2.1,A.i h.2.2.2.2.2.2] ?_;refine Jk 2 ?_;refine Jf [5] [] [.n,.b 0 0,.n] [(16,A.i k.1),(17,.pointer (some ⟨g3,0,none⟩))] ?_;refine Vd 6 [] (new:=[A.i k.1]) (cs':=[A.i k.1,A.i h.2.1,.slice A2_ h.2.2.1.length c3_,A.i h.2.2.2.1.1,A.i h.2.2.2.1.2.1,.string h.2.2.2.1.2.2,.string h.2.2.2.2.1,A.i h.2.2.2.2.2.1,A.i h.2.2.2.2.2.2]) ?_;refine Jk 3 ?_;refine Jf [5,4] [] [.n,.b 0 1,.n,.b 1 0,.n] [(22,.bool (decide (k.2.1≠h.1)))] (Jd 1 ?_);refine J9 o ?_ ?_<;>intro hb o
 ·refine Jc 1 ?_;refine Ji 2 [(6,.slice none 0 0),(7,A.i 180)] (Jd 1 ?_);obtain rfl:=Jm o;refine V1 7 T49 50 ?_;exact Vm [(0,7)] ⟨none,0,rfl,rfl,(Jn .i64 (180) rfl)⟩
 refine Jc 4 ?_;refine Jf [6,4,5] [] [.b 0 0,.b 1 0,.b 2 0] [(23,.agg #[A.i k.1,A.i h.2.1,.slice A2_ h.2.2.1.length c3_,A.i h.2.2.2.1.1,A.i h.2.2.2.1.2.1,.string h.2.2.2.1.2.2,.string h.2.2.2.2.1,A.i h.2.2.2.2.2.1,A.i h.2.2.2.2.2.2]),(24,.agg #[A.i h.1,A.i h.2.1,.slice A2_ h.2.2.1.length c3_,A.i h.2.2.2.1.1,A.i h.2.2.2.1.2.1,.string h.2.2.2.1.2.2,.string h.2.2.2.2.1,A.i h.2.2.2.2.2.1,A.i h.2.2.2.2.2.2]),(25,.agg #[A.i k.1,A.i k.2.1,A.i k.2.2.1,A.i k.2.2.2.1,A.i k.2.2.2.2.1,A.i k.2.2.2.2.2.1,.string k.2.2.2.2.2.2])] ?_;refine Va 8 [] o (o_am A2_ A2_ c3_ c3_ (k.1,h.2.1,h.2.2.1,h.2.2.2.1,h.2.2.2.2.1,h.2.2.2.2.2.1,h.2.2.2.2.2.2) h k W B I L N O U V a3 B I L N O U V W a4 a6 a7 a8 a9 aa) (.s 0 (.s 0 (.s 2 (.s 3 .nil)))) ?_;rintro r4 - o _ _ ⟨rfl,rfl,hr6⟩;refine Jq ?_;refine Ji 1 [(9,A.i r4)] (Jk 2 ?_);refine Ji 2 [(28,.bool (decide (r4≠0)))] (Jd 1 ?_);refine J9 o ?_ ?_<;>intro hb o
 ·refine Jc 1 ?_;refine Ji 2 [(6,.slice none 0 0),(7,A.i 180)] (Jd 1 ?_);obtain rfl:=Jm o;refine V1 48 T49 50 ?_;exact Vm [(0,48)] ⟨none,0,rfl,rfl,(Jn .i64 (180) rfl)⟩
 refine Jc 4 ?_;refine Jf [6] [] [.b 0 0,.n] [(29,.agg #[A.i k.1,A.i h.2.1,.slice A2_ h.2.2.1.length c3_,A.i h.2.2.2.1.1,A.i h.2.2.2.1.2.1,.string h.2.2.2.1.2.2,.string h.2.2.2.2.1,A.i h.2.2.2.2.2.1,A.i h.2.2.2.2.2.2]),(30,.slice A17_ u.length c18_)] ?_;refine Va 49 [] o (o_ad A2_ A17_ c3_ c18_ (k.1,h.2.1,h.2.2.1,h.2.2.2.1,h.2.2.2.2.1,h.2.2.2.2.2.1,h.2.2.2.2.2.2) u W B I L N O U V) (.s 0 (.s 1 (.s 2 (.s 3 .nil)))) ?_;rintro r7 - o _ _ ⟨rfl,rfl,hr9⟩;refine Jq ?_;refine Ji 1 [(10,A.i r7)] (Jk 2 ?_);refine Ji 2 [(33,.bool (decide (r7≠0)))] (Jd 1 ?_);refine J9 o ?_ ?_<;>intro hb o
 ·refine Jc 1 ?_;refine Ji 3 [(6,.slice none 0 0),(7,A.i r7)] (Jd 1 ?_);obtain rfl:=Jm o;refine V1 89 T49 50 ?_;exact Vm [(0,89)] ⟨none,0,rfl,rfl,hr9⟩
 refine Jc 3 ?_;refine V8 90 D93 (fun x:D93=>.agg #[A.i x.1,A.i x.2.1,.string x.2.2]) A.ti false fun z=>?_;refine Ji 1 [(11,.map (some z))] (Jk 3 ?_);refine Ji 3 [(36,.slice A17_ u.length c18_),(37,A.i (u.length:Int)),(38,A.i 0)] (Jd 2 ?_);refine J3 [3,4,11,36,37] [0,1,2,3,4,5] (fun f nl nh=>∃(E:List (D93×Int)),∃(y:Int),nl=[(38,A.i y)]∧nh=[(90,.mp D93 (fun x:D93=>.agg #[A.i x.1,A.i x.2.1,.string x.2.2]) A.ti false z E)]∧A.h6 y∧F.aj h k u f E y=some r) ⟨[],0,rfl,rfl,Js,o⟩ ?_;rintro ab _ _ ⟨E,y,rfl,rfl,am,o⟩;rcases ab with _|ab
 ·exact J1 o
 rw[F.aj]at o;refine Jc 1 ?_;refine Ji 1 [(39,.bool (decide (y<(u.length:Int))))] (Jd 2 ?_);refine J9 o ?_ ?_<;>intro hb o
 ·refine Jc 5 ?_;have⟨p,ah,o⟩:=Vo o;refine Vv 1 335 ah fun X=>?_;intro an ao;refine Jf [] [335] [.e 0 0] [(41,.agg #[A.i p.1,A.i p.2.1,.string p.2.2.1,A.i p.2.2.2])] ?_;refine Jh 336 (cs:=l2c) Tryz.zeroValue50 fun ap=>?_;refine Jw 336 [] [A.i p.1,A.i p.2.1,.string p.2.2.1,A.i p.2.2.2] ?_;refine Jd 1 ?_;refine Vb mixed 7 8 (A.mb 8 0) ?_;refine J8 Jy [] [0,1,2,3,4,5,90,335,336] [4,5,336] [] (A.mb 8 63) 2 [(0,.n),(1,.n),(3,.b 0 0),(4,.b 1 0),(5,.b 2 0),(2,.b 0 1)] [(42,.map (some z)),(45,.agg #[A.i h.1,A.i h.2.1,.slice A2_ h.2.2.1.length c3_,A.i h.2.2.2.1.1,A.i h.2.2.2.1.2.1,.string h.2.2.2.1.2.2,.string h.2.2.2.2.1,A.i h.2.2.2.2.2.1,A.i h.2.2.2.2.2.2]),(46,.agg #[A.i k.1,A.i k.2.1,A.i k.2.2.1,A.i k.2.2.2.1,A.i k.2.2.2.2.1,A.i k.2.2.2.2.2.1,.string k.2.2.2.2.2.2]),(47,.agg #[A.i p.1,A.i p.2.1,.string p.2.2.1,A.i p.2.2.2]),(44,A.i h.2.1)] ?_;refine Jr 6 ?_;refine Va 337 [] o (o_aU A2_ c3_ h k p a3 B I L N O U V W a4 a6 a7 a8 a9 aa X.1 X.2.1 X.2.2.1 X.2.2.2) (.s 0 (.s 2 (.s 3 .nil))) ?_;rintro ai - o _ _ ⟨rfl,rfl,hr23,hr24,hr25,hr26⟩;refine Jq ?_;refine Ju (A.mb 8 127) [0,1,2,3,4,5,90,335,336] ?_;refine Jr 7 ?_;refine Va 377 [] o (o_n z E h.2.1 ai B hr23 hr24 hr25 hr26) (.m 90 .nil) ?_;rintro ak - o _ _ ⟨rfl,rfl⟩;refine Jq ?_;refine Vg 377 90 [] ?_;refine Ud (A.mb 8 255) ?_;refine Jt ?_;refine A.el 2 ?_;have⟨ac,o⟩:=Ve o;refine Vy 2 [Z.R64 (y+1)] [(38,A.i (y+1))] ac (Je ?_);exact J2 ⟨_,Ql _,⟨ak,(y+1),rfl,rfl,(Jj ac),o⟩⟩
 refine Jc 3 ?_;refine Ji 1 [(51,.map (some z))] ?_;refine Va 417 [] o (o_x z E) (.m 90 .nil) ?_;rintro al - o _ _ ⟨ad,ae,rfl,rfl⟩;refine Jq ?_;refine Vg 418 90 [] ?_;refine Ji 2 [(6,.slice ad al.length ae),(7,A.i 0)] (Jd 1 ?_);obtain rfl:=Jm o;exact Vm [(0,417)] ⟨ad,ae,rfl,rfl,Js⟩
def F.eG (e:Int):Option D54:=some (e,11,[],(41,0,ByteArray.mk #[]),ByteArray.mk #[],0,0)
theorem o_ag (e:Int)(h:A.h6 e)(r:D54)(f:F.eG e=some r):
    A.Ct Tryz.prog 17 [A.i e] [] [] (fun v H'=>∃(A0':Option Addr) (c1':Nat),v=.agg #[A.i r.1,A.i r.2.1,.slice A0' r.2.2.1.length c1',A.i r.2.2.2.1.1,A.i r.2.2.2.1.2.1,.string r.2.2.2.1.2.2,.string r.2.2.2.2.1,A.i r.2.2.2.2.2.1,A.i r.2.2.2.2.2.2]∧H'=[(0,.sh A.TI [.slice A0' r.2.2.1.length c1'] r.2.2.1)]∧A.h6 r.1∧A.h6 r.2.1∧A.h6 r.2.2.2.1.1∧A.h6 r.2.2.2.1.2.1∧r.2.2.2.1.2.2.size≤maxLen∧r.2.2.2.2.1.size≤maxLen∧A.h6 r.2.2.2.2.2.1∧A.h6 r.2.2.2.2.2.2):=by
 refine Jg Tryz.func17 rfl Tryz.ntmps17 rfl fun k o=>?_;rw[F.eG]at f;refine Jc 1 ?_;refine Jh 0 (cs:=l2a) Tryz.zeroValue55 fun p=>?_;refine Jk 2 ?_;refine Ji 3 [(5,.agg #[A.i e,A.i 11,.slice none 0 0,A.i 41,A.i 0,.string (ByteArray.mk #[]),.string (ByteArray.mk #[]),A.i 0,A.i 0])] ?_;refine Jw 0 [] [A.i e,A.i 11,.slice none 0 0,A.i 41,A.i 0,.string (ByteArray.mk #[]),.string (ByteArray.mk #[]),A.i 0,A.i 0] ?_;refine Jd 1 ?_;obtain rfl:=Jm f;refine A.snil 1 A.ti ?_;exact Vc [(0,1)] (.agg #[A.i e,A.i 11,.slice none 0 0,A.i 41,A.i 0,.string (ByteArray.mk #[]),.string (ByteArray.mk #[]),A.i 0,A.i 0]) (fun a w hf hh=>Vt rfl (Vp hf rfl Tryz.isAgg55 Tryz.sizeOf55 (Jv hh 0) rfl)) (⟨none,0,rfl,rfl,h,(Jn .i64 (11) rfl),(Jn .i64 (41) rfl),Js,(V6 (ByteArray.mk #[]) rfl),(V6 (ByteArray.mk #[]) rfl),Js,Js⟩)
def F.ao (h:(List D49))(k:(List D49)):Nat→Int→Option Bool
 |0,_=>none
 |f+1,e=>if e<(h.length:Int)then((A.ix h e).bind fun o=>((A.ix k e).bind fun p=>(if o≠p then(some false)else(A.gd (Z.R64 (e+1)) ((F.ao h k f) (e+1))))))else(some true)
def F.az (e:(List D49))(f:(List D49)):Option Bool:=if(e.length:Int)≠(f.length:Int)then(some false)else(F.ao e f A.FU 0)
theorem o_f(o:(List D49))(p:(List D49))(r:Bool)(h:F.az o p=some r):
    A.Ct Tryz.prog 18 [.slice A0_ o.length c1_,.slice A2_ p.length c3_] [(0,.ln T49 A0_ c1_ o),(1,.ln T49 A2_ c3_ p)] [] (fun v H'=>v=.bool r∧H'=[]):=by
 refine Jg Tryz.func18 rfl Tryz.ntmps18 rfl fun W X=>?_;rw[F.az]at h;refine Jc 1 ?_;refine Ji 1 [] (Jk 3 ?_);refine Ji 5 [(10,.bool (decide ((o.length:Int)≠(p.length:Int))))] (Jd 1 ?_);refine J9 h ?_ ?_<;>intro z h
 ·refine Jc 1 ?_;refine Ji 1 [(4,.bool false)] (Jd 1 ?_);obtain rfl:=Jm h;exact Jo [] ⟨rfl,rfl⟩
 refine Jc 4 ?_;refine Ji 3 [(12,A.i (o.length:Int)),(13,A.i 0)] (Jd 2 ?_);refine J3 [0,1,12] l2h (fun f N O=>∃(k:Int),N=[(13,A.i k)]∧O=[]∧A.h6 k∧F.ao o p f k=some r) ⟨0,rfl,rfl,Js,h⟩ ?_;rintro B _ _ ⟨k,rfl,rfl,a2,h⟩;rcases B with _|B
 ·exact J1 h
 rw[F.ao]at h;refine Jc 1 ?_;refine Ji 1 [(14,.bool (decide (k<(o.length:Int))))] (Jd 2 ?_);refine J9 h ?_ ?_<;>intro z h
 ·refine Jc 5 ?_;refine Ji 2 [(5,A.i k)] (Jd 2 ?_);refine Vb mixed 9 9 (A.mb 9 0) ?_;refine J8 Jy [] l2h [] [] (A.mb 9 51) 5 [(0,.n),(1,.n),(4,.n),(5,.n)] [(16,.slice A0_ o.length c1_),(17,A.i k),(20,.slice A2_ p.length c3_),(21,A.i k)] ?_;have⟨s,E,h⟩:=Vo h;refine A.AH.pkl 0 6 E fun a3=>?_;intro b8 o9 U;refine Vj Jy l2h [0,1,6] 2 (A.mb 9 55) rfl (fun a w hf hh=>Ub (t:=T49) E U hf) ?_;refine J8 Jy [0,1,6] [0,1,6] [] [6] (A.mb 9 63) 3 [(3,.e 0 0)] [(19,.agg #[A.i s.1,A.i s.2.1,.string s.2.2.1,A.i s.2.2.2])] ?_;have⟨u,I,h⟩:=Vo h;refine A.AH.pkl 1 7 I fun a4=>?_;intro a5 a6 V;refine Vj Jy [0,1,6] [0,1,6,7] 6 (A.mb 9 127) rfl (fun a w hf hh=>Ub (t:=T49) I V hf) ?_;refine J8 Jy [0,1,6,7] [0,1,6,7] [] [7] (A.mb 9 255) 1 [(7,.e 0 0)] [(23,.agg #[A.i u.1,A.i u.2.1,.string u.2.2.1,A.i u.2.2.2])] ?_;refine Vj Jy [0,1,6,7] [0,1,6,7] 8 (A.mb 9 511) rfl (fun a w hf hh=>eqagg_neq50 (x:=s) (y:=u) (hf.eval rfl) (hf.eval rfl)) ?_;refine Jt ?_;refine A.ex 1 ?_;refine J9 h ?_ ?_<;>intro z h
  ·refine Jc 1 ?_;refine Ji 1 [(4,.bool false)] (Jd 1 ?_);obtain rfl:=Jm h;exact Jo [] ⟨rfl,rfl⟩
  refine Jc 3 ?_;have⟨L,h⟩:=Ve h;refine Vy 2 [Z.R64 (k+1)] [(13,A.i (k+1))] L (Je ?_);exact J2 ⟨_,Ql _,⟨(k+1),rfl,rfl,(Jj L),h⟩⟩
 refine Jc 3 ?_;refine Ji 1 [(4,.bool true)] (Jd 1 ?_);obtain rfl:=Jm h;exact Jo [] ⟨rfl,rfl⟩
def F.c6 (e:Bool):Option Bool:=some e
def F.eq (f:List D49)(h:Int):Option Bool:=(F.eG 4).bind fun k=>((F.a5 k (3,4,3,0,(6,2,ByteArray.mk #[])) [(3,1,ByteArray.mk #[],5),(3,2,ByteArray.mk #[],7),(3,3,ByteArray.mk #[],1)]).bind fun e=>(if h=0 then((F.az f [(4,1,ByteArray.mk #[],15)]).bind fun o=>(if(bif o then decide (e.2=0)else false)=true then((F.az e.1 [(4,0,ByteArray.mk #[],7),(4,1,ByteArray.mk #[],6)]).bind fun p=>(F.c6 p))else(F.c6 false)))else(F.c6 false)))
def F.ed:Option Bool:=(A.ix [(3,1,ByteArray.mk #[],5),(3,2,ByteArray.mk #[],7),(3,3,ByteArray.mk #[],1)] 0).bind fun f=>((F.eG 4).bind fun h=>((F.a5 h (3,4,2,3,(0,0,ByteArray.mk #[])) [f]).bind fun e=>(F.eq e.1 e.2)))
theorem o_aE (r:Bool)(f:F.ed=some r):
    A.Ct Tryz.prog 5 [] [(0,.el none 0 0 A.tabF),(1,.el none 1 0 A.tabA)] [] (fun v H'=>v=.bool r∧H'=[]):=by
 refine Jg Tryz.func5 rfl Tryz.ntmps5 rfl fun w0 F0=>?_;rw[F.ed]at f;refine Jc 1 ?_;refine Ji 1 [] (Jk 2 ?_);refine Ji 3 [(6,.agg #[A.i 3,A.i 1,.string (ByteArray.mk #[]),A.i 5]),(7,.agg #[A.i 3,A.i 2,.string (ByteArray.mk #[]),A.i 7]),(8,.agg #[A.i 3,A.i 3,.string (ByteArray.mk #[]),A.i 1])] ?_;refine J6 2 (ty:=T49) (cs:=[A.i 3,A.i 1,.string (ByteArray.mk #[]),A.i 5,A.i 3,A.i 2,.string (ByteArray.mk #[]),A.i 7,A.i 3,A.i 3,.string (ByteArray.mk #[]),A.i 1]) [(3,1,ByteArray.mk #[],5),(3,2,ByteArray.mk #[],7),(3,3,ByteArray.mk #[],1)] ⟨⟨⟨rfl,(Jn .i64 (3) rfl)⟩,⟨rfl,(Jn .i64 (1) rfl)⟩,⟨rfl,(V6 (ByteArray.mk #[]) rfl)⟩,⟨rfl,(Jn .i64 (5) rfl)⟩⟩,⟨⟨⟨rfl,(Jn .i64 (3) rfl)⟩,⟨rfl,(Jn .i64 (2) rfl)⟩,⟨rfl,(V6 (ByteArray.mk #[]) rfl)⟩,⟨rfl,(Jn .i64 (7) rfl)⟩⟩,⟨⟨⟨rfl,(Jn .i64 (3) rfl)⟩,⟨rfl,(Jn .i64 (3) rfl)⟩,⟨rfl,(V6 (ByteArray.mk #[]) rfl)⟩,⟨rfl,(Jn .i64 (1) rfl)⟩⟩,rfl⟩⟩⟩ (fun L=>?_) Tryz.zeroValue50 Tryz.sizeOf50
 refine Ji 1 [(1,.slice (some ⟨L,0,none⟩) 3 3)] (Jd 1 ?_);refine Jp [1] l2g (fun N O=>∃(u:List D49),∃(x:Int),∃(y:Option Addr),∃(z:Nat),N=[(2,.slice y u.length z),(3,A.i x)]∧O=[(184,.own T49 50 y z u)]∧A.h6 x∧F.eq u x=some r) ?_ ?_
 ·refine Vb mixed 12 12 (A.mb 12 0) ?_;refine J8 Jy [] l2g [] [] (A.mb 12 6) 10 [(1,.n),(2,.n)] [(12,.agg #[A.i 3,A.i 4,A.i 2,A.i 3,A.i 0,A.i 0,.string (ByteArray.mk #[])]),(13,.slice (some ⟨L,0,none⟩) 3 3)] ?_;have⟨h,a3,f⟩:=Vo f;refine V7 2 3 a3 fun p=>?_;intro ab a5;refine Vj Jy l2g l2f 3 (A.mb 12 14) rfl (fun a w hf hh=>Uc (t:=T49) a3 a5 hf) ?_;refine J8 Jy l2f l2f [] [3] (A.mb 12 30) 8 [(4,.e 0 0)] [(15,.agg #[A.i h.1,A.i h.2.1,.string h.2.2.1,A.i h.2.2.2])] ?_;refine A.AH.two 0 5 ?_ ?_
  ·refine Va 4 [] f (o_ag 4 (Jn .i64 (4) rfl)) .nil ?_;rintro U ac f _ _ ⟨V,W,rfl,rfl,hr38,hr39,hr42,hr43,hr44,hr45,hr46,hr47⟩;refine Jq ?_;refine Ju (A.mb 12 31) l2f ?_;refine Jr 5 ?_;refine J6 154 (ty:=T49) (cs:=[A.i h.1,A.i h.2.1,.string h.2.2.1,A.i h.2.2.2]) [h] ⟨⟨⟨rfl,p.1⟩,⟨rfl,p.2.1⟩,⟨rfl,p.2.2.1⟩,⟨rfl,p.2.2.2⟩⟩,rfl⟩ (fun X=>?_) Tryz.zeroValue50 Tryz.sizeOf50
   refine Ju (A.mb 12 63) l2f ?_;refine Jr 6 ?_;refine Va 184 [] f (o_j V (some ⟨X,0,none⟩) W 1 U (3,4,2,3,(0,0,ByteArray.mk #[])) [h] hr38 hr39 hr42 hr43 hr44 hr45 hr46 hr47 (Jn .i64 (3) rfl) (Jn .i64 (4) rfl) (Jn .i64 (2) rfl) (Jn .i64 (3) rfl) Js Js (V6 (ByteArray.mk #[]) rfl)) (.s 4 (.o 154 (.s 0 (.s 1 .nil)))) ?_;rintro k ad f _ _ ⟨B,E,rfl,rfl,hr400⟩;refine Jq ?_;refine Ju (A.mb 12 127) l2f ?_;refine J8 Jy l2f [0,1,2,3,4,154,184] [] [] (A.mb 12 4095) 0 [(7,.n),(8,.n),(9,.n),(10,.n),(11,.n)] [(2,.slice B k.1.length E),(3,A.i k.2)] (Jt ?_);exact J2 ⟨k.1,k.2,B,E,rfl,rfl,hr400,f⟩
  refine J6 154 (ty:=T49) (cs:=[A.i h.1,A.i h.2.1,.string h.2.2.1,A.i h.2.2.2]) [h] ⟨⟨⟨rfl,p.1⟩,⟨rfl,p.2.1⟩,⟨rfl,p.2.2.1⟩,⟨rfl,p.2.2.2⟩⟩,rfl⟩ (fun X=>?_) Tryz.zeroValue50 Tryz.sizeOf50
  refine Ju (A.mb 12 62) l2f ?_;refine Jr 0 ?_;refine Va 4 [] f (o_ag 4 (Jn .i64 (4) rfl)) .nil ?_;rintro U - f _ _ ⟨V,W,rfl,rfl,hr38,hr39,hr42,hr43,hr44,hr45,hr46,hr47⟩;refine Jq ?_;refine Ju (A.mb 12 63) l2f ?_;refine Jr 6 ?_;refine Va 184 [] f (o_j V (some ⟨X,0,none⟩) W 1 U (3,4,2,3,(0,0,ByteArray.mk #[])) [h] hr38 hr39 hr42 hr43 hr44 hr45 hr46 hr47 (Jn .i64 (3) rfl) (Jn .i64 (4) rfl) (Jn .i64 (2) rfl) (Jn .i64 (3) rfl) Js Js (V6 (ByteArray.mk #[]) rfl)) (.s 4 (.o 154 (.s 0 (.s 1 .nil)))) ?_;rintro k - f _ _ ⟨B,E,rfl,rfl,hr400⟩;refine Jq ?_;refine Ju (A.mb 12 127) l2f ?_;refine J8 Jy l2f [0,1,2,3,4,154,184] [] [] (A.mb 12 4095) 0 [(7,.n),(8,.n),(9,.n),(10,.n),(11,.n)] [(2,.slice B k.1.length E),(3,A.i k.2)] (Jt ?_);exact J2 ⟨k.1,k.2,B,E,rfl,rfl,hr400,f⟩
 rintro _ _ ⟨u,x,y,z,rfl,rfl,ae,f⟩;rw[F.eq]at f;refine Jc 1 ?_;refine Va 364 [] f (o_ag 4 (Jn .i64 (4) rfl)) .nil ?_;rintro r7 - f _ _ ⟨a6,a7,rfl,rfl,hr9,hr10,hr13,hr14,hr15,hr16,hr17,hr18⟩;refine Jq ?_;refine Ji 3 [(23,.agg #[A.i 3,A.i 4,A.i 3,A.i 0,A.i 6,A.i 2,.string (ByteArray.mk #[])]),(24,.slice (some ⟨L,0,none⟩) 3 3)] ?_;refine Va 404 [] f (o_j a6 (some ⟨L,0,none⟩) a7 3 r7 (3,4,3,0,(6,2,ByteArray.mk #[])) [(3,1,ByteArray.mk #[],5),(3,2,ByteArray.mk #[],7),(3,3,ByteArray.mk #[],1)] hr9 hr10 hr13 hr14 hr15 hr16 hr17 hr18 (Jn .i64 (3) rfl) (Jn .i64 (4) rfl) (Jn .i64 (3) rfl) Js (Jn .i64 (6) rfl) (Jn .i64 (2) rfl) (V6 (ByteArray.mk #[]) rfl)) (.s 364 (.o 2 (.s 0 (.s 1 .nil)))) ?_;rintro I - f _ _ ⟨a0,a1,rfl,rfl,hr23⟩;refine Jq ?_;refine Ji 5 [(4,.slice a0 I.1.length a1),(5,A.i I.2)] (Jd 1 ?_);refine Jp [] l2h (fun N O=>∃(a2:Bool),N=[(0,.bool a2)]∧O=[]∧F.c6 a2=some r) ?_ ?_
 ·refine Jc 0 ?_;refine Ji 3 [(30,.bool (decide (x=0)))] ?_;refine Vu (j:=30) rfl f ?_ ?_<;>intro hb f
  ·refine Jf [] [] [.on .n,.on .n] [(31,.slice y u.length z),(32,.agg #[A.i 4,A.i 1,.string (ByteArray.mk #[]),A.i 15])] ?_;refine J5 (dj:=30) rfl rfl ?_;refine J6 444 (ty:=T49) (cs:=[A.i 4,A.i 1,.string (ByteArray.mk #[]),A.i 15]) [(4,1,ByteArray.mk #[],15)] ⟨⟨⟨rfl,(Jn .i64 (4) rfl)⟩,⟨rfl,(Jn .i64 (1) rfl)⟩,⟨rfl,(V6 (ByteArray.mk #[]) rfl)⟩,⟨rfl,(Jn .i64 (15) rfl)⟩⟩,rfl⟩ (fun a8=>?_) Tryz.zeroValue50 Tryz.sizeOf50
   refine J5 (dj:=30) rfl rfl ?_;refine Va 445 [] f (o_f y (some ⟨a8,0,none⟩) z 1 u [(4,1,ByteArray.mk #[],15)]) (.o 184 (.o 444 .nil)) ?_;rintro a9 - f _ _ ⟨rfl,rfl⟩;refine Jq ?_;refine Jf [] [] [.n,.n,.sy .n,.sy .n,.pk,.n] [(40,.bool (bif a9 then decide (I.2=0)else false))] ?_;refine J7 (j:=40) rfl f (fun f=>?_) (fun f=>?_)
   ·refine Jf [] [] [.on .n,.on .n,.on .n] [(41,.slice a0 I.1.length a1),(42,.agg #[A.i 4,A.i 0,.string (ByteArray.mk #[]),A.i 7]),(43,.agg #[A.i 4,A.i 1,.string (ByteArray.mk #[]),A.i 6])] ?_;refine J5 (dj:=40) rfl rfl ?_;refine J6 485 (ty:=T49) (cs:=[A.i 4,A.i 0,.string (ByteArray.mk #[]),A.i 7,A.i 4,A.i 1,.string (ByteArray.mk #[]),A.i 6]) [(4,0,ByteArray.mk #[],7),(4,1,ByteArray.mk #[],6)] ⟨⟨⟨rfl,(Jn .i64 (4) rfl)⟩,⟨rfl,Js⟩,⟨rfl,(V6 (ByteArray.mk #[]) rfl)⟩,⟨rfl,(Jn .i64 (7) rfl)⟩⟩,⟨⟨⟨rfl,(Jn .i64 (4) rfl)⟩,⟨rfl,(Jn .i64 (1) rfl)⟩,⟨rfl,(V6 (ByteArray.mk #[]) rfl)⟩,⟨rfl,(Jn .i64 (6) rfl)⟩⟩,rfl⟩⟩ (fun aa=>?_) Tryz.zeroValue50 Tryz.sizeOf50
    refine J5 (dj:=40) rfl rfl ?_;refine Va 486 [] f (o_f a0 (some ⟨aa,0,none⟩) a1 2 I.1 [(4,0,ByteArray.mk #[],7),(4,1,ByteArray.mk #[],6)]) (.o 404 (.o 485 .nil)) ?_;rintro a4 - f _ _ ⟨rfl,rfl⟩;refine Jq ?_;refine Ji 2 [(0,.bool a4)] (Je ?_);exact J2 ⟨a4,rfl,rfl,f⟩
   refine Jf [] [] [.off,.off,.off,.off,.off,.n,.n] [(0,.bool false)] (Je ?_);exact J2 ⟨false,rfl,rfl,f⟩
  refine Jf [] [] [.off,.off,.off,.off,.n,.n,.off,.off,.n,.n,.off,.off,.off,.off,.off,.n,.n] [(0,.bool false)] (Je ?_);exact J2 ⟨false,rfl,rfl,f⟩
 rintro _ _ ⟨a2,rfl,rfl,f⟩;rw[F.c6]at f;obtain rfl:=Jm f;exact Jo [] ⟨rfl,rfl⟩
def F.bV (e:(List D49)):Nat→Int→Int→Option Bool
 |0,_,_=>none
 |f+1,k,h=>if h<((List.take ((min (e.length:Int) 300).toNat) e).length:Int)then((A.ix (List.take ((min (e.length:Int) 300).toNat) e) h).bind fun o=>(A.gd (Z.R64 (k+(min (o.2.2.1.size:Int) 1048576))) (A.gd (Z.R64 (h+1)) ((F.bV e f) (min (k+(min (o.2.2.1.size:Int) 1048576)) 1048576) (h+1)))))else(some (bif decide ((e.length:Int)≤200)then decide (k≤9000)else false))
def F.eZ (e:(List D49)):Option Bool:=A.gd (0≤min (e.length:Int) 300∧(min (e.length:Int) 300).toNat≤e.length) (F.bV e A.FU 0 0)
theorem o_bA(k:(List D49))(r:Bool)(h:F.eZ k=some r):
    A.Ct Tryz.prog 6 [.slice A0_ k.length c1_] [(0,.sh (.slice T49) [.slice A0_ k.length c1_] k)] [] (fun v H'=>v=.bool r∧H'=[]):=by
 refine Jg Tryz.func6 rfl Tryz.ntmps6 rfl fun L N=>?_;rw[F.eZ]at h;refine Jc 1 ?_;refine Ji 1 [] (Jk 2 ?_);refine Ji 1 [(3,A.i 0)] (Jk 3 ?_);refine Ji 4 [(6,.slice A0_ k.length c1_),(9,A.i (min (k.length:Int) 300))] ?_;have⟨u,h⟩:=Ve h;refine A.AL.cuth 0 1 (v:=(min (k.length:Int) 300).toNat) (Wu u.1).symm u.2 fun O=>?_;refine Ji 2 [(11,A.i ((List.take ((min (k.length:Int) 300).toNat) k).length:Int)),(12,A.i 0)] (Jd 2 ?_);refine J3 [0,10,11] l2h (fun f B E=>∃(p:Int),∃(s:Int),B=[(3,A.i p),(12,A.i s)]∧E=[]∧A.h6 p∧A.h6 s∧F.bV k f p s=some r) ⟨0,0,rfl,rfl,Js,Js,h⟩ ?_;rintro x _ _ ⟨p,s,rfl,rfl,U,V,h⟩;rcases x with _|x
 ·exact J1 h
 rw[F.bV]at h;refine Jc 1 ?_;refine Ji 1 [(13,.bool (decide (s<((List.take ((min (k.length:Int) 300).toNat) k).length:Int))))] (Jd 2 ?_);refine J9 h ?_ ?_<;>intro W h
 ·refine Jc 5 ?_;have⟨o,I,h⟩:=Vo h;refine J4 1 6 I fun X=>?_;intro a1 a2;refine Jf [] [6] [.e 0 0] [(15,.agg #[A.i o.1,A.i o.2.1,.string o.2.2.1,A.i o.2.2.2])] ?_;refine Jh 7 (cs:=l2c) Tryz.zeroValue50 fun a3=>?_;refine Jw 7 [] [A.i o.1,A.i o.2.1,.string o.2.2.1,A.i o.2.2.2] ?_;refine Jk 1 ?_;have⟨y,h⟩:=Ve h;refine A.q [7] [] [.n,.n,.b 0 2,.n,.n,.n,.n,.n] [Z.R64 (p+(min (o.2.2.1.size:Int) 1048576))] [(3,A.i (min (p+(min (o.2.2.1.size:Int) 1048576)) 1048576))] y (Jk 2 ?_);have⟨z,h⟩:=Ve h;refine Vy 2 [Z.R64 (s+1)] [(12,A.i (s+1))] z (Je ?_);exact J2 ⟨_,Ql _,⟨(min (p+(min (o.2.2.1.size:Int) 1048576)) 1048576),(s+1),rfl,rfl,(A.has_min (Jj y) (Jn .i64 (1048576) rfl)),(Jj z),h⟩⟩
 refine Jc 3 ?_;refine Jf [] [] [.n,.n,.n,.n,.sy .n,.sy .n,.pk,.n] [(2,.bool (bif decide ((k.length:Int)≤200)then decide (p≤9000)else false))] (Jd 1 ?_);obtain rfl:=Jm h;exact Jo [] ⟨rfl,rfl⟩
def F.br (e:Int):Option (List D54):=A.gd (0≤e∧e.toNat*104≤140737488355328) (some [])
theorem o_v (e:Int)(_h1:A.h6 e)(r:List D54)(f:F.br e=some r):
    A.Ct Tryz.prog 40 [.slice none 0 0,A.i e] [] [] (fun v H'=>∃(A0':Option Addr) (c1':Nat),v=.slice A0' r.length c1'∧H'=[(0,.own T54 55 A0' c1' r)]):=by
 have⟨hc,f⟩:=Ve f;obtain rfl:=Jm f;obtain⟨n,rfl⟩: ∃n:Nat,e=n:=⟨e.toNat,by omega⟩
 exact A.Ct.grow (t:=T54) Tryz.laysGrow40 rfl rfl Qit.1 Qit.2.1 Qit.2.2.1 Qit.2.2.2.2 rfl n (by rw[Qt]at hc;exact hc.2)
def F.g (h:(List (List D54))):Nat→(List D54)→Int→Option (List D54)
 |0,_,_=>none
 |f+1,k,e=>if e<(h.length:Int)then((A.ix h e).bind fun o=>(A.gd ((List.length (α:=D54) k+List.length (α:=D54) o)*104≤140737488355328) (A.gd (Z.R64 (e+1)) ((F.g h f) (k++o) (e+1)))))else(some k)
def F.d (e:(List (List D54))):Nat→Int→Int→Option (List D54)
 |0,_,_=>none
 |f+1,h,k=>if k<(e.length:Int)then((A.ix e k).bind fun o=>(A.gd (Z.R64 (h+(o.length:Int))) (if h+(o.length:Int)<0 then(none)else(A.gd (Z.R64 (k+1)) ((F.d e f) (h+(o.length:Int)) (k+1))))))else((F.br h).bind fun p=>(F.g e A.FU p 0))
def F.ak (e:(List (List D54))):Option (List D54):=F.d e A.FU 0 0
theorem o_r(o:(List (List D54)))(r:(List D54))(h:F.ak o=some r):
    A.Ct Tryz.prog 19 [.slice A0_ o.length c1_] [(0,.ln (Z.Ty.slice T54) A0_ c1_ o)] [] (fun v H'=>∃(A0':Option Addr) (c1':Nat),v=.slice A0' r.length c1'∧H'=[(0,.own T54 55 A0' c1' r)]):=by
 refine Jg Tryz.func19 rfl Tryz.ntmps19 rfl fun w0 F0=>?_;rw[F.ak]at h;refine Jc 1 ?_;refine Ji 1 [] (Jk 2 ?_);refine Ji 1 [(3,A.i 0)] (Jk 3 ?_);refine Ji 3 [(9,.slice A0_ o.length c1_),(10,A.i (o.length:Int)),(11,A.i 0)] (Jd 2 ?_);refine J3 [0,9,10] [0] (fun f I L=>∃(p:Int),∃(s:Int),I=[(3,A.i p),(11,A.i s)]∧L=[]∧A.h6 p∧A.h6 s∧F.d o f p s=some r) ⟨0,0,rfl,rfl,Js,Js,h⟩ ?_;rintro N _ _ ⟨p,s,rfl,rfl,a8,ac,h⟩;rcases N with _|N
 ·exact J1 h
 rw[F.d]at h;refine Jc 1 ?_;refine Ji 1 [(12,.bool (decide (s<(o.length:Int))))] (Jd 2 ?_);refine J9 h ?_ ?_<;>intro O h
 ·refine Jc 5 ?_;have⟨B,a9,h⟩:=Vo h;refine Vv 0 103 a9 fun ad=>?_;intro A9 aa ae ah;refine Jf [] [103] [.e 0 0,.n] [(5,.slice A9 B.length aa)] (Jk 2 ?_);have⟨U,h⟩:=Ve h;refine Vy 5 [Z.R64 (p+(B.length:Int))] [(3,A.i (p+(B.length:Int)))] U (Jk 2 ?_);refine Ji 2 [(20,.bool (decide (p+(B.length:Int)<0)))] (Jd 1 ?_);refine J9 h ?_ ?_<;>intro O h
  ·refine Jc 0 ?_;exact J1 h
  refine Jc 3 ?_;have⟨V,h⟩:=Ve h;refine Vy 2 [Z.R64 (s+1)] [(11,A.i (s+1))] V (Je ?_);exact J2 ⟨_,Ql _,⟨(p+(B.length:Int)),(s+1),rfl,rfl,(Jj U),(Jj V),h⟩⟩
 refine Jc 3 ?_;refine Ji 1 [(23,A.i p)] ?_;refine Va 105 [] h (o_v p a8) .nil ?_;rintro W - h _ _ ⟨X,a1,rfl,rfl⟩;refine Jq ?_;refine Ji 1 [(6,.slice X W.length a1)] (Jk 3 ?_);refine Ji 3 [(25,.slice A0_ o.length c1_),(26,A.i (o.length:Int)),(27,A.i 0)] (Jd 2 ?_);refine J3 [25,26] [0] (fun f I L=>∃(u:List D54),∃(x:Int),∃(y:Option Addr),∃(z:Nat),I=[(6,.slice y u.length z),(27,A.i x)]∧L=[(105,.own T54 55 y z u)]∧A.h6 x∧F.g o f u x=some r) ⟨W,0,X,a1,rfl,rfl,Js,h⟩ ?_;rintro a2 _ _ ⟨u,x,y,z,rfl,rfl,ai,h⟩;rcases a2 with _|a2
 ·exact J1 h
 rw[F.g]at h;refine Jc 1 ?_;refine Ji 1 [(28,.bool (decide (x<(o.length:Int))))] (Jd 2 ?_);refine J9 h ?_ ?_<;>intro O h
 ·refine Jc 5 ?_;have⟨E,ab,h⟩:=Vo h;refine Vv 0 149 ab fun aj=>?_;intro a3 a4 al am;refine Jf [] [149] [.e 0 0,.n] [(8,.slice a3 E.length a4)] (Jk 1 ?_);refine Ji 2 [(31,.slice y u.length z),(32,.slice a3 E.length a4)] ?_;have⟨hl34,h⟩:=Ve h;refine Vh (k:=105) [] (A.rowS (k:=150) rfl) Qit hl34 fun a5 a6=>?_;refine Ji 1 [(6,.slice a5 ((u++E).length) a6)] (Jk 2 ?_);have⟨a7,h⟩:=Ve h;refine Vy 2 [Z.R64 (x+1)] [(27,A.i (x+1))] a7 (Je ?_);exact J2 ⟨_,Ql _,⟨(u++E),(x+1),a5,a6,rfl,rfl,(Jj a7),h⟩⟩
 refine Jc 3 ?_;refine Ji 2 [(2,.slice y u.length z)] (Jd 1 ?_);obtain rfl:=Jm h;exact Jo [(0,105)] ⟨y,z,rfl,rfl⟩
end Go.Proofs.YtlhiofnikdppeaaGreatDoor
end
