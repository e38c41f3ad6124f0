/- Functions on data, what they tell, and that the code computes them. -/
import Derived.Test.YtlbnpmfggfbdoaaGreatDoorE1
import Derived.Shelf.SlSortCmp.NoneTotal
import Derived.Lib.TrimU
import Derived.Shelf.Small.Strs
import Derived.Test.YtlbnpmfggfbdoaaGreatDoorE0
set_option linter.unusedVariables false
set_option linter.unusedSimpArgs false
set_option maxRecDepth 20000
set_option maxHeartbeats 8000000
set_option synthInstance.maxSize 1000000
set_option synthInstance.maxHeartbeats 400000
section
namespace Go.A
open Go.RowKit Go.Z
theorem z0:h6 0:=hasl .i64 (0) rfl
theorem ck{b:Bool}{p:Prop}(h:p)(e:b=true:=by kernel_rfl):b=true∧p:=⟨e,h⟩
theorem b{α β:Type}{x:Option α}{f:α→Option β}{y:β}(h:x.bind f=some y):∃v,x=some v∧f v=some y:=Jl.1 h
theorem g{α:Type}{p:Prop}[Decidable p]{x:Option α}{y:α}(h:gd p x=some y):p∧x=some y:=gd_some h
section
variable{r:Option Nat}{P:Program}{ops:Array Oper}{Q:Exit→Act→World→Prop}{lst rest:List Oper}{C:Cx}{l:List (Nat×Value)}{H:List (Nat×Res)}{Y:Exit→Act→World→Prop}{K:List Kx}
theorem n(k:Nat)(nl:List (Nat×Value))(h:AL r P ops Q (lst.drop k) C (cat nl l) H)
    (hq:((qs P ⟨knb H [],kne H []⟩ C.n ops (List.replicate k .n) lst (Z.q0 l)).bind (qfin l (nl.map Prod.fst)))=some ([],nl):=by kernel_rfl)
    (I:(qs P ⟨knb H [],kne H []⟩ C.n ops (List.replicate k .n) lst (Z.q0 l)).map (fun s=>s.q.map Prod.fst)=(qs P ⟨knb H [],kne H []⟩ C.n ops (List.replicate k .n) lst (Z.q0 l)).map (fun s=>s.q.map Prod.snd):=by kernel_rfl):AL r P ops Q lst C l H:=q0 [] [] (List.replicate k .n) nl (by rw[Xb];exact h) hq I
theorem m(k:Nat)(cs:List Prop)(nl:List (Nat×Value))(I:conj cs)(h:AL r P ops Q (lst.drop k) C (cat nl l) H)
    (hq:((qs P ⟨knb H [],kne H []⟩ C.n ops (List.replicate k .n) lst (Z.q0 l)).bind (qfin l (nl.map Prod.fst)))=some (cs,nl):=by kernel_rfl)
    (J:(qs P ⟨knb H [],kne H []⟩ C.n ops (List.replicate k .n) lst (Z.q0 l)).map (fun s=>s.q.map Prod.fst)=(qs P ⟨knb H [],kne H []⟩ C.n ops (List.replicate k .n) lst (Z.q0 l)).map (fun s=>s.q.map Prod.snd):=by kernel_rfl):AL r P ops Q lst C l H:=q [] [] (List.replicate k .n) cs nl I (by rw[Xb];exact h) hq J
theorem c{ρ:Type}{A B R:Option ρ}{c:Operand}{x y:Code}{p:Prop}[Decidable p](I:(if p then A else B)=R)(J:p→A=R→AX r P Y K x C l H)(N:¬p→B=R→AX r P Y K y C l H)(O:ev l c=some (.bool (decide p)):=by rfl):AX r P Y K (.cond c x y) C l H:=AX.cnd O I J N
theorem d{ρ:Type}{A B R:Option ρ}{c:Operand}{x y:Code}{b:Bool}(I:(if b=true then A else B)=R)(J:b=true→A=R→AX r P Y K x C l H)(N:b=false→B=R→AX r P Y K y C l H)(O:ev l c=some (.bool b):=by rfl):AX r P Y K (.cond c x y) C l H:=AX.cnb O I J N
theorem v{ρ σ:Type}{d:Tmp}{T:TypeId}{pos:String}{af:Array Edge}(n:Nat)(js:List Nat){f:FuncId}{c:Operand}{xs:List Operand}{vs:List Value}{ts:Array TypeId}{H0:List (Nat×Res)}{ms:List (Nat×Nat)}{ls:List Nat}{S:List Nat}{R:ρ→Value→List (Nat×Res)→Prop}{X:Option ρ}{fF:ρ→Option σ}{yF:σ}
    (I:X.bind fF=some yF)(J:∀x,X=some x→Ct P f vs H0 S (R x))(O:Sub H H0 ms ls)
    (h:∀x,X=some x→fF x=some yF→∀v H',R x v H'→(outs H'&&frs n H H')=true∧AL r P ops Q rest C ((d,v)::l) (hcat (sft n H') (kld js H (ms.map (·.2)))))
    (N:∀args w,(callFunc f args).run P w=.ok (.enter f args) w:=by intros;kernel_rfl)
    (W:ev l c=some (.func (.func f) #[] #[]):=by rfl)(hx:evs l xs=some vs:=by rfl)(hS:blks H ms=S:=by rfl)(h1:nod (H0.map (·.1))=true:=by rfl)(h2:nod (ms.map (·.2))=true:=by rfl)(h3:ls.all (fun k=>!(ms.map (·.2)).any (Nat.beq k))=true:=by rfl)(hd:Nat.ble (d+1) C.n=true:=by rfl)(hj:hng (ms.map (·.2)) js H=true:=by kernel_rfl):
    AL r P ops Q (⟨some d,.call {callee:=.value c,args:=xs.toArray,argTypes:=ts},T,pos,af,none⟩::rest) C l H:=by
 obtain⟨x,e,I⟩:=bd_some I
 exact AL.call n js (first:=[]) (cap:=[]) N (J x e) O (h x e I) W hx (by rw[Wk];rfl) hS h1 h2 h3 hd hj
end
abbrev zz8:List Value:=[i 0,i 0,i 0,i 0,i 0,i 0,i 0,i 0]
abbrev zz12:List Value:=[i 0,i 0,i 0,i 0,i 0,i 0,i 0,i 0,i 0,i 0,i 0,i 0]
abbrev raa(x:Int×Int):List Value:=[i x.1,i x.2]
abbrev rab(x:Int×Int×Int×Int×Int×Int×Int×Int):List Value:=[i x.1,i x.2.1,i x.2.2.1,i x.2.2.2.1,i x.2.2.2.2.1,i x.2.2.2.2.2.1,i x.2.2.2.2.2.2.1,i x.2.2.2.2.2.2.2]
abbrev rac(x:(Int×Int)×Int):List Value:=[i x.1.1,i x.1.2,i x.2]
abbrev rad(x:(Int×Int)×(Int×Int)×Int×Int×Int×Int×Int×Int×Int×Int):List Value:=[i x.1.1,i x.1.2,i x.2.1.1,i x.2.1.2,i x.2.2.1,i x.2.2.2.1,i x.2.2.2.2.1,i x.2.2.2.2.2.1,i x.2.2.2.2.2.2.1,i x.2.2.2.2.2.2.2.1,i x.2.2.2.2.2.2.2.2.1,i x.2.2.2.2.2.2.2.2.2]
abbrev rae(x:Int×Int):Value:=.agg #[i x.1,i x.2]
abbrev raf(x:Int×Int×Int×Int×Int×Int×Int×Int):Value:=.agg #[i x.1,i x.2.1,i x.2.2.1,i x.2.2.2.1,i x.2.2.2.2.1,i x.2.2.2.2.2.1,i x.2.2.2.2.2.2.1,i x.2.2.2.2.2.2.2]
abbrev rag(x:(Int×Int)×Int):Value:=.agg #[i x.1.1,i x.1.2,i x.2]
abbrev rah(x:(Int×Int)×Int×Int):Value:=.agg #[i x.1.1,i x.1.2,i x.2.1,i x.2.2]
abbrev rai(x:(Int×Int)×(Int×Int)×Int×Int×Int×Int×Int×Int×Int×Int):Value:=.agg #[i x.1.1,i x.1.2,i x.2.1.1,i x.2.1.2,i x.2.2.1,i x.2.2.2.1,i x.2.2.2.2.1,i x.2.2.2.2.2.1,i x.2.2.2.2.2.2.1,i x.2.2.2.2.2.2.2.1,i x.2.2.2.2.2.2.2.2.1,i x.2.2.2.2.2.2.2.2.2]
end Go.A
end
set_option linter.defProp false
def Jv:=@Go.A.xl
def Jw:=@Go.A.dx
def Jy:=@Go.A.AL.done
def Jz:=@Go.A.q0
def J0:=@Go.A.n
def J1:=@Go.A.Ct.enter
def J2:=@Go.Z.i64_has
def J3:=@Go.A.pb
def J4:=@Go.A.AX.join
def J5:=@Go.A.z0
def J6:=@Go.A.AL.alloc
def J7:=@Go.A.si
def J8:=@Go.A.AH.one
def J9:=@Go.A.AH.done
def Va:=@Go.A.rt1
def Vb:=@Go.A.dl
def Vc:=@Go.A.AL.box
def Vd:=@Go.A.hasl
def Ve:=@Go.A.ck
def Vf:=@Go.A.AH.v
def Vg:=@Go.A.AH.nx
def Vh:=@Go.A.hq
def Vi:=@Go.A.j
def Vj:=@Go.A.r_ixa
def Vk:=@Go.A.AL.on
def Vl:=@Go.A.AX.dr
def Vm:=@Go.A.no0
def Vn:=@Go.A.AH.pkl
def Vo:=@Go.A.lp_
def Vp:=@Go.A.AL.bsl
def Vq:=@Go.A.g
def Vr:=@Go.A.c
def Vs:=@Go.A.AL.cnd
def Vt:=@Go.A.Hp.blk
def Vu:=@Go.A.sw
def Vv:=@Go.A.AX.ret
def Vw:=@Go.A.v
def Vx:=@Go.A.b
def Vy:=@Go.A.xe
def Vz:=@Go.Z.rv_t
def V0:=@Go.A.r_indexArr
def V1:=@Go.A.AL.app
def V2:=@Go.A.AL.ixs
def V3:=@Go.A.xx
def V4:=@Go.A.rt2
def V5:=@Go.A.lt_some
def V6:=@Go.A.AL.cnp
def V7:=@Go.A.mvd
def V8:=@Go.Z.resv2
def V9:=@Go.A.nil
def Ua:=@Go.A.AL.ixl
def Ub:=@Go.A.m
def Uc:=@Go.A.AL.val
def Ud:=@Go.A.d
def Ue:=@Go.A.AH.vg
def Uf:=@Go.Z.rv_n
def Ug:=@Go.A.de
def Uh:=@Go.A.AH.pks
def Ui:=@Go.A.AH.cnp
def Uj:=@Go.A.has_ix
def Uk:=@Go.A.rowO
def Ul:=@Go.Z.slice_n
def Um:=@Go.A.AL.ixo
def Un:=@Go.A.AL.store
def Uo:=@Go.A.AX.cnt
def Up:=@Go.A.AH.pko
def Uq:=@Go.A.ix_ok
def Ur:=@Go.A.AX.cnf
def Us:=@Go.A.AH.q
def Ut:=@Go.A.AH.nm
def Uu:=@Go.A.r_ixo
def Uw:=@Go.Z.mget_ins
def Ux:=@Go.A.AL.lku
def Uy:=@Go.A.ex
def Uz:=@Go.Z.resv1
def U0:=@Go.A.AL.ixt
def U1:=@Go.A.r_ixt
def U2:=@Go.A.seen_bd
def U3:=@Go.A.cst
section
namespace Go.A
open Go.RowKit Go.Z Go.Shelf Go.Proofs Go.Sort
section
variable {α:Type}
def cl0 (cmp:α→α→Option Int)(x y:α):Bool:=match cmp x y with
 |some c=>decide (c<0)
 |none=>false
def srtI (lt:α→α→Bool)(x:α):List α→List α
 | []=>[x]
 |y::l=>bif lt y x then y::srtI lt x l else x::y::l
def srtL (lt:α→α→Bool):List α→List α
 | []=>[]
 |x::l=>srtI lt x (srtL lt l)
def ordB [DecidableEq α](cmp:α→α→Option Int)(xs:List α):Bool:=xs.all fun x=>xs.all fun y=>(cmp x y).isSome&&(bif cl0 cmp x y then !cl0 cmp y x else cl0 cmp y x||decide (x=y))&&xs.all fun z=> !(cl0 cmp x y&&cl0 cmp y z)||cl0 cmp x z
def srtF [DecidableEq α](cmp:α→α→Option Int)(xs:List α):Option (List α):=if ordB cmp xs=true then some (srtL (cl0 cmp) xs)else none
structure OrdOn (lt:α→α→Bool) (X:List α):Prop where
 asym: ∀x∈X,∀y∈X,lt x y=true→lt y x=false
 tri: ∀x∈X,∀y∈X,lt x y=false→lt y x=false→x=y
 trans: ∀x∈X,∀y∈X,∀z∈X,lt x y=true→lt y z=true→lt x z=true
theorem OrdOn.nt {lt:α→α→Bool}{X:List α}(O:OrdOn lt X){x y z:α}(J:x∈X)(N:y∈X)(hz:z∈X)(h1:lt x y=false)(I:lt y z=false):lt x z=false:=by
 cases W:lt x z with
 |false=>rfl
 |true=>
  cases h4:lt y x with
  |true=>rw[O.trans y N x J z hz h4 W]at I;cases I
  |false=>
   have:=O.tri x J y N h1 h4
   subst this;rw[W]at I;cases I
theorem Qiv [DecidableEq α]{cmp:α→α→Option Int}{xs:List α}(h:ordB cmp xs=true):OrdOn (cl0 cmp) xs∧∀x∈xs,∀y∈xs,∃c,cmp x y=some c:=by
 unfold ordB at h
 have key: ∀x∈xs,∀y∈xs,((cmp x y).isSome=true∧(bif cl0 cmp x y then !cl0 cmp y x else cl0 cmp y x||decide (x=y))=true)∧∀z∈xs,(!(cl0 cmp x y&&cl0 cmp y z)||cl0 cmp x z)=true:=fun x I y J=>by
  have:=Qz.1 (Qz.1 h x I) y J
  rw[Qm,Qm,Qz]at this
  exact this
 refine⟨⟨fun x I y J N=>?_,fun x I y J N O=>?_,fun x I y J z W N O=>?_⟩,fun x I y J=>Option.isSome_iff_exists.1 (key x I y J).1.1⟩
 ·have:=(key x I y J).1.2
  rw[N,cond_true,Xs]at this;exact this
 ·have:=(key x I y J).1.2
  rw[N,O,cond_false,W6,decide_eq_true_iff]at this;exact this
 ·have:=(key x I y J).2 z W
  rw[N,O]at this;exact this
theorem Qdn (lt:α→α→Bool)(x:α): ∀l:List α,(srtI lt x l).Perm (x::l)
 | []=>List.Perm.refl _
 |y::l=>by
  unfold srtI
  cases lt y x with
  |true=>exact((Qdn lt x l).cons y).trans (List.Perm.swap x y l)
  |false=>exact List.Perm.refl _
theorem srtL_perm (lt:α→α→Bool): ∀l:List α,(srtL lt l).Perm l
 | []=>List.Perm.refl _
 |x::l=>(Qdn lt x _).trans ((srtL_perm lt l).cons x)
theorem srtI_pw {lt:α→α→Bool}{X:List α}(O:OrdOn lt X){x:α}(N:x∈X): ∀l:List α,(∀a∈l,a∈X)→l.Pairwise (fun a b=>lt b a=false)→(srtI lt x l).Pairwise (fun a b=>lt b a=false)
 | [],_,_=>Yd ..
 |y::l,W,hp=>by
  have hy:=W y (Qg ..)
  have J: ∀a∈l,a∈X:=fun a ha=>W a (Qe _ ha)
  rw[Wi]at hp
  unfold srtI
  cases h:lt y x with
  |true=>
   refine Wi.2 ⟨fun b I=>?_,srtI_pw O N l J hp.2⟩
   rcases Qk.1 ((Qdn lt x l).mem_iff.1 I)with rfl|I
   ·exact O.asym y hy b N h
   ·exact hp.1 b I
  |false=>
   refine Wi.2 ⟨fun b I=>?_,Wi.2 hp⟩
   rcases Qk.1 I with rfl|I
   ·exact h
   ·exact O.nt (J b I) hy N (hp.1 b I) h
theorem srtL_pw {lt:α→α→Bool}{X:List α}(O:OrdOn lt X): ∀l:List α,(∀a∈l,a∈X)→(srtL lt l).Pairwise (fun a b=>lt b a=false)
 | [],_=>List.Pairwise.nil
 |x::l,I=>srtI_pw O (I x (Qg ..)) _ (fun a J=>I a (Qe _ ((srtL_perm lt l).mem_iff.1 J))) (srtL_pw O l fun a J=>I a (Qe _ J))
theorem srt_uniq {lt:α→α→Bool}{xs ys:List α}(O:OrdOn lt xs)(hp:ys.Perm xs)(I:ys.Pairwise (fun a b=>lt b a=false)):ys=srtL lt xs:=
 List.Perm.eq_of_pairwise (le:=fun a b=>lt b a=false) (fun a b J N W h2=>O.tri a (hp.mem_iff.1 J) b ((srtL_perm lt xs).mem_iff.1 N) h2 W) I (srtL_pw O xs fun a h=>h) (hp.trans (srtL_perm lt xs).symm)
end
theorem Qil: ∀{t:Ty},t.flat=true→lv t=0
 | .int _,_=>rfl
 | .byte,_=>rfl
 | .bool,_=>rfl
 | .str,_=>rfl
 | .slice _,h=>by cases h
 | .pair a b,h=>by
  simp only[Ty.flat,Qm]at h
  show lv a+lv b=0
  rw[Qil h.1,Qil h.2]
theorem cl_len: ∀{t:Ty} (x:t.den) (ps:Lf),t.flat=true→(cl t x ps).length=t.size
 | .int _,_,_,_=>rfl
 | .byte,_,_,_=>rfl
 | .bool,_,_,_=>rfl
 | .str,_,_,_=>rfl
 | .slice _,_,_,h=>by cases h
 | .pair a b,x,ps,h=>by
  simp only[Ty.flat,Qm]at h
  show(cl a x.1 _++cl b x.2 _).length=a.size+b.size
  rw[Ql,cl_len x.1 _ h.1,cl_len x.2 _ h.2]
theorem cl_one: ∀{t:Ty} (x:t.den) (ps:Lf),t.flat=true→∀v∈cl t x ps,v.oneCell'=true
 | .int _,_,_,_,v,I=>by obtain rfl:=Qj.1 I;rfl
 | .byte,_,_,_,v,I=>by obtain rfl:=Qj.1 I;rfl
 | .bool,_,_,_,v,I=>by obtain rfl:=Qj.1 I;rfl
 | .str,_,_,_,v,I=>by obtain rfl:=Qj.1 I;rfl
 | .slice _,_,_,h,_,_=>by cases h
 | .pair a b,x,ps,h,v,I=>by
  simp only[Ty.flat,Qm]at h
  rcases Qn.1 (show v∈cl a x.1 _++cl b x.2 _ from I)with I|I
  ·exact cl_one x.1 _ h.1 v I
  ·exact cl_one x.2 _ h.2 v I
theorem rep_cl0 {t:Ty}(I:t.flat=true){w:World}{F:Nat→Prop}{cs:List Value}{x:t.den}(h:t.rep w F cs x):cs=cl t x []:=by
 obtain⟨ps,hp,J,_⟩:=rep_cl (B:=fun _ _=>False) t h
 rw[Qil I]at hp
 obtain rfl:=Wo hp
 exact J
theorem ch_grow {W w':World}(h:Ch [] W w')(I:W.drawn≤w'.drawn): ∃q os',w'=grow (W.drewN q) os':=by
 refine⟨w'.drawn-W.drawn,w'.heap.extract W.heap.size w'.heap.size,?_⟩
 obtain⟨J,N,O,h4,h5⟩:=h
 obtain⟨heap',tape',drawn',os',output'⟩:=w'
 obtain⟨heap,tape,drawn,os,output⟩:=W
 simp only at J N O h4 h5 I
 subst J;subst N;subst O
 have e:heap'=heap++heap'.extract heap.size heap'.size:=by
  refine Array.ext_getElem? fun i=>?_
  by_cases hi:i<heap.size
  ·rw[h5 i hi (by simp),Xu hi]
  ·rw[Array.getElem?_append_right (by omega),Array.getElem?_extract]
   split
   ·congr 1;omega
   ·rw[Yq (by omega)]
 show World.mk heap' tape' drawn' os' output'=World.mk (heap++heap'.extract heap.size heap'.size) tape' (drawn+(drawn'-drawn)) os' output'
 rw[←e,Nat.add_sub_cancel' I]
theorem Hp.none (W:World)(F:Nat→Prop):Hp ⟨0,[],W,[],F⟩ [] W:=⟨Ch.refl _,fun k r h=>(by cases h),fun k b ⟨_,h,_⟩=>(by cases h),fun k k' b ⟨_,h,_⟩=>(by cases h),fun k r j h=>(by cases h)⟩
theorem Ct.cmp {P:Program}{g:Nat}{vs:List Value}{c:Int}{R:Value→List (Nat×Res)→Prop}(h:Ct P g vs [] [] R)(J: ∀v H',R v H'→v=.int .i64 c)(W:World):Calls P g vs.toArray W fun e w'=>e=.returned (.int .i64 c)∧∃q os',w'=grow (W.drewN q) os':=
 (Dr.calls (h W (fun _=>False) (Hp.none W _))).mono fun e w' ⟨⟨v,H',I,N,O⟩,hd⟩=>⟨by rw[I,J v H' N],ch_grow O.ch (hd v I)⟩
theorem Qcy {α:Type}[Inhabited α](enc:α→List Value)(k:Nat)(d:Array α){i j:Nat}{x:α}(J:d[i]?=some x)(O:j<k):i*k+j<d.size*k∧(flatK enc k d)[i*k+j]! =(enc x)[j]! :=by
 obtain⟨I,N⟩:=Qo.1 J
 have lt:i*k+j<d.size*k:=by
  have:=Q9 k (show i+1≤d.size from I);rw[Xv,X8]at this;omega
 have e1:(i*k+j) / k=i:=(blk_iff k i _ (by omega)).1 ⟨by omega,by omega⟩
 have e2:(i*k+j)%k=j:=by rw[Nat.mod_eq_sub_div_mul,e1];omega
 refine⟨lt,?_⟩
 rw[get_flatK _ _ _ _ lt,e1,e2,getElem!_pos d i I,N]
theorem lgetb {l:List Value}{j:Nat}(h:j<l.length):l[j]?=some l[j]! :=by rw[Qd h,getElem!_pos l j h]
theorem put_id (d:Array Value)(c:Array Value)(j:Nat):(putCells id 0 d c)[j]?=(c[j]?).map fun x=>if j<d.size then d[j]! else x:=by
 unfold putCells
 rw[Array.getElem?_mapIdx]
 congr 1;funext x
 simp
theorem Ct.sortF {P:Program}{ρ:Ren}{f:Nat}(L:SlLaysF0.n6 P ρ)(hf:ρ.f 6=f){t:Ty}[DecidableEq t.den]{e:TypeId}(ht:t.flat=true)
  (aE: ∀w,(isAgg (ρ.t 24)).run P w=.ok true w) (zE: ∀w,(Go.sizeOf (ρ.t 24)).run P w=.ok t.size w) (A:Option Addr) (c:Nat) (g:Nat) (cmp:t.den→t.den→Option Int)
  (eg: ∀args w,(callFunc g args).run P w=.ok (.enter g args) w)
  (hc: ∀x y r,t.ok x→t.ok y→cmp x y=some r→∃R,Ct P g [.agg (cl t x []).toArray,.agg (cl t y []).toArray] [] [] R∧∀v H',R v H'→v=.int .i64 r)
  (xs r:List t.den) (hm:xs.length<4611686018427387904) (hr:srtF cmp xs=some r):
  Ct P f [.slice A xs.length c,.func (.func g) #[] #[]] [(0,.own t e A c xs)] (obl A) (fun v H'=>v=.tuple #[]∧H'=[(0,.own t e A c r)]∧r.length=xs.length):=fun w F hh=>by
 subst hf
 obtain⟨hord,hr⟩:ordB cmp xs=true∧srtL (cl0 cmp) xs=r:=by
  unfold srtF at hr
  split at hr
  ·rename_i h;exact⟨h,Qp hr⟩
  ·cases hr
 obtain⟨O,tot⟩:=Qiv hord
 have hlen:r.length=xs.length:=by rw[←hr];exact(srtL_perm (cl0 cmp) xs).length_eq
 obtain⟨cells,hrow,h1,h2⟩:Own t e 0 w (Fh ⟨0,[],w,obl A,F⟩ [(0,.own t e A c xs)]) A c xs:=hh.hold 0 _ rfl
 have hok: ∀x∈xs,t.ok x:=fun x W=>by
  obtain⟨i,hi⟩:=Xl W
  exact rep_ok t (h2 i x hi)
 by_cases hx0:xs=[]
 ·subst hx0
  obtain rfl:r=[]:=by rw[←hr];rfl
  refine(AnyF.slices_SortFunc_none L A c _ w).mono ?_
  rintro e' w' ⟨rfl,rfl⟩
  exact⟨_,_,rfl,⟨rfl,rfl,rfl⟩,hh⟩
 rcases hrow.2 with⟨hv,hn⟩|⟨b,cap,cur,hv,hb,hg,hnc,hcm,hcs,htake⟩
 ·exact absurd (Wo hn) hx0
 injection hv with hA _ hcap
 subst hA;subst hcap
 have hglt:b<w.heap.size:=(Qo.1 hg).1
 have hk:=Qal t
 have hbound: ∀{n i j:Nat},i<n→j<t.size→i*t.size+j<n*t.size:=fun {n i j} hi J=>by
  have:=Q9 t.size (show i+1≤n from hi);rw[Xv,X8]at this;omega
 have hcell: ∀i x,xs[i]?=some x→∀j,j<t.size→cur[i*t.size+j]?=(cl t x [])[j]?:=fun i x W j J=>by
  have I:=rep_cl0 ht (h2 i x W)
  have hi:=(Qc.1 W).1
  rw[←I,Qq J,Wc,←htake,Xe,if_pos (hbound hi J)]
  simp
 haveI:Inhabited {x // x∈xs}:=⟨⟨xs.head hx0,List.head_mem hx0⟩⟩
 let enc:{x // x∈xs}→List Value:=fun x=>cl t x.1 []
 have he: ∀x,(enc x).length=t.size:=fun x=>cl_len x.1 [] ht
 let cf:{x // x∈xs}→{x // x∈xs}→Int:=fun x y=>(cmp x.1 y.1).getD 0
 have hlt: ∀x y,ltOf cf x y=cl0 cmp x.1 y.1:=fun x y=>by
  obtain⟨c0,h0⟩:=tot x.1 x.2 y.1 y.2
  show decide ((cmp x.1 y.1).getD 0<0)=_
  unfold cl0;rw[h0];rfl
 have hO:SWO (ltOf cf):=by
  refine⟨fun x=>?_,fun x y z I N=>?_,fun x y z I N=>?_⟩
  ·rw[hlt]
   cases I:cl0 cmp x.1 x.1 with
   |false=>rfl
   |true=>rw[O.asym _ x.2 _ x.2 I]at I;cases I
  ·rw[hlt]at I N ⊢;exact O.trans _ x.2 _ y.2 _ z.2 I N
  ·rw[hlt]at I N ⊢;exact O.nt x.2 y.2 z.2 I N
 obtain⟨d,hd⟩: ∃d:Array {x // x∈xs},d=xs.attach.toArray:=⟨_,rfl⟩
 have hds:d.size=xs.length:=by rw[hd];simp
 have hdg: ∀(i:Nat) (x:{x // x∈xs}),d[i]?=some x→xs[i]?=some x.1:=fun i x W=>by
  rw[hd,Ws]at W
  have:=congrArg (Option.map Subtype.val) W
  rw[←Qt,Yt]at this;exact this
 have hH:HoldsK enc t.size w b 0 d:=fun j J=>by
  rw[size_flatK]at J
  have hi:j / t.size<d.size:=Y1 (by rwa[Jm]at J)
  have hu:=Jo j hk
  have hje:j / t.size*t.size+j%t.size=j:=Jp j t.size
  have W:d[j / t.size]?=some d[j / t.size]:=Wg hi
  obtain⟨_,N⟩:=Qcy enc t.size d W hu
  rw[hje]at N
  have h5:=hcell _ _ (hdg _ _ W) _ hu
  rw[hje]at h5
  refine⟨?_,by simp[World.frozen?,hg]⟩
  rw[Wf,cell_of_row w b j cur e (0,0) hg,h5,N]
  have hl:j%t.size<(enc d[j / t.size]).length:=by rw[he];exact hu
  have e9:(enc d[j / t.size])[j%t.size]?=some ((enc d[j / t.size])[j%t.size]!):=lgetb hl
  exact e9
 have hcl:CmpLays P g #[] enc t.size cf b 0 d.size w:=fun m os dk _ x y=>by
  obtain⟨c0,h0⟩:=tot x.1 x.2 y.1 y.2
  obtain⟨R,I,N⟩:=hc x.1 y.1 c0 (hok _ x.2) (hok _ y.2) h0
  have:cf x y=c0:=by show(cmp x.1 y.1).getD 0=c0;rw[h0];rfl
  rw[this]
  exact Ct.cmp I N _
 have key:=AnyQ.slices_SortFunc L t.size aE zE enc he (fun x v hv=>cl_one x.1 [] ht v hv) cf hO g #[] b 0 c d w eg hcl hH hglt (by rw[hds];exact hm)
 rw[hds]at key
 refine key.mono ?_
 rintro e' w' ⟨rfl,d',n,os,hp,hs,rfl⟩
 clear key
 obtain⟨hsz,_,hperm⟩:=hp
 have hsz2:d'.size=xs.length:=hsz.trans hds
 have hys:d'.toList.map Subtype.val=r:=by
  rw[←hr]
  refine srt_uniq O ?_ ?_
  ·have I:d'.toList.Perm d.toList:=by
    have e1:d'.extract 0 xs.length=d':=by rw[←hsz2];exact Jj
    have e2:d.extract 0 xs.length=d:=by rw[←hds];exact Jj
    rw[e1,e2]at hperm;exact hperm
   have N:=I.map Subtype.val
   rw[hd]at N
   have h5:xs.attach.toArray.toList.map Subtype.val=xs:=Yt xs
   rw[h5]at N;exact N
  ·refine Xz.2 fun i j hi J hij=>?_
   rw[Qw,Yp]at hi J
   have I:=hs i j (Xq _) hij (by omega)
   rw[hlt,getElem!_pos d' j (by omega),getElem!_pos d' i (by omega)]at I
   simpa using I
 have hrg: ∀(i:Nat) (x:t.den),r[i]?=some x→∃y,d'[i]?=some y∧y.1=x:=fun i x W=>by
  rw[←hys,Qt,Xr]at W
  obtain⟨y,I,N⟩:=Wt.1 W
  exact⟨y,I,N⟩
 generalize hcd:putCells id 0 (flatK enc t.size d') cur=cur'
 have hheap:(sortWorldK enc t.size w b 0 n d' os).heap[b]?=some (.cells cur' e (0,0)):=by
  show((w.heap.modify b (onCells (putCells id 0 (flatK enc t.size d'))))++os)[b]?=_
  rw[Xu (by simpa using hglt),Y9,if_pos rfl,hg]
  simp only[Wj,onCells,hcd]
 have hch:Ch [b] w (sortWorldK enc t.size w b 0 n d' os):=by
  refine⟨rfl,rfl,rfl,?_,fun k hk hn2=>?_⟩
  ·show w.heap.size≤((w.heap.modify b (onCells (putCells id 0 (flatK enc t.size d'))))++os).size
   simp
  ·show((w.heap.modify b (onCells (putCells id 0 (flatK enc t.size d'))))++os)[k]?=_
   rw[Xu (by simpa using hk),Y9,if_neg (fun e=>hn2 (Qj.2 e.symm))]
 have hcs':cur'.size=cur.size:=by rw[←hcd];simp[putCells]
 have hnk:xs.length*t.size≤cur.size:=by rw[hcs];exact Q9 _ hnc
 have hget: ∀(i:Nat) (y:{x // x∈xs}),d'[i]?=some y→∀j,j<t.size→cur'[i*t.size+j]?=(cl t y.1 [])[j]?:=fun i y hy j J=>by
  have hi:=(Qo.1 hy).1
  obtain⟨I,N⟩:=Qcy enc t.size d' hy J
  have hb2:i*t.size+j<cur.size:=Q4 (hbound (by omega) J) hnk
  rw[←hcd,put_id,Wg hb2,Wj,if_pos (by rw[size_flatK];exact I),N]
  have hl:j<(enc y).length:=by rw[he];exact J
  show some (enc y)[j]! =(enc y)[j]?
  exact(lgetb hl).symm
 have hown: ∀F':Nat→Prop,Own t e 0 (sortWorldK enc t.size w b 0 n d' os) F' (some ⟨b,0,none⟩) c r:=fun F'=>by
  refine⟨cur'.toList.take (r.length*t.size),⟨?_,.inr ⟨b,c,cur',rfl,Xq _,hheap,by omega,hcm,by rw[hcs',hcs],rfl⟩⟩,fun u hu=>?_,fun i x W=>?_⟩
  ·rw[Qu,Yp (xs:=cur'),hlen,hcs'];omega
  ·obtain⟨j,J,rfl⟩:=Xh hu
   rw[Qu]at J
   have hj2:j<r.length*t.size:=by omega
   have hje:j / t.size*t.size+j%t.size=j:=Jp j t.size
   have hi:j / t.size<d'.size:=by rw[hsz2,←hlen];exact Y1 (by rwa[Jm]at hj2)
   have I:=hget _ _ (Wg hi) _ (Jo j hk)
   rw[hje]at I
   rw[List.getElem_take]
   have hjc:j<cur'.size:=by have:=J;rw[Yp (xs:=cur')]at this;omega
   rw[Wg hjc]at I
   rw[Array.getElem_toList]
   exact cl_one _ [] ht _ (Qf I.symm)
  ·obtain⟨y,hy,rfl⟩:=hrg i x W
   have hi:=(Qc.1 W).1
   have e1:((cur'.toList.take (r.length*t.size)).drop (i*t.size)).take t.size=cl t y.1 []:=by
    refine Wu fun j=>?_
    by_cases J:j<t.size
    ·rw[Qq J,Wc,Xe,if_pos (hbound hi J),Xr]
     exact hget i y hy j J
    ·rw[Q5 (by rw[Qu];omega),Q5 (by rw[cl_len _ _ ht];omega)]
   rw[e1]
   obtain⟨i0,hi0⟩:=Xl y.2
   have I:=h2 i0 y.1 hi0
   rw[rep_cl0 ht I]at I
   exact rep_flat t ht (rep_to (F':=no) (rep_flat (F':=no) t ht I) hch (fun _ h _=>h.elim))
 refine⟨_,[(0,.own t e (some ⟨b,0,none⟩) c r)],rfl,⟨rfl,rfl,hlen⟩,?_⟩
 have I:=Hp.ren (Hp.upd (k:=0) (r':=.own t e (some ⟨b,0,none⟩) c r) hh hch (fun k hb2=>⟨_,rfl,hb2⟩) (fun k hb2=>.inl ⟨_,rfl,hb2⟩) (fun j J=>by cases J) fun F' B _ _ _ _ _=>hown _) [(0,0)] rfl rfl
 exact⟨I.ch,I.hold,I.bnd,I.dis,I.ref⟩
end Go.A
end
section
namespace Go.A
open Go.RowKit Go.Z Go.Shelf Go.Proofs
def dem {α β:Type}[DecidableEq β](m:List α)(sn:List Nat)(e:Option β)(g:Nat→α→Option β):Option β:=
 match(List.range m.length).filter (fun i=> !(sn.contains i))with
 | []=>e
 |i::js=>(m[i]?).bind fun p=>if(js.all fun j=>decide (((m[j]?).bind fun q=>g j q)=g i p))=true then g i p else none
theorem dem_some {α β:Type}[DecidableEq β]{m:List α}{sn:List Nat}{e:Option β}{g:Nat→α→Option β}{r:β}(h:dem m sn e g=some r):
  ((∀i,i<m.length→i∈sn)→e=some r)∧∀i p,m[i]?=some p→i∉sn→g i p=some r:=by
 have hmem: ∀i,i∈(List.range m.length).filter (fun i=> !(sn.contains i))↔i<m.length∧i∉sn:=fun i=>by
  rw[Yn,Xj];simp
 unfold dem at h
 split at h
 ·rename_i J
  rw[J]at hmem
  exact⟨fun _=>h,fun i p hp N=>absurd ((hmem i).2 ⟨(Qc.1 hp).1,N⟩) (by simp)⟩
 ·rename_i i js J
  rw[J]at hmem
  have I:=(hmem i).1 (Qg ..)
  refine⟨fun hall=>absurd (hall i I.1) I.2,fun j q hq N=>?_⟩
  rw[Qd I.1,Qa]at h
  split at h
  ·rename_i hall
   rcases Qk.1 ((hmem j).2 ⟨(Qc.1 hq).1,N⟩)with rfl|O
   ·rw[Qd I.1]at hq
    obtain rfl:=Qp hq
    exact h
   ·have:=of_decide_eq_true (Qz.1 hall j O)
    rw[hq,Qa]at this
    rw[this];exact h
  ·cases h
section
variable {r:Option Nat}{P:Program}{Q:Exit→Act→World→Prop}{C:Cx}{l:List (Nat×Value)}{H:List (Nat×Res)}{ops:Array Oper}{rest:List Oper}{T:TypeId}{pos:String}{af:Array Edge}{d:Nat}
end
end Go.A
end
section
namespace Go.Proofs.YtlbnpmfggfbdoaaGreatDoor
open Go.RowKit Go.Shelf Go.Lib
def Tryz.laysSortFunc42_ren:Go.Shelf.Ren:=⟨fun|6=>42|15=>79|14=>78|28=>120|29=>121|20=>112|21=>113|22=>114|23=>115|24=>116|25=>117|26=>118|27=>119|46=>152|47=>153|48=>154|49=>155|50=>156|57=>179|n=>n,fun|22=>27|24=>58|25=>94|3=>3|39=>129|0=>0|53=>167|55=>169|4=>4|46=>160|45=>159|50=>164|5=>5|9=>9|66=>199|70=>203|76=>220|77=>180|n=>n,fun|n=>n⟩
theorem Tryz.laysSortFunc42:Go.Proofs.SlLaysF0.n6 Tryz.prog Tryz.laysSortFunc42_ren where
 mixed:=by kernel_rfl
 f6:=⟨"slices.SortFunc[[]rivulet/api.Path,rivulet/api.Path]",by decide,Tryz.func42.trans (congrArg some (by kernel_rfl))⟩
 f14:=⟨"slices.pdqsortCmpFunc[rivulet/api.Path]",by decide,Tryz.func78.trans (congrArg some (by kernel_rfl))⟩
 f15:=Tryz.func79.trans (congrArg some (by kernel_rfl))
 f20:=⟨"slices.insertionSortCmpFunc[rivulet/api.Path]",by decide,Tryz.func112.trans (congrArg some (by kernel_rfl))⟩
 f21:=⟨"slices.heapSortCmpFunc[rivulet/api.Path]",by decide,Tryz.func113.trans (congrArg some (by kernel_rfl))⟩
 f22:=⟨"slices.breakPatternsCmpFunc[rivulet/api.Path]",by decide,Tryz.func114.trans (congrArg some (by kernel_rfl))⟩
 f23:=⟨"slices.choosePivotCmpFunc[rivulet/api.Path]",by decide,Tryz.func115.trans (congrArg some (by kernel_rfl))⟩
 f24:=⟨"slices.reverseRangeCmpFunc[rivulet/api.Path]",by decide,Tryz.func116.trans (congrArg some (by kernel_rfl))⟩
 f25:=⟨"slices.partialInsertionSortCmpFunc[rivulet/api.Path]",by decide,Tryz.func117.trans (congrArg some (by kernel_rfl))⟩
 f26:=⟨"slices.partitionEqualCmpFunc[rivulet/api.Path]",by decide,Tryz.func118.trans (congrArg some (by kernel_rfl))⟩
 f27:=⟨"slices.partitionCmpFunc[rivulet/api.Path]",by decide,Tryz.func119.trans (congrArg some (by kernel_rfl))⟩
 f28:=Tryz.func120.trans (congrArg some (by kernel_rfl))
 f29:=Tryz.func121.trans (congrArg some (by kernel_rfl))
 f46:=⟨"slices.siftDownCmpFunc[rivulet/api.Path]",by decide,Tryz.func152.trans (congrArg some (by kernel_rfl))⟩
 f47:=Tryz.func153.trans (congrArg some (by kernel_rfl))
 f48:=Tryz.func154.trans (congrArg some (by kernel_rfl))
 f49:=⟨"slices.medianAdjacentCmpFunc[rivulet/api.Path]",by decide,Tryz.func155.trans (congrArg some (by kernel_rfl))⟩
 f50:=⟨"slices.medianCmpFunc[rivulet/api.Path]",by decide,Tryz.func156.trans (congrArg some (by kernel_rfl))⟩
 f57:=⟨"slices.order2CmpFunc[rivulet/api.Path]",by decide,Tryz.func179.trans (congrArg some (by kernel_rfl))⟩
 t0:=Tryz.underlying0
 a0:=Tryz.isAgg0
 z0:=Tryz.sizeOf0
 v0:=Tryz.zeroValue0
 t3:=Tryz.underlying3
 a3:=Tryz.isAgg3
 z3:=Tryz.sizeOf3
 v3:=Tryz.zeroValue3
 t4:=Tryz.underlying4
 a4:=Tryz.isAgg4
 z4:=Tryz.sizeOf4
 v4:=Tryz.zeroValue4
 t5:=Tryz.underlying5
 a5:=Tryz.isAgg5
 z5:=Tryz.sizeOf5
 v5:=Tryz.zeroValue5
 t9:=Tryz.underlying9
 a9:=Tryz.isAgg9
 z9:=Tryz.sizeOf9
 v9:=Tryz.zeroValue9
 t22:=Tryz.underlying27
 a22:=Tryz.isAgg27
 z22:=Tryz.sizeOf27
 v22:=Tryz.zeroValue27
 t25:=Tryz.underlying94
 a25:=Tryz.isAgg94
 z25:=Tryz.sizeOf94
 v25:=Tryz.zeroValue94
 t39:=Tryz.underlying129
 a39:=Tryz.isAgg129
 z39:=Tryz.sizeOf129
 v39:=Tryz.zeroValue129
 t45:=Tryz.underlying159
 a45:=Tryz.isAgg159
 z45:=Tryz.sizeOf159
 v45:=Tryz.zeroValue159
 t46:=Tryz.underlying160
 a46:=Tryz.isAgg160
 z46:=Tryz.sizeOf160
 v46:=Tryz.zeroValue160
 t50:=Tryz.underlying164
 a50:=Tryz.isAgg164
 z50:=Tryz.sizeOf164
 v50:=Tryz.zeroValue164
 t53:=Tryz.underlying167
 a53:=Tryz.isAgg167
 z53:=Tryz.sizeOf167
 v53:=Tryz.zeroValue167
 t55:=Tryz.underlying169
 a55:=Tryz.isAgg169
 z55:=Tryz.sizeOf169
 v55:=Tryz.zeroValue169
 t66:=Tryz.underlying199
 a66:=Tryz.isAgg199
 z66:=Tryz.sizeOf199
 v66:=Tryz.zeroValue199
 t70:=Tryz.underlying203
 a70:=Tryz.isAgg203
 z70:=Tryz.sizeOf203
 v70:=Tryz.zeroValue203
 t76:=Tryz.underlying220
 a76:=Tryz.isAgg220
 z76:=Tryz.sizeOf220
 v76:=Tryz.zeroValue220
 t77:=Tryz.underlying180
 a77:=Tryz.isAgg180
 z77:=Tryz.sizeOf180
 v77:=Tryz.zeroValue180
def Tryz.laysSortFunc109_ren:Go.Shelf.Ren:=⟨fun|6=>109|15=>79|14=>149|28=>120|29=>121|20=>170|21=>171|22=>172|23=>173|24=>174|25=>175|26=>176|27=>177|46=>187|47=>153|48=>154|49=>188|50=>189|57=>191|n=>n,fun|22=>49|24=>45|25=>142|3=>3|39=>129|0=>0|53=>167|55=>169|4=>4|46=>160|45=>159|50=>164|5=>5|9=>9|66=>199|70=>203|76=>220|77=>180|n=>n,fun|n=>n⟩
theorem Tryz.laysSortFunc109:Go.Proofs.SlLaysF0.n6 Tryz.prog Tryz.laysSortFunc109_ren where
 mixed:=by kernel_rfl
 f6:=⟨"slices.SortFunc[[]rivulet/api.Sum,rivulet/api.Sum]",by decide,Tryz.func109.trans (congrArg some (by kernel_rfl))⟩
 f14:=⟨"slices.pdqsortCmpFunc[rivulet/api.Sum]",by decide,Tryz.func149.trans (congrArg some (by kernel_rfl))⟩
 f15:=Tryz.func79.trans (congrArg some (by kernel_rfl))
 f20:=⟨"slices.insertionSortCmpFunc[rivulet/api.Sum]",by decide,Tryz.func170.trans (congrArg some (by kernel_rfl))⟩
 f21:=⟨"slices.heapSortCmpFunc[rivulet/api.Sum]",by decide,Tryz.func171.trans (congrArg some (by kernel_rfl))⟩
 f22:=⟨"slices.breakPatternsCmpFunc[rivulet/api.Sum]",by decide,Tryz.func172.trans (congrArg some (by kernel_rfl))⟩
 f23:=⟨"slices.choosePivotCmpFunc[rivulet/api.Sum]",by decide,Tryz.func173.trans (congrArg some (by kernel_rfl))⟩
 f24:=⟨"slices.reverseRangeCmpFunc[rivulet/api.Sum]",by decide,Tryz.func174.trans (congrArg some (by kernel_rfl))⟩
 f25:=⟨"slices.partialInsertionSortCmpFunc[rivulet/api.Sum]",by decide,Tryz.func175.trans (congrArg some (by kernel_rfl))⟩
 f26:=⟨"slices.partitionEqualCmpFunc[rivulet/api.Sum]",by decide,Tryz.func176.trans (congrArg some (by kernel_rfl))⟩
 f27:=⟨"slices.partitionCmpFunc[rivulet/api.Sum]",by decide,Tryz.func177.trans (congrArg some (by kernel_rfl))⟩
 f28:=Tryz.func120.trans (congrArg some (by kernel_rfl))
 f29:=Tryz.func121.trans (congrArg some (by kernel_rfl))
 f46:=⟨"slices.siftDownCmpFunc[rivulet/api.Sum]",by decide,Tryz.func187.trans (congrArg some (by kernel_rfl))⟩
 f47:=Tryz.func153.trans (congrArg some (by kernel_rfl))
 f48:=Tryz.func154.trans (congrArg some (by kernel_rfl))
 f49:=⟨"slices.medianAdjacentCmpFunc[rivulet/api.Sum]",by decide,Tryz.func188.trans (congrArg some (by kernel_rfl))⟩
 f50:=⟨"slices.medianCmpFunc[rivulet/api.Sum]",by decide,Tryz.func189.trans (congrArg some (by kernel_rfl))⟩
 f57:=⟨"slices.order2CmpFunc[rivulet/api.Sum]",by decide,Tryz.func191.trans (congrArg some (by kernel_rfl))⟩
 t0:=Tryz.underlying0
 a0:=Tryz.isAgg0
 z0:=Tryz.sizeOf0
 v0:=Tryz.zeroValue0
 t3:=Tryz.underlying3
 a3:=Tryz.isAgg3
 z3:=Tryz.sizeOf3
 v3:=Tryz.zeroValue3
 t4:=Tryz.underlying4
 a4:=Tryz.isAgg4
 z4:=Tryz.sizeOf4
 v4:=Tryz.zeroValue4
 t5:=Tryz.underlying5
 a5:=Tryz.isAgg5
 z5:=Tryz.sizeOf5
 v5:=Tryz.zeroValue5
 t9:=Tryz.underlying9
 a9:=Tryz.isAgg9
 z9:=Tryz.sizeOf9
 v9:=Tryz.zeroValue9
 t22:=Tryz.underlying49
 a22:=Tryz.isAgg49
 z22:=Tryz.sizeOf49
 v22:=Tryz.zeroValue49
 t25:=Tryz.underlying142
 a25:=Tryz.isAgg142
 z25:=Tryz.sizeOf142
 v25:=Tryz.zeroValue142
 t39:=Tryz.underlying129
 a39:=Tryz.isAgg129
 z39:=Tryz.sizeOf129
 v39:=Tryz.zeroValue129
 t45:=Tryz.underlying159
 a45:=Tryz.isAgg159
 z45:=Tryz.sizeOf159
 v45:=Tryz.zeroValue159
 t46:=Tryz.underlying160
 a46:=Tryz.isAgg160
 z46:=Tryz.sizeOf160
 v46:=Tryz.zeroValue160
 t50:=Tryz.underlying164
 a50:=Tryz.isAgg164
 z50:=Tryz.sizeOf164
 v50:=Tryz.zeroValue164
 t53:=Tryz.underlying167
 a53:=Tryz.isAgg167
 z53:=Tryz.sizeOf167
 v53:=Tryz.zeroValue167
 t55:=Tryz.underlying169
 a55:=Tryz.isAgg169
 z55:=Tryz.sizeOf169
 v55:=Tryz.zeroValue169
 t66:=Tryz.underlying199
 a66:=Tryz.isAgg199
 z66:=Tryz.sizeOf199
 v66:=Tryz.zeroValue199
 t70:=Tryz.underlying203
 a70:=Tryz.isAgg203
 z70:=Tryz.sizeOf203
 v70:=Tryz.zeroValue203
 t76:=Tryz.underlying220
 a76:=Tryz.isAgg220
 z76:=Tryz.sizeOf220
 v76:=Tryz.zeroValue220
 t77:=Tryz.underlying180
 a77:=Tryz.isAgg180
 z77:=Tryz.sizeOf180
 v77:=Tryz.zeroValue180
end Go.Proofs.YtlbnpmfggfbdoaaGreatDoor
end
section
namespace Go.Proofs.YtlbnpmfggfbdoaaGreatDoor
open Go.RowKit
abbrev l2a:List Value:=[A.i 0,A.i 0,.slice none 0 0,A.i 0,A.i 0,.string (ByteArray.mk #[]),.string (ByteArray.mk #[]),A.i 0,A.i 0]
abbrev l2b:List Nat:=[0,1,2,3,4,5,3600,6676,6677,6678]
abbrev l2c:List Value:=A.zz8
abbrev l2d:List Nat:=[0,1,2,3,4,5,6676,6677,6678,7701]
abbrev l2e:List Nat:=[0,1,2,3,4,5,6]
abbrev l2f:List Nat:=[0,1,2,3,138,139,140,141]
abbrev l2g:List Nat:=[0,1,2,3,4,64,65,72]
abbrev l2h:List Nat:=[0,1,2,3,4,64,65]
abbrev l2i:List Nat:=[0,1,2,3,4,5,6,7,8,588]
abbrev l2j:List Nat:=[0,1,2,3,138,139,140]
abbrev l2k:List Nat:=[0,1,2,3,4,5,6,7]
abbrev l2l:List Nat:=[0,1,3,4,5,6,112,113]
abbrev l2m:List Nat:=[0,1,2,3,4,5,3600,6676,6677,6678,8073]
abbrev l2n:List Nat:=[0,1,2,3,4,5,6,2908,2909]
abbrev l2o:List Value:=[A.i 0]
abbrev l2p:List Nat:=[0,1,2,3,4,5]
abbrev l2q:List Value:=[A.i 0,A.i 0]
variable(A0_ A1_ A2_ A4_ A5_ A7_ A10_ A12_ A13_:Option Addr)(b0_ g0_ b1_ c1_ c2_ g2_ c3_ b4_ b5_ c5_ b6_ c6_ c8_ g8_ g10_ c11_ c13_ c14_:Nat)
def F.ad (a:(List D44)):Option (List D44):=A.gd ((List.length (α:=D44) []+List.length (α:=D44) a)*64≤140737488355328) (some ([]++a))
theorem o_p(e:(List D44))(r:(List D44))(a:F.ad e=some r):
    A.Ct Tryz.prog 53 [.slice A0_ e.length c1_] [(0,.ln T44 A0_ c1_ e)] [] (fun v H'=>∃(A0':Option Addr) (c1':Nat),v=.slice A0' r.length c1'∧H'=[(0,.own T44 45 A0' c1' r)]):=by
 refine J1 Tryz.func53 rfl Tryz.ntmps53 rfl fun p s=>?_;rw[F.ad]at a;refine Jv 1 ?_;refine J0 1 [] (Vb 3 ?_);refine J0 2 [(4,.bool A0_.isNone)] (Jw 1 ?_);refine A.AX.cnn rfl (fun f=>?_) (fun f=>?_)
 ·refine A.nilL 0 f fun f=>?_;subst f
  replace a:some []=some r:=by simpa[A.gd,A.ix] using a
  refine Jv 1 ?_;refine J0 1 [(2,.slice none 0 0)] (Jw 1 ?_);obtain rfl:=J7 a;refine V9 2 T44 45 ?_;exact Va [(0,2)] ⟨none,0,rfl,rfl⟩
 refine Jv 3 ?_;refine A.AL.bs0 1 T44 (fun t=>?_) Tryz.sizeOf45
 refine J0 1 [(6,.slice A0_ e.length c1_)] ?_;have⟨hl4,a⟩:=Vq a;refine V1 (k:=1) [] (A.rowL (k:=0) rfl) Qir hl4 fun h o=>?_;refine J0 1 [(2,.slice h (([]++e).length) o)] (Jw 1 ?_);obtain rfl:=J7 a;exact Va [(0,1)] ⟨h,o,rfl,rfl⟩
def F.cm (e:(List D57))(k:D39)(o:D39):Nat→Int→Option (List D44)
 |0,_=>none
 |f+1,a=>if a<(e.length:Int)then((A.ix e a).bind fun h=>(if(h.1,h.2.1)=(k,o)then((F.ad h.2.2).bind fun p=>(some p))else(A.gd (Z.R64 (a+1)) ((F.cm e k o f) (a+1)))))else(some [])
def F.dd (a:(List D57))(e:D39)(f:D39):Option (List D44):=F.cm a e f A.FU 0
theorem o_aC(t:(List D57))(o:D39)(p:D39)(V:A.h6 o.1)(W:A.h6 o.2)(X:A.h6 p.1)(a3:A.h6 p.2)(r:(List D44))(h:F.dd t o p=some r):
    A.Ct Tryz.prog 17 [.slice A0_ t.length c1_,(A.rae o),(A.rae p)] [(0,.ln T57 A0_ c1_ t)] [] (fun v H'=>∃(A0':Option Addr) (c1':Nat),v=.slice A0' r.length c1'∧H'=[(0,.own T44 45 A0' c1' r)]):=by
 refine J1 Tryz.func17 rfl Tryz.ntmps17 rfl fun w0 F0=>?_;rw[F.dd]at h;refine Jv 1 ?_;refine Vc 1 (cs:=(A.raa o)) fun g1=>?_;refine Vc 2 (cs:=(A.raa p)) fun g2=>?_;refine J0 1 [] (Vb 3 ?_);refine J0 3 [(9,.slice A0_ t.length c1_),(10,A.i (t.length:Int)),(11,A.i 0)] (Jw 2 ?_);refine Vo [4,5,9,10] [0,1,2] (fun f J L=>∃(s:Int),J=[(11,A.i s)]∧L=[]∧A.h6 s∧F.cm t o p f s=some r) ⟨0,rfl,rfl,J5,h⟩ ?_;rintro z _ _ ⟨s,rfl,rfl,a4,h⟩;rcases z with _|z
 ·exact Vm h
 rw[F.cm]at h;refine Jv 1 ?_;refine J0 1 [(12,.bool (decide (s<(t.length:Int))))] (Jw 2 ?_);refine Vr h ?_ ?_<;>intro N h
 ·refine Jv 5 ?_;have⟨k,O,h⟩:=Vx h;refine Ua 0 91 O fun a5=>?_;intro u c10 a6 a7;refine Jz [] [91] [.e 0 0] [(14,.agg #[A.i k.1.1,A.i k.1.2,A.i k.2.1.1,A.i k.2.1.2,.slice u k.2.2.length c10])] ?_;refine J6 93 (cs:=[A.i 0,A.i 0,A.i 0,A.i 0,.slice none 0 0]) Tryz.zeroValue58 fun a8=>?_;refine Vu 93 [] [A.i k.1.1,A.i k.1.2,A.i k.2.1.1,A.i k.2.1.2,.slice u k.2.2.length c10] ?_;refine Vb 2 ?_;refine Jz [93,1,2] [] [.n,.b 0 0,.n,.b 0 2,.n,.b 1 0,.b 2 0,.n] [(19,.agg #[A.i k.1.1,A.i k.1.2,A.i k.2.1.1,A.i k.2.1.2]),(22,.agg #[A.i o.1,A.i o.2,A.i p.1,A.i p.2])] ?_;refine Uc rfl (fun a w hf hh=>eqagg_eql89 (x:=(k.1,k.2.1)) (y:=(o,p)) (hf.eval rfl) (hf.eval rfl)) ?_;refine Jw 1 ?_;refine Vr h ?_ ?_<;>intro N h
  ·refine Jv 1 ?_;refine Jz [93] [] [.n,.b 0 4] [(25,.slice u k.2.2.length c10)] ?_;refine Vw 94 [] h (o_p u c10 k.2.2) (.l 92 .nil) ?_;rintro U - h _ _ ⟨B,E,rfl,rfl⟩;refine Ve ?_;refine J0 1 [(6,.slice B U.length E)] (Jw 1 ?_);obtain rfl:=J7 h;exact Va [(0,94)] ⟨B,E,rfl,rfl⟩
  refine Jv 3 ?_;have⟨I,h⟩:=Vq h;refine Ub 2 [Z.R64 (s+1)] [(11,A.i (s+1))] I (Jy ?_);exact Vi ⟨_,Qh _,⟨(s+1),rfl,rfl,(J2 I),h⟩⟩
 refine Jv 3 ?_;refine J0 1 [(6,.slice none 0 0)] (Jw 1 ?_);obtain rfl:=J7 h;refine V9 134 T44 45 ?_;exact Va [(0,134)] ⟨none,0,rfl,rfl⟩
def F.a6 (a:ByteArray):Nat→Nat→Option Bool
 |0,_=>none
 |f+1,e=>if e<a.size then(if(bif decide ((97:Int)≤((Utf8.decode a e).1:Int))then decide (((Utf8.decode a e).1:Int)≤122)else false)=true then((F.a6 a f) (e+(Utf8.decode a e).2))else(if(!(bif decide ((65:Int)≤((Utf8.decode a e).1:Int))then decide (((Utf8.decode a e).1:Int)≤90)else false))=true then(if(bif bif decide ((e:Int)=0)then true else decide (((Utf8.decode a e).1:Int)<48)then true else decide ((57:Int)<((Utf8.decode a e).1:Int)))=true then(some false)else((F.a6 a f) (e+(Utf8.decode a e).2)))else((F.a6 a f) (e+(Utf8.decode a e).2))))else(some (bif decide (a≠(ByteArray.mk #[]))then decide ((a.size:Int)≤16)else false))
def F.cs (a:ByteArray):Option Bool:=F.a6 a A.FU 0
theorem o_y (e:ByteArray)(u:e.size≤maxLen)(r:Bool)(a:F.cs e=some r):
    A.Ct Tryz.prog 135 [.string e] [] [] (fun v H'=>v=.bool r∧H'=[]):=by
 refine J1 Tryz.func135 rfl Tryz.ntmps135 rfl fun w x=>?_;rw[F.cs]at a;refine Jv 1 ?_;refine J0 1 [] (Vb 3 ?_);refine J0 1 [(6,.string e)] ?_;refine A.AL.rgs 0 fun o=>?_;refine Jw 2 ?_;refine Vo [0,7] [] (fun f p s=>∃(h:Nat),p=[]∧s=[(0,.si o e h)]∧F.a6 e f h=some r) ⟨0,rfl,rfl,a⟩ ?_;rintro k _ _ ⟨h,rfl,rfl,a⟩;rcases k with _|k
 ·exact Vm a
 rw[F.a6]at a;refine Jv 1 ?_;refine A.AL.nxs 0 [] a (fun hb4 a=>?_) (fun t a=>?_)
 ·refine J0 1 [(9,.bool true)] (Jw 2 ?_);refine Uo rfl ?_;refine Jv 4 ?_;refine J0 4 [(3,A.i (h:Int)),(4,.int .i32 ((Utf8.decode e h).1:Int))] (Vb 2 ?_);refine Jz [] [] [.n,.n,.n,.sy .n,.sy .n,.pk,.n] [(18,.bool (bif decide ((97:Int)≤((Utf8.decode e h).1:Int))then decide (((Utf8.decode e h).1:Int)≤122)else false))] ?_;refine Vs (j:=18) rfl a (fun a=>?_) (fun a=>?_)
  ·refine Jz [] [] [.off,.off,.off,.off,.off,.off,.n,.n] [(5,.bool true)] (Vb 2 ?_);refine Jz [] [] [.n,.n,.n,.off,.off,.off,.off,.off,.off,.off,.off,.off,.off,.n] [(39,.bool false)] (Jw 1 ?_);refine Ur rfl ?_;refine Vy 2 ?_;exact Vi ⟨_,Qh _,⟨(h+(Utf8.decode e h).2),rfl,rfl,a⟩⟩
  refine Jz [] [] [.on .n,.on .n,.on .n,.sy .n,.sy .n,.on .pk,.n,.n] [(5,.bool (bif decide ((65:Int)≤((Utf8.decode e h).1:Int))then decide (((Utf8.decode e h).1:Int)≤90)else false))] (Vb 2 ?_);refine J0 3 [(28,.bool (!(bif decide ((65:Int)≤((Utf8.decode e h).1:Int))then decide (((Utf8.decode e h).1:Int)≤90)else false)))] ?_;refine Vs (j:=28) rfl a (fun a=>?_) (fun a=>?_)
  ·refine Jz [] [] [.on .n,.on .n,.on .n,.sy .n,.sy .n,.on .pk,.on .n,.sy .n,.sy .n,.on .pk,.n] [(39,.bool (bif bif decide ((h:Int)=0)then true else decide (((Utf8.decode e h).1:Int)<48)then true else decide ((57:Int)<((Utf8.decode e h).1:Int))))] (Jw 1 ?_);refine Ud a ?_ ?_<;>intro t a
   ·refine Jv 1 ?_;refine J0 1 [(2,.bool false)] (Jw 1 ?_);obtain rfl:=J7 a;exact Va [] ⟨rfl,rfl⟩
   refine Vy 2 ?_;exact Vi ⟨_,Qh _,⟨(h+(Utf8.decode e h).2),rfl,rfl,a⟩⟩
  refine Jz [] [] [.off,.off,.off,.off,.off,.off,.off,.off,.off,.off,.n] [(39,.bool false)] (Jw 1 ?_);refine Ur rfl ?_;refine Vy 2 ?_;exact Vi ⟨_,Qh _,⟨(h+(Utf8.decode e h).2),rfl,rfl,a⟩⟩
 refine J0 1 [(9,.bool false)] (Jw 2 ?_);refine Ur rfl ?_;refine Jv 3 ?_;refine Jz [] [] [.n,.n,.n,.sy .n,.sy .n,.sy .n,.pk,.n] [(2,.bool (bif decide (e≠(ByteArray.mk #[]))then decide ((e.size:Int)≤16)else false))] (Jw 1 ?_);obtain rfl:=J7 a;exact Va [] ⟨rfl,rfl⟩
def F.d9 (a:Int):Option Int:=if(bif decide (a<1)then true else decide ((16:Int)<a))=true then(some (-1))else(if a=1 then(some 0)else(if(bif decide (a=5)then true else decide (a=9))=true then(some 2)else(some 1)))
theorem o_aF (e:Int)(h:A.h6 e)(r:Int)(a:F.d9 e=some r):
    A.Ct Tryz.prog 134 [A.i e] [] [] (fun v H'=>v=A.i r∧H'=[]∧A.h6 r):=by
 refine J1 Tryz.func134 rfl Tryz.ntmps134 rfl fun k o=>?_;rw[F.d9]at a;refine Jv 1 ?_;refine J0 1 [] (Vb 4 ?_);refine Jz [] [] [.n,.n,.n,.sy .n,.sy .n,.pk,.n] [(3,.bool (bif decide (e<1)then true else decide ((16:Int)<e)))] (Jw 1 ?_);refine Ud a ?_ ?_<;>intro f a
 ·refine Jv 1 ?_;refine J0 1 [(2,A.i (-1))] (Jw 1 ?_);obtain rfl:=J7 a;exact Va [] ⟨rfl,rfl,(Vd .i64 (-1) rfl)⟩
 refine Jv 1 ?_;refine J0 3 [(10,.bool (decide (e=1)))] (Jw 1 ?_);refine Vr a ?_ ?_<;>intro f a
 ·refine Jv 1 ?_;refine J0 1 [(2,A.i 0)] (Jw 1 ?_);obtain rfl:=J7 a;exact Va [] ⟨rfl,rfl,J5⟩
 refine Jv 1 ?_;refine Jz [] [] [.n,.n,.n,.sy .n,.sy .n,.pk,.n] [(13,.bool (bif decide (e=5)then true else decide (e=9)))] (Jw 1 ?_);refine Ud a ?_ ?_<;>intro f a
 ·refine Jv 1 ?_;refine J0 1 [(2,A.i 2)] (Jw 1 ?_);obtain rfl:=J7 a;exact Va [] ⟨rfl,rfl,(Vd .i64 (2) rfl)⟩
 refine Jv 4 ?_;refine J0 1 [(2,A.i 1)] (Jw 1 ?_);obtain rfl:=J7 a;exact Va [] ⟨rfl,rfl,(Vd .i64 (1) rfl)⟩
def F.bv (a:Int):Option Bool:=some (bif decide (a=1)then true else decide (a=15))
theorem o_k (a:Int)(f:A.h6 a)(r:Bool)(e:F.bv a=some r):
    A.Ct Tryz.prog 95 [A.i a] [] [] (fun v H'=>v=.bool r∧H'=[]):=by
 refine J1 Tryz.func95 rfl Tryz.ntmps95 rfl fun h k=>?_;rw[F.bv]at e;refine Jv 1 ?_;refine J0 1 [] (Vb 2 ?_);refine Jz [] [] [.n,.n,.n,.sy .n,.sy .n,.pk,.n] [(2,.bool (bif decide (a=1)then true else decide (a=15)))] (Jw 1 ?_);obtain rfl:=J7 e;exact Va [] ⟨rfl,rfl⟩
def F.cU:Option Bool:=some false
def F.cV (a:D83)(e:Bool):Option Bool:=if e=true then(F.cU)else(if a.2.1=14 then(if(bif bif bif decide (a.2.2.2.2.2.1<1)then true else decide ((8:Int)<a.2.2.2.2.2.1)then true else decide (a.2.2.2.2.2.2<1)then true else decide ((4:Int)<a.2.2.2.2.2.2))=true then(some false)else(if(!(decide (a.2.1=14)))=true then(if(bif decide (a.2.2.2.2.2.1≠0)then true else decide (a.2.2.2.2.2.2≠0))=true then(some false)else((F.bv a.2.1).bind fun f=>(if f=true then((F.cs a.2.2.2.2.1).bind fun h=>(some h))else(some (decide (a.2.2.2.2.1=(ByteArray.mk #[])))))))else((F.bv a.2.1).bind fun k=>(if k=true then((F.cs a.2.2.2.2.1).bind fun o=>(some o))else(some (decide (a.2.2.2.2.1=(ByteArray.mk #[]))))))))else(if(!(decide (a.2.1=14)))=true then(if(bif decide (a.2.2.2.2.2.1≠0)then true else decide (a.2.2.2.2.2.2≠0))=true then(some false)else((F.bv a.2.1).bind fun p=>(if p=true then((F.cs a.2.2.2.2.1).bind fun s=>(some s))else(some (decide (a.2.2.2.2.1=(ByteArray.mk #[])))))))else((F.bv a.2.1).bind fun t=>(if t=true then((F.cs a.2.2.2.2.1).bind fun u=>(some u))else(some (decide (a.2.2.2.2.1=(ByteArray.mk #[]))))))))
def F.ea (a:D83):Option Bool:=if(bif decide (a.1<1)then true else decide ((255:Int)<a.1))=true then(F.cU)else((F.d9 a.2.1).bind fun e=>(if e<0 then(F.cV a true)else((F.d9 a.2.1).bind fun f=>(F.cV a (decide ((a.2.2.1.length:Int)≠f))))))
theorem o_bh(a:D83)(B:A.h6 a.1)(h:A.h6 a.2.1)(E:A.h6 a.2.2.2.1.1)(I:A.h6 a.2.2.2.1.2.1)(J:a.2.2.2.1.2.2.size≤maxLen)(k:a.2.2.2.2.1.size≤maxLen)(L:A.h6 a.2.2.2.2.2.1)(N:A.h6 a.2.2.2.2.2.2)(r:Bool)(e:F.ea a=some r):
    A.Ct Tryz.prog 98 [.agg #[A.i a.1,A.i a.2.1,.slice A2_ a.2.2.1.length c3_,A.i a.2.2.2.1.1,A.i a.2.2.2.1.2.1,.string a.2.2.2.1.2.2,.string a.2.2.2.2.1,A.i a.2.2.2.2.2.1,A.i a.2.2.2.2.2.2]] [(0,.sh A.TI [.slice A2_ a.2.2.1.length c3_] a.2.2.1)] [] (fun v H'=>v=.bool r∧H'=[]):=by
 refine J1 Tryz.func98 rfl Tryz.ntmps98 rfl fun O U=>?_;rw[F.ea]at e;refine Jv 1 ?_;refine Vc 1 (cs:=[A.i a.1,A.i a.2.1,.slice A2_ a.2.2.1.length c3_,A.i a.2.2.2.1.1,A.i a.2.2.2.1.2.1,.string a.2.2.2.1.2.2,.string a.2.2.2.2.1,A.i a.2.2.2.2.2.1,A.i a.2.2.2.2.2.2]) fun V=>?_;refine J0 1 [] (Jw 3 ?_);refine J4 [] [] (fun o p=>o=[]∧p=[]∧F.cU=some r) ?_ ?_
 ·refine Jv 5 ?_;refine Jz [1] [] [.n,.b 0 0,.n,.n,.sy .n,.sy (.b 0 0),.sy .n,.pk,.n] [(4,.bool (bif decide (a.1<1)then true else decide ((255:Int)<a.1)))] (Jw 1 ?_);refine Ud e ?_ ?_<;>intro f e
  ·refine Vy 2 ?_;exact Vi ⟨rfl,rfl,e⟩
  refine V3 2 ?_;refine J4 [1] [0,1] (fun o p=>∃(s:Bool),o=[(13,.bool s)]∧p=[]∧F.cV a s=some r) ?_ ?_
  ·refine Vl mixed 14 14 (A.mb 14 0) ?_;refine Vh J3 [] [0,1] [1] [] (A.mb 14 3) 12 [(0,.n),(1,.b 0 1)] [(15,A.i a.2.1)] ?_;refine J8 2 ?_;refine Vw 2 [] e (o_aF a.2.1 h) .nil ?_;rintro u - e _ _ ⟨rfl,rfl,hr21⟩;refine Ve ?_;refine Vg (A.mb 14 7) [0,1] ?_;refine Vh J3 [0,1] [0,1] [] [] (A.mb 14 31) 9 [(3,.n),(4,.n)] [(18,.bool (decide (u<0)))] ?_;refine Ui (j:=18) rfl e ?_ ?_<;>intro f e
   ·refine Vh J3 [0,1] [0,1] [] [] (A.mb 14 16383) 0 [(5,.off),(8,.off),(6,.off),(9,.off),(7,.off),(10,.off),(11,.off),(12,.n),(13,.n)] [(13,.bool true)] (J9 ?_);exact Vi ⟨true,rfl,rfl,e⟩
   refine Vh J3 [0,1] [0,1] [1] [] (A.mb 14 1023) 4 [(5,.on .n),(8,.on .n),(6,.on (.b 0 2)),(9,.on (.b 0 1)),(7,.on .n)] [(23,A.i a.2.1),(21,A.i (a.2.2.1.length:Int))] ?_;refine J8 10 ?_;refine Vk (dj:=18) rfl rfl ?_;refine Vw 42 [] e (o_aF a.2.1 h) .nil ?_;rintro t - e _ _ ⟨rfl,rfl,hr24⟩;refine Ve ?_;refine Vg (A.mb 14 2047) [0,1] ?_;refine Vh J3 [0,1] [0,1] [] [] (A.mb 14 16383) 0 [(11,.on .n),(12,.n),(13,.n)] [(13,.bool (decide ((a.2.2.1.length:Int)≠t)))] (J9 ?_);exact Vi ⟨(decide ((a.2.2.1.length:Int)≠t)),rfl,rfl,e⟩
  rintro _ _ ⟨s,rfl,rfl,e⟩;rw[F.cV]at e;refine Ud e ?_ ?_<;>intro f e
  ·refine Vy 1 ?_;exact Vi ⟨rfl,rfl,e⟩
  refine Jv 5 ?_;refine Jz [1] [] [.n,.b 0 1,.n,.n] [(3,.bool (decide (a.2.1=14)))] (Vb 3 ?_);refine J0 2 [(31,.bool (decide (a.2.1=14)))] ?_;refine V6 (j:=31) rfl e ?_ ?_<;>intro f e
  ·refine Jz [1] [] [.on .n,.on (.b 0 7),.on .n,.on .n,.sy .n,.sy (.b 0 7),.sy .n,.on .pk,.on .n,.sy .n,.sy (.b 0 8),.sy .n,.on .pk,.on .n,.sy .n,.sy (.b 0 8),.sy .n,.on .pk,.n,.n] [(51,.bool (bif bif bif decide (a.2.2.2.2.2.1<1)then true else decide ((8:Int)<a.2.2.2.2.2.1)then true else decide (a.2.2.2.2.2.2<1)then true else decide ((4:Int)<a.2.2.2.2.2.2)))] ?_;refine Vs (j:=51) rfl e (fun e=>?_) (fun e=>?_)
   ·refine Jz [] [] [.off,.off,.off,.off,.off,.off,.off,.off,.off,.off,.off,.off,.n] [(64,.bool true)] (Jw 1 ?_);refine Uo rfl ?_;refine Jv 1 ?_;refine J0 1 [(2,.bool false)] (Jw 1 ?_);obtain rfl:=J7 e;exact Va [] ⟨rfl,rfl⟩
   refine Jz [] [] [.on .n,.on .n,.on .n] [(54,.bool (!(decide (a.2.1=14))))] ?_;refine Vs (j:=54) rfl e (fun e=>?_) (fun e=>?_)
   ·refine Jz [1] [] [.on .n,.on (.b 0 7),.on .n,.on .n,.sy .n,.sy (.b 0 8),.sy .n,.on .pk,.on .n,.n] [(64,.bool (bif decide (a.2.2.2.2.2.1≠0)then true else decide (a.2.2.2.2.2.2≠0)))] (Jw 1 ?_);refine Ud e ?_ ?_<;>intro f e
    ·refine Jv 1 ?_;refine J0 1 [(2,.bool false)] (Jw 1 ?_);obtain rfl:=J7 e;exact Va [] ⟨rfl,rfl⟩
    refine Jv 4 ?_;refine Jz [1] [] [.n,.b 0 1] [(66,A.i a.2.1)] ?_;refine Vw 82 [] e (o_k a.2.1 h) .nil ?_;rintro W - e _ _ ⟨rfl,rfl⟩;refine Ve ?_;refine Jw 1 ?_;refine Ud e ?_ ?_<;>intro f e
    ·refine Jv 1 ?_;refine Jz [1] [] [.n,.b 0 6] [(69,.string a.2.2.2.2.1)] ?_;refine Vw 122 [] e (o_y a.2.2.2.2.1 k) .nil ?_;rintro w - e _ _ ⟨rfl,rfl⟩;refine Ve ?_;refine J0 1 [(2,.bool w)] (Jw 1 ?_);obtain rfl:=J7 e;exact Va [] ⟨rfl,rfl⟩
    refine Jv 3 ?_;refine Jz [1] [] [.n,.b 0 6,.n,.n] [(2,.bool (decide (a.2.2.2.2.1=(ByteArray.mk #[]))))] (Jw 1 ?_);obtain rfl:=J7 e;exact Va [] ⟨rfl,rfl⟩
   refine Jz [] [] [.off,.off,.off,.off,.off,.off,.off,.off,.on .n,.n] [(64,.bool false)] (Jw 1 ?_);refine Ur rfl ?_;refine Jv 4 ?_;refine Jz [1] [] [.n,.b 0 1] [(66,A.i a.2.1)] ?_;refine Vw 162 [] e (o_k a.2.1 h) .nil ?_;rintro X - e _ _ ⟨rfl,rfl⟩;refine Ve ?_;refine Jw 1 ?_;refine Ud e ?_ ?_<;>intro f e
   ·refine Jv 1 ?_;refine Jz [1] [] [.n,.b 0 6] [(69,.string a.2.2.2.2.1)] ?_;refine Vw 202 [] e (o_y a.2.2.2.2.1 k) .nil ?_;rintro x - e _ _ ⟨rfl,rfl⟩;refine Ve ?_;refine J0 1 [(2,.bool x)] (Jw 1 ?_);obtain rfl:=J7 e;exact Va [] ⟨rfl,rfl⟩
   refine Jv 3 ?_;refine Jz [1] [] [.n,.b 0 6,.n,.n] [(2,.bool (decide (a.2.2.2.2.1=(ByteArray.mk #[]))))] (Jw 1 ?_);obtain rfl:=J7 e;exact Va [] ⟨rfl,rfl⟩
  refine Jz [] [] [.off,.off,.off,.off,.off,.off,.off,.off,.off,.off,.off,.off,.off,.off,.off,.off,.off,.off,.n,.n,.on .n,.on .n,.on .n] [(51,.bool false),(54,.bool (!(decide (a.2.1=14))))] ?_;refine Vs (j:=54) rfl e (fun e=>?_) (fun e=>?_)
  ·refine Jz [1] [] [.on .n,.on (.b 0 7),.on .n,.on .n,.sy .n,.sy (.b 0 8),.sy .n,.on .pk,.on .n,.n] [(64,.bool (bif decide (a.2.2.2.2.2.1≠0)then true else decide (a.2.2.2.2.2.2≠0)))] (Jw 1 ?_);refine Ud e ?_ ?_<;>intro f e
   ·refine Jv 1 ?_;refine J0 1 [(2,.bool false)] (Jw 1 ?_);obtain rfl:=J7 e;exact Va [] ⟨rfl,rfl⟩
   refine Jv 4 ?_;refine Jz [1] [] [.n,.b 0 1] [(66,A.i a.2.1)] ?_;refine Vw 242 [] e (o_k a.2.1 h) .nil ?_;rintro a1 - e _ _ ⟨rfl,rfl⟩;refine Ve ?_;refine Jw 1 ?_;refine Ud e ?_ ?_<;>intro f e
   ·refine Jv 1 ?_;refine Jz [1] [] [.n,.b 0 6] [(69,.string a.2.2.2.2.1)] ?_;refine Vw 282 [] e (o_y a.2.2.2.2.1 k) .nil ?_;rintro y - e _ _ ⟨rfl,rfl⟩;refine Ve ?_;refine J0 1 [(2,.bool y)] (Jw 1 ?_);obtain rfl:=J7 e;exact Va [] ⟨rfl,rfl⟩
   refine Jv 3 ?_;refine Jz [1] [] [.n,.b 0 6,.n,.n] [(2,.bool (decide (a.2.2.2.2.1=(ByteArray.mk #[]))))] (Jw 1 ?_);obtain rfl:=J7 e;exact Va [] ⟨rfl,rfl⟩
  refine Jz [] [] [.off,.off,.off,.off,.off,.off,.off,.off,.on .n,.n] [(64,.bool false)] (Jw 1 ?_);refine Ur rfl ?_;refine Jv 4 ?_;refine Jz [1] [] [.n,.b 0 1] [(66,A.i a.2.1)] ?_;refine Vw 322 [] e (o_k a.2.1 h) .nil ?_;rintro a2 - e _ _ ⟨rfl,rfl⟩;refine Ve ?_;refine Jw 1 ?_;refine Ud e ?_ ?_<;>intro f e
  ·refine Jv 1 ?_;refine Jz [1] [] [.n,.b 0 6] [(69,.string a.2.2.2.2.1)] ?_;refine Vw 362 [] e (o_y a.2.2.2.2.1 k) .nil ?_;rintro z - e _ _ ⟨rfl,rfl⟩;refine Ve ?_;refine J0 1 [(2,.bool z)] (Jw 1 ?_);obtain rfl:=J7 e;exact Va [] ⟨rfl,rfl⟩
  refine Jv 3 ?_;refine Jz [1] [] [.n,.b 0 6,.n,.n] [(2,.bool (decide (a.2.2.2.2.1=(ByteArray.mk #[]))))] (Jw 1 ?_);obtain rfl:=J7 e;exact Va [] ⟨rfl,rfl⟩
 rintro _ _ ⟨rfl,rfl,e⟩;rw[F.cU]at e;refine Jv 2 ?_;refine J0 1 [(2,.bool false)] (Jw 1 ?_);obtain rfl:=J7 e;exact Va [] ⟨rfl,rfl⟩
def F.eV (a:Int):Option (Int×Int):=if a=2 then(some (1,8))else(if a=3 then(some (11,13))else(if a=4 then(some (21,22))else(if a=8 then(some (31,34))else(if a=11 then(some (41,42))else(some (0,-1))))))
theorem o_aX (e:Int)(h:A.h6 e)(r:Int×Int)(a:F.eV e=some r):
    A.Ct Tryz.prog 136 [A.i e] [] [] (fun v H'=>v=.tuple #[A.i r.1,A.i r.2]∧H'=[]∧A.h6 r.1∧A.h6 r.2):=by
 refine J1 Tryz.func136 rfl Tryz.ntmps136 rfl fun k o=>?_;rw[F.eV]at a;refine Jv 1 ?_;refine J0 2 [] (Vb 3 ?_);refine J0 1 [(4,A.i e)] (Vb 3 ?_);refine J0 2 [(5,.bool (decide (e=2)))] (Jw 1 ?_);refine Vr a ?_ ?_<;>intro f a
 ·refine Jv 1 ?_;refine J0 2 [(2,A.i 1),(3,A.i 8)] (Jw 1 ?_);obtain rfl:=J7 a;exact V4 [] ⟨rfl,rfl,(Vd .i64 (1) rfl),(Vd .i64 (8) rfl)⟩
 refine Jv 1 ?_;refine J0 2 [(7,.bool (decide (e=3)))] (Jw 1 ?_);refine Vr a ?_ ?_<;>intro f a
 ·refine Jv 1 ?_;refine J0 2 [(2,A.i 11),(3,A.i 13)] (Jw 1 ?_);obtain rfl:=J7 a;exact V4 [] ⟨rfl,rfl,(Vd .i64 (11) rfl),(Vd .i64 (13) rfl)⟩
 refine Jv 1 ?_;refine J0 2 [(9,.bool (decide (e=4)))] (Jw 1 ?_);refine Vr a ?_ ?_<;>intro f a
 ·refine Jv 1 ?_;refine J0 2 [(2,A.i 21),(3,A.i 22)] (Jw 1 ?_);obtain rfl:=J7 a;exact V4 [] ⟨rfl,rfl,(Vd .i64 (21) rfl),(Vd .i64 (22) rfl)⟩
 refine Jv 1 ?_;refine J0 2 [(11,.bool (decide (e=8)))] (Jw 1 ?_);refine Vr a ?_ ?_<;>intro f a
 ·refine Jv 1 ?_;refine J0 2 [(2,A.i 31),(3,A.i 34)] (Jw 1 ?_);obtain rfl:=J7 a;exact V4 [] ⟨rfl,rfl,(Vd .i64 (31) rfl),(Vd .i64 (34) rfl)⟩
 refine Jv 1 ?_;refine J0 2 [(13,.bool (decide (e=11)))] (Jw 1 ?_);refine Vr a ?_ ?_<;>intro f a
 ·refine Jv 1 ?_;refine J0 2 [(2,A.i 41),(3,A.i 42)] (Jw 1 ?_);obtain rfl:=J7 a;exact V4 [] ⟨rfl,rfl,(Vd .i64 (41) rfl),(Vd .i64 (42) rfl)⟩
 refine Jv 4 ?_;refine J0 2 [(2,A.i 0),(3,A.i (-1))] (Jw 1 ?_);obtain rfl:=J7 a;exact V4 [] ⟨rfl,rfl,J5,(Vd .i64 (-1) rfl)⟩
def F.e3 (a:Int):Option (Int×Int):=(F.eV a).bind fun e=>(some e)
theorem o_bP (a:Int)(o:A.h6 a)(r:(Int×Int))(e:F.e3 a=some r):
    A.Ct Tryz.prog 137 [A.i a] [] [] (fun v H'=>∃(g0':Nat) (g1':Nat),v=.func (.func 164) #[] #[.pointer (some ⟨g0',0,none⟩),.pointer (some ⟨g1',0,none⟩)]∧H'=[(0,.blk g0' 3 [A.i r.1]),(1,.blk g1' 3 [A.i r.2])]∧A.h6 r.1∧A.h6 r.2):=by
 refine J1 Tryz.func137 rfl Tryz.ntmps137 rfl fun p s=>?_;rw[F.e3]at e;refine Jv 1 ?_;refine J0 1 [] (Vb 2 ?_);refine J0 1 [(6,A.i a)] ?_;refine Vw 0 [] e (o_aX a o) .nil ?_;rintro f - e _ _ ⟨rfl,rfl,hr3,hr4⟩;refine Ve ?_;refine J0 3 [(8,A.i f.1),(9,A.i f.2)] ?_;refine J6 40 (cs:=l2o) Tryz.zeroValue3 fun h=>?_;refine J6 41 (cs:=l2o) Tryz.zeroValue3 fun k=>?_;refine Vu 40 [] [A.i f.1] ?_;refine Vu 41 [] [A.i f.2] ?_;refine Vb 2 ?_;refine J0 2 [(2,.func (.func 164) #[] #[.pointer (some ⟨h,0,none⟩),.pointer (some ⟨k,0,none⟩)])] (Jw 1 ?_);obtain rfl:=J7 e;exact Va [(0,40),(1,41)] ⟨h,k,rfl,rfl,hr3,hr4⟩
def F.dx (a:D81)(e:Bool):Option Bool:=if e=true then(some (bif decide ((1:Int)≤a.2.1)then decide (a.2.1≤1048576)else false))else(some (decide (a.2.1=0)))
def F.dy (a:D81)(e:Bool):Option Bool:=if e=true then(some (bif decide ((0:Int)≤a.2.1)then decide (a.2.1≤64)else false))else(if a.1=6 then(F.dx a (decide (a.1=6)))else(F.dx a (decide (a.1=11))))
def F.eA (a:D81):Option Bool:=if a.1=3 then(F.dy a (decide (a.1=3)))else(F.dy a (decide (a.1=13)))
theorem o_bi (a:D81)(s:A.h6 a.1)(t:A.h6 a.2.1)(u:a.2.2.size≤maxLen)(r:Bool)(e:F.eA a=some r):
    A.Ct Tryz.prog 138 [.agg #[A.i a.1,A.i a.2.1,.string a.2.2]] [] [] (fun v H'=>v=.bool r∧H'=[]):=by
 refine J1 Tryz.func138 rfl Tryz.ntmps138 rfl fun w x=>?_;rw[F.eA]at e;refine Jv 1 ?_;refine Vc 0 (cs:=[A.i a.1,A.i a.2.1,.string a.2.2]) fun y=>?_;refine J0 1 [] (Vb 3 ?_);refine Jz [0] [] [.n,.b 0 0] [(4,A.i a.1)] (Jw 2 ?_);refine J4 [1,4] [0] (fun f h=>∃(k:Bool),f=[(5,.bool k)]∧h=[]∧F.dy a k=some r) ?_ ?_
 ·refine Jv 1 ?_;refine J0 2 [(5,.bool (decide (a.1=3)))] (Jw 1 ?_);refine Vr e ?_ ?_<;>intro o e
  ·refine Vy 1 ?_;exact Vi ⟨(decide (a.1=3)),rfl,rfl,e⟩
  refine Jv 0 ?_;refine J0 2 [(5,.bool (decide (a.1=13)))] (Jy ?_);exact Vi ⟨(decide (a.1=13)),rfl,rfl,e⟩
 rintro _ _ ⟨k,rfl,rfl,e⟩;rw[F.dy]at e;refine Ud e ?_ ?_<;>intro o e
 ·refine Jv 1 ?_;refine Jz [0] [] [.n,.b 0 1,.n,.n,.sy .n,.sy (.b 0 1),.sy .n,.pk,.n] [(2,.bool (bif decide ((0:Int)≤a.2.1)then decide (a.2.1≤64)else false))] (Jw 1 ?_);obtain rfl:=J7 e;exact Va [] ⟨rfl,rfl⟩
 refine J4 [1] [0] (fun f h=>∃(p:Bool),f=[(16,.bool p)]∧h=[]∧F.dx a p=some r) ?_ ?_
 ·refine Jv 1 ?_;refine J0 2 [(16,.bool (decide (a.1=6)))] (Jw 1 ?_);refine Vr e ?_ ?_<;>intro o e
  ·refine Vy 1 ?_;exact Vi ⟨(decide (a.1=6)),rfl,rfl,e⟩
  refine Jv 0 ?_;refine J0 2 [(16,.bool (decide (a.1=11)))] (Jy ?_);exact Vi ⟨(decide (a.1=11)),rfl,rfl,e⟩
 rintro _ _ ⟨p,rfl,rfl,e⟩;rw[F.dx]at e;refine Ud e ?_ ?_<;>intro o e
 ·refine Jv 1 ?_;refine Jz [0] [] [.n,.b 0 1,.n,.n,.sy .n,.sy (.b 0 1),.sy .n,.pk,.n] [(2,.bool (bif decide ((1:Int)≤a.2.1)then decide (a.2.1≤1048576)else false))] (Jw 1 ?_);obtain rfl:=J7 e;exact Va [] ⟨rfl,rfl⟩
 refine Jv 4 ?_;refine Jz [0] [] [.n,.b 0 1,.n,.n] [(2,.bool (decide (a.2.1=0)))] (Jw 1 ?_);obtain rfl:=J7 e;exact Va [] ⟨rfl,rfl⟩
def F.cW (a:Bool):Option Bool:=some a
def F.cz (a:ByteArray):Nat→Nat→Int→Option Bool
 |0,_,_=>none
 |f+1,e,h=>if e<a.size then(A.gd (Z.R64 (h+1)) ((F.cz a f) (e+(Utf8.decode a e).2) (h+1)))else(if h=1 then((F.b3 a).bind fun k=>(F.cW k))else(F.cW false))
def F.eB (a:ByteArray):Option Bool:=F.cz a A.FU 0 0
theorem o_bj (e:ByteArray)(y:e.size≤maxLen)(r:Bool)(a:F.eB e=some r):
    A.Ct Tryz.prog 166 [.string e] [(0,.el none 0 0 A.tabF),(1,.el none 1 0 A.tabA)] [] (fun v H'=>v=.bool r∧H'=[]):=by
 refine J1 Tryz.func166 rfl Tryz.ntmps166 rfl fun E I=>?_;rw[F.eB]at a;refine Jv 1 ?_;refine J0 1 [] (Vb 2 ?_);refine J0 1 [(3,A.i 0)] (Vb 3 ?_);refine J0 1 [(4,.string e)] ?_;refine A.AL.rgs 2 fun z=>?_;refine Jw 2 ?_;refine Vo [0,5] [0,1] (fun f o p=>∃(k:Nat),∃(h:Int),o=[(3,A.i h)]∧p=[(2,.si z e k)]∧A.h6 h∧F.cz e f k h=some r) ⟨0,0,rfl,rfl,J5,a⟩ ?_;rintro u _ _ ⟨k,h,rfl,rfl,J,a⟩;rcases u with _|u
 ·exact Vm a
 rw[F.cz]at a;refine Jv 1 ?_;refine A.AL.nxs 2 [] a (fun hb6 a=>?_) (fun B a=>?_)
 ·refine J0 1 [(7,.bool true)] (Jw 2 ?_);refine Uo rfl ?_;refine Jv 3 ?_;have⟨w,a⟩:=Vq a;refine Ub 3 [Z.R64 (h+1)] [(3,A.i (h+1))] w (Ug 1 ?_);exact Vi ⟨_,Qh _,⟨(k+(Utf8.decode e k).2),(h+1),rfl,rfl,(J2 w),a⟩⟩
 refine J0 1 [(7,.bool false)] (Jw 2 ?_);refine Ur rfl ?_;refine V3 2 ?_;refine J4 [] [0,1] (fun o p=>∃(t:Bool),o=[(2,.bool t)]∧p=[]∧F.cW t=some r) ?_ ?_
 ·refine Jv 0 ?_;refine J0 3 [(12,.bool (decide (h=1)))] ?_;refine V6 (j:=12) rfl a ?_ ?_<;>intro B a
  ·refine Jz [] [] [.on .n] [(13,.string e)] ?_;refine Vk (dj:=12) rfl rfl ?_;refine Vw 83 [] a (o_ag e y) (.s 0 (.s 1 .nil)) ?_;rintro x - a _ _ ⟨rfl,rfl⟩;refine Ve ?_;refine J0 2 [(2,.bool x)] (Jy ?_);exact Vi ⟨x,rfl,rfl,a⟩
  refine Jz [] [] [.off,.off,.n,.n] [(2,.bool false)] (Jy ?_);exact Vi ⟨false,rfl,rfl,a⟩
 rintro _ _ ⟨t,rfl,rfl,a⟩;rw[F.cW]at a;obtain rfl:=J7 a;exact Va [] ⟨rfl,rfl⟩
def F.em (a:Bool):Option Bool:=some a
def F.en (a:D81)(e:Bool):Option Bool:=if e=true then((F.eB a.2.2).bind fun f=>(some f))else(some (decide (a.2.2=(ByteArray.mk #[]))))
def F.eW (a:D81):Option Bool:=if a.1=5 then(if(bif decide (a.2.2≠(ByteArray.mk #[]))then decide ((a.2.2.size:Int)≤16)else false)=true then((F.b3 a.2.2).bind fun e=>(F.em e))else(F.em false))else(if a.1=12 then(F.en a (decide (a.1=12)))else(F.en a (decide (a.1=22))))
theorem o_bQ (e:D81)(x:A.h6 e.1)(y:A.h6 e.2.1)(p:e.2.2.size≤maxLen)(r:Bool)(a:F.eW e=some r):
    A.Ct Tryz.prog 139 [.agg #[A.i e.1,A.i e.2.1,.string e.2.2]] [(0,.el none 0 0 A.tabF),(1,.el none 1 0 A.tabA)] [] (fun v H'=>v=.bool r∧H'=[]):=by
 refine J1 Tryz.func139 rfl Tryz.ntmps139 rfl fun z B=>?_;rw[F.eW]at a;refine Jv 1 ?_;refine Vc 2 (cs:=[A.i e.1,A.i e.2.1,.string e.2.2]) fun E=>?_;refine J0 1 [] (Vb 3 ?_);refine Jz [2] [] [.n,.b 0 0] [(4,A.i e.1)] (Vb 3 ?_);refine J0 2 [(5,.bool (decide (e.1=5)))] (Jw 1 ?_);refine Vr a ?_ ?_<;>intro t a
 ·refine J4 [] [0,1] (fun f h=>∃(k:Bool),f=[(2,.bool k)]∧h=[]∧F.em k=some r) ?_ ?_
  ·refine Jv 0 ?_;refine Jz [2] [] [.n,.b 0 2,.n,.n,.sy .n,.sy (.b 0 2),.sy .n,.sy .n,.pk,.n] [(16,.bool (bif decide (e.2.2≠(ByteArray.mk #[]))then decide ((e.2.2.size:Int)≤16)else false))] ?_;refine Vs (j:=16) rfl a (fun a=>?_) (fun a=>?_)
   ·refine Jz [2] [] [.on .n,.on (.b 0 2)] [(18,.string e.2.2)] ?_;refine Vk (dj:=16) rfl rfl ?_;refine Vw 3 [] a (o_ag e.2.2 p) (.s 0 (.s 1 .nil)) ?_;rintro u - a _ _ ⟨rfl,rfl⟩;refine Ve ?_;refine J0 2 [(2,.bool u)] (Jy ?_);exact Vi ⟨u,rfl,rfl,a⟩
   refine Jz [] [] [.off,.off,.off,.n,.n] [(2,.bool false)] (Jy ?_);exact Vi ⟨false,rfl,rfl,a⟩
  rintro _ _ ⟨k,rfl,rfl,a⟩;rw[F.em]at a;obtain rfl:=J7 a;exact Va [] ⟨rfl,rfl⟩
 refine J4 [1] [0,1,2] (fun f h=>∃(o:Bool),f=[(21,.bool o)]∧h=[]∧F.en e o=some r) ?_ ?_
 ·refine Jv 1 ?_;refine J0 2 [(21,.bool (decide (e.1=12)))] (Jw 1 ?_);refine Vr a ?_ ?_<;>intro t a
  ·refine Vy 1 ?_;exact Vi ⟨(decide (e.1=12)),rfl,rfl,a⟩
  refine Jv 0 ?_;refine J0 2 [(21,.bool (decide (e.1=22)))] (Jy ?_);exact Vi ⟨(decide (e.1=22)),rfl,rfl,a⟩
 rintro _ _ ⟨o,rfl,rfl,a⟩;rw[F.en]at a;refine Ud a ?_ ?_<;>intro t a
 ·refine Jv 1 ?_;refine Jz [2] [] [.n,.b 0 2] [(25,.string e.2.2)] ?_;refine Vw 43 [] a (o_bj e.2.2 p) (.s 0 (.s 1 .nil)) ?_;rintro w - a _ _ ⟨rfl,rfl⟩;refine Ve ?_;refine J0 1 [(2,.bool w)] (Jw 1 ?_);obtain rfl:=J7 a;exact Va [] ⟨rfl,rfl⟩
 refine Jv 4 ?_;refine Jz [2] [] [.n,.b 0 2,.n,.n] [(2,.bool (decide (e.2.2=(ByteArray.mk #[]))))] (Jw 1 ?_);obtain rfl:=J7 a;exact Va [] ⟨rfl,rfl⟩
def F.dw (e:Int):Nat→Int→Option (List Int)
 |0,_=>none
 |f+1,a=>if a≤e then(A.cns a (A.gd (Z.R64 (a+1)) ((F.dw e f) (a+1))))else(some [])
def F.cg (a:Int)(e:Int):Option (List Int):=F.dw e A.FU a
theorem o_aY(k:Int)(o:Int)(u:A.h6 k)(E:A.h6 o)(xs:List Int)(a:F.cg k o=some xs):
    A.Sq Tryz.prog 164 [.pointer (some ⟨g0_,0,none⟩),.pointer (some ⟨g2_,0,none⟩)] [(0,.el none g0_ 0 [A.i k]),(1,.el none g2_ 0 [A.i o])] A.ti (fun cs=>[Z.vof false cs]) xs:=by
 refine A.Sq.enter Tryz.func164 rfl Tryz.ntmps164 rfl fun lid w J Jx Φ hY hJ0=>?_;obtain⟨rs0,hrs⟩: ∃rs0,rs0=xs:=⟨_,rfl⟩
 have hR0:A.Rem xs 0 rs0:=hrs▸A.Rem.zero xs
 rw[F.cg,←hrs]at a
 clear hrs
 refine Jv 1 ?_;refine Jz [] [0] [.e 0 0,.n] [(4,A.i k)] (Jw 2 ?_);refine A.AX.loopC (A.CY 15 Φ) (0,w) [0,2] [1] [1] (fun f i x y=>∃(h:Int),∃(rs:List Int),x=[(4,A.i h)]∧y=[]∧A.h6 h∧J i.1 i.2∧A.Rem xs i.1 rs∧F.dw o f h=some rs) A.FU [(4,A.i k)] [] ⟨k,_,rfl,rfl,u,hJ0,hR0,a⟩ ?_;rintro p ⟨z,I⟩ _ _ ⟨h,rs8,rfl,rfl,B,hJ6,hR7,a⟩;rcases p with _|p
 ·exact Vm a
 rw[F.dw]at a;refine Jv 2 ?_;refine Jz [] [1] [.n,.e 0 0,.n] [(8,.bool (decide (h≤o)))] (Jw 1 ?_);refine Vr a ?_ ?_<;>intro L a
 ·refine Jv 5 ?_;refine J0 2 [(11,.func (.yield lid) #[] #[]),(12,A.i h)] ?_;obtain⟨rs9,hqrs9,a⟩:=A.cns_some a;refine A.AL.yield hY hJ6 (hqrs9▸hR7) [A.i h] ⟨rfl,B⟩ (fun s hJ11 hR12=>?_) (fun s hX13=>?_)
  ·refine J0 1 [(14,.bool false)] (Jw 1 ?_);refine Ur rfl ?_;refine Jv 3 ?_;have⟨t,a⟩:=Vq a;refine Ub 3 [Z.R64 (h+1)] [(4,A.i (h+1))] t (Jy ?_);exact A.AE.jC (z+1,s) [1] [(4,A.i (h+1))] [] ⟨_,Qh _,⟨(h+1),_,rfl,rfl,(J2 t),hJ11,hR12,a⟩⟩
  refine J0 1 [(14,.bool true)] (Jw 1 ?_);refine Uo rfl ?_;exact A.AX.rtX hY hX13
 refine Vy 1 ?_;obtain rfl:=J7 a;exact A.AE.rtY hY hJ6 hR7
def F.dm (a:Option Int)(e:Bool):Option Int:=if e=true then(some 0)else(a)
def F.bI (a:D81):List Int→Option Int
 | []=>some 60
 |e::f=>if e=a.1 then((F.eA a).bind fun h=>(if h=true then((F.eW a).bind fun k=>(F.dm (F.bI a f) k))else(F.dm (F.bI a f) false)))else(F.dm (F.bI a f) false)
def F.ev (a:Int)(e:D81):Option Int:=(F.eV a).bind fun h=>(if h.2<0 then(if e≠(0,0,ByteArray.mk #[])then(some 60)else(some 0))else((F.e3 a).bind fun f=>((F.cg f.1 f.2).bind fun k=>F.bI e k)))
theorem o_bE (h:Int)(f:D81)(E:A.h6 h)(I:A.h6 f.1)(J:A.h6 f.2.1)(L:f.2.2.size≤maxLen)(r:Int)(e:F.ev h f=some r):
    A.Ct Tryz.prog 99 [A.i h,.agg #[A.i f.1,A.i f.2.1,.string f.2.2]] [(0,.el none 0 0 A.tabF),(1,.el none 1 0 A.tabA)] [] (fun v H'=>v=A.i r∧H'=[]∧A.h6 r):=by
 refine A.Ct.enterM Tryz.func99 rfl Tryz.ntmps99 rfl fun w0 F0=>?_;rw[F.ev]at e;refine Jv 1 ?_;refine Vc 2 (cs:=[A.i f.1,A.i f.2.1,.string f.2.2]) fun g1=>?_;refine J6 3 (cs:=l2o) Tryz.zeroValue28 fun g2=>?_;refine Vb 3 ?_;refine J0 1 [(9,A.i h)] ?_;refine Vw 4 [] e (o_aX h E) .nil ?_;rintro N - e _ _ ⟨rfl,rfl,hr5,hr6⟩;refine Ve ?_;refine J0 5 [(6,A.i N.2)] (Vb 2 ?_);refine J0 2 [(14,.bool (decide (N.2<0)))] (Jw 1 ?_);refine Vr e ?_ ?_<;>intro t e
 ·refine Jv 2 ?_;refine Jz [2] [] [.b 0 0,.n] [(15,.agg #[A.i f.1,A.i f.2.1,.string f.2.2]),(16,.agg #[A.i 0,A.i 0,.string (ByteArray.mk #[])])] ?_;refine Uc rfl (fun a w hf hh=>eqagg_neq82 (x:=f) (y:=(0,0,ByteArray.mk #[])) (hf.eval rfl) (hf.eval rfl)) ?_;refine Jw 1 ?_;refine Vr e ?_ ?_<;>intro t e
  ·refine Jv 1 ?_;refine Vu 3 [] [A.i 60] ?_;refine Jw 1 ?_;obtain rfl:=J7 e;exact A.AX.rtM (Ds:=[]) [] [] (A.i 60) (trivial) (fun a w hf hh=>Uz rfl (Z.rv_1 hf rfl Tryz.isAgg28 (Vt hh 3))) (⟨rfl,rfl,(Vd .i64 (60) rfl)⟩)
  refine Jv 3 ?_;refine Vu 3 [] [A.i 0] ?_;refine Jw 1 ?_;obtain rfl:=J7 e;exact A.AX.rtM (Ds:=[]) [] [] (A.i 0) (trivial) (fun a w hf hh=>Uz rfl (Z.rv_1 hf rfl Tryz.isAgg28 (Vt hh 3))) (⟨rfl,rfl,J5⟩)
 refine Jv 4 ?_;refine J0 1 [(18,A.i h)] ?_;refine Vw 44 [] e (o_bP h E) .nil ?_;rintro p - e _ _ ⟨O,U,rfl,rfl,hr10,hr12⟩;refine Ve ?_;refine Jw 2 ?_;have⟨u,a3,e⟩:=Vx e;refine A.AX.rgf 84 85 86 [0,1,2,3,44,45] [0,1,2,3,44,45] [85,84,0,1,2,3,44,45] (fun k z=>z=[]∧F.bI f (List.drop k u)=some r) [] cf164 (o_aY O U p.1 p.2 hr10 hr12 u a3) (fun _=>rfl) ⟨rfl,e⟩ ?_ ?_ ?_
 ·rintro V _ D15 L16 ⟨rfl,e⟩;exact⟨⟨_,(.b 44 (.b 45 .nil))⟩,rfl,fun o=>rfl⟩
 ·rintro V _ W D15 L16 a5 a6 ⟨rfl,e⟩ hx23 hxo24 X;rw[A.drop_at hx23,F.bI]at e
  refine Jv 0 ?_;refine J0 1 [(7,A.i W)] (Jy ?_);refine A.AE.flip 84 85 fun a7=>?_;refine V3 1 ?_;refine J4 [3,4] [0,1,2,3,44,45,84,85] (fun nl z=>∃(B:Bool),nl=[(32,.bool B)]∧z=[]∧F.dm (F.bI f (List.drop (V+1) u)) B=some r) ?_ ?_
  ·refine Jv 0 ?_;refine Jz [2] [] [.n,.n,.b 0 0,.n,.n] [(25,.bool (decide (W=f.1)))] ?_;refine V6 (j:=25) rfl e ?_ ?_<;>intro t e
   ·refine Jz [2] [] [.on (.b 0 0)] [(26,.agg #[A.i f.1,A.i f.2.1,.string f.2.2])] ?_;refine Vk (dj:=25) rfl rfl ?_;refine Vw 167 [] e (o_bi f I J L) .nil ?_;rintro a4 - e _ _ ⟨rfl,rfl⟩;refine Ve ?_;refine J0 2 [(29,.bool a4)] ?_;refine Vs (j:=29) rfl e (fun e=>?_) (fun e=>?_)
    ·refine Jz [2] [] [.on (.b 0 0)] [(30,.agg #[A.i f.1,A.i f.2.1,.string f.2.2])] ?_;refine Vk (dj:=29) rfl rfl ?_;refine Vw 207 [] e (o_bQ f I J L) (.s 0 (.s 1 .nil)) ?_;rintro a2 - e _ _ ⟨rfl,rfl⟩;refine Ve ?_;refine J0 1 [(32,.bool a2)] (Jy ?_);exact Vi ⟨a2,rfl,rfl,e⟩
    refine Jz [] [] [.off,.off,.n] [(32,.bool false)] (Jy ?_);exact Vi ⟨false,rfl,rfl,e⟩
   refine Jz [] [] [.off,.off,.n,.n,.off,.off,.n] [(32,.bool false)] (Jy ?_);exact Vi ⟨false,rfl,rfl,e⟩
  rintro _ _ ⟨B,rfl,rfl,e⟩;rw[F.dm]at e;refine Ud e ?_ ?_<;>intro t e
  ·refine Jv 1 ?_;refine Vu 3 [] [A.i 0] ?_;refine Jw 1 ?_;refine A.AX.bret X [85,2,3,44,45,84] 100000 [(85,100085),(2,100002),(3,100003),(44,100044),(45,100045),(84,100084),(0,0),(1,1)] [(2,.blk g1 82 [A.i f.1,A.i f.2.1,.string f.2.2]),(3,.blk g2 28 [A.i 0]),(44,.blk O 3 [A.i p.1]),(45,.blk U 3 [A.i p.2]),(84,.ob D15 A.dfT),(0,.el none 0 0 A.tabF),(1,.el none 1 0 A.tabA)] ?_ rfl rfl
   obtain rfl:=J7 e;exact A.AE.rtM (Ds:=[D15]) [84] [] (A.i 0) (⟨rfl,trivial⟩) (fun a w hf hh=>Uz rfl (Z.rv_1 hf rfl Tryz.isAgg28 (Vt hh 3))) (⟨rfl,rfl,J5⟩)
  refine Vy 2 ?_;exact A.AE.bn X [85,84,2,3,44,45] 100000 [(85,100085),(84,100084),(0,0),(1,1),(2,100002),(3,100003),(44,100044),(45,100045)] [] ⟨rfl,e⟩ rfl rfl
 rintro _ D15 L16 ⟨rfl,e⟩;rw[Jq,F.bI]at e
 refine A.el 3 ?_;refine Vu 3 [] [A.i 60] ?_;refine Jw 1 ?_;obtain rfl:=J7 e;exact A.AX.rtM (Ds:=[D15]) [84] [] (A.i 60) (⟨rfl,trivial⟩) (fun a w hf hh=>Uz rfl (Z.rv_1 hf rfl Tryz.isAgg28 (Vt hh 3))) (⟨rfl,rfl,(Vd .i64 (60) rfl)⟩)
def F.bC (e:(List Int)→(List (Int×Bool))→Int→Option (Bool×((List (Int×D83))×(List Int)×(List (Int×Int)))))(a:Int)(f:List Int)(h:List (Int×Bool)):Option (Bool×((List (Int×D83))×(List Int)×(List (Int×Int)))):=A.gd (Z.R64 (a+1)) (e f h (a+1))
def F.bD (e:Int→Option (Bool×((List (Int×D83))×(List Int)×(List (Int×Int)))))(a:Int):Option (Bool×((List (Int×D83))×(List Int)×(List (Int×Int)))):=A.gd (Z.R64 (a+1)) (e (a+1))
def F.ba (o:(List Int)→(List (Int×Bool))→Int→Option (Bool×((List (Int×D83))×(List Int)×(List (Int×Int)))))(p:Int→Option (Bool×((List (Int×D83))×(List Int)×(List (Int×Int)))))(h:List Int)(k:List (Int×Bool))(s:Int)(t:Int)(a:D83):Nat→Int→Option (Bool×((List (Int×D83))×(List Int)×(List (Int×Int))))
 |0,_=>none
 |f+1,e=>if e<(a.2.2.1.length:Int)then((A.ix a.2.2.1 e).bind fun u=>(A.lt (Z.mget (false:Bool) k u) fun w=>(if(bif !w then decide (a.2.1≠14)else false)=true then(F.bD p t)else(A.gd (Z.R64 (e+1)) ((F.ba o p h k s t a f) (e+1))))))else(A.gd ((List.length (α:=Int) h+List.length (α:=Int) [a.1])*8≤140737488355328) (F.bC o s (h++[a.1]) (Z.mins k a.1 true)))
def F.ae (e:(List Int)→(List (Int×Bool))→Int→Option (Bool×((List (Int×D83))×(List Int)×(List (Int×Int)))))(h:D23)(k:List Int)(a:List (Int×Bool))(o:Int):Nat→Int→Option (Bool×((List (Int×D83))×(List Int)×(List (Int×Int))))
 |0,_=>none
 |f+1,p=>if p<(h.length:Int)then((A.ix h p).bind fun s=>(A.lt (Z.mget (false:Bool) a s.1) fun t=>(if t=true then(F.bD (F.ae e h k a o f) p)else(F.ba e (F.ae e h k a o f) k a o p s A.FU 0))))else(F.bC e o k a)
def F.au (e:((List (Int×D83))×(List Int)×(List (Int×Int))))(a:D23):Nat→(List Int)→(List (Int×Bool))→Int→Option (Bool×((List (Int×D83))×(List Int)×(List (Int×Int))))
 |0,_,_,_=>none
 |f+1,h,o,k=>if k<(a.length:Int)then(F.ae (F.au e a f) a h o k A.FU 0)else(some (decide ((h.length:Int)=(a.length:Int)),(e.1,h,e.2.2)))
def F.bl (a:((List (Int×D83))×(List Int)×(List (Int×Int))))(e:D23):Option (Bool×((List (Int×D83))×(List Int)×(List (Int×Int)))):=F.au a e A.FU a.2.1 [] 0
theorem o_aG(w:((List (Int×D83))×(List Int)×(List (Int×Int))))(o:D23)(r:Bool×((List (Int×D83))×(List Int)×(List (Int×Int))))(a:F.bl w o=some r):
    A.Ct Tryz.prog 100 [.pointer (some ⟨g0_,0,none⟩),.agg #[.slice A5_ o.length c6_]] [(0,.blk g0_ 149 [.map (some b1_),.slice A2_ w.2.1.length c3_,.map (some b4_)]),(1,.mp Int (fun i:Int=>A.i i) T83 true b1_ w.1),(2,.own A.ti 3 A2_ c3_ w.2.1),(3,.mp Int (fun i:Int=>A.i i) A.ti false b4_ w.2.2),(4,.sh (.slice T83) [.slice A5_ o.length c6_] o)] ([g0_]++([b1_]++(Z.obl A2_++([b4_]++[])))) (fun v H'=>∃(b0':Nat) (A1':Option Addr) (c2':Nat) (b3':Nat),v=.bool r.1∧H'=[(0,.blk g0_ 149 [.map (some b0'),.slice A1' r.2.2.1.length c2',.map (some b3')]),(1,.mp Int (fun i:Int=>A.i i) T83 true b0' r.2.1),(2,.own A.ti 3 A1' c2' r.2.2.1),(3,.mp Int (fun i:Int=>A.i i) A.ti false b3' r.2.2.2)]):=by
 refine J1 Tryz.func100 rfl Tryz.ntmps100 rfl fun w0 F0=>?_;rw[F.bl]at a;refine Jv 1 ?_;refine Vc 5 (cs:=[.slice A5_ o.length c6_]) fun g1=>?_;refine J0 1 [] (Vb 2 ?_);refine A.AL.mkm 6 Int (fun i:Int=>A.i i) Z.Ty.bool false fun L=>?_;refine J0 1 [(5,.map (some L))] (Vb 3 ?_);refine Jz [5] [] [.n,.b 0 0,.n,.n] [(13,A.i (o.length:Int)),(14,A.i 0)] (Jw 2 ?_);refine Vo [0,3,5,13] [1,3,4,5] (fun f y B=>∃(p:List Int),∃(E:List (Int×Bool)),∃(s:Int),∃(N:Option Addr),∃(O:Nat),y=[(14,A.i s)]∧B=[(0,.blk g0_ 149 [.map (some b1_),.slice N p.length O,.map (some b4_)]),(2,.own A.ti 3 N O p),(6,.mp Int (fun i:Int=>A.i i) Z.Ty.bool false L E)]∧A.h6 s∧F.au w o f p E s=some r) ⟨w.2.1,[],0,A2_,c3_,rfl,rfl,J5,a⟩ ?_;rintro J _ _ ⟨p,E,s,N,O,rfl,rfl,ak,a⟩;rcases J with _|J
 ·exact Vm a
 rw[F.au]at a;refine Jv 1 ?_;refine J0 1 [(15,.bool (decide (s<(o.length:Int))))] (Jw 2 ?_);refine Vr a ?_ ?_<;>intro V a
 ·refine V3 2 ?_;refine J4 [0,3,5,13,14] [1,3,4,5] (fun y B=>∃(U:List Int),∃(W:List (Int×Bool)),∃(X:Option Addr),∃(c11:Nat),y=[]∧B=[(0,.blk g0_ 149 [.map (some b1_),.slice X U.length c11,.map (some b4_)]),(2,.own A.ti 3 X c11 U),(6,.mp Int (fun i:Int=>A.i i) Z.Ty.bool false L W)]∧F.bC (F.au w o J) s U W=some r) ?_ ?_
  ·refine V3 1 ?_;refine A.AX.scope ?_;refine Jv 4 ?_;refine Jz [5] [] [.n,.b 0 0,.n,.n] [(17,.slice A5_ o.length c6_),(18,A.i (o.length:Int)),(19,A.i 0)] (Jw 2 ?_);refine Vo [0,3,5,13,14,17,18] l2e (fun f y B=>∃(x:Int),y=[(19,A.i x)]∧B=[]∧A.h6 x∧F.ae (F.au w o J) o p E s f x=some r) ⟨0,rfl,rfl,J5,a⟩ ?_;rintro a2 _ _ ⟨x,rfl,rfl,al,a⟩;rcases a2 with _|a2
   ·exact Vm a
   rw[F.ae]at a;refine Jv 1 ?_;refine J0 1 [(20,.bool (decide (x<(o.length:Int))))] (Jw 2 ?_);refine Vr a ?_ ?_<;>intro V a
   ·refine V3 2 ?_;refine J4 [0,3,5,13,14,17,18,19] l2e (fun y B=>y=[]∧B=[]∧F.bD (F.ae (F.au w o J) o p E s a2) x=some r) ?_ ?_
    ·refine Jv 2 ?_;have⟨h,ac,a⟩:=Vx a;refine V2 4 111 ac fun ad=>?_;intro a3 a4 am an;refine Jz [] [111] [.e 0 0] [(22,.agg #[A.i h.1,A.i h.2.1,.slice a3 h.2.2.1.length a4,A.i h.2.2.2.1.1,A.i h.2.2.2.1.2.1,.string h.2.2.2.1.2.2,.string h.2.2.2.2.1,A.i h.2.2.2.2.2.1,A.i h.2.2.2.2.2.2])] ?_;refine J6 113 (cs:=l2a) Tryz.zeroValue84 fun ao=>?_;refine Vu 113 [] [A.i h.1,A.i h.2.1,.slice a3 h.2.2.1.length a4,A.i h.2.2.2.1.1,A.i h.2.2.2.1.2.1,.string h.2.2.2.1.2.2,.string h.2.2.2.2.1,A.i h.2.2.2.2.2.1,A.i h.2.2.2.2.2.2] ?_;refine Vb 3 ?_;refine Jz [113] [] [.n,.n,.b 0 0] [(23,.map (some L)),(25,A.i h.1)] ?_;obtain⟨ap,ag,a⟩:=V5 a;refine Ux (t:=Z.Ty.bool) 6 114 (z:=(false:Bool)) (zs:=[.bool false]) ky3 h.1 Tryz.zeroValue4 rfl ag fun aq=>?_;refine Jw 1 ?_;refine Ud a ?_ ?_<;>intro V a
     ·refine Vy 1 ?_;exact Vi ⟨rfl,rfl,a⟩
     refine Jv 4 ?_;refine Jz [113] [] [.n,.b 0 2,.n,.n] [(28,.slice a3 h.2.2.1.length a4),(29,A.i (h.2.2.1.length:Int)),(30,A.i 0)] (Jw 2 ?_);refine Vo [0,3,5,7,13,14,17,18,19,28,29] [0,1,2,3,4,5,6,112,113] (fun f y B=>∃(I:Int),y=[(30,A.i I)]∧B=[]∧A.h6 I∧F.ba (F.au w o J) (F.ae (F.au w o J) o p E s a2) p E s x h f I=some r) ⟨0,rfl,rfl,J5,a⟩ ?_;rintro a8 _ _ ⟨I,rfl,rfl,ar,a⟩;rcases a8 with _|a8
     ·exact Vm a
     rw[F.ba]at a;refine Jv 1 ?_;refine J0 1 [(31,.bool (decide (I<(h.2.2.1.length:Int))))] (Jw 2 ?_);refine Vr a ?_ ?_<;>intro V a
     ·refine Jv 5 ?_;have⟨a5,ah,a⟩:=Vx a;refine V2 112 121 ah fun av=>?_;intro aw ax;refine Jz [] [121] [.e 0 0,.n] [(9,A.i a5)] (Vb 2 ?_);refine J0 2 [(34,.map (some L)),(35,A.i a5)] ?_;obtain⟨ai,aj,a⟩:=V5 a;refine Ux (t:=Z.Ty.bool) 6 122 (z:=(false:Bool)) (zs:=[.bool false]) ky3 a5 Tryz.zeroValue4 rfl aj fun ay=>?_;refine Jz [113] [] [.n,.n,.sy .n,.sy (.b 0 1),.sy .n,.pk] [(42,.bool (bif !ai then decide (h.2.1≠14)else false))] (Jw 1 ?_);refine Ud a ?_ ?_<;>intro V a
      ·refine Vy 1 ?_;exact Vi ⟨rfl,rfl,a⟩
      refine Jv 3 ?_;have⟨a9,a⟩:=Vq a;refine Ub 2 [Z.R64 (I+1)] [(30,A.i (I+1))] a9 (Jy ?_);exact Vi ⟨_,Qh _,⟨(I+1),rfl,rfl,(J2 a9),a⟩⟩
     refine Jv 3 ?_;refine Jz [113] [] [.n,.n,.b 0 0] [(44,.map (some L)),(46,A.i h.1)] ?_;refine A.AL.mup (t:=Z.Ty.bool) 6 [] (cs:=[.bool true]) (u:=true) ky3 h.1 rfl ?_;refine Jw 2 ?_;refine Vl mixed 11 12 (A.mb 12 0) ?_;refine Vh J3 [] l2l [113,0] [] (A.mb 12 127) 5 [(0,.n),(1,.n),(5,.n),(2,.n),(6,.b 0 0),(3,.n),(4,.b 1 1)] [(47,.pointer (some ⟨g0_,0,none⟩)),(53,A.i h.1),(51,.slice N p.length O)] ?_;refine J8 7 ?_;refine Vp 123 (ty:=A.ti) (cs:=[A.i h.1]) [h.1] ⟨⟨rfl,ad.1⟩,rfl⟩ (fun az=>?_) Tryz.zeroValue3 Tryz.sizeOf3
     refine Vg (A.mb 12 255) l2l ?_;refine J8 8 ?_;have⟨hl46,a⟩:=Vq a;refine V1 (k:=2) [] (Uk (k:=123) rfl) inf3 hl46 fun a6 a7=>?_;refine Vg (A.mb 12 511) l2l ?_;refine Vh J3 l2l [0,1,2,3,4,5,6,112,113,123] [] [] (A.mb 12 2047) 1 [(9,.n),(10,.n)] [(57,.pointer (some ⟨g0_,1,none⟩))] ?_;refine J8 11 ?_;refine Un 0 [] (new:=[.slice a6 ((p++[h.1]).length) a7]) (cs':=[.map (some b1_),.slice a6 ((p++[h.1]).length) a7,.map (some b4_)]) ?_;refine Ut (A.mb 12 4095) ?_;refine J9 ?_;refine A.ee 4 ?_;exact Vi ⟨(p++[h.1]),(Z.mins E h.1 true),a6,a7,rfl,rfl,a⟩
    rintro _ _ ⟨rfl,rfl,a⟩;rw[F.bD]at a;refine Jv 0 ?_;have⟨aa,a⟩:=Vq a;refine Ub 2 [Z.R64 (x+1)] [(19,A.i (x+1))] aa (Jy ?_);exact Vi ⟨_,Qh _,⟨(x+1),rfl,rfl,(J2 aa),a⟩⟩
   refine Vy 3 ?_;exact Vi ⟨p,E,N,O,rfl,rfl,a⟩
  rintro _ _ ⟨U,W,X,c11,rfl,rfl,a⟩;rw[F.bC]at a;refine Jv 0 ?_;have⟨ab,a⟩:=Vq a;refine Ub 2 [Z.R64 (s+1)] [(14,A.i (s+1))] ab (Jy ?_);exact Vi ⟨_,Qh _,⟨U,W,(s+1),X,c11,rfl,rfl,(J2 ab),a⟩⟩
 refine V3 3 ?_;refine Vl mixed 10 10 (A.mb 10 0) ?_;refine Vh J3 [] l2e [5,0] [] (A.mb 10 1023) 0 [(0,.n),(5,.n),(1,.n),(6,.b 0 0),(2,.n),(7,.n),(3,.b 1 1),(4,.n),(8,.n),(9,.n)] [(4,.bool (decide ((p.length:Int)=(o.length:Int))))] (J9 ?_);refine Uy 1 ?_;obtain rfl:=J7 a;exact Va [(0,0),(1,1),(2,2),(3,3)] ⟨b1_,N,O,b4_,rfl,rfl⟩
def F.bW (a:Int):Option (Int×Bool):=some (a,bif decide ((0:Int)≤a)then decide (a≤4)else false)
def F.bX (a:Int):Option (Int×Bool):=some (a,decide (a=0))
def F.bY (e:D83)(a:Int)(f:Bool):Option (Int×Bool):=if f=true then(some (0,false))else(if e.2.1=12 then(A.gd (Z.R64 (a+1)) (F.bW (a+1)))else(if e.2.1=13 then(A.gd (Z.R64 (a-1)) (F.bW (a-1)))else(if e.2.1=11 then(F.bX a)else(if e.2.1=16 then(F.bX a)else(if e.2.1=15 then(F.bX a)else(F.bW a))))))
def F.cx (f:((List (Int×D83))×(List Int)×(List (Int×Int))))(a:D83):Option (Int×Bool):=if a.2.1=1 then(some (0,true))else(if a.2.1=14 then(some (a.2.2.2.2.2.2,true))else((A.ix a.2.2.1 0).bind fun h=>(A.lt (Z.mget (0:Int) f.2.2 h) fun e=>(if(1:Int)<(a.2.2.1.length:Int)then((A.ix a.2.2.1 1).bind fun k=>(A.lt (Z.mget (0:Int) f.2.2 k) fun o=>(F.bY a e (decide (o≠e)))))else(F.bY a e false)))))
theorem o_aP(o:((List (Int×D83))×(List Int)×(List (Int×Int))))(h:D83)(a5:A.h6 h.1)(a6:A.h6 h.2.1)(a7:A.h6 h.2.2.2.1.1)(a8:A.h6 h.2.2.2.1.2.1)(a9:h.2.2.2.1.2.2.size≤maxLen)(aa:h.2.2.2.2.1.size≤maxLen)(ab:A.h6 h.2.2.2.2.2.1)(X:A.h6 h.2.2.2.2.2.2)(r:Int×Bool)(f:F.cx o h=some r):
    A.Ct Tryz.prog 140 [.pointer (some ⟨g0_,0,none⟩),.agg #[A.i h.1,A.i h.2.1,.slice A7_ h.2.2.1.length c8_,A.i h.2.2.2.1.1,A.i h.2.2.2.1.2.1,.string h.2.2.2.1.2.2,.string h.2.2.2.2.1,A.i h.2.2.2.2.2.1,A.i h.2.2.2.2.2.2]] [(0,.blk g0_ 149 [.map (some b1_),.slice A2_ o.2.1.length c3_,.map (some b4_)]),(1,.mp Int (fun i:Int=>A.i i) T83 true b1_ o.1),(2,.own A.ti 3 A2_ c3_ o.2.1),(3,.mp Int (fun i:Int=>A.i i) A.ti false b4_ o.2.2),(4,.sh A.TI [.slice A7_ h.2.2.1.length c8_] h.2.2.1)] ([g0_]++([b1_]++(Z.obl A2_++([b4_]++[])))) (fun v H'=>v=.tuple #[A.i r.1,.bool r.2]∧H'=[(0,.blk g0_ 149 [.map (some b1_),.slice A2_ o.2.1.length c3_,.map (some b4_)]),(1,.mp Int (fun i:Int=>A.i i) T83 true b1_ o.1),(2,.own A.ti 3 A2_ c3_ o.2.1),(3,.mp Int (fun i:Int=>A.i i) A.ti false b4_ o.2.2)]∧A.h6 r.1):=by
 refine J1 Tryz.func140 rfl Tryz.ntmps140 rfl fun w0 F0=>?_;rw[F.cx]at f;refine Jv 1 ?_;refine Vc 5 (cs:=[A.i h.1,A.i h.2.1,.slice A7_ h.2.2.1.length c8_,A.i h.2.2.2.1.1,A.i h.2.2.2.1.2.1,.string h.2.2.2.1.2.2,.string h.2.2.2.2.1,A.i h.2.2.2.2.2.1,A.i h.2.2.2.2.2.2]) fun g1=>?_;refine J0 2 [] (Vb 3 ?_);refine Jz [5] [] [.n,.b 0 1] [(8,A.i h.2.1)] (Vb 3 ?_);refine J0 2 [(9,.bool (decide (h.2.1=1)))] (Jw 1 ?_);refine Vr f ?_ ?_<;>intro p f
 ·refine Jv 1 ?_;refine J0 2 [(4,A.i 0),(5,.bool true)] (Jw 1 ?_);obtain rfl:=J7 f;exact V4 [(0,0),(1,1),(2,2),(3,3)] ⟨rfl,rfl,J5⟩
 refine Jv 1 ?_;refine J0 2 [(11,.bool (decide (h.2.1=14)))] (Jw 1 ?_);refine Vr f ?_ ?_<;>intro p f
 ·refine Jv 1 ?_;refine Jz [5] [] [.n,.b 0 8,.n,.n] [(4,A.i h.2.2.2.2.2.2),(5,.bool true)] (Jw 1 ?_);obtain rfl:=J7 f;exact V4 [(0,0),(1,1),(2,2),(3,3)] ⟨rfl,rfl,X⟩
 refine V3 4 ?_;refine Vl mixed 10 10 (A.mb 10 0) ?_;refine Vh J3 [] l2p [5,0] [] (A.mb 10 63) 4 [(0,.n),(4,.n),(1,.n),(5,.b 0 2),(2,.n),(3,.b 1 2)] [(20,.slice A7_ h.2.2.1.length c8_),(18,.map (some b4_))] ?_;have⟨y,I,f⟩:=Vx f;refine Uh 4 6 I fun ac=>?_;intro b6 o7 a2;refine Vf J3 l2p l2e 6 (A.mb 10 127) rfl (fun a w hf hh=>Vj (t:=A.ti) I a2 hf) ?_;refine Vh J3 l2e l2e [] [6] (A.mb 10 255) 2 [(7,.e 0 0)] [(22,A.i y)] ?_;obtain⟨k,J,f⟩:=V5 f;refine A.okm (t:=A.ti) 3 y (z:=(0:Int)) (zs:=l2o) ⟨rfl,by decide⟩ J fun L=>?_;refine Vf J3 l2e l2e 8 (A.mb 10 511) rfl (fun a w hf hh=>A.r_lkf (t:=A.ti) (ok:=false) (z:=(0:Int)) (zs:=l2o) 3 ky3 y Tryz.zeroValue3 ⟨rfl,by decide⟩ J rfl hf hh) ?_;refine Vh J3 l2e l2e [] [] (A.mb 10 1023) 0 [(9,.n)] [(6,A.i k)] (J9 ?_);refine Uy 2 ?_;refine J4 [3,6] l2p (fun u x=>∃(B:Bool),u=[(40,.bool B)]∧x=[]∧F.bY h k B=some r) ?_ ?_
 ·refine Vl mixed 17 17 (A.mb 17 0) ?_;refine Vh J3 [] l2e [5] [] (A.mb 17 31) 12 [(0,.n),(1,.b 0 2),(2,.n),(3,.n),(4,.n)] [(28,.bool (decide ((1:Int)<(h.2.2.1.length:Int))))] ?_;refine Ui (j:=28) rfl f ?_ ?_<;>intro p f
  ·refine Vh J3 l2e l2e [5,0] [] (A.mb 17 18431) 5 [(5,.on .n),(9,.on .n),(14,.on .n),(6,.on .n),(10,.on (.b 0 2)),(7,.on .n),(8,.on (.b 1 2))] [(38,A.i k),(34,.slice A7_ h.2.2.1.length c8_),(32,.map (some b4_))] ?_;have⟨E,N,f⟩:=Vx f;refine Uh 4 7 N fun ad=>?_;intro ae ag a3;refine Ue J3 l2e l2k 11 (A.mb 17 20479) (dj:=28) rfl (fun a w hf hh=>Vj (t:=A.ti) N a3 hf) ?_;refine Vh J3 l2k l2k [] [7] (A.mb 17 24575) 3 [(12,.on (.e 0 0))] [(36,A.i E)] ?_;obtain⟨O,U,f⟩:=V5 f;refine A.okm (t:=A.ti) 3 E (z:=(0:Int)) (zs:=l2o) ⟨rfl,by decide⟩ U fun ah=>?_;refine Ue J3 l2k l2k 13 (A.mb 17 32767) (dj:=28) rfl (fun a w hf hh=>A.r_lkf (t:=A.ti) (ok:=false) (z:=(0:Int)) (zs:=l2o) 3 ky3 E Tryz.zeroValue3 ⟨rfl,by decide⟩ U rfl hf hh) ?_;refine Vh J3 l2k l2k [] [] (A.mb 17 131071) 0 [(15,.on .n),(16,.n)] [(40,.bool (decide (O≠k)))] (J9 ?_);exact Vi ⟨(decide (O≠k)),rfl,rfl,f⟩
  refine Vh J3 l2e l2e [] [] (A.mb 17 131071) 0 [(5,.off),(9,.off),(14,.off),(6,.off),(10,.off),(7,.off),(11,.off),(8,.off),(12,.off),(13,.off),(15,.off),(16,.n)] [(40,.bool false)] (J9 ?_);exact Vi ⟨false,rfl,rfl,f⟩
 rintro _ _ ⟨B,rfl,rfl,f⟩;rw[F.bY]at f;refine Ud f ?_ ?_<;>intro p f
 ·refine Jv 1 ?_;refine J0 2 [(4,A.i 0),(5,.bool false)] (Jw 1 ?_);obtain rfl:=J7 f;exact V4 [(0,0),(1,1),(2,2),(3,3)] ⟨rfl,rfl,J5⟩
 refine V3 2 ?_;refine J4 [] [0,1,2,3] (fun u x=>∃(s:Int),u=[(6,A.i s)]∧x=[]∧A.h6 s∧F.bW s=some r) ?_ ?_
 ·refine Jv 1 ?_;refine Jz [5] [] [.n,.b 0 1] [(42,A.i h.2.1)] (Jw 2 ?_);refine J4 [6] [0,1,2,3] (fun u x=>u=[]∧x=[]∧F.bX k=some r) ?_ ?_
  ·refine Jv 10 ?_;refine J0 2 [(43,.bool (decide (h.2.1=12)))] (Jw 1 ?_);refine Vr f ?_ ?_<;>intro p f
   ·refine Jv 3 ?_;have⟨V,f⟩:=Vq f;refine Ub 3 [Z.R64 (k+1)] [(6,A.i (k+1))] V (Ug 2 ?_);exact Vi ⟨(k+1),rfl,rfl,(J2 V),f⟩
   refine Jv 4 ?_;refine J0 2 [(45,.bool (decide (h.2.1=13)))] (Jw 1 ?_);refine Vr f ?_ ?_<;>intro p f
   ·refine Jv 3 ?_;have⟨W,f⟩:=Vq f;refine Ub 3 [Z.R64 (k-1)] [(6,A.i (k-1))] W (Ug 2 ?_);exact Vi ⟨(k-1),rfl,rfl,(J2 W),f⟩
   refine Jv 4 ?_;refine J0 2 [(47,.bool (decide (h.2.1=11)))] (Jw 1 ?_);refine Vr f ?_ ?_<;>intro p f
   ·refine Vy 3 ?_;exact Vi ⟨rfl,rfl,f⟩
   refine Jv 4 ?_;refine J0 2 [(49,.bool (decide (h.2.1=16)))] (Jw 1 ?_);refine Vr f ?_ ?_<;>intro p f
   ·refine Vy 2 ?_;exact Vi ⟨rfl,rfl,f⟩
   refine Jv 3 ?_;refine J0 2 [(51,.bool (decide (h.2.1=15)))] (Jw 1 ?_);refine Vr f ?_ ?_<;>intro p f
   ·refine Vy 1 ?_;exact Vi ⟨rfl,rfl,f⟩
   refine Vy 3 ?_;exact Vi ⟨k,rfl,rfl,L,f⟩
  rintro _ _ ⟨rfl,rfl,f⟩;rw[F.bX]at f;refine Jv 2 ?_;refine J0 5 [(4,A.i k),(5,.bool (decide (k=0)))] (Jw 1 ?_);obtain rfl:=J7 f;exact V4 [(0,0),(1,1),(2,2),(3,3)] ⟨rfl,rfl,L⟩
 rintro _ _ ⟨s,rfl,rfl,a4,f⟩;rw[F.bW]at f;refine Jv 1 ?_;refine Jz [] [] [.n,.n,.n,.n,.sy .n,.sy .n,.pk,.n,.n] [(4,A.i s),(5,.bool (bif decide ((0:Int)≤s)then decide (s≤4)else false))] (Jw 1 ?_);obtain rfl:=J7 f;exact V4 [(0,0),(1,1),(2,2),(3,3)] ⟨rfl,rfl,a4⟩
def F.bM (a:((List (Int×D83))×(List Int)×(List (Int×Int))))(e:List (Int×Int))(f:Bool):Option (Option (Bool×((List (Int×D83))×(List Int)×(List (Int×Int))))):=if f=true then(some (some (false,(a.1,a.2.1,e))))else(some none)
def F.bg (f:((List (Int×D83))×(List Int)×(List (Int×Int))))(a:List (Int×Int))(e:Int×D83):Option (Option (Bool×((List (Int×D83))×(List Int)×(List (Int×Int))))):=if e.2.2.1=14 then((A.ix e.2.2.2.1 0).bind fun h=>(A.lt (Z.mget (0:Int) a h) fun k=>(F.bM f a (decide (k≠e.2.2.2.2.2.2.2)))))else(F.bM f a false)
def F.al (a:((List (Int×D83))×(List Int)×(List (Int×Int)))):Nat→(List (Int×Int))→Int→Option (Bool×((List (Int×D83))×(List Int)×(List (Int×Int))))
 |0,_,_=>none
 |f+1,e,h=>if h<(a.2.1.length:Int)then((A.ix a.2.1 h).bind fun k=>(A.lt (Z.mget ((0,0,[],(0,0,(ByteArray.mk #[])),(ByteArray.mk #[]),0,0):D83) a.1 k) fun p=>((F.cx (a.1,a.2.1,e) p).bind fun o=>(if(!o.2)=true then(some (false,(a.1,a.2.1,e)))else(A.gd (Z.R64 (h+1)) ((F.al a f) (Z.mins e k o.1) (h+1)))))))else(A.mrg (F.bg a e) (some (true,(a.1,a.2.1,e))) a.1)
def F.bh (a:((List (Int×D83))×(List Int)×(List (Int×Int)))):Option (Bool×((List (Int×D83))×(List Int)×(List (Int×Int)))):=F.al a A.FU a.2.2 0
theorem o_aB(x:((List (Int×D83))×(List Int)×(List (Int×Int))))(r:Bool×((List (Int×D83))×(List Int)×(List (Int×Int))))(k:F.bh x=some r):
    A.Ct Tryz.prog 101 [.pointer (some ⟨g0_,0,none⟩)] [(0,.blk g0_ 149 [.map (some b1_),.slice A2_ x.2.1.length c3_,.map (some b4_)]),(1,.mp Int (fun i:Int=>A.i i) T83 true b1_ x.1),(2,.own A.ti 3 A2_ c3_ x.2.1),(3,.mp Int (fun i:Int=>A.i i) A.ti false b4_ x.2.2)] ([g0_]++([b1_]++(Z.obl A2_++([b4_]++[])))) (fun v H'=>∃(b0':Nat) (A1':Option Addr) (c2':Nat) (b3':Nat),v=.bool r.1∧H'=[(0,.blk g0_ 149 [.map (some b0'),.slice A1' r.2.2.1.length c2',.map (some b3')]),(1,.mp Int (fun i:Int=>A.i i) T83 true b0' r.2.1),(2,.own A.ti 3 A1' c2' r.2.2.1),(3,.mp Int (fun i:Int=>A.i i) A.ti false b3' r.2.2.2)]):=by
 refine J1 Tryz.func101 rfl Tryz.ntmps101 rfl fun w0 F0=>?_;rw[F.bh]at k;refine Jv 1 ?_;refine J0 1 [] (Vb 3 ?_);refine Jz [0] [] [.n,.n,.n,.b 0 1,.n,.n] [(12,.slice A2_ x.2.1.length c3_),(13,A.i (x.2.1.length:Int)),(14,A.i 0)] (Jw 2 ?_);refine Vo [0,12,13] [0,1,2] (fun f L N=>∃(E:List (Int×Int)),∃(y:Int),L=[(14,A.i y)]∧N=[(3,.mp Int (fun i:Int=>A.i i) A.ti false b4_ E)]∧A.h6 y∧F.al x f E y=some r) ⟨x.2.2,0,rfl,rfl,J5,k⟩ ?_;rintro f4 _ _ ⟨E,y,rfl,rfl,ae,k⟩;rcases f4 with _|f4
 ·exact Vm k
 rw[F.al]at k;refine Jv 1 ?_;refine J0 1 [(15,.bool (decide (y<(x.2.1.length:Int))))] (Jw 2 ?_);refine Vr k ?_ ?_<;>intro V k
 ·refine Jv 5 ?_;have⟨J,a6,k⟩:=Vx k;refine Um 2 96 a6 fun ag=>?_;intro g8 ah;refine Jz [] [96] [.e 0 0,.n] [(4,A.i J)] (Vb 2 ?_);refine Jz [0] [] [.n,.n,.n,.n,.b 0 0,.n] [(19,.pointer (some ⟨g0_,0,none⟩)),(23,.map (some b1_)),(24,A.i J)] ?_;obtain⟨a7,a8,k⟩:=V5 k;refine Ux (t:=T83) 1 97 (z:=((0,0,[],(0,0,(ByteArray.mk #[])),(ByteArray.mk #[]),0,0):D83)) (zs:=l2a) ky3 J Tryz.zeroValue84 ⟨⟨rfl,by decide⟩,⟨rfl,by decide⟩,(.inr ⟨rfl,rfl⟩),⟨⟨rfl,by decide⟩,⟨rfl,by decide⟩,⟨rfl,by decide⟩⟩,⟨rfl,by decide⟩,⟨rfl,by decide⟩,⟨rfl,by decide⟩⟩ a8 fun B=>?_;intro a9 aa;refine Vw 98 [96] k (o_aP A2_ a9 g0_ b1_ c3_ b4_ aa (x.1,x.2.1,E) a7 B.1 B.2.1 B.2.2.2.1.1 B.2.2.2.1.2.1 B.2.2.2.1.2.2 B.2.2.2.2.1 B.2.2.2.2.2.1 B.2.2.2.2.2.2) (.m 0 (.m 1 (.m 2 (.m 3 (.s 97 .nil))))) ?_;rintro I - k _ _ ⟨rfl,rfl,hr17⟩;refine Ve ?_;refine V7 98 0 [] ?_;refine V7 99 1 [] ?_;refine V7 100 2 [] ?_;refine V7 101 3 [] ?_;refine J0 5 [(5,A.i I.1),(6,.bool I.2)] (Vb 3 ?_);refine J0 2 [(30,.bool (!I.2))] (Jw 1 ?_);refine Ud k ?_ ?_<;>intro V k
  ·refine Jv 1 ?_;refine J0 1 [(2,.bool false)] (Jw 1 ?_);obtain rfl:=J7 k;exact Va [(0,0),(1,1),(2,2),(3,3)] ⟨b1_,A2_,c3_,b4_,rfl,rfl⟩
  refine Jv 2 ?_;refine Jz [0] [] [.n,.n,.n,.b 0 2,.n,.n] [(34,.map (some b4_)),(35,A.i J),(36,A.i I.1)] ?_;refine A.AL.mup (t:=A.ti) 3 [] (cs:=[A.i I.1]) (u:=I.1) ky3 J ⟨rfl,hr17⟩ ?_;refine Vb 2 ?_;have⟨a2,k⟩:=Vq k;refine Ub 2 [Z.R64 (y+1)] [(14,A.i (y+1))] a2 (Jy ?_);exact Vi ⟨_,Qh _,⟨(Z.mins E J I.1),(y+1),rfl,rfl,(J2 a2),k⟩⟩
 refine Jv 4 ?_;refine Jz [0] [] [.n,.n,.n,.b 0 0] [(41,.map (some b1_))] ?_;refine A.AL.rgm 1 138 fun W=>?_;refine Jw 2 ?_;obtain⟨hev,hend⟩:=A.mrg_all k;refine A.AX.loop [0,42] [0,1,2,3] [138,0,1,2,3] (fun f L N=>∃(sn:List Nat) (la:Option (Value×Value)),L=[]∧N=[(138,.mit 1 W b1_ x.1.length sn la)]∧sn.Nodup∧(∀i∈sn,i<x.1.length)∧(∀i∈sn,∀p,(x.1)[i]?=some p→F.bg x E p=some none)∧f+sn.length=x.1.length+1) (x.1.length+1) [] [(138,.mit 1 W b1_ x.1.length [] none)] ⟨[],none,rfl,rfl,X6,by simp,by simp,rfl⟩ ?_;rintro ai _ _ ⟨ab,la21,rfl,rfl,hnd,hbd,hse,hff⟩;refine Jv 1 ?_;refine A.AL.nxm 1 138 139 (fun hall=>?_) (fun ac o hp25 hs26 aj=>?_)
 ·replace k:=hend (A.seen_all hse hall)
  refine J0 1 [(44,.bool false)] (Jw 2 ?_);refine Ur rfl ?_;refine Jv 3 ?_;refine J0 1 [(2,.bool true)] (Jw 1 ?_);obtain rfl:=J7 k;exact Va [(0,0),(1,1),(2,2),(3,3)] ⟨b1_,A2_,c3_,b4_,rfl,rfl⟩
 intro O U;obtain⟨q,hB,hq⟩:=hev o (Qf hp25)
 have k:=hB
 rw[F.bg]at k;refine J0 1 [(44,.bool true)] (Jw 2 ?_);refine Uo rfl ?_;refine Jv 4 ?_;refine A.AL.ent 138 ?_;refine J0 1 [(46,.agg #[A.i o.2.1,A.i o.2.2.1,.slice O o.2.2.2.1.length U,A.i o.2.2.2.2.1.1,A.i o.2.2.2.2.1.2.1,.string o.2.2.2.2.1.2.2,.string o.2.2.2.2.2.1,A.i o.2.2.2.2.2.2.1,A.i o.2.2.2.2.2.2.2])] ?_;refine J6 140 (cs:=l2a) Tryz.zeroValue84 fun ak=>?_;refine Vu 140 [] [A.i o.2.1,A.i o.2.2.1,.slice O o.2.2.2.1.length U,A.i o.2.2.2.2.1.1,A.i o.2.2.2.2.1.2.1,.string o.2.2.2.2.1.2.2,.string o.2.2.2.2.2.1,A.i o.2.2.2.2.2.2.1,A.i o.2.2.2.2.2.2.2] ?_;refine Jw 1 ?_;refine J4 [0,42] [0,1,2,3,138] (fun L N=>∃(X:Bool),L=[(63,.bool X)]∧N=[]∧F.bM x E X=some q) ?_ ?_
 ·refine Vl mixed 17 17 (A.mb 17 0) ?_;refine Vh J3 [] l2j [140] [] (A.mb 17 15) 13 [(0,.n),(1,.b 0 1),(2,.n),(3,.n)] [(50,.bool (decide (o.2.2.1=14)))] ?_;refine Ui (j:=50) rfl k ?_ ?_<;>intro V k
  ·refine Vh J3 l2j l2j [140,0] [] (A.mb 17 25599) 5 [(4,.on .n),(8,.on .n),(13,.on .n),(5,.on .n),(9,.on (.b 0 2)),(14,.on (.b 0 8)),(6,.on .n),(7,.on (.b 1 2))] [(56,.slice O o.2.2.2.1.length U),(61,A.i o.2.2.2.2.2.2.2),(54,.map (some b4_))] ?_;have⟨a1,a3,k⟩:=Vx k;refine Uh 139 141 a3 fun am=>?_;intro an ao ad;refine Ue J3 l2j l2f 10 (A.mb 17 26623) (dj:=50) rfl (fun a w hf hh=>Vj (t:=A.ti) a3 ad hf) ?_;refine Vh J3 l2f l2f [] [141] (A.mb 17 28671) 3 [(11,.on (.e 0 0))] [(58,A.i a1)] ?_;obtain⟨a4,a5,k⟩:=V5 k;refine A.okm (t:=A.ti) 3 a1 (z:=(0:Int)) (zs:=l2o) ⟨rfl,by decide⟩ a5 fun ap=>?_;refine Ue J3 l2f l2f 12 (A.mb 17 32767) (dj:=50) rfl (fun a w hf hh=>A.r_lkf (t:=A.ti) (ok:=false) (z:=(0:Int)) (zs:=l2o) 3 ky3 a1 Tryz.zeroValue3 ⟨rfl,by decide⟩ a5 rfl hf hh) ?_;refine Vh J3 l2f l2f [] [] (A.mb 17 131071) 0 [(15,.on .n),(16,.n)] [(63,.bool (decide (a4≠o.2.2.2.2.2.2.2)))] (J9 ?_);exact Vi ⟨(decide (a4≠o.2.2.2.2.2.2.2)),rfl,rfl,k⟩
  refine Vh J3 l2j l2j [] [] (A.mb 17 131071) 0 [(4,.off),(8,.off),(13,.off),(5,.off),(9,.off),(14,.off),(6,.off),(10,.off),(7,.off),(11,.off),(12,.off),(15,.off),(16,.n)] [(63,.bool false)] (J9 ?_);exact Vi ⟨false,rfl,rfl,k⟩
 rintro _ _ ⟨X,rfl,rfl,k⟩;rw[F.bM]at k;refine Ud k ?_ ?_<;>intro V k
 ·refine Jv 1 ?_;refine J0 1 [(2,.bool false)] (Jw 1 ?_);obtain rfl:=J7 k;obtain rfl:=Qp (hq.resolve_left (by intro h;cases h))
  exact Va [(0,0),(1,1),(2,2),(3,3)] ⟨b1_,A2_,c3_,b4_,rfl,rfl⟩
 refine Vy 2 ?_;obtain rfl:=J7 k;exact A.AE.j [138,0,1,2,3] [] [(138,.mit 1 W b1_ x.1.length (ac::ab) (some (A.i o.1,.agg #[A.i o.2.1,A.i o.2.2.1,.slice O o.2.2.2.1.length U,A.i o.2.2.2.2.1.1,A.i o.2.2.2.2.1.2.1,.string o.2.2.2.2.1.2.2,.string o.2.2.2.2.2.1,A.i o.2.2.2.2.2.2.1,A.i o.2.2.2.2.2.2.2])))] ⟨_,(A.seen_f hnd (U2 hbd hp25) hs26 hff).1,_,_,rfl,rfl,Wm.2 ⟨hs26,hnd⟩,U2 hbd hp25,A.seen_cons hse hp25 hB,(A.seen_f hnd (U2 hbd hp25) hs26 hff).2⟩
def F.b2 (e:(List D41)→Int→Option (List D41))(a:Int)(f:List D41):Option (List D41):=A.gd (Z.R64 (a+1)) (e f (a+1))
def F.aP (k:(List D41)→Int→Option (List D41))(o:((List (Int×D83))×(List Int)×(List (Int×Int))))(p:Int)(a:D83):Nat→(List D41)→Int→Option (List D41)
 |0,_,_=>none
 |f+1,h,e=>if e<(a.2.2.1.length:Int)then((A.ix a.2.2.1 e).bind fun u=>(A.lt (Z.mget (0:Int) o.2.2 u) fun s=>(A.gd ((List.length (α:=D41) h+List.length (α:=D41) [((a.1,e),s)])*24≤140737488355328) (A.gd (Z.R64 (e+1)) ((F.aP k o p a f) (h++[((a.1,e),s)]) (e+1))))))else(if a.2.1≠15 then(A.lt (Z.mget (0:Int) o.2.2 a.1) fun t=>(A.gd ((List.length (α:=D41) h+List.length (α:=D41) [((a.1,2),t)])*24≤140737488355328) (F.b2 k p (h++[((a.1,2),t)]))))else(F.b2 k p h))
def F.aJ (h:((List (Int×D83))×(List Int)×(List (Int×Int))))(a:D23):Nat→(List D41)→Int→Option (List D41)
 |0,_,_=>none
 |f+1,k,e=>if e<(a.length:Int)then((A.ix a e).bind fun o=>(F.aP (F.aJ h a f) h e o A.FU k 0))else(some k)
def F.bB (a:((List (Int×D83))×(List Int)×(List (Int×Int))))(e:D23):Option (List D41):=F.aJ a e A.FU [] 0
theorem o_ah(s:((List (Int×D83))×(List Int)×(List (Int×Int))))(u:D23)(r:(List D41))(h:F.bB s u=some r):
    A.Ct Tryz.prog 69 [.pointer (some ⟨g0_,0,none⟩),.agg #[.slice A5_ u.length c6_]] [(0,.blk g0_ 149 [.map (some b1_),.slice A2_ s.2.1.length c3_,.map (some b4_)]),(1,.mp Int (fun i:Int=>A.i i) T83 true b1_ s.1),(2,.own A.ti 3 A2_ c3_ s.2.1),(3,.mp Int (fun i:Int=>A.i i) A.ti false b4_ s.2.2),(4,.sh (.slice T83) [.slice A5_ u.length c6_] u)] ([g0_]++([b1_]++(Z.obl A2_++([b4_]++[])))) (fun v H'=>∃(A0':Option Addr) (c1':Nat),v=.slice A0' r.length c1'∧H'=[(0,.own T41 42 A0' c1' r),(1,.blk g0_ 149 [.map (some b1_),.slice A2_ s.2.1.length c3_,.map (some b4_)]),(2,.mp Int (fun i:Int=>A.i i) T83 true b1_ s.1),(3,.own A.ti 3 A2_ c3_ s.2.1),(4,.mp Int (fun i:Int=>A.i i) A.ti false b4_ s.2.2)]):=by
 refine J1 Tryz.func69 rfl Tryz.ntmps69 rfl fun w0 F0=>?_;rw[F.bB]at h;refine Jv 1 ?_;refine Vc 5 (cs:=[.slice A5_ u.length c6_]) fun g1=>?_;refine J0 1 [] (Vb 2 ?_);refine J0 1 [(5,.slice none 0 0)] (Vb 3 ?_);refine Jz [5] [] [.n,.b 0 0,.n,.n] [(11,.slice A5_ u.length c6_),(12,A.i (u.length:Int)),(13,A.i 0)] (Jw 2 ?_);refine V9 38 T41 42 ?_;refine Vo [0,11,12] [0,1,2,3,4] (fun f L N=>∃(B:List D41),∃(y:Int),∃(E:Option Addr),∃(I:Nat),L=[(5,.slice E B.length I),(13,A.i y)]∧N=[(38,.own T41 42 E I B)]∧A.h6 y∧F.aJ s u f B y=some r) ⟨[],0,none,0,rfl,rfl,J5,h⟩ ?_;rintro W _ _ ⟨B,y,E,I,rfl,rfl,al,h⟩;rcases W with _|W
 ·exact Vm h
 rw[F.aJ]at h;refine Jv 1 ?_;refine J0 1 [(14,.bool (decide (y<(u.length:Int))))] (Jw 2 ?_);refine Vr h ?_ ?_<;>intro hb h
 ·refine V3 2 ?_;refine J4 [0,11,12,13] [0,1,2,3,4] (fun L N=>∃(O:List D41),∃(X:Option Addr),∃(c9:Nat),L=[(5,.slice X O.length c9)]∧N=[(38,.own T41 42 X c9 O)]∧F.b2 (F.aJ s u W) y O=some r) ?_ ?_
  ·refine Jv 2 ?_;have⟨o,ag,h⟩:=Vx h;refine V2 4 63 ag fun a5=>?_;intro a3 a4 am an;refine Jz [] [63] [.e 0 0] [(16,.agg #[A.i o.1,A.i o.2.1,.slice a3 o.2.2.1.length a4,A.i o.2.2.2.1.1,A.i o.2.2.2.1.2.1,.string o.2.2.2.1.2.2,.string o.2.2.2.2.1,A.i o.2.2.2.2.2.1,A.i o.2.2.2.2.2.2])] ?_;refine J6 65 (cs:=l2a) Tryz.zeroValue84 fun ao=>?_;refine Vu 65 [] [A.i o.1,A.i o.2.1,.slice a3 o.2.2.1.length a4,A.i o.2.2.2.1.1,A.i o.2.2.2.1.2.1,.string o.2.2.2.1.2.2,.string o.2.2.2.2.1,A.i o.2.2.2.2.2.1,A.i o.2.2.2.2.2.2] ?_;refine Vb 3 ?_;refine Jz [65] [] [.n,.b 0 2,.n,.n] [(18,.slice a3 o.2.2.1.length a4),(19,A.i (o.2.2.1.length:Int)),(20,A.i 0)] (Jw 2 ?_);refine Vo [0,7,11,12,13,18,19] l2h (fun f L N=>∃(x:List D41),∃(p:Int),∃(J:Option Addr),∃(c21:Nat),L=[(5,.slice J x.length c21),(20,A.i p)]∧N=[(38,.own T41 42 J c21 x)]∧A.h6 p∧F.aP (F.aJ s u W) s y o f x p=some r) ⟨B,0,E,I,rfl,rfl,J5,h⟩ ?_;rintro a6 _ _ ⟨x,p,J,c21,rfl,rfl,ah,h⟩;rcases a6 with _|a6
   ·exact Vm h
   rw[F.aP]at h;refine Jv 1 ?_;refine J0 1 [(21,.bool (decide (p<(o.2.2.1.length:Int))))] (Jw 2 ?_);refine Vr h ?_ ?_<;>intro hb h
   ·refine Jv 5 ?_;refine J0 1 [(22,A.i p)] ?_;have⟨a2,ai,h⟩:=Vx h;refine V2 64 72 ai fun ap=>?_;intro aq ar;refine Jz [] [72] [.e 0 0,.n,.n] [(8,A.i p),(9,A.i a2)] (Jw 1 ?_);refine Vl mixed 15 15 (A.mb 15 0) ?_;refine Vh J3 [] l2g [65,0] [] (A.mb 15 1023) 5 [(0,.n),(1,.n),(3,.n),(5,.n),(9,.n),(2,.b 0 0),(6,.n),(4,.n),(7,.n),(8,.b 1 2)] [(25,.slice J x.length c21),(34,A.i a2),(29,.agg #[A.i o.1,A.i p]),(33,.map (some b4_))] ?_;obtain⟨U,a7,h⟩:=V5 h;refine A.okm (t:=A.ti) 3 a2 (z:=(0:Int)) (zs:=l2o) ⟨rfl,by decide⟩ a7 fun aj=>?_;refine Vf J3 l2g l2g 10 (A.mb 15 2047) rfl (fun a w hf hh=>A.r_lkf (t:=A.ti) (ok:=false) (z:=(0:Int)) (zs:=l2o) 3 ky3 a2 Tryz.zeroValue3 ⟨rfl,by decide⟩ a7 rfl hf hh) ?_;refine Vh J3 l2g l2g [] [] (A.mb 15 4095) 3 [(11,.n)] [(36,.agg #[A.i o.1,A.i p,A.i U])] ?_;refine J8 12 ?_;refine Vp 73 (ty:=T41) (cs:=[A.i o.1,A.i p,A.i U]) [((o.1,p),U)] ⟨⟨⟨⟨rfl,a5.1⟩,⟨rfl,ah⟩⟩,⟨rfl,aj⟩⟩,rfl⟩ (fun au=>?_) Tryz.zeroValue42 Tryz.sizeOf42
    refine Vg (A.mb 15 8191) l2g ?_;refine J8 13 ?_;have⟨hl37,h⟩:=Vq h;refine V1 (k:=38) [] (Uk (k:=73) rfl) inf42 hl37 fun a8 a9=>?_;refine Vg (A.mb 15 16383) l2g ?_;refine Vh J3 l2g [0,1,2,3,4,38,64,65,72,73] [] [] (A.mb 15 32767) 0 [(14,.n)] [(5,.slice a8 ((x++[((o.1,p),U)]).length) a9)] (J9 ?_);refine A.el 2 ?_;have⟨aa,h⟩:=Vq h;refine Ub 2 [Z.R64 (p+1)] [(20,A.i (p+1))] aa (Jy ?_);exact Vi ⟨_,Qh _,⟨(x++[((o.1,p),U)]),(p+1),a8,a9,rfl,rfl,(J2 aa),h⟩⟩
   refine Jv 3 ?_;refine Jz [65] [] [.n,.b 0 1,.n] [(42,.bool (decide (o.2.1≠15)))] (Jw 1 ?_);refine Vr h ?_ ?_<;>intro hb h
   ·refine Vl mixed 15 15 (A.mb 15 0) ?_;refine Vh J3 [] l2h [65,0] [] (A.mb 15 1023) 5 [(0,.n),(1,.n),(4,.n),(8,.n),(2,.b 0 0),(5,.n),(9,.b 0 0),(3,.n),(6,.n),(7,.b 1 2)] [(43,.slice J x.length c21),(52,A.i o.1),(46,.agg #[A.i o.1,A.i 2]),(50,.map (some b4_))] ?_;obtain⟨V,ab,h⟩:=V5 h;refine A.okm (t:=A.ti) 3 o.1 (z:=(0:Int)) (zs:=l2o) ⟨rfl,by decide⟩ ab fun ak=>?_;refine Vf J3 l2h l2h 10 (A.mb 15 2047) rfl (fun a w hf hh=>A.r_lkf (t:=A.ti) (ok:=false) (z:=(0:Int)) (zs:=l2o) 3 ky3 o.1 Tryz.zeroValue3 ⟨rfl,by decide⟩ ab rfl hf hh) ?_;refine Vh J3 l2h l2h [] [] (A.mb 15 4095) 3 [(11,.n)] [(54,.agg #[A.i o.1,A.i 2,A.i V])] ?_;refine J8 12 ?_;refine Vp 74 (ty:=T41) (cs:=[A.i o.1,A.i 2,A.i V]) [((o.1,2),V)] ⟨⟨⟨⟨rfl,a5.1⟩,⟨rfl,(Vd .i64 (2) rfl)⟩⟩,⟨rfl,ak⟩⟩,rfl⟩ (fun av=>?_) Tryz.zeroValue42 Tryz.sizeOf42
    refine Vg (A.mb 15 8191) l2h ?_;refine J8 13 ?_;have⟨hl45,h⟩:=Vq h;refine V1 (k:=38) [] (Uk (k:=74) rfl) inf42 hl45 fun ac ad=>?_;refine Vg (A.mb 15 16383) l2h ?_;refine Vh J3 l2h [0,1,2,3,4,38,64,65,74] [] [] (A.mb 15 32767) 0 [(14,.n)] [(5,.slice ac ((x++[((o.1,2),V)]).length) ad)] (J9 ?_);refine A.ee 1 ?_;exact Vi ⟨(x++[((o.1,2),V)]),ac,ad,rfl,rfl,h⟩
   refine Vy 2 ?_;exact Vi ⟨x,J,c21,rfl,rfl,h⟩
  rintro _ _ ⟨O,X,c9,rfl,rfl,h⟩;rw[F.b2]at h;refine Jv 0 ?_;have⟨ae,h⟩:=Vq h;refine Ub 2 [Z.R64 (y+1)] [(13,A.i (y+1))] ae (Jy ?_);exact Vi ⟨_,Qh _,⟨O,(y+1),X,c9,rfl,rfl,(J2 ae),h⟩⟩
 refine Jv 3 ?_;refine J0 2 [(4,.slice E B.length I)] (Jw 1 ?_);obtain rfl:=J7 h;exact Va [(0,38),(1,0),(2,1),(3,2),(4,3)] ⟨E,I,rfl,rfl⟩
def F.a5 (a:(List D83)):Option ((List D83)):=some a
theorem o_z(a:(List D83))(r:((List D83)))(e:F.a5 a=some r):
    A.Ct Tryz.prog 145 [.slice A0_ a.length c1_] [(0,.sh (.slice T83) [.slice A0_ a.length c1_] a)] [] (fun v H'=>∃(g0':Nat) (A1':Option Addr) (c2':Nat),v=.func (.func 167) #[] #[.pointer (some ⟨g0',0,none⟩)]∧H'=[(0,.blk g0' 22 [.slice A1' r.length c2']),(1,.sh (.slice T83) [.slice A1' r.length c2'] r)]):=by
 refine J1 Tryz.func145 rfl Tryz.ntmps145 rfl fun h k=>?_;rw[F.a5]at e;refine Jv 1 ?_;refine Vc 1 (cs:=[.slice A0_ a.length c1_]) fun f=>?_;refine J0 1 [] (Vb 2 ?_);refine J0 2 [(2,.func (.func 167) #[] #[.pointer (some ⟨f,0,none⟩)])] (Jw 1 ?_);obtain rfl:=J7 e;exact Va [(0,1),(1,0)] ⟨f,A0_,c1_,rfl,rfl⟩
def F.w (e:(List D83)):Nat→Int→Option (List D83)
 |0,_=>none
 |f+1,a=>if a<(e.length:Int)then((A.ix e a).bind fun h=>(A.cns h (A.gd (Z.R64 (a+1)) ((F.w e f) (a+1)))))else(some [])
def F.aL (a:(List D83)):Option (List D83):=F.w a A.FU 0
theorem o_u(o:(List D83))(xs:List D83)(h:F.aL o=some xs):
    A.Sq Tryz.prog 167 [.pointer (some ⟨g0_,0,none⟩)] [(0,.el none g0_ 0 [.slice A1_ o.length c2_]),(1,.sh (.slice T83) [.slice A1_ o.length c2_] o)] T83 (fun cs=>[Z.vof true cs]) xs:=by
 refine A.Sq.enter Tryz.func167 rfl Tryz.ntmps167 rfl fun lid y J Jx Φ hY hJ0=>?_;obtain⟨rs0,hrs⟩: ∃rs0,rs0=xs:=⟨_,rfl⟩
 have hR0:A.Rem xs 0 rs0:=hrs▸A.Rem.zero xs
 rw[F.aL,←hrs]at h
 clear hrs
 refine Jv 1 ?_;refine Jz [] [0] [.e 0 0,.n,.n] [(5,.slice A1_ o.length c2_),(6,A.i (o.length:Int)),(7,A.i 0)] (Jw 2 ?_);refine A.AX.loopC (A.CY 16 Φ) (0,y) [0,5,6] [1] [1] (fun f i z B=>∃(k:Int),∃(rs:List D83),z=[(7,A.i k)]∧B=[]∧A.h6 k∧J i.1 i.2∧A.Rem xs i.1 rs∧F.w o f k=some rs) A.FU [(7,A.i 0)] [] ⟨0,_,rfl,rfl,J5,hJ0,hR0,h⟩ ?_;rintro t ⟨E,L⟩ _ _ ⟨k,rs8,rfl,rfl,N,hJ6,hR7,h⟩;rcases t with _|t
 ·exact Vm h
 rw[F.w]at h;refine Jv 1 ?_;refine J0 1 [(8,.bool (decide (k<(o.length:Int))))] (Jw 2 ?_);refine Vr h ?_ ?_<;>intro O h
 ·refine Jv 5 ?_;have⟨a,I,h⟩:=Vx h;refine V2 1 8 I fun p=>?_;intro s c13 U V;refine Jz [] [8] [.e 0 0] [(10,.agg #[A.i a.1,A.i a.2.1,.slice s a.2.2.1.length c13,A.i a.2.2.2.1.1,A.i a.2.2.2.1.2.1,.string a.2.2.2.1.2.2,.string a.2.2.2.2.1,A.i a.2.2.2.2.2.1,A.i a.2.2.2.2.2.2])] ?_;refine J6 10 (cs:=l2a) Tryz.zeroValue84 fun W=>?_;refine Vu 10 [] [A.i a.1,A.i a.2.1,.slice s a.2.2.1.length c13,A.i a.2.2.2.1.1,A.i a.2.2.2.1.2.1,.string a.2.2.2.1.2.2,.string a.2.2.2.2.1,A.i a.2.2.2.2.2.1,A.i a.2.2.2.2.2.2] ?_;refine Vb 2 ?_;refine Jz [10] [] [.n,.b 0 0] [(11,.func (.yield lid) #[] #[]),(12,.agg #[A.i a.1,A.i a.2.1,.slice s a.2.2.1.length c13,A.i a.2.2.2.1.1,A.i a.2.2.2.1.2.1,.string a.2.2.2.1.2.2,.string a.2.2.2.2.1,A.i a.2.2.2.2.2.1,A.i a.2.2.2.2.2.2])] ?_;obtain⟨rs17,hqrs17,h⟩:=A.cns_some h;refine A.AL.yield hY hJ6 (hqrs17▸hR7) [A.i a.1,A.i a.2.1,.slice s a.2.2.1.length c13,A.i a.2.2.2.1.1,A.i a.2.2.2.1.2.1,.string a.2.2.2.1.2.2,.string a.2.2.2.2.1,A.i a.2.2.2.2.2.1,A.i a.2.2.2.2.2.2] ⟨⟨rfl,p.1⟩,⟨rfl,p.2.1⟩,.inl ⟨9,rfl⟩,⟨⟨rfl,p.2.2.2.1.1⟩,⟨rfl,p.2.2.2.1.2.1⟩,⟨rfl,p.2.2.2.1.2.2⟩⟩,⟨rfl,p.2.2.2.2.1⟩,⟨rfl,p.2.2.2.2.2.1⟩,⟨rfl,p.2.2.2.2.2.2⟩⟩ (fun u hJ19 hR20=>?_) (fun u hX21=>?_)
  ·refine J0 1 [(14,.bool false)] (Jw 1 ?_);refine Ur rfl ?_;refine Jv 3 ?_;have⟨x,h⟩:=Vq h;refine Ub 2 [Z.R64 (k+1)] [(7,A.i (k+1))] x (Jy ?_);exact A.AE.jC (E+1,u) [1] [(7,A.i (k+1))] [] ⟨_,Qh _,⟨(k+1),_,rfl,rfl,(J2 x),hJ19,hR20,h⟩⟩
  refine J0 1 [(14,.bool true)] (Jw 1 ?_);refine Uo rfl ?_;exact A.AX.rtX hY hX21
 refine Vy 1 ?_;obtain rfl:=J7 h;exact A.AE.rtY hY hJ6 hR7
def F.cX (e:(List D39)→Int→Option (List D39))(a:Int)(f:List D39):Option (List D39):=A.gd (Z.R64 (a+1)) (e f (a+1))
def F.a7 (k:(List D39)→Option (List D39))(o:Int)(a:D83):Nat→(List D39)→Int→Option (List D39)
 |0,_,_=>none
 |f+1,h,e=>if e<(a.2.2.1.length:Int)then((A.ix a.2.2.1 e).bind fun p=>(if p=o then(A.gd ((List.length (α:=D39) h+List.length (α:=D39) [(a.1,e)])*16≤140737488355328) (F.cX (F.a7 k o a f) e (h++[(a.1,e)])))else(F.cX (F.a7 k o a f) e h)))else(k h)
def F.a8 (e:Int):List D83→(List D39)→Option (List D39)
 | [],a=>some a
 |h::f,a=>F.a7 (F.a8 e f) e h A.FU a 0
def F.d3 (a:D23)(e:Int):Option (List D39):=(F.a5 a).bind fun f=>((F.aL f).bind fun h=>F.a8 e h [])
theorem o_a2(J:D23)(x:Int)(ag:A.h6 x)(r:(List D39))(h:F.d3 J x=some r):
    A.Ct Tryz.prog 104 [.agg #[.slice A0_ J.length c1_],A.i x] [(0,.sh (.slice T83) [.slice A0_ J.length c1_] J)] [] (fun v H'=>∃(A0':Option Addr) (c1':Nat),v=.slice A0' r.length c1'∧H'=[(0,.own T39 40 A0' c1' r)]):=by
 refine A.Ct.enterM Tryz.func104 rfl Tryz.ntmps104 rfl fun w0 F0=>?_;rw[F.d3]at h;refine Jv 1 ?_;refine Vc 1 (cs:=[.slice A0_ J.length c1_]) fun g1=>?_;refine Vc 2 (cs:=[A.i x]) fun g2=>?_;refine J0 1 [] (Vb 2 ?_);refine J6 3 (cs:=[.slice none 0 0]) Tryz.zeroValue72 fun L=>?_;refine Vb 3 ?_;refine Jz [1] [] [.n,.b 0 0] [(10,.slice A0_ J.length c1_)] ?_;refine Vw 4 [] h (o_z A0_ c1_ J) (.s 0 .nil) ?_;rintro r4 - h _ _ ⟨g6,A7,c8,rfl,rfl⟩;refine Ve ?_;refine Jw 2 ?_;refine V9 61 T39 40 ?_;have⟨U,ab,h⟩:=Vx h;refine A.AX.rgf 62 63 64 [2,4,5] [3,61,2,4,5] [63,62,3,61,2,4,5] (fun k N=>∃(y:List D39),∃(z:Option Addr),∃(B:Nat),N=[(3,.blk L 72 [.slice z y.length B]),(61,.own T39 40 z B y)]∧F.a8 x (List.drop k U) y=some r) [(3,.blk L 72 [.slice none 0 0]),(61,.own T39 40 none 0 [])] cf167 (o_u A7 g6 c8 r4 U ab) (fun _=>rfl) ⟨[],none,0,rfl,h⟩ ?_ ?_ ?_
 ·rintro X _ D25 L26 ⟨y,z,B,rfl,h⟩;exact⟨⟨_,(.b 4 (.s 5 .nil))⟩,rfl,fun o=>rfl⟩
 ·rintro X _ p D25 L26 ah ai ⟨y,z,B,rfl,h⟩ hx35 hxo36 ac;intro a3 a4;rw[A.drop_at hx35,F.a8]at h
  refine Jv 0 ?_;refine J6 79 (cs:=l2a) Tryz.zeroValue84 fun aj=>?_;refine Vu 79 [] [A.i p.1,A.i p.2.1,.slice a3 p.2.2.1.length a4,A.i p.2.2.2.1.1,A.i p.2.2.2.1.2.1,.string p.2.2.2.1.2.2,.string p.2.2.2.2.1,A.i p.2.2.2.2.2.1,A.i p.2.2.2.2.2.2] ?_;refine Jy ?_;refine A.AE.flip 62 63 fun ak=>?_;refine Jv 2 ?_;refine Jz [79] [] [.n,.b 0 2,.n,.n] [(14,.slice a3 p.2.2.1.length a4),(15,A.i (p.2.2.1.length:Int)),(16,A.i 0)] (Jw 2 ?_);refine Vo [3,5,6,14,15] [2,4,5,62,63,64,79] (fun f nl N=>∃(u:List D39),∃(t:Int),∃(E:Option Addr),∃(I:Nat),nl=[(16,A.i t)]∧N=[(3,.blk L 72 [.slice E u.length I]),(61,.own T39 40 E I u)]∧A.h6 t∧F.a7 (F.a8 x (List.drop (X+1) U)) x p f u t=some r) ⟨y,0,z,B,rfl,rfl,J5,h⟩ ?_;rintro a2 _ _ ⟨u,t,E,I,rfl,rfl,ad,h⟩;rcases a2 with _|a2
  ·exact Vm h
  rw[F.a7]at h;refine Jv 1 ?_;refine J0 1 [(17,.bool (decide (t<(p.2.2.1.length:Int))))] (Jw 2 ?_);refine Vr h ?_ ?_<;>intro hb h
  ·refine V3 2 ?_;refine J4 [3,5,6,14,15,16] [2,4,5,62,63,64,79] (fun nl N=>∃(O:List D39),∃(V:Option Addr),∃(W:Nat),nl=[]∧N=[(3,.blk L 72 [.slice V O.length W]),(61,.own T39 40 V W O)]∧F.cX (F.a7 (F.a8 x (List.drop (X+1) U)) x p a2) t O=some r) ?_ ?_
   ·refine Jv 2 ?_;refine J0 1 [(18,A.i t)] ?_;have⟨a5,ae,h⟩:=Vx h;refine V2 64 84 ae fun al=>?_;intro am an;refine Jz [] [84] [.e 0 0,.n,.n] [(7,A.i t),(8,A.i a5)] (Vb 2 ?_);refine Jz [2] [] [.n,.b 0 0,.n] [(23,.bool (decide (a5=x)))] (Jw 1 ?_);refine Vr h ?_ ?_<;>intro hb h
    ·refine Jv 0 ?_;refine Jz [3,79] [] [.b 0 0,.n,.b 1 0,.n,.n] [(24,.slice E u.length I),(28,.agg #[A.i p.1,A.i t])] ?_;refine Vp 85 (ty:=T39) (cs:=[A.i p.1,A.i t]) [(p.1,t)] ⟨⟨⟨rfl,hxo36.1⟩,⟨rfl,ad⟩⟩,rfl⟩ (fun ao=>?_) Tryz.zeroValue40 Tryz.sizeOf40
     have⟨hl59,h⟩:=Vq h;refine V1 (k:=61) [] (Uk (k:=85) rfl) inf40 hl59 fun a6 a9=>?_;refine Vu 3 [] [.slice a6 ((u++[(p.1,t)]).length) a9] ?_;refine Ug 1 ?_;exact Vi ⟨(u++[(p.1,t)]),a6,a9,rfl,rfl,h⟩
    refine Vy 2 ?_;exact Vi ⟨u,E,I,rfl,rfl,h⟩
   rintro _ _ ⟨O,V,W,rfl,rfl,h⟩;rw[F.cX]at h;refine Jv 0 ?_;have⟨aa,h⟩:=Vq h;refine Ub 2 [Z.R64 (t+1)] [(16,A.i (t+1))] aa (Jy ?_);exact Vi ⟨_,Qh _,⟨O,(t+1),V,W,rfl,rfl,(J2 aa),h⟩⟩
  refine Vy 2 ?_;exact A.AE.bn ac [63,62,3,61,2,4,5] 100000 [(63,100063),(62,100062),(3,100003),(61,100061),(2,100002),(4,100004),(5,100005)] [(3,.blk L 72 [.slice E u.length I]),(61,.own T39 40 E I u)] ⟨u,E,I,rfl,h⟩ rfl rfl
 rintro _ D25 L26 ⟨y,z,B,rfl,h⟩;rw[Jq,F.a8]at h
 refine A.el 3 ?_;refine Jz [3] [] [.b 0 0,.n] [(4,.slice z y.length B)] (Jw 1 ?_);obtain rfl:=J7 h;exact A.AX.rtM (Ds:=[D25]) [62] [(0,61)] (.slice z y.length B) (⟨rfl,trivial⟩) (fun a w hf hh=>Uz rfl (Vz hf rfl)) (⟨z,B,rfl,rfl⟩)
def F.eb (e:Int)(f:Int)(h:Int)(a:D44):Option (D44×Int):=if(bif decide (e<f)then true else decide (h<e))=true then(some ((0,0,0,0,(0,0,0,0)),11))else(some ((e,a.2.1,a.2.2.1,a.2.2.2.1,a.2.2.2.2),0))
theorem o_ad (f:Int)(k:Int)(o:Int)(e:D44)(p:A.h6 f)(I:A.h6 k)(J:A.h6 o)(L:A.h6 e.1)(s:A.h6 e.2.1)(t:A.h6 e.2.2.1)(u:A.h6 e.2.2.2.1)(x:A.h6 e.2.2.2.2.1)(y:A.h6 e.2.2.2.2.2.1)(z:A.h6 e.2.2.2.2.2.2.1)(B:A.h6 e.2.2.2.2.2.2.2)(r:D44×Int)(h:F.eb f k o e=some r):
    A.Ct Tryz.prog 74 [A.i f,A.i k,A.i o,(A.raf e)] [] [] (fun v H'=>v=.tuple #[(A.raf r.1),A.i r.2]∧H'=[]∧A.h6 r.1.1∧A.h6 r.1.2.1∧A.h6 r.1.2.2.1∧A.h6 r.1.2.2.2.1∧A.h6 r.1.2.2.2.2.1∧A.h6 r.1.2.2.2.2.2.1∧A.h6 r.1.2.2.2.2.2.2.1∧A.h6 r.1.2.2.2.2.2.2.2∧A.h6 r.2):=by
 refine J1 Tryz.func74 rfl Tryz.ntmps74 rfl fun N O=>?_;rw[F.eb]at h;refine Jv 1 ?_;refine Vc 0 (cs:=(A.rab e)) fun E=>?_;refine J6 1 (cs:=l2c) Tryz.zeroValue45 fun U=>?_;refine J0 1 [] (Vb 3 ?_);refine Jz [] [] [.n,.n,.n,.n,.sy .n,.sy .n,.sy .n,.pk] [(17,.bool (bif decide (f<k)then true else decide (o<f)))] (Jw 1 ?_);refine Ud h ?_ ?_<;>intro V h
 ·refine Jv 1 ?_;refine J0 1 [(18,.agg #[A.i 0,A.i 0,A.i 0,A.i 0,A.i 0,A.i 0,A.i 0,A.i 0])] ?_;refine Vu 1 [] A.zz8 ?_;refine J0 1 [(9,A.i 11)] (Jw 1 ?_);obtain rfl:=J7 h;exact Vv [] (.tuple #[.agg #[A.i 0,A.i 0,A.i 0,A.i 0,A.i 0,A.i 0,A.i 0,A.i 0],A.i 11]) (fun a w hf hh=>V8 rfl (Uf hf rfl Tryz.isAgg45 Tryz.sizeOf45 (Vt hh 1) rfl) (Vz hf rfl)) (⟨rfl,rfl,J5,J5,J5,J5,J5,J5,J5,J5,(Vd .i64 (11) rfl)⟩)
 refine Jv 3 ?_;refine J0 2 [(19,A.i f),(20,.pointer (some ⟨E,0,none⟩))] ?_;refine Un 0 [] (new:=[A.i f]) (cs':=[A.i f,A.i e.2.1,A.i e.2.2.1,A.i e.2.2.2.1,A.i e.2.2.2.2.1,A.i e.2.2.2.2.2.1,A.i e.2.2.2.2.2.2.1,A.i e.2.2.2.2.2.2.2]) ?_;refine Vb 2 ?_;refine Jz [0] [] [.b 0 0] [(21,.agg #[A.i f,A.i e.2.1,A.i e.2.2.1,A.i e.2.2.2.1,A.i e.2.2.2.2.1,A.i e.2.2.2.2.2.1,A.i e.2.2.2.2.2.2.1,A.i e.2.2.2.2.2.2.2])] ?_;refine Vu 1 [] [A.i f,A.i e.2.1,A.i e.2.2.1,A.i e.2.2.2.1,A.i e.2.2.2.2.1,A.i e.2.2.2.2.2.1,A.i e.2.2.2.2.2.2.1,A.i e.2.2.2.2.2.2.2] ?_;refine J0 1 [(9,A.i 0)] (Jw 1 ?_);obtain rfl:=J7 h;exact Vv [] (.tuple #[.agg #[A.i f,A.i e.2.1,A.i e.2.2.1,A.i e.2.2.2.1,A.i e.2.2.2.2.1,A.i e.2.2.2.2.2.1,A.i e.2.2.2.2.2.2.1,A.i e.2.2.2.2.2.2.2],A.i 0]) (fun a w hf hh=>V8 rfl (Uf hf rfl Tryz.isAgg45 Tryz.sizeOf45 (Vt hh 1) rfl) (Vz hf rfl)) (⟨rfl,rfl,p,s,t,u,x,y,z,B,J5⟩)
def F.dn (a:Int):Option (D44×Int):=(F.eb a 0 4 (0,a,0,0,(0,0,0,0))).bind fun e=>(some e)
theorem o_am (e:Int)(k:A.h6 e)(r:D44×Int)(h:F.dn e=some r):
    A.Ct Tryz.prog 39 [A.i e] [] [] (fun v H'=>v=.tuple #[(A.raf r.1),A.i r.2]∧H'=[]∧A.h6 r.1.1∧A.h6 r.1.2.1∧A.h6 r.1.2.2.1∧A.h6 r.1.2.2.2.1∧A.h6 r.1.2.2.2.2.1∧A.h6 r.1.2.2.2.2.2.1∧A.h6 r.1.2.2.2.2.2.2.1∧A.h6 r.1.2.2.2.2.2.2.2∧A.h6 r.2):=by
 refine J1 Tryz.func39 rfl Tryz.ntmps39 rfl fun o p=>?_;rw[F.dn]at h;refine Jv 1 ?_;refine J6 0 (cs:=l2c) Tryz.zeroValue45 fun s=>?_;refine J0 1 [] (Vb 2 ?_);refine J0 3 [(4,A.i e),(6,.agg #[A.i 0,A.i e,A.i 0,A.i 0,A.i 0,A.i 0,A.i 0,A.i 0])] ?_;refine Vw 1 [] h (o_ad e 0 4 (0,e,0,0,(0,0,0,0)) k J5 (Vd .i64 (4) rfl) J5 k J5 J5 J5 J5 J5 J5) .nil ?_;rintro f - h _ _ ⟨rfl,rfl,hr4,hr5,hr6,hr7,hr8,hr9,hr10,hr11,hr12⟩;refine Ve ?_;refine J0 2 [(8,(A.raf f.1)),(9,A.i f.2)] ?_;refine Vu 0 [] (A.rab f.1) ?_;refine J0 1 [(3,A.i f.2)] (Jw 1 ?_);obtain rfl:=J7 h;exact Vv [] (.tuple #[(A.raf f.1),A.i f.2]) (fun a w hf hh=>V8 rfl (Uf hf rfl Tryz.isAgg45 Tryz.sizeOf45 (Vt hh 0) rfl) (Vz hf rfl)) (⟨rfl,rfl,hr4,hr5,hr6,hr7,hr8,hr9,hr10,hr11,hr12⟩)
def F.eC (a:Int):Option (D44×Int):=(F.eb a 1 4 (0,a,1,0,(0,0,0,0))).bind fun e=>(some e)
theorem o_bk (e:Int)(k:A.h6 e)(r:D44×Int)(h:F.eC e=some r):
    A.Ct Tryz.prog 144 [A.i e] [] [] (fun v H'=>v=.tuple #[(A.raf r.1),A.i r.2]∧H'=[]∧A.h6 r.1.1∧A.h6 r.1.2.1∧A.h6 r.1.2.2.1∧A.h6 r.1.2.2.2.1∧A.h6 r.1.2.2.2.2.1∧A.h6 r.1.2.2.2.2.2.1∧A.h6 r.1.2.2.2.2.2.2.1∧A.h6 r.1.2.2.2.2.2.2.2∧A.h6 r.2):=by
 refine J1 Tryz.func144 rfl Tryz.ntmps144 rfl fun o p=>?_;rw[F.eC]at h;refine Jv 1 ?_;refine J6 0 (cs:=l2c) Tryz.zeroValue45 fun s=>?_;refine J0 1 [] (Vb 2 ?_);refine J0 3 [(4,A.i e),(6,.agg #[A.i 0,A.i e,A.i 1,A.i 0,A.i 0,A.i 0,A.i 0,A.i 0])] ?_;refine Vw 1 [] h (o_ad e 1 4 (0,e,1,0,(0,0,0,0)) k (Vd .i64 (1) rfl) (Vd .i64 (4) rfl) J5 k (Vd .i64 (1) rfl) J5 J5 J5 J5 J5) .nil ?_;rintro f - h _ _ ⟨rfl,rfl,hr4,hr5,hr6,hr7,hr8,hr9,hr10,hr11,hr12⟩;refine Ve ?_;refine J0 2 [(8,(A.raf f.1)),(9,A.i f.2)] ?_;refine Vu 0 [] (A.rab f.1) ?_;refine J0 1 [(3,A.i f.2)] (Jw 1 ?_);obtain rfl:=J7 h;exact Vv [] (.tuple #[(A.raf f.1),A.i f.2]) (fun a w hf hh=>V8 rfl (Uf hf rfl Tryz.isAgg45 Tryz.sizeOf45 (Vt hh 0) rfl) (Vz hf rfl)) (⟨rfl,rfl,hr4,hr5,hr6,hr7,hr8,hr9,hr10,hr11,hr12⟩)
def F.eo (a:Int):Option (D44×Int):=(F.eb a 0 3 (0,a,0,1,(0,0,0,0))).bind fun e=>(some e)
theorem o_a7 (e:Int)(k:A.h6 e)(r:D44×Int)(h:F.eo e=some r):
    A.Ct Tryz.prog 142 [A.i e] [] [] (fun v H'=>v=.tuple #[(A.raf r.1),A.i r.2]∧H'=[]∧A.h6 r.1.1∧A.h6 r.1.2.1∧A.h6 r.1.2.2.1∧A.h6 r.1.2.2.2.1∧A.h6 r.1.2.2.2.2.1∧A.h6 r.1.2.2.2.2.2.1∧A.h6 r.1.2.2.2.2.2.2.1∧A.h6 r.1.2.2.2.2.2.2.2∧A.h6 r.2):=by
 refine J1 Tryz.func142 rfl Tryz.ntmps142 rfl fun o p=>?_;rw[F.eo]at h;refine Jv 1 ?_;refine J6 0 (cs:=l2c) Tryz.zeroValue45 fun s=>?_;refine J0 1 [] (Vb 2 ?_);refine J0 3 [(4,A.i e),(6,.agg #[A.i 0,A.i e,A.i 0,A.i 1,A.i 0,A.i 0,A.i 0,A.i 0])] ?_;refine Vw 1 [] h (o_ad e 0 3 (0,e,0,1,(0,0,0,0)) k J5 (Vd .i64 (3) rfl) J5 k J5 (Vd .i64 (1) rfl) J5 J5 J5 J5) .nil ?_;rintro f - h _ _ ⟨rfl,rfl,hr4,hr5,hr6,hr7,hr8,hr9,hr10,hr11,hr12⟩;refine Ve ?_;refine J0 2 [(8,(A.raf f.1)),(9,A.i f.2)] ?_;refine Vu 0 [] (A.rab f.1) ?_;refine J0 1 [(3,A.i f.2)] (Jw 1 ?_);obtain rfl:=J7 h;exact Vv [] (.tuple #[(A.raf f.1),A.i f.2]) (fun a w hf hh=>V8 rfl (Uf hf rfl Tryz.isAgg45 Tryz.sizeOf45 (Vt hh 0) rfl) (Vz hf rfl)) (⟨rfl,rfl,hr4,hr5,hr6,hr7,hr8,hr9,hr10,hr11,hr12⟩)
def F.ep (a:Int):Option (D44×Int):=A.gd (Z.R64 (a-1)) ((F.eb a 1 4 (0,a-1,0,0,(0,0,0,0))).bind fun e=>(some e))
theorem o_a8 (e:Int)(o:A.h6 e)(r:D44×Int)(f:F.ep e=some r):
    A.Ct Tryz.prog 143 [A.i e] [] [] (fun v H'=>v=.tuple #[(A.raf r.1),A.i r.2]∧H'=[]∧A.h6 r.1.1∧A.h6 r.1.2.1∧A.h6 r.1.2.2.1∧A.h6 r.1.2.2.2.1∧A.h6 r.1.2.2.2.2.1∧A.h6 r.1.2.2.2.2.2.1∧A.h6 r.1.2.2.2.2.2.2.1∧A.h6 r.1.2.2.2.2.2.2.2∧A.h6 r.2):=by
 refine J1 Tryz.func143 rfl Tryz.ntmps143 rfl fun p s=>?_;rw[F.ep]at f;refine Jv 1 ?_;refine J6 0 (cs:=l2c) Tryz.zeroValue45 fun t=>?_;refine J0 1 [] (Vb 2 ?_);have⟨k,f⟩:=Vq f;refine Ub 4 [Z.R64 (e-1)] [(4,A.i e),(7,.agg #[A.i 0,A.i (e-1),A.i 0,A.i 0,A.i 0,A.i 0,A.i 0,A.i 0])] k ?_;refine Vw 1 [] f (o_ad e 1 4 (0,e-1,0,0,(0,0,0,0)) o (Vd .i64 (1) rfl) (Vd .i64 (4) rfl) J5 (J2 k) J5 J5 J5 J5 J5 J5) .nil ?_;rintro h - f _ _ ⟨rfl,rfl,hr5,hr6,hr7,hr8,hr9,hr10,hr11,hr12,hr13⟩;refine Ve ?_;refine J0 2 [(9,(A.raf h.1)),(10,A.i h.2)] ?_;refine Vu 0 [] (A.rab h.1) ?_;refine J0 1 [(3,A.i h.2)] (Jw 1 ?_);obtain rfl:=J7 f;exact Vv [] (.tuple #[(A.raf h.1),A.i h.2]) (fun a w hf hh=>V8 rfl (Uf hf rfl Tryz.isAgg45 Tryz.sizeOf45 (Vt hh 0) rfl) (Vz hf rfl)) (⟨rfl,rfl,hr5,hr6,hr7,hr8,hr9,hr10,hr11,hr12,hr13⟩)
def F.bN (a:Int)(e:Int)(f:Int)(h:Int)(k:Int)(o:Int)(p:Int)(s:Int):Option D44:=some (a,e,f,h,(k,o,p,s))
def F.cY (o:D83)(k:Int):Option D44:=if o.2.1=12 then((F.eo k).bind fun a=>(F.bN a.1.1 a.1.2.1 a.1.2.2.1 a.1.2.2.2.1 a.1.2.2.2.2.1 a.1.2.2.2.2.2.1 a.1.2.2.2.2.2.2.1 a.1.2.2.2.2.2.2.2))else(if o.2.1=13 then((F.ep k).bind fun e=>(F.bN e.1.1 e.1.2.1 e.1.2.2.1 e.1.2.2.2.1 e.1.2.2.2.2.1 e.1.2.2.2.2.2.1 e.1.2.2.2.2.2.2.1 e.1.2.2.2.2.2.2.2))else(if o.2.1=14 then((F.eC k).bind fun f=>(F.bN f.1.1 f.1.2.1 f.1.2.2.1 f.1.2.2.2.1 f.1.2.2.2.2.1 f.1.2.2.2.2.2.1 f.1.2.2.2.2.2.2.1 f.1.2.2.2.2.2.2.2))else((F.dn k).bind fun h=>(F.bN h.1.1 h.1.2.1 h.1.2.2.1 h.1.2.2.2.1 h.1.2.2.2.2.1 h.1.2.2.2.2.2.1 h.1.2.2.2.2.2.2.1 h.1.2.2.2.2.2.2.2))))
theorem o_aZ(e:D83)(h:Int)(a7:A.h6 e.1)(a8:A.h6 e.2.1)(a9:A.h6 e.2.2.2.1.1)(aa:A.h6 e.2.2.2.1.2.1)(ab:e.2.2.2.1.2.2.size≤maxLen)(ac:e.2.2.2.2.1.size≤maxLen)(ad:A.h6 e.2.2.2.2.2.1)(ae:A.h6 e.2.2.2.2.2.2)(J:A.h6 h)(r:D44)(f:F.cY e h=some r):
    A.Ct Tryz.prog 103 [.agg #[A.i e.1,A.i e.2.1,.slice A2_ e.2.2.1.length c3_,A.i e.2.2.2.1.1,A.i e.2.2.2.1.2.1,.string e.2.2.2.1.2.2,.string e.2.2.2.2.1,A.i e.2.2.2.2.2.1,A.i e.2.2.2.2.2.2],A.i h] [(0,.sh A.TI [.slice A2_ e.2.2.1.length c3_] e.2.2.1)] [] (fun v H'=>v=(A.raf r)∧H'=[]∧A.h6 r.1∧A.h6 r.2.1∧A.h6 r.2.2.1∧A.h6 r.2.2.2.1∧A.h6 r.2.2.2.2.1∧A.h6 r.2.2.2.2.2.1∧A.h6 r.2.2.2.2.2.2.1∧A.h6 r.2.2.2.2.2.2.2):=by
 refine J1 Tryz.func103 rfl Tryz.ntmps103 rfl fun w0 F0=>?_;rw[F.cY]at f;refine Jv 1 ?_;refine Vc 1 (cs:=[A.i e.1,A.i e.2.1,.slice A2_ e.2.2.1.length c3_,A.i e.2.2.2.1.1,A.i e.2.2.2.1.2.1,.string e.2.2.2.1.2.2,.string e.2.2.2.2.1,A.i e.2.2.2.2.2.1,A.i e.2.2.2.2.2.2]) fun g1=>?_;refine J6 2 (cs:=l2c) Tryz.zeroValue45 fun g2=>?_;refine Vb 2 ?_;refine J6 3 (cs:=l2c) Tryz.zeroValue45 fun N=>?_;refine Jw 1 ?_;refine J4 [4,5] [2] (fun O U=>∃(t:Int),∃(u:Int),∃(x:Int),∃(y:Int),∃(z:Int),∃(B:Int),∃(E:Int),∃(I:Int),O=[]∧U=[(3,.blk N 45 [A.i t,A.i u,A.i x,A.i y,A.i z,A.i B,A.i E,A.i I])]∧A.h6 t∧A.h6 u∧A.h6 x∧A.h6 y∧A.h6 z∧A.h6 B∧A.h6 E∧A.h6 I∧F.bN t u x y z B E I=some r) ?_ ?_
 ·refine Jv 1 ?_;refine Jz [1] [] [.n,.b 0 1] [(7,A.i e.2.1)] (Vb 3 ?_);refine J0 2 [(13,.bool (decide (e.2.1=12)))] (Jw 1 ?_);refine Vr f ?_ ?_<;>intro L f
  ·refine Jv 0 ?_;refine J0 1 [(16,A.i h)] ?_;refine Vw 4 [] f (o_a7 h J) .nil ?_;rintro k - f _ _ ⟨rfl,rfl,hr22,hr23,hr24,hr25,hr26,hr27,hr28,hr29,hr30⟩;refine Ve ?_;refine J0 3 [(18,(A.raf k.1))] ?_;refine Vu 3 [] (A.rab k.1) ?_;refine Ug 1 ?_;exact Vi ⟨k.1.1,k.1.2.1,k.1.2.2.1,k.1.2.2.2.1,k.1.2.2.2.2.1,k.1.2.2.2.2.2.1,k.1.2.2.2.2.2.2.1,k.1.2.2.2.2.2.2.2,rfl,rfl,hr22,hr23,hr24,hr25,hr26,hr27,hr28,hr29,f⟩
  refine Jv 1 ?_;refine J0 2 [(20,.bool (decide (e.2.1=13)))] (Jw 1 ?_);refine Vr f ?_ ?_<;>intro L f
  ·refine Jv 0 ?_;refine J0 1 [(23,A.i h)] ?_;refine Vw 44 [] f (o_a8 h J) .nil ?_;rintro o - f _ _ ⟨rfl,rfl,hr33,hr34,hr35,hr36,hr37,hr38,hr39,hr40,hr41⟩;refine Ve ?_;refine J0 3 [(25,(A.raf o.1))] ?_;refine Vu 3 [] (A.rab o.1) ?_;refine Ug 1 ?_;exact Vi ⟨o.1.1,o.1.2.1,o.1.2.2.1,o.1.2.2.2.1,o.1.2.2.2.2.1,o.1.2.2.2.2.2.1,o.1.2.2.2.2.2.2.1,o.1.2.2.2.2.2.2.2,rfl,rfl,hr33,hr34,hr35,hr36,hr37,hr38,hr39,hr40,f⟩
  refine Jv 1 ?_;refine J0 2 [(27,.bool (decide (e.2.1=14)))] (Jw 1 ?_);refine Vr f ?_ ?_<;>intro L f
  ·refine Jv 0 ?_;refine J0 1 [(30,A.i h)] ?_;refine Vw 84 [] f (o_bk h J) .nil ?_;rintro p - f _ _ ⟨rfl,rfl,hr44,hr45,hr46,hr47,hr48,hr49,hr50,hr51,hr52⟩;refine Ve ?_;refine J0 3 [(32,(A.raf p.1))] ?_;refine Vu 3 [] (A.rab p.1) ?_;refine Ug 1 ?_;exact Vi ⟨p.1.1,p.1.2.1,p.1.2.2.1,p.1.2.2.2.1,p.1.2.2.2.2.1,p.1.2.2.2.2.2.1,p.1.2.2.2.2.2.2.1,p.1.2.2.2.2.2.2.2,rfl,rfl,hr44,hr45,hr46,hr47,hr48,hr49,hr50,hr51,f⟩
  refine Jv 0 ?_;refine J0 1 [(9,A.i h)] ?_;refine Vw 124 [] f (o_am h J) .nil ?_;rintro s - f _ _ ⟨rfl,rfl,hr55,hr56,hr57,hr58,hr59,hr60,hr61,hr62,hr63⟩;refine Ve ?_;refine J0 3 [(11,(A.raf s.1))] ?_;refine Vu 3 [] (A.rab s.1) ?_;refine Ug 1 ?_;exact Vi ⟨s.1.1,s.1.2.1,s.1.2.2.1,s.1.2.2.2.1,s.1.2.2.2.2.1,s.1.2.2.2.2.2.1,s.1.2.2.2.2.2.2.1,s.1.2.2.2.2.2.2.2,rfl,rfl,hr55,hr56,hr57,hr58,hr59,hr60,hr61,hr62,f⟩
 rintro _ _ ⟨t,u,x,y,z,B,E,I,rfl,rfl,V,W,X,a2,a3,a4,a5,a6,f⟩;rw[F.bN]at f;refine Jv 1 ?_;refine Jz [3] [] [.b 0 0] [(34,.agg #[A.i t,A.i u,A.i x,A.i y,A.i z,A.i B,A.i E,A.i I])] ?_;refine Vu 2 [] [A.i t,A.i u,A.i x,A.i y,A.i z,A.i B,A.i E,A.i I] ?_;refine Jw 1 ?_;obtain rfl:=J7 f;exact Vv [] (.agg #[A.i t,A.i u,A.i x,A.i y,A.i z,A.i B,A.i E,A.i I]) (fun a w hf hh=>Uz rfl (Uf hf rfl Tryz.isAgg45 Tryz.sizeOf45 (Vt hh 2) rfl)) (⟨rfl,rfl,V,W,X,a2,a3,a4,a5,a6⟩)
def F.bm (e:(List D53)→Int→Option (List D53))(a:Int)(f:List D53):Option (List D53):=A.gd (Z.R64 (a+1)) (e f (a+1))
def F.aK (z:(List D53)→Int→Option (List D53))(B:Int)(e:D83)(h:Int)(k:Int)(o:Int)(p:Int)(s:Int)(t:Int)(u:Int)(w:Int)(x:(List D39)):Nat→(List D53)→Int→Option (List D53)
 |0,_,_=>none
 |f+1,y,a=>if a<(x.length:Int)then((A.ix x a).bind fun E=>(A.gd ((List.length (α:=D53) y+List.length (α:=D53) [((e.1,2),E,(h,k,o,p,(s,t,u,w)))])*96≤140737488355328) (A.gd (Z.R64 (a+1)) ((F.aK z B e h k o p s t u w x f) (y++[((e.1,2),E,(h,k,o,p,(s,t,u,w)))]) (a+1)))))else(F.bm z B y)
def F.cG (e:(List D53)→Int→Option (List D53))(f:D23)(h:Int)(a:D83)(k:List D53)(o:Int)(p:Int)(s:Int)(t:Int)(u:Int)(w:Int)(x:Int)(y:Int):Option (List D53):=(F.d3 f a.1).bind fun z=>(F.aK e h a o p s t u w x y z A.FU k 0)
def F.aQ (p:(List D53)→Int→Option (List D53))(k:((List (Int×D83))×(List Int)×(List (Int×Int))))(s:D23)(t:Int)(a:D83):Nat→(List D53)→Int→Option (List D53)
 |0,_,_=>none
 |f+1,o,h=>if h<(a.2.2.1.length:Int)then((A.ix a.2.2.1 h).bind fun w=>(A.lt (Z.mget (0:Int) k.2.2 w) fun x=>((F.cY a x).bind fun u=>(A.gd ((List.length (α:=D53) o+List.length (α:=D53) [((a.1,h),(a.1,2),u)])*96≤140737488355328) (A.gd (Z.R64 (h+1)) ((F.aQ p k s t a f) (o++[((a.1,h),(a.1,2),u)]) (h+1)))))))else(A.lt (Z.mget (0:Int) k.2.2 a.1) fun y=>((F.dn y).bind fun e=>(F.cG p s t a o e.1.1 e.1.2.1 e.1.2.2.1 e.1.2.2.2.1 e.1.2.2.2.2.1 e.1.2.2.2.2.2.1 e.1.2.2.2.2.2.2.1 e.1.2.2.2.2.2.2.2)))
def F.ak (h:((List (Int×D83))×(List Int)×(List (Int×Int))))(a:D23):Nat→(List D53)→Int→Option (List D53)
 |0,_,_=>none
 |f+1,k,e=>if e<(a.length:Int)then((A.ix a e).bind fun o=>(if o.2.1=15 then(F.bm (F.ak h a f) e k)else(F.aQ (F.ak h a f) h a e o A.FU k 0)))else(some k)
def F.bb (a:((List (Int×D83))×(List Int)×(List (Int×Int))))(e:D23):Option (List D53):=F.ak a e A.FU [] 0
theorem o_ai(B:((List (Int×D83))×(List Int)×(List (Int×Int))))(x:D23)(r:(List D53))(h:F.bb B x=some r):
    A.Ct Tryz.prog 70 [.pointer (some ⟨g0_,0,none⟩),.agg #[.slice A5_ x.length c6_]] [(0,.blk g0_ 149 [.map (some b1_),.slice A2_ B.2.1.length c3_,.map (some b4_)]),(1,.mp Int (fun i:Int=>A.i i) T83 true b1_ B.1),(2,.own A.ti 3 A2_ c3_ B.2.1),(3,.mp Int (fun i:Int=>A.i i) A.ti false b4_ B.2.2),(4,.sh (.slice T83) [.slice A5_ x.length c6_] x)] ([g0_]++([b1_]++(Z.obl A2_++([b4_]++[])))) (fun v H'=>∃(A0':Option Addr) (c1':Nat),v=.slice A0' r.length c1'∧H'=[(0,.own T53 54 A0' c1' r),(1,.blk g0_ 149 [.map (some b1_),.slice A2_ B.2.1.length c3_,.map (some b4_)]),(2,.mp Int (fun i:Int=>A.i i) T83 true b1_ B.1),(3,.own A.ti 3 A2_ c3_ B.2.1),(4,.mp Int (fun i:Int=>A.i i) A.ti false b4_ B.2.2)]):=by
 refine J1 Tryz.func70 rfl Tryz.ntmps70 rfl fun w0 F0=>?_;rw[F.bb]at h;refine Jv 1 ?_;refine Vc 5 (cs:=[.slice A5_ x.length c6_]) fun g1=>?_;refine J0 1 [] (Vb 2 ?_);refine J0 1 [(5,.slice none 0 0)] (Vb 3 ?_);refine Jz [5] [] [.n,.b 0 0,.n,.n] [(16,.slice A5_ x.length c6_),(17,A.i (x.length:Int)),(18,A.i 0)] (Jw 2 ?_);refine V9 3600 T53 54 ?_;refine Vo [0,3,16,17] l2p (fun f nl nh=>∃(a6:List D53),∃(E:Int),∃(A2:Option Addr),∃(c3:Nat),nl=[(5,.slice A2 a6.length c3),(18,A.i E)]∧nh=[(3600,.own T53 54 A2 c3 a6)]∧A.h6 E∧F.ak B x f a6 E=some r) ⟨[],0,none,0,rfl,rfl,J5,h⟩ ?_;rintro f7 _ _ ⟨a6,E,A2,c3,rfl,rfl,bh,h⟩;rcases f7 with _|f7
 ·exact Vm h
 rw[F.ak]at h;refine Jv 1 ?_;refine J0 1 [(19,.bool (decide (E<(x.length:Int))))] (Jw 2 ?_);refine Vr h ?_ ?_<;>intro hb h
 ·refine V3 2 ?_;refine J4 [0,3,16,17,18] l2p (fun nl nh=>∃(a7:List D53),∃(A8:Option Addr),∃(c9:Nat),nl=[(5,.slice A8 a7.length c9)]∧nh=[(3600,.own T53 54 A8 c9 a7)]∧F.bm (F.ak B x f7) E a7=some r) ?_ ?_
  ·refine Jv 2 ?_;have⟨o,az,h⟩:=Vx h;refine V2 4 6675 az fun I=>?_;intro a8 a9 bi bj;refine Jz [] [6675] [.e 0 0] [(21,.agg #[A.i o.1,A.i o.2.1,.slice a8 o.2.2.1.length a9,A.i o.2.2.2.1.1,A.i o.2.2.2.1.2.1,.string o.2.2.2.1.2.2,.string o.2.2.2.2.1,A.i o.2.2.2.2.2.1,A.i o.2.2.2.2.2.2])] ?_;refine J6 6677 (cs:=l2a) Tryz.zeroValue84 fun bk=>?_;refine Vu 6677 [] [A.i o.1,A.i o.2.1,.slice a8 o.2.2.1.length a9,A.i o.2.2.2.1.1,A.i o.2.2.2.1.2.1,.string o.2.2.2.1.2.2,.string o.2.2.2.2.1,A.i o.2.2.2.2.2.1,A.i o.2.2.2.2.2.2] ?_;refine Vb 3 ?_;refine Jz [6677] [] [.n,.b 0 1,.n] [(24,.bool (decide (o.2.1=15)))] (Jw 1 ?_);refine Vr h ?_ ?_<;>intro hb h
   ·refine Vy 1 ?_;exact Vi ⟨a6,A2,c3,rfl,rfl,h⟩
   refine Jv 3 ?_;refine Jz [6677] [] [.n,.b 0 0,.n] [(27,.agg #[A.i o.1,A.i 2])] ?_;refine J6 6678 (cs:=l2q) Tryz.zeroValue40 fun bl=>?_;refine Vu 6678 [] [A.i o.1,A.i 2] ?_;refine Vb 3 ?_;refine Jz [6677] [] [.n,.b 0 2,.n,.n] [(29,.slice a8 o.2.2.1.length a9),(30,A.i (o.2.2.1.length:Int)),(31,A.i 0)] (Jw 2 ?_);refine Vo [0,3,7,8,16,17,18,29,30] [0,1,2,3,4,5,6676,6677,6678] (fun f nl nh=>∃(a2:List D53),∃(y:Int),∃(aa:Option Addr),∃(c22:Nat),nl=[(5,.slice aa a2.length c22),(31,A.i y)]∧nh=[(3600,.own T53 54 aa c22 a2)]∧A.h6 y∧F.aQ (F.ak B x f7) B x E o f a2 y=some r) ⟨a6,0,A2,c3,rfl,rfl,J5,h⟩ ?_;rintro ai _ _ ⟨a2,y,aa,c22,rfl,rfl,b0,h⟩;rcases ai with _|ai
   ·exact Vm h
   rw[F.aQ]at h;refine Jv 1 ?_;refine J0 1 [(32,.bool (decide (y<(o.2.2.1.length:Int))))] (Jw 2 ?_);refine Vr h ?_ ?_<;>intro hb h
   ·refine Jv 5 ?_;refine J0 1 [(33,A.i y)] ?_;have⟨ad,b1,h⟩:=Vx h;refine V2 6676 7701 b1 fun bp=>?_;intro bq br;refine Jz [] [7701] [.e 0 0,.n,.n] [(9,A.i y),(10,A.i ad)] (Jw 1 ?_);refine Vl mixed 18 18 (A.mb 18 0) ?_;refine Vh J3 [] l2d [6678,6677,0] [] (A.mb 18 4095) 6 [(0,.n),(1,.n),(3,.n),(5,.b 0 0),(6,.b 1 0),(7,.n),(11,.n),(2,.b 1 0),(8,.n),(4,.n),(9,.n),(10,.b 2 2)] [(36,.slice aa a2.length c22),(41,.agg #[A.i o.1,A.i 2]),(42,.agg #[A.i o.1,A.i o.2.1,.slice a8 o.2.2.1.length a9,A.i o.2.2.2.1.1,A.i o.2.2.2.1.2.1,.string o.2.2.2.1.2.2,.string o.2.2.2.2.1,A.i o.2.2.2.2.2.1,A.i o.2.2.2.2.2.2]),(47,A.i ad),(40,.agg #[A.i o.1,A.i y]),(46,.map (some b4_))] ?_;obtain⟨b2,aj,h⟩:=V5 h;refine A.okm (t:=A.ti) 3 ad (z:=(0:Int)) (zs:=l2o) ⟨rfl,by decide⟩ aj fun b3=>?_;refine Vf J3 l2d l2d 12 (A.mb 18 8191) rfl (fun a w hf hh=>A.r_lkf (t:=A.ti) (ok:=false) (z:=(0:Int)) (zs:=l2o) 3 ky3 ad Tryz.zeroValue3 ⟨rfl,by decide⟩ aj rfl hf hh) ?_;refine J8 13 ?_;refine Vw 7702 [] h (o_aZ a8 a9 o b2 I.1 I.2.1 I.2.2.2.1.1 I.2.2.2.1.2.1 I.2.2.2.1.2.2 I.2.2.2.2.1 I.2.2.2.2.2.1 I.2.2.2.2.2.2 b3) (.s 6676 .nil) ?_;rintro u - h _ _ ⟨rfl,rfl,hr37,hr38,hr39,hr40,hr41,hr42,hr43,hr44⟩;refine Ve ?_;refine Vg (A.mb 18 16383) l2d ?_;refine Vh J3 l2d l2d [] [] (A.mb 18 32767) 3 [(14,.n)] [(50,.agg #[A.i o.1,A.i y,A.i o.1,A.i 2,A.i u.1,A.i u.2.1,A.i u.2.2.1,A.i u.2.2.2.1,A.i u.2.2.2.2.1,A.i u.2.2.2.2.2.1,A.i u.2.2.2.2.2.2.1,A.i u.2.2.2.2.2.2.2])] ?_;refine J8 15 ?_;refine Vp 7742 (ty:=T53) (cs:=[A.i o.1,A.i y,A.i o.1,A.i 2,A.i u.1,A.i u.2.1,A.i u.2.2.1,A.i u.2.2.2.1,A.i u.2.2.2.2.1,A.i u.2.2.2.2.2.1,A.i u.2.2.2.2.2.2.1,A.i u.2.2.2.2.2.2.2]) [((o.1,y),(o.1,2),u)] ⟨⟨⟨⟨rfl,I.1⟩,⟨rfl,b0⟩⟩,⟨⟨rfl,I.1⟩,⟨rfl,(Vd .i64 (2) rfl)⟩⟩,⟨⟨rfl,hr37⟩,⟨rfl,hr38⟩,⟨rfl,hr39⟩,⟨rfl,hr40⟩,⟨⟨rfl,hr41⟩,⟨rfl,hr42⟩,⟨rfl,hr43⟩,⟨rfl,hr44⟩⟩⟩⟩,rfl⟩ (fun bs=>?_) Tryz.zeroValue54 Tryz.sizeOf54
    refine Vg (A.mb 18 65535) l2d ?_;refine J8 16 ?_;have⟨hl48,h⟩:=Vq h;refine V1 (k:=3600) [] (Uk (k:=7742) rfl) inf54 hl48 fun al am=>?_;refine Vg (A.mb 18 131071) l2d ?_;refine Vh J3 l2d [0,1,2,3,4,5,3600,6676,6677,6678,7701,7742] [] [] (A.mb 18 262143) 0 [(17,.n)] [(5,.slice al ((a2++[((o.1,y),(o.1,2),u)]).length) am)] (J9 ?_);refine A.el 2 ?_;have⟨an,h⟩:=Vq h;refine Ub 2 [Z.R64 (y+1)] [(31,A.i (y+1))] an (Jy ?_);exact Vi ⟨_,Qh _,⟨(a2++[((o.1,y),(o.1,2),u)]),(y+1),al,am,rfl,rfl,(J2 an),h⟩⟩
   refine V3 2 ?_;refine J4 [0,3,5,7,8,16,17,18] l2b (fun nl nh=>∃(J:Int),∃(L:Int),∃(N:Int),∃(O:Int),∃(U:Int),∃(V:Int),∃(W:Int),∃(X:Int),∃(ae:Nat),nl=[(11,.pointer (some ⟨ae,0,none⟩))]∧nh=[(8073,.blk ae 45 [A.i J,A.i L,A.i N,A.i O,A.i U,A.i V,A.i W,A.i X])]∧A.h6 J∧A.h6 L∧A.h6 N∧A.h6 O∧A.h6 U∧A.h6 V∧A.h6 W∧A.h6 X∧F.cG (F.ak B x f7) x E o a2 J L N O U V W X=some r) ?_ ?_
   ·refine Vl mixed 14 14 (A.mb 14 0) ?_;refine Vh J3 [] l2b [6677,0] [] (A.mb 14 63) 8 [(0,.n),(4,.n),(1,.n),(5,.b 0 0),(2,.n),(3,.b 1 2)] [(60,A.i o.1),(58,.map (some b4_))] ?_;obtain⟨ao,ap,h⟩:=V5 h;refine A.okm (t:=A.ti) 3 o.1 (z:=(0:Int)) (zs:=l2o) ⟨rfl,by decide⟩ ap fun aq=>?_;refine Vf J3 l2b l2b 6 (A.mb 14 127) rfl (fun a w hf hh=>A.r_lkf (t:=A.ti) (ok:=false) (z:=(0:Int)) (zs:=l2o) 3 ky3 o.1 Tryz.zeroValue3 ⟨rfl,by decide⟩ ap rfl hf hh) ?_;refine A.AH.two 7 11 ?_ ?_
    ·refine Vw 7953 [] h (o_am ao aq) .nil ?_;rintro p bt h _ _ ⟨rfl,rfl,hr513,hr514,hr515,hr516,hr517,hr518,hr519,hr520,hr521⟩;refine Ve ?_;refine Vg (A.mb 14 255) l2b ?_;refine Vh J3 l2b l2b [] [] (A.mb 14 2047) 3 [(8,.n),(9,.n),(10,.n)] [(63,(A.raf p.1)),(64,A.i p.2)] ?_;refine J8 11 ?_;refine J6 8073 (cs:=l2c) Tryz.zeroValue45 fun ag=>?_;refine Vg (A.mb 14 4095) l2b ?_;refine J8 12 ?_;refine Vu 8073 [] (A.rab p.1) ?_;refine Vg (A.mb 14 8191) l2b ?_;refine Vh J3 l2b l2m [] [] (A.mb 14 16383) 0 [(13,.n)] [] (J9 ?_);exact Vi ⟨p.1.1,p.1.2.1,p.1.2.2.1,p.1.2.2.2.1,p.1.2.2.2.2.1,p.1.2.2.2.2.2.1,p.1.2.2.2.2.2.2.1,p.1.2.2.2.2.2.2.2,ag,rfl,rfl,hr513,hr514,hr515,hr516,hr517,hr518,hr519,hr520,h⟩
    refine J6 8073 (cs:=l2c) Tryz.zeroValue45 fun ag=>?_;refine Vg (A.mb 14 2175) l2b ?_;refine J8 7 ?_;refine Vw 7953 [] h (o_am ao aq) .nil ?_;rintro p - h _ _ ⟨rfl,rfl,hr513,hr514,hr515,hr516,hr517,hr518,hr519,hr520,hr521⟩;refine Ve ?_;refine Vg (A.mb 14 2303) l2b ?_;refine Vh J3 l2b l2b [] [] (A.mb 14 4095) 2 [(8,.n),(9,.n),(10,.n)] [(63,(A.raf p.1)),(64,A.i p.2)] ?_;refine J8 12 ?_;refine Vu 8073 [] (A.rab p.1) ?_;refine Vg (A.mb 14 8191) l2b ?_;refine Vh J3 l2b l2m [] [] (A.mb 14 16383) 0 [(13,.n)] [] (J9 ?_);exact Vi ⟨p.1.1,p.1.2.1,p.1.2.2.1,p.1.2.2.2.1,p.1.2.2.2.2.1,p.1.2.2.2.2.2.1,p.1.2.2.2.2.2.2.1,p.1.2.2.2.2.2.2.2,ag,rfl,rfl,hr513,hr514,hr515,hr516,hr517,hr518,hr519,hr520,h⟩
   rintro _ _ ⟨J,L,N,O,U,V,W,X,ae,rfl,rfl,b4,b5,b6,b7,b9,bc,bd,be,h⟩;rw[F.cG]at h;refine Jv 1 ?_;refine Jz [5,6677] [] [.b 0 0,.n,.b 1 0] [(65,.agg #[.slice A5_ x.length c6_]),(67,A.i o.1)] ?_;refine Vw 8163 [] h (o_a2 A5_ c6_ x o.1 I.1) (.s 4 .nil) ?_;rintro ah - h _ _ ⟨bu,bv,rfl,rfl⟩;refine Ve ?_;refine J0 2 [(69,A.i (ah.length:Int)),(70,A.i 0)] (Jw 2 ?_);refine Vo [0,3,8,11,16,17,18,68,69] [0,1,2,3,4,5,6678,8073,8163] (fun f nl nh=>∃(a4:List D53),∃(a5:Int),∃(ab:Option Addr),∃(ac:Nat),nl=[(5,.slice ab a4.length ac),(70,A.i a5)]∧nh=[(3600,.own T53 54 ab ac a4)]∧A.h6 a5∧F.aK (F.ak B x f7) E o J L N O U V W X ah f a4 a5=some r) ⟨a2,0,aa,c22,rfl,rfl,J5,h⟩ ?_;rintro ar _ _ ⟨a4,a5,ab,ac,rfl,rfl,bw,h⟩;rcases ar with _|ar
   ·exact Vm h
   rw[F.aK]at h;refine Jv 1 ?_;refine J0 1 [(71,.bool (decide (a5<(ah.length:Int))))] (Jw 2 ?_);refine Vr h ?_ ?_<;>intro hb h
   ·refine Jv 5 ?_;have⟨a3,bg,h⟩:=Vx h;refine Um 8163 8209 bg fun au=>?_;intro bx bz;refine Jz [] [8209] [.e 0 0] [(73,(A.rae a3))] ?_;refine J6 8210 (cs:=l2q) Tryz.zeroValue40 fun c0=>?_;refine Vu 8210 [] (A.raa a3) ?_;refine Vb 1 ?_;refine Jz [6678,8210,8073] [] [.n,.b 0 0,.b 1 0,.b 2 0,.n] [(74,.slice ab a4.length ac),(78,.agg #[A.i o.1,A.i 2,A.i a3.1,A.i a3.2,A.i J,A.i L,A.i N,A.i O,A.i U,A.i V,A.i W,A.i X])] ?_;refine Vp 8211 (ty:=T53) (cs:=[A.i o.1,A.i 2,A.i a3.1,A.i a3.2,A.i J,A.i L,A.i N,A.i O,A.i U,A.i V,A.i W,A.i X]) [((o.1,2),a3,(J,L,N,O,(U,V,W,X)))] ⟨⟨⟨⟨rfl,I.1⟩,⟨rfl,(Vd .i64 (2) rfl)⟩⟩,⟨⟨rfl,au.1⟩,⟨rfl,au.2⟩⟩,⟨⟨rfl,b4⟩,⟨rfl,b5⟩,⟨rfl,b6⟩,⟨rfl,b7⟩,⟨⟨rfl,b9⟩,⟨rfl,bc⟩,⟨rfl,bd⟩,⟨rfl,be⟩⟩⟩⟩,rfl⟩ (fun c1=>?_) Tryz.zeroValue54 Tryz.sizeOf54
    have⟨hl86,h⟩:=Vq h;refine V1 (k:=3600) [] (Uk (k:=8211) rfl) inf54 hl86 fun av aw=>?_;refine J0 1 [(5,.slice av ((a4++[((o.1,2),a3,(J,L,N,O,(U,V,W,X)))]).length) aw)] (Vb 2 ?_);have⟨ax,h⟩:=Vq h;refine Ub 2 [Z.R64 (a5+1)] [(70,A.i (a5+1))] ax (Jy ?_);exact Vi ⟨_,Qh _,⟨(a4++[((o.1,2),a3,(J,L,N,O,(U,V,W,X)))]),(a5+1),av,aw,rfl,rfl,(J2 ax),h⟩⟩
   refine Vy 2 ?_;exact Vi ⟨a4,ab,ac,rfl,rfl,h⟩
  rintro _ _ ⟨a7,A8,c9,rfl,rfl,h⟩;rw[F.bm]at h;refine Jv 0 ?_;have⟨ay,h⟩:=Vq h;refine Ub 2 [Z.R64 (E+1)] [(18,A.i (E+1))] ay (Jy ?_);exact Vi ⟨_,Qh _,⟨a7,(E+1),A8,c9,rfl,rfl,(J2 ay),h⟩⟩
 refine Jv 3 ?_;refine J0 2 [(4,.slice A2 a6.length c3)] (Jw 1 ?_);obtain rfl:=J7 h;exact Va [(0,3600),(1,0),(2,1),(3,2),(4,3)] ⟨A2,c3,rfl,rfl⟩
def F.bE (e:(List (D39×Bool))→(List D39)→Int→Option Bool)(a:Int)(f:List (D39×Bool))(h:List D39):Option Bool:=A.gd (Z.R64 (a+1)) (e f h (a+1))
def F.bF (f:(List (D39×Bool))→(List D39)→Int→Option Bool)(h:List (D39×Bool))(a:List D39)(k:Int)(e:D39)(o:Bool):Option Bool:=if o=true then(A.gd ((List.length (α:=D39) a+List.length (α:=D39) [e])*16≤140737488355328) (F.bE f k (Z.mins h e true) (a++[e])))else(F.bE f k h a)
def F.af (o:(List (D39×Bool))→(List D39)→Option Bool)(p:(List (D39×Int)))(s:D39)(t:Int)(e:(List D39)):Nat→(List (D39×Bool))→(List D39)→Int→Option Bool
 |0,_,_,_=>none
 |f+1,h,u,k=>if k<(e.length:Int)then((A.ix e k).bind fun a=>(if a=s then(some true)else(A.lt (Z.mget (0:Int) p a) fun w=>(if t≤w then(A.lt (Z.mget (false:Bool) h a) fun x=>(F.bF (F.af o p s t e f) h u k a (!x)))else(F.bF (F.af o p s t e f) h u k a false)))))else(o h u)
def F.cl (e:(List (D39×Bool))→(List D39)→Option Bool)(k:(List (D39×(List D39))))(o:(List (D39×Int)))(p:D39)(f:Int)(h:List (D39×Bool))(a:List D39)(s:D39)(x:List Int)(y:Int)(t:Int)(z:Int)(B:Int)(E:ByteArray)(I:ByteArray)(J:Int)(u:Int):Option Bool:=if(bif decide (t=14)then decide (u=f)else false)=true then(e h (List.take (((a.length:Int)-1).toNat) a))else(A.lt (Z.mget ([]:(List D39)) k s) fun w=>(F.af e o p f w A.FU h (List.take (((a.length:Int)-1).toNat) a) 0))
def F.ag (h:((List (Int×D83))×(List Int)×(List (Int×Int))))(k:(List (D39×(List D39))))(o:(List (D39×Int)))(p:D39)(s:Int):Nat→(List (D39×Bool))→(List D39)→Option Bool
 |0,_,_=>none
 |f+1,u,a=>if(0:Int)<(a.length:Int)then(A.gd (Z.R64 ((a.length:Int)-1)) ((A.ix a ((a.length:Int)-1)).bind fun t=>(A.gd (Z.R64 ((a.length:Int)-1)) (A.gd (0≤(a.length:Int)-1∧((a.length:Int)-1).toNat≤a.length) (A.lt (Z.mget ((0,0,[],(0,0,(ByteArray.mk #[])),(ByteArray.mk #[]),0,0):D83) h.1 t.1) fun e=>(F.cl (F.ag h k o p s f) k o p s u a t e.2.2.1 e.1 e.2.1 e.2.2.2.1.1 e.2.2.2.1.2.1 e.2.2.2.1.2.2 e.2.2.2.2.1 e.2.2.2.2.2.1 e.2.2.2.2.2.2))))))else(some false)
def F.bc (e:((List (Int×D83))×(List Int)×(List (Int×Int))))(f:(List (D39×(List D39))))(h:(List (D39×Int)))(a:D39)(k:Int):Option Bool:=F.ag e f h a k A.FU [] [a]
theorem o_ar(I:((List (Int×D83))×(List Int)×(List (Int×Int))))(W:(List (D39×(List D39))))(L:(List (D39×Int)))(p:D39)(J:Int)(b6:A.h6 p.1)(b7:A.h6 p.2)(bk:A.h6 J)(r:Bool)(h:F.bc I W L p J=some r):
    A.Ct Tryz.prog 141 [.pointer (some ⟨g0_,0,none⟩),.map (some b5_),.map (some b6_),(A.rae p),A.i J] [(0,.blk g0_ 149 [.map (some b1_),.slice A2_ I.2.1.length c3_,.map (some b4_)]),(1,.mp Int (fun i:Int=>A.i i) T83 true b1_ I.1),(2,.own A.ti 3 A2_ c3_ I.2.1),(3,.mp Int (fun i:Int=>A.i i) A.ti false b4_ I.2.2),(4,.lmp D39 (fun x:D39=>(A.rae x)) (Z.Ty.slice T39) false b5_ W),(5,.lmp D39 (fun x:D39=>(A.rae x)) A.ti false b6_ L)] ([g0_]++([b1_]++(Z.obl A2_++([b4_]++[])))) (fun v H'=>v=.bool r∧H'=[(0,.blk g0_ 149 [.map (some b1_),.slice A2_ I.2.1.length c3_,.map (some b4_)]),(1,.mp Int (fun i:Int=>A.i i) T83 true b1_ I.1),(2,.own A.ti 3 A2_ c3_ I.2.1),(3,.mp Int (fun i:Int=>A.i i) A.ti false b4_ I.2.2)]):=by
 refine J1 Tryz.func141 rfl Tryz.ntmps141 rfl fun w0 F0=>?_;rw[F.bc]at h;refine Jv 1 ?_;refine Vc 6 (cs:=(A.raa p)) fun g1=>?_;refine J0 1 [] (Vb 2 ?_);refine A.AL.mkm 7 D39 (fun x:D39=>(A.rae x)) Z.Ty.bool false fun b2=>?_;refine J0 1 [(11,.map (some b2))] (Vb 2 ?_);refine Jz [6] [] [.b 0 0] [(18,(A.rae p))] ?_;refine Vp 8 (ty:=T39) (cs:=(A.raa p)) [p] ⟨⟨⟨rfl,b6⟩,⟨rfl,b7⟩⟩,rfl⟩ (fun g3=>?_) Tryz.zeroValue40 Tryz.sizeOf40
 refine J0 1 [(12,.slice (some ⟨g3,0,none⟩) 1 1)] (Jw 3 ?_);refine Vo [0,1,2,4,8,11] l2e (fun f U V=>∃(m4:List (D39×Bool)),∃(s:List D39),∃(X:Option Addr),∃(c6:Nat),U=[(12,.slice X s.length c6)]∧V=[(7,.mp D39 (fun x:D39=>(A.rae x)) Z.Ty.bool false b2 m4),(8,.own T39 40 X c6 s)]∧F.ag I W L p J f m4 s=some r) ⟨[],[p],(some ⟨g3,0,none⟩),1,rfl,rfl,h⟩ ?_;rintro f8 _ _ ⟨m4,s,X,c6,rfl,rfl,h⟩;rcases f8 with _|f8
 ·exact Vm h
 rw[F.ag]at h;refine Jv 2 ?_;refine J0 3 [(22,.bool (decide ((0:Int)<(s.length:Int))))] (Jw 1 ?_);refine Vr h ?_ ?_<;>intro hb h
 ·refine Jv 4 ?_;have⟨b9,h⟩:=Vq h;refine Ub 4 [Z.R64 ((s.length:Int)-1)] [(23,.slice X s.length c6),(26,A.i ((s.length:Int)-1))] b9 ?_;have⟨a5,bb,h⟩:=Vx h;refine Um 8 587 bb fun bl=>?_;intro bm bp;refine Jz [] [587] [.e 0 0] [(28,(A.rae a5))] ?_;refine J6 588 (cs:=l2q) Tryz.zeroValue40 fun bq=>?_;refine Vu 588 [] (A.raa a5) ?_;refine Vb 2 ?_;have⟨bd,h⟩:=Vq h;refine Ub 4 [Z.R64 ((s.length:Int)-1)] [(29,.slice X s.length c6),(32,A.i ((s.length:Int)-1))] bd ?_;have⟨az,h⟩:=Vq h;refine A.AL.cuto 8 [587] (v:=((s.length:Int)-1).toNat) (Ww az.1).symm az.2 ?_;refine J0 1 [(12,.slice X ((List.take (((s.length:Int)-1).toNat) s).length) c6)] (Jw 2 ?_);refine J4 [0,1,2,4,8,11,12,13] l2i (fun U V=>∃(a9:List Int),∃(ai:Int),∃(aa:Int),∃(aj:Int),∃(ak:Int),∃(al:ByteArray),∃(am:ByteArray),∃(an:Int),∃(ab:Int),∃(au:Option Addr),∃(c21:Nat),∃(av:Nat),U=[(14,.pointer (some ⟨av,0,none⟩))]∧V=[(770,.sh A.TI [.slice au a9.length c21] a9),(800,.blk av 84 [A.i ai,A.i aa,.slice au a9.length c21,A.i aj,A.i ak,.string al,.string am,A.i an,A.i ab])]∧A.h6 ai∧A.h6 aa∧A.h6 aj∧A.h6 ak∧al.size≤maxLen∧am.size≤maxLen∧A.h6 an∧A.h6 ab∧F.cl (F.ag I W L p J f8) W L p J m4 s a5 a9 ai aa aj ak al am an ab=some r) ?_ ?_
  ·refine Vl mixed 8 9 (A.mb 9 0) ?_;refine Vh J3 [] l2i [588,0] [] (A.mb 9 63) 3 [(0,.n),(4,.n),(1,.n),(5,.b 0 0),(2,.n),(3,.b 1 0)] [(39,A.i a5.1),(37,.map (some b1_))] ?_;refine A.AH.two 6 7 ?_ ?_
   ·obtain⟨o,aw,h⟩:=V5 h;refine Ux (t:=T83) 1 770 (z:=((0,0,[],(0,0,(ByteArray.mk #[])),(ByteArray.mk #[]),0,0):D83)) (zs:=l2a) ky3 a5.1 Tryz.zeroValue84 ⟨⟨rfl,by decide⟩,⟨rfl,by decide⟩,(.inr ⟨rfl,rfl⟩),⟨⟨rfl,by decide⟩,⟨rfl,by decide⟩,⟨rfl,by decide⟩⟩,⟨rfl,by decide⟩,⟨rfl,by decide⟩,⟨rfl,by decide⟩⟩ aw fun B=>?_;intro ac ad;refine Vg (A.mb 9 127) l2i ?_;refine J8 7 ?_;refine J6 800 (cs:=l2a) Tryz.zeroValue84 fun ax=>?_;refine Vg (A.mb 9 255) l2i ?_;refine J8 8 ?_;refine Vu 800 [] [A.i o.1,A.i o.2.1,.slice ac o.2.2.1.length ad,A.i o.2.2.2.1.1,A.i o.2.2.2.1.2.1,.string o.2.2.2.1.2.2,.string o.2.2.2.2.1,A.i o.2.2.2.2.2.1,A.i o.2.2.2.2.2.2] ?_;refine Ut (A.mb 9 511) ?_;refine J9 ?_;exact Vi ⟨o.2.2.1,o.1,o.2.1,o.2.2.2.1.1,o.2.2.2.1.2.1,o.2.2.2.1.2.2,o.2.2.2.2.1,o.2.2.2.2.2.1,o.2.2.2.2.2.2,ac,ad,ax,rfl,rfl,B.1,B.2.1,B.2.2.2.1.1,B.2.2.2.1.2.1,B.2.2.2.1.2.2,B.2.2.2.2.1,B.2.2.2.2.2.1,B.2.2.2.2.2.2,h⟩
   refine J6 800 (cs:=l2a) Tryz.zeroValue84 fun ax=>?_;refine Vg (A.mb 9 191) l2i ?_;refine J8 6 ?_;obtain⟨o,aw,h⟩:=V5 h;refine Ux (t:=T83) 1 770 (z:=((0,0,[],(0,0,(ByteArray.mk #[])),(ByteArray.mk #[]),0,0):D83)) (zs:=l2a) ky3 a5.1 Tryz.zeroValue84 ⟨⟨rfl,by decide⟩,⟨rfl,by decide⟩,(.inr ⟨rfl,rfl⟩),⟨⟨rfl,by decide⟩,⟨rfl,by decide⟩,⟨rfl,by decide⟩⟩,⟨rfl,by decide⟩,⟨rfl,by decide⟩,⟨rfl,by decide⟩⟩ aw fun B=>?_;intro ac ad;refine Vg (A.mb 9 255) l2i ?_;refine J8 8 ?_;refine Vu 800 [] [A.i o.1,A.i o.2.1,.slice ac o.2.2.1.length ad,A.i o.2.2.2.1.1,A.i o.2.2.2.1.2.1,.string o.2.2.2.1.2.2,.string o.2.2.2.2.1,A.i o.2.2.2.2.2.1,A.i o.2.2.2.2.2.2] ?_;refine Ut (A.mb 9 511) ?_;refine J9 ?_;exact Vi ⟨o.2.2.1,o.1,o.2.1,o.2.2.2.1.1,o.2.2.2.1.2.1,o.2.2.2.1.2.2,o.2.2.2.2.1,o.2.2.2.2.2.1,o.2.2.2.2.2.2,ac,ad,ax,rfl,rfl,B.1,B.2.1,B.2.2.2.1.1,B.2.2.2.1.2.1,B.2.2.2.1.2.2,B.2.2.2.2.1,B.2.2.2.2.2.1,B.2.2.2.2.2.2,h⟩
  rintro _ _ ⟨a9,ai,aa,aj,ak,al,am,an,ab,au,c21,av,rfl,rfl,br,bs,bt,bu,bv,bw,bx,bz,h⟩;rw[F.cl]at h;refine Jv 1 ?_;refine Jz [800] [] [.n,.b 0 1,.n,.n,.sy .n,.sy (.b 0 8),.sy .n,.sy .n,.pk] [(49,.bool (bif decide (aa=14)then decide (ab=J)else false))] (Jw 1 ?_);refine Ud h ?_ ?_<;>intro hb h
  ·refine Vy 1 ?_;exact Vi ⟨_,Qh _,⟨m4,(List.take (((s.length:Int)-1).toNat) s),X,c6,rfl,rfl,h⟩⟩
  refine Jv 3 ?_;refine Jz [588] [] [.n,.b 0 0] [(50,.map (some b5_)),(51,(A.rae a5))] ?_;obtain⟨ae,be,h⟩:=V5 h;refine Ux (t:=(Z.Ty.slice T39)) 4 860 (z:=([]:(List D39))) (zs:=[.slice none 0 0]) ky40 a5 Tryz.zeroValue72 (.inr ⟨rfl,rfl⟩) be fun c0=>?_;intro c1 c2;refine J0 2 [(53,A.i (ae.length:Int)),(54,A.i 0)] (Jw 2 ?_);refine Vo [0,1,2,4,8,11,52,53] [0,1,2,3,4,5,6,860] (fun f U V=>∃(a6:List (D39×Bool)),∃(N:List D39),∃(O:Int),∃(a7:Option Addr),∃(a8:Nat),U=[(12,.slice a7 N.length a8),(54,A.i O)]∧V=[(7,.mp D39 (fun x:D39=>(A.rae x)) Z.Ty.bool false b2 a6),(8,.own T39 40 a7 a8 N)]∧A.h6 O∧F.af (F.ag I W L p J f8) L p J ae f a6 N O=some r) ⟨m4,(List.take (((s.length:Int)-1).toNat) s),0,X,c6,rfl,rfl,J5,h⟩ ?_;rintro ao _ _ ⟨a6,N,O,a7,a8,rfl,rfl,c3,h⟩;rcases ao with _|ao
  ·exact Vm h
  rw[F.af]at h;refine Jv 1 ?_;refine J0 1 [(55,.bool (decide (O<(ae.length:Int))))] (Jw 2 ?_);refine Vr h ?_ ?_<;>intro hb h
  ·refine V3 2 ?_;refine J4 [0,1,2,4,8,11,52,53,54] [0,1,2,3,4,5,6,860] (fun U V=>∃(ap:List (D39×Bool)),∃(ah:List D39),∃(aq:Option Addr),∃(ar:Nat),U=[(12,.slice aq ah.length ar)]∧V=[(7,.mp D39 (fun x:D39=>(A.rae x)) Z.Ty.bool false b2 ap),(8,.own T39 40 aq ar ah)]∧F.bE (F.af (F.ag I W L p J f8) L p J ae ao) O ap ah=some r) ?_ ?_
   ·refine Jv 2 ?_;have⟨E,bg,h⟩:=Vx h;refine V2 860 871 bg fun b0=>?_;intro c4 c5;refine Jz [] [871] [.e 0 0] [(57,(A.rae E))] ?_;refine J6 872 (cs:=l2q) Tryz.zeroValue40 fun c7=>?_;refine Vu 872 [] (A.raa E) ?_;refine Vb 3 ?_;refine Jz [872,6] [] [.b 0 0,.b 1 0] [(58,(A.rae E)),(59,(A.rae p))] ?_;refine Uc rfl (fun a w hf hh=>eqagg_eql40 (x:=E) (y:=p) (hf.eval rfl) (hf.eval rfl)) ?_;refine Jw 1 ?_;refine Vr h ?_ ?_<;>intro hb h
    ·refine Jv 1 ?_;refine J0 1 [(10,.bool true)] (Jw 1 ?_);obtain rfl:=J7 h;exact Va [(0,0),(1,1),(2,2),(3,3)] ⟨rfl,rfl⟩
    refine V3 2 ?_;refine J4 [0,1,2,4,8,11,12,16,52,53,54] [0,1,2,3,4,5,6,7,8,860,872] (fun U V=>∃(ay:Bool),U=[(71,.bool ay)]∧V=[]∧F.bF (F.af (F.ag I W L p J f8) L p J ae ao) a6 N O E ay=some r) ?_ ?_
    ·refine Jv 0 ?_;refine Jz [872] [] [.n,.b 0 0] [(61,.map (some b6_)),(62,(A.rae E))] ?_;obtain⟨bh,bi,h⟩:=V5 h;refine Ux (t:=A.ti) 5 873 (z:=(0:Int)) (zs:=l2o) ky40 E Tryz.zeroValue3 ⟨rfl,by decide⟩ bi fun c8=>?_;refine J0 3 [(66,.bool (decide (J≤bh)))] ?_;refine V6 (j:=66) rfl h ?_ ?_<;>intro hb h
     ·refine Jz [872] [] [.on .n,.on (.b 0 0)] [(67,.map (some b2)),(68,(A.rae E))] ?_;refine Vk (dj:=66) rfl rfl ?_;obtain⟨b1,bj,h⟩:=V5 h;refine Ux (t:=Z.Ty.bool) 7 874 (z:=(false:Bool)) (zs:=[.bool false]) ky40 E Tryz.zeroValue4 rfl bj fun c9=>?_;refine Jz [] [] [.on .n,.n] [(71,.bool (!b1))] (Jy ?_);exact Vi ⟨(!b1),rfl,rfl,h⟩
     refine Jz [] [] [.off,.off,.off,.off,.n] [(71,.bool false)] (Jy ?_);exact Vi ⟨false,rfl,rfl,h⟩
    rintro _ _ ⟨ay,rfl,rfl,h⟩;rw[F.bF]at h;refine Ud h ?_ ?_<;>intro hb h
    ·refine Jv 1 ?_;refine Jz [872] [] [.n,.b 0 0] [(72,.map (some b2)),(73,(A.rae E))] ?_;refine A.AL.mup (t:=Z.Ty.bool) 7 [] (cs:=[.bool true]) (u:=true) ky40 E rfl ?_;refine Vb 1 ?_;refine Jz [872] [] [.n,.b 0 0] [(74,.slice a7 N.length a8),(75,(A.rae E))] ?_;refine Vp 875 (ty:=T39) (cs:=(A.raa E)) [E] ⟨⟨⟨rfl,b0.1⟩,⟨rfl,b0.2⟩⟩,rfl⟩ (fun ca=>?_) Tryz.zeroValue40 Tryz.sizeOf40
     have⟨hl68,h⟩:=Vq h;refine V1 (k:=8) [] (Uk (k:=875) rfl) inf40 hl68 fun b3 b4=>?_;refine J0 1 [(12,.slice b3 ((N++[E]).length) b4)] (Ug 1 ?_);exact Vi ⟨(Z.mins a6 E true),(N++[E]),b3,b4,rfl,rfl,h⟩
    refine Vy 2 ?_;exact Vi ⟨a6,N,a7,a8,rfl,rfl,h⟩
   rintro _ _ ⟨ap,ah,aq,ar,rfl,rfl,h⟩;rw[F.bE]at h;refine Jv 0 ?_;have⟨b5,h⟩:=Vq h;refine Ub 2 [Z.R64 (O+1)] [(54,A.i (O+1))] b5 (Jy ?_);exact Vi ⟨_,Qh _,⟨ap,ah,(O+1),aq,ar,rfl,rfl,(J2 b5),h⟩⟩
  refine Vy 2 ?_;exact Vi ⟨_,Qh _,⟨a6,N,a7,a8,rfl,rfl,h⟩⟩
 refine Jv 3 ?_;refine J0 1 [(10,.bool false)] (Jw 1 ?_);obtain rfl:=J7 h;exact Va [(0,0),(1,1),(2,2),(3,3)] ⟨rfl,rfl⟩
def F.a9 (e:((List (Int×D83))×(List Int)×(List (Int×Int))))(f:List (D39×Int))(h:List (D39×(List D39)))(a:D39×Int):Option (Option Bool):=A.gd (decide (A.h6 a.1.1)=true∧decide (A.h6 a.1.2)=true) ((F.bc e h f a.1 a.2).bind fun k=>(if k=true then(some (some true))else(some none)))
def F.aF (p:((List (Int×D83))×(List Int)×(List (Int×Int))))(k:List (D39×Int))(o:(List D53)):Nat→(List (D39×(List D39)))→Int→Option Bool
 |0,_,_=>none
 |f+1,e,h=>if h<(o.length:Int)then((A.ix o h).bind fun a=>(A.gd (((Z.mget ([]:List D39) e a.1).length+List.length (α:=D39) [a.2.1])*16≤140737488355328) (A.gd (Z.R64 (h+1)) ((F.aF p k o f) (Z.mins e a.1 (Z.mget ([]:List D39) e a.1++[a.2.1])) (h+1)))))else(A.mrg (F.a9 p k e) (some false) k)
def F.aR (e:((List (Int×D83))×(List Int)×(List (Int×Int))))(k:D23)(h:(List D41)):Nat→(List (D39×Int))→Int→Option Bool
 |0,_,_=>none
 |f+1,o,a=>if a<(h.length:Int)then((A.ix h a).bind fun p=>(A.gd (Z.R64 (a+1)) ((F.aR e k h f) (Z.mins o p.1 p.2) (a+1))))else((F.bb e k).bind fun s=>(F.aF e o s A.FU [] 0))
def F.b4 (a:((List (Int×D83))×(List Int)×(List (Int×Int))))(e:D23):Option Bool:=(F.bB a e).bind fun f=>(F.aR a e f A.FU [] 0)
theorem o_aE(k:((List (Int×D83))×(List Int)×(List (Int×Int))))(z:D23)(r:Bool)(a:F.b4 k z=some r):
    A.Ct Tryz.prog 102 [.pointer (some ⟨g0_,0,none⟩),.agg #[.slice A5_ z.length c6_]] [(0,.blk g0_ 149 [.map (some b1_),.slice A2_ k.2.1.length c3_,.map (some b4_)]),(1,.mp Int (fun i:Int=>A.i i) T83 true b1_ k.1),(2,.own A.ti 3 A2_ c3_ k.2.1),(3,.mp Int (fun i:Int=>A.i i) A.ti false b4_ k.2.2),(4,.sh (.slice T83) [.slice A5_ z.length c6_] z)] ([g0_]++([b1_]++(Z.obl A2_++([b4_]++[])))) (fun v H'=>v=.bool r∧H'=[(0,.blk g0_ 149 [.map (some b1_),.slice A2_ k.2.1.length c3_,.map (some b4_)]),(1,.mp Int (fun i:Int=>A.i i) T83 true b1_ k.1),(2,.own A.ti 3 A2_ c3_ k.2.1),(3,.mp Int (fun i:Int=>A.i i) A.ti false b4_ k.2.2)]):=by
 refine J1 Tryz.func102 rfl Tryz.ntmps102 rfl fun w0 F0=>?_;rw[F.b4]at a;refine Jv 1 ?_;refine Vc 5 (cs:=[.slice A5_ z.length c6_]) fun g1=>?_;refine J0 1 [] (Vb 2 ?_);refine A.AL.mkm 6 D39 (fun x:D39=>(A.rae x)) A.ti false fun B=>?_;refine J0 1 [(5,.map (some B))] (Vb 3 ?_);refine Jz [5] [] [.n,.b 0 0] [(14,.pointer (some ⟨g0_,0,none⟩)),(15,.agg #[.slice A5_ z.length c6_])] ?_;refine Vw 7 [] a (o_ah A2_ A5_ g0_ b1_ c3_ b4_ c6_ k z) (.m 0 (.m 1 (.m 2 (.m 3 (.s 4 .nil))))) ?_;rintro V - a _ _ ⟨A5,c6,rfl,rfl⟩;refine Ve ?_;refine V7 8 0 [] ?_;refine V7 9 1 [] ?_;refine V7 10 2 [] ?_;refine V7 11 3 [] ?_;refine J0 2 [(17,A.i (V.length:Int)),(18,A.i 0)] (Jw 2 ?_);refine Vo [0,3,5,16,17] [0,1,2,3,4,5,7] (fun f N O=>∃(o:List (D39×Int)),∃(I:Int),N=[(18,A.i I)]∧O=[(6,.mp D39 (fun x:D39=>(A.rae x)) A.ti false B o)]∧A.h6 I∧F.aR k z V f o I=some r) ⟨[],0,rfl,rfl,J5,a⟩ ?_;rintro a2 _ _ ⟨o,I,rfl,rfl,ah,a⟩;rcases a2 with _|a2
 ·exact Vm a
 rw[F.aR]at a;refine Jv 1 ?_;refine J0 1 [(19,.bool (decide (I<(V.length:Int))))] (Jw 2 ?_);refine Vr a ?_ ?_<;>intro hb a
 ·refine Jv 5 ?_;have⟨E,a7,a⟩:=Vx a;refine Um 7 409 a7 fun a8=>?_;intro ai aj;refine Jz [] [409] [.e 0 0] [(21,(A.rag E))] ?_;refine J6 410 (cs:=[A.i 0,A.i 0,A.i 0]) Tryz.zeroValue42 fun ak=>?_;refine Vu 410 [] (A.rac E) ?_;refine Vb 1 ?_;refine Jz [410] [] [.n,.n,.b 0 0,.n,.b 0 2] [(22,.map (some B)),(24,(A.rae E.1)),(26,A.i E.2)] ?_;refine A.AL.mup (t:=A.ti) 6 [] (cs:=[A.i E.2]) (u:=E.2) ky40 E.1 ⟨rfl,a8.2⟩ ?_;refine Vb 2 ?_;have⟨a3,a⟩:=Vq a;refine Ub 2 [Z.R64 (I+1)] [(18,A.i (I+1))] a3 (Jy ?_);exact Vi ⟨_,Qh _,⟨(Z.mins o E.1 E.2),(I+1),rfl,rfl,(J2 a3),a⟩⟩
 refine Jv 3 ?_;refine A.AL.mkmr 411 D39 (fun x:D39=>(A.rae x)) T39 40 fun U=>?_;refine J0 1 [(8,.map (some U))] (Vb 3 ?_);refine Jz [5] [] [.n,.b 0 0] [(29,.pointer (some ⟨g0_,0,none⟩)),(30,.agg #[.slice A5_ z.length c6_])] ?_;refine Vw 412 [] a (o_ai A2_ A5_ g0_ b1_ c3_ b4_ c6_ k z) (.m 0 (.m 1 (.m 2 (.m 3 (.s 4 .nil))))) ?_;rintro W - a _ _ ⟨al,c22,rfl,rfl⟩;refine Ve ?_;refine V7 413 0 [] ?_;refine V7 414 1 [] ?_;refine V7 415 2 [] ?_;refine V7 416 3 [] ?_;refine J0 2 [(32,A.i (W.length:Int)),(33,A.i 0)] (Jw 2 ?_);refine Vo [0,5,8,31,32] [0,1,2,3,6,412] (fun f N O=>∃(L:List (D39×(List D39))),∃(J:Int),∃(As23:List (Option Addr×Nat)),N=[(33,A.i J)]∧O=[(411,.mr D39 (fun x:D39=>(A.rae x)) T39 40 U As23 L)]∧A.h6 J∧F.aF k o W f L J=some r) ⟨[],0,[],rfl,rfl,J5,a⟩ ?_;rintro a4 _ _ ⟨L,J,As23,rfl,rfl,am,a⟩;rcases a4 with _|a4
 ·exact Vm a
 rw[F.aF]at a;refine Jv 1 ?_;refine J0 1 [(34,.bool (decide (J<(W.length:Int))))] (Jw 2 ?_);refine Vr a ?_ ?_<;>intro hb a
 ·refine Jv 5 ?_;have⟨w,aa,a⟩:=Vx a;refine Um 412 544 aa fun a5=>?_;intro an ao;refine Jz [] [544] [.e 0 0] [(36,(A.rai w))] ?_;refine J6 545 (cs:=A.zz12) Tryz.zeroValue54 fun ap=>?_;refine Vu 545 [] (A.rad w) ?_;refine Vb 1 ?_;refine Jz [545] [] [.n,.n,.b 0 0,.n,.b 0 2] [(37,.map (some U)),(39,(A.rae w.1)),(42,(A.rae w.2.1))] ?_;refine Vp 546 (ty:=T39) (cs:=(A.raa w.2.1)) [w.2.1] ⟨⟨⟨rfl,a5.2.1.1⟩,⟨rfl,a5.2.1.2⟩⟩,rfl⟩ (fun aq=>?_) Tryz.zeroValue40 Tryz.sizeOf40
  have⟨hl35,a⟩:=Vq a;refine A.AL.mapp (t:=T39) (ys:=[w.2.1]) 411 546 [] ky40 w.1 Tryz.zeroValue72 inf40 hl35 fun As36 ar au av aw=>?_;refine Vb 2 ?_;have⟨a6,a⟩:=Vq a;refine Ub 2 [Z.R64 (J+1)] [(33,A.i (J+1))] a6 (Jy ?_);exact Vi ⟨_,Qh _,⟨(Z.mins L w.1 (Z.mget ([]:List D39) L w.1++[w.2.1])),(J+1),As36,rfl,rfl,(J2 a6),a⟩⟩
 refine Jv 4 ?_;refine J0 1 [(48,.map (some B))] ?_;refine A.AL.rgm 6 547 fun X=>?_;refine Jw 2 ?_;refine A.frzM 411 [] ?_;obtain⟨hev,hend⟩:=A.mrg_all a;refine A.AX.loop [0,5,8,49] [0,1,2,3,6,411] [547,0,1,2,3,6,411] (fun f N O=>∃(sn:List Nat) (la:Option (Value×Value)),N=[]∧O=[(547,.mit 6 X B o.length sn la)]∧sn.Nodup∧(∀i∈sn,i<o.length)∧(∀i∈sn,∀p,(o)[i]?=some p→F.a9 k o L p=some none)∧f+sn.length=o.length+1) (o.length+1) [] [(547,.mit 6 X B o.length [] none)] ⟨[],none,rfl,rfl,X6,by simp,by simp,rfl⟩ ?_;rintro ax _ _ ⟨ab,la44,rfl,rfl,hnd,hbd,hse,hff⟩;refine Jv 1 ?_;refine A.AL.nxm 6 547 548 (fun hall=>?_) (fun ac y hp48 hs49 ad=>?_)
 ·replace a:=hend (A.seen_all hse hall)
  refine J0 1 [(51,.bool false)] (Jw 2 ?_);refine Ur rfl ?_;refine Jv 3 ?_;refine J0 1 [(4,.bool false)] (Jw 1 ?_);obtain rfl:=J7 a;exact Va [(0,0),(1,1),(2,2),(3,3)] ⟨rfl,rfl⟩
 obtain⟨q,hB,hq⟩:=hev y (Qf hp48)
 have a:=hB
 rw[F.a9]at a;have⟨hkc51,a⟩:=Vq a;refine J0 1 [(51,.bool true)] (Jw 2 ?_);refine Uo rfl ?_;refine Jv 4 ?_;refine A.AL.ent 547 ?_;refine J0 2 [(53,(A.rae y.1)),(54,A.i y.2)] ?_;refine J6 549 (cs:=l2q) Tryz.zeroValue40 fun ay=>?_;refine Vu 549 [] (A.raa y.1) ?_;refine J0 1 [(12,A.i y.2)] (Vb 2 ?_);refine Jz [549] [] [.n,.n,.n,.b 0 0,.n] [(55,.pointer (some ⟨g0_,0,none⟩)),(56,.map (some U)),(57,.map (some B)),(58,(A.rae y.1)),(59,A.i y.2)] ?_;have⟨ae,ag,a⟩:=Vx a;refine A.AL.call 550 [] (first:=[]) (cap:=[]) cf141 (o_ar A2_ g0_ b1_ c3_ b4_ U B k L o y.1 y.2 (of_decide_eq_true hkc51.1) (of_decide_eq_true hkc51.2) ad ae ag) (.m 0 (.m 1 (.m 2 (.m 3 (.lm 411 (.lm 6 .nil)))))) ?_;rintro _ _ ⟨rfl,rfl⟩;refine Ve ?_;refine V7 550 0 [] ?_;refine V7 551 1 [] ?_;refine V7 552 2 [] ?_;refine V7 553 3 [] ?_;refine Jw 1 ?_;refine Ud a ?_ ?_<;>intro hb a
 ·refine Jv 1 ?_;refine J0 1 [(4,.bool true)] (Jw 1 ?_);obtain rfl:=J7 a;obtain rfl:=Qp (hq.resolve_left (by intro h;cases h))
  exact Va [(0,0),(1,1),(2,2),(3,3)] ⟨rfl,rfl⟩
 refine Vy 2 ?_;obtain rfl:=J7 a;exact A.AE.j [547,0,1,2,3,6,411] [] [(547,.mit 6 X B o.length (ac::ab) (some ((A.rae y.1),A.i y.2)))] ⟨_,(A.seen_f hnd (U2 hbd hp48) hs49 hff).1,_,_,rfl,rfl,Wm.2 ⟨hs49,hnd⟩,U2 hbd hp48,A.seen_cons hse hp48 hB,(A.seen_f hnd (U2 hbd hp48) hs49 hff).2⟩
def F.d6 (a:D83)(e:D83):Option Bool:=some (bif decide (a.2.1=e.2.1)then decide (a.2.2.2.2.1=e.2.2.2.2.1)else false)
theorem o_aT(a:D83)(f:D83)(k:A.h6 a.1)(o:A.h6 a.2.1)(p:A.h6 a.2.2.2.1.1)(s:A.h6 a.2.2.2.1.2.1)(t:a.2.2.2.1.2.2.size≤maxLen)(u:a.2.2.2.2.1.size≤maxLen)(w:A.h6 a.2.2.2.2.2.1)(x:A.h6 a.2.2.2.2.2.2)(y:A.h6 f.1)(z:A.h6 f.2.1)(B:A.h6 f.2.2.2.1.1)(E:A.h6 f.2.2.2.1.2.1)(I:f.2.2.2.1.2.2.size≤maxLen)(J:f.2.2.2.2.1.size≤maxLen)(L:A.h6 f.2.2.2.2.2.1)(N:A.h6 f.2.2.2.2.2.2)(r:Bool)(h:F.d6 a f=some r):
    A.Ct Tryz.prog 97 [.agg #[A.i a.1,A.i a.2.1,.slice A2_ a.2.2.1.length c3_,A.i a.2.2.2.1.1,A.i a.2.2.2.1.2.1,.string a.2.2.2.1.2.2,.string a.2.2.2.2.1,A.i a.2.2.2.2.2.1,A.i a.2.2.2.2.2.2],.pointer (some ⟨g10_,0,none⟩)] [(0,.sh A.TI [.slice A2_ a.2.2.1.length c3_] a.2.2.1),(1,.el none g10_ 0 [A.i f.1,A.i f.2.1,.slice A13_ f.2.2.1.length c14_,A.i f.2.2.2.1.1,A.i f.2.2.2.1.2.1,.string f.2.2.2.1.2.2,.string f.2.2.2.2.1,A.i f.2.2.2.2.2.1,A.i f.2.2.2.2.2.2]),(2,.sh A.TI [.slice A13_ f.2.2.1.length c14_] f.2.2.1)] [] (fun v H'=>v=.bool r∧H'=[]):=by
 refine J1 Tryz.func97 rfl Tryz.ntmps97 rfl fun O U=>?_;rw[F.d6]at h;refine Jv 1 ?_;refine Vc 3 (cs:=[A.i a.1,A.i a.2.1,.slice A2_ a.2.2.1.length c3_,A.i a.2.2.2.1.1,A.i a.2.2.2.1.2.1,.string a.2.2.2.1.2.2,.string a.2.2.2.2.1,A.i a.2.2.2.2.2.1,A.i a.2.2.2.2.2.2]) fun V=>?_;refine J0 1 [] (Vb 2 ?_);refine Jz [3] [1] [.n,.b 0 1,.n,.e 0 1,.n,.n,.sy .n,.sy (.b 0 6),.sy .n,.sy (.e 0 6),.sy .n,.pk,.n] [(3,.bool (bif decide (a.2.1=f.2.1)then decide (a.2.2.2.2.1=f.2.2.2.2.1)else false))] (Jw 1 ?_);obtain rfl:=J7 h;exact Va [] ⟨rfl,rfl⟩
def F.a (h:(List D83))(k:D83):Nat→Int→Option Int
 |0,_=>none
 |f+1,e=>if e<(h.length:Int)then((A.ix h e).bind fun o=>((F.d6 o k).bind fun p=>(if p=true then(some e)else(A.gd (Z.R64 (e+1)) ((F.a h k f) (e+1))))))else(some (-1))
def F.am (e:(List D83))(f:D83):Option Int:=F.a e f A.FU 0
theorem o_h(u:(List D83))(h:D83)(B:A.h6 h.1)(E:A.h6 h.2.1)(I:A.h6 h.2.2.2.1.1)(J:A.h6 h.2.2.2.1.2.1)(L:h.2.2.2.1.2.2.size≤maxLen)(N:h.2.2.2.2.1.size≤maxLen)(O:A.h6 h.2.2.2.2.2.1)(U:A.h6 h.2.2.2.2.2.2)(r:Int)(k:F.am u h=some r):
    A.Ct Tryz.prog 133 [.slice A0_ u.length c1_,.func (.func 97) #[] #[.pointer (some ⟨g2_,0,none⟩)]] [(0,.ln T83 A0_ c1_ u),(1,.el none g2_ 0 [A.i h.1,A.i h.2.1,.slice A5_ h.2.2.1.length c6_,A.i h.2.2.2.1.1,A.i h.2.2.2.1.2.1,.string h.2.2.2.1.2.2,.string h.2.2.2.2.1,A.i h.2.2.2.2.2.1,A.i h.2.2.2.2.2.2]),(2,.sh A.TI [.slice A5_ h.2.2.1.length c6_] h.2.2.1)] [] (fun v H'=>v=A.i r∧H'=[]∧A.h6 r):=by
 refine J1 Tryz.func133 rfl Tryz.ntmps133 rfl fun w0 F0=>?_;rw[F.am]at k;refine Jv 1 ?_;refine J0 1 [] (Vb 3 ?_);refine J0 3 [(7,A.i (u.length:Int)),(8,A.i 0)] (Jw 2 ?_);refine Vo [0,1,7] [0,1,2] (fun f V W=>∃(o:Int),V=[(8,A.i o)]∧W=[]∧A.h6 o∧F.a u h f o=some r) ⟨0,rfl,rfl,J5,k⟩ ?_;rintro w _ _ ⟨o,rfl,rfl,X,k⟩;rcases w with _|w
 ·exact Vm k
 rw[F.a]at k;refine Jv 1 ?_;refine J0 1 [(9,.bool (decide (o<(u.length:Int))))] (Jw 2 ?_);refine Vr k ?_ ?_<;>intro hb k
 ·refine Jv 5 ?_;refine J0 2 [(5,A.i o)] (Vb 2 ?_);refine J0 3 [(11,.func (.func 97) #[] #[.pointer (some ⟨g2_,0,none⟩)]),(12,.slice A0_ u.length c1_),(13,A.i o)] ?_;have⟨p,a1,k⟩:=Vx k;refine Ua 0 87 a1 fun t=>?_;intro x y b9 a4;refine Jz [] [87] [.e 0 0] [(15,.agg #[A.i p.1,A.i p.2.1,.slice x p.2.2.1.length y,A.i p.2.2.2.1.1,A.i p.2.2.2.1.2.1,.string p.2.2.2.1.2.2,.string p.2.2.2.2.1,A.i p.2.2.2.2.2.1,A.i p.2.2.2.2.2.2])] ?_;have⟨a2,a3,k⟩:=Vx k;refine A.AL.call 89 [] (first:=[]) (cap:=[.pointer (some ⟨g2_,0,none⟩)]) cf97 (o_aT x A5_ y g2_ c6_ p h t.1 t.2.1 t.2.2.2.1.1 t.2.2.2.1.2.1 t.2.2.2.1.2.2 t.2.2.2.2.1 t.2.2.2.2.2.1 t.2.2.2.2.2.2 B E I J L N O U a2 a3) (.s 88 (.s 1 (.s 2 .nil))) ?_;rintro _ _ ⟨rfl,rfl⟩;refine Ve ?_;refine Jw 1 ?_;refine Ud k ?_ ?_<;>intro hb k
  ·refine Jv 1 ?_;refine J0 2 [(4,A.i o)] (Jw 1 ?_);obtain rfl:=J7 k;exact Va [] ⟨rfl,rfl,X⟩
  refine Jv 3 ?_;have⟨z,k⟩:=Vq k;refine Ub 2 [Z.R64 (o+1)] [(8,A.i (o+1))] z (Jy ?_);exact Vi ⟨_,Qh _,⟨(o+1),rfl,rfl,(J2 z),k⟩⟩
 refine Jv 3 ?_;refine J0 1 [(4,A.i (-1))] (Jw 1 ?_);obtain rfl:=J7 k;exact Va [] ⟨rfl,rfl,(Vd .i64 (-1) rfl)⟩
def F.l (a:(List D83))(e:D83):Option Bool:=(F.am a e).bind fun f=>(some (decide ((0:Int)≤f)))
theorem o_g(e:(List D83))(a:D83)(h:A.h6 a.1)(k:A.h6 a.2.1)(o:A.h6 a.2.2.2.1.1)(p:A.h6 a.2.2.2.1.2.1)(t:a.2.2.2.1.2.2.size≤maxLen)(u:a.2.2.2.2.1.size≤maxLen)(w:A.h6 a.2.2.2.2.2.1)(x:A.h6 a.2.2.2.2.2.2)(r:Bool)(f:F.l e a=some r):
    A.Ct Tryz.prog 96 [.slice A0_ e.length c1_,.func (.func 97) #[] #[.pointer (some ⟨g2_,0,none⟩)]] [(0,.ln T83 A0_ c1_ e),(1,.el none g2_ 0 [A.i a.1,A.i a.2.1,.slice A5_ a.2.2.1.length c6_,A.i a.2.2.2.1.1,A.i a.2.2.2.1.2.1,.string a.2.2.2.1.2.2,.string a.2.2.2.2.1,A.i a.2.2.2.2.2.1,A.i a.2.2.2.2.2.2]),(2,.sh A.TI [.slice A5_ a.2.2.1.length c6_] a.2.2.1)] [] (fun v H'=>v=.bool r∧H'=[]):=by
 refine J1 Tryz.func96 rfl Tryz.ntmps96 rfl fun z B=>?_;rw[F.l]at f;refine Jv 1 ?_;refine J0 1 [] (Vb 2 ?_);refine J0 2 [(5,.slice A0_ e.length c1_),(6,.func (.func 97) #[] #[.pointer (some ⟨g2_,0,none⟩)])] ?_;refine Vw 3 [] f (o_h A0_ A5_ c1_ g2_ c6_ e a h k o p t u w x) (.s 0 (.s 1 (.s 2 .nil))) ?_;rintro y - f _ _ ⟨rfl,rfl,hr3⟩;refine Ve ?_;refine J0 2 [(4,.bool (decide ((0:Int)≤y)))] (Jw 1 ?_);obtain rfl:=J7 f;exact Va [] ⟨rfl,rfl⟩
def F.cZ (f:(List (Int×D83))→Int→Int→Option ((Option ((List (Int×D83))×(List Int)×(List (Int×Int))))×Int))(h:List (Int×D83))(e:Int)(a:D83)(k:Bool):Option ((Option ((List (Int×D83))×(List Int)×(List (Int×Int))))×Int):=if k=true then(some (none,80))else(A.gd (Z.R64 (e+1)) (f (Z.mins h a.1 a) a.1 (e+1)))
def F.cy (e:(List (Int×D83))→Int→Int→Option ((Option ((List (Int×D83))×(List Int)×(List (Int×Int))))×Int))(f:List (Int×D83))(k:Int)(h:Int)(a:D83)(o:Bool):Option ((Option ((List (Int×D83))×(List Int)×(List (Int×Int))))×Int):=if a.1≤k then(F.cZ e f h a true)else((F.ea a).bind fun p=>(F.cZ e f h a (bif !p then true else o)))
def F.b5 (o:Int→Option ((Option ((List (Int×D83))×(List Int)×(List (Int×Int))))×Int))(e:List (Int×D83))(h:Int)(k:D83):Nat→Int→Option ((Option ((List (Int×D83))×(List Int)×(List (Int×Int))))×Int)
 |0,_=>none
 |f+1,a=>if a<(k.2.2.1.length:Int)then((A.ix k.2.2.1 a).bind fun p=>(A.lt (Z.mget ((0,0,[],(0,0,(ByteArray.mk #[])),(ByteArray.mk #[]),0,0):D83) e p) fun s=>(if(bif !(Z.mhas e p)then true else decide (s.2.1=15))=true then(some (none,80))else(A.gd (Z.R64 (a+1)) ((F.b5 o e h k f) (a+1))))))else(A.gd (Z.R64 (h+1)) (o (h+1)))
def F.aG (a:D23)(e:List (Int×D83)):Nat→Int→Option ((Option ((List (Int×D83))×(List Int)×(List (Int×Int))))×Int)
 |0,_=>none
 |f+1,h=>if h<(a.length:Int)then((A.ix a h).bind fun p=>(F.b5 (F.aG a e f) e h p A.FU 0))else((F.bl (e,[],[]) a).bind fun o=>(if(!o.1)=true then(some (none,81))else((F.bh o.2).bind fun k=>(if(!k.1)=true then(some (none,80))else((F.b4 k.2 a).bind fun s=>(if s=true then(some (none,81))else(some (some k.2,0))))))))
def F.aT (a:D23)(h:List (Int×D83)):Nat→Int→Option ((Option ((List (Int×D83))×(List Int)×(List (Int×Int))))×Int)
 |0,_=>none
 |f+1,e=>if e<(a.length:Int)then((A.ix a e).bind fun k=>((F.ev k.2.1 k.2.2.2.1).bind fun o=>(if o≠0 then(some (none,o))else(A.gd (Z.R64 (e+1)) ((F.aT a h f) (e+1))))))else(F.aG a h A.FU 0)
def F.aC (a:D23):Nat→(List (Int×D83))→Int→Int→Option ((Option ((List (Int×D83))×(List Int)×(List (Int×Int))))×Int)
 |0,_,_,_=>none
 |f+1,k,o,e=>if e<(a.length:Int)then((A.ix a e).bind fun h=>((F.bv h.2.1).bind fun p=>(if p=true then(A.gd (0≤e∧e.toNat≤a.length) ((F.l (List.take e.toNat a) h).bind fun s=>(F.cy (F.aC a f) k o e h s)))else(F.cy (F.aC a f) k o e h false))))else(F.aT a k A.FU 0)
def F.bJ (a:D23):Option ((Option ((List (Int×D83))×(List Int)×(List (Int×Int))))×Int):=if(32:Int)<(a.length:Int)then(some (none,80))else(F.aC a A.FU [] 0 0)
theorem o_au(k:D23)(r:(Option ((List (Int×D83))×(List Int)×(List (Int×Int))))×Int)(a:F.bJ k=some r):
    A.Ct Tryz.prog 68 [.agg #[.slice A0_ k.length c1_]] [(0,.sh (.slice T83) [.slice A0_ k.length c1_] k),(1,.el none 0 0 A.tabF),(2,.el none 1 0 A.tabA)] [] (fun v H'=>(r.1=none∧v=.tuple #[.pointer none,A.i r.2]∧H'=[]∧A.h6 r.2)∨(∃(p0:((List (Int×D83))×(List Int)×(List (Int×Int)))),r.1=some p0∧∃(g0':Nat) (b1':Nat) (A2':Option Addr) (c3':Nat) (b4':Nat),v=.tuple #[.pointer (some ⟨g0',0,none⟩),A.i r.2]∧H'=[(0,.blk g0' 149 [.map (some b1'),.slice A2' p0.2.1.length c3',.map (some b4')]),(1,.mp Int (fun i:Int=>A.i i) T83 true b1' p0.1),(2,.own A.ti 3 A2' c3' p0.2.1),(3,.mp Int (fun i:Int=>A.i i) A.ti false b4' p0.2.2)]∧A.h6 r.2)):=by
 refine J1 Tryz.func68 rfl Tryz.ntmps68 rfl fun w0 F0=>?_;rw[F.bJ]at a;refine Jv 1 ?_;refine Vc 3 (cs:=[.slice A0_ k.length c1_]) fun g1=>?_;refine J0 2 [] (Vb 3 ?_);refine Jz [3] [] [.n,.b 0 0,.n,.n] [(21,.bool (decide ((32:Int)<(k.length:Int))))] (Jw 1 ?_);refine Vr a ?_ ?_<;>intro E a
 ·refine Jv 1 ?_;refine J0 2 [(2,.pointer none),(3,A.i 80)] (Jw 1 ?_);obtain rfl:=J7 a;exact V4 [] (.inl ⟨rfl,⟨rfl,rfl,(Vd .i64 (80) rfl)⟩⟩)
 refine Jv 3 ?_;refine A.AL.mkm 4 Int (fun i:Int=>A.i i) T83 true fun X=>?_;refine A.AL.mkm 5 Int (fun i:Int=>A.i i) A.ti false fun b3=>?_;refine J0 1 [(24,.agg #[.map (some X),.slice none 0 0,.map (some b3)])] ?_;refine Vc 6 (cs:=[.map (some X),.slice none 0 0,.map (some b3)]) fun L=>?_;refine J0 1 [(4,.pointer (some ⟨L,0,none⟩))] (Vb 2 ?_);refine J0 1 [(5,A.i 0)] (Vb 3 ?_);refine Jz [3] [] [.n,.b 0 0,.n,.n] [(27,.slice A0_ k.length c1_),(28,A.i (k.length:Int)),(29,A.i 0)] (Jw 2 ?_);refine Vo [1,4,27,28] [0,1,2,3,5,6] (fun f I J=>∃(B:List (Int×D83)),∃(y6:Int),∃(y:Int),I=[(5,A.i y6),(29,A.i y)]∧J=[(4,.mp Int (fun i:Int=>A.i i) T83 true X B)]∧A.h6 y6∧A.h6 y∧F.aC k f B y6 y=some r) ⟨[],0,0,rfl,rfl,J5,J5,a⟩ ?_;rintro a3 _ _ ⟨B,y6,y,rfl,rfl,be,bg,a⟩;rcases a3 with _|a3
 ·exact Vm a
 rw[F.aC]at a;refine Jv 1 ?_;refine J0 1 [(30,.bool (decide (y<(k.length:Int))))] (Jw 2 ?_);refine Vr a ?_ ?_<;>intro E a
 ·refine Jv 5 ?_;refine J0 1 [(31,A.i y)] ?_;have⟨h,ax,a⟩:=Vx a;refine V2 0 2907 ax fun o=>?_;intro V W bh bi;refine Jz [] [2907] [.e 0 0] [(33,.agg #[A.i h.1,A.i h.2.1,.slice V h.2.2.1.length W,A.i h.2.2.2.1.1,A.i h.2.2.2.1.2.1,.string h.2.2.2.1.2.2,.string h.2.2.2.2.1,A.i h.2.2.2.2.2.1,A.i h.2.2.2.2.2.2])] ?_;refine J6 2909 (cs:=l2a) Tryz.zeroValue84 fun ab=>?_;refine J0 1 [(6,A.i y)] ?_;refine Vu 2909 [] [A.i h.1,A.i h.2.1,.slice V h.2.2.1.length W,A.i h.2.2.2.1.1,A.i h.2.2.2.1.2.1,.string h.2.2.2.1.2.2,.string h.2.2.2.2.1,A.i h.2.2.2.2.2.1,A.i h.2.2.2.2.2.2] ?_;refine Jw 1 ?_;refine J4 [1,4,5,7,27,28,29] l2n (fun I J=>∃(a2:Bool),I=[(8,.bool a2)]∧J=[]∧F.cy (F.aC k a3) B y6 y h a2=some r) ?_ ?_
  ·refine Jv 0 ?_;refine Jz [2909] [] [.n,.b 0 1] [(35,A.i h.2.1)] ?_;refine Vw 2910 [] a (o_k h.2.1 o.2.1) .nil ?_;rintro ay - a _ _ ⟨rfl,rfl⟩;refine Ve ?_;refine J0 1 [(37,.bool ay)] ?_;refine Vs (j:=37) rfl a (fun a=>?_) (fun a=>?_)
   ·refine Jz [3] [] [.on .n,.on (.b 0 0),.on .n] [(39,.slice A0_ k.length c1_),(40,A.i y)] ?_;refine Vk (dj:=37) rfl rfl ?_;have⟨ac,a⟩:=Vq a;refine A.AL.cuth 0 2950 (v:=y.toNat) (Ww ac.1).symm ac.2 fun az=>?_;refine Jz [] [] [.on .n] [(42,.func (.func 97) #[] #[.pointer (some ⟨ab,0,none⟩)])] ?_;refine Vk (dj:=37) rfl rfl ?_;refine Vw 2951 [] a (o_g A0_ V az ab W (List.take y.toNat k) h o.1 o.2.1 o.2.2.2.1.1 o.2.2.2.1.2.1 o.2.2.2.1.2.2 o.2.2.2.2.1 o.2.2.2.2.2.1 o.2.2.2.2.2.2) (.l 2950 (.b 2909 (.s 2908 .nil))) ?_;rintro ad - a _ _ ⟨rfl,rfl⟩;refine Ve ?_;refine J0 2 [(8,.bool ad)] (Jy ?_);exact Vi ⟨ad,rfl,rfl,a⟩
   refine Jz [] [] [.off,.off,.off,.off,.off,.off,.n,.n] [(8,.bool false)] (Jy ?_);exact Vi ⟨false,rfl,rfl,a⟩
  rintro _ _ ⟨a2,rfl,rfl,a⟩;rw[F.cy]at a;refine V3 1 ?_;refine J4 [1,4,7,27,28,29] l2n (fun I J=>∃(a5:Bool),I=[(56,.bool a5)]∧J=[]∧F.cZ (F.aC k a3) B y h a5=some r) ?_ ?_
  ·refine Jv 0 ?_;refine Jz [2909] [] [.n,.b 0 0,.n,.n,.n] [(49,.bool (decide (h.1≤y6)))] ?_;refine V6 (j:=49) rfl a ?_ ?_<;>intro E a
   ·refine Jz [] [] [.off,.off,.off,.n,.n,.off,.n] [(56,.bool true)] (Jy ?_);exact Vi ⟨true,rfl,rfl,a⟩
   refine Jz [2909] [] [.on (.b 0 0)] [(50,.agg #[A.i h.1,A.i h.2.1,.slice V h.2.2.1.length W,A.i h.2.2.2.1.1,A.i h.2.2.2.1.2.1,.string h.2.2.2.1.2.2,.string h.2.2.2.2.1,A.i h.2.2.2.2.2.1,A.i h.2.2.2.2.2.2])] ?_;refine Vk (dj:=49) rfl rfl ?_;refine Vw 2991 [] a (o_bh V W h o.1 o.2.1 o.2.2.2.1.1 o.2.2.2.1.2.1 o.2.2.2.1.2.2 o.2.2.2.2.1 o.2.2.2.2.2.1 o.2.2.2.2.2.2) (.s 2908 .nil) ?_;rintro ae - a _ _ ⟨rfl,rfl⟩;refine Ve ?_;refine Jz [] [] [.on .n,.n,.n,.sy .n,.pk] [(56,.bool (bif !ae then true else a2))] (Jy ?_);exact Vi ⟨(bif !ae then true else a2),rfl,rfl,a⟩
  rintro _ _ ⟨a5,rfl,rfl,a⟩;rw[F.cZ]at a;refine Ud a ?_ ?_<;>intro E a
  ·refine Jv 1 ?_;refine J0 2 [(2,.pointer none),(3,A.i 80)] (Jw 1 ?_);obtain rfl:=J7 a;exact V4 [] (.inl ⟨rfl,⟨rfl,rfl,(Vd .i64 (80) rfl)⟩⟩)
  refine Jv 3 ?_;refine Jz [2909] [] [.n,.b 0 0,.n] [(5,A.i h.1)] (Jw 1 ?_);refine Vl mixed 7 8 (A.mb 8 0) ?_;refine Vh J3 [] l2n [2909,6] [] (A.mb 8 127) 1 [(0,.n),(4,.n),(6,.b 0 0),(1,.n),(5,.b 0 0),(2,.n),(3,.b 1 0)] [(65,.agg #[A.i h.1,A.i h.2.1,.slice V h.2.2.1.length W,A.i h.2.2.2.1.1,A.i h.2.2.2.1.2.1,.string h.2.2.2.1.2.2,.string h.2.2.2.2.1,A.i h.2.2.2.2.2.1,A.i h.2.2.2.2.2.2]),(64,A.i h.1),(62,.map (some X))] ?_;refine J8 7 ?_;refine A.AL.mup (t:=T83) 4 [] (cs:=[A.i h.1,A.i h.2.1,.slice V h.2.2.1.length W,A.i h.2.2.2.1.1,A.i h.2.2.2.1.2.1,.string h.2.2.2.1.2.2,.string h.2.2.2.2.1,A.i h.2.2.2.2.2.1,A.i h.2.2.2.2.2.2]) (u:=h) ky3 h.1 ⟨⟨rfl,o.1⟩,⟨rfl,o.2.1⟩,.inl ⟨2908,rfl⟩,⟨⟨rfl,o.2.2.2.1.1⟩,⟨rfl,o.2.2.2.1.2.1⟩,⟨rfl,o.2.2.2.1.2.2⟩⟩,⟨rfl,o.2.2.2.2.1⟩,⟨rfl,o.2.2.2.2.2.1⟩,⟨rfl,o.2.2.2.2.2.2⟩⟩ ?_;refine Ut (A.mb 8 255) ?_;refine J9 ?_;refine A.el 2 ?_;have⟨ag,a⟩:=Vq a;refine Ub 2 [Z.R64 (y+1)] [(29,A.i (y+1))] ag (Jy ?_);exact Vi ⟨_,Qh _,⟨(Z.mins B h.1 h),h.1,(y+1),rfl,rfl,o.1,(J2 ag),a⟩⟩
 refine Jv 4 ?_;refine Jz [3] [] [.n,.b 0 0,.n,.n] [(68,.slice A0_ k.length c1_),(69,A.i (k.length:Int)),(70,A.i 0)] (Jw 2 ?_);refine Vo [1,4,68,69] l2e (fun f I J=>∃(O:Int),I=[(70,A.i O)]∧J=[]∧A.h6 O∧F.aT k B f O=some r) ⟨0,rfl,rfl,J5,a⟩ ?_;rintro ah _ _ ⟨O,rfl,rfl,bj,a⟩;rcases ah with _|ah
 ·exact Vm a
 rw[F.aT]at a;refine Jv 1 ?_;refine J0 1 [(71,.bool (decide (O<(k.length:Int))))] (Jw 2 ?_);refine Vr a ?_ ?_<;>intro E a
 ·refine Jv 5 ?_;have⟨p,b0,a⟩:=Vx a;refine V2 0 3915 b0 fun a4=>?_;intro ai aj bk bl;refine Jz [] [3915] [.e 0 0] [(73,.agg #[A.i p.1,A.i p.2.1,.slice ai p.2.2.1.length aj,A.i p.2.2.2.1.1,A.i p.2.2.2.1.2.1,.string p.2.2.2.1.2.2,.string p.2.2.2.2.1,A.i p.2.2.2.2.2.1,A.i p.2.2.2.2.2.2])] ?_;refine J6 3917 (cs:=l2a) Tryz.zeroValue84 fun bm=>?_;refine Vu 3917 [] [A.i p.1,A.i p.2.1,.slice ai p.2.2.1.length aj,A.i p.2.2.2.1.1,A.i p.2.2.2.1.2.1,.string p.2.2.2.1.2.2,.string p.2.2.2.2.1,A.i p.2.2.2.2.2.1,A.i p.2.2.2.2.2.2] ?_;refine Vb 2 ?_;refine Jz [3917] [] [.n,.b 0 1,.n,.b 0 3] [(75,A.i p.2.1),(77,.agg #[A.i p.2.2.2.1.1,A.i p.2.2.2.1.2.1,.string p.2.2.2.1.2.2])] ?_;refine Vw 3918 [] a (o_bE p.2.1 p.2.2.2.1 a4.2.1 a4.2.2.2.1.1 a4.2.2.2.1.2.1 a4.2.2.2.1.2.2) (.s 1 (.s 2 .nil)) ?_;rintro a6 - a _ _ ⟨rfl,rfl,hr44⟩;refine Ve ?_;refine J0 1 [(11,A.i a6)] (Vb 2 ?_);refine J0 2 [(80,.bool (decide (a6≠0)))] (Jw 1 ?_);refine Vr a ?_ ?_<;>intro E a
  ·refine Jv 1 ?_;refine J0 3 [(2,.pointer none),(3,A.i a6)] (Jw 1 ?_);obtain rfl:=J7 a;exact V4 [] (.inl ⟨rfl,⟨rfl,rfl,hr44⟩⟩)
  refine Jv 3 ?_;have⟨ak,a⟩:=Vq a;refine Ub 2 [Z.R64 (O+1)] [(70,A.i (O+1))] ak (Jy ?_);exact Vi ⟨_,Qh _,⟨(O+1),rfl,rfl,(J2 ak),a⟩⟩
 refine Jv 4 ?_;refine Jz [3] [] [.n,.b 0 0,.n,.n] [(84,.slice A0_ k.length c1_),(85,A.i (k.length:Int)),(86,A.i 0)] (Jw 2 ?_);refine Vo [1,4,84,85] l2e (fun f I J=>∃(N:Int),I=[(86,A.i N)]∧J=[]∧A.h6 N∧F.aG k B f N=some r) ⟨0,rfl,rfl,J5,a⟩ ?_;rintro a7 _ _ ⟨N,rfl,rfl,bp,a⟩;rcases a7 with _|a7
 ·exact Vm a
 rw[F.aG]at a;refine Jv 1 ?_;refine J0 1 [(87,.bool (decide (N<(k.length:Int))))] (Jw 2 ?_);refine Vr a ?_ ?_<;>intro E a
 ·refine Jv 5 ?_;have⟨w,b1,a⟩:=Vx a;refine V2 0 4224 b1 fun bq=>?_;intro a8 a9 br bs;refine Jz [] [4224] [.e 0 0] [(89,.agg #[A.i w.1,A.i w.2.1,.slice a8 w.2.2.1.length a9,A.i w.2.2.2.1.1,A.i w.2.2.2.1.2.1,.string w.2.2.2.1.2.2,.string w.2.2.2.2.1,A.i w.2.2.2.2.2.1,A.i w.2.2.2.2.2.2])] ?_;refine J6 4226 (cs:=l2a) Tryz.zeroValue84 fun bt=>?_;refine Vu 4226 [] [A.i w.1,A.i w.2.1,.slice a8 w.2.2.1.length a9,A.i w.2.2.2.1.1,A.i w.2.2.2.1.2.1,.string w.2.2.2.1.2.2,.string w.2.2.2.2.1,A.i w.2.2.2.2.2.1,A.i w.2.2.2.2.2.2] ?_;refine Vb 2 ?_;refine Jz [4226] [] [.n,.b 0 2,.n,.n] [(91,.slice a8 w.2.2.1.length a9),(92,A.i (w.2.2.1.length:Int)),(93,A.i 0)] (Jw 2 ?_);refine Vo [1,4,84,85,86,91,92] [0,1,2,3,4,5,6,4225] (fun f I J=>∃(U:Int),I=[(93,A.i U)]∧J=[]∧A.h6 U∧F.b5 (F.aG k B a7) B N w f U=some r) ⟨0,rfl,rfl,J5,a⟩ ?_;rintro al _ _ ⟨U,rfl,rfl,bu,a⟩;rcases al with _|al
  ·exact Vm a
  rw[F.b5]at a;refine Jv 1 ?_;refine J0 1 [(94,.bool (decide (U<(w.2.2.1.length:Int))))] (Jw 2 ?_);refine Vr a ?_ ?_<;>intro E a
  ·refine Jv 5 ?_;have⟨a1,b4,a⟩:=Vx a;refine V2 4225 4233 b4 fun bv=>?_;intro bw bx;refine Jz [] [4233] [.e 0 0,.n] [(15,A.i a1)] (Vb 2 ?_);refine Jz [6] [] [.n,.n,.n,.b 0 0,.n] [(101,.map (some X)),(102,A.i a1)] ?_;obtain⟨x,b6,a⟩:=V5 a;refine A.AL.lk2 (t:=T83) 4 4234 (z:=((0,0,[],(0,0,(ByteArray.mk #[])),(ByteArray.mk #[]),0,0):D83)) (zs:=l2a) ky3 a1 Tryz.zeroValue84 ⟨⟨rfl,by decide⟩,⟨rfl,by decide⟩,(.inr ⟨rfl,rfl⟩),⟨⟨rfl,by decide⟩,⟨rfl,by decide⟩,⟨rfl,by decide⟩⟩,⟨rfl,by decide⟩,⟨rfl,by decide⟩,⟨rfl,by decide⟩⟩ b6 fun bz=>?_;intro am an;refine J0 3 [(104,.agg #[A.i x.1,A.i x.2.1,.slice am x.2.2.1.length an,A.i x.2.2.2.1.1,A.i x.2.2.2.1.2.1,.string x.2.2.2.1.2.2,.string x.2.2.2.2.1,A.i x.2.2.2.2.2.1,A.i x.2.2.2.2.2.2]),(105,.bool (Z.mhas B a1))] ?_;refine J6 4235 (cs:=l2a) Tryz.zeroValue84 fun c0=>?_;refine Vu 4235 [] [A.i x.1,A.i x.2.1,.slice am x.2.2.1.length an,A.i x.2.2.2.1.1,A.i x.2.2.2.1.2.1,.string x.2.2.2.1.2.2,.string x.2.2.2.2.1,A.i x.2.2.2.2.2.1,A.i x.2.2.2.2.2.2] ?_;refine J0 1 [(17,.bool (Z.mhas B a1))] (Vb 2 ?_);refine Jz [4235] [] [.n,.n,.n,.sy .n,.sy (.b 0 1),.sy .n,.pk] [(112,.bool (bif !(Z.mhas B a1)then true else decide (x.2.1=15)))] (Jw 1 ?_);refine Ud a ?_ ?_<;>intro E a
   ·refine Jv 1 ?_;refine J0 2 [(2,.pointer none),(3,A.i 80)] (Jw 1 ?_);obtain rfl:=J7 a;exact V4 [] (.inl ⟨rfl,⟨rfl,rfl,(Vd .i64 (80) rfl)⟩⟩)
   refine Jv 3 ?_;have⟨ao,a⟩:=Vq a;refine Ub 2 [Z.R64 (U+1)] [(93,A.i (U+1))] ao (Jy ?_);exact Vi ⟨_,Qh _,⟨(U+1),rfl,rfl,(J2 ao),a⟩⟩
  refine Jv 3 ?_;have⟨ap,a⟩:=Vq a;refine Ub 2 [Z.R64 (N+1)] [(86,A.i (N+1))] ap (Jy ?_);exact Vi ⟨_,Qh _,⟨(N+1),rfl,rfl,(J2 ap),a⟩⟩
 refine Jv 5 ?_;refine Jz [3] [] [.n,.b 0 0] [(116,.pointer (some ⟨L,0,none⟩)),(117,.agg #[.slice A0_ k.length c1_])] ?_;refine V9 4236 A.ti 3 ?_;refine Vw 4237 [] a (o_aG none A0_ L X 0 b3 c1_ (B,[],[]) k) (.m 6 (.m 4 (.m 4236 (.m 5 (.s 0 .nil))))) ?_;rintro aq - a _ _ ⟨b7,b9,bb,bc,rfl,rfl⟩;refine Ve ?_;refine V7 4237 6 [] ?_;refine V7 4238 4 [] ?_;refine V7 4239 4236 [] ?_;refine V7 4240 5 [] ?_;refine J0 2 [(115,.bool (!aq.1))] (Jw 1 ?_);refine Ud a ?_ ?_<;>intro E a
 ·refine Jv 1 ?_;refine J0 2 [(2,.pointer none),(3,A.i 81)] (Jw 1 ?_);obtain rfl:=J7 a;exact V4 [] (.inl ⟨rfl,⟨rfl,rfl,(Vd .i64 (81) rfl)⟩⟩)
 refine Jv 1 ?_;refine J0 1 [(121,.pointer (some ⟨L,0,none⟩))] ?_;refine Vw 4277 [] a (o_aB b9 L b7 bb bc aq.2) (.m 6 (.m 4 (.m 4236 (.m 5 .nil)))) ?_;rintro aa - a _ _ ⟨ar,au,av,aw,rfl,rfl⟩;refine Ve ?_;refine V7 4277 6 [] ?_;refine V7 4278 4 [] ?_;refine V7 4279 4236 [] ?_;refine V7 4280 5 [] ?_;refine J0 2 [(120,.bool (!aa.1))] (Jw 1 ?_);refine Ud a ?_ ?_<;>intro E a
 ·refine Jv 1 ?_;refine J0 2 [(2,.pointer none),(3,A.i 80)] (Jw 1 ?_);obtain rfl:=J7 a;exact V4 [] (.inl ⟨rfl,⟨rfl,rfl,(Vd .i64 (80) rfl)⟩⟩)
 refine Jv 1 ?_;refine Jz [3] [] [.n,.b 0 0] [(125,.pointer (some ⟨L,0,none⟩)),(126,.agg #[.slice A0_ k.length c1_])] ?_;refine Vw 4317 [] a (o_aE au A0_ L ar av aw c1_ aa.2 k) (.m 6 (.m 4 (.m 4236 (.m 5 (.s 0 .nil))))) ?_;rintro bd - a _ _ ⟨rfl,rfl⟩;refine Ve ?_;refine V7 4317 6 [] ?_;refine V7 4318 4 [] ?_;refine V7 4319 4236 [] ?_;refine V7 4320 5 [] ?_;refine J0 1 [(124,.bool bd)] (Jw 1 ?_);refine Ud a ?_ ?_<;>intro E a
 ·refine Jv 1 ?_;refine J0 2 [(2,.pointer none),(3,A.i 81)] (Jw 1 ?_);obtain rfl:=J7 a;exact V4 [] (.inl ⟨rfl,⟨rfl,rfl,(Vd .i64 (81) rfl)⟩⟩)
 refine Jv 4 ?_;refine J0 3 [(2,.pointer (some ⟨L,0,none⟩)),(3,A.i 0)] (Jw 1 ?_);obtain rfl:=J7 a;exact V4 [(0,6),(1,4),(2,4236),(3,5)] (.inr ⟨aa.2,rfl,⟨L,ar,au,av,aw,rfl,rfl,J5⟩⟩)
end Go.Proofs.YtlbnpmfggfbdoaaGreatDoor
end
