import Derived.Test.YtlhiofnikdppeaaGreatDoorJ1
import Derived.Calls
import GoSem.Step
import Derived.Shelf.SlSortCmp.NoneTotal
import Derived.Lib.TrimU
import Derived.Shelf.Small.Strs
import Derived.Shelf.Spec.SlicesGrow
import Derived.Laws.IdiomStrings
import Derived.Laws.Cover4
set_option linter.defProp false
set_option linter.unusedVariables false
set_option linter.unusedSimpArgs false
set_option maxRecDepth 20000
set_option maxHeartbeats 8000000
set_option synthInstance.maxSize 1000000
set_option synthInstance.maxHeartbeats 400000
section
namespace Go.A
open Go.RowKit Go.Z
def z0:h6 0:=hasl .i64 (0) rfl
def ck{b:Bool}{p:Prop}(h:p)(e:b=true:=by kernel_rfl):b=true/\p:=⟨e,h⟩
def b{α β:Type}{x:Option α}{f:α->Option β}{y:β}(h:x.bind f=some y):∃v,x=some v/\f v=some y:=Jj.1 h
def g{α:Type}{p:Prop}[Decidable p]{x:Option α}{y:α}(h:gd p x=some y):p/\x=some y:=gd_some h
section
variable{r:Option Nat}{P:Program}{ops:Array Oper}{Q:Exit->Act->World->Prop}{lst rest:List Oper}{C:Cx}{l:List (Nat×Value)}{H:List (Nat×Res)}{Y:Exit->Act->World->Prop}{K:List Kx}
def n(k:Nat)(nl:List (Nat×Value))(h:AL r P ops Q (lst.drop k) C (cat nl l) H)
    (hq:((qs P ⟨knb H [],kne H []⟩ C.n ops (List.replicate k .n) lst (Z.q0 l)).bind (qfin l (nl.map Prod.fst)))=some ([],nl):=by kernel_rfl)
    (E:(qs P ⟨knb H [],kne H []⟩ C.n ops (List.replicate k .n) lst (Z.q0 l)).map (λs=>s.q.map Prod.fst)=(qs P ⟨knb H [],kne H []⟩ C.n ops (List.replicate k .n) lst (Z.q0 l)).map (λs=>s.q.map Prod.snd):=by kernel_rfl):AL r P ops Q lst C l H:=q0 [] [] (List.replicate k .n) nl (by rw[X9];exact h) hq E
def m(k:Nat)(cs:List Prop)(nl:List (Nat×Value))(E:conj cs)(h:AL r P ops Q (lst.drop k) C (cat nl l) H)
    (hq:((qs P ⟨knb H [],kne H []⟩ C.n ops (List.replicate k .n) lst (Z.q0 l)).bind (qfin l (nl.map Prod.fst)))=some (cs,nl):=by kernel_rfl)
    (I:(qs P ⟨knb H [],kne H []⟩ C.n ops (List.replicate k .n) lst (Z.q0 l)).map (λs=>s.q.map Prod.fst)=(qs P ⟨knb H [],kne H []⟩ C.n ops (List.replicate k .n) lst (Z.q0 l)).map (λs=>s.q.map Prod.snd):=by kernel_rfl):AL r P ops Q lst C l H:=q [] [] (List.replicate k .n) cs nl E (by rw[X9];exact h) hq I
def c{ρ:Type}{A B R:Option ρ}{c:Operand}{x y:Code}{p:Prop}[Decidable p](E:(if p then A else B)=R)(I:p->A=R->AX r P Y K x C l H)(L:¬p->B=R->AX r P Y K y C l H)(N:ev l c=some (.bool (decide p)):=by rfl):AX r P Y K (.cond c x y) C l H:=AX.cnd N E I L
def d{ρ:Type}{A B R:Option ρ}{c:Operand}{x y:Code}{b:Bool}(E:(if b=true then A else B)=R)(I:b=true->A=R->AX r P Y K x C l H)(L:b=false->B=R->AX r P Y K y C l H)(N:ev l c=some (.bool b):=by rfl):AX r P Y K (.cond c x y) C l H:=AX.cnb N E I L
def zb(k:Nat)(nl:List (Nat×Value))(j:Nat){K':List Kx}{c':Code}(h:AX r P Y K' c' C (cat nl l) H)(e0:lst.drop k=[]:=by rfl)
    (hq:((qs P ⟨knb H [],kne H []⟩ C.n ops (List.replicate k .n) lst (Z.q0 l)).bind (qfin l (nl.map Prod.fst)))=some ([],nl):=by kernel_rfl)
    (he:(qs P ⟨knb H [],kne H []⟩ C.n ops (List.replicate k .n) lst (Z.q0 l)).map (λs=>s.q.map Prod.fst)=(qs P ⟨knb H [],kne H []⟩ C.n ops (List.replicate k .n) lst (Z.q0 l)).map (λs=>s.q.map Prod.snd):=by kernel_rfl)
    (e:nxs j none K=some (some c',K'):=by rfl):AL r P ops (kont r P Y K) lst C l H:=n k nl (by rw[e0];exact dx j h e) hq he
def zc(k:Nat)(nl:List (Nat×Value))(j:Nat){K':List Kx}{id:Nat}{lo:List Oper}(h:AL r P lo.toArray (kont r P Y K') lo C (cat nl l) H)(e0:lst.drop k=[]:=by rfl)
    (hq:((qs P ⟨knb H [],kne H []⟩ C.n ops (List.replicate k .n) lst (Z.q0 l)).bind (qfin l (nl.map Prod.fst)))=some ([],nl):=by kernel_rfl)
    (he:(qs P ⟨knb H [],kne H []⟩ C.n ops (List.replicate k .n) lst (Z.q0 l)).map (λs=>s.q.map Prod.fst)=(qs P ⟨knb H [],kne H []⟩ C.n ops (List.replicate k .n) lst (Z.q0 l)).map (λs=>s.q.map Prod.snd):=by kernel_rfl)
    (e:nxs j none K=some (some (.region id lo.toArray false),K'):=by rfl):AL r P ops (kont r P Y K) lst C l H:=n k nl (by rw[e0];exact dl j h e) hq he
def zd(bs es:List Nat)(hs:List Hint)(nl:List (Nat×Value))(j:Nat){K':List Kx}{c':Code}(h:AX r P Y K' c' C (cat nl l) H)(e0:lst.drop hs.length=[]:=by rfl)
    (hq:((qs P ⟨knb H bs,kne H es⟩ C.n ops hs lst (Z.q0 l)).bind (qfin l (nl.map Prod.fst)))=some ([],nl):=by kernel_rfl)
    (he:(qs P ⟨knb H bs,kne H es⟩ C.n ops hs lst (Z.q0 l)).map (λs=>s.q.map Prod.fst)=(qs P ⟨knb H bs,kne H es⟩ C.n ops hs lst (Z.q0 l)).map (λs=>s.q.map Prod.snd):=by kernel_rfl)
    (e:nxs j none K=some (some c',K'):=by rfl):AL r P ops (kont r P Y K) lst C l H:=q0 bs es hs nl (by rw[e0];exact dx j h e) hq he
def ze(i k:Nat)(nl:List (Nat×Value)){K':List Kx}{id:Nat}{lo:List Oper}{c:Code}(h:AL r P lo.toArray (kont r P Y K') (lo.drop k) C (cat nl l) H)(e:nxs i (some c) K=some (some (.region id lo.toArray false),K'):=by rfl)
    (hq:((qs P ⟨knb H [],kne H []⟩ C.n lo.toArray (List.replicate k .n) lo (Z.q0 l)).bind (qfin l (nl.map Prod.fst)))=some ([],nl):=by kernel_rfl)
    (he:(qs P ⟨knb H [],kne H []⟩ C.n lo.toArray (List.replicate k .n) lo (Z.q0 l)).map (λs=>s.q.map Prod.fst)=(qs P ⟨knb H [],kne H []⟩ C.n lo.toArray (List.replicate k .n) lo (Z.q0 l)).map (λs=>s.q.map Prod.snd):=by kernel_rfl):AX r P Y K c C l H:=xl i (n k nl h hq he) e
def zf(i k:Nat)(nl:List (Nat×Value))(j:Nat){K' K2:List Kx}{id:Nat}{lo:List Oper}{c c':Code}(h:AX r P Y K2 c' C (cat nl l) H)(e:nxs i (some c) K=some (some (.region id lo.toArray false),K'):=by rfl)(e0:lo.drop k=[]:=by rfl)
    (hq:((qs P ⟨knb H [],kne H []⟩ C.n lo.toArray (List.replicate k .n) lo (Z.q0 l)).bind (qfin l (nl.map Prod.fst)))=some ([],nl):=by kernel_rfl)
    (he:(qs P ⟨knb H [],kne H []⟩ C.n lo.toArray (List.replicate k .n) lo (Z.q0 l)).map (λs=>s.q.map Prod.fst)=(qs P ⟨knb H [],kne H []⟩ C.n lo.toArray (List.replicate k .n) lo (Z.q0 l)).map (λs=>s.q.map Prod.snd):=by kernel_rfl)
    (e2:nxs j none K'=some (some c',K2):=by rfl):AX r P Y K c C l H:=ze i k nl (by rw[e0];exact dx j h e2) e hq he
def zg(i k:Nat)(nl:List (Nat×Value))(j:Nat){ρ:Type}{A0 B0 R:Option ρ}{p:Prop}[Decidable p](E:(if p then A0 else B0)=R){K' K2:List Kx}{id:Nat}{lo:List Oper}{c x y:Code}{o:Operand}(I:p->A0=R->AX r P Y K2 x C (cat nl l) H)(L:¬p->B0=R->AX r P Y K2 y C (cat nl l) H)(e:nxs i (some c) K=some (some (.region id lo.toArray false),K'):=by rfl)(e0:lo.drop k=[]:=by rfl)
    (hq:((qs P ⟨knb H [],kne H []⟩ C.n lo.toArray (List.replicate k .n) lo (Z.q0 l)).bind (qfin l (nl.map Prod.fst)))=some ([],nl):=by kernel_rfl)
    (he:(qs P ⟨knb H [],kne H []⟩ C.n lo.toArray (List.replicate k .n) lo (Z.q0 l)).map (λs=>s.q.map Prod.fst)=(qs P ⟨knb H [],kne H []⟩ C.n lo.toArray (List.replicate k .n) lo (Z.q0 l)).map (λs=>s.q.map Prod.snd):=by kernel_rfl)
    (e2:nxs j none K'=some (some (.cond o x y),K2):=by rfl)(N:ev (cat nl l) o=some (.bool (decide p)):=by rfl):AX r P Y K c C l H:=zf i k nl j (A.c E I L N) e e0 hq he e2
def zh(i:Nat)(bs es:List Nat)(hs:List Hint)(nl:List (Nat×Value)){K':List Kx}{id:Nat}{lo:List Oper}{c:Code}(h:AL r P lo.toArray (kont r P Y K') (lo.drop hs.length) C (cat nl l) H)(e:nxs i (some c) K=some (some (.region id lo.toArray false),K'):=by rfl)
    (hq:((qs P ⟨knb H bs,kne H es⟩ C.n lo.toArray hs lo (Z.q0 l)).bind (qfin l (nl.map Prod.fst)))=some ([],nl):=by kernel_rfl)
    (he:(qs P ⟨knb H bs,kne H es⟩ C.n lo.toArray hs lo (Z.q0 l)).map (λs=>s.q.map Prod.fst)=(qs P ⟨knb H bs,kne H es⟩ C.n lo.toArray hs lo (Z.q0 l)).map (λs=>s.q.map Prod.snd):=by kernel_rfl):AX r P Y K c C l H:=xl i (q0 bs es hs nl h hq he) e
def zi(i:Nat)(bs es:List Nat)(hs:List Hint)(nl:List (Nat×Value))(j:Nat){K' K2:List Kx}{id:Nat}{lo:List Oper}{c c':Code}(h:AX r P Y K2 c' C (cat nl l) H)(e:nxs i (some c) K=some (some (.region id lo.toArray false),K'):=by rfl)(e0:lo.drop hs.length=[]:=by rfl)
    (hq:((qs P ⟨knb H bs,kne H es⟩ C.n lo.toArray hs lo (Z.q0 l)).bind (qfin l (nl.map Prod.fst)))=some ([],nl):=by kernel_rfl)
    (he:(qs P ⟨knb H bs,kne H es⟩ C.n lo.toArray hs lo (Z.q0 l)).map (λs=>s.q.map Prod.fst)=(qs P ⟨knb H bs,kne H es⟩ C.n lo.toArray hs lo (Z.q0 l)).map (λs=>s.q.map Prod.snd):=by kernel_rfl)
    (e2:nxs j none K'=some (some c',K2):=by rfl):AX r P Y K c C l H:=zh i bs es hs nl (by rw[e0];exact dx j h e2) e hq he
@[elab_as_elim]theorem ke{ρ:Type}{x y:ρ}{M:ρ->Prop}(e:some x=some y)(h:M x):M y:=by cases e;exact h
def zj{t n:Nat}{v:Value}{fn:Func}{w0:World}{S:List Nat}{F:Nat->Prop}{R:Value->List (Nat×Res)->Prop}(hR:R v (A.ren H []))(hf:fn.results=#[.tmp t]:=by rfl)(hv:lk l t=some v:=by rfl):AX r P (bodyPost P fn λe w'=>∃v H',e=.returned v/\R v H'/\Hp ⟨0,[],w0,S,F⟩ H' w') K .ret ⟨n,[],w0,S,F⟩ l H:=rt1 [] hR hf hv
def zk(n:Int)(h:decide (IntKind.i64.has n)=true:=by rfl):IntKind.i64.has n:=hasl .i64 n h
def v{ρ σ:Type}{d:Tmp}{T:TypeId}{pos:String}{af:Array Edge}(n:Nat)(js:List Nat){f:FuncId}{c:Operand}{xs:List Operand}{vs:List Value}{ts:Array TypeId}{H0:List (Nat×Res)}{ms:List (Nat×Nat)}{ls:List Nat}{S:List Nat}{R:ρ->Value->List (Nat×Res)->Prop}{X:Option ρ}{fF:ρ->Option σ}{yF:σ}
    (E:X.bind fF=some yF)(I:∀x,X=some x->Ct P f vs H0 S (R x))(hs:Sub H H0 ms ls)
    (h:∀x,X=some x->fF x=some yF->∀v H',R x v H'->(outs H'&&frs n H H')=true/\AL r P ops Q rest C ((d,v)::l) (hcat (sft n H') (kld js H (ms.map (·.2)))))
    (L:∀args w,(callFunc f args).run P w=.ok (.enter f args) w:=by intros;kernel_rfl)
    (N:ev l c=some (.func (.func f) #[] #[]):=by rfl)(O:evs l xs=some vs:=by rfl)(V:blks H ms=S:=by rfl)(W:nod (H0.map (·.1))=true:=by rfl)(h2:nod (ms.map (·.2))=true:=by rfl)(h3:ls.all (λk=>!(ms.map (·.2)).any (Nat.beq k))=true:=by rfl)(hd:Nat.ble (d+1) C.n=true:=by rfl)(hj:hng (ms.map (·.2)) js H=true:=by kernel_rfl):
    AL r P ops Q (⟨some d,.call {callee:=.value c,args:=xs.toArray,argTypes:=ts},T,pos,af,none⟩::rest) C l H:=by
 obtain⟨x,e,E⟩:=bd_some E;exact AL.call n js (first:=[]) (cap:=[]) L (I x e) hs (h x e E) N O (by rw[Wh];rfl) V W h2 h3 hd hj
end
abbrev zz8:List Value:=[i 0,i 0,i 0,i 0,i 0,i 0,i 0,i 0]
abbrev rah(x:Int×Int×Int×Int×Int×Int×ByteArray):List Value:=[i x.1,i x.2.1,i x.2.2.1,i x.2.2.2.1,i x.2.2.2.2.1,i x.2.2.2.2.2.1,.string x.2.2.2.2.2.2]
abbrev rai{a1:Type}(x:Int×Int×List a1×(Int×Int×ByteArray)×ByteArray×Int×Int)(A1:Option Addr)(c1:Nat):List Value:=[i x.1,i x.2.1,.slice A1 x.2.2.1.length c1,i x.2.2.2.1.1,i x.2.2.2.1.2.1,.string x.2.2.2.1.2.2,.string x.2.2.2.2.1,i x.2.2.2.2.2.1,i x.2.2.2.2.2.2]
abbrev raj(x:Int×Int×ByteArray):List Value:=[i x.1,i x.2.1,.string x.2.2]
abbrev rak(x:Int×Int×ByteArray×Int):List Value:=[i x.1,i x.2.1,.string x.2.2.1,i x.2.2.2]
abbrev ral(x:Int×ByteArray):List Value:=[i x.1,.string x.2]
abbrev ram{a1:Type}{a2:Type}{a3:Type}(x:List a1×List a2×List a3)(A1:Option Addr)(c1:Nat)(A2:Option Addr)(c2:Nat)(A3:Option Addr)(c3:Nat):List Value:=[.slice A1 x.1.length c1,.slice A2 x.2.1.length c2,.slice A3 x.2.2.length c3]
abbrev ran(x:Int×Int×Int×Int×Int×Int×ByteArray):Value:=.agg #[i x.1,i x.2.1,i x.2.2.1,i x.2.2.2.1,i x.2.2.2.2.1,i x.2.2.2.2.2.1,.string x.2.2.2.2.2.2]
abbrev rao{a1:Type}(x:Int×Int×List a1×(Int×Int×ByteArray)×ByteArray×Int×Int)(A1:Option Addr)(c1:Nat):Value:=.agg #[i x.1,i x.2.1,.slice A1 x.2.2.1.length c1,i x.2.2.2.1.1,i x.2.2.2.1.2.1,.string x.2.2.2.1.2.2,.string x.2.2.2.2.1,i x.2.2.2.2.2.1,i x.2.2.2.2.2.2]
abbrev rap(x:Int×Int×ByteArray):Value:=.agg #[i x.1,i x.2.1,.string x.2.2]
abbrev raq(x:Int×Int×ByteArray×Int):Value:=.agg #[i x.1,i x.2.1,.string x.2.2.1,i x.2.2.2]
abbrev rar(x:Int×ByteArray):Value:=.agg #[i x.1,.string x.2]
abbrev ras{a1:Type}{a2:Type}{a3:Type}(x:List a1×List a2×List a3)(A1:Option Addr)(c1:Nat)(A2:Option Addr)(c2:Nat)(A3:Option Addr)(c3:Nat):Value:=.agg #[.slice A1 x.1.length c1,.slice A2 x.2.1.length c2,.slice A3 x.2.2.length c3]
abbrev raa(x:Int×Int):List Value:=[i x.1,i x.2]
abbrev rab(x:Int×Int×Int×Int×Int×Int×Int×Int):List Value:=[i x.1,i x.2.1,i x.2.2.1,i x.2.2.2.1,i x.2.2.2.2.1,i x.2.2.2.2.2.1,i x.2.2.2.2.2.2.1,i x.2.2.2.2.2.2.2]
abbrev rac(x:(Int×Int)×(Int×Int)×Int×Int×Int×Int×Int×Int×Int×Int):List Value:=[i x.1.1,i x.1.2,i x.2.1.1,i x.2.1.2,i x.2.2.1,i x.2.2.2.1,i x.2.2.2.2.1,i x.2.2.2.2.2.1,i x.2.2.2.2.2.2.1,i x.2.2.2.2.2.2.2.1,i x.2.2.2.2.2.2.2.2.1,i x.2.2.2.2.2.2.2.2.2]
abbrev rad(x:Int×Int):Value:=.agg #[i x.1,i x.2]
abbrev rae(x:Int×Int×Int×Int×Int×Int×Int×Int):Value:=.agg #[i x.1,i x.2.1,i x.2.2.1,i x.2.2.2.1,i x.2.2.2.2.1,i x.2.2.2.2.2.1,i x.2.2.2.2.2.2.1,i x.2.2.2.2.2.2.2]
abbrev raf(x:(Int×Int)×Int):Value:=.agg #[i x.1.1,i x.1.2,i x.2]
abbrev rag(x:(Int×Int)×(Int×Int)×Int×Int×Int×Int×Int×Int×Int×Int):Value:=.agg #[i x.1.1,i x.1.2,i x.2.1.1,i x.2.1.2,i x.2.2.1,i x.2.2.2.1,i x.2.2.2.2.1,i x.2.2.2.2.2.1,i x.2.2.2.2.2.2.1,i x.2.2.2.2.2.2.2.1,i x.2.2.2.2.2.2.2.2.1,i x.2.2.2.2.2.2.2.2.2]
end Go.A
end
def Jy:=@Go.A.AL.done
def Jz:=@Go.A.Ct.enter
def J1:=@Go.A.AL.alloc
def J2:=@Go.Z.i64_has
def J3:=@Go.A.AX.join
def J4:=@Go.A.AL.box
def J5:=@Go.A.pb
def J6:=@Go.A.AH.one
def J7:=@Go.A.AH.done
def J8:=@Go.A.xl
def J9:=@Go.A.q0
def Va:=@Go.A.AH.nx
def Vb:=@Go.A.ck
def Vc:=@Go.A.zc
def Vd:=@Go.A.z0
def Ve:=@Go.A.zf
def Vf:=@Go.A.zb
def Vg:=@Go.A.hq
def Vh:=@Go.A.zj
def Vi:=@Go.A.AL.on
def Vj:=@Go.A.j
def Vk:=@Go.A.r_ixa
def Vl:=@Go.A.zk
def Vm:=@Go.A.Hp.blk
def Vn:=@Go.A.AX.dr
def Vo:=@Go.A.no0
def Vp:=@Go.A.sw
def Vq:=@Go.A.AH.v
def Vr:=@Go.A.si
def Vs:=@Go.A.lp_
def Vt:=@Go.A.zh
def Vu:=@Go.A.zg
def Vv:=@Go.A.AL.cnd
def Vw:=@Go.A.AL.ixs
def Vx:=@Go.A.AL.bsl
def Vy:=@Go.A.v
def Vz:=@Go.A.AX.ret
def V0:=@Go.A.AL.store
def V1:=@Go.A.AH.pks
def V2:=@Go.A.AL.app
def V3:=@Go.A.dl
def V4:=@Go.A.g
def V5:=@Go.A.b
def V6:=@Go.A.ze
def V7:=@Go.A.lt_some
def V8:=@Go.Z.rv_t
def V9:=@Go.A.zd
def Ua:=@Go.A.xe
def Ub:=@Go.Z.resv2
def Uc:=@Go.A.zi
def Ud:=@Go.A.AL.cnp
def Ue:=@Go.A.AH.pkl
def Uf:=@Go.A.n
def Ug:=@Go.A.rt2
def Uh:=@Go.A.AL.ixl
def Ui:=@Go.Z.rv_n
def Uj:=@Go.A.xx
def Uk:=@Go.A.nil
def Ul:=@Go.A.rowO
def Um:=@Go.A.dx
def Un:=@Go.A.AH.vg
def Uo:=@Go.A.de
def Up:=@Go.A.m
def Uq:=@Go.A.c
def Ur:=@Go.A.d
def Us:=@Go.A.AH.cnp
def Ut:=@Go.A.AX.cnt
def Uu:=@Go.A.mvd
def Uv:=@Go.Z.slice_n
def Uw:=@Go.A.rt1
def Ux:=@Go.Z.resv1
def Uy:=@Go.A.AX.cnf
def Uz:=@Go.Z.mget_ins
def U0:=@Go.A.AX.rtM
def U1:=@Go.A.szl
def U2:=@Go.A.AH.pko
def U3:=@Go.A.AL.ixo
def U4:=@Go.A.AL.call
def U5:=@Go.A.AH.cnd
def U6:=@Go.A.AL.lku
def U7:=@Go.Z.rv_1
def U8:=@Go.A.AH.nm
def U9:=@Go.A.AL.val
def Ka:=@Go.A.r_ixo
def Kc:=@Go.A.snil
def Kd:=@Go.A.AL.mup
def Ke:=@Go.A.AH.two
def Kf:=@Go.A.Ct.enterM
def Kg:=@Go.A.AL.mkm
def Kh:=@Go.A.AL.ixt
def Ki:=@Go.A.AH.q
def Kj:=@Go.A.drop_at
def Kk:=@Go.A.AE.flip
def Kl:=@Go.A.cst
def Km:=@Go.A.r_ixt
def Ko:=@Go.A.el
def Kp:=@Go.A.ex
def Kq:=@Go.A.seen_bd
def Kr:=@Go.A.AL.lk2
def Ks:=@Go.A.AE.bn
def Kt:=@Go.A.r_lkf
section
namespace Go.Z
open Go.RowKit
section
variable {κ:Type}[DecidableEq κ]{α:Type}
def mdel:List (κ×α)->κ->List (κ×α)
 | [],_=>[]
 |(a,y)::r,k=>if k=a then r else(a,y)::mdel r k
def Qjz {β γ:Type}(f:β->γ): ∀(l:List β) (i:Nat),(l.eraseIdx i).map f=(l.map f).eraseIdx i
 | [],_=>rfl
 |_::_,0=>rfl
 |a::l,i+1=>by simp only[List.eraseIdx_cons_succ,Q1,Qjz f l i]
def mdel_loc {m:List (κ×α)}{k:κ}:mdel m k=match loc k (m.map Prod.fst)with
  |some i=>m.eraseIdx i
  |none=>m:=by
 induction m with
 |nil=>simp[mdel,loc]
 |cons p r E=>
  obtain⟨a,y⟩:=p;simp only[Q1,loc,mdel];by_cases hk:k=a;subst hk;simp;rw[Qb hk,Qb hk,E];cases loc k (r.map Prod.fst)<;>simp
def mdel_ne (z:α)(m:List (κ×α))(k j:κ)(h:j≠k):mget z (mdel m k) j=mget z m j/\mhas (mdel m k) j=mhas m j:=by
 induction m with
 |nil=>exact⟨rfl,rfl⟩
 |cons p r E=>
  obtain⟨a,y⟩:=p;unfold mdel;by_cases hk:k=a;subst hk;simp[mget,mhas,h];rw[Qb hk];simp only[mget,mhas,E.1,E.2,and_self]
def mdel_keys (m:List (κ×α))(k x:κ)(h:x∈(mdel m k).map Prod.fst):x∈m.map Prod.fst:=by
 induction m with
 |nil=>exact h
 |cons p r E=>
  obtain⟨a,y⟩:=p;unfold mdel at h;by_cases hk:k=a;rw[Qc hk]at h;exact Qf _ h;rw[Qb hk,Q1]at h;rcases Qk.1 h with h|h
  rw[h];exact Qi ..;exact Qf _ (E h)
def mdel_nodup {m:List (κ×α)}(h:(m.map Prod.fst).Nodup)(k:κ):((mdel m k).map Prod.fst).Nodup/\mhas (mdel m k) k=false:=by
 induction m with
 |nil=>exact⟨X5,rfl⟩
 |cons p r E=>
  obtain⟨a,y⟩:=p;rw[Q1,Wm]at h;unfold mdel;by_cases hk:k=a;subst hk;rw[Qc rfl];refine⟨h.2,?_⟩;cases I:mhas r k with
  |false=>rfl
  |true=>exact absurd ((mhas_iff _ _).1 I) h.1
  rw[Qb hk,Q1,Wm];refine⟨⟨λL=>h.1 (mdel_keys r k a L),(E h.2).1⟩,?_⟩;simp only[mhas,Qb hk];exact(E h.2).2
end
section
variable {r:Option Nat}{P:Program}{ops:Array Oper}{Q:Exit->Act->World->Prop}{a:Act}{w:World}{rest:List Oper}{n:Nat}{ds:List Deferred}{l:List (Nat×Value)}{d:Nat}{T:TypeId}{pos:String}{af:Array Edge}
variable {κ:Type}[DecidableEq κ]{enc:κ->Value}{kt et tt kt2:TypeId}{t:Ty}{agg:Bool}{F:Nat->Prop}{b:Nat}{m:List (κ×t.den)}
def valw0 {op:Op}{v:Value}{w':World}(E:Fr a n ds l)(I:(execOp a.eval ⟨none,op,T,pos,af,none⟩).run P w=.ok (.value v) w')
  (h: ∀a',Fr a' n ds l->WL r P ops Q rest a' w'):WL r P ops Q (⟨none,op,T,pos,af,none⟩::rest) a w:=
 stepw rfl I (λ_ h=>by cases h) λ_ L=>L _ _ (h _ (E.put_none v))
def run_mapDelete {ty:TypeId}(K:Ky P kt enc)(ht:P.underlying tt=some (.map kt et))(hm:Mt enc t agg w F b m)(k:κ)(hF: ∀b',F b'->b'≠b):
  ∃w',(Builtin.delete_ #[tt,kt2] ty #[.map (some b),enc k]).run P w=.ok (.tuple #[]) w'/\Ch [b] w w'/\w'.heap.size=w.heap.size/\Mt enc t agg w' F b (mdel m k):=by
 have I:=hm.lt;obtain⟨es,⟨arr,clock,W,N,h4,h5⟩,O,V⟩:=hm;have hk:=Qju N O V;have hfind:=Qap K k w arr (m.map Prod.fst) hk;have hget:(getObj b).run P w=.ok (.map arr.toArray clock) w:=by simp[getObj,Sem.run,W]
 have hlen:arr.length=m.length:=by rw[<-O,<-N,Qw]
 have step: ∀o,∀cs' x,t.rep w F cs' x->t.rep (w.putObj b o) F cs' x:=λo cs' x h=>rep_to h (Ch.putObj w b o) λb' hb' _=>⟨by simp only[Qn];exact hF b' hb',hb'⟩;cases hloc:loc k (m.map Prod.fst)with
 |none=>
  rw[hloc]at hfind;refine⟨w.putObj b (.map arr.toArray clock),?_,Ch.putObj w b _,by simp,?_⟩;simp only[Builtin.delete_,Wu,Xh,Wi,Sem.run_bind,run_underlying ht,Result.andThen_ok,hget,K.check,hfind,Ys,MapC.set W,Sem.run_pure];rw[mdel_loc,hloc];exact⟨es,⟨arr,clock,World.putObj_heap_same (o:=.map arr.toArray clock) I,N,h4,h5⟩,O,λi p hp=>by obtain⟨cs,h6,L⟩:=V i p hp;exact⟨cs,h6,step _ _ _ L⟩⟩
 |some i=>
  rw[hloc]at hfind;have hil:i<m.length:=by
   have: ∀(ks:List κ) i,loc k ks=some i->i<ks.length:=by
    intro ks;induction ks with
    |nil=>intro i h;simp[loc]at h
    |cons x r ih=>
     intro i h;simp only[loc]at h;by_cases hx:k=x;rw[Qc hx]at h;injection h with h;subst h;simp
     rw[Qb hx,Yk]at h;obtain⟨j,hj,rfl⟩:=h;have:=ih j hj;simp;omega
   have:=this _ _ hloc;rwa[Qw]at this
  obtain⟨e,he⟩: ∃e,arr[i]?=some e:=⟨_,Qg (by omega)⟩;have hera:(arr.toArray.eraseIdxIfInBounds i)=(arr.eraseIdx i).toArray:=by
   rw[Array.eraseIdxIfInBounds,dif_pos (by simp;omega)];simp
  refine⟨w.putObj b (.map (arr.toArray.eraseIdxIfInBounds i) clock),?_,Ch.putObj w b _,by simp,?_⟩;simp only[Builtin.delete_,Wu,Xh,Wi,Sem.run_bind,run_underlying ht,Result.andThen_ok,hget,K.check,hfind,Qa,he,Wg,MapC.set W,Sem.run_pure];rw[mdel_loc,hloc];refine⟨es.eraseIdx i,⟨arr.eraseIdx i,clock,?_,?_,λe he=>h4 e (List.mem_of_mem_eraseIdx he),?_⟩,?_,λj p hp=>?_⟩;rw[<-hera];exact World.putObj_heap_same (o:=.map (arr.toArray.eraseIdxIfInBounds i) clock) I;rw[<-N,Qjz];rw[Qjz];exact h5.sublist (List.eraseIdx_sublist ..);rw[List.length_eraseIdx,List.length_eraseIdx,O];rw[List.getElem?_eraseIdx]at hp;rw[List.getElem?_eraseIdx];split at hp;rename_i E;obtain⟨cs,h6,L⟩:=V j p hp;exact⟨cs,by rw[Qc E];exact h6,step _ _ _ L⟩;rename_i E;obtain⟨cs,h6,L⟩:=V _ p hp;exact⟨cs,by rw[Qb E];exact h6,step _ _ _ L⟩
end
end Go.Z
namespace Go.A
open Go.RowKit Go.Z
section
variable {r:Option Nat}{P:Program}{ops:Array Oper}{Q:Exit->Act->World->Prop}{rest lst:List Oper}{C:Cx}{l:List (Nat×Value)}{H:List (Nat×Res)}{d:Nat}{op:Op}{T:TypeId}{pos:String}{af:Array Edge}
variable {κ:Type}[DecidableEq κ]{enc:κ->Value}{kt et tt kt2:TypeId}{t:Ty}{agg:Bool}{b:Nat}{m:List (κ×t.den)}
def AL.mdl (k:Nat)(js:List Nat){x y:Operand}(K:Ky P kt enc)(key:κ)(h:AL r P ops Q rest C l ((k,.mp κ enc t agg b (mdel m key))::ded js H))
  (E:hk H k=some (.mp κ enc t agg b m):=by rfl) (hx:ev l x=some (.map (some b)):=by rfl) (hy:ev l y=some (enc key):=by rfl) (ht:P.underlying tt=some (.map kt et):=by rfl) (I:hng [k] js H=true:=by kernel_rfl):
  AL r P ops Q (⟨none,.call {callee:=.builtin .delete,args:=#[x,y],argTypes:=#[tt,kt2]},T,pos,af,none⟩::rest) C l H:=λa w L W=>by
 have hm:Mt enc t agg w (Fh C H) b m:=W.hold k _ E;have hm':Mt enc t agg w (λb=>Fh C H b/\b<w.heap.size) b m:=by
  obtain⟨es,N,O,h3⟩:=hm;refine⟨es,N,O,λi p hp=>?_⟩;obtain⟨cs,V,h5⟩:=h3 i p hp;exact⟨cs,V,Qaf t h5⟩
 obtain⟨w',N,O,h3,V⟩:=run_mapDelete (kt2:=kt2) (ty:=T) K ht hm' key (λb' hb' e=>hb'.1.1 k ⟨_,E,by rw[e];simp[Res.bl]⟩);refine Z.valw0 (w':=w') (v:=.tuple #[]) L ?_ λa' hf'=>h a' w' hf' (Hp.dd (W.upd O (λb' hb'=>⟨_,E,hb'⟩) (λb' hb'=>.inl ⟨_,E,hb'⟩) (λj I=>by cases I) λF B hF _ _ _ _=>?_) I);simp only[execOp,resolve,invoke,builtin,Sem.run_bind,Sem.run_pure,Result.andThen_ok,Ya,Q1,Xk,L.eval hx,L.eval hy,N];exact V.to (Ch.refl w') (by simp) λb' hb' _=>⟨by simp,hF b' hb'.1 hb'.2⟩
end
section
variable {r:Option Nat}{P:Program}{ops:Array Oper}{Q:Exit->Act->World->Prop}{rest lst:List Oper}{C:Cx}{l:List (Nat×Value)}{H:List (Nat×Res)}{d:Nat}{op:Op}{T T2:TypeId}{pos pos2:String}{af af2:Array Edge}
end
end Go.A
end
section
namespace Go.Z
open Go.RowKit
section
variable {r:Option Nat}{P:Program}{ops:Array Oper}{Q:Exit->Act->World->Prop}{a:Act}{w:World}{rest:List Oper}{n:Nat}{ds:List Deferred}{l:List (Nat×Value)}{d:Nat}{T:TypeId}{pos:String}{af:Array Edge}
end
end Go.Z
namespace Go.A
open Go.RowKit Go.Z
section
variable {P:Program}{a:Act}{w:World}{d:Option Tmp}{T tt ty e:TypeId}{pos:String}{af:Array Edge}{n:Nat}{ds:List Deferred}{l:List (Nat×Value)}{x y:Operand}{A:Option Addr}
end
section
variable {C:Cx}{l:List (Nat×Value)}{H:List (Nat×Res)}{X:Act->World->Prop}
end
section
variable {r:Option Nat}{P:Program}{ops:Array Oper}{Q:Exit->Act->World->Prop}{rest lst:List Oper}{C:Cx}{l:List (Nat×Value)}{H:List (Nat×Res)}{d:Nat}{T:TypeId}{pos:String}{af:Array Edge}
end
section
variable {r:Option Nat}{P:Program}{ops:Array Oper}{Q:Exit->Act->World->Prop}{rest lst:List Oper}{C:Cx}{l:List (Nat×Value)}{H:List (Nat×Res)}{d:Nat}{T:TypeId}{pos:String}{af:Array Edge}
end
end Go.A
end
section
set_option linter.tactic.unusedName false
namespace Go.Dr
open Go
def R {α:Type}(n:Nat):Result α->Prop
 | .ok _ w=>n<=w.drawn
 | .halt _ w=>n<=w.drawn
def ask {α:Type}: ∀(a:Ask α) (w:World),w.drawn<=(w.ask a).2.drawn
 | .done a,w=>Qt _
 | .ask what range k,w=>by
  unfold World.ask;dsimp only;split;exact ask _ w;exact Wq (Nat.le_succ _) (ask _ {w with drawn:=w.drawn+1})
def sys (w:World)(c:Sys):w.drawn<=(w.sys c).2.drawn:=by
 unfold World.sys;have h:=ask (Kernel.perform c w.os) w;split;exact Qt _;rename_i e;rw[e]at h;exact h
def EP {ε α:Type}(P:α->Prop)(x:Except ε α):Prop:=∀a,x=.ok a->P a
def eb {ε α β:Type}{P:β->Prop}{x:Except ε α}{f:α->Except ε β}(h: ∀a,EP P (f a)):EP P (x >>= f):=λb E=>by
 cases x with
 |error e=>cases E
 |ok a=>exact h a b E
def et {α:Type}{P:α->Prop}{e:String}:EP P (MonadExcept.throw e:Except String α):=λ_ h=>by cases h
def ep {ε α:Type}{P:α->Prop}{a:α}(h:P a):EP P (pure a:Except ε α):=λb E=>by injection E with E;subst E;exact h
def vs0 (w:World)(p:Program)(at_:Addr)(u:TypeId)(a:Addr)(v:Value)(b:Bool):EP (λr=>r.1.drawn=w.drawn) (w.viewStore p at_ u a v b):=by
 unfold World.viewStore;dsimp only;repeat' first|exact et|exact ep rfl|(refine eb λ_=>?_)|split|dsimp only
def vs {w w':World}{p:Program}{at_:Addr}{u:TypeId}{a:Addr}{v:Value}{b:Bool}{l:List Addr}(h:w.viewStore p at_ u a v b=.ok (w',l)):w'.drawn=w.drawn:=vs0 w p at_ u a v b _ h
def fs {w w':World}{p:Program}{a:Addr}{v:Value}{b:Bool}{l:List Addr}(h:w.farStore p a v b=.ok (w',l)):w'.drawn=w.drawn:=by
 unfold World.farStore at h;split at h;split at h;rename_i e;injection h with h;subst h;exact vs e
 cases h;cases h
def run {α:Type}(p:Program)(n:Nat): ∀(s:Sem α) (w:World),n<=w.drawn->R n (s.run p w):=by
 intro s;induction s with
 |pure a=>intro w h;exact h
 |load m a k E=>
  intro w h;unfold Sem.run;split;exact E _ w h
  (split)
  exact E _ w h;exact h
 |store m a v k E=>
  intro w h;cases v;all_goals
   unfold Sem.run;first|exact h|skip
  all_goals
   split
   (split)
   exact h;exact E _ h
   (split)
   rename_i e;exact E _ (by rw[fs e];exact h);exact h
 |choose q k E=>
  intro w h;unfold Sem.run;split;exact E _ w h;exact E _ _ (Nat.le_succ_of_le h)
 |sys c k E=>intro w h;unfold Sem.run;exact E _ _ (Wq h (sys w c))
 |new o k E=>intro w h;unfold Sem.run;exact E _ _ h
 |shape r k E=>intro w h;unfold Sem.run;exact E _ _ h
 |freeze a n k E=>intro w h;unfold Sem.run;refine E _ ?_;unfold World.freeze;((repeat' split)<;>(exact h))
 |frozen a k E=>intro w h;unfold Sem.run;exact E _ _ h
 |getObj r k E=>intro w h;unfold Sem.run;((repeat' split)<;>(first|exact h|exact E _ _ h))
 |setObj r o k E=>intro w h;unfold Sem.run;((repeat' split)<;>(first|exact h|exact E _ h))
 |program k E=>intro w h;unfold Sem.run;exact E _ _ h
 |mark m k E=>intro w h;unfold Sem.run;exact E _ h
 |halt x=>intro w h;exact h
def runT {α:Type}(p:Program)(n:Nat)(s:Sem α)(w:World)(es:Array Event)(h:n<=w.drawn):R n (s.runT p w es).1:=by
 induction s generalizing w es with
 |pure a=>exact h
 |halt x=>exact h
 |choose q k E=>
  unfold Sem.runT;split;exact E _ w _ h;exact E _ _ _ (Nat.le_succ_of_le h)
 |sys c k E=>unfold Sem.runT;exact E _ _ _ (Wq h (sys w c))
 |freeze a n k E=>unfold Sem.runT;refine E _ _ ?_;unfold World.freeze;((repeat' split)<;>(exact h))
 |store m a v k E=>
  cases v;all_goals
   unfold Sem.runT;first|exact h|skip
  all_goals
   split
   (split)
   exact h;exact E _ _ h
   (split)
   rename_i e;exact E _ _ (by rw[fs e];exact h);exact h
 |_=>
  unfold Sem.runT;repeat' split
  all_goals first|exact h|(rename_i E;exact E _ _ _ h)|(rename_i E;exact E _ _ h)|(rename_i E _;exact E _ _ _ h)|(rename_i E _;exact E _ _ h)|(rename_i E _ _;exact E _ _ _ h)|(rename_i E _ _;exact E _ _ h)|(rename_i E _ _ _;exact E _ _ _ h)|(rename_i E _ _ _;exact E _ _ h)|(rename_i E _ _ _ _;exact E _ _ _ h)|(rename_i E _ _ _ _;exact E _ _ h)|(rename_i E _ _ _ _ _;exact E _ _ _ h)|(rename_i E _ _ _ _ _ _;exact E _ _ _ h)
def G (n:Nat):GStep->Prop
 | .go _ w _| .comm _ _ _ _ w _| .spawn _ _ w _| .count _ w _| .timer _ _ w _| .alone _ _ w _| .newcoro _ _ _ w _| .coroswitch _ _ _ w _| .collect _ w _| .watch _ w _=>n<=w.drawn
 | .ended _ _ _=>True
def after {n:Nat}{es:Array Event}{g:GStep}(h:G n g):G n (g.after es):=by cases g<;>exact h
variable {p:Program}{n:Nat}{w:World}
def ro {α:Type}{s:Sem α}{v:α}{w':World}(e:s.run p w=.ok v w')(h:n<=w.drawn):n<=w'.drawn:=by have:=run p n s w h;rw[e]at this;exact this
def rh {α:Type}{s:Sem α}{v:Halt}{w':World}(e:s.run p w=.halt v w')(h:n<=w.drawn):n<=w'.drawn:=by have:=run p n s w h;rw[e]at this;exact this
def gi {c:Prop}[Decidable c]{a b:GStep}(E:G n a)(I:G n b):G n (if c then a else b):=by split<;>assumption
def rto {α:Type}{s:Sem α}{v:α}{w':World}{es es':Array Event}(e:s.runT p w es=(.ok v w',es'))(h:n<=w.drawn):n<=w'.drawn:=by have:=runT p n s w es h;rw[e]at this;exact this
def rtr {α:Type}{s:Sem α}{r:Result α}{es es':Array Event}(e:s.runT p w es=(r,es'))(h:n<=w.drawn):R n r:=by have:=runT p n s w es h;rw[e]at this;exact this
def rth {α:Type}{s:Sem α}{v:Halt}{w':World}{es es':Array Event}(e:s.runT p w es=(.halt v w',es'))(h:n<=w.drawn):n<=w'.drawn:=by have:=runT p n s w es h;rw[e]at this;exact this
def endThrow (fr:Frame)(m:String)(h:n<=w.drawn):G n (Go.endThrow fr m w):=h
def endPrinting (fr:Frame)(v:Value)(h:n<=w.drawn):G n (Go.endPrinting p fr v w):=by
 unfold Go.endPrinting;dsimp only;split;exact h;trivial
def endWith (fd:Nat)(t:ByteArray)(o:Outcome):G n (Go.endWith w fd t o):=by
 unfold Go.endWith;dsimp only;((repeat' split)<;>(trivial))
def endFatal (fr:Frame)(cs:List Frame)(d:Option Dying)(m:String)(h:n<=w.drawn):G n (Go.endFatal p fr cs d m w):=by
 unfold Go.endFatal;extract_lets;split;rename_i e;exact ro e h;trivial;trivial
def writeOn (fr:Frame)(d:Dying)(f:Fatal)(h:n<=w.drawn):G n (Go.writeOn p fr d f w):=by
 unfold Go.writeOn;extract_lets;split;trivial
 ·extract_lets
  split;all_goals first|trivial|(rename_i e;exact rto e h)|(rename_i e;exact rth e h)
def die (fr:Frame)(d:Dying)(h:n<=w.drawn):G n (Go.die p fr d w):=by
 unfold Go.die;split;exact writeOn _ _ _ h
 ·(split)
  (split)
  exact h;exact endWith _ _ _
  ·extract_lets d2
   split;exact h
   (split)
   rename_i e;exact ro e h;trivial
   ·rename_i t recv name _
    have E:=runT p n (invoke (.fn (.method name) #[]) #[.iface t recv]) w #[] h;split;rename_i r es e;rw[e]at E;refine after ?_;split;all_goals first|trivial|exact E|exact endPrinting _ _ E
   trivial
def doReturn (main:Bool)(fr:Frame)(cs:List Frame)(d:Option Dying)(v:Value)(h:n<=w.drawn):G n (Go.doReturn p main fr cs d v w):=by
 unfold Go.doReturn;repeat' split
 all_goals first|trivial|exact h
def callDeferred (fr:Frame)(cs:List Frame)(dy:Option Dying)(d:Deferred)(h:n<=w.drawn):G n (Go.callDeferred p fr cs dy d w):=by
 unfold Go.callDeferred;refine gi trivial ?_
 ·have E:=runT p n (invoke d.target d.args) w #[] h
  split;rename_i r es e;rw[e]at E;extract_lets;refine after ?_;split;all_goals first|trivial|exact E|exact endFatal _ _ _ _ E|exact endThrow _ _ E|(split<;>first|trivial|exact E)
def unwind (main:Bool)(fr:Frame)(cs:List Frame)(dy:Option Dying)(h:n<=w.drawn):G n (Go.unwind p main fr cs dy w):=by
 unfold Go.unwind;split;rename_i block _ _ _;have E:=runT p n (Instr.takeDeferred block) w #[] h;split;rename_i r es e;rw[e]at E;refine after ?_;split;exact E;trivial;exact callDeferred _ _ _ _ h
 (split)
 trivial
 (split)
 trivial
 (split)
 exact h
 (split)
 (split)
 exact h
 (split)
 rename_i e;exact ro e h;trivial;trivial
 (split)
 exact endPrinting _ _ h;trivial
 (split)
 exact doReturn _ _ _ _ _ h;rename_i fn _;have E:=runT p n (results fn fr.tmps) w #[] h;split;rename_i r es e;rw[e]at E;refine after ?_;split;exact doReturn _ _ _ _ _ E;trivial;trivial
def early (fr:Frame)(cs:List Frame)(dy:Option Dying)(g:Nat)(h:n<=w.drawn):G n (Go.early p fr cs dy g w):=by
 unfold Go.early;extract_lets refuse notYet;have I: ∀w:World,n<=w.drawn->G n (notYet w):=λw h=>by
  show G n (match w.heap[g]? with|some (.pending c elem)=>_|_=>_);split;exact h;trivial
 split;exact I w h
 ·(split)
  trivial
  ·extract_lets there
   have E: ∀w:World,n<=w.drawn->G n (there w):=λw h=>h;repeat' split
   all_goals first|trivial|exact I w h|exact E w h|(rename_i e;exact I _ (ro e h))|(rename_i e;exact E _ (ro e h))|(rename_i e _;exact E _ (ro e h))|(rename_i _ e;exact E _ (ro e h))
def oe {α:Type}{o:Option α}{a:GStep}{f:α->GStep}(E:G n a)(I: ∀x,G n (f x)):G n (o.elim a f):=by cases o with
 |none=>exact E
 |some x=>exact I x
def app (listen:Bool)(fr:Frame)(cs:List Frame)(dy:Option Dying)(s:Sem Next)(h:n<=w.drawn):G n (Go.stepG.apply p listen fr cs dy s w):=by
 unfold Go.stepG.apply;extract_lets;have E:R n (if listen=true then s.runT p w #[]else(s.run p w,#[])).1:=by
  split;exact runT p n s w #[] h;exact run p n s w h
 split;rename_i r es e;rw[e]at E;extract_lets;refine after ?_;split;all_goals first|trivial|exact E|exact endFatal _ _ _ _ E|exact endThrow _ _ E|exact early _ _ _ _ E|(split<;>first|trivial|exact E|(exact gi (endThrow _ _ E) E))|exact gi (endThrow _ _ E) E
def oper (listen:Bool)(fr:Frame)(cs:List Frame)(dy:Option Dying)(h:n<=w.drawn):G n (Go.stepG.oper p listen fr cs dy w):=by
 unfold Go.stepG.oper;repeat' split
 all_goals first|trivial|exact app _ _ _ _ _ h
def exec (main listen:Bool)(fr:Frame)(cs:List Frame)(dy:Option Dying)(h:n<=w.drawn):G n (Go.stepG.exec p main listen fr cs dy w):=by
 unfold Go.stepG.exec;extract_lets go tgo lost leave;have L: ∀fr w,n<=w.drawn->G n (go fr w):=λ_ _ h=>h;have E: ∀k,G n (tgo k):=λk=>h;have hlost: ∀k,G n (lost k):=λk=>trivial;have hleave: ∀j,G n (leave j):=λj=>by
  unfold leave;split;refine gi h trivial
  (split)
  rename_i r es e;have I:=rtr e h;refine after ?_;split;exact doReturn _ _ _ _ _ I;trivial
 split;case h_1=>exact hleave none
 case h_2=>exact hleave (some .ret)
 case h_13=>exact oe (hleave (some (.exit _))) E
 case h_14=>exact oe (hleave (some (.goto _))) E
 all_goals first
  |exact E _|trivial|exact app _ _ _ _ _ h|exact hlost _
  |(split<;>first|exact E _|exact hlost _)
  |(refine gi (E _) ?_;split<;>first|trivial|(rename_i e;exact ro e h))
  |(refine gi (oper _ _ _ _ h) ?_;exact h)
  |exact oe (hlost _) λ_=>app _ _ _ _ _ h
  |(split;rename_i r es e;have I:=rtr e h;refine after ?_;split<;>first|trivial|exact I|exact app _ _ _ _ _ I)
def stepG (main listen:Bool)(g:Goroutine)(h:n<=w.drawn):G n (Go.stepG p main g w listen):=by
 unfold Go.stepG;split;split;exact die _ _ h;exact exec _ _ _ _ _ h;exact unwind _ _ _ _ h
def S (n:Nat):Stepped->Prop
 | .next m=>n<=m.world.drawn
 | .ended _ _=>True
def si {c:Prop}[Decidable c]{a b:Stepped}(E:S n a)(I:S n b):S n (if c then a else b):=by split<;>assumption
def si1 {α:Type}{c:Prop}[Decidable c]{a b:Stepped×α}(E:S n a.1)(I:S n b.1):S n (if c then a else b).1:=by split<;>assumption
def waitingAt {rest:Rest}{cs:Array CommCase}{w w':World}(h:Go.waitingAt rest cs w=some w'):w'.drawn=w.drawn:=by
 unfold Go.waitingAt at h;split at h;split at h;injection h with h;subst h;rfl
 cases h;injection h with h;subst h;rfl
def comm (rest:Rest)(gs:Array Goroutine)(i:Nat)(g:Goroutine)(cases:Array CommCase)(b:Bool)(sh:CommShape)(h:n<=w.drawn):S n (communicate p rest gs i g cases b sh w).1:=by
 unfold communicate;extract_lets put;refine si1 trivial ?_;extract_lets ready;refine si1 ?_ ?_;refine si1 ?_ h;split;rename_i e;show n<=World.drawn _;rw[waitingAt e];exact h;trivial;extract_lets pick;split;trivial;rename_i e;have E:=ro e h;extract_lets r;split
 (split)
 rename_i e2;exact rh e2 E;trivial;exact E;exact E;extract_lets v buf;split;exact E
 (split)
 rename_i e3;have I:=ro e3 E;exact I;trivial;exact E;exact E;trivial
def look (gs:Array Goroutine)(rest:Rest)(h:n<=w.drawn):S n (Go.look p gs rest w):=by
 unfold Go.look;split
 (split)
 extract_lets;refine si trivial ?_;extract_lets;split;trivial;extract_lets;split;rename_i e;have E:=ro e h;exact E;trivial;trivial;trivial
def drain (w:World)(c:Nat):(Go.drain w c).2.drawn=w.drawn:=by
 unfold Go.drain;split<;>rfl
def retime (m:Machine)(k:Nat)(t:Timer)(a b:Nat):(Go.retime m k t a b).2.world.drawn=m.world.drawn:=by
 unfold Go.retime;split;rename_i e;split at e;rename_i c _;have:=drain m.world c;rw[e]at this;exact this;injection e with _ e;subst e;rfl
def named (m:Machine)(v:Addr)(f:Nat->Timer->Value×Machine){d:Nat}(E: ∀k t,(f k t).2.world.drawn=d){r:Value×Machine}(e:timerOp.named m v f=.ok r):r.2.world.drawn=d:=by
 unfold timerOp.named at e;split at e;injection e with e;subst e;exact E _ _
 cases e
def opened {m m':Machine}{v:Addr}(e:timerOp.opened m v=some m'):m'.world.drawn=m.world.drawn:=by
 unfold timerOp.opened at e;split at e;split at e;injection e with e;subst e;rfl
 cases e;injection e with e;subst e;rfl
def timer (m:Machine)(op:TimerOp){r:Value×Machine}(e:timerOp m op=.ok r):r.2.world.drawn=m.world.drawn:=by
 unfold timerOp at e;split at e;split at e;injection e with e;subst e;rfl
 split at e;split at e;cases e;injection e with e;subst e;rfl
 cases e;exact named _ _ _ (λ_ _=>retime _ _ _ _ _) e;split at e;rename_i E e1;exact(named _ _ _ (λ_ _=>retime _ _ _ _ _) e).trans (opened e1);cases e;injection e with e;subst e;rfl
def commr {rest:Rest}{gs:Array Goroutine}{i:Nat}{g:Goroutine}{cases:Array CommCase}{b:Bool}{sh:CommShape}{r:Stepped}{ops:Array MemOp}(e:communicate p rest gs i g cases b sh w=(r,ops))(h:n<=w.drawn):S n r:=by have:=comm (p:=p) rest gs i g cases b sh h;rw[e]at this;exact this
def et1 {fr:Frame}{m:String}{g:GStep}(e:Go.endThrow fr m w=g)(h:n<=w.drawn):G n g:=e▸endThrow fr m h
def runM (m:Machine)(i:Nat)(listen:Bool)(h:n<=m.world.drawn):S n (Go.runT p m i listen).1:=by
 unfold Go.runT;extract_lets rest world;split;extract_lets wake fn pos s ops done;have E: ∀r,(done r).1=r:=λ_=>rfl;have hs:G n s:=stepG _ _ _ h;clear_value s;split;trivial
 (split)
 rename_i e;exact commr e hs;all_goals first|exact hs|exact si trivial hs|exact look _ _ hs|skip
 rw[E];split;exact hs
 (split)
 rename_i e;exact et1 e hs;trivial;trivial;rw[E];split;rename_i e;have I:=timer _ _ e;exact Wq hs (Nat.le_of_eq I.symm)
 (split)
 rename_i e;exact et1 e hs;trivial;trivial;trivial
def serve (m:Machine)(k:Nat)(h:n<=m.world.drawn):S n (Go.serve p m k):=by
 unfold Go.serve;split;trivial;exact h;extract_lets;split;trivial;exact h
def M (n:Nat):Move->Prop
 | .goroutine m _=>n<=m.world.drawn
 | .machine s _=>S n s
def askOn (m:Machine)(h:n<=m.world.drawn):M n (Go.askOn p m):=by
 unfold Go.askOn;extract_lets mono rs ds pick;have hp: ∀m:Machine,n<=m.world.drawn->M n (pick m):=λm h=>by
  simp only[pick];split;trivial;rename_i e;have E:=ro e h;split;exact E
  (split)
  trivial;rename_i e2;exact ro e2 E
 clear_value pick;split;trivial;rename_i e;have E:=ro e h;extract_lets L;clear_value rs;split;exact serve _ _ E;cases rs with
 |nil=>
  dsimp only;split;exact E
  (split)
  exact E;split<;>trivial
 |cons a l=>
  dsimp only;split;exact hp _ E
  (split)
  trivial;rename_i e3;exact hp _ (ro e3 E);rename_i e3;have I:=ro e3 E;exact I;rename_i e3;have I:=ro e3 E;exact hp _ I
def ask2 (m:Machine)(h:n<=m.world.drawn):M n (Go.ask p m):=by
 unfold Go.ask;split
 (split)
 trivial;rename_i e;have E:=look (p:=p) m.gs m.rest (ro e h);split;rename_i e2;rw[e2]at E;exact askOn _ E;exact E;rename_i e;exact askOn _ (ro e h);exact askOn _ h
def move (m:Machine)(h:n<=m.world.drawn):M n (Go.move p m):=by
 unfold Go.move;split
 (split)
 exact h;trivial
 (split)
 (split)
 exact h;exact ask2 _ h;exact ask2 _ h
def step (m:Machine)(h:n<=m.world.drawn):S n (Go.step p m):=by
 unfold Go.step stepT;have:=move (p:=p) m h;split;rename_i e;rw[e]at this;exact runM _ _ _ this;rename_i e;rw[e]at this;exact this
def runN: ∀(k:Nat) (m m':Machine),Go.runN p k m=.next m'->n<=m.world.drawn->n<=m'.world.drawn
 |0,m,m',e,h=>by injection e with e;subst e;exact h
 |k+1,m,m',e,h=>by
  have E:=step (p:=p) m h;unfold Go.runN at e;split at e;rename_i e1;rw[e1]at E;exact runN k _ _ e E;rename_i I;exact absurd e (I _)
def steps {m m':Machine}(h:Steps p m m'):m.world.drawn<=m'.world.drawn:=by
 obtain⟨k,hk⟩:=h;exact runN k m m' hk (Qt _)
def calls {f:FuncId}{args:Array Value}{w:World}{Q:Ending->World->Prop}(h:Calls p f args w Q):Calls p f args w λe w'=>Q e w'/\∀v,e=.returned v->w.drawn<=w'.drawn:=λcs=>by
 obtain⟨e,w',fr,hq,E,I,L⟩:=h cs;refine⟨e,w',fr,⟨hq,λv N=>?_⟩,E,I,L⟩;subst N;exact steps E
end Go.Dr
end
section
namespace Go.A
open Go.RowKit Go.Z Go.Shelf Go.Proofs Go.Sort
section
variable {α:Type}
def cl0 (cmp:α->α->Option Int)(x y:α):Bool:=match cmp x y with
 |some c=>decide (c<0)
 |none=>false
def srtI (lt:α->α->Bool)(x:α):List α->List α
 | []=>[x]
 |y::l=>bif lt y x then y::srtI lt x l else x::y::l
def srtL (lt:α->α->Bool):List α->List α
 | []=>[]
 |x::l=>srtI lt x (srtL lt l)
def ordB [DecidableEq α](cmp:α->α->Option Int)(xs:List α):Bool:=xs.all λx=>xs.all λy=>(cmp x y).isSome&&(bif cl0 cmp x y then !cl0 cmp y x else cl0 cmp y x||decide (x=y))&&xs.all λz=> !(cl0 cmp x y&&cl0 cmp y z)||cl0 cmp x z
def srtF [DecidableEq α](cmp:α->α->Option Int)(xs:List α):Option (List α):=if ordB cmp xs=true then some (srtL (cl0 cmp) xs)else none
structure OrdOn (lt:α->α->Bool) (X:List α):Prop where
 asym: ∀x∈X,∀y∈X,lt x y=true->lt y x=false
 tri: ∀x∈X,∀y∈X,lt x y=false->lt y x=false->x=y
 trans: ∀x∈X,∀y∈X,∀z∈X,lt x y=true->lt y z=true->lt x z=true
def OrdOn.nt {lt:α->α->Bool}{X:List α}(O:OrdOn lt X){x y z:α}(I:x∈X)(L:y∈X)(W:z∈X)(h1:lt x y=false)(E:lt y z=false):lt x z=false:=by
 cases N:lt x z with
 |false=>rfl
 |true=>
  cases V:lt y x with
  |true=>rw[O.trans y L x I z W V N]at E;cases E
  |false=>
   have:=O.tri x I y L h1 V;subst this;rw[N]at E;cases E
def ordB_on [DecidableEq α]{cmp:α->α->Option Int}{xs:List α}(h:ordB cmp xs=true):OrdOn (cl0 cmp) xs/\∀x∈xs,∀y∈xs,∃c,cmp x y=some c:=by
 unfold ordB at h;have key: ∀x∈xs,∀y∈xs,((cmp x y).isSome=true/\(bif cl0 cmp x y then !cl0 cmp y x else cl0 cmp y x||decide (x=y))=true)/\∀z∈xs,(!(cl0 cmp x y&&cl0 cmp y z)||cl0 cmp x z)=true:=λx E y I=>by
  have:=Wd.1 (Wd.1 h x E) y I;rw[Qo,Qo,Wd]at this;exact this
 refine⟨⟨λx E y I L=>?_,λx E y I L N=>?_,λx E y I z O L N=>?_⟩,λx E y I=>Option.isSome_iff_exists.1 (key x E y I).1.1⟩;have:=(key x E y I).1.2;rw[L,cond_true,Yp]at this;exact this;have:=(key x E y I).1.2;rw[L,N,cond_false,Xo,Ww]at this;exact this;have:=(key x E y I).2 z O;rw[L,N]at this;exact this
def Qfa (lt:α->α->Bool)(x:α): ∀l:List α,(srtI lt x l).Perm (x::l)
 | []=>List.Perm.refl _
 |y::l=>by
  unfold srtI;cases lt y x with
  |true=>exact((Qfa lt x l).cons y).trans (List.Perm.swap x y l)
  |false=>exact List.Perm.refl _
def srtL_perm (lt:α->α->Bool): ∀l:List α,(srtL lt l).Perm l
 | []=>List.Perm.refl _
 |x::l=>(Qfa lt x _).trans ((srtL_perm lt l).cons x)
def srtI_pw {lt:α->α->Bool}{X:List α}(O:OrdOn lt X){x:α}(L:x∈X): ∀l:List α,(∀a∈l,a∈X)->l.Pairwise (λa b=>lt b a=false)->(srtI lt x l).Pairwise (λa b=>lt b a=false)
 | [],_,_=>List.pairwise_singleton ..
 |y::l,N,hp=>by
  have V:=N y (Qi ..);have I: ∀a∈l,a∈X:=λa W=>N a (Qf _ W);rw[Qu]at hp;unfold srtI;cases h:lt y x with
  |true=>
   refine Qu.2 ⟨λb E=>?_,srtI_pw O L l I hp.2⟩;rcases Qk.1 ((Qfa lt x l).mem_iff.1 E)with rfl|E
   exact O.asym y V b L h;exact hp.1 b E
  |false=>
   refine Qu.2 ⟨λb E=>?_,Qu.2 hp⟩;rcases Qk.1 E with rfl|E
   exact h;exact O.nt (I b E) V L (hp.1 b E) h
def srtL_pw {lt:α->α->Bool}{X:List α}(O:OrdOn lt X): ∀l:List α,(∀a∈l,a∈X)->(srtL lt l).Pairwise (λa b=>lt b a=false)
 | [],_=>List.Pairwise.nil
 |x::l,E=>srtI_pw O (E x (Qi ..)) _ (λa I=>E a (Qf _ ((srtL_perm lt l).mem_iff.1 I))) (srtL_pw O l λa I=>E a (Qf _ I))
def srt_uniq {lt:α->α->Bool}{xs ys:List α}(O:OrdOn lt xs)(hp:ys.Perm xs)(hs:ys.Pairwise (λa b=>lt b a=false)):ys=srtL lt xs:=
 List.Perm.eq_of_pairwise (le:=λa b=>lt b a=false) (λa b E I L N=>O.tri a (hp.mem_iff.1 E) b ((srtL_perm lt xs).mem_iff.1 I) N L) hs (srtL_pw O xs λa h=>h) (hp.trans (srtL_perm lt xs).symm)
end
def Qjv: ∀{t:Ty},t.flat=true->lv t=0
 | .int _,_=>rfl
 | .byte,_=>rfl
 | .bool,_=>rfl
 | .str,_=>rfl
 | .slice _,h=>by cases h
 | .pair a b,h=>by
  simp only[Ty.flat,Qo]at h;show lv a+lv b=0;rw[Qjv h.1,Qjv h.2]
def cl_len: ∀{t:Ty} (x:t.den) (ps:Lf),t.flat=true->(cl t x ps).length=t.size
 | .int _,_,_,_=>rfl
 | .byte,_,_,_=>rfl
 | .bool,_,_,_=>rfl
 | .str,_,_,_=>rfl
 | .slice _,_,_,h=>by cases h
 | .pair a b,x,ps,h=>by
  simp only[Ty.flat,Qo]at h;show(cl a x.1 _++cl b x.2 _).length=a.size+b.size;rw[Qm,cl_len x.1 _ h.1,cl_len x.2 _ h.2]
def cl_one: ∀{t:Ty} (x:t.den) (ps:Lf),t.flat=true->∀v∈cl t x ps,v.oneCell'=true
 | .int _,_,_,_,v,E=>by obtain rfl:=Qn.1 E;rfl
 | .byte,_,_,_,v,E=>by obtain rfl:=Qn.1 E;rfl
 | .bool,_,_,_,v,E=>by obtain rfl:=Qn.1 E;rfl
 | .str,_,_,_,v,E=>by obtain rfl:=Qn.1 E;rfl
 | .slice _,_,_,h,_,_=>by cases h
 | .pair a b,x,ps,h,v,E=>by
  simp only[Ty.flat,Qo]at h;rcases Q2.1 (show v∈cl a x.1 _++cl b x.2 _ from E)with E|E
  exact cl_one x.1 _ h.1 v E;exact cl_one x.2 _ h.2 v E
def rep_cl0 {t:Ty}(E:t.flat=true){w:World}{F:Nat->Prop}{cs:List Value}{x:t.den}(h:t.rep w F cs x):cs=cl t x []:=by
 obtain⟨ps,hp,I,_⟩:=rep_cl (B:=λ_ _=>False) t h;rw[Qjv E]at hp;obtain rfl:=We hp;exact I
def ch_grow {W w':World}(h:Ch [] W w')(E:W.drawn<=w'.drawn): ∃q os',w'=grow (W.drewN q) os':=by
 refine⟨w'.drawn-W.drawn,w'.heap.extract W.heap.size w'.heap.size,?_⟩;obtain⟨I,L,N,h4,O⟩:=h;obtain⟨heap',tape',drawn',os',output'⟩:=w';obtain⟨heap,tape,drawn,os,output⟩:=W;simp only at I L N h4 O E;subst I;subst L;subst N;have e:heap'=heap++heap'.extract heap.size heap'.size:=by
  refine Array.ext_getElem? λi=>?_;by_cases V:i<heap.size;rw[O i V (by simp),X4 V];rw[Array.getElem?_append_right (by omega),Array.getElem?_extract];split;congr 1;omega;rw[Yj (by omega)]
 show World.mk heap' tape' drawn' os' output'=World.mk (heap++heap'.extract heap.size heap'.size) tape' (drawn+(drawn'-drawn)) os' output';rw[<-e,Nat.add_sub_cancel' E]
def Hp.none (W:World)(F:Nat->Prop):Hp ⟨0,[],W,[],F⟩ [] W:=⟨Ch.refl _,λk r h=>(by cases h),λk b ⟨_,h,_⟩=>(by cases h),λk k' b ⟨_,h,_⟩=>(by cases h),λk r j h=>(by cases h)⟩
def Ct.cmp {P:Program}{g:Nat}{vs:List Value}{c:Int}{R:Value->List (Nat×Res)->Prop}(h:Ct P g vs [] [] R)(I: ∀v H',R v H'->v=.int .i64 c)(W:World):Calls P g vs.toArray W λe w'=>e=.returned (.int .i64 c)/\∃q os',w'=grow (W.drewN q) os':=
 (Dr.calls (h W (λ_=>False) (Hp.none W _))).mono λe w' ⟨⟨v,H',E,L,N⟩,O⟩=>⟨by rw[E,I v H' L],ch_grow N.ch (O v E)⟩
def flat_get {α:Type}[Inhabited α](enc:α->List Value)(k:Nat)(d:Array α){i j:Nat}{x:α}(I:d[i]?=some x)(N:j<k):i*k+j<d.size*k/\(flatK enc k d)[i*k+j]! =(enc x)[j]! :=by
 obtain⟨E,L⟩:=Qp.1 I;have lt:i*k+j<d.size*k:=by
  have:=Wj k (show i+1<=d.size from E);rw[Xr,Yx]at this;omega
 have e1:(i*k+j) / k=i:=(blk_iff k i _ (by omega)).1 ⟨by omega,by omega⟩;have e2:(i*k+j)%k=j:=by rw[Nat.mod_eq_sub_div_mul,e1];omega
 refine⟨lt,?_⟩;rw[get_flatK _ _ _ _ lt,e1,e2,getElem!_pos d i E,L]
def lgetb {l:List Value}{j:Nat}(h:j<l.length):l[j]?=some l[j]! :=by rw[Qg h,getElem!_pos l j h]
def put_id (d:Array Value)(c:Array Value)(j:Nat):(putCells id 0 d c)[j]?=(c[j]?).map λx=>if j<d.size then d[j]! else x:=by
 unfold putCells;rw[Array.getElem?_mapIdx];congr 1;funext x;simp
def Ct.sortF {P:Program}{ρ:Ren}{f:Nat}(L:SlLaysF0.n6 P ρ)(hf:ρ.f 6=f){t:Ty}[DecidableEq t.den]{e:TypeId}(ht:t.flat=true)
  (aE: ∀w,(isAgg (ρ.t 24)).run P w=.ok true w) (zE: ∀w,(Go.sizeOf (ρ.t 24)).run P w=.ok t.size w) (A:Option Addr) (c:Nat) (g:Nat) (cmp:t.den->t.den->Option Int)
  (eg: ∀args w,(callFunc g args).run P w=.ok (.enter g args) w)
  (hc: ∀x y r,t.ok x->t.ok y->cmp x y=some r->∃R,Ct P g [.agg (cl t x []).toArray,.agg (cl t y []).toArray] [] [] R/\∀v H',R v H'->v=.int .i64 r)
  (xs r:List t.den) (hm:xs.length<4611686018427387904) (hr:srtF cmp xs=some r):
  Ct P f [.slice A xs.length c,.func (.func g) #[] #[]] [(0,.own t e A c xs)] (obl A) (λv H'=>v=.tuple #[]/\H'=[(0,.own t e A c r)]/\r.length=xs.length):=λw F hh=>by
 subst hf;obtain⟨hord,hr⟩:ordB cmp xs=true/\srtL (cl0 cmp) xs=r:=by
  unfold srtF at hr;split at hr;rename_i h;exact⟨h,Xg hr⟩;cases hr
 obtain⟨O,tot⟩:=ordB_on hord;have hlen:r.length=xs.length:=by rw[<-hr];exact(srtL_perm (cl0 cmp) xs).length_eq
 obtain⟨cells,hrow,h1,h2⟩:Own t e 0 w (Fh ⟨0,[],w,obl A,F⟩ [(0,.own t e A c xs)]) A c xs:=hh.hold 0 _ rfl;have hok: ∀x∈xs,t.ok x:=λx V=>by
  obtain⟨i,W⟩:=Xe V;exact rep_ok t (h2 i x W)
 by_cases hx0:xs=[];subst hx0;obtain rfl:r=[]:=by rw[<-hr];rfl
 refine(AnyF.slices_SortFunc_none L A c _ w).mono ?_;rintro e' w' ⟨rfl,rfl⟩;exact⟨_,_,rfl,⟨rfl,rfl,rfl⟩,hh⟩;rcases hrow.2 with⟨hv,hn⟩|⟨b,cap,cur,hv,hb,hg,hnc,hcm,hcs,htake⟩
 exact absurd (We hn) hx0;injection hv with hA _ hcap
 subst hA;subst hcap;have hglt:b<w.heap.size:=(Qp.1 hg).1;have hk:=Qar t;have hbound: ∀{n i j:Nat},i<n->j<t.size->i*t.size+j<n*t.size:=λ{n i j} W I=>by
  have:=Wj t.size (show i+1<=n from W);rw[Xr,Yx]at this;omega
 have hcell: ∀i x,xs[i]?=some x->∀j,j<t.size->cur[i*t.size+j]?=(cl t x [])[j]?:=λi x V j I=>by
  have E:=rep_cl0 ht (h2 i x V);have W:=(Qd.1 V).1;rw[<-E,Wo I,Xq,<-htake,Xp,Qc (hbound W I)];simp
 haveI:Inhabited {x // x∈xs}:=⟨⟨xs.head hx0,List.head_mem hx0⟩⟩;let enc:{x // x∈xs}->List Value:=λx=>cl t x.1 [];have he: ∀x,(enc x).length=t.size:=λx=>cl_len x.1 [] ht;let cf:{x // x∈xs}->{x // x∈xs}->Int:=λx y=>(cmp x.1 y.1).getD 0;have hlt: ∀x y,ltOf cf x y=cl0 cmp x.1 y.1:=λx y=>by
  obtain⟨c0,h0⟩:=tot x.1 x.2 y.1 y.2;show decide ((cmp x.1 y.1).getD 0<0)=_;unfold cl0;rw[h0];rfl
 have hO:SWO (ltOf cf):=by
  refine⟨λx=>?_,λx y z E N=>?_,λx y z E N=>?_⟩;rw[hlt];cases E:cl0 cmp x.1 x.1 with
  |false=>rfl
  |true=>rw[O.asym _ x.2 _ x.2 E]at E;cases E
  rw[hlt]at E N ⊢;exact O.trans _ x.2 _ y.2 _ z.2 E N;rw[hlt]at E N ⊢;exact O.nt x.2 y.2 z.2 E N
 obtain⟨d,hd⟩: ∃d:Array {x // x∈xs},d=xs.attach.toArray:=⟨_,rfl⟩;have hds:d.size=xs.length:=by rw[hd];simp
 have hdg: ∀(i:Nat) (x:{x // x∈xs}),d[i]?=some x->xs[i]?=some x.1:=λi x V=>by
  rw[hd,Wu]at V;have:=Wn (Option.map Subtype.val) V;rw[<-Qq,List.attach_map_subtype_val]at this;exact this
 have hH:HoldsK enc t.size w b 0 d:=λj I=>by
  rw[size_flatK]at I;have W:j / t.size<d.size:=Nat.div_lt_of_lt_mul (by rwa[Nat.mul_comm]at I);have hu:=Nat.mod_lt j hk;have hje:j / t.size*t.size+j%t.size=j:=Nat.div_add_mod' j t.size;have V:d[j / t.size]?=some d[j / t.size]:=Wp W;obtain⟨_,N⟩:=flat_get enc t.size d V hu;rw[hje]at N;have h5:=hcell _ _ (hdg _ _ V) _ hu;rw[hje]at h5;refine⟨?_,by simp[World.frozen?,hg]⟩;rw[Xc,cell_of_row w b j cur e (0,0) hg,h5,N];have hl:j%t.size<(enc d[j / t.size]).length:=by rw[he];exact hu
  have e9:(enc d[j / t.size])[j%t.size]?=some ((enc d[j / t.size])[j%t.size]!):=lgetb hl;exact e9
 have hcl:CmpLays P g #[] enc t.size cf b 0 d.size w:=λm os dk _ x y=>by
  obtain⟨c0,h0⟩:=tot x.1 x.2 y.1 y.2;obtain⟨R,E,N⟩:=hc x.1 y.1 c0 (hok _ x.2) (hok _ y.2) h0;have:cf x y=c0:=by show(cmp x.1 y.1).getD 0=c0;rw[h0];rfl
  rw[this];exact Ct.cmp E N _
 have key:=AnyQ.slices_SortFunc L t.size aE zE enc he (λx v hv=>cl_one x.1 [] ht v hv) cf hO g #[] b 0 c d w eg hcl hH hglt (by rw[hds];exact hm);rw[hds]at key;refine key.mono ?_;rintro e' w' ⟨rfl,d',n,os,hp,hs,rfl⟩;clear key;obtain⟨hsz,_,hperm⟩:=hp;have hsz2:d'.size=xs.length:=hsz.trans hds;have hys:d'.toList.map Subtype.val=r:=by
  rw[<-hr];refine srt_uniq O ?_ ?_;have E:d'.toList.Perm d.toList:=by
   have e1:d'.extract 0 xs.length=d':=by rw[<-hsz2];exact Array.extract_size
   have e2:d.extract 0 xs.length=d:=by rw[<-hds];exact Array.extract_size
   rw[e1,e2]at hperm;exact hperm
  have N:=E.map Subtype.val;rw[hd]at N;have h5:xs.attach.toArray.toList.map Subtype.val=xs:=List.attach_map_subtype_val xs;rw[h5]at N;exact N;refine Jd.2 λi j W I hij=>?_;rw[Qw,Array.length_toList]at W I;have E:=hs i j (Xi _) hij (by omega);rw[hlt,getElem!_pos d' j (by omega),getElem!_pos d' i (by omega)]at E;simpa using E
 have hrg: ∀(i:Nat) (x:t.den),r[i]?=some x->∃y,d'[i]?=some y/\y.1=x:=λi x V=>by
  rw[<-hys,Qq,Xz]at V;obtain⟨y,E,N⟩:=Yk.1 V;exact⟨y,E,N⟩
 generalize hcd:putCells id 0 (flatK enc t.size d') cur=cur';have hheap:(sortWorldK enc t.size w b 0 n d' os).heap[b]?=some (.cells cur' e (0,0)):=by
  show((w.heap.modify b (onCells (putCells id 0 (flatK enc t.size d'))))++os)[b]?=_;rw[X4 (by simpa using hglt),Y2,Qc rfl,hg];simp only[Wg,onCells,hcd]
 have hch:Ch [b] w (sortWorldK enc t.size w b 0 n d' os):=by
  refine⟨rfl,rfl,rfl,?_,λk hk hn2=>?_⟩;show w.heap.size<=((w.heap.modify b (onCells (putCells id 0 (flatK enc t.size d'))))++os).size;simp;show((w.heap.modify b (onCells (putCells id 0 (flatK enc t.size d'))))++os)[k]?=_;rw[X4 (by simpa using hk),Y2,Qb (λe=>hn2 (Qn.2 e.symm))]
 have hcs':cur'.size=cur.size:=by rw[<-hcd];simp[putCells]
 have hnk:xs.length*t.size<=cur.size:=by rw[hcs];exact Wj _ hnc
 have hget: ∀(i:Nat) (y:{x // x∈xs}),d'[i]?=some y->∀j,j<t.size->cur'[i*t.size+j]?=(cl t y.1 [])[j]?:=λi y hy j I=>by
  have W:=(Qp.1 hy).1;obtain⟨E,N⟩:=flat_get enc t.size d' hy I;have hb2:i*t.size+j<cur.size:=Q4 (hbound (by omega) I) hnk;rw[<-hcd,put_id,Wp hb2,Wg,Qc (by rw[size_flatK];exact E),N];have hl:j<(enc y).length:=by rw[he];exact I
  show some (enc y)[j]! =(enc y)[j]?;exact(lgetb hl).symm
 have hown: ∀F':Nat->Prop,Own t e 0 (sortWorldK enc t.size w b 0 n d' os) F' (some ⟨b,0,none⟩) c r:=λF'=>by
  refine⟨cur'.toList.take (r.length*t.size),⟨?_,.inr ⟨b,c,cur',rfl,Xi _,hheap,by omega,hcm,by rw[hcs',hcs],rfl⟩⟩,λu hu=>?_,λi x V=>?_⟩;rw[Qy,Array.length_toList (xs:=cur'),hlen,hcs'];omega;obtain⟨j,I,rfl⟩:=Yi hu;rw[Qy]at I;have hj2:j<r.length*t.size:=by omega
  have hje:j / t.size*t.size+j%t.size=j:=Nat.div_add_mod' j t.size;have W:j / t.size<d'.size:=by rw[hsz2,<-hlen];exact Nat.div_lt_of_lt_mul (by rwa[Nat.mul_comm]at hj2)
  have E:=hget _ _ (Wp W) _ (Nat.mod_lt j hk);rw[hje]at E;rw[List.getElem_take];have hjc:j<cur'.size:=by have:=I;rw[Array.length_toList (xs:=cur')]at this;omega
  rw[Wp hjc]at E;rw[Array.getElem_toList];exact cl_one _ [] ht _ (Qj E.symm);obtain⟨y,hy,rfl⟩:=hrg i x V;have W:=(Qd.1 V).1;have e1:((cur'.toList.take (r.length*t.size)).drop (i*t.size)).take t.size=cl t y.1 []:=by
   refine Xa λj=>?_;by_cases I:j<t.size;rw[Wo I,Xq,Xp,Qc (hbound W I),Xz];exact hget i y hy j I;rw[Wf (by rw[Qy];omega),Wf (by rw[cl_len _ _ ht];omega)]
  rw[e1];obtain⟨i0,hi0⟩:=Xe y.2;have E:=h2 i0 y.1 hi0;rw[rep_cl0 ht E]at E;exact rep_flat t ht (rep_to (F':=no) (rep_flat (F':=no) t ht E) hch (λ_ h _=>h.elim))
 refine⟨_,[(0,.own t e (some ⟨b,0,none⟩) c r)],rfl,⟨rfl,rfl,hlen⟩,?_⟩;have E:=Hp.ren (Hp.upd (k:=0) (r':=.own t e (some ⟨b,0,none⟩) c r) hh hch (λk hb2=>⟨_,rfl,hb2⟩) (λk hb2=>.inl ⟨_,rfl,hb2⟩) (λj I=>by cases I) λF' B _ _ _ _ _=>hown _) [(0,0)] rfl rfl;exact⟨E.ch,E.hold,E.bnd,E.dis,E.ref⟩
end Go.A
end
section
namespace Go.A
open Go.RowKit Go.Z Go.Shelf Go.Proofs
def has_zero (k:IntKind):k.has 0:=by cases k<;>exact(by decide)
def has_mid {k:IntKind}{a x:Int}(h:k.has a)(I:0<=x/\x<=a\/a<=x/\x<=0):k.has x:=by
 have E:=has_zero k;exact⟨by have:=h.1;have:=E.1;omega,by have:=h.2;have:=E.2;omega⟩
def tmod_has {k:IntKind}{a b:Int}(h:k.has a):k.has (Int.tmod a b):=by
 refine has_mid h ?_;have I:=Int.natAbs_tmod a b;have L:=Nat.mod_le a.natAbs b.natAbs;rcases Int.le_total 0 a with E|E
 have:=Int.tmod_nonneg b E;exact .inl ⟨this,by omega⟩;have N:Int.tmod a b= -Int.tmod (-a) b:=by rw[Int.neg_tmod,Int.neg_neg]
 have:=Int.tmod_nonneg b (a:= -a) (by omega);exact .inr ⟨by omega,by omega⟩
def dec_has {s:ByteArray}{p:Nat}:IntKind.i32.has ((Utf8.decode s p).1:Int):=by
 have h:=Lib.rune_le s p;exact⟨by show(-2147483648:Int)<=_;omega,by show _<=(2147483647:Int);omega⟩
def cmpb_has: ∀a b:List UInt8,IntKind.i64.has (Lib.compareBytes a b)
 | [],[]=>by unfold Lib.compareBytes;decide
 | [],_::_=>by unfold Lib.compareBytes;decide
 |_::_,[]=>by unfold Lib.compareBytes;decide
 |x::a,y::b=>by
  unfold Lib.compareBytes;have:=cmpb_has a b;repeat' split
  all_goals first|assumption|decide
def Hem.bh {r:Option Nat}{P:Program}{ops:Array Oper}{Q:Exit->Act->World->Prop}{S S':World->Prop}{m m':Nat}: ∀(f:Nat) (li:Array Bool) (a:Act) (w:World),gn ops li m=true->Hem r P ops Q S' m' f li a w->Hem r P ops Q S m f li a w
 |0,_,_,_,_,h=>h
 |f+1,li,a,w,E,h=>⟨h.1,λi L=>wpOpIn_mono (λa' w' h'=>by
   have hg':gn ops (li.setIfInBounds i true) m=true:=by
    cases hq:gn ops (li.setIfInBounds i true) m with
    |true=>rfl
    |false=>rw[Qhb hq]at E;cases E
   exact⟨λI=>(by rw[hg']at I;cases I),Hem.bh f _ a' w' hg' h'.2⟩) (h.2 i L)⟩
def AH.bh {r:Option Nat}{P:Program}{ops:Array Oper}{Q:Exit->Act->World->Prop}{Hq:List (Nat×Res)}{m f:Nat}{li:List Bool}{C:Cx}{l:List (Nat×Value)}{H:List (Nat×Res)}(m':Nat)(h:AH r P ops Q [] m' f li C l H)(E:gn ops li.toArray m=true:=by kernel_rfl):AH r P ops Q Hq m f li C l H:=λa w I L=>
 Hem.bh _ _ a w E (h a w I L)
def Ct.scmp {P:Program}{ρ:Ren}{f:Nat}(L:Lays.n106 P ρ)(I:ρ.f 106=f)(a b:ByteArray)(r:Int)(E:some (Lib.compareBytes a.data.toList b.data.toList)=some r):
  Ct P f [.string a,.string b] [] [] (λv H'=>v=.int .i64 r/\H'=[]/\IntKind.i64.has r):=λw F N=>by
 subst I;have E:=Xg E;subst E;refine(Any.strings_Compare L a b w).mono ?_;rintro e w' ⟨rfl,rfl⟩;exact⟨_,[],rfl,⟨rfl,rfl,cmpb_has _ _⟩,Ch.refl _,λk r h=>(by cases h),λk b ⟨_,h,_⟩=>(by cases h),λk k' b ⟨_,h,_⟩=>(by cases h),λk r j h=>(by cases h)⟩
def dem {α β:Type}[DecidableEq β](m:List α)(sn:List Nat)(e:Option β)(g:Nat->α->Option β):Option β:=
 match(List.range m.length).filter (λi=> !(sn.contains i))with
 | []=>e
 |i::js=>(m[i]?).bind λp=>if(js.all λj=>decide (((m[j]?).bind λq=>g j q)=g i p))=true then g i p else none
def dem_some {α β:Type}[DecidableEq β]{m:List α}{sn:List Nat}{e:Option β}{g:Nat->α->Option β}{r:β}(h:dem m sn e g=some r):
  ((∀i,i<m.length->i∈sn)->e=some r)/\∀i p,m[i]?=some p->i∉sn->g i p=some r:=by
 have hmem: ∀i,i∈(List.range m.length).filter (λi=> !(sn.contains i))↔i<m.length/\i∉sn:=λi=>by
  rw[Y0,Yt];simp
 unfold dem at h;split at h;rename_i I;rw[I]at hmem;exact⟨λ_=>h,λi p hp L=>absurd ((hmem i).2 ⟨(Qd.1 hp).1,L⟩) (by simp)⟩;rename_i i js I;rw[I]at hmem;have E:=(hmem i).1 (Qi ..);refine⟨λhall=>absurd (hall i E.1) E.2,λj q hq L=>?_⟩;rw[Qg E.1,Qa]at h;split at h;rename_i hall;rcases Qk.1 ((hmem j).2 ⟨(Qd.1 hq).1,L⟩)with rfl|N
 rw[Qg E.1]at hq;obtain rfl:=Xg hq;exact h;have:=Wb (Wd.1 hall j N);rw[hq,Qa]at this;rw[this];exact h;cases h
section
variable {r:Option Nat}{P:Program}{Q:Exit->Act->World->Prop}{C:Cx}{l:List (Nat×Value)}{H:List (Nat×Res)}{ops:Array Oper}{rest:List Oper}{T:TypeId}{pos:String}{af:Array Edge}{d:Nat}
def r_slh {a:Act}{w:World}{tt:TypeId}{x I:Operand}{s:ByteArray}{L:IntKind}{q:Int}(N:P.underlying tt=some .string)(O:a.eval x=.string s)(E:a.eval I=.int L q)(V:0<=q)(W:q<=s.size):
  (execOp a.eval ⟨some d,.slice tt x none (some I) none,T,pos,af,none⟩).run P w=.ok (.value (.string (s.extract 0 q.toNat))) w:=by
 simp[execOp,Instr.sliceAt,run_underlying N,O,E,run_slice_string_h w tt s N L q V W]
def AL.slh {tt:TypeId}{x I:Operand}{s:ByteArray}{N:IntKind}{q:Int}(hq:0<=q/\q<=s.size)(h:AL r P ops Q rest C ((d,.string (s.extract 0 q.toNat))::l) H)(O:ev l x=some (.string s):=by rfl)(E:ev l I=some (.int N q):=by rfl)(V:P.underlying tt=some .string:=by rfl)(W:Nat.ble (d+1) C.n=true:=by rfl):
  AL r P ops Q (⟨some d,.slice tt x none (some I) none,T,pos,af,none⟩::rest) C l H:=
 AL.val W (λa w L _=>r_slh V (L.eval O) (L.eval E) hq.1 hq.2) h
def r_slb {a:Act}{w:World}{tt:TypeId}{x lo L:Operand}{s:ByteArray}{N O:IntKind}{p q:Int}(V:P.underlying tt=some .string)(W:a.eval x=.string s)(E:a.eval lo=.int N p)(I:a.eval L=.int O q)(h0:0<=p)(h1:p<=q)(h2:q<=s.size):
  (execOp a.eval ⟨some d,.slice tt x (some lo) (some L) none,T,pos,af,none⟩).run P w=.ok (.value (.string (s.extract p.toNat q.toNat))) w:=by
 have:=run_slice_string tt s N O p q V h0 h1 h2 (P:=P) (w:=w);simp[execOp,Instr.sliceAt,run_underlying V,W,E,I,this]
def AL.slb {tt:TypeId}{x lo N:Operand}{s:ByteArray}{O V:IntKind}{p q:Int}(hq:0<=p/\p<=q/\q<=s.size)(h:AL r P ops Q rest C ((d,.string (s.extract p.toNat q.toNat))::l) H)(W:ev l x=some (.string s):=by rfl)(E:ev l lo=some (.int O p):=by rfl)(I:ev l N=some (.int V q):=by rfl)(ht:P.underlying tt=some .string:=by rfl)(hd:Nat.ble (d+1) C.n=true:=by rfl):
  AL r P ops Q (⟨some d,.slice tt x (some lo) (some N) none,T,pos,af,none⟩::rest) C l H:=
 AL.val hd (λa w L _=>r_slb ht (L.eval W) (L.eval E) (L.eval I) hq.1 hq.2.1 hq.2.2) h
def ext_le {s:ByteArray}{i j:Nat}(h:s.size<=maxLen):(s.extract i j).size<=maxLen:=by
 rw[ByteArray.size_extract];omega
end
def Ct.grow {P:Program}{ρ:Ren}(L:Lays8.n4 P ρ){t:Ty}{e:TypeId}{f:FuncId}{S:List Nat}(hf:ρ.f 4=f)(he:ρ.t 25=e){i:TypeInfo}{z:Value}(hi:P.info? e=some i)(hz:i.zero=some z)(hs:i.size=t.size)(N:z.cells.size=t.size)(E:Nat.ble 1 i.bytes=true)(n:Nat)(I:n*i.bytes<=140737488355328):
  Ct P f [.slice none 0 0,.int .i64 (n:Int)] [] S (λv H'=>∃A' c',v=.slice A' 0 c'/\H'=[(0,.own t e A' c' [])]):=λw F hh=>by
 subst hf;subst he;have E:=Q8 E;have O:=Qar t;have hn:n<=140737488355328:=Wq (Ji _ E) I;by_cases h0:n=0;subst h0;refine(Any8.slices_Grow_room L none 0 0 0 w (Qt _) (by decide) (by decide) (by decide)).mono ?_;rintro e' w' ⟨rfl,rfl⟩;refine⟨_,[(0,.own t (ρ.t 25) none 0 [])],rfl,⟨none,0,rfl,rfl⟩,?_⟩;exact Hp.add (r':=.own t (ρ.t 25) none 0 []) hh rfl rfl (λj V=>by cases V) (Own.nil t (ρ.t 25) 0 w' _);refine(Any8.slices_Grow_grow L i z hi hz (by rw[hs];exact O) none 0 0 n [] w (Qt _) (by omega) (by rw[Xc];exact I) (by omega) (by simp) (λ_=>rfl) (λa ha=>by cases ha)).mono ?_;rintro e' w' ⟨rfl,rfl⟩;refine⟨_,[(0,.own t (ρ.t 25) (some ⟨w.heap.size,0,none⟩) (grownCap w (0+n) 0 (ρ.t 25)) [])],rfl,⟨_,_,rfl,rfl⟩,?_⟩;have hge:=grownCap_ge w (0+n) 0 (ρ.t 25);have W:=grownCap_le_maxLen w (0+n) 0 (ρ.t 25) (by simp only[maxLen];omega);obtain⟨row,hrow⟩: ∃row,([]:List Value).toArray++Builtin.zeroCells z.cells (0+n-0)++Builtin.zeroCells z.cells (grownCap w (0+n) 0 (ρ.t 25)-(0+n))=row:=⟨_,rfl⟩;rw[hrow];have hrs:row.size=grownCap w (0+n) 0 (ρ.t 25)*t.size:=by
  rw[<-hrow];simp only[Array.size_append,Xt,Ql,size_zeroCells,N];rw[Xc,<-Xr];congr 1;omega
 have hch:Ch [] w (w.drew.alloc (.cells row (ρ.t 25))):=by
  refine⟨rfl,rfl,rfl,?_,λk hk _=>?_⟩;show w.heap.size<=(w.heap.push _).size;rw[Array.size_push];omega;show(w.heap.push _)[k]?=_;rw[Array.getElem?_push_lt hk,Wp hk]
 refine Hp.new (r':=.own t (ρ.t 25) (some ⟨w.heap.size,0,none⟩) (grownCap w (0+n) 0 (ρ.t 25)) []) hh rfl hch (λb I=>?_) (λj V=>by cases V) λF' B _ _ _=>?_;simp only[Res.bl,obl,Qn]at I;rw[I];exact⟨Qt _,by show w.heap.size<(w.heap.push _).size;rw[Array.size_push];omega⟩;refine⟨[],⟨by simp,.inr ⟨w.heap.size,grownCap w (0+n) 0 (ρ.t 25),row,rfl,Xi _,?_,Xi _,W,hrs,by simp⟩⟩,by simp,λj x hx=>by simp at hx⟩;show(w.heap.push _)[w.heap.size]?=_;rw[Array.getElem?_push_size]
end Go.A
end
section
namespace Go.Proofs.YtlhiofnikdppeaaGreatDoor
open Go.RowKit Go.Shelf Go.Lib
abbrev l2a:List Nat:=[0,1,2,3,4,171,172]
abbrev l2b:List Nat:=[0,1,2,3,4,171,172,213]
abbrev l2c:List Value:=[A.i 0,A.i 0,.string (ByteArray.mk #[]),A.i 0]
abbrev l2d:List Value:=[A.i 0,A.i 0,.string (ByteArray.mk #[])]
abbrev l2e:List Nat:=[0,1]
def Tryz.laysSortFunc49_ren:Go.Shelf.Ren:=⟨λ|6=>49|15=>82|14=>81|28=>119|29=>120|20=>111|21=>112|22=>113|23=>114|24=>115|25=>116|26=>117|27=>118|46=>154|47=>155|48=>156|49=>157|50=>158|57=>178|n=>n,λ|22=>29|24=>50|25=>102|3=>3|39=>120|0=>0|53=>150|55=>152|4=>4|46=>143|45=>142|50=>147|5=>5|9=>9|66=>188|70=>192|76=>223|77=>173|n=>n,λ|n=>n⟩
def Tryz.laysSortFunc49:Go.Proofs.SlLaysF0.n6 Tryz.prog Tryz.laysSortFunc49_ren where
 mixed:=by kernel_rfl
 f6:=⟨"slices.SortFunc[[]rivulet/api.Entry,rivulet/api.Entry]",by decide,Tryz.func49.trans (Wn some (by kernel_rfl))⟩;f14:=⟨"slices.pdqsortCmpFunc[rivulet/api.Entry]",by decide,Tryz.func81.trans (Wn some (by kernel_rfl))⟩;f15:=Tryz.func82.trans (Wn some (by kernel_rfl));f20:=⟨"slices.insertionSortCmpFunc[rivulet/api.Entry]",by decide,Tryz.func111.trans (Wn some (by kernel_rfl))⟩;f21:=⟨"slices.heapSortCmpFunc[rivulet/api.Entry]",by decide,Tryz.func112.trans (Wn some (by kernel_rfl))⟩;f22:=⟨"slices.breakPatternsCmpFunc[rivulet/api.Entry]",by decide,Tryz.func113.trans (Wn some (by kernel_rfl))⟩;f23:=⟨"slices.choosePivotCmpFunc[rivulet/api.Entry]",by decide,Tryz.func114.trans (Wn some (by kernel_rfl))⟩;f24:=⟨"slices.reverseRangeCmpFunc[rivulet/api.Entry]",by decide,Tryz.func115.trans (Wn some (by kernel_rfl))⟩;f25:=⟨"slices.partialInsertionSortCmpFunc[rivulet/api.Entry]",by decide,Tryz.func116.trans (Wn some (by kernel_rfl))⟩;f26:=⟨"slices.partitionEqualCmpFunc[rivulet/api.Entry]",by decide,Tryz.func117.trans (Wn some (by kernel_rfl))⟩;f27:=⟨"slices.partitionCmpFunc[rivulet/api.Entry]",by decide,Tryz.func118.trans (Wn some (by kernel_rfl))⟩;f28:=Tryz.func119.trans (Wn some (by kernel_rfl));f29:=Tryz.func120.trans (Wn some (by kernel_rfl));f46:=⟨"slices.siftDownCmpFunc[rivulet/api.Entry]",by decide,Tryz.func154.trans (Wn some (by kernel_rfl))⟩;f47:=Tryz.func155.trans (Wn some (by kernel_rfl));f48:=Tryz.func156.trans (Wn some (by kernel_rfl));f49:=⟨"slices.medianAdjacentCmpFunc[rivulet/api.Entry]",by decide,Tryz.func157.trans (Wn some (by kernel_rfl))⟩;f50:=⟨"slices.medianCmpFunc[rivulet/api.Entry]",by decide,Tryz.func158.trans (Wn some (by kernel_rfl))⟩;f57:=⟨"slices.order2CmpFunc[rivulet/api.Entry]",by decide,Tryz.func178.trans (Wn some (by kernel_rfl))⟩;t0:=Tryz.underlying0;a0:=Tryz.isAgg0;z0:=Tryz.sizeOf0;v0:=Tryz.zeroValue0;t3:=Tryz.underlying3;a3:=Tryz.isAgg3;z3:=Tryz.sizeOf3;v3:=Tryz.zeroValue3;t4:=Tryz.underlying4;a4:=Tryz.isAgg4;z4:=Tryz.sizeOf4;v4:=Tryz.zeroValue4;t5:=Tryz.underlying5;a5:=Tryz.isAgg5;z5:=Tryz.sizeOf5;v5:=Tryz.zeroValue5;t9:=Tryz.underlying9;a9:=Tryz.isAgg9;z9:=Tryz.sizeOf9;v9:=Tryz.zeroValue9;t22:=Tryz.underlying29;a22:=Tryz.isAgg29;z22:=Tryz.sizeOf29;v22:=Tryz.zeroValue29;t25:=Tryz.underlying102;a25:=Tryz.isAgg102;z25:=Tryz.sizeOf102;v25:=Tryz.zeroValue102;t39:=Tryz.underlying120;a39:=Tryz.isAgg120;z39:=Tryz.sizeOf120;v39:=Tryz.zeroValue120;t45:=Tryz.underlying142;a45:=Tryz.isAgg142;z45:=Tryz.sizeOf142;v45:=Tryz.zeroValue142;t46:=Tryz.underlying143;a46:=Tryz.isAgg143;z46:=Tryz.sizeOf143;v46:=Tryz.zeroValue143;t50:=Tryz.underlying147;a50:=Tryz.isAgg147;z50:=Tryz.sizeOf147;v50:=Tryz.zeroValue147;t53:=Tryz.underlying150;a53:=Tryz.isAgg150;z53:=Tryz.sizeOf150;v53:=Tryz.zeroValue150;t55:=Tryz.underlying152;a55:=Tryz.isAgg152;z55:=Tryz.sizeOf152;v55:=Tryz.zeroValue152;t66:=Tryz.underlying188;a66:=Tryz.isAgg188;z66:=Tryz.sizeOf188;v66:=Tryz.zeroValue188;t70:=Tryz.underlying192;a70:=Tryz.isAgg192;z70:=Tryz.sizeOf192;v70:=Tryz.zeroValue192;t76:=Tryz.underlying223;a76:=Tryz.isAgg223;z76:=Tryz.sizeOf223;v76:=Tryz.zeroValue223;t77:=Tryz.underlying173;a77:=Tryz.isAgg173;z77:=Tryz.sizeOf173;v77:=Tryz.zeroValue173
def Tryz.laysGrow40_ren:Go.Shelf.Ren:=⟨λ|4=>40|n=>n,λ|22=>22|25=>55|3=>3|4=>4|9=>9|20=>20|0=>0|n=>n,λ|n=>n⟩
def Tryz.laysGrow40:Go.Proofs.Lays8.n4 Tryz.prog Tryz.laysGrow40_ren where
 mixed:=by kernel_rfl
 f4:=⟨"slices.Grow[[]rivulet/api.Node,rivulet/api.Node]",by decide,Tryz.func40.trans (Wn some (by kernel_rfl))⟩;t0:=Tryz.underlying0;a0:=Tryz.isAgg0;z0:=Tryz.sizeOf0;v0:=Tryz.zeroValue0;t3:=Tryz.underlying3;a3:=Tryz.isAgg3;z3:=Tryz.sizeOf3;v3:=Tryz.zeroValue3;t4:=Tryz.underlying4;a4:=Tryz.isAgg4;z4:=Tryz.sizeOf4;v4:=Tryz.zeroValue4;t9:=Tryz.underlying9;a9:=Tryz.isAgg9;z9:=Tryz.sizeOf9;v9:=Tryz.zeroValue9;t20:=Tryz.underlying20;a20:=Tryz.isAgg20;z20:=Tryz.sizeOf20;v20:=Tryz.zeroValue20;t22:=Tryz.underlying22;a22:=Tryz.isAgg22;z22:=Tryz.sizeOf22;v22:=Tryz.zeroValue22
def Tryz.laysCompare_ren:Go.Shelf.Ren:=⟨λ|106=>98|213=>142|265=>170|n=>n,λ|9=>9|3=>3|n=>n,λ|n=>n⟩
def Tryz.laysCompare:Go.Proofs.Lays.n106 Tryz.prog Tryz.laysCompare_ren where
 mixed:=by kernel_rfl
 f106:=Tryz.func98.trans (Wn some (by kernel_rfl));f213:=Tryz.func142.trans (Wn some (by kernel_rfl));f265:=Tryz.func170.trans (Wn some (by kernel_rfl));t3:=Tryz.underlying3;a3:=Tryz.isAgg3;z3:=Tryz.sizeOf3;v3:=Tryz.zeroValue3;t9:=Tryz.underlying9;a9:=Tryz.isAgg9;z9:=Tryz.sizeOf9;v9:=Tryz.zeroValue9
def F.eh (f h:ByteArray):Option Int:=some (Lib.compareBytes f.data.toList h.data.toList)
theorem o_aP (f h:ByteArray)(h0:f.size<=maxLen)(h1:h.size<=maxLen)(r:Int)(k:F.eh f h=some r):
  A.Ct Tryz.prog 98 [.string f,.string h] [] [] (λv H'=>v=A.i r/\H'=[]/\A.h6 r):=
 A.Ct.scmp Tryz.laysCompare rfl f h r k
end Go.Proofs.YtlhiofnikdppeaaGreatDoor
end
section
namespace Go.Proofs.YtlhiofnikdppeaaGreatDoor
open Go.RowKit
variable(A0_ A1_ A2_ A3_ A4_ A5_ A6_ A7_ A8_ A10_ A12_ A13_ A17_:Option Addr)(b0_ g0_ b1_ c1_ c2_ g2_ c3_ b4_ c4_ b5_ c5_ b6_ c6_ c7_ c8_ c9_ g10_ c11_ c13_ c14_ c18_:Nat)
def F.go (f:Int):Option (Int×Int):=if f=2 then(some (1,8))else(if f=3 then(some (11,13))else(if f=4 then(some (21,22))else(if f=8 then(some (31,34))else(if f=11 then(some (41,42))else(some (0,-1))))))
theorem o_bh (h:Int)(o:A.h6 h)(r:Int×Int)(f:F.go h=some r):
    A.Ct Tryz.prog 137 [A.i h] [] [] (λv H'=>v=.tuple #[A.i r.1,A.i r.2]/\H'=[]/\A.h6 r.1/\A.h6 r.2):=by
 refine Jz Tryz.func137 rfl Tryz.ntmps137 rfl λs u=>?_;rw[F.go]at f;refine J8 1 ?_;refine Vc 2 [] 3 ?_;refine Vc 1 [(4,A.i h)] 3 ?_;refine Vf 2 [(5,.bool (decide (h=2)))] 1 ?_;refine Uq f ?_ ?_<;>intro k f;refine Ve 1 2 [(2,A.i 1),(3,A.i 8)] 1 ?_;obtain rfl:=Vr f;exact Ug [] ⟨rfl,rfl,(Vl 1),(Vl 8)⟩;refine Vu 1 2 [(7,.bool (decide (h=3)))] 1 f ?_ ?_<;>intro k f;refine Ve 1 2 [(2,A.i 11),(3,A.i 13)] 1 ?_;obtain rfl:=Vr f;exact Ug [] ⟨rfl,rfl,(Vl 11),(Vl 13)⟩;refine Vu 1 2 [(9,.bool (decide (h=4)))] 1 f ?_ ?_<;>intro k f;refine Ve 1 2 [(2,A.i 21),(3,A.i 22)] 1 ?_;obtain rfl:=Vr f;exact Ug [] ⟨rfl,rfl,(Vl 21),(Vl 22)⟩;refine Vu 1 2 [(11,.bool (decide (h=8)))] 1 f ?_ ?_<;>intro k f;refine Ve 1 2 [(2,A.i 31),(3,A.i 34)] 1 ?_;obtain rfl:=Vr f;exact Ug [] ⟨rfl,rfl,(Vl 31),(Vl 34)⟩;refine Vu 1 2 [(13,.bool (decide (h=11)))] 1 f ?_ ?_<;>intro k f;refine Ve 1 2 [(2,A.i 41),(3,A.i 42)] 1 ?_;obtain rfl:=Vr f;exact Ug [] ⟨rfl,rfl,(Vl 41),(Vl 42)⟩;refine Ve 4 2 [(2,A.i 0),(3,A.i (-1))] 1 ?_;obtain rfl:=Vr f;exact Ug [] ⟨rfl,rfl,Vd,(Vl (-1))⟩
def F.gz (f:Int):Option (Int×Int):=(F.go f).bind λh=>(some h)
theorem o_cy (f:Int)(u:A.h6 f)(r:(Int×Int))(h:F.gz f=some r):
    A.Ct Tryz.prog 138 [A.i f] [] [] (λv H'=>∃(g0':Nat) (g1':Nat),v=.func (.func 167) #[] #[.pointer (some ⟨g0',0,none⟩),.pointer (some ⟨g1',0,none⟩)]/\H'=[(0,.blk g0' 3 [A.i r.1]),(1,.blk g1' 3 [A.i r.2])]/\A.h6 r.1/\A.h6 r.2):=by
 refine Jz Tryz.func138 rfl Tryz.ntmps138 rfl λz B=>?_;rw[F.gz]at h;refine J8 1 ?_;refine Vc 1 [] 2 ?_;refine Uf 1 [(6,A.i f)] (Vy 0 [] h (o_bh f u) .nil ?_);rintro k - h _ _ ⟨rfl,rfl,hr3,hr4⟩;refine Vb (Uf 3 [(8,A.i k.1),(9,A.i k.2)] (J1 40 (cs:=[A.i 0]) Tryz.zeroValue3 λo=>?_));refine J1 41 (cs:=[A.i 0]) Tryz.zeroValue3 λs=>?_;refine Vp 40 [] [A.i k.1] ?_;refine Vp 41 [] [A.i k.2] ?_;refine V3 2 ?_;refine Vf 2 [(2,.func (.func 167) #[] #[.pointer (some ⟨o,0,none⟩),.pointer (some ⟨s,0,none⟩)])] 1 ?_;obtain rfl:=Vr h;exact Uw [(0,40),(1,41)] ⟨o,s,rfl,rfl,hr3,hr4⟩
def F.ek (f:D40)(h:Bool):Option Bool:=if h=true then(some (bif decide ((1:Int)<=f.2.1)then decide (f.2.1<=1048576)else false))else(some (decide (f.2.1=0)))
def F.el (f:D40)(h:Bool):Option Bool:=if h=true then(some (bif decide ((0:Int)<=f.2.1)then decide (f.2.1<=64)else false))else(if f.1=6 then(F.ek f (decide (f.1=6)))else(F.ek f (decide (f.1=11))))
def F.fM (f:D40):Option Bool:=if f.1=3 then(F.el f (decide (f.1=3)))else(F.el f (decide (f.1=13)))
theorem o_bQ (f:D40)(B:A.h6 f.1)(E:A.h6 f.2.1)(I:f.2.2.size<=maxLen)(r:Bool)(h:F.fM f=some r):
    A.Ct Tryz.prog 139 [(A.rap f)] [] [] (λv H'=>v=.bool r/\H'=[]):=by
 refine Jz Tryz.func139 rfl Tryz.ntmps139 rfl λL N=>?_;rw[F.fM]at h;refine J8 1 ?_;refine J4 0 (cs:=(A.raj f)) λO=>?_;refine Vc 1 [] 3 ?_;refine V9 [0] [] [.n,.b 0 0] [(4,A.i f.1)] 2 ?_;refine J3 [1,4] [0] (λk o=>∃(s:Bool),k=[(5,.bool s)]/\o=[]/\F.el f s=some r) ?_ ?_;refine Vu 1 2 [(5,.bool (decide (f.1=3)))] 1 h ?_ ?_<;>intro u h;refine Ua 1 ?_;exact Vj ⟨(decide (f.1=3)),rfl,rfl,h⟩;refine V6 0 2 [(5,.bool (decide (f.1=13)))] ?_;refine Jy ?_;exact Vj ⟨(decide (f.1=13)),rfl,rfl,h⟩;rintro _ _ ⟨s,rfl,rfl,h⟩;rw[F.el]at h;refine Ur h ?_ ?_<;>intro u h;refine Uc 1 [0] [] [.n,.b 0 1,.n,.n,.sy .n,.sy (.b 0 1),.sy .n,.pk,.n] [(2,.bool (bif decide ((0:Int)<=f.2.1)then decide (f.2.1<=64)else false))] 1 ?_;exact A.ke h (Vh ⟨rfl,rfl⟩);refine J3 [1] [0] (λk o=>∃(z:Bool),k=[(16,.bool z)]/\o=[]/\F.ek f z=some r) ?_ ?_;refine Vu 1 2 [(16,.bool (decide (f.1=6)))] 1 h ?_ ?_<;>intro u h;refine Ua 1 ?_;exact Vj ⟨(decide (f.1=6)),rfl,rfl,h⟩;refine V6 0 2 [(16,.bool (decide (f.1=11)))] ?_;refine Jy ?_;exact Vj ⟨(decide (f.1=11)),rfl,rfl,h⟩;rintro _ _ ⟨z,rfl,rfl,h⟩;rw[F.ek]at h;refine Ur h ?_ ?_<;>intro u h;refine Uc 1 [0] [] [.n,.b 0 1,.n,.n,.sy .n,.sy (.b 0 1),.sy .n,.pk,.n] [(2,.bool (bif decide ((1:Int)<=f.2.1)then decide (f.2.1<=1048576)else false))] 1 ?_;exact A.ke h (Vh ⟨rfl,rfl⟩);refine Uc 4 [0] [] [.n,.b 0 1,.n,.n] [(2,.bool (decide (f.2.1=0)))] 1 ?_;exact A.ke h (Vh ⟨rfl,rfl⟩)
def F.df (f:Bool):Option Bool:=some f
def F.cK (h:ByteArray):Nat->Nat->Int->Option Bool
 |0,_,_=>none
 |f+1,k,o=>if k<h.size then(A.gd (Z.R64 (o+1)) ((F.cK h f) (k+(Utf8.decode h k).2) (o+1)))else(if o=1 then((F.aS h).bind λs=>(F.df s))else(F.df false))
def F.fN (f:ByteArray):Option Bool:=F.cK f A.FU 0 0
theorem o_bR (k:ByteArray)(O:k.size<=maxLen)(r:Bool)(h:F.fN k=some r):
    A.Ct Tryz.prog 168 [.string k] [(0,.el none 0 0 A.tabF),(1,.el none 1 0 A.tabA)] [] (λv H'=>v=.bool r/\H'=[]):=by
 refine Jz Tryz.func168 rfl Tryz.ntmps168 rfl λW F0=>?_;rw[F.fN]at h;refine J8 1 ?_;refine Vc 1 [] 2 ?_;refine Vc 1 [(3,A.i 0)] 3 ?_;refine Uf 1 [(4,.string k)] (A.AL.rgs 2 λU=>?_);refine Um 2 ?_;refine Vs [0,5] l2e (λf z B=>∃(u:Nat)(o:Int),z=[(3,A.i o)]/\B=[(2,.si U k u)]/\A.h6 o/\F.cK k f u o=some r) ⟨0,0,rfl,rfl,Vd,h⟩ ?_;rintro I _ _ ⟨u,o,rfl,rfl,a1,h⟩;rcases I with _|I
 exact Vo h;rw[F.cK]at h;refine J8 1 ?_;refine A.AL.nxs 2 [] h (λhb6 h=>?_) (λV h=>?_);refine Vf 1 [(7,.bool true)] 2 ?_;refine Ut rfl ?_;refine J8 3 ?_;have⟨L,h⟩:=V4 h;refine Up 3 [Z.R64 (o+1)] [(3,A.i (o+1))] L (Uo 1 ?_);exact Vj ⟨_,Qh _,⟨(u+(Utf8.decode k u).2),(o+1),rfl,rfl,(J2 L),h⟩⟩;refine Vf 1 [(7,.bool false)] 2 ?_;refine Uy rfl ?_;refine Uj 2 ?_;refine J3 [] l2e (λz B=>∃(E:Bool),z=[(2,.bool E)]/\B=[]/\F.df E=some r) ?_ ?_;refine V6 0 3 [(12,.bool (decide (o=1)))] ?_;refine Ud (j:=12) rfl h ?_ ?_<;>intro V h;refine J9 [] [] [.on .n] [(13,.string k)] (Vi (dj:=12) rfl rfl ?_);refine Vy 83 [] h (o_s k O) (.s 0 (.s 1 .nil)) ?_;rintro N - h _ _ ⟨rfl,rfl⟩;refine Vb (Uf 2 [(2,.bool N)] (Jy ?_));exact Vj ⟨N,rfl,rfl,h⟩;refine J9 [] [] [.off,.off,.n,.n] [(2,.bool false)] (Jy ?_);exact Vj ⟨false,rfl,rfl,h⟩;rintro _ _ ⟨E,rfl,rfl,h⟩;rw[F.df]at h;exact A.ke h (Vh ⟨rfl,rfl⟩)
def F.fv (f:Bool):Option Bool:=some f
def F.fw (f:D40)(h:Bool):Option Bool:=if h=true then((F.fN f.2.2).bind λk=>(some k))else(some (decide (f.2.2=(ByteArray.mk #[]))))
def F.gp (f:D40):Option Bool:=if f.1=5 then(if(bif decide (f.2.2≠(ByteArray.mk #[]))then decide ((f.2.2.size:Int)<=16)else false)=true then((F.aS f.2.2).bind λh=>(F.fv h))else(F.fv false))else(if f.1=12 then(F.fw f (decide (f.1=12)))else(F.fw f (decide (f.1=22))))
theorem o_cz (h:D40)(N:A.h6 h.1)(O:A.h6 h.2.1)(B:h.2.2.size<=maxLen)(r:Bool)(f:F.gp h=some r):
    A.Ct Tryz.prog 140 [(A.rap h)] [(0,.el none 0 0 A.tabF),(1,.el none 1 0 A.tabA)] [] (λv H'=>v=.bool r/\H'=[]):=by
 refine Jz Tryz.func140 rfl Tryz.ntmps140 rfl λU V=>?_;rw[F.gp]at f;refine J8 1 ?_;refine J4 2 (cs:=(A.raj h)) λW=>?_;refine Vc 1 [] 3 ?_;refine J9 [2] [] [.n,.b 0 0] [(4,A.i h.1)] (V3 3 ?_);refine Vf 2 [(5,.bool (decide (h.1=5)))] 1 ?_;refine Uq f ?_ ?_<;>intro E f;refine J3 [] l2e (λk o=>∃(u:Bool),k=[(2,.bool u)]/\o=[]/\F.fv u=some r) ?_ ?_;refine Vt 0 [2] [] [.n,.b 0 2,.n,.n,.sy .n,.sy (.b 0 2),.sy .n,.sy .n,.pk,.n] [(16,.bool (bif decide (h.2.2≠(ByteArray.mk #[]))then decide ((h.2.2.size:Int)<=16)else false))] ?_;refine Vv (j:=16) rfl f (λf=>?_) (λf=>?_);refine J9 [2] [] [.on .n,.on (.b 0 2)] [(18,.string h.2.2)] (Vi (dj:=16) rfl rfl ?_);refine Vy 3 [] f (o_s h.2.2 B) (.s 0 (.s 1 .nil)) ?_;rintro I - f _ _ ⟨rfl,rfl⟩;refine Vb (Uf 2 [(2,.bool I)] (Jy ?_));exact Vj ⟨I,rfl,rfl,f⟩;refine J9 [] [] [.off,.off,.off,.n,.n] [(2,.bool false)] (Jy ?_);exact Vj ⟨false,rfl,rfl,f⟩;rintro _ _ ⟨u,rfl,rfl,f⟩;rw[F.fv]at f;exact A.ke f (Vh ⟨rfl,rfl⟩);refine J3 [1] [0,1,2] (λk o=>∃(z:Bool),k=[(21,.bool z)]/\o=[]/\F.fw h z=some r) ?_ ?_;refine Vu 1 2 [(21,.bool (decide (h.1=12)))] 1 f ?_ ?_<;>intro E f;refine Ua 1 ?_;exact Vj ⟨(decide (h.1=12)),rfl,rfl,f⟩;refine V6 0 2 [(21,.bool (decide (h.1=22)))] ?_;refine Jy ?_;exact Vj ⟨(decide (h.1=22)),rfl,rfl,f⟩;rintro _ _ ⟨z,rfl,rfl,f⟩;rw[F.fw]at f;refine Ur f ?_ ?_<;>intro E f;refine Vt 1 [2] [] [.n,.b 0 2] [(25,.string h.2.2)] ?_;refine Vy 43 [] f (o_bR h.2.2 B) (.s 0 (.s 1 .nil)) ?_;rintro L - f _ _ ⟨rfl,rfl⟩;refine Vb (Vf 1 [(2,.bool L)] 1 ?_);exact A.ke f (Vh ⟨rfl,rfl⟩);refine Uc 4 [2] [] [.n,.b 0 2,.n,.n] [(2,.bool (decide (h.2.2=(ByteArray.mk #[]))))] 1 ?_;exact A.ke f (Vh ⟨rfl,rfl⟩)
def F.ei (k:Int):Nat->Int->Option (List Int)
 |0,_=>none
 |f+1,h=>if h<=k then(A.cns h (A.gd (Z.R64 (h+1)) ((F.ei k f) (h+1))))else(some [])
def F.ce (f:Int)(h:Int):Option (List Int):=F.ei h A.FU f
theorem o_bi(o:Int)(s:Int)(E:A.h6 o)(V:A.h6 s)(xs:List Int)(h:F.ce o s=some xs):
    A.Sq Tryz.prog 167 [.pointer (some ⟨g0_,0,none⟩),.pointer (some ⟨g2_,0,none⟩)] [(0,.el none g0_ 0 [A.i o]),(1,.el none g2_ 0 [A.i s])] A.ti (λcs=>[Z.vof false cs]) xs:=by
 refine A.Sq.enter Tryz.func167 rfl Tryz.ntmps167 rfl λlid I J Jx Φ hY hJ0=>?_;obtain⟨rs0,hrs⟩: ∃rs0,rs0=xs:=⟨_,rfl⟩;have hR0:A.Rem xs 0 rs0:=hrs▸A.Rem.zero xs;rw[F.ce,<-hrs]at h;clear hrs;refine Uc 1 [] [0] [.e 0 0,.n] [(4,A.i o)] 2 ?_;refine A.AX.loopC (A.CY 15 Φ) (0,I) [0,2] [1] [1] (λf i L N=>∃(k:Int)(rs:List Int),L=[(4,A.i k)]/\N=[]/\A.h6 k/\J i.1 i.2/\A.Rem xs i.1 rs/\F.ei s f k=some rs) A.FU [(4,A.i o)] [] ⟨o,_,rfl,rfl,E,hJ0,hR0,h⟩ ?_;rintro u ⟨O,W⟩ _ _ ⟨k,rs8,rfl,rfl,U,hJ6,hR7,h⟩;rcases u with _|u
 exact Vo h;rw[F.ei]at h;refine Uc 2 [] [1] [.n,.e 0 0,.n] [(8,.bool (decide (k<=s)))] 1 ?_;refine Uq h ?_ ?_<;>intro hb h;refine V6 5 2 [(11,.func (.yield lid) #[] #[]),(12,A.i k)] ?_;obtain⟨rs9,hqrs9,h⟩:=A.cns_some h;refine A.AL.yield hY hJ6 (hqrs9▸hR7) [A.i k] ⟨rfl,U⟩ (λz hJ11 hR12=>?_) (λz hX13=>?_);refine Vf 1 [(14,.bool false)] 1 ?_;refine Uy rfl ?_;refine J8 3 ?_;have⟨B,h⟩:=V4 h;refine Up 3 [Z.R64 (k+1)] [(4,A.i (k+1))] B (Jy ?_);exact A.AE.jC (O+1,z) [1] [(4,A.i (k+1))] [] ⟨_,Qh _,⟨(k+1),_,rfl,rfl,(J2 B),hJ11,hR12,h⟩⟩;refine Vf 1 [(14,.bool true)] 1 ?_;refine Ut rfl ?_;exact A.AX.rtX hY hX13;refine Ua 1 ?_;obtain rfl:=Vr h;exact A.AE.rtY hY hJ6 hR7
def F.dY (f:Option Int)(h:Bool):Option Int:=if h=true then(some 0)else(f)
def F.bz (h:D40):List Int->Option Int
 | []=>some 60
 |k::f=>if k=h.1 then((F.fM h).bind λo=>(if o=true then((F.gp h).bind λs=>(F.dY (F.bz h f) s))else(F.dY (F.bz h f) false)))else(F.dY (F.bz h f) false)
def F.c9 (f:Int)(h:D40):Option Int:=(F.go f).bind λo=>(if o.2<0 then(if h≠(0,0,ByteArray.mk #[])then(some 60)else(some 0))else((F.gz f).bind λk=>((F.ce k.1 k.2).bind λs=>F.bz h s)))
theorem o_ay (u:Int)(h:D40)(N:A.h6 u)(O:A.h6 h.1)(U:A.h6 h.2.1)(V:h.2.2.size<=maxLen)(r:Int)(f:F.c9 u h=some r):
    A.Ct Tryz.prog 96 [A.i u,(A.rap h)] [(0,.el none 0 0 A.tabF),(1,.el none 1 0 A.tabA)] [] (λv H'=>v=A.i r/\H'=[]/\A.h6 r):=by
 refine Kf Tryz.func96 rfl Tryz.ntmps96 rfl λw0 F0=>?_;rw[F.c9]at f;refine J8 1 ?_;refine J4 2 (cs:=(A.raj h)) λg1=>?_;refine J1 3 (cs:=[A.i 0]) Tryz.zeroValue33 λg2=>?_;refine V3 3 ?_;refine Uf 1 [(9,A.i u)] (Vy 4 [] f (o_bh u N) .nil ?_);rintro W - f _ _ ⟨rfl,rfl,hr5,hr6⟩;refine Vb (Vc 5 [(6,A.i W.2)] 2 ?_);refine Vf 2 [(14,.bool (decide (W.2<0)))] 1 ?_;refine Uq f ?_ ?_<;>intro B f;refine Vt 2 [2] [] [.b 0 0,.n] [(15,(A.rap h)),(16,.agg #[A.i 0,A.i 0,.string (ByteArray.mk #[])])] ?_;refine U9 rfl (λa w hf hh=>eqagg_neq41 (x:=h) (y:=(0,0,ByteArray.mk #[])) (hf.eval rfl) (hf.eval rfl)) ?_;refine Um 1 ?_;refine Uq f ?_ ?_<;>intro B f;refine J8 1 ?_;refine Vp 3 [] [A.i 60] ?_;refine Um 1 ?_;obtain rfl:=Vr f;exact U0 (Ds:=[]) [] [] (A.i 60) (trivial) (λa w hf hh=>Ux rfl (U7 hf rfl Tryz.isAgg33 (Vm hh 3))) (⟨rfl,rfl,(Vl 60)⟩);refine J8 3 ?_;refine Vp 3 [] [A.i 0] ?_;refine Um 1 ?_;obtain rfl:=Vr f;exact U0 (Ds:=[]) [] [] (A.i 0) (trivial) (λa w hf hh=>Ux rfl (U7 hf rfl Tryz.isAgg33 (Vm hh 3))) (⟨rfl,rfl,Vd⟩);refine V6 4 1 [(18,A.i u)] ?_;refine Vy 44 [] f (o_cy u N) .nil ?_;rintro z - f _ _ ⟨g9,a2,rfl,rfl,hr10,hr12⟩;refine Vb (Um 2 ?_);have⟨E,a7,f⟩:=V5 f;refine A.AX.rgf 84 85 86 [0,1,2,3,44,45] [0,1,2,3,44,45] [85,84,0,1,2,3,44,45] (λk I=>I=[]/\F.bz h (List.drop k E)=some r) [] cf167 (o_bi g9 a2 z.1 z.2 hr10 hr12 E a7) (λ_=>rfl) ⟨rfl,f⟩ ?_ ?_ ?_;rintro a3 _ D15 L16 ⟨rfl,f⟩;exact⟨⟨_,(.b 44 (.b 45 .nil))⟩,rfl,λo=>rfl⟩;rintro a3 _ a4 D15 L16 a9 aa ⟨rfl,f⟩ hx23 hxo24 a5;rw[Kj hx23,F.bz]at f;refine V6 0 1 [(7,A.i a4)] ?_;refine Jy ?_;refine Kk 84 85 λab=>?_;refine Uj 1 ?_;refine J3 [3,4] [0,1,2,3,44,45,84,85] (λnl I=>∃(L:Bool),nl=[(32,.bool L)]/\I=[]/\F.dY (F.bz h (List.drop (a3+1) E)) L=some r) ?_ ?_;refine Vt 0 [2] [] [.n,.n,.b 0 0,.n,.n] [(25,.bool (decide (a4=h.1)))] ?_;refine Ud (j:=25) rfl f ?_ ?_<;>intro B f;refine J9 [2] [] [.on (.b 0 0)] [(26,(A.rap h))] (Vi (dj:=25) rfl rfl ?_);refine Vy 167 [] f (o_bQ h O U V) .nil ?_;rintro a8 - f _ _ ⟨rfl,rfl⟩;refine Vb (Uf 2 [(29,.bool a8)] (Vv (j:=29) rfl f (λf=>?_) (λf=>?_)));refine J9 [2] [] [.on (.b 0 0)] [(30,(A.rap h))] (Vi (dj:=29) rfl rfl ?_);refine Vy 207 [] f (o_cz h O U V) (.s 0 (.s 1 .nil)) ?_;rintro a6 - f _ _ ⟨rfl,rfl⟩;refine Vb (Uf 1 [(32,.bool a6)] (Jy ?_));exact Vj ⟨a6,rfl,rfl,f⟩;refine J9 [] [] [.off,.off,.n] [(32,.bool false)] (Jy ?_);exact Vj ⟨false,rfl,rfl,f⟩;refine J9 [] [] [.off,.off,.n,.n,.off,.off,.n] [(32,.bool false)] (Jy ?_);exact Vj ⟨false,rfl,rfl,f⟩;rintro _ _ ⟨L,rfl,rfl,f⟩;rw[F.dY]at f;refine Ur f ?_ ?_<;>intro B f;refine J8 1 ?_;refine Vp 3 [] [A.i 0] ?_;refine Um 1 ?_;refine A.AX.bret a5 [85,2,3,44,45,84] 100000 [(85,100085),(2,100002),(3,100003),(44,100044),(45,100045),(84,100084),(0,0),(1,1)] [(2,.blk g1 41 (A.raj h)),(3,.blk g2 33 [A.i 0]),(44,.blk g9 3 [A.i z.1]),(45,.blk a2 3 [A.i z.2]),(84,.ob D15 A.dfT),(0,.el none 0 0 A.tabF),(1,.el none 1 0 A.tabA)] ?_ rfl rfl;obtain rfl:=Vr f;exact A.AE.rtM (Ds:=[D15]) [84] [] (A.i 0) (⟨rfl,trivial⟩) (λa w hf hh=>Ux rfl (U7 hf rfl Tryz.isAgg33 (Vm hh 3))) (⟨rfl,rfl,Vd⟩);refine Ua 2 ?_;exact Ks a5 [85,84,2,3,44,45] 100000 [(85,100085),(84,100084),(0,0),(1,1),(2,100002),(3,100003),(44,100044),(45,100045)] [] ⟨rfl,f⟩ rfl rfl;rintro _ D15 L16 ⟨rfl,f⟩;rw[Xw,F.bz]at f;refine Ko 3 ?_;refine Vp 3 [] [A.i 60] ?_;refine Um 1 ?_;obtain rfl:=Vr f;exact U0 (Ds:=[D15]) [84] [] (A.i 60) (⟨rfl,trivial⟩) (λa w hf hh=>Ux rfl (U7 hf rfl Tryz.isAgg33 (Vm hh 3))) (⟨rfl,rfl,(Vl 60)⟩)
def F.b0 (f:Bool):Option Bool:=some f
def F.b1 (f:Bool):Option Bool:=some f
def F.b2 (f:Bool):Option Bool:=some f
def F.cV (f:D42):Option Bool:=if f.2.2.1=1 then(if f.2.2.2.1=0 then(F.b0 (decide (f.2.2.2.2=(0,0,ByteArray.mk #[]))))else(F.b0 false))else(if f.2.2.1=2 then(if(bif decide ((0:Int)<=f.2.2.2.1)then decide (f.2.2.2.1<=1048576)else false)=true then(F.b1 (decide (f.2.2.2.2=(0,0,ByteArray.mk #[]))))else(F.b1 false))else(if f.2.2.1=3 then(if f.2.2.2.1=0 then((F.c9 2 f.2.2.2.2).bind λh=>(F.b2 (decide (h=0))))else(F.b2 false))else(some false)))
theorem o_a8 (h:D42)(U:A.h6 h.1)(V:A.h6 h.2.1)(W:A.h6 h.2.2.1)(a1:A.h6 h.2.2.2.1)(L:A.h6 h.2.2.2.2.1)(N:A.h6 h.2.2.2.2.2.1)(O:h.2.2.2.2.2.2.size<=maxLen)(r:Bool)(f:F.cV h=some r):
    A.Ct Tryz.prog 69 [(A.ran h)] [(0,.el none 0 0 A.tabF),(1,.el none 1 0 A.tabA)] [] (λv H'=>v=.bool r/\H'=[]):=by
 refine Jz Tryz.func69 rfl Tryz.ntmps69 rfl λw0 F0=>?_;rw[F.cV]at f;refine J8 1 ?_;refine J4 2 (cs:=(A.rah h)) λg1=>?_;refine Vc 1 [] 3 ?_;refine J9 [2] [] [.n,.b 0 2] [(4,A.i h.2.2.1)] (V3 3 ?_);refine Vf 2 [(5,.bool (decide (h.2.2.1=1)))] 1 ?_;refine Uq f ?_ ?_<;>intro u f;refine J3 [] l2e (λk o=>∃(z:Bool),k=[(2,.bool z)]/\o=[]/\F.b0 z=some r) ?_ ?_;refine Vt 0 [2] [] [.n,.b 0 3,.n,.n] [(10,.bool (decide (h.2.2.2.1=0)))] ?_;refine Ud (j:=10) rfl f ?_ ?_<;>intro u f;refine J9 [2] [] [.on .n,.on (.b 0 4),.on .n] [(12,(A.rap h.2.2.2.2)),(13,.agg #[A.i 0,A.i 0,.string (ByteArray.mk #[])])] (Vi (dj:=10) rfl rfl ?_);refine U9 rfl (λa w hf hh=>eqagg_eql41 (x:=h.2.2.2.2) (y:=(0,0,ByteArray.mk #[])) (hf.eval rfl) (hf.eval rfl)) ?_;refine Uf 2 [(2,.bool (decide (h.2.2.2.2=(0,0,ByteArray.mk #[]))))] (Jy ?_);exact Vj ⟨(decide (h.2.2.2.2=(0,0,ByteArray.mk #[]))),rfl,rfl,f⟩;refine J9 [] [] [.off,.off,.off,.off,.n,.n] [(2,.bool false)] (Jy ?_);exact Vj ⟨false,rfl,rfl,f⟩;rintro _ _ ⟨z,rfl,rfl,f⟩;rw[F.b0]at f;exact A.ke f (Vh ⟨rfl,rfl⟩);refine Vu 1 2 [(16,.bool (decide (h.2.2.1=2)))] 1 f ?_ ?_<;>intro u f;refine J3 [] l2e (λk o=>∃(B:Bool),k=[(2,.bool B)]/\o=[]/\F.b1 B=some r) ?_ ?_;refine Vt 0 [2] [] [.n,.b 0 3,.n,.n,.sy .n,.sy (.b 0 3),.sy .n,.pk,.n] [(26,.bool (bif decide ((0:Int)<=h.2.2.2.1)then decide (h.2.2.2.1<=1048576)else false))] ?_;refine Vv (j:=26) rfl f (λf=>?_) (λf=>?_);refine J9 [2] [] [.on .n,.on (.b 0 4),.on .n] [(28,(A.rap h.2.2.2.2)),(29,.agg #[A.i 0,A.i 0,.string (ByteArray.mk #[])])] (Vi (dj:=26) rfl rfl ?_);refine U9 rfl (λa w hf hh=>eqagg_eql41 (x:=h.2.2.2.2) (y:=(0,0,ByteArray.mk #[])) (hf.eval rfl) (hf.eval rfl)) ?_;refine Uf 2 [(2,.bool (decide (h.2.2.2.2=(0,0,ByteArray.mk #[]))))] (Jy ?_);exact Vj ⟨(decide (h.2.2.2.2=(0,0,ByteArray.mk #[]))),rfl,rfl,f⟩;refine J9 [] [] [.off,.off,.off,.off,.n,.n] [(2,.bool false)] (Jy ?_);exact Vj ⟨false,rfl,rfl,f⟩;rintro _ _ ⟨B,rfl,rfl,f⟩;rw[F.b1]at f;exact A.ke f (Vh ⟨rfl,rfl⟩);refine Vu 1 2 [(32,.bool (decide (h.2.2.1=3)))] 1 f ?_ ?_<;>intro u f;refine J3 [] l2e (λk o=>∃(E:Bool),k=[(2,.bool E)]/\o=[]/\F.b2 E=some r) ?_ ?_;refine Vt 0 [2] [] [.n,.b 0 3,.n,.n] [(37,.bool (decide (h.2.2.2.1=0)))] ?_;refine Ud (j:=37) rfl f ?_ ?_<;>intro u f;refine J9 [2] [] [.on .n,.on (.b 0 4)] [(39,(A.rap h.2.2.2.2))] (Vi (dj:=37) rfl rfl ?_);refine Vy 3 [] f (o_ay 2 h.2.2.2.2 (Vl 2) L N O) (.s 0 (.s 1 .nil)) ?_;rintro I - f _ _ ⟨rfl,rfl,hr7⟩;refine Vb (J9 [] [] [.on .n,.n,.n] [(2,.bool (decide (I=0)))] (Jy ?_));exact Vj ⟨(decide (I=0)),rfl,rfl,f⟩;refine J9 [] [] [.off,.off,.off,.off,.n,.n] [(2,.bool false)] (Jy ?_);exact Vj ⟨false,rfl,rfl,f⟩;rintro _ _ ⟨E,rfl,rfl,f⟩;rw[F.b2]at f;exact A.ke f (Vh ⟨rfl,rfl⟩);refine Ve 4 1 [(2,.bool false)] 1 ?_;exact A.ke f (Vh ⟨rfl,rfl⟩)
def F.cZ (f:D54):Option (ByteArray×Bool):=if f.2.1=16 then(some (ByteArray.mk #[102,114,101,115,104],true))else(if(bif decide (f.2.1=11)then decide (f.2.2.2.1.1=41)else false)=true then(some (ByteArray.mk #[116,111,116,97,108,47,111,110,101],true))else(if(bif decide (f.2.1=11)then decide (f.2.2.2.1.1=42)else false)=true then(some (ByteArray.mk #[116,111,116,97,108,47,115,105,122,101],true))else(some (ByteArray.mk #[],false))))
theorem o_aJ(f:D54)(o:A.h6 f.1)(s:A.h6 f.2.1)(u:A.h6 f.2.2.2.1.1)(z:A.h6 f.2.2.2.1.2.1)(B:f.2.2.2.1.2.2.size<=maxLen)(E:f.2.2.2.2.1.size<=maxLen)(I:A.h6 f.2.2.2.2.2.1)(L:A.h6 f.2.2.2.2.2.2)(r:ByteArray×Bool)(h:F.cZ f=some r):
    A.Ct Tryz.prog 70 [(A.rao f A2_ c3_)] [(0,.sh A.TI [.slice A2_ f.2.2.1.length c3_] f.2.2.1)] [] (λv H'=>v=.tuple #[.string r.1,.bool r.2]/\H'=[]/\r.1.size<=maxLen):=by
 refine Jz Tryz.func70 rfl Tryz.ntmps70 rfl λN O=>?_;rw[F.cZ]at h;refine J8 1 ?_;refine J4 1 (cs:=(A.rai f A2_ c3_)) λU=>?_;refine Vc 2 [] 4 ?_;refine V9 [1] [] [.n,.b 0 1,.n,.n] [(4,.bool (decide (f.2.1=16)))] 1 ?_;refine Uq h ?_ ?_<;>intro k h;refine Ve 1 2 [(2,.string (ByteArray.mk #[102,114,101,115,104])),(3,.bool true)] 1 ?_;obtain rfl:=Vr h;exact Ug [] ⟨rfl,rfl,(U1 (ByteArray.mk #[102,114,101,115,104]) rfl)⟩;refine Uc 1 [1] [] [.n,.b 0 1,.n,.n,.sy .n,.sy .n,.sy (.b 0 3),.sy .n,.pk,.n] [(8,.bool (bif decide (f.2.1=11)then decide (f.2.2.2.1.1=41)else false))] 1 ?_;refine Ur h ?_ ?_<;>intro k h;refine Ve 1 2 [(2,.string (ByteArray.mk #[116,111,116,97,108,47,111,110,101])),(3,.bool true)] 1 ?_;obtain rfl:=Vr h;exact Ug [] ⟨rfl,rfl,(U1 (ByteArray.mk #[116,111,116,97,108,47,111,110,101]) rfl)⟩;refine Uc 1 [1] [] [.n,.b 0 1,.n,.n,.sy .n,.sy .n,.sy (.b 0 3),.sy .n,.pk,.n] [(18,.bool (bif decide (f.2.1=11)then decide (f.2.2.2.1.1=42)else false))] 1 ?_;refine Ur h ?_ ?_<;>intro k h;refine Ve 1 2 [(2,.string (ByteArray.mk #[116,111,116,97,108,47,115,105,122,101])),(3,.bool true)] 1 ?_;obtain rfl:=Vr h;exact Ug [] ⟨rfl,rfl,(U1 (ByteArray.mk #[116,111,116,97,108,47,115,105,122,101]) rfl)⟩;refine Ve 4 2 [(2,.string (ByteArray.mk #[])),(3,.bool false)] 1 ?_;obtain rfl:=Vr h;exact Ug [] ⟨rfl,rfl,(U1 (ByteArray.mk #[]) rfl)⟩
def F.cE (k:D54)(o:D54)(s:D42)(u:Bool):Option Int:=if u=true then(some 180)else((F.cZ k).bind λf=>((F.cZ o).bind λh=>(if(bif bif !f.2 then true else !h.2 then true else decide (f.1≠h.1))=true then(some 181)else(if(bif decide (s.2.2.1=2)then decide (f.1=(ByteArray.mk #[102,114,101,115,104]))else false)=true then(some 181)else(some 0)))))
def F.cy (h:D54)(k:D54)(f:D42):Option Int:=if(bif decide (f.1≠h.1)then true else decide (f.2.1≠k.1))=true then(F.cE h k f true)else((F.cV f).bind λo=>(F.cE h k f (!o)))
theorem o_aA(h:D54)(k:D54)(o:D42)(I:A.h6 h.1)(L:A.h6 h.2.1)(N:A.h6 h.2.2.2.1.1)(O:A.h6 h.2.2.2.1.2.1)(U:h.2.2.2.1.2.2.size<=maxLen)(V:h.2.2.2.2.1.size<=maxLen)(W:A.h6 h.2.2.2.2.2.1)(a3:A.h6 h.2.2.2.2.2.2)(a4:A.h6 k.1)(a5:A.h6 k.2.1)(a6:A.h6 k.2.2.2.1.1)(a7:A.h6 k.2.2.2.1.2.1)(a8:k.2.2.2.1.2.2.size<=maxLen)(a9:k.2.2.2.2.1.size<=maxLen)(aa:A.h6 k.2.2.2.2.2.1)(ab:A.h6 k.2.2.2.2.2.2)(ac:A.h6 o.1)(ad:A.h6 o.2.1)(ae:A.h6 o.2.2.1)(ah:A.h6 o.2.2.2.1)(ai:A.h6 o.2.2.2.2.1)(aj:A.h6 o.2.2.2.2.2.1)(ak:o.2.2.2.2.2.2.size<=maxLen)(r:Int)(f:F.cy h k o=some r):
    A.Ct Tryz.prog 36 [(A.rao h A2_ c3_),(A.rao k A12_ c13_),(A.ran o)] [(0,.sh A.TI [.slice A2_ h.2.2.1.length c3_] h.2.2.1),(1,.sh A.TI [.slice A12_ k.2.2.1.length c13_] k.2.2.1),(2,.el none 0 0 A.tabF),(3,.el none 1 0 A.tabA)] [] (λv H'=>v=A.i r/\H'=[]/\A.h6 r):=by
 refine Jz Tryz.func36 rfl Tryz.ntmps36 rfl λw0 F0=>?_;rw[F.cy]at f;refine J8 1 ?_;refine J4 4 (cs:=(A.rai h A2_ c3_)) λg1=>?_;refine J4 5 (cs:=(A.rai k A12_ c13_)) λg2=>?_;refine J4 6 (cs:=(A.rah o)) λg3=>?_;refine Vf 1 [] 2 ?_;refine J3 [3,4,5] [0,1,2,3,4,5,6] (λnl nh=>∃(B:Bool),nl=[(27,.bool B)]/\nh=[]/\F.cE h k o B=some r) ?_ ?_;refine Vt 0 [6,4,5] [] [.n,.b 0 0,.n,.b 1 0,.n,.n,.sy .n,.sy (.b 0 1),.sy .n,.sy (.b 2 0),.sy .n,.pk,.n] [(23,.bool (bif decide (o.1≠h.1)then true else decide (o.2.1≠k.1)))] ?_;refine Vv (j:=23) rfl f (λf=>?_) (λf=>?_);refine J9 [] [] [.off,.off,.off,.n] [(27,.bool true)] (Jy ?_);exact Vj ⟨true,rfl,rfl,f⟩;refine J9 [6] [] [.on (.b 0 0)] [(24,(A.ran o))] (Vi (dj:=23) rfl rfl ?_);refine Vy 7 [] f (o_a8 o ac ad ae ah ai aj ak) (.s 2 (.s 3 .nil)) ?_;rintro E - f _ _ ⟨rfl,rfl⟩;refine Vb (J9 [] [] [.on .n,.n] [(27,.bool (!E))] (Jy ?_));exact Vj ⟨(!E),rfl,rfl,f⟩;rintro _ _ ⟨B,rfl,rfl,f⟩;rw[F.cE]at f;refine Ur f ?_ ?_<;>intro hb f;refine Ve 1 1 [(6,A.i 180)] 1 ?_;exact A.ke f (Vh ⟨rfl,rfl,(Vl 180)⟩);refine Vt 3 [4] [] [.b 0 0] [(29,(A.rao h A2_ c3_))] ?_;refine Vy 47 [] f (o_aJ A2_ c3_ h I L N O U V W a3) (.s 0 .nil) ?_;rintro u - f _ _ ⟨rfl,rfl,hr7⟩;refine Vb (Vc 5 [(7,.string u.1),(8,.bool u.2)] 2 ?_);refine J9 [5] [] [.b 0 0] [(34,(A.rao k A12_ c13_))] (Vy 87 [] f (o_aJ A12_ c13_ k a4 a5 a6 a7 a8 a9 aa ab) (.s 1 .nil) ?_);rintro z - f _ _ ⟨rfl,rfl,hr10⟩;refine Vb (Vc 5 [(9,.string z.1),(10,.bool z.2)] 3 ?_);refine J9 [] [] [.n,.n,.n,.sy .n,.sy .n,.pk,.n,.sy .n,.sy .n,.sy .n,.pk,.n] [(49,.bool (bif bif !u.2 then true else !z.2 then true else decide (u.1≠z.1)))] (Vv (j:=49) rfl f (λf=>?_) (λf=>?_));refine V9 [] [] [.off,.off,.off,.off,.off,.off,.off,.n] [(57,.bool true)] 1 ?_;refine Ut rfl ?_;refine Ve 1 1 [(6,A.i 181)] 1 ?_;exact A.ke f (Vh ⟨rfl,rfl,(Vl 181)⟩);refine V9 [6] [] [.on .n,.on (.b 0 2),.on .n,.on .n,.sy .n,.sy .n,.on .pk,.n] [(57,.bool (bif decide (o.2.2.1=2)then decide (u.1=(ByteArray.mk #[102,114,101,115,104]))else false))] 1 ?_;refine Ur f ?_ ?_<;>intro hb f;refine Ve 1 1 [(6,A.i 181)] 1 ?_;exact A.ke f (Vh ⟨rfl,rfl,(Vl 181)⟩);refine Ve 3 1 [(6,A.i 0)] 1 ?_;exact A.ke f (Vh ⟨rfl,rfl,Vd⟩)
def F.cp (k:(List Int)):Nat->Int->Option Int
 |0,_=>none
 |f+1,h=>if h<(k.length:Int)then((A.ix k h).bind λo=>(if o≠0 then(some o)else(A.gd (Z.R64 (h+1)) ((F.cp k f) (h+1)))))else(some 0)
def F.dK (f:(List Int)):Option Int:=F.cp f A.FU 0
theorem o_aK(o:(List Int))(r:Int)(h:F.dK o=some r):
    A.Ct Tryz.prog 51 [.slice A0_ o.length c1_] [(0,.ln A.ti A0_ c1_ o)] [] (λv H'=>v=A.i r/\H'=[]/\A.h6 r):=by
 refine Jz Tryz.func51 rfl Tryz.ntmps51 rfl λO U=>?_;rw[F.dK]at h;refine J8 1 ?_;refine Vc 1 [] 2 ?_;refine Vc 1 [(3,A.i 0)] 3 ?_;refine Vf 3 [(6,.slice A0_ o.length c1_),(7,A.i (o.length:Int)),(8,A.i 0)] 2 ?_;refine Vs [3,6,7] [0] (λf B E=>∃(k:Int),B=[(8,A.i k)]/\E=[]/\A.h6 k/\F.cp o f k=some r) ⟨0,rfl,rfl,Vd,h⟩ ?_;rintro u _ _ ⟨k,rfl,rfl,V,h⟩;rcases u with _|u
 exact Vo h;rw[F.cp]at h;refine Vu 1 1 [(9,.bool (decide (k<(o.length:Int))))] 2 h ?_ ?_<;>intro I h;refine J8 5 ?_;have⟨s,L,h⟩:=V5 h;refine Uh 0 3 L λN=>?_;intro W o8;refine J9 [] [3] [.e 0 0,.n] [(5,A.i s)] (V3 2 ?_);refine Vf 3 [(14,.bool (decide (s≠0)))] 1 ?_;refine Uq h ?_ ?_<;>intro I h;refine Ve 1 2 [(2,A.i s)] 1 ?_;exact A.ke h (Vh ⟨rfl,rfl,N⟩);refine J8 3 ?_;have⟨z,h⟩:=V4 h;refine Up 2 [Z.R64 (k+1)] [(8,A.i (k+1))] z (Jy ?_);exact Vj ⟨_,Qh _,⟨(k+1),rfl,rfl,(J2 z),h⟩⟩;refine Ve 3 2 [(2,A.i 0)] 1 ?_;exact A.ke h (Vh ⟨rfl,rfl,Vd⟩)
def F.c0 (f:Int):Option Bool:=some (decide (f≠f))
theorem o_ai (f:Int)(k:A.h6 f)(r:Bool)(h:F.c0 f=some r):
    A.Ct Tryz.prog 84 [A.i f] [] [] (λv H'=>v=.bool r/\H'=[]):=by
 refine Jz Tryz.func84 rfl Tryz.ntmps84 rfl λo s=>?_;rw[F.c0]at h;refine J8 1 ?_;refine Vc 1 [] 2 ?_;refine Vf 4 [(2,.bool (decide (f≠f)))] 1 ?_;exact A.ke h (Vh ⟨rfl,rfl⟩)
def F.bP (f:Int)(h:Int):Option Int:=(F.c0 f).bind λo=>((F.c0 h).bind λk=>(if o=true then(if k=true then(some 0)else(some (-1)))else(if k=true then(some 1)else(if f<h then(some (-1))else(if h<f then(some 1)else(some 0))))))
theorem o_aa (h:Int)(k:Int)(z:A.h6 h)(B:A.h6 k)(r:Int)(f:F.bP h k=some r):
    A.Ct Tryz.prog 53 [A.i h,A.i k] [] [] (λv H'=>v=A.i r/\H'=[]/\A.h6 r):=by
 refine Jz Tryz.func53 rfl Tryz.ntmps53 rfl λE I=>?_;rw[F.bP]at f;refine J8 1 ?_;refine Vc 1 [] 2 ?_;refine Uf 1 [(7,A.i h)] (Vy 0 [] f (o_ai h z) .nil ?_);rintro u - f _ _ ⟨rfl,rfl⟩;refine Vb (Vc 1 [(5,.bool u)] 2 ?_);refine Uf 1 [(9,A.i k)] (Vy 40 [] f (o_ai k B) .nil ?_);rintro s - f _ _ ⟨rfl,rfl⟩;refine Vb (Vc 1 [(6,.bool s)] 3 ?_);refine Vf 1 [(11,.bool u)] 1 ?_;refine Ur f ?_ ?_<;>intro o f;refine Ve 2 1 [(12,.bool s)] 1 ?_;refine Ur f ?_ ?_<;>intro o f;refine Ve 1 1 [(4,A.i 0)] 1 ?_;exact A.ke f (Vh ⟨rfl,rfl,Vd⟩);refine Ve 3 1 [(4,A.i (-1))] 1 ?_;exact A.ke f (Vh ⟨rfl,rfl,(Vl (-1))⟩);refine Ve 4 1 [(13,.bool s)] 1 ?_;refine Ur f ?_ ?_<;>intro o f;refine Ve 1 1 [(4,A.i 1)] 1 ?_;exact A.ke f (Vh ⟨rfl,rfl,(Vl 1)⟩);refine Vu 4 3 [(16,.bool (decide (h<k)))] 1 f ?_ ?_<;>intro o f;refine Ve 1 1 [(4,A.i (-1))] 1 ?_;exact A.ke f (Vh ⟨rfl,rfl,(Vl (-1))⟩);refine Vu 4 3 [(19,.bool (decide (k<h)))] 1 f ?_ ?_<;>intro o f;refine Ve 1 1 [(4,A.i 1)] 1 ?_;exact A.ke f (Vh ⟨rfl,rfl,(Vl 1)⟩);refine Ve 3 1 [(4,A.i 0)] 1 ?_;exact A.ke f (Vh ⟨rfl,rfl,Vd⟩)
def F.eF (f:D49)(h:D49):Option Bool:=(F.bP f.2.1 h.2.1).bind λk=>((F.eh f.2.2.1 h.2.2.1).bind λo=>((F.dK [k,o]).bind λs=>(some (decide (s<0)))))
theorem o_bA (f:D49)(h:D49)(O:A.h6 f.1)(z:A.h6 f.2.1)(B:f.2.2.1.size<=maxLen)(U:A.h6 f.2.2.2)(V:A.h6 h.1)(E:A.h6 h.2.1)(I:h.2.2.1.size<=maxLen)(W:A.h6 h.2.2.2)(r:Bool)(k:F.eF f h=some r):
    A.Ct Tryz.prog 72 [(A.raq f),(A.raq h)] [] [] (λv H'=>v=.bool r/\H'=[]):=by
 refine Jz Tryz.func72 rfl Tryz.ntmps72 rfl λw0 F0=>?_;rw[F.eF]at k;refine J8 1 ?_;refine J4 0 (cs:=(A.rak f)) λg1=>?_;refine J4 1 (cs:=(A.rak h)) λg2=>?_;refine Vf 1 [] 2 ?_;refine Vn mixed 14 14 (A.mb 14 0) ?_;refine Vg J5 [] l2e [0,1] [] (A.mb 14 495) 6 [(0,.n),(2,.n),(5,.n),(7,.n),(1,.b 0 1),(3,.b 1 1),(6,.b 0 2),(8,.b 1 2)] [(6,A.i f.2.1),(8,A.i h.2.1),(11,.string f.2.2.1),(13,.string h.2.2.1)] (J6 4 ?_);refine Vy 2 [] k (o_aa f.2.1 h.2.1 z E) .nil ?_;rintro s - k _ _ ⟨rfl,rfl,hr5⟩;refine Vb (Va (A.mb 14 511) l2e ?_);refine J6 9 ?_;refine Vy 42 [] k (o_aP f.2.2.1 h.2.2.1 B I) .nil ?_;rintro u - k _ _ ⟨rfl,rfl,hr8⟩;refine Vb (Va (A.mb 14 1023) l2e ?_);refine J6 10 ?_;refine Vx 82 (ty:=A.ti) (cs:=[A.i s,A.i u]) [s,u] ⟨⟨rfl,hr5⟩,⟨⟨rfl,hr8⟩,rfl⟩⟩ (λL=>?_) Tryz.zeroValue3 Tryz.sizeOf3;refine Va (A.mb 14 2047) l2e ?_;refine J6 11 ?_;refine Vy 83 [] k (o_aK (some ⟨L,0,none⟩) 2 [s,u]) (.o 82 .nil) ?_;rintro N - k _ _ ⟨rfl,rfl,hr12⟩;refine Vb (Va (A.mb 14 4095) l2e ?_);refine Vg J5 l2e [0,1,82] [] [] (A.mb 14 16383) 0 [(12,.n),(13,.n)] [(4,.bool (decide (N<0)))] (J7 ?_);refine Kp 1 ?_;exact A.ke k (Vh ⟨rfl,rfl⟩)
def F.dg (f:Bool):Option Int:=if f=true then(some 50)else(some 0)
def F.dG (f:D91):Option Int:=if(64:Int)<(f.2.size:Int)then(F.dg true)else((F.aS f.2).bind λh=>(F.dg (!h)))
theorem o_aQ (h:D91)(I:A.h6 h.1)(u:h.2.size<=maxLen)(r:Int)(f:F.dG h=some r):
    A.Ct Tryz.prog 97 [(A.rar h)] [(0,.el none 0 0 A.tabF),(1,.el none 1 0 A.tabA)] [] (λv H'=>v=A.i r/\H'=[]/\A.h6 r):=by
 refine Jz Tryz.func97 rfl Tryz.ntmps97 rfl λL N=>?_;rw[F.dG]at f;refine J8 1 ?_;refine J4 2 (cs:=(A.ral h)) λO=>?_;refine Vf 1 [] 2 ?_;refine J3 [] l2e (λz B=>∃(k:Bool),z=[(12,.bool k)]/\B=[]/\F.dg k=some r) ?_ ?_;refine Vt 0 [2] [] [.n,.b 0 1,.n,.n,.n] [(7,.bool (decide ((64:Int)<(h.2.size:Int))))] ?_;refine Ud (j:=7) rfl f ?_ ?_<;>intro E f;refine J9 [] [] [.off,.off,.off,.off,.n] [(12,.bool true)] (Jy ?_);exact Vj ⟨true,rfl,rfl,f⟩;refine J9 [2] [] [.on .n,.on (.b 0 1)] [(9,.string h.2)] (Vi (dj:=7) rfl rfl ?_);refine Vy 3 [] f (o_s h.2 u) (.s 0 (.s 1 .nil)) ?_;rintro o - f _ _ ⟨rfl,rfl⟩;refine Vb (J9 [] [] [.on .n,.n] [(12,.bool (!o))] (Jy ?_));exact Vj ⟨(!o),rfl,rfl,f⟩;rintro _ _ ⟨k,rfl,rfl,f⟩;rw[F.dg]at f;refine Ur f ?_ ?_<;>intro E f;refine Ve 1 1 [(2,A.i 50)] 1 ?_;exact A.ke f (Vh ⟨rfl,rfl,(Vl 50)⟩);refine Ve 3 1 [(2,A.i 0)] 1 ?_;exact A.ke f (Vh ⟨rfl,rfl,Vd⟩)
def F.cW (f:Bool):Option Bool:=some f
def F.eG (h:D54)(f:D49):Option Bool:=if f.1≠h.1 then(some false)else(if h.2.1=11 then(some (bif bif decide (f.2.2.1=(ByteArray.mk #[]))then decide ((0:Int)<=f.2.2.2)else false then decide (f.2.2.2<=1099511627776)else false))else(if h.2.1=16 then(if f.2.2.2=1 then((F.dG (f.2.1,f.2.2.1)).bind λk=>(F.cW (decide (k=0))))else(F.cW false))else(some false)))
theorem o_bB(h:D54)(k:D49)(N:A.h6 h.1)(O:A.h6 h.2.1)(U:A.h6 h.2.2.2.1.1)(V:A.h6 h.2.2.2.1.2.1)(W:h.2.2.2.1.2.2.size<=maxLen)(a2:h.2.2.2.2.1.size<=maxLen)(a3:A.h6 h.2.2.2.2.2.1)(a4:A.h6 h.2.2.2.2.2.2)(a5:A.h6 k.1)(B:A.h6 k.2.1)(E:k.2.2.1.size<=maxLen)(a6:A.h6 k.2.2.2)(r:Bool)(f:F.eG h k=some r):
    A.Ct Tryz.prog 71 [(A.rao h A2_ c3_),(A.raq k)] [(0,.sh A.TI [.slice A2_ h.2.2.1.length c3_] h.2.2.1),(1,.el none 0 0 A.tabF),(2,.el none 1 0 A.tabA)] [] (λv H'=>v=.bool r/\H'=[]):=by
 refine Jz Tryz.func71 rfl Tryz.ntmps71 rfl λw0 F0=>?_;rw[F.eG]at f;refine J8 1 ?_;refine J4 3 (cs:=(A.rai h A2_ c3_)) λg1=>?_;refine J4 4 (cs:=(A.rak k)) λg2=>?_;refine Vc 1 [] 4 ?_;refine V9 [4,3] [] [.n,.b 0 0,.n,.b 1 0,.n,.n] [(5,.bool (decide (k.1≠h.1)))] 1 ?_;refine Uq f ?_ ?_<;>intro o f;refine Ve 1 1 [(4,.bool false)] 1 ?_;exact A.ke f (Vh ⟨rfl,rfl⟩);refine Uc 1 [3] [] [.n,.b 0 1,.n,.n] [(11,.bool (decide (h.2.1=11)))] 1 ?_;refine Uq f ?_ ?_<;>intro o f;refine Uc 1 [4] [] [.n,.b 0 2,.n,.n,.sy .n,.sy (.b 0 3),.sy .n,.pk,.n,.sy .n,.sy (.b 0 3),.sy .n,.pk,.n] [(4,.bool (bif bif decide (k.2.2.1=(ByteArray.mk #[]))then decide ((0:Int)<=k.2.2.2)else false then decide (k.2.2.2<=1099511627776)else false))] 1 ?_;exact A.ke f (Vh ⟨rfl,rfl⟩);refine Uc 1 [3] [] [.n,.b 0 1,.n,.n] [(28,.bool (decide (h.2.1=16)))] 1 ?_;refine Uq f ?_ ?_<;>intro o f;refine J3 [] [1,2] (λI L=>∃(u:Bool),I=[(4,.bool u)]/\L=[]/\F.cW u=some r) ?_ ?_;refine Vt 0 [4] [] [.n,.b 0 3,.n,.n] [(35,.bool (decide (k.2.2.2=1)))] ?_;refine Ud (j:=35) rfl f ?_ ?_<;>intro o f;refine J9 [4] [] [.on .n,.on (.b 0 1),.on .n,.on (.b 0 2),.on .n] [(40,.agg #[A.i k.2.1,.string k.2.2.1])] (Vi (dj:=35) rfl rfl ?_);refine Vy 5 [] f (o_aQ (k.2.1,k.2.2.1) B E) (.s 1 (.s 2 .nil)) ?_;rintro z - f _ _ ⟨rfl,rfl,hr6⟩;refine Vb (J9 [] [] [.on .n,.n,.n] [(4,.bool (decide (z=0)))] (Jy ?_));exact Vj ⟨(decide (z=0)),rfl,rfl,f⟩;refine J9 [] [] [.off,.off,.off,.off,.off,.off,.off,.n,.n] [(4,.bool false)] (Jy ?_);exact Vj ⟨false,rfl,rfl,f⟩;rintro _ _ ⟨u,rfl,rfl,f⟩;rw[F.cW]at f;exact A.ke f (Vh ⟨rfl,rfl⟩);refine Ve 4 1 [(4,.bool false)] 1 ?_;exact A.ke f (Vh ⟨rfl,rfl⟩)
end Go.Proofs.YtlhiofnikdppeaaGreatDoor
end
section
namespace Go.A
open Go.RowKit Go.Z
def cat_le {s u:ByteArray}(h:s.size+u.size<=9223372036854775807):(s++u).size<=maxLen:=by
 rw[ByteArray.size_append];simpa[maxLen] using h
def si_has {p:Nat}{s:ByteArray}(h:p<s.size)(hs:s.size<=maxLen):IntKind.i64.has (p:Int):=has_nat (by omega)
def le_max {n:Nat}(h:n<=9223372036854775807):n<=maxLen:=by simpa[maxLen] using h
def mk_le {xs:List UInt8}(h:xs.length<=maxLen):(ByteArray.mk xs.toArray).size<=maxLen:=by simpa[ByteArray.size] using h
def b8 (x:Int):UInt8:=UInt8.ofNat (x%256).toNat
def b8_wrap (x:Int):IntKind.u8.wrap x=((b8 x).toNat:Int):=by
 have L:=Int.emod_nonneg x (show(256:Int)≠0 by decide);have N:=Int.emod_lt_of_pos x (show(0:Int)<256 by decide);have E:IntKind.u8.wrap x=x%256:=by simp[IntKind.wrap,IntKind.bits,IntKind.signed]
 have I:(b8 x).toNat=(x%256).toNat:=by
  unfold b8;rw[UInt8.toNat_ofNat'];omega
 rw[E,I];omega
def Fz (fz:Nat×Nat)(n:Nat):Prop:=∀j,j<n->¬(fz.1<=j/\j<fz.2)
def Bs (e:TypeId)(c:Nat)(xs:List UInt8):Obj->Prop:=λo=>∃(cur:Array Value) (fz:Nat×Nat),o=.cells cur e fz/\Fz fz c/\cur.size=c/\c<=maxLen/\xs.length<=c/\∀(j:Nat) (b:UInt8),xs[j]?=some b->cur[j]?=some (.int .u8 (b.toNat:Int))
def Bs.cell {w:World}{g:Nat}{e:TypeId}{c:Nat}{xs:List UInt8}{o:Obj}(E:w.heap[g]?=some o)(h:Bs e c xs o){j:Nat}{b:UInt8}(I:xs[j]?=some b):w.cell? ⟨g,j,none⟩=some (.int .u8 (b.toNat:Int)):=by
 obtain⟨cur,fz,rfl,_,_,_,_,L⟩:=h;rw[cell_of_row w g j cur e _ E];exact L j b I
section
variable {r:Option Nat}{P:Program}{ops:Array Oper}{Q:Exit->Act->World->Prop}{rest:List Oper}{C:Cx}{l:List (Nat×Value)}{H:List (Nat×Res)}{d:Nat}{T:TypeId}{pos:String}{af:Array Edge}
def okB {X:Act->World->Prop}(k:Nat){g:Nat}{e:TypeId}{c:Nat}{xs:List UInt8}(h:xs.length<=maxLen->∀a w,Fr a C.n C.ds l->Hp C H w->X a w)(E:hk H k=some (.ob g (Bs e c xs)):=by rfl): ∀a w,Fr a C.n C.ds l->Hp C H w->X a w:=λa w L I=>by
 obtain⟨o,W,N⟩: ∃o,w.heap[g]?=some o/\Bs e c xs o:=I.hold k _ E;obtain⟨cur,_,_,_,_,O,V,_⟩:=N;exact h (Wq V O) a w L I
def AL.cvb (k:Nat){src dst e:TypeId}{x:Operand}{s:ByteArray}(hs:s.size<=maxLen)(h: ∀g c,AL r P ops Q rest C ((d,.slice (some ⟨g,0,none⟩) s.data.toList.length c)::l) ((k,.ob g (Bs e c s.data.toList))::H))
  (h1:P.underlying src=some .string:=by rfl) (h2:P.underlying dst=some (.slice e):=by rfl) (h3:P.underlying e=some (.int .u8):=by rfl) (hx:ev l x=some (.string s):=by rfl) (hd:Nat.ble (d+1) C.n=true:=by rfl) (hn:hk H k=none:=by kernel_rfl):
  AL r P ops Q (⟨some d,.convert src dst x,T,pos,af,none⟩::rest) C l H:=λa w hf hh=>by
 have N:=grownCap_ge w s.size 0 e;have O:grownCap w s.size 0 e<=maxLen:=grownCap_le_maxLen w s.size 0 e hs;have I:(bytesRow s (grownCap w s.size 0 e)).size=grownCap w s.size 0 e:=by
  have:s.data.size=s.size:=rfl;simp[bytesRow,this];omega
 refine Z.valw (w':=w.drew.alloc (.cells (bytesRow s (grownCap w s.size 0 e)) e ((bytesRow s (grownCap w s.size 0 e)).size,(bytesRow s (grownCap w s.size 0 e)).size+1))) (v:=.slice (some ⟨w.heap.size,0,none⟩) s.data.toList.length (grownCap w s.size 0 e)) hf hd ?_ λa' hf'=>h _ _ a' _ hf' (hh.new hn ?_ (λb hb'=>?_) (λj E=>by cases E) λ_ _ _ _ _=>?_);simp[execOp,hf.eval hx,run_bytes_of_string w src dst e s h1 h2 h3];have L:=Ch.alloc w.drew (.cells (bytesRow s (grownCap w s.size 0 e)) e ((bytesRow s (grownCap w s.size 0 e)).size,(bytesRow s (grownCap w s.size 0 e)).size+1));exact⟨L.os,L.tape,L.output,L.size,L.block⟩;simp only[Res.bl,Qn]at hb';subst hb';exact⟨Qt _,by rw[World.size_alloc];exact Qh _⟩;refine⟨_,World.alloc_heap_new w.drew _,bytesRow s (grownCap w s.size 0 e),_,rfl,λj E h=>by rw[I]at h;exact absurd h.1 (Nat.not_le_of_lt E),I,O,N,λj b E=>?_⟩;have V:=(Qd.1 E).1;have W:s.data[j]?=some b:=by rw[<-Xz];exact E
 unfold bytesRow;rw[X4 (by simpa using V),Array.getElem?_map,W];rfl
def AL.ixB (k kn:Nat){e tt:TypeId}{c g n:Nat}{xs:List UInt8}{x y:Operand}{i:Int}{kd:IntKind}{v:UInt8}(hi:ix xs i=some v)(hlen:n=xs.length)
  (h:AL r P ops Q rest C ((d,.pointer (some ⟨g,i.toNat,none⟩))::l) ((kn,.el (some k) g i.toNat [.int .u8 (v.toNat:Int)])::H))
  (E:hk H k=some (.ob g (Bs e c xs)):=by rfl) (hx:ev l x=some (.slice (some ⟨g,0,none⟩) n c):=by rfl) (hy:ev l y=some (.int kd i):=by rfl) (ht:P.underlying tt=some (.slice e):=by rfl) (hs:szB P e=some 1:=by kernel_rfl)
  (hd:Nat.ble (d+1) C.n=true:=by rfl) (hn:hk H kn=none:=by kernel_rfl) (I:Nat.beq k kn=false:=by rfl):AL r P ops Q (⟨some d,.indexAddr tt x y,T,pos,af,none⟩::rest) C l H:=λa w O W=>by
 obtain⟨m,rfl,hm⟩:=Qas hi;have hlt:=(Qd.1 hm).1;have I:k≠kn:=λe=>by rw[e,Ye]at I;cases I
 obtain⟨o,ho,hb⟩: ∃o,w.heap[g]?=some o/\Bs e c xs o:=W.hold k _ E;refine Z.val (v:=.pointer (some ⟨g,m,none⟩)) O hd ?_ λa' hf'=>h a' w hf' ?_;have:=r_indexAddrA (P:=P) (w:=w) (d:=some d) (T:=T) (pos:=pos) (af:=af) (gd:=none) ht (Qak hs) (O.eval hx) rfl (O.eval hy) rfl (by omega:m<n);rw[Addr.add_lit,Xc,Nat.mul_one]at this;exact this;exact W.add hn rfl (λj V r L=>by injection V with V;subst V;rw[E]at L;injection L with L;subst L;rfl) ⟨λj u N=>by
  cases j with
  |zero=>injection N with N;subst N;rw[Addr.add_lit];exact Bs.cell ho hb hm
  |succ j=>simp at N,(Qp.1 ho).1,⟨_,E,by simp[Res.bl]⟩⟩
def AL.stB (k ke:Nat)(js:List Nat){e tt:TypeId}{c g:Nat}{xs:List UInt8}{px py:Operand}{i:Int}{v:UInt8}{n:Int}(y:UInt8)(hi:ix xs i=some v)(O:n=(y.toNat:Int))
  (h:AL r P ops Q rest C l ((k,.ob g (Bs e c (xs.set i.toNat y)))::ded js H))
  (I:hk H k=some (.ob g (Bs e c xs)):=by rfl) (hx:ev l px=some (.pointer (some ⟨g,i.toNat,none⟩)):=by rfl) (hy:ev l py=some (.int .u8 n):=by rfl) (hS:szB P tt=some 1:=by kernel_rfl) (L:hng [k] js H=true:=by kernel_rfl):
  AL r P ops Q (⟨none,.store tt px py,T,pos,af,none⟩::rest) C l H:=λa w V hh=>by
 subst O;obtain⟨m,rfl,hm⟩:=Qas hi;have W:=(Qd.1 hm).1;obtain⟨o,ho,N⟩: ∃o,w.heap[g]?=some o/\Bs e c xs o:=hh.hold k _ I;have hcell:=Bs.cell ho N hm;obtain⟨cur,fz,rfl,hz,h2,h3,h4,h5⟩:=N;have hmc:m<cur.size:=by omega
 have hfz:w.frozen? ⟨g,m,none⟩=false:=by
  obtain⟨lo,hi'⟩:=fz;have:=hz m (by omega);simp only[World.frozen?,ho,Y3,decide_eq_false_iff_not];simp only at this;omega
 have hrun:=run_storeCells_cells (P:=P) g m [Value.int .u8 (y.toNat:Int)] 0 w (λj L=>by
  have:j=0:=by simpa using L
  subst this;simp[hcell]) (λj L=>by
  have:j=0:=by simpa using L
  subst this;simpa using hfz) (by simp[Value.oneCell'])
 have hw:w.setCells g (m+0) [Value.int .u8 (y.toNat:Int)]=w.setCell ⟨g,m,none⟩ (.int .u8 (y.toNat:Int)):=rfl;rw[hw]at hrun;have hg':(w.setCell ⟨g,m,none⟩ (.int .u8 (y.toNat:Int))).heap[g]?=some (.cells (cur.setIfInBounds m (.int .u8 (y.toNat:Int))) e fz):=by
  unfold World.setCell;simp[Y2,ho]
 have hch:Ch [g] w (w.setCell ⟨g,m,none⟩ (.int .u8 (y.toNat:Int))):=⟨rfl,rfl,rfl,by simp[World.setCell],λb N O=>by
  have:b≠g:=by simpa using O
  simp[World.setCell,Y2,Ne.symm this]⟩
 refine Z.skipw (w':=w.setCell ⟨g,m,none⟩ (.int .u8 (y.toNat:Int))) V ?_ λa' hf'=>h a' _ hf' (Hp.dd (hh.upd hch (λb N=>⟨_,I,N⟩) (λb N=>.inl ⟨_,I,N⟩) (λj L=>by cases L) λ_ _ _ _ _ _ _=>⟨_,hg',cur.setIfInBounds m (.int .u8 (y.toNat:Int)),fz,rfl,hz,by simpa using h2,h3,by simpa using h4,λj b E=>?_⟩) L);have hx':=V.eval hx;have hy':=V.eval hy;simp only[execOp,hx',hy',Instr.storeAt,Instr.sureAddr,Sem.run_bind,Sem.run_pure,Result.andThen_ok,storeVar,Qak hS,Qv];have hc:(Value.int .u8 (y.toNat:Int)).cells=#[.int .u8 (y.toNat:Int)]:=rfl;simp only[hc,Xt,List.length_singleton,ne_eq,not_true,Wa,hrun,Result.andThen_ok,Sem.run_pure];rw[Qv,Yq]at E;rw[Array.getElem?_setIfInBounds];by_cases e1:m=j;subst e1;rw[Qc rfl,Qc W]at E;injection E with E;subst E
 rw[Qc rfl,Qc hmc];rw[Qb e1]at E;rw[Qb e1];exact h5 j b E
def AL.cbs (k:Nat){src dst e:TypeId}{x:Operand}{c g n:Nat}{xs:List UInt8}(hlen:n=xs.length)(h:AL r P ops Q rest C ((d,.string ⟨xs.toArray⟩)::l) H)
  (E:hk H k=some (.ob g (Bs e c xs)):=by rfl) (N:ev l x=some (.slice (some ⟨g,0,none⟩) n c):=by rfl)
  (O:P.underlying src=some (.slice e):=by rfl) (V:P.underlying e=some (.int .u8):=by rfl) (W:P.underlying dst=some .string:=by rfl) (hd:Nat.ble (d+1) C.n=true:=by rfl):
  AL r P ops Q (⟨some d,.convert src dst x,T,pos,af,none⟩::rest) C l H:=λa w I L=>by
 subst hlen;obtain⟨o,ho,hb⟩: ∃o,w.heap[g]?=some o/\Bs e c xs o:=L.hold k _ E;refine Z.val I hd ?_ λa' hf'=>h a' w hf' L;have:=run_convert_bytes_back (P:=P) w src dst e ⟨g,0,none⟩ c xs O V W λj hj=>by
  rw[Addr.add_lit,Xc];exact Bs.cell ho hb (Qg hj)
 simp[execOp,I.eval N,this]
def AL.cvr {src dst e:TypeId}{x:Operand}{A:Option Addr}{c n:Nat}{xs:List Int}{kp':(Nat->Prop)->Prop}(hrow: ∀w,Hp C H w->∃G:Nat->Prop,Row (.int .i32) w (Fh C H) G A c xs/\kp' G)(hlen:n=xs.length)(h:AL r P ops Q rest C ((d,.string (runesBytes xs))::l) H)
  (L:ev l x=some (.slice A n c):=by rfl) (N:P.underlying src=some (.slice e):=by rfl) (O:P.underlying e=some (.int .i32):=by rfl) (V:P.underlying dst=some .string:=by rfl) (hd:Nat.ble (d+1) C.n=true:=by rfl):
  AL r P ops Q (⟨some d,.convert src dst x,T,pos,af,none⟩::rest) C l H:=λa w E W=>by
 subst hlen;obtain⟨G,hR,_⟩:=hrow w W;refine Z.val E hd ?_ λa' hf'=>h a' w hf' W;obtain⟨cells,p1,p2,p3,p4⟩:=hR.cells;have h0nil: ∀c,(convert src dst (.slice none 0 c)).run P w=.ok (.string (runesBytes [])) w:=λc=>run_convert_runes_nil w src dst e 0 c N O V;rcases p3 with h0|⟨ad,rfl,hcell⟩
 have:xs=[]:=We h0;subst this;cases A with
 |none=>simp[execOp,E.eval L,h0nil]
 |some ad=>
  have:=run_convert_runes (P:=P) w src dst e ad 0 c [] (Qt _) N O V (λj I=>by simp at I);simp[execOp,E.eval L,this]
 have:=run_convert_runes (P:=P) w src dst e ad xs.length c xs (Qt _) N O V λj I=>by
  refine hcell j _ ?_;have h4:=p4 j _ (Qg I);have h5:(cells.drop (j*1)).take 1=[.int .i32 xs[j]]:=h4.1;rw[Nat.mul_one]at h5;have h6:((cells.drop j).take 1)[0]?=some (.int .i32 xs[j]):=by rw[h5];rfl
  rw[Wo (by omega),Xq,Jw]at h6;rw[h6,Y6,Qg I];rfl
 simp[execOp,E.eval L,this,Yv]
end
end Go.A
end
section
namespace Go.Proofs.YtlhiofnikdppeaaGreatDoor
open Go.RowKit
variable(A0_ A1_ A2_ A3_ A4_ A5_ A6_ A7_ A8_ A10_ A12_ A13_ A17_:Option Addr)(b0_ g0_ b1_ c1_ c2_ g2_ c3_ b4_ c4_ b5_ c5_ b6_ c6_ c7_ c8_ c9_ g10_ c11_ c13_ c14_ c18_:Nat)
def F.aT (h:Int->Option Int)(f:Int)(k:Bool):Option Int:=if k=true then(some 171)else(A.gd (Z.R64 (f+1)) (h (f+1)))
def F.y (o:D54)(k:(List D49)):Nat->Int->Option Int
 |0,_=>none
 |f+1,h=>if h<(k.length:Int)then((A.ix k h).bind λs=>((F.eG o s).bind λu=>(if(!u)=true then(F.aT (F.y o k f) h true)else(if(0:Int)<h then(A.gd (Z.R64 (h-1)) ((A.ix k (h-1)).bind λz=>((F.eF z s).bind λB=>(F.aT (F.y o k f) h (!B)))))else(F.aT (F.y o k f) h false)))))else(some 0)
def F.bB (f:D54)(h:(List D49)):Option Int:=F.y f h A.FU 0
theorem o_aj(k:D54)(u:(List D49))(a4:A.h6 k.1)(a5:A.h6 k.2.1)(a6:A.h6 k.2.2.2.1.1)(a7:A.h6 k.2.2.2.1.2.1)(a8:k.2.2.2.1.2.2.size<=maxLen)(a9:k.2.2.2.2.1.size<=maxLen)(aa:A.h6 k.2.2.2.2.2.1)(ab:A.h6 k.2.2.2.2.2.2)(r:Int)(h:F.bB k u=some r):
    A.Ct Tryz.prog 38 [(A.rao k A2_ c3_),.slice A10_ u.length c11_] [(0,.sh A.TI [.slice A2_ k.2.2.1.length c3_] k.2.2.1),(1,.ln T49 A10_ c11_ u),(2,.el none 0 0 A.tabF),(3,.el none 1 0 A.tabA)] [] (λv H'=>v=A.i r/\H'=[]/\A.h6 r):=by
 refine Jz Tryz.func38 rfl Tryz.ntmps38 rfl λw0 F0=>?_;rw[F.bB]at h;refine J8 1 ?_;refine J4 4 (cs:=(A.rai k A2_ c3_)) λg1=>?_;refine Vc 1 [] 3 ?_;refine Vf 3 [(7,.slice A10_ u.length c11_),(8,A.i (u.length:Int)),(9,A.i 0)] 2 ?_;refine Vs [1,2,7,8] [0,1,2,3,4] (λf I L=>∃(o:Int),I=[(9,A.i o)]/\L=[]/\A.h6 o/\F.y k u f o=some r) ⟨0,rfl,rfl,Vd,h⟩ ?_;rintro N _ _ ⟨o,rfl,rfl,ai,h⟩;rcases N with _|N
 exact Vo h;rw[F.y]at h;refine Vu 1 1 [(10,.bool (decide (o<(u.length:Int))))] 2 h ?_ ?_<;>intro U h;refine V6 5 1 [(11,A.i o)] ?_;have⟨B,ac,h⟩:=V5 h;refine Uh 1 171 ac λz=>?_;intro b8 o9;refine J9 [] [171] [.e 0 0] [(13,(A.raq B))] (J1 172 (cs:=l2c) Tryz.zeroValue50 λaj=>?_);refine Uf 1 [(5,A.i o)] (Vp 172 [] (A.rak B) ?_);refine Um 1 ?_;refine J3 [1,2,7,8,9] [0,1,2,3,4] (λI L=>∃(O:Bool),I=[(31,.bool O)]/\L=[]/\F.aT (F.y k u N) o O=some r) ?_ ?_;refine Vn mixed 18 18 (A.mb 18 0) ?_;refine Vg J5 [] l2a [4,172] [] (A.mb 18 3) 16 [(0,.b 0 0),(1,.b 1 0)] [(14,(A.rao k A2_ c3_)),(15,(A.raq B))] (J6 2 ?_);refine Vy 173 [] h (o_bB A2_ c3_ k B a4 a5 a6 a7 a8 a9 aa ab z.1 z.2.1 z.2.2.1 z.2.2.2) (.s 0 (.s 2 (.s 3 .nil))) ?_;rintro ad - h _ _ ⟨rfl,rfl⟩;refine Vb (Va (A.mb 18 7) l2a ?_);refine Vg J5 l2a l2a [] [] (A.mb 18 31) 13 [(3,.n),(4,.n)] [(18,.bool (!ad))] (U5 (j:=18) rfl h (λh=>?_) (λh=>?_));refine Vg J5 l2a l2a [] [] (A.mb 18 262143) 0 [(5,.off),(6,.off),(7,.off),(8,.off),(9,.off),(13,.off),(10,.off),(11,.off),(12,.off),(14,.off),(15,.off),(16,.off),(17,.n)] [(31,.bool true)] (J7 ?_);exact Vj ⟨true,rfl,rfl,h⟩;refine Vg J5 l2a l2a [] [] (A.mb 18 255) 10 [(5,.on .n),(6,.on .n),(7,.on .n)] [(21,.bool (decide ((0:Int)<o)))] (Us (j:=21) rfl h ?_ ?_)<;>intro U h;have⟨ae,h⟩:=V4 h;refine Ki J5 l2a l2a [172] [] (A.mb 18 10239) 6 [(8,.on .n),(9,.on .n),(13,.on (.b 0 0)),(10,.on .n)] [22,27,24] [Z.R64 (o-1)] [(22,.slice A10_ u.length c11_),(27,(A.raq B)),(24,A.i (o-1))] ae ?_;have⟨V,W,h⟩:=V5 h;refine Ue 1 213 W λE=>?_;intro ak al ah;refine Un J5 l2a l2b 11 (A.mb 18 12287) (dj:=21) rfl (λa w hf hh=>Vk (t:=T49) W ah hf) ?_;refine Vg J5 l2b l2b [] [213] (A.mb 18 16383) 4 [(12,.on (.e 0 0))] [(26,(A.raq V))] (J6 14 ?_);refine Vi (dj:=21) rfl rfl ?_;refine Vy 214 [] h (o_bA V B E.1 E.2.1 E.2.2.1 E.2.2.2 z.1 z.2.1 z.2.2.1 z.2.2.2) .nil ?_;rintro a2 - h _ _ ⟨rfl,rfl⟩;refine Vb (Va (A.mb 18 32767) l2b ?_);refine Vg J5 l2b l2b [] [] (A.mb 18 262143) 0 [(15,.on .n),(16,.on .n),(17,.n)] [(31,.bool (!a2))] (J7 ?_);exact Vj ⟨(!a2),rfl,rfl,h⟩;refine Vg J5 l2a l2a [] [] (A.mb 18 262143) 0 [(8,.off),(9,.off),(13,.off),(10,.off),(11,.off),(12,.off),(14,.off),(15,.off),(16,.on .n),(17,.n)] [(31,.bool false)] (J7 ?_);exact Vj ⟨false,rfl,rfl,h⟩;rintro _ _ ⟨O,rfl,rfl,h⟩;rw[F.aT]at h;refine Ur h ?_ ?_<;>intro U h;refine Ve 1 1 [(4,A.i 171)] 1 ?_;exact A.ke h (Vh ⟨rfl,rfl,(Vl 171)⟩);refine J8 3 ?_;have⟨a3,h⟩:=V4 h;refine Up 2 [Z.R64 (o+1)] [(9,A.i (o+1))] a3 (Jy ?_);exact Vj ⟨_,Qh _,⟨(o+1),rfl,rfl,(J2 a3),h⟩⟩;refine Ve 3 1 [(4,A.i 0)] 1 ?_;exact A.ke h (Vh ⟨rfl,rfl,Vd⟩)
def F.dR (f:Int)(h:Int):Option Int:=A.gd (((decide ((0:Int)<f))=true->f≠0)/\((decide ((0:Int)<f))=true->Z.R64 (Int.tdiv 1099511627776 f))) (if(bif decide ((0:Int)<f)then decide (Int.tdiv 1099511627776 f<h)else false)=true then(some 1099511627776)else(A.gd (Z.R64 (f*h)) (some (f*h))))
theorem o_a9 (f:Int)(k:Int)(u:A.h6 f)(z:A.h6 k)(r:Int)(h:F.dR f k=some r):
    A.Ct Tryz.prog 73 [A.i f,A.i k] [] [] (λv H'=>v=A.i r/\H'=[]/\A.h6 r):=by
 refine Jz Tryz.func73 rfl Tryz.ntmps73 rfl λB E=>?_;rw[F.dR]at h;refine J8 1 ?_;refine Vc 1 [] 3 ?_;have⟨s,h⟩:=V4 h;refine A.q [] [] [.n,.n,.n,.sy .n,.sy .n,.sy .n,.sy .n,.pk] [(decide ((0:Int)<f))=true->f≠0,(decide ((0:Int)<f))=true->Z.R64 (Int.tdiv 1099511627776 f)] [(12,.bool (bif decide ((0:Int)<f)then decide (Int.tdiv 1099511627776 f<k)else false))] s (Um 1 ?_);refine Ur h ?_ ?_<;>intro I h;refine Ve 1 1 [(4,A.i 1099511627776)] 1 ?_;exact A.ke h (Vh ⟨rfl,rfl,(Vl 1099511627776)⟩);refine J8 3 ?_;have⟨o,h⟩:=V4 h;refine Up 4 [Z.R64 (f*k)] [(4,A.i (f*k))] o (Um 1 ?_);exact A.ke h (Vh ⟨rfl,rfl,(J2 o)⟩)
def F.f1 (h:Int)(k:D40)(o:D91):Option Int:=(F.c9 h k).bind λf=>(if f≠0 then(some f)else((F.dG o).bind λs=>(some s)))
theorem o_cA (o:Int)(h:D40)(k:D91)(z:A.h6 o)(B:A.h6 h.1)(E:A.h6 h.2.1)(I:h.2.2.size<=maxLen)(L:A.h6 k.1)(N:k.2.size<=maxLen)(r:Int)(f:F.f1 o h k=some r):
    A.Ct Tryz.prog 99 [A.i o,(A.rap h),(A.rar k)] [(0,.el none 0 0 A.tabF),(1,.el none 1 0 A.tabA)] [] (λv H'=>v=A.i r/\H'=[]/\A.h6 r):=by
 refine Jz Tryz.func99 rfl Tryz.ntmps99 rfl λU V=>?_;rw[F.f1]at f;refine J8 1 ?_;refine J4 2 (cs:=(A.raj h)) λW=>?_;refine J4 3 (cs:=(A.ral k)) λg2=>?_;refine Vc 1 [] 3 ?_;refine J9 [2] [] [.n,.b 0 0] [(8,A.i o),(9,(A.rap h))] (Vy 4 [] f (o_ay o h z B E I) (.s 0 (.s 1 .nil)) ?_);rintro u - f _ _ ⟨rfl,rfl,hr5⟩;refine Vb (Vc 1 [(7,A.i u)] 2 ?_);refine Vf 2 [(12,.bool (decide (u≠0)))] 1 ?_;refine Uq f ?_ ?_<;>intro hb f;refine Ve 1 2 [(6,A.i u)] 1 ?_;exact A.ke f (Vh ⟨rfl,rfl,hr5⟩);refine Vt 3 [3] [] [.b 0 0] [(14,(A.rar k))] ?_;refine Vy 44 [] f (o_aQ k L N) (.s 0 (.s 1 .nil)) ?_;rintro O - f _ _ ⟨rfl,rfl,hr8⟩;refine Vb (Vf 1 [(6,A.i O)] 1 ?_);exact A.ke f (Vh ⟨rfl,rfl,hr8⟩)
def F.cz (h:ByteArray):Nat->Nat->(List Int)->Option (List Int)
 |0,_,_=>none
 |f+1,k,o=>if k<h.size then(A.gd ((List.length (α:=Int) o+List.length (α:=Int) [((Utf8.decode h k).1:Int)])*4<=140737488355328) ((F.cz h f) (k+(Utf8.decode h k).2) (o++[((Utf8.decode h k).1:Int)])))else(some o)
def F.f8 (f:ByteArray):Option (List Int):=F.cz f A.FU 0 []
theorem o_ci (h:ByteArray)(V:h.size<=maxLen)(r:(List Int))(o:F.f8 h=some r):
    A.Ct Tryz.prog 100 [.string h] [] [] (λv H'=>∃(A0':Option Addr) (c1':Nat),v=.slice A0' r.length c1'/\H'=[(0,.own (Z.Ty.int .i32) 21 A0' c1' r)]):=by
 refine Jz Tryz.func100 rfl Tryz.ntmps100 rfl λW F0=>?_;rw[F.f8]at o;refine J8 1 ?_;refine Vc 1 [] 2 ?_;refine Vc 1 [(3,.slice none 0 0)] 3 ?_;refine Uf 1 [(6,.string h)] (A.AL.rgs 0 λN=>?_);refine Um 2 ?_;refine Uk 4 (Z.Ty.int .i32) 21 ?_;refine Vs [7] [] (λf O U=>∃(s:Nat)(u:List Int)(z:Option Addr)(B:Nat),O=[(3,.slice z u.length B)]/\U=[(0,.si N h s),(4,.own (Z.Ty.int .i32) 21 z B u)]/\F.cz h f s u=some r) ⟨0,[],none,0,rfl,rfl,o⟩ ?_;rintro E _ _ ⟨s,u,z,B,rfl,rfl,o⟩;rcases E with _|E
 exact Vo o;rw[F.cz]at o;refine J8 1 ?_;refine A.AL.nxs 0 [] o (λhb7 o=>?_) (λhb o=>?_);refine Vf 1 [(9,.bool true)] 2 ?_;refine Ut rfl ?_;refine J8 4 ?_;refine Vc 2 [(5,.int .i32 ((Utf8.decode h s).1:Int))] 1 ?_;refine Uf 2 [(11,.slice z u.length B),(12,.int .i32 ((Utf8.decode h s).1:Int))] (Vx 7 (ty:=(Z.Ty.int .i32)) (cs:=[.int .i32 ((Utf8.decode h s).1:Int)]) [((Utf8.decode h s).1:Int)] ⟨⟨rfl,A.dec_has⟩,rfl⟩ (λg8=>?_) Tryz.zeroValue21 Tryz.sizeOf21);have⟨hl11,o⟩:=V4 o;refine V2 (k:=4) [] (Ul (k:=7) rfl) inf21 hl11 λI L=>?_;refine Uf 1 [(3,.slice I ((u++[((Utf8.decode h s).1:Int)]).length) L)] (Uo 1 ?_);exact Vj ⟨_,Qh _,⟨(s+(Utf8.decode h s).2),(u++[((Utf8.decode h s).1:Int)]),I,L,rfl,rfl,o⟩⟩;refine Vf 1 [(9,.bool false)] 2 ?_;refine Uy rfl ?_;refine Ve 3 2 [(2,.slice z u.length B)] 1 ?_;obtain rfl:=Vr o;exact Uw [(0,4)] ⟨z,B,rfl,rfl⟩
def F.dZ (h:(List UInt8)->Int->Option ByteArray)(f:Int)(k:List UInt8):Option ByteArray:=A.gd (Z.R64 (f+1)) (h k (f+1))
def F.bd (o:ByteArray):Nat->(List UInt8)->Int->Option ByteArray
 |0,_,_=>none
 |f+1,k,h=>if h<((o.data.toList).length:Int)then((A.ix k h).bind λs=>(if(bif decide ((97:Int)<=(s.toNat:Int))then decide ((s.toNat:Int)<=122)else false)=true then((A.ix k h).bind λu=>(F.dZ (F.bd o f) h (k.set h.toNat (A.b8 ((IntKind.u8.wrap ((s.toNat:Int)-97))+65)))))else(F.dZ (F.bd o f) h k)))else(some (ByteArray.mk (k).toArray))
def F.f9 (f:ByteArray):Option ByteArray:=F.bd f A.FU f.data.toList 0
theorem o_cj (k:ByteArray)(V:k.size<=maxLen)(r:ByteArray)(h:F.f9 k=some r):
    A.Ct Tryz.prog 101 [.string k] [] [] (λv H'=>v=.string r/\H'=[]/\r.size<=maxLen):=by
 refine Jz Tryz.func101 rfl Tryz.ntmps101 rfl λw0 F0=>?_;rw[F.f9]at h;refine J8 1 ?_;refine Vc 1 [] 2 ?_;refine Uf 1 [(6,.string k)] (A.AL.cvb 0 V λu z=>?_);refine Vc 1 [(3,.slice (some ⟨u,0,none⟩) ((k.data.toList).length) z)] 3 ?_;refine Vf 3 [(8,.slice (some ⟨u,0,none⟩) ((k.data.toList).length) z),(9,A.i ((k.data.toList).length:Int)),(10,A.i 0)] 2 ?_;refine Vs [3,8,9] [] (λf I L=>∃(s:List UInt8)(o:Int),I=[(10,A.i o)]/\L=[(0,.ob u (A.Bs 5 z s))]/\(k.data.toList).length=s.length/\A.h6 o/\F.bd k f s o=some r) ⟨k.data.toList,0,rfl,rfl,rfl,Vd,h⟩ ?_;rintro N _ _ ⟨s,o,rfl,rfl,hn4,a2,h⟩;rcases N with _|N
 exact Vo h;rw[F.bd]at h;refine Vu 1 1 [(11,.bool (decide (o<((k.data.toList).length:Int))))] 2 h ?_ ?_<;>intro W h;refine Uj 2 ?_;refine J3 [3,8,9,10] [] (λI L=>∃(E:List UInt8),I=[]/\L=[(0,.ob u (A.Bs 5 z E))]/\(k.data.toList).length=E.length/\F.dZ (F.bd k N) o E=some r) ?_ ?_;refine V6 2 1 [(12,A.i o)] ?_;have⟨B,a1,h⟩:=V5 h;refine A.AL.ixB 0 5 a1 hn4 ?_;refine J9 [] [5] [.e 0 0,.n,.n] [(4,A.i o),(5,.int .u8 (B.toNat:Int))] (V3 2 ?_);refine V9 [] [] [.n,.n,.n,.sy .n,.sy .n,.pk] [(20,.bool (bif decide ((97:Int)<=(B.toNat:Int))then decide ((B.toNat:Int)<=122)else false))] 1 ?_;refine Ur h ?_ ?_<;>intro W h;refine V6 0 5 [(21,.slice (some ⟨u,0,none⟩) ((k.data.toList).length) z),(22,A.i o),(25,.int .u8 (IntKind.u8.wrap ((IntKind.u8.wrap ((B.toNat:Int)-97))+65)))] ?_;have⟨a3,O,h⟩:=V5 h;refine A.AL.ixB 0 6 O hn4 ?_;refine A.AL.stB 0 6 [5,6] (A.b8 ((IntKind.u8.wrap ((B.toNat:Int)-97))+65)) O (A.b8_wrap _) ?_;refine Uo 1 ?_;exact Vj ⟨(s.set o.toNat (A.b8 ((IntKind.u8.wrap ((B.toNat:Int)-97))+65))),rfl,rfl,(by rw[Xd];exact hn4),h⟩;refine Ua 2 ?_;exact Vj ⟨s,rfl,rfl,hn4,h⟩;rintro _ _ ⟨E,rfl,rfl,hn9,h⟩;rw[F.dZ]at h;refine J8 0 ?_;have⟨U,h⟩:=V4 h;refine Up 2 [Z.R64 (o+1)] [(10,A.i (o+1))] U (Jy ?_);exact Vj ⟨_,Qh _,⟨E,(o+1),rfl,rfl,hn9,(J2 U),h⟩⟩;refine V6 3 1 [(28,.slice (some ⟨u,0,none⟩) ((k.data.toList).length) z)] ?_;refine A.okB 0 λhl15=>?_;refine A.AL.cbs 0 hn4 ?_;refine Vf 1 [(2,.string (ByteArray.mk (s).toArray))] 1 ?_;exact A.ke h (Vh ⟨rfl,rfl,(A.mk_le hl15)⟩)
def F.r:Nat->(List Int)->Int->Int->Option (List Int)
 |0,_,_,_=>none
 |f+1,k,h,o=>if h<o then((A.ix k o).bind λs=>((A.ix k h).bind λu=>((A.ix k h).bind λz=>((A.ix (k.set h.toNat s) o).bind λB=>(A.gd (Z.R64 (h+1)/\Z.R64 (o-1)) ((F.r f) ((k.set h.toNat s).set o.toNat u) (h+1) (o-1)))))))else(some k)
def F.aU (f:(List Int)):Option (List Int):=A.gd (Z.R64 ((f.length:Int)-1)) (F.r A.FU f 0 ((f.length:Int)-1))
theorem o_ak(k:(List Int))(r:(List Int))(h:F.aU k=some r):
    A.Ct Tryz.prog 102 [.slice A0_ k.length c1_] [(0,.own (Z.Ty.int .i32) 21 A0_ c1_ k)] (Z.obl A0_++[]) (λv H'=>v=.tuple #[]/\H'=[(0,.own (Z.Ty.int .i32) 21 A0_ c1_ r)]/\r.length=k.length):=by
 refine Jz Tryz.func102 rfl Tryz.ntmps102 rfl λw0 F0=>?_;rw[F.aU]at h;refine J8 1 ?_;have⟨O,h⟩:=V4 h;refine Up 5 [Z.R64 ((k.length:Int)-1)] [(2,A.i 0),(3,A.i ((k.length:Int)-1))] O (Um 2 ?_);refine Vs [0] [] (λf nl nh=>∃(z:List Int)(s:Int)(u:Int),nl=[(2,A.i s),(3,A.i u)]/\nh=[(0,.own (Z.Ty.int .i32) 21 A0_ c1_ z)]/\k.length=z.length/\A.h6 s/\A.h6 u/\F.r f z s u=some r) ⟨k,0,((k.length:Int)-1),rfl,rfl,rfl,Vd,(J2 O),h⟩ ?_;rintro U _ _ ⟨z,s,u,rfl,rfl,hn5,a9,aa,h⟩;rcases U with _|U
 exact Vo h;rw[F.r]at h;refine Vu 2 3 [(9,.bool (decide (s<u)))] 1 h ?_ ?_<;>intro hb h;refine Uj 4 ?_;refine Vn mixed 13 16 (A.mb 16 0) ?_;refine Vg J5 [] [0] [] [] (A.mb 16 819) 10 [(0,.n),(1,.n),(4,.n),(5,.n),(8,.n),(9,.n)] [(14,.slice A0_ k.length c1_),(15,A.i s),(18,.slice A0_ k.length c1_),(19,A.i u),(22,.slice A0_ k.length c1_),(23,A.i s)] (A.AH.qp J5 [0] (A.mb 16 831) 8 [(2,.n),(3,.n)] [(16,.slice A0_ k.length c1_),(17,A.i u)] ?_);refine Kl 18 (Uv (show k.length=z.length from hn5)) ?_;have⟨B,V,h⟩:=V5 h;refine U2 0 9 V λa3=>?_;intro ab a4;refine Vq J5 [0] [0,9] 6 (A.mb 16 895) rfl (λa w hf hh=>Ka (t:=(Z.Ty.int .i32)) V a4 hf) ?_;refine Vg J5 [0,9] [0,9] [] [9] (A.mb 16 1023) 6 [(7,.e 0 0)] [(21,.int .i32 B)] (Kl 22 (Uv (show k.length=z.length from hn5)) ?_);have⟨E,W,h⟩:=V5 h;refine U2 0 10 W λa5=>?_;intro ac a6;refine Vq J5 [0,9] [0,9,10] 10 (A.mb 16 2047) rfl (λa w hf hh=>Ka (t:=(Z.Ty.int .i32)) W a6 hf) ?_;refine Vg J5 [0,9,10] [0,9,10] [] [10] (A.mb 16 4095) 4 [(11,.e 0 0)] [(25,.int .i32 E)] (Kl 14 (Uv (show k.length=z.length from hn5)) ?_);have⟨a7,I,h⟩:=V5 h;refine U2 0 11 I λad=>?_;intro ae a1;refine Vq J5 [0,9,10] [0,9,10,11] 12 (A.mb 16 8191) rfl (λa w hf hh=>Ka (t:=(Z.Ty.int .i32)) I a1 hf) ?_;refine J6 13 ?_;refine A.AL.setel 0 11 [9,10,11] (o:=0) (m:=1) (t:=(Z.Ty.int .i32)) (new:=[.int .i32 B]) (es:=[.int .i32 a7]) B I a1 ⟨rfl,a3⟩ ?_;refine U8 (A.mb 16 16383) ?_;refine A.AH.bh 15 ?_;refine Kl 16 (Uv (show k.length=(z.set s.toNat B).length from(by rw[Xd];exact hn5))) ?_;have⟨a8,L,h⟩:=V5 h;refine U2 0 12 L λah=>?_;intro ai a2;refine Vq J5 [] [0,12] 14 (A.mb 16 32767) rfl (λa w hf hh=>Ka (t:=(Z.Ty.int .i32)) L a2 hf) ?_;refine J6 15 ?_;refine A.AL.setel 0 12 [12] (o:=0) (m:=1) (t:=(Z.Ty.int .i32)) (new:=[.int .i32 E]) (es:=[.int .i32 a8]) E L a2 ⟨rfl,a5⟩ ?_;refine U8 (A.mb 16 65535) ?_;refine J7 ?_;refine Ko 2 ?_;have⟨N,h⟩:=V4 h;refine Up 6 [Z.R64 (s+1),Z.R64 (u-1)] [(2,A.i (s+1)),(3,A.i (u-1))] N (Jy ?_);exact Vj ⟨_,Qh _,⟨((z.set s.toNat B).set u.toNat E),(s+1),(u-1),rfl,rfl,(by rw[Xd];exact(by rw[Xd];exact hn5)),(J2 N.1),(J2 N.2),h⟩⟩;refine Ua 1 ?_;obtain rfl:=Vr h;exact A.AE.ret [(0,0)] (.tuple #[]) (λa w hf hh=>Z.res0 rfl w) (⟨rfl,rfl,(Eq.symm hn5)⟩)
def F.gj (f:ByteArray):Option (ByteArray):=some f
theorem o_bS (f:ByteArray)(o:f.size<=maxLen)(r:(ByteArray))(h:F.gj f=some r):
    A.Ct Tryz.prog 143 [.string f] [] [] (λv H'=>∃(g0':Nat),v=.func (.func 171) #[] #[.pointer (some ⟨g0',0,none⟩)]/\H'=[(0,.blk g0' 9 [.string r])]/\r.size<=maxLen):=by
 refine Jz Tryz.func143 rfl Tryz.ntmps143 rfl λs u=>?_;rw[F.gj]at h;refine J8 1 ?_;refine J4 0 (cs:=[.string f]) λk=>?_;refine Vc 1 [] 2 ?_;refine Vf 2 [(2,.func (.func 171) #[] #[.pointer (some ⟨k,0,none⟩)])] 1 ?_;obtain rfl:=Vr h;exact Uw [(0,0)] ⟨k,rfl,rfl,o⟩
end Go.Proofs.YtlhiofnikdppeaaGreatDoor
end
section
namespace Go.A
open Go.RowKit Go.Z
def SeqUk (P:Program)(gf:FuncId)(cap:List Value)(N:Nat)(E:Nat->Nat->World->World->List Value->Prop)(D0:World->Prop)(Dat:Nat->Nat->World->Prop):Prop:=
 ∀(lid:Nat) (w:World) (J0:World->Prop) (J:Nat->Nat->World->Prop) (Jx:World->Prop),(∀W W',J0 W->Ch [] W W'->J0 W')->(∀g k W W',J g k W->Ch [g] W W'->J g k W')->(∀W W',Jx W->Ch [] W W'->Jx W')->
  (∀W,J0 W->D0 W)->(∀g W W',J0 W->Ch [] W W'->W.heap.size<=g->g<W'.heap.size->J g 0 W')->(∀g k W,J g k W->Dat g k W)->J0 w->
  (∀g k W0 W args,k<N->J g k W0->Ch [g] W0 W->E g k W0 W args->YieldAt (FW none) 0 P lid args.toArray W λe W'=>(e=.returned (.bool true)/\J g (k+1) W'/\W'.heap[g]?=W.heap[g]?)\/(e=.returned (.bool false)/\Jx W'))->
  Calls P gf (.func (.yield lid) #[] #[]::cap).toArray w λe W'=>e=.returned (.tuple #[])/\((∃g,J g N W')\/Jx W')
section
variable {P:Program}{Q:Exit->Act->World->Prop}{a:Act}{w:World}{n:Nat}{ds:List Deferred}{l:List (Nat×Value)}
def rangeKU {g:Operand}{ps:List Nat}{assign body:Code}{gf:FuncId}{cap:List Value}(hf:Fr a n ds l)(hg:ev l g=some (.func (.func gf) #[] cap.toArray))
  (hcf: ∀args w,(callFunc gf args).run P w=.ok (.enter gf args) w) (N:Nat) (E:Nat->Nat->World->World->List Value->Prop) (D0:World->Prop) (Dat:Nat->Nat->World->Prop) (I0:World->Prop) (I:Nat->Nat->World->Prop) (X:Exit->World->Prop) (hseq:SeqUk P gf cap N E D0 Dat)
  (hlen: ∀g k W0 W args,E g k W0 W args->args.length=ps.length) (hps: ∀p,p∈ps->p<n)
  (hI0: ∀W1,(∃W',Ch [] w W'/\W'.heap.size=w.heap.size+1/\Dfr W' w.heap.size/\Ch [] W' W1/\W1.heap.size=W'.heap.size+1)->(∃o,W1.heap[w.heap.size+1]?=some o)->I0 W1)
  (hst0: ∀W W',I0 W->Ch [w.heap.size+1] W W'->I0 W') (hst: ∀g k W W',w.heap.size+1<g->I g k W->Ch [w.heap.size+1] W W'->I g k W') (hsg: ∀g k W W',w.heap.size+1<g->I g k W->Ch [g] W W'->I g k W') (hcv: ∀g W W',I0 W->Ch [] W W'->W.heap.size<=g->g<W'.heap.size->I g 0 W') (hxt: ∀e W W',X e W->Ch [w.heap.size+1] W W'->X e W') (hdat0: ∀W,I0 W->D0 W) (hdat: ∀g k W,w.heap.size+1<g->I g k W->Dat g k W)
  (hround: ∀g k W0 W args a o,k<N->w.heap.size+1<g->g<W.heap.size->I g k W0->Ch [g] W0 W->w.heap.size+1<W0.heap.size->E g k W0 W args->args.length=ps.length->W.heap[w.heap.size+1]?=some o->Dfr W w.heap.size->Fr a n [] (Qiu ps args l)->
   WP (some (w.heap.size+1)) P assign (λe a1 W1=>e=.normal/\W1.heap[w.heap.size+1]?=some o/\Dfr W1 w.heap.size/\∀W2 o2,Ch [w.heap.size+1] W1 W2->W2.heap[w.heap.size+1]?=some o2->Dfr W2 w.heap.size->
    WP (some (w.heap.size+1)) P body (RQ w.heap.size (w.heap.size+1) o2 (λk W'=>I g k W'/\W'.heap[g]?=W.heap[g]?) X k) a1 W2) a W)
  (hdone: ∀g W a',w.heap.size+1<g->I g N W->Dfr W w.heap.size->Fr a' n (mkD w.heap.size::ds) l->Q .normal a' W)
  (hret: ∀W a',X .ret W->Dfr W w.heap.size->Fr a' n (mkD w.heap.size::ds) l->Q .ret a' W)
  (hexit: ∀id W a',X (.exit id) W->Dfr W w.heap.size->Fr a' n (mkD w.heap.size::ds) l->Q (.exit id) a' W):WP none P (Code.rangeFunc g ps.toArray assign body) Q a w:=by
 refine wpIn_rangeFunc λfn hfn=>?_;obtain⟨rec,hrec⟩: ∃rec:LoopState->Option Code->Loop,rec=λst pe=>{state:=st,pending:=pe,fn,tmps:=a.tmps,params:=ps.toArray,assign,body,defers:=w.heap.size}:=⟨_,rfl⟩;obtain⟨W1,hW1⟩: ∃W1,(w.alloc (.deferred (some []))).alloc (.loop (rec .ready none))=W1:=⟨_,rfl⟩;have hL1:W1.heap[w.heap.size+1]?=some (.loop (rec .ready none)):=by
  rw[<-hW1];have:=World.alloc_heap_new (w.alloc (.deferred (some []))) (.loop (rec .ready none));rwa[World.size_alloc]at this
 have hK1:Dfr W1 w.heap.size:=by
  rw[<-hW1];exact(Below.heap_alloc _ _ _ (by simp)).trans (World.alloc_heap_new w _)
 have up: ∀{W W':World},Ch [] W W'->Ch [w.heap.size+1] W W':=λh=>h.mono (by simp);have hI1:I0 W1:=hI0 W1 ⟨_,Ch.alloc w _,World.size_alloc ..,World.alloc_heap_new w _,by rw[<-hW1];exact Ch.alloc _ _,by rw[<-hW1];exact World.size_alloc ..⟩ ⟨_,hL1⟩;have hfr:a.eval g=.func (.func gf) #[] cap.toArray:=hf.eval hg;have hcall:=hseq (w.heap.size+1) W1
  (λW=>I0 W/\W.heap[w.heap.size+1]?=some (.loop (rec .ready none))/\Dfr W w.heap.size)
  (λg k W=>I g k W/\(w.heap.size+1<g/\g<W.heap.size)/\W.heap[w.heap.size+1]?=some (.loop (rec .ready none))/\Dfr W w.heap.size)
  (λW=>∃e c,X e W/\((e=.ret/\c=Code.ret)\/∃id,e=.exit id/\c=Code.exit id)/\W.heap[w.heap.size+1]?=some (.loop (rec .done (some c)))/\Dfr W w.heap.size)
  (λW W' ⟨h1,O,h3⟩ L=>⟨hst0 W W' h1 (up L),(L.block _ (Qp.1 O).1 (by simp)).trans O,h3.ch L (by simp)⟩)
  (λg k W W' ⟨h1,V,O,h3⟩ L=>⟨hsg g k W W' V.1 h1 L,⟨V.1,Q4 V.2 L.size⟩,(L.block _ (Qp.1 O).1 (by simp;omega)).trans O,h3.ch L (by simp;omega)⟩)
  (λW W' ⟨e,c,h1,V,O,h3⟩ L=>⟨e,c,hxt e W W' h1 (up L),V,(L.block _ (Qp.1 O).1 (by simp)).trans O,h3.ch L (by simp)⟩)
  (λW h=>hdat0 W h.1) (λg W W' ⟨h1,O,h3⟩ L hg hg'=>⟨hcv g W W' h1 L hg hg',⟨Q4 (Qp.1 O).1 hg,hg'⟩,(L.block _ (Qp.1 O).1 (by simp)).trans O,h3.ch L (by simp)⟩) (λg k W h=>hdat g k W h.2.1.1 h.1) ⟨hI1,hL1,hK1⟩ ?_
 ·refine⟨w.heap.size+1,[mkD w.heap.size],W1,{target:=.fn (.func gf) cap.toArray,args:=#[.func (.yield (w.heap.size+1)) #[] #[]]},W1,gf,
   (.func (.yield (w.heap.size+1)) #[] #[]::cap).toArray,W1,?_,?_,λ_ _=>trivial,?_,(λh=>by cases h),(Qkd hcall).mono ?_⟩
  rw[<-hW1,hrec];exact run_enterLoop_outer _ _ _ _ _;simp only[resolve,hfr];simp[go_sem];simp[invoke,go_sem,hcf]
  ·have fin: ∀(W:World) (st:LoopState) (pe:Option Code),W.heap[w.heap.size+1]?=some (.loop (rec st pe))->st≠ .busy->Dfr W w.heap.size->
     ∃W',(Instr.endLoop (w.heap.size+1)).run P W=.ok pe W'/\Ch [w.heap.size+1] W W'/\Dfr W' w.heap.size:=λW st pe hl hb hk=>by
    have:=run_endLoop (P:=P) hl (by rw[hrec];exact hb);rw[hrec]at this;exact⟨_,this,Ch.putObj _ _ _,hk.ch (Ch.putObj _ _ _) (by simp)⟩
   rintro e W ⟨rfl,⟨g,h1,V,O,h3⟩|⟨e,c,h1,V,O,h3⟩⟩;obtain⟨W',hr,L,hk⟩:=fin W .ready none O (by simp) h3;exact⟨none,W',hr,hdone g W' _ V.1 (hst g N W W' V.1 h1 L) hk ⟨hf.size,by show [mkD w.heap.size]++a.defers=_;rw[hf.defs];rfl,hf.get⟩⟩
   ·obtain⟨W',hr,L,hk⟩:=fin W .done (some c) O (by simp) h3
    have hfr':Fr {a with defers:=[mkD w.heap.size]++a.defers} n (mkD w.heap.size::ds) l:=⟨hf.size,by show [mkD w.heap.size]++a.defers=_;rw[hf.defs];rfl,hf.get⟩;refine⟨some c,W',hr,?_⟩;rcases V with⟨rfl,rfl⟩|⟨id,rfl,rfl⟩
    exact wpIn_ret (hret W' _ (hxt _ W W' h1 L) hk hfr');exact wpIn_exit (hexit id W' _ (hxt _ W W' h1 L) hk hfr')
 ·rintro g k W0 W args hk ⟨h1,V,O,h3⟩ L hEk
  have hlt:w.heap.size+1<W0.heap.size:=(Qp.1 O).1;have hl:W.heap[w.heap.size+1]?=some (.loop (rec .ready none)):=(L.block _ hlt (by have:=V.1;simp;omega)).trans O;have hkk:Dfr W w.heap.size:=h3.ch L (by have:=V.1;simp;omega);have hlen':=hlen g k W0 W args hEk;have hy:=run_yield (P:=P) (args:=args.toArray) hl (by rw[hrec];simpa using hlen');refine⟨fn,_,assign,body,by rw[hrec]at hy;exact hy,roundIn_of_wpIn hfn ?_⟩;have hfr0:Fr ⟨(ps.zip args).foldl (λt (p,v)=>t.setIfInBounds p v) a.tmps,[]⟩ n [] (Qiu ps args l):=Qjq ps args hps ⟨hf.size,rfl,hf.get⟩;have hzip:((rec .ready none).params.zip args.toArray).foldl (λt (p,v)=>t.setIfInBounds p v) (rec .ready none).tmps=(ps.zip args).foldl (λt (p,v)=>t.setIfInBounds p v) a.tmps:=by
   rw[hrec];simp
  rw[hrec]at hzip;simp only at hzip;rw[hzip];refine wpIn_mono (hround g k W0 W args _ _ hk V.1 (Q4 V.2 L.size) h1 L hlt hEk hlen' hl hkk hfr0) ?_;rintro e a1 W' ⟨rfl,hl',hk',hbody⟩;refine⟨_,run_beginRound hl' (by rw[hrec]),?_⟩;have hltW:w.heap.size+1<W'.heap.size:=(Qp.1 hl').1;have hc2:Ch [w.heap.size+1] W' (W'.putObj (w.heap.size+1) (.loop {rec .ready none with state:=.busy})):=Ch.putObj _ _ _;have hl2:(W'.putObj (w.heap.size+1) (.loop {rec .ready none with state:=.busy})).heap[w.heap.size+1]?=some (.loop {rec .ready none with state:=.busy}):=World.putObj_heap_same hltW;have hk2:=hk'.ch hc2 (by simp);refine wpIn_mono (hbody _ _ hc2 hl2 hk2) ?_;have fin: ∀(jump:Option Code) (W3:World),W3.heap[w.heap.size+1]?=some (.loop {rec .ready none with state:=.busy})->Dfr W3 w.heap.size->
    ∃W4,(Instr.endRound (w.heap.size+1) jump).run P W3=.ok (.bool jump.isNone) W4/\Ch [w.heap.size+1] W3 W4/\W4.heap[w.heap.size+1]?=some (.loop (rec (if jump.isNone then .ready else .done) jump))/\Dfr W4 w.heap.size:=λjump W3 hl3 hk3=>by
   have hend:=run_endRound (P:=P) jump hl3;rw[hrec]at hend ⊢;exact⟨_,hend,Ch.putObj _ _ _,World.putObj_heap_same (Qp.1 hl3).1,hk3.ch (Ch.putObj _ _ _) (by simp)⟩
  rintro e a3 W3 ⟨hl3,hk3,hp⟩;cases e with
  |normal=>
   obtain⟨W4,hr,hc4,hl4,hk4⟩:=fin none W3 hl3 hk3;have hg3:g<W3.heap.size:=Classical.byContradiction λhn=>by
    have h5:=hp.2;rw[Array.getElem?_eq_none_iff.2 (Yu hn)]at h5;have:=Array.getElem?_eq_none_iff.1 h5.symm;have:=Q4 V.2 L.size;omega
   refine⟨_,W4,hr,.inl ⟨rfl,⟨hst _ _ _ _ V.1 hp.1 hc4,⟨V.1,Q4 hg3 hc4.size⟩,hl4,hk4⟩,?_⟩⟩;rw[hc4.block g hg3 (by have:=V.1;simp;omega)];exact hp.2
  |ret=>
   obtain⟨W4,hr,hc4,hl4,hk4⟩:=fin (some .ret) W3 hl3 hk3;exact⟨_,W4,hr,.inr ⟨rfl,.ret,.ret,hxt _ _ _ hp hc4,.inl ⟨rfl,rfl⟩,hl4,hk4⟩⟩
  |exit id=>
   obtain⟨W4,hr,hc4,hl4,hk4⟩:=fin (some (.exit id)) W3 hl3 hk3;exact⟨_,W4,hr,.inr ⟨rfl,.exit id,.exit id,hxt _ _ _ hp hc4,.inr ⟨id,rfl,rfl⟩,hl4,hk4⟩⟩
  |goto t=>exact hp.elim
  |panic ch=>exact hp.elim
  |outgrown=>exact hp.elim
end
def ElU (t:Ty)(ag:List Value->List Value)(xs:List t.den)(Φ:Nat->Nat->World->Nat->Prop):Nat->Nat->World->World->List Value->Prop:=λg k W0 W args=>
 ∃x cs,xs[k]?=some x/\args=ag cs/\t.rep W (λb=>Φ g k W0 b\/W0.heap.size<=b) cs x
abbrev kU:Nat:=4711
def SqU (P:Program)(gf:FuncId)(cap:List Value)(Hc:List (Nat×Res))(t:Ty)(ag:List Value->List Value)(xs:List t.den):Prop:=
 ∀(Φ0:World->Nat->Prop) (Φ:Nat->Nat->World->Nat->Prop),SeqUk P gf cap xs.length (ElU t ag xs Φ) (λW=>Hp ⟨0,[],W,[],Φ0 W⟩ Hc W) (λg k W=>Hp ⟨0,[],W,[g],Φ g k W⟩ ((kU,.ob g lpT)::Hc) W)
def JU (ku g:Nat)(q:Obj->Prop)(J:Nat->List (Nat×Res)->Prop):Nat->List (Nat×Res)->Prop:=λk nh=>∃nh0,nh=(ku,.ob g q)::nh0/\J k nh0
def Hp.swap {C:Cx}{H:List (Nat×Res)}{w:World}{k j:Nat}{r s:Res}(h:Hp C ((k,r)::(j,s)::H) w)(I:k≠j):Hp C ((j,s)::(k,r)::H) w:=h.ext λi=>.inl (by
 rw[Qaa,Qaa,Qaa,Qaa];by_cases E:j=i;rw[Qc E,Qb (λe=>I (e.trans E.symm)),Qc E];rw[Qb E,Qb E])
def Qci {k j:Nat}{g:Nat}{p:Obj->Prop}{H:List (Nat×Res)}(h:nrf k H=true):nrf k ((j,.ob g p)::H)=true:=by
 unfold nrf at h ⊢;rw[Xl,h];rfl
def Hp.ob2 {C:Cx}{H:List (Nat×Res)}{w w':World}{kl ku L g:Nat}{p q:Obj->Prop}{s:Obj->Prop}{o:Obj}(h:Hp C ((kl,.ob L s)::(ku,.ob g p)::H) w)(E:kl≠ku)(I:nrf ku H=true)(N:Ch [g] w w')(O:w'.heap[g]?=some o)(hq:q o):Hp C ((kl,.ob L s)::(ku,.ob g q)::H) w':=
 ((h.swap E).ob (Qci I) N O hq).swap (Ne.symm E)
section
variable {P:Program}{Y:Exit->Act->World->Prop}{K:List Kx}{C:Cx}{l:List (Nat×Value)}{H:List (Nat×Res)}
abbrev HX (kd kl ku D L g:Nat) (p q:Obj->Prop) (nh H:List (Nat×Res)):List (Nat×Res):=HK kd kl D L p ((ku,.ob g q)::nh) H
def AX.rgfU {g:Operand}{ps:List Nat}{assign body:Code}{gf:FuncId}{cap:List Value}{Hc:List (Nat×Res)}{t:Ty}{ag:List Value->List Value}{xs:List t.den}
  (kd kl ku kn:Nat) (hs gs bs:List Nat) (J:Nat->List (Nat×Res)->Prop) (nh:List (Nat×Res)) (hcf: ∀args w,(callFunc gf args).run P w=.ok (.enter gf args) w) (hseq:SqU P gf cap Hc t ag xs) (hag: ∀cs,(ag cs).length=ps.length) (hJ0:J 0 nh)
  (hsub: ∀k nh D L u,J k nh->(∃ls,Sub (HX kd kl ku D L u lpT lpT nh (kpH H hs hs)) Hc [] ls/\ls.all (λk=> !(Nat.beq k ku))=true)/\(nrf kl (hcat nh (kpH H hs hs))&&nrf ku (hcat nh (kpH H hs hs))&&(match hk (hcat nh (kpH H hs hs)) ku with|none=>true|_=>false))=true/\∀o p,nok (kpH (HX kd kl ku D L u (λx=>x=o) p nh (kpH H hs hs)) [] bs) kn (lv t)=true)
  (hsub0: ∀D L,∃ls,Sub (HK kd kl D L lpT nh (kpH H hs hs)) Hc [] ls)
  (hround: ∀u ou k nh x D L W o,J k nh->xs[k]?=some x->t.ok x->Hp C (HX kd kl ku D L u (λx=>x=o) (λx=>x=ou) nh (kpH H hs hs)) W->tele (lv t) λpl=>
   AX (some L) P (λ_ _ _=>False) [.m (MF P D L o (λo2=>RQ D L o2 (IK C kd kl D L (JU ku u (λx=>x=ou) J) (kpH H hs hs)) (XK P Y K C l D L) k) body)] assign
    ⟨C.n,[],W,blks (HX kd kl ku D L u (λx=>x=o) (λx=>x=ou) nh (kpH H hs hs)) (mvl (HX kd kl ku D L u (λx=>x=o) (λx=>x=ou) nh (kpH H hs hs)) bs),Fh C (HX kd kl ku D L u (λx=>x=o) (λx=>x=ou) nh (kpH H hs hs))⟩ (Qiu ps (ag (cl t x pl)) l)
    (hcat (kx kn (rs t x pl)) (kpH (HX kd kl ku D L u (λx=>x=o) (λx=>x=ou) nh (kpH H hs hs)) [] bs)))
  (hdone: ∀u nh D L,J xs.length nh->AE none P Y K .normal ⟨C.n,mkD D::C.ds,C.w0,C.S,C.F⟩ l (HX kd kl ku D L u lpT lpT nh (kpH H hs hs)))
  (hg:ev l g=some (.func (.func gf) #[] cap.toArray):=by rfl) (hps:ps.all (λp=>Nat.ble (p+1) C.n)=true:=by rfl) (h0:kpH H gs gs=hcat nh (kpH H hs hs):=by kernel_rfl)
  (hn1:hk (hcat nh (kpH H hs hs)) kd=none:=by kernel_rfl) (hn2:hk (hcat nh (kpH H hs hs)) kl=none:=by kernel_rfl) (hne:Nat.beq kd kl=false:=by rfl) (hne1:Nat.beq kl ku=false:=by rfl) (hne2:Nat.beq kd ku=false:=by rfl) (hbs:nod bs=true:=by rfl) (hHc:nod (kU::Hc.map (·.1))=true:=by rfl):
  AX none P Y K (.rangeFunc g ps.toArray assign body) C l H:=λa w hf hh=>by
 have hne:kd≠kl:=λe=>by rw[e,Ye]at hne;cases hne
 have hlu:kl≠ku:=λe=>by rw[e,Ye]at hne1;cases hne1
 have hdu:kd≠ku:=λe=>by rw[e,Ye]at hne2;cases hne2
 have hHc0:nod (Hc.map (·.1))=true:=by unfold nod at hHc;rw[Qo]at hHc;exact hHc.2
 obtain⟨I,hI⟩: ∃I:Nat->Nat->World->Prop,I=λg k W=>∃nh,J k nh/\Hp C (HX kd kl ku w.heap.size (w.heap.size+1) g lpT lpT nh (kpH H hs hs)) W:=⟨_,rfl⟩;obtain⟨Φ,hΦ⟩: ∃Φ:Nat->Nat->World->Nat->Prop,Φ=λg k W b=>∃h:(∃nh,J k nh/\Hp C (HX kd kl ku w.heap.size (w.heap.size+1) g lpT lpT nh (kpH H hs hs)) W),Fh C (HX kd kl ku w.heap.size (w.heap.size+1) g lpT lpT (Classical.choose h) (kpH H hs hs)) b:=⟨_,rfl⟩;have hΦe: ∀g k W (h: ∃nh,J k nh/\Hp C (HX kd kl ku w.heap.size (w.heap.size+1) g lpT lpT nh (kpH H hs hs)) W),Φ g k W=Fh C (HX kd kl ku w.heap.size (w.heap.size+1) g lpT lpT (Classical.choose h) (kpH H hs hs)):=λg k W h=>by
  subst hΦ;funext b;exact propext ⟨λ⟨_,E⟩=>E,λE=>⟨h,E⟩⟩
 have hch: ∀{k:Nat} {nh:List (Nat×Res)},J k nh->nrf kl (hcat nh (kpH H hs hs))=true/\nrf ku (hcat nh (kpH H hs hs))=true/\hk (hcat nh (kpH H hs hs)) ku=none:=λh=>by
  have:=(hsub _ _ 0 0 0 h).2.1;rw[Qo,Qo]at this;refine⟨this.1.1,this.1.2,?_⟩;have E:=this.2;split at E;assumption;cases E
 have hlast: ∀{k g D:Nat} {q:Obj->Prop} {nh:List (Nat×Res)},J k nh->nrf kl ((kd,.ob D dfT)::hcat ((ku,.ob g q)::nh) (kpH H hs hs))=true:=λh=>Qci (Qci (hch h).1);have hlast0: ∀{k D:Nat} {nh:List (Nat×Res)},J k nh->nrf kl ((kd,.ob D dfT)::hcat nh (kpH H hs hs))=true:=λh=>Qci (hch h).1;have hext: ∀{g D L:Nat} {p q:Obj->Prop} {nh:List (Nat×Res)} {W:World},Hp C (HX kd kl ku D L g p q nh (kpH H hs hs)) W↔Hp C ((kl,.ob L p)::(ku,.ob g q)::(kd,.ob D dfT)::hcat nh (kpH H hs hs)) W:=by
  intro g D L p q nh W;have e: ∀i,hk (HX kd kl ku D L g p q nh (kpH H hs hs)) i=hk ((kl,.ob L p)::(ku,.ob g q)::(kd,.ob D dfT)::hcat nh (kpH H hs hs)) i:=λi=>by
   show hk ((kl,.ob L p)::(kd,.ob D dfT)::(ku,.ob g q)::hcat nh (kpH H hs hs)) i=_;simp only[Qaa];by_cases h1:kl=i;rw[Qc h1,Qc h1];rw[Qb h1,Qb h1];by_cases E:kd=i;rw[Qc E,Qb (λe=>hdu (E.trans e.symm)),Qc E];rw[Qb E,Qb E]
  exact⟨λh=>h.ext λi=>.inl (e i).symm,λh=>h.ext λi=>.inl (e i)⟩
 have htu: ∀{k g D L:Nat} {p q q':Obj->Prop} {nh:List (Nat×Res)} {W W':World} {o:Obj},J k nh->Hp C (HX kd kl ku D L g p q nh (kpH H hs hs)) W->Ch [g] W W'->W'.heap[g]?=some o->q' o->Hp C (HX kd kl ku D L g p q' nh (kpH H hs hs)) W':=λV h O ho hq=>hext.2 ((hext.1 h).ob2 hlu (Qci (hch V).2.1) O ho hq);have hgo: ∀{g D L:Nat} {p q:Obj->Prop} {nh:List (Nat×Res)} {W:World},Hp C (HX kd kl ku D L g p q nh (kpH H hs hs)) W->∃o,W.heap[g]?=some o/\q o:=λh=>(hext.1 h).hold ku (.ob _ _) (by rw[Qaa,Qb hlu,Qaa,Qc rfl]);have hlo: ∀{g D L:Nat} {p q:Obj->Prop} {nh:List (Nat×Res)} {W:World},Hp C (HX kd kl ku D L g p q nh (kpH H hs hs)) W->∃o,W.heap[L]?=some o/\p o:=λh=>(hext.1 h).hold kl (.ob _ _) (by rw[Qaa,Qc rfl]);have grow: ∀{b:Nat} {o:Obj} {S:List Nat} {W W':World},W.heap[b]?=some o->Ch S W W'->∃o',W'.heap[b]?=some o':=λho O=>⟨_,Wp (Q4 (Qp.1 ho).1 O.size)⟩;refine rangeKU hf hg hcf xs.length _ _ _ (IK C kd kl w.heap.size (w.heap.size+1) (λ_ x=>x=nh) (kpH H hs hs) 0) I (XK P Y K C l w.heap.size (w.heap.size+1)) (hseq (λW=>Fh C (HK kd kl w.heap.size (w.heap.size+1) lpT nh (kpH H hs hs))) Φ) (λg k W0 W args ⟨x,cs,_,E,_⟩=>by rw[E];exact hag cs) (λp hp=>Q8 (Wd.1 hps p hp)) ?_ ?_ ?_ ?_ ?_ ?_ ?_ ?_ ?_ ?_ ?_ ?_;rintro W1 ⟨W',hc1,hz1,hd,hc2,hz2⟩ ⟨o,ho⟩;refine⟨nh,rfl,?_⟩;have h1:Hp C (hcat nh (kpH H hs hs)) w:=hh.cov gs h0;have E:Hp C ((kd,.ob w.heap.size dfT)::hcat nh (kpH H hs hs)) W':=h1.new hn1 hc1 (λb hb=>by simp only[Res.bl,Qn]at hb;omega) (λj hj=>by cases hj) λF B _ _ _=>⟨_,hd,rfl⟩;refine E.new (by rw[Qaa,Qb hne];exact hn2) hc2 (λb hb=>by simp only[Res.bl,Qn]at hb;omega) (λj hj=>by cases hj) λF B _ _ _=>⟨o,ho,trivial⟩;rintro W W' ⟨nh',rfl,N⟩ O;obtain⟨o,ho,_⟩: ∃o,W.heap[w.heap.size+1]?=some o/\lpT o:=N.hold kl (.ob (w.heap.size+1) lpT) (by rw[Qaa,Qc rfl]);obtain⟨o',ho'⟩:=grow ho O;exact⟨nh',rfl,N.ob (hlast0 hJ0) O ho' trivial⟩;rintro u k W W' _ hIk O;subst hI;obtain⟨nh',V,N⟩:=hIk;obtain⟨o,ho,_⟩:=hlo N;obtain⟨o',ho'⟩:=grow ho O;exact⟨nh',V,N.ob (hlast V) O ho' trivial⟩;rintro u k W W' _ hIk O;subst hI;obtain⟨nh',V,N⟩:=hIk;obtain⟨o,ho,_⟩:=hgo N;obtain⟨o',ho'⟩:=grow ho O;exact⟨nh',V,htu V N O ho' trivial⟩
 ·rintro u W W' ⟨nh',rfl,N⟩ O hu hu'
  subst hI;refine⟨nh',hJ0,hext.2 ?_⟩;have h1:Hp C ((kl,.ob (w.heap.size+1) lpT)::(kd,.ob w.heap.size dfT)::hcat nh' (kpH H hs hs)) W:=N;have E:hk ((kl,.ob (w.heap.size+1) lpT)::(kd,.ob w.heap.size dfT)::hcat nh' (kpH H hs hs)) ku=none:=by
   rw[Qaa,Qb hlu,Qaa,Qb hdu];exact(hch hJ0).2.2
  exact(h1.new (r':=.ob u lpT) E O (λb hb=>by simp only[Res.bl,Qn]at hb;omega) (λj hj=>by cases hj) λF B _ _ _=>⟨_,Wp hu',trivial⟩).swap (Ne.symm hlu)
 exact λe W W' h O W2 hc2=>h W2 (Ch.then (U:=[w.heap.size+1]) O hc2 (by simp) (by simp));rintro W ⟨nh',rfl,N⟩;obtain⟨ls,hS⟩:=hsub0 w.heap.size (w.heap.size+1);exact hS.hp N hHc0 rfl (by simp);intro u k W _ h;subst hI;show Hp ⟨0,[],W,[u],Φ u k W⟩ _ W;rw[hΦe u k W h];obtain⟨V,N⟩:=Y1 h;obtain⟨ls,hS,hls⟩:=(hsub _ _ w.heap.size (w.heap.size+1) u V).1;have hku:hk (HX kd kl ku w.heap.size (w.heap.size+1) u lpT lpT (Classical.choose h) (kpH H hs hs)) ku=some (.ob u lpT):=by
  rw[Qaa,Qb hlu,Qaa,Qb hdu];show hk ((ku,.ob u lpT)::hcat (Classical.choose h) (kpH H hs hs)) ku=_;rw[Qaa,Qc rfl]
 have h3:=(Sub.m (k0:=kU) ku hS hku rfl).hp N hHc rfl (by simpa using hls);have e:blks (HX kd kl ku w.heap.size (w.heap.size+1) u lpT lpT (Classical.choose h) (kpH H hs hs)) [(kU,ku)]=[u]:=by
  unfold blks;rw[hku];rfl
 rw[e]at h3;exact h3;intro u k W0 W args a1 o hk1 _ hgW hIk O hlt ⟨x,cs,hx,hargs,hrep⟩ hlen ho hdf hfr;subst hI;rw[hΦe u k W0 hIk]at hrep;obtain⟨V,N⟩:=Y1 hIk;obtain⟨nh',hnh⟩: ∃nh',nh'=Classical.choose hIk:=⟨_,rfl⟩;rw[<-hnh]at hrep V N;obtain⟨ou,hou⟩: ∃ou,W.heap[u]?=some ou:=⟨_,Wp hgW⟩;have hWu:Hp C (HX kd kl ku w.heap.size (w.heap.size+1) u lpT (λx=>x=ou) nh' (kpH H hs hs)) W:=htu V N O hou rfl;have hW1:Hp C (HX kd kl ku w.heap.size (w.heap.size+1) u (λx=>x=o) (λx=>x=ou) nh' (kpH H hs hs)) W:=hWu.ob (hlast V) (Ch.refl' _ _) ho rfl;have hb:=(Qdc (HX kd kl ku w.heap.size (w.heap.size+1) u (λx=>x=o) (λx=>x=ou) nh' (kpH H hs hs)) bs).hp hW1 (Qaj.2 ((Qek _ _ bs).nodup (Qaj.1 hbs))) (Qaj.2 ((Qdd _ bs).nodup (Qaj.1 hbs))) (by simp);have hpq: ∀j b,Bk (HX kd kl ku w.heap.size (w.heap.size+1) u (λx=>x=o) (λx=>x=ou) nh' (kpH H hs hs)) j b->Bk (HX kd kl ku w.heap.size (w.heap.size+1) u lpT lpT nh' (kpH H hs hs)) j b:=λj b ⟨r,h1,E⟩=>by
  have h1':hk ((kl,.ob (w.heap.size+1) (λx=>x=o))::(kd,.ob w.heap.size dfT)::(ku,.ob u (λx=>x=ou))::hcat nh' (kpH H hs hs)) j=some r:=h1;show Bk ((kl,.ob (w.heap.size+1) lpT)::(kd,.ob w.heap.size dfT)::(ku,.ob u lpT)::hcat nh' (kpH H hs hs)) j b;unfold Bk;simp only[Qaa]at h1' ⊢;by_cases e1:kl=j;rw[Qc e1]at h1' ⊢;injection h1' with h1';subst h1'
  exact⟨_,rfl,E⟩;rw[Qb e1]at h1' ⊢;by_cases e2:kd=j;rw[Qc e2]at h1' ⊢;exact⟨r,h1',E⟩;rw[Qb e2]at h1' ⊢;by_cases e3:ku=j;rw[Qc e3]at h1' ⊢;injection h1' with h1';subst h1'
  exact⟨_,rfl,E⟩;rw[Qb e3]at h1' ⊢;exact⟨r,h1',E⟩
 have hrep2:t.rep W (Fh ⟨C.n,[],W,blks (HX kd kl ku w.heap.size (w.heap.size+1) u (λx=>x=o) (λx=>x=ou) nh' (kpH H hs hs)) (mvl (HX kd kl ku w.heap.size (w.heap.size+1) u (λx=>x=o) (λx=>x=ou) nh' (kpH H hs hs)) bs),Fh C (HX kd kl ku w.heap.size (w.heap.size+1) u (λx=>x=o) (λx=>x=ou) nh' (kpH H hs hs))⟩ (kpH (HX kd kl ku w.heap.size (w.heap.size+1) u (λx=>x=o) (λx=>x=ou) nh' (kpH H hs hs)) [] bs)) cs x:=by
  have hnb: ∀b,(∀j,¬Bk (HX kd kl ku w.heap.size (w.heap.size+1) u (λx=>x=o) (λx=>x=ou) nh' (kpH H hs hs)) j b)->∀j,¬Bk (kpH (HX kd kl ku w.heap.size (w.heap.size+1) u (λx=>x=o) (λx=>x=ou) nh' (kpH H hs hs)) [] bs) j b:=λb hB j ⟨r,h1,E⟩=>hB j ⟨r,(Qcs h1).1,E⟩;refine rep_to hrep (S:=[]) (Ch.refl W) λb hb hl=>⟨by simp,?_⟩;have:Fh C (HX kd kl ku w.heap.size (w.heap.size+1) u (λx=>x=o) (λx=>x=ou) nh' (kpH H hs hs)) b:=by
   rcases hb with hb|hb
   exact⟨λj hj=>hb.1 j (hpq j b hj),hb.2⟩;exact⟨λj hj=>by have:=(N.bnd j b (hpq j b hj)).2;omega,.inr (.inl (Wq N.ch.size hb))⟩
  exact⟨hnb b this.1,.inl this⟩
 obtain⟨pl,hpl,hcs,hb2⟩:=Qev hb.nds hrep2 kn ((hsub _ _ w.heap.size (w.heap.size+1) u V).2.2 o _);subst hcs;rw[hargs]at hfr;refine wpIn_mono (Qbb (hround u ou k nh' x w.heap.size (w.heap.size+1) W o V hx (rep_ok t hrep) hW1) pl hpl a1 W hfr hb2) λe a2 W2 he=>?_;cases e with
 |normal=>
  obtain⟨h1,E,h3⟩:=he;refine⟨rfl,h1,E,λW3 o2 hc3 ho3 hd3=>wpIn_mono (h3 W3 o2 hc3 ho3 hd3) λe a4 W4 he4=>?_⟩;obtain⟨h5,h6,h7⟩:=he4;refine⟨h5,h6,?_⟩;cases e with
  |normal=>
   obtain⟨nh2,⟨nh3,rfl,hJ3⟩,h8⟩:=h7;obtain⟨o9,ho9,rfl⟩:=hgo (q:=λx=>x=ou) h8;exact⟨⟨nh3,hJ3,htu (q:=λx=>x=o9) hJ3 h8 (Ch.refl' _ _) ho9 trivial⟩,ho9.trans hou.symm⟩
  |_=>exact h7
 |_=>exact False.elim he
 rintro u W a' _ hIk hd hf';subst hI;obtain⟨nh',V,N⟩:=hIk;exact hdone u nh' _ _ V a' W hf' N.nds;exact λW a' hX hd hf'=>hX W (Ch.refl' _ _) a' hf';exact λid W a' hX hd hf'=>hX W (Ch.refl' _ _) a' hf'
end
structure YlU (P:Program) (lid:Nat) (J0:World->Prop) (J:Nat->Nat->World->Prop) (Jx:World->Prop) (Φ0:World->Nat->Prop) (Φ:Nat->Nat->World->Nat->Prop) (Hc:List (Nat×Res)) (t:Ty) (ag:List Value->List Value) (xs:List t.den):Prop where
 js0: ∀W W',J0 W->Ch [] W W'->J0 W'
 js: ∀g k W W',J g k W->Ch [g] W W'->J g k W'
 jx: ∀W W',Jx W->Ch [] W W'->Jx W'
 dat0: ∀W,J0 W->Hp ⟨0,[],W,[],Φ0 W⟩ Hc W
 cv: ∀g W W',J0 W->Ch [] W W'->W.heap.size<=g->g<W'.heap.size->J g 0 W'
 dat: ∀g k W,J g k W->Hp ⟨0,[],W,[g],Φ g k W⟩ ((kU,.ob g lpT)::Hc) W
 y: ∀g k W0 W args,k<xs.length->J g k W0->Ch [g] W0 W->ElU t ag xs Φ g k W0 W args->YieldAt (FW none) 0 P lid args.toArray W λe W'=>(e=.returned (.bool true)/\J g (k+1) W'/\W'.heap[g]?=W.heap[g]?)\/(e=.returned (.bool false)/\Jx W')
abbrev CY0 (n:Nat) (Φ0:World->Nat->Prop) (w:World):Cx:=⟨n,[],w,[],Φ0 w⟩
abbrev CYU (n g:Nat) (Φ:Nat->Nat->World->Nat->Prop) (i:Nat×World):Cx:=⟨n,[],i.2,[g],Φ g i.1 i.2⟩
section
variable {P:Program}{lid:Nat}{J0:World->Prop}{J:Nat->Nat->World->Prop}{Jx:World->Prop}{Φ0:World->Nat->Prop}{Φ:Nat->Nat->World->Nat->Prop}{Hc:List (Nat×Res)}{t:Ty}{ag:List Value->List Value}{xs:List t.den}{n:Nat}
def SqU.enter {gf:FuncId}{fn:Func}{c:Code}{cap:List Value}(L:P.funcs[gf]?=some fn)(N:fn.body=some c)(O:fn.ntmps=n)(V:Nat.ble (cap.length+1) n=true)
  (h: ∀lid w J0 J Jx Φ0 Φ,YlU P lid J0 J Jx Φ0 Φ Hc t ag xs->J0 w->AX none P (bodyPost P fn λe W'=>e=.returned (.tuple #[])/\((∃g,J g xs.length W')\/Jx W')) [] c (CY0 n Φ0 w) (argl (.func (.yield lid) #[] #[]::cap) 0) Hc):SqU P gf cap Hc t ag xs:=λΦ0 Φ lid w J0 J Jx W h2 h3 E h5 h6 I h8=>
 Z.enter L N O (Q8 V) λa hf'=>h lid w J0 J Jx Φ0 Φ ⟨W,h2,h3,E,h5,h6,h8⟩ I a w hf' (E w I).nds
def Hp.turn {C:Cx}{H:List (Nat×Res)}{w:World}{k g p:Nat}{s:ByteArray}{q:Obj->Prop}(h:Hp C ((k,.ob g q)::H) w)(hs:Si w g s p)(N:nrf k H=true):Hp C ((k,.si g s p)::H) w:=by
 have O:Hp C ((k,.si g s p)::drp k ((k,.ob g q)::H)) w:=h.upd (Ch.refl w) (λb E=>by cases E) (λb E=>.inl (Bk.cons_eq.2 E)) (λj I=>by cases I) λ_ _ _ _ _ _ _=>hs;refine O.ext λj=>.inl ?_;rw[Qaa,Qaa];by_cases e:k=j;rw[Qc e,Qc e];rw[Qb e,Qb e,Qbp,Qaa,Qb e];cases I:hk H j with
 |none=>rfl
 |some v=>
  have:=nrf_spec N I;cases L:v.ref with
  |none=>simp[rin,L]
  |some i=>
   have V:i≠k:=λe=>this (by rw[L,e]);have E:Nat.beq i k=false:=by cases E:Nat.beq i k with
    |false=>rfl
    |true=>exact absurd (Wx E) V
   simp[rin,L,E]
def AL.rgsU {ops:Array Oper}{Q:Exit->Act->World->Prop}{rest:List Oper}{l:List (Nat×Value)}{H:List (Nat×Res)}{d:Nat}{T:TypeId}{pos:String}{af:Array Edge}{L:World}{tt:TypeId}{x:Operand}{s:ByteArray}(E:YlU P lid J0 J Jx Φ0 Φ Hc t ag xs)(O:J0 L)
  (h: ∀g w',J g 0 w'->AL none P ops Q rest (CYU n g Φ (0,w')) ((d,.pointer (some ⟨g,0,none⟩))::l) ((kU,.si g s 0)::Hc))
  (V:P.underlying tt=some .string:=by rfl) (W:ev l x=some (.string s):=by rfl) (hd:Nat.ble (d+1) n=true:=by rfl) (hr:nrf kU Hc=true:=by kernel_rfl):AL none P ops Q (⟨some d,.range tt x,T,pos,af,none⟩::rest) (CY0 n Φ0 L) l H:=λa w hf hh=>
 Z.st_rangeStr hf hd V W λg w' a' hg hs N I hf'=>by
  have hJ':J g 0 w':=E.cv g w w' (E.js0 _ _ O hh.ch) I (by omega) N.lt;exact h g w' hJ' a' w' hf' ((E.dat g 0 w' hJ').turn N hr).nds
def AL.yieldU {ops:Array Oper}{Q:Exit->Act->World->Prop}{rest:List Oper}{l:List (Nat×Value)}{H:List (Nat×Res)}{d:Nat}{T:TypeId}{pos:String}{af:Array Edge}{c:Operand}{ass:List Operand}{ts:Array TypeId}{vs:List Value}{g k p:Nat}{L:World}{s:ByteArray}{x:t.den}{rs:List t.den}
  (W:YlU P lid J0 J Jx Φ0 Φ Hc t ag xs) (hJ:J g k L) (N:Rem xs k (x::rs)) (cs:List Value) (hD:Dat H t cs x)
  (ht: ∀w',J g (k+1) w'->Rem xs (k+1) rs->AL none P ops Q rest (CYU n g Φ (k+1,w')) ((d,.bool true)::l) ((kU,.si g s p)::Hc))
  (he: ∀w',Jx w'->AL none P ops Q rest ⟨n,[],w',[],no⟩ ((d,.bool false)::l) [])
  (I:hk H kU=some (.si g s p):=by rfl) (hr:nrf kU Hc=true:=by kernel_rfl)
  (hc:ev l c=some (.func (.yield lid) #[] #[]):=by rfl) (hx:evs l ass=some vs:=by rfl) (hv:ag cs=vs:=by rfl) (hd:Nat.ble (d+1) n=true:=by rfl):
  AL none P ops Q (⟨some d,.call {callee:=.value c,args:=ass.toArray,argTypes:=ts},T,pos,af,none⟩::rest) (CYU n g Φ (k,L)) l H:=λa w hf O=>by
 subst hv;have V:k<xs.length:=(Qd.1 N.at).1;have hs:Si w g s p:=O.hold kU _ I;refine callY hf hd hc hx (W.y g k L w _ V hJ O.ch ⟨x,cs,N.at,rfl,Qdw (Dat.rep O t hD) λb hb hl=>?_⟩) ?_;rcases hb.2 with E|E|E
 exact .inl E;exact .inr E;exact absurd (show Bk H kU b from⟨_,I,E⟩) (hb.1 kU)
 ·rintro e w' (⟨rfl,E,h2⟩|⟨rfl,E⟩)
  ·exact⟨_,rfl,λa' hf'=>ht w' E N.next a' w' hf' ((W.dat _ _ _ E).turn (show Si w' g s p from h2.trans hs) hr).nds⟩
  exact⟨_,rfl,λa' hf'=>he w' E a' w' hf' ⟨Ch.refl' _ _,λk r h=>(by cases h),λk b ⟨_,h,_⟩=>(by cases h),λk k' b ⟨_,h,_⟩=>(by cases h),λk r j h=>(by cases h)⟩⟩
def AE.rtYU {fn:Func}{l:List (Nat×Value)}{H:List (Nat×Res)}{g k:Nat}{E:World}(I:YlU P lid J0 J Jx Φ0 Φ Hc t ag xs)(L:J g k E)(N:Rem xs k [])(h:fn.results=#[]:=by rfl):AE none P (bodyPost P fn λe W'=>e=.returned (.tuple #[])/\((∃g,J g xs.length W')\/Jx W')) [] .normal (CYU n g Φ (k,E)) l H:=λa w O V=>
 Z.endv O (Z.res0 h w) ⟨rfl,.inl ⟨g,N.nil▸I.js _ _ _ _ L V.ch⟩⟩
def AX.rtXU {fn:Func}{K:List Kx}{l:List (Nat×Value)}{H:List (Nat×Res)}{E:World}{F:Nat->Prop}(I:YlU P lid J0 J Jx Φ0 Φ Hc t ag xs)(L:Jx E)(h:fn.results=#[]:=by rfl):AX none P (bodyPost P fn λe W'=>e=.returned (.tuple #[])/\((∃g,J g xs.length W')\/Jx W')) K .ret ⟨n,[],E,[],F⟩ l H:=AX.ret0 λa w N O=>
 Z.retv N (Z.res0 h w) ⟨rfl,.inr (I.jx _ _ L O.ch)⟩
end
end Go.A
end
section
namespace Go.Proofs.YtlhiofnikdppeaaGreatDoor
open Go.RowKit
variable(A0_ A1_ A2_ A3_ A4_ A5_ A6_ A7_ A8_ A10_ A12_ A13_ A17_:Option Addr)(b0_ g0_ b1_ c1_ c2_ g2_ c3_ b4_ c4_ b5_ c5_ b6_ c6_ c7_ c8_ c9_ g10_ c11_ c13_ c14_ c18_:Nat)
def F.aP (k:ByteArray):Nat->Nat->Option (List (Int×Int))
 |0,_=>none
 |f+1,h=>if h<k.size then(A.cns ((h:Int),((Utf8.decode k h).1:Int)) ((F.aP k f) (h+(Utf8.decode k h).2)))else(some [])
def F.eH (f:ByteArray):Option (List (Int×Int)):=F.aP f A.FU 0
theorem o_a4(k:ByteArray)(B:k.size<=maxLen)(xs:List (Int×Int))(o:F.eH k=some xs):
    A.SqU Tryz.prog 171 [.pointer (some ⟨g0_,0,none⟩)] [(0,.el none g0_ 0 [.string k])] (Z.Ty.pair A.ti (Z.Ty.int .i32)) (λcs=>[Z.vof false (cs.take 1),Z.vof false (cs.drop 1)]) xs:=by
 refine A.SqU.enter Tryz.func171 rfl Tryz.ntmps171 rfl λlid O J0 J Jx Φ0 Φ hY hJ0=>?_;obtain⟨rs0,hrs⟩: ∃rs0,rs0=xs:=⟨_,rfl⟩;have hR0:A.Rem xs 0 rs0:=hrs▸A.Rem.zero xs;rw[F.eH,<-hrs]at o;clear hrs;refine Vt 1 [] [0] [.e 0 0] [(5,.string k)] ?_;refine A.AL.rgsU hY hJ0 λs E hJ3=>?_;refine Um 2 ?_;refine A.AX.loopC (A.CYU 16 s Φ) (0,E) [0,6] [] [4711] (λf i I L=>∃(h:Nat)(rs:List (Int×Int)),I=[]/\L=[(4711,.si s k h)]/\J s i.1 i.2/\A.Rem xs i.1 rs/\F.aP k f h=some rs) A.FU [] [(4711,.si s k 0)] ⟨0,_,rfl,rfl,hJ3,hR0,o⟩ ?_;rintro u ⟨N,U⟩ _ _ ⟨h,rs10,rfl,rfl,hJ8,hR9,o⟩;rcases u with _|u
 exact Vo o;rw[F.aP]at o;refine J8 1 ?_;refine A.AL.nxs 4711 [] o (λhb11 o=>?_) (λV o=>?_);refine Vf 1 [(8,.bool true)] 2 ?_;refine Ut rfl ?_;refine J8 4 ?_;refine Vc 4 [(3,A.i (h:Int)),(4,.int .i32 ((Utf8.decode k h).1:Int))] 2 ?_;refine Uf 3 [(11,.func (.yield lid) #[] #[]),(12,A.i (h:Int)),(13,.int .i32 ((Utf8.decode k h).1:Int))] ?_;obtain⟨rs12,hqrs12,o⟩:=A.cns_some o;refine A.AL.yieldU (t:=.pair A.ti (Z.Ty.int .i32)) (x:=((h:Int),((Utf8.decode k h).1:Int))) hY hJ8 (hqrs12▸hR9) [A.i (h:Int),.int .i32 ((Utf8.decode k h).1:Int)] ⟨⟨rfl,(A.si_has hb11 B)⟩,⟨rfl,A.dec_has⟩⟩ (λz hJ14 hR15=>?_) (λz hX16=>?_);refine Vf 1 [(15,.bool false)] 1 ?_;refine Uy rfl ?_;refine Ua 2 ?_;exact A.AE.jC (N+1,z) [4711] [] [(4711,.si s k (h+(Utf8.decode k h).2))] ⟨_,Qh _,⟨(h+(Utf8.decode k h).2),_,rfl,rfl,hJ14,hR15,o⟩⟩;refine Vf 1 [(15,.bool true)] 1 ?_;refine Ut rfl ?_;exact A.AX.rtXU hY hX16;refine Vf 1 [(8,.bool false)] 2 ?_;refine Uy rfl ?_;refine Ua 1 ?_;obtain rfl:=Vr o;exact A.AE.rtYU hY hJ8 hR9
def F.ct (h:ByteArray)(o:Int):List (Int×Int)->Int->Option ByteArray
 | [],k=>if(h.size:Int)<=o then(some h)else(A.gd (0<=k/\k<=(h.size:Int)) (some (h.extract 0 k.toNat)))
 |s::f,k=>if o<s.1 then(A.gd (0<=k/\k<=(h.size:Int)) (some (h.extract 0 k.toNat)))else((F.ct h o f) s.1)
def F.gq (f:ByteArray)(h:Int):Option ByteArray:=(F.gj f).bind λk=>((F.eH k).bind λo=>F.ct f h o 0)
theorem o_cB (h:ByteArray)(u:Int)(B:h.size<=maxLen)(a6:A.h6 u)(r:ByteArray)(f:F.gq h u=some r):
    A.Ct Tryz.prog 103 [.string h,A.i u] [] [] (λv H'=>v=.string r/\H'=[]/\r.size<=maxLen):=by
 refine Kf Tryz.func103 rfl Tryz.ntmps103 rfl λw0 F0=>?_;rw[F.gq]at f;refine J8 1 ?_;refine J4 0 (cs:=[.string h]) λW=>?_;refine J4 1 (cs:=[A.i u]) λg2=>?_;refine J1 2 (cs:=[.string (ByteArray.mk #[])]) Tryz.zeroValue9 λg3=>?_;refine V3 2 ?_;refine J1 3 (cs:=[A.i 0]) Tryz.zeroValue3 λE=>?_;refine Vp 3 [] [A.i 0] ?_;refine V3 3 ?_;refine J9 [0] [] [.b 0 0] [(7,.string h)] (Vy 4 [] f (o_bS h B) .nil ?_);rintro L - f _ _ ⟨N,rfl,rfl,hr8⟩;refine Vb (Um 2 ?_);have⟨O,a2,f⟩:=V5 f;refine A.AX.rgfU 44 45 46 47 [0,1,2,4] [3,0,1,2,4] [45,44,3,0,1,2,4] (λk nh=>∃(s:Int),nh=[(3,.blk E 3 [A.i s])]/\A.h6 s/\F.ct h u (List.drop k O) s=some r) [(3,.blk E 3 [A.i 0])] cf171 (o_a4 N L hr8 O a2) (λ_=>rfl) ⟨0,rfl,Vd,f⟩ ?_ ?_ ?_ ?_;rintro a3 _ D13 L14 I ⟨s,rfl,U,f⟩;exact⟨⟨_,(.b 4 .nil),rfl⟩,by kernel_rfl,λo p=>rfl⟩;intro D13 L14;exact⟨_,(.b 4 .nil)⟩;rintro I ou12 a3 _ z D13 L14 a7 a8 ⟨s,rfl,U,f⟩ hx21 hxo22 V;rw[Kj hx21,F.ct]at f;refine V6 0 1 [(6,A.i z.1)] ?_;refine Jy ?_;refine Kk 44 45 λa9=>?_;refine Uc 3 [1] [] [.n,.b 0 0,.n] [(13,.bool (decide (u<z.1)))] 1 ?_;refine Uq f ?_ ?_<;>intro hb f;refine Vt 1 [0,3] [] [.b 0 0,.b 1 0] [(14,.string h),(15,A.i s)] ?_;have⟨a4,f⟩:=V4 f;refine A.AL.slh a4 ?_;refine Vp 2 [] [.string (h.extract 0 s.toNat)] ?_;refine Um 1 ?_;refine A.AX.bret V [45,0,1,2,3,4,44] 100000 [(45,100045),(0,100000),(1,100001),(2,100002),(3,100003),(4,100004),(44,100044)] [(0,.blk W 9 [.string h]),(1,.blk g2 3 [A.i u]),(2,.blk g3 9 [.string (h.extract 0 s.toNat)]),(3,.blk E 3 [A.i s]),(4,.blk N 9 [.string L]),(44,.ob D13 A.dfT)] ?_ rfl rfl;obtain rfl:=Vr f;exact A.AE.rtM (Ds:=[D13]) [44] [] (.string (h.extract 0 s.toNat)) (⟨rfl,trivial⟩) (λa w hf hh=>Ux rfl (U7 hf rfl Tryz.isAgg9 (Vm hh 2))) (⟨rfl,rfl,(A.ext_le B)⟩);refine V6 2 1 [(17,A.i z.1)] ?_;refine Vp 3 [] [A.i z.1] ?_;refine Uo 1 ?_;exact Ks V [45,44,3,0,1,2,4] 100000 [(45,100045),(44,100044),(46,46),(3,100003),(0,100000),(1,100001),(2,100002),(4,100004)] [(46,.ob I (λx=>x=ou12)),(3,.blk E 3 [A.i z.1])] ⟨_,rfl,z.1,rfl,hxo22.1,f⟩ rfl rfl;rintro I _ D13 L14 ⟨s,rfl,U,f⟩;rw[Xw,F.ct]at f;refine Ko 4 ?_;refine V9 [0,1] [] [.b 0 0,.n,.b 1 0,.n] [(21,.bool (decide ((h.size:Int)<=u)))] 1 ?_;refine Uq f ?_ ?_<;>intro hb f;refine Vt 1 [0] [] [.b 0 0] [(22,.string h)] ?_;refine Vp 2 [] [.string h] ?_;refine Um 1 ?_;obtain rfl:=Vr f;exact U0 (Ds:=[D13]) [44] [] (.string h) (⟨rfl,trivial⟩) (λa w hf hh=>Ux rfl (U7 hf rfl Tryz.isAgg9 (Vm hh 2))) (⟨rfl,rfl,B⟩);refine Vt 3 [0,3] [] [.b 0 0,.b 1 0] [(23,.string h),(24,A.i s)] ?_;have⟨a5,f⟩:=V4 f;refine A.AL.slh a5 ?_;refine Vp 2 [] [.string (h.extract 0 s.toNat)] ?_;refine Um 1 ?_;obtain rfl:=Vr f;exact U0 (Ds:=[D13]) [44] [] (.string (h.extract 0 s.toNat)) (⟨rfl,trivial⟩) (λa w hf hh=>Ux rfl (U7 hf rfl Tryz.isAgg9 (Vm hh 2))) (⟨rfl,rfl,(A.ext_le B)⟩)
def F.eI (f:Int):Option Int:=some f
def F.gr (h:Int)(f:Int):Option Int:=A.gd (f≠0) (if Int.tmod h f<0 then(A.gd (Z.R64 ((Int.tmod h f)+f)) (F.eI ((Int.tmod h f)+f)))else(F.eI (Int.tmod h f)))
theorem o_cC (k:Int)(f:Int)(u:A.h6 k)(L:A.h6 f)(r:Int)(h:F.gr k f=some r):
    A.Ct Tryz.prog 104 [A.i k,A.i f] [] [] (λv H'=>v=A.i r/\H'=[]/\A.h6 r):=by
 refine Jz Tryz.func104 rfl Tryz.ntmps104 rfl λN O=>?_;rw[F.gr]at h;refine J8 1 ?_;refine Vc 1 [] 2 ?_;have⟨z,h⟩:=V4 h;refine Up 4 [f≠0] [(0,A.i (Int.tmod k f))] z (Um 1 ?_);refine J3 [] [] (λB E=>∃(o:Int),B=[(0,A.i o)]/\E=[]/\A.h6 o/\F.eI o=some r) ?_ ?_;refine Vu 1 2 [(9,.bool (decide (Int.tmod k f<0)))] 1 h ?_ ?_<;>intro U h;refine J8 0 ?_;have⟨s,h⟩:=V4 h;refine Up 4 [Z.R64 ((Int.tmod k f)+f)] [(0,A.i ((Int.tmod k f)+f))] s (Jy ?_);exact Vj ⟨((Int.tmod k f)+f),rfl,rfl,(J2 s),h⟩;refine Ua 1 ?_;exact Vj ⟨(Int.tmod k f),rfl,rfl,(A.tmod_has u),h⟩;rintro _ _ ⟨o,rfl,rfl,I,h⟩;rw[F.eI]at h;refine Ve 1 2 [(4,A.i o)] 1 ?_;exact A.ke h (Vh ⟨rfl,rfl,I⟩)
def F.cf (f:Int)(h:ByteArray):Option (D91×Int):=some ((f,h),0)
def F.gs (h:D40)(f:D91):Option (D91×Int):=(F.f1 2 h f).bind λo=>(if o≠0 then(some ((0,ByteArray.mk #[]),o))else((F.f8 f.2).bind λk=>(if h.1=2 then((F.f9 f.2).bind λz=>(F.cf f.1 z))else(if h.1=3 then(A.gd (0<=min (k.length:Int) h.2.1/\(min (k.length:Int) h.2.1).toNat<=k.length) (A.gd ((runesBytes (List.take ((min (k.length:Int) h.2.1).toNat) k)).size<=9223372036854775807) (F.cf f.1 (runesBytes (List.take ((min (k.length:Int) h.2.1).toNat) k)))))else(if h.1=4 then((F.aU k).bind λs=>(A.gd ((runesBytes s).size<=9223372036854775807) (F.cf f.1 (runesBytes s))))else(if h.1=5 then(A.gd (f.2.size+h.2.2.size<=9223372036854775807) ((F.gq (f.2++h.2.2) 64).bind λB=>(F.cf f.1 B)))else(if h.1=6 then((F.gr f.1 h.2.1).bind λE=>(F.cf E f.2))else(if h.1=7 then(F.cf (k.length:Int) f.2)else(if h.1=8 then(if(0:Int)<(k.length:Int)then((A.ix k 0).bind λu=>(A.gd (Z.R64 (u)) (F.cf u f.2)))else(F.cf 0 f.2))else(F.cf f.1 f.2))))))))))
theorem o_cN (o:D40)(h:D91)(aa:A.h6 o.1)(a6:A.h6 o.2.1)(ab:o.2.2.size<=maxLen)(I:A.h6 h.1)(B:h.2.size<=maxLen)(r:D91×Int)(f:F.gs o h=some r):
    A.Ct Tryz.prog 74 [(A.rap o),(A.rar h)] [(0,.el none 0 0 A.tabF),(1,.el none 1 0 A.tabA)] [] (λv H'=>v=.tuple #[(A.rar r.1),A.i r.2]/\H'=[]/\A.h6 r.1.1/\r.1.2.size<=maxLen/\A.h6 r.2):=by
 refine Jz Tryz.func74 rfl Tryz.ntmps74 rfl λw0 F0=>?_;rw[F.gs]at f;refine J8 1 ?_;refine J4 2 (cs:=(A.raj o)) λg1=>?_;refine J4 3 (cs:=(A.ral h)) λz=>?_;refine J1 4 (cs:=[A.i 0,.string (ByteArray.mk #[])]) Tryz.zeroValue92 λg3=>?_;refine Vc 1 [] 3 ?_;refine J9 [2,3] [] [.b 0 0,.b 1 0] [(8,(A.rap o)),(9,(A.rar h))] (Vy 5 [] f (o_cA 2 o h (Vl 2) aa a6 ab I B) (.s 0 (.s 1 .nil)) ?_);rintro V - f _ _ ⟨rfl,rfl,hr6⟩;refine Vb (Vc 1 [(6,A.i V)] 2 ?_);refine Vf 2 [(12,.bool (decide (V≠0)))] 1 ?_;refine Uq f ?_ ?_<;>intro E f;refine V6 1 2 [(13,.agg #[A.i 0,.string (ByteArray.mk #[])]),(14,A.i V)] ?_;refine Vp 4 [] [A.i 0,.string (ByteArray.mk #[])] ?_;refine Vf 1 [(5,A.i V)] 1 ?_;obtain rfl:=Vr f;exact Vz [] (.tuple #[.agg #[A.i 0,.string (ByteArray.mk #[])],A.i V]) (λa w hf hh=>Ub rfl (Ui hf rfl Tryz.isAgg92 Tryz.sizeOf92 (Vm hh 4) rfl) (V8 hf rfl)) (⟨rfl,rfl,Vd,(U1 (ByteArray.mk #[]) rfl),hr6⟩);refine Vt 3 [3] [] [.n,.b 0 1] [(16,.string h.2)] ?_;refine Vy 45 [] f (o_ci h.2 B) .nil ?_;rintro u - f _ _ ⟨O,U,rfl,rfl⟩;refine Vb (Vf 1 [(7,.slice O u.length U)] 1 ?_);refine J3 [3,4] [0,1,4] (λnl nh=>∃(L:Int)(N:ByteArray),nl=[]/\nh=[(3,.blk z 92 [A.i L,.string N])]/\A.h6 L/\N.size<=maxLen/\F.cf L N=some r) ?_ ?_;refine Vt 1 [2] [] [.n,.b 0 0] [(19,A.i o.1)] ?_;refine V3 3 ?_;refine Vf 2 [(20,.bool (decide (o.1=2)))] 1 ?_;refine Uq f ?_ ?_<;>intro E f;refine Vt 0 [3] [] [.n,.b 0 1] [(23,.string h.2)] ?_;refine Vy 85 [] f (o_cj h.2 B) .nil ?_;rintro a3 - f _ _ ⟨rfl,rfl,hr17⟩;refine Vb (Uf 1 [(25,.pointer (some ⟨z,1,none⟩))] (V0 3 [] (new:=[.string a3]) (cs':=[A.i h.1,.string a3]) ?_));refine Uo 1 ?_;exact Vj ⟨h.1,a3,rfl,rfl,I,hr17,f⟩;refine Vu 1 2 [(26,.bool (decide (o.1=3)))] 1 f ?_ ?_<;>intro E f;refine Vt 0 [2] [] [.n,.n,.n,.n,.b 0 1,.n] [(28,.slice O u.length U),(33,A.i (min (u.length:Int) o.2.1))] ?_;have⟨a7,f⟩:=V4 f;refine A.AL.cuto 45 [] (v:=(min (u.length:Int) o.2.1).toNat) (Xb a7.1).symm a7.2 ?_;have⟨hl21,f⟩:=V4 f;refine A.AL.cvr (Ul (k:=45) rfl) rfl ?_;refine Uf 1 [(36,.pointer (some ⟨z,1,none⟩))] (V0 3 [] (new:=[.string (runesBytes (List.take ((min (u.length:Int) o.2.1).toNat) u))]) (cs':=[A.i h.1,.string (runesBytes (List.take ((min (u.length:Int) o.2.1).toNat) u))]) ?_);refine Uo 1 ?_;exact Vj ⟨h.1,(runesBytes (List.take ((min (u.length:Int) o.2.1).toNat) u)),rfl,rfl,I,(A.le_max hl21),f⟩;refine Vu 1 2 [(37,.bool (decide (o.1=4)))] 1 f ?_ ?_<;>intro E f;refine V6 1 1 [(39,.slice O u.length U)] ?_;refine Vy 126 [] f (o_ak O U u) (.m 45 .nil) ?_;rintro a2 - f _ _ ⟨rfl,rfl,hr24⟩;refine Vb (Uu 126 45 [] ?_);refine V3 1 ?_;refine Uf 1 [(41,.slice O u.length U)] (Kl 41 (Uv (show u.length=a2.length from(Eq.symm hr24))) ?_);have⟨hl25,f⟩:=V4 f;refine A.AL.cvr (Ul (k:=45) rfl) rfl ?_;refine Uf 1 [(43,.pointer (some ⟨z,1,none⟩))] (V0 3 [] (new:=[.string (runesBytes a2)]) (cs':=[A.i h.1,.string (runesBytes a2)]) ?_);refine Uo 1 ?_;exact Vj ⟨h.1,(runesBytes a2),rfl,rfl,I,(A.le_max hl25),f⟩;refine Vu 1 2 [(44,.bool (decide (o.1=5)))] 1 f ?_ ?_<;>intro E f;refine J8 0 ?_;have⟨a8,f⟩:=V4 f;refine A.q [3,2] [] [.n,.b 0 1,.n,.b 1 2,.n] [h.2.size+o.2.2.size<=9223372036854775807] [(50,.string (h.2++o.2.2))] a8 (Vy 166 [] f (o_cB (h.2++o.2.2) 64 (A.cat_le a8) (Vl 64)) .nil ?_);rintro a4 - f _ _ ⟨rfl,rfl,hr29⟩;refine Vb (Uf 1 [(52,.pointer (some ⟨z,1,none⟩))] (V0 3 [] (new:=[.string a4]) (cs':=[A.i h.1,.string a4]) ?_));refine Uo 1 ?_;exact Vj ⟨h.1,a4,rfl,rfl,I,hr29,f⟩;refine Vu 1 2 [(53,.bool (decide (o.1=6)))] 1 f ?_ ?_<;>intro E f;refine Vt 0 [3,2] [] [.n,.b 0 0,.n,.b 1 1] [(56,A.i h.1),(58,A.i o.2.1)] ?_;refine Vy 206 [] f (o_cC h.1 o.2.1 I a6) .nil ?_;rintro a5 - f _ _ ⟨rfl,rfl,hr32⟩;refine Vb (Uf 1 [(60,.pointer (some ⟨z,0,none⟩))] (V0 3 [] (new:=[A.i a5]) (cs':=[A.i a5,.string h.2]) ?_));refine Uo 1 ?_;exact Vj ⟨a5,h.2,rfl,rfl,hr32,B,f⟩;refine Vu 1 2 [(61,.bool (decide (o.1=7)))] 1 f ?_ ?_<;>intro E f;refine V6 0 3 [(64,A.i (u.length:Int)),(65,.pointer (some ⟨z,0,none⟩))] ?_;refine V0 3 [] (new:=[A.i (u.length:Int)]) (cs':=[A.i (u.length:Int),.string h.2]) ?_;refine Uo 1 ?_;refine A.oko 45 λhl33=>?_;exact Vj ⟨(u.length:Int),h.2,rfl,rfl,(A.has_len hl33.1),B,f⟩;refine Vu 1 2 [(66,.bool (decide (o.1=8)))] 1 f ?_ ?_<;>intro E f;refine V6 1 1 [(68,.pointer (some ⟨z,0,none⟩))] ?_;refine V0 3 [] (new:=[A.i 0]) (cs':=[A.i 0,.string h.2]) ?_;refine V3 2 ?_;refine Vf 3 [(71,.bool (decide ((0:Int)<(u.length:Int))))] 1 ?_;refine Uq f ?_ ?_<;>intro E f;refine V6 0 1 [(72,.slice O u.length U)] ?_;have⟨W,ac,f⟩:=V5 f;refine U3 45 246 ac λah=>?_;intro ai aj;have⟨a9,f⟩:=V4 f;refine A.q [] [246] [.e 0 0,.n,.n] [Z.R64 (W)] [(75,A.i W),(76,.pointer (some ⟨z,0,none⟩))] a9 (V0 3 [] (new:=[A.i W]) (cs':=[A.i W,.string h.2]) ?_);refine Uo 1 ?_;exact Vj ⟨W,h.2,rfl,rfl,(J2 a9),B,f⟩;refine Ua 2 ?_;exact Vj ⟨0,h.2,rfl,rfl,Vd,B,f⟩;refine Ua 2 ?_;exact Vj ⟨h.1,h.2,rfl,rfl,I,B,f⟩;rintro _ _ ⟨L,N,rfl,rfl,ad,ae,f⟩;rw[F.cf]at f;refine Vt 1 [3] [] [.b 0 0] [(77,.agg #[A.i L,.string N])] ?_;refine Vp 4 [] [A.i L,.string N] ?_;refine Vf 1 [(5,A.i 0)] 1 ?_;obtain rfl:=Vr f;exact Vz [] (.tuple #[.agg #[A.i L,.string N],A.i 0]) (λa w hf hh=>Ub rfl (Ui hf rfl Tryz.isAgg92 Tryz.sizeOf92 (Vm hh 4) rfl) (V8 hf rfl)) (⟨rfl,rfl,ad,ae,Vd⟩)
def F.cn (f:D54)(h:Int)(k:ByteArray)(o:Int):Option D49:=some (f.1,h,k,o)
def F.dh (h:D54)(k:D42)(f:D49):Option D49:=if k.2.2.1=2 then((F.dR f.2.2.2 k.2.2.2.1).bind λs=>(F.cn h f.2.1 f.2.2.1 s))else(if k.2.2.1=3 then((F.gs k.2.2.2.2 (f.2.1,f.2.2.1)).bind λo=>(if h.2.1=16 then(F.cn h o.1.1 o.1.2 f.2.2.2)else(F.cn h o.1.1 f.2.2.1 f.2.2.2)))else(F.cn h f.2.1 f.2.2.1 f.2.2.2))
theorem o_bj(h:D54)(o:D42)(f:D49)(W:A.h6 h.1)(aa:A.h6 h.2.1)(ab:A.h6 h.2.2.2.1.1)(ac:A.h6 h.2.2.2.1.2.1)(ad:h.2.2.2.1.2.2.size<=maxLen)(ae:h.2.2.2.2.1.size<=maxLen)(ah:A.h6 h.2.2.2.2.2.1)(ai:A.h6 h.2.2.2.2.2.2)(aj:A.h6 o.1)(ak:A.h6 o.2.1)(al:A.h6 o.2.2.1)(a3:A.h6 o.2.2.2.1)(a4:A.h6 o.2.2.2.2.1)(a5:A.h6 o.2.2.2.2.2.1)(a6:o.2.2.2.2.2.2.size<=maxLen)(am:A.h6 f.1)(O:A.h6 f.2.1)(L:f.2.2.1.size<=maxLen)(N:A.h6 f.2.2.2)(r:D49)(k:F.dh h o f=some r):
    A.Ct Tryz.prog 39 [(A.rao h A2_ c3_),(A.ran o),(A.raq f)] [(0,.sh A.TI [.slice A2_ h.2.2.1.length c3_] h.2.2.1),(1,.el none 0 0 A.tabF),(2,.el none 1 0 A.tabA)] [] (λv H'=>v=(A.raq r)/\H'=[]/\A.h6 r.1/\A.h6 r.2.1/\r.2.2.1.size<=maxLen/\A.h6 r.2.2.2):=by
 refine Jz Tryz.func39 rfl Tryz.ntmps39 rfl λw0 F0=>?_;rw[F.dh]at k;refine J8 1 ?_;refine J4 3 (cs:=(A.rai h A2_ c3_)) λg1=>?_;refine J4 4 (cs:=(A.rah o)) λg2=>?_;refine J4 5 (cs:=(A.rak f)) λI=>?_;refine J1 6 (cs:=l2c) Tryz.zeroValue50 λg4=>?_;refine V3 2 ?_;refine J9 [3] [] [.n,.b 0 0,.n] [(10,A.i h.1),(11,.pointer (some ⟨I,0,none⟩))] (V0 5 [] (new:=[A.i h.1]) (cs':=[A.i h.1,A.i f.2.1,.string f.2.2.1,A.i f.2.2.2]) ?_);refine Um 1 ?_;refine J3 [5,6] [1,2,6] (λnl nh=>∃(z:Int)(B:ByteArray)(E:Int),nl=[]/\nh=[(5,.blk I 50 [A.i h.1,A.i z,.string B,A.i E])]/\A.h6 z/\B.size<=maxLen/\A.h6 E/\F.cn h z B E=some r) ?_ ?_;refine Vt 1 [4] [] [.n,.b 0 2] [(13,A.i o.2.2.1)] ?_;refine V3 3 ?_;refine Vf 2 [(14,.bool (decide (o.2.2.1=2)))] 1 ?_;refine Uq k ?_ ?_<;>intro V k;refine Vt 0 [5,4] [] [.n,.b 0 3,.n,.b 1 3] [(17,A.i f.2.2.2),(19,A.i o.2.2.2.1)] ?_;refine Vy 7 [] k (o_a9 f.2.2.2 o.2.2.2.1 N a3) .nil ?_;rintro U - k _ _ ⟨rfl,rfl,hr13⟩;refine Vb (Uf 1 [(21,.pointer (some ⟨I,3,none⟩))] (V0 5 [] (new:=[A.i U]) (cs':=[A.i h.1,A.i f.2.1,.string f.2.2.1,A.i U]) ?_));refine Uo 1 ?_;exact Vj ⟨f.2.1,f.2.2.1,U,rfl,rfl,O,L,hr13,k⟩;refine Vu 1 2 [(22,.bool (decide (o.2.2.1=3)))] 1 k ?_ ?_<;>intro V k;refine Vt 1 [4,5] [] [.n,.b 0 4,.n,.b 1 1,.n,.b 1 2,.n] [(26,(A.rap o.2.2.2.2)),(31,.agg #[A.i f.2.1,.string f.2.2.1])] ?_;refine Vy 47 [] k (o_cN o.2.2.2.2 (f.2.1,f.2.2.1) a4 a5 a6 O L) (.s 1 (.s 2 .nil)) ?_;rintro u - k _ _ ⟨rfl,rfl,hr16,hr17,hr18⟩;refine Vb (Uf 3 [(33,(A.rar u.1)),(34,A.i u.2)] (J1 87 (cs:=[A.i 0,.string (ByteArray.mk #[])]) Tryz.zeroValue92 λan=>?_));refine Vp 87 [] (A.ral u.1) ?_;refine Vc 1 [] 2 ?_;refine J9 [87] [] [.n,.b 0 0,.n] [(36,A.i u.1.1),(37,.pointer (some ⟨I,1,none⟩))] (V0 5 [] (new:=[A.i u.1.1]) (cs':=[A.i h.1,A.i u.1.1,.string f.2.2.1,A.i f.2.2.2]) ?_);refine V3 2 ?_;refine V9 [3] [] [.n,.b 0 1,.n] [(40,.bool (decide (h.2.1=16)))] 1 ?_;refine Uq k ?_ ?_<;>intro V k;refine Vt 0 [87] [] [.n,.b 0 1,.n] [(42,.string u.1.2),(43,.pointer (some ⟨I,2,none⟩))] ?_;refine V0 5 [] (new:=[.string u.1.2]) (cs':=[A.i h.1,A.i u.1.1,.string u.1.2,A.i f.2.2.2]) ?_;refine Uo 1 ?_;exact Vj ⟨u.1.1,u.1.2,f.2.2.2,rfl,rfl,hr16,hr17,N,k⟩;refine Ua 2 ?_;exact Vj ⟨u.1.1,f.2.2.1,f.2.2.2,rfl,rfl,hr16,L,N,k⟩;refine Ua 2 ?_;exact Vj ⟨f.2.1,f.2.2.1,f.2.2.2,rfl,rfl,O,L,N,k⟩;rintro _ _ ⟨z,B,E,rfl,rfl,a7,a8,a9,k⟩;rw[F.cn]at k;refine Vt 1 [5] [] [.b 0 0] [(44,.agg #[A.i h.1,A.i z,.string B,A.i E])] ?_;refine Vp 6 [] [A.i h.1,A.i z,.string B,A.i E] ?_;refine Um 1 ?_;obtain rfl:=Vr k;exact Vz [] (.agg #[A.i h.1,A.i z,.string B,A.i E]) (λa w hf hh=>Ux rfl (Ui hf rfl Tryz.isAgg50 Tryz.sizeOf50 (Vm hh 6) rfl)) (⟨rfl,rfl,W,a7,a8,a9⟩)
def F.ai (h:(List (D93×Int)))(o:Int)(f:D49):Option (List (D93×Int)):=if o=11 then(A.lt (Z.mget (0:Int) h (f.1,(f.2.1,f.2.2.1))) λk=>(A.gd (Z.R64 (k+f.2.2.2)) (some (Z.mins h (f.1,(f.2.1,f.2.2.1)) (min 1099511627776 (k+f.2.2.2))))))else(some (Z.mins h (f.1,(f.2.1,f.2.2.1)) f.2.2.2))
theorem o_t(s:(List (D93×Int)))(k:Int)(f:D49)(L:A.h6 k)(N:A.h6 f.1)(O:A.h6 f.2.1)(U:f.2.2.1.size<=maxLen)(I:A.h6 f.2.2.2)(r:(List (D93×Int)))(h:F.ai s k f=some r):
    A.Ct Tryz.prog 23 [.map (some b0_),A.i k,(A.raq f)] [(0,.mp D93 (λx:D93=>(A.rap x)) A.ti false b0_ s)] ([b0_]++[]) (λv H'=>v=.tuple #[]/\H'=[(0,.mp D93 (λx:D93=>(A.rap x)) A.ti false b0_ r)]):=by
 refine Jz Tryz.func23 rfl Tryz.ntmps23 rfl λV W=>?_;rw[F.ai]at h;refine J8 1 ?_;refine J4 1 (cs:=(A.rak f)) λg1=>?_;refine V3 2 ?_;refine J9 [1] [] [.n,.b 0 0,.n,.b 0 1,.n,.b 0 2,.n,.n] [(14,.agg #[A.i f.1,A.i f.2.1,.string f.2.2.1])] (J1 2 (cs:=l2d) Tryz.zeroValue94 λg2=>?_);refine Vp 2 [] [A.i f.1,A.i f.2.1,.string f.2.2.1] ?_;refine V3 3 ?_;refine Vf 2 [(16,.bool (decide (k=11)))] 1 ?_;refine Uq h ?_ ?_<;>intro hb h;refine Uj 1 ?_;refine Vn mixed 9 10 (A.mb 10 0) ?_;refine Vg J5 [] [0,1,2] [2,1] [] (A.mb 10 111) 4 [(0,.n),(1,.b 0 0),(2,.n),(3,.b 0 0),(5,.n),(6,.b 1 3)] [(17,.map (some b0_)),(18,.agg #[A.i f.1,A.i f.2.1,.string f.2.2.1]),(19,.map (some b0_)),(20,.agg #[A.i f.1,A.i f.2.1,.string f.2.2.1]),(23,A.i f.2.2.2)] ?_;obtain⟨o,B,h⟩:=V7 h;refine A.okm (t:=A.ti) 0 (f.1,(f.2.1,f.2.2.1)) (z:=(0:Int)) (zs:=[A.i 0]) ⟨rfl,by decide⟩ B λa3=>?_;refine Vq J5 [0,1,2] [0,1,2] 4 (A.mb 10 127) rfl (λa w hf hh=>Kt (t:=A.ti) (ok:=false) (z:=(0:Int)) (zs:=[A.i 0]) 0 ky94 (f.1,(f.2.1,f.2.2.1)) Tryz.zeroValue2 ⟨rfl,by decide⟩ B rfl hf hh) ?_;have⟨E,h⟩:=V4 h;refine Ki J5 [0,1,2] [0,1,2] [] [] (A.mb 10 511) 1 [(7,.n),(8,.n)] [25] [Z.R64 (o+f.2.2.2)] [(25,A.i (min 1099511627776 (o+f.2.2.2)))] E ?_;refine J6 9 ?_;refine Kd (t:=A.ti) 0 [] (cs:=[A.i (min 1099511627776 (o+f.2.2.2))]) (u:=min 1099511627776 (o+f.2.2.2)) ky94 (f.1,(f.2.1,f.2.2.1)) ⟨rfl,(A.has_min (Vl 1099511627776) (J2 E))⟩ ?_;refine U8 (A.mb 10 1023) ?_;refine J7 ?_;refine Kp 1 ?_;obtain rfl:=Vr h;exact Vz [(0,0)] (.tuple #[]) (λa w hf hh=>Z.res0 rfl w) (⟨rfl,rfl⟩);refine Vt 2 [2,1] [] [.n,.b 0 0,.n,.b 1 3] [(26,.map (some b0_)),(27,.agg #[A.i f.1,A.i f.2.1,.string f.2.2.1]),(29,A.i f.2.2.2)] ?_;refine Kd (t:=A.ti) 0 [] (cs:=[A.i f.2.2.2]) (u:=f.2.2.2) ky94 (f.1,(f.2.1,f.2.2.1)) ⟨rfl,I⟩ ?_;refine Jy ?_;obtain rfl:=Vr h;exact A.AE.ret [(0,0)] (.tuple #[]) (λa w hf hh=>Z.res0 rfl w) (⟨rfl,rfl⟩)
def F.e5 (f:Int):Option Bool:=some (decide (f≠f))
theorem o_ao (f:Int)(k:A.h6 f)(r:Bool)(h:F.e5 f=some r):
    A.Ct Tryz.prog 83 [A.i f] [] [] (λv H'=>v=.bool r/\H'=[]):=by
 refine Jz Tryz.func83 rfl Tryz.ntmps83 rfl λo s=>?_;rw[F.e5]at h;refine J8 1 ?_;refine Vc 1 [] 2 ?_;refine Vf 4 [(2,.bool (decide (f≠f)))] 1 ?_;exact A.ke h (Vh ⟨rfl,rfl⟩)
def F.ej (f:Int)(h:Int):Option Int:=(F.e5 f).bind λo=>((F.e5 h).bind λk=>(if o=true then(if k=true then(some 0)else(some (-1)))else(if k=true then(some 1)else(if f<h then(some (-1))else(if h<f then(some 1)else(some 0))))))
theorem o_aR (h:Int)(k:Int)(z:A.h6 h)(B:A.h6 k)(r:Int)(f:F.ej h k=some r):
    A.Ct Tryz.prog 52 [A.i h,A.i k] [] [] (λv H'=>v=A.i r/\H'=[]/\A.h6 r):=by
 refine Jz Tryz.func52 rfl Tryz.ntmps52 rfl λE I=>?_;rw[F.ej]at f;refine J8 1 ?_;refine Vc 1 [] 2 ?_;refine Uf 1 [(7,A.i h)] (Vy 0 [] f (o_ao h z) .nil ?_);rintro u - f _ _ ⟨rfl,rfl⟩;refine Vb (Vc 1 [(5,.bool u)] 2 ?_);refine Uf 1 [(9,A.i k)] (Vy 40 [] f (o_ao k B) .nil ?_);rintro s - f _ _ ⟨rfl,rfl⟩;refine Vb (Vc 1 [(6,.bool s)] 3 ?_);refine Vf 1 [(11,.bool u)] 1 ?_;refine Ur f ?_ ?_<;>intro o f;refine Ve 2 1 [(12,.bool s)] 1 ?_;refine Ur f ?_ ?_<;>intro o f;refine Ve 1 1 [(4,A.i 0)] 1 ?_;exact A.ke f (Vh ⟨rfl,rfl,Vd⟩);refine Ve 3 1 [(4,A.i (-1))] 1 ?_;exact A.ke f (Vh ⟨rfl,rfl,(Vl (-1))⟩);refine Ve 4 1 [(13,.bool s)] 1 ?_;refine Ur f ?_ ?_<;>intro o f;refine Ve 1 1 [(4,A.i 1)] 1 ?_;exact A.ke f (Vh ⟨rfl,rfl,(Vl 1)⟩);refine Vu 4 3 [(16,.bool (decide (h<k)))] 1 f ?_ ?_<;>intro o f;refine Ve 1 1 [(4,A.i (-1))] 1 ?_;exact A.ke f (Vh ⟨rfl,rfl,(Vl (-1))⟩);refine Vu 4 3 [(19,.bool (decide (k<h)))] 1 f ?_ ?_<;>intro o f;refine Ve 1 1 [(4,A.i 1)] 1 ?_;exact A.ke f (Vh ⟨rfl,rfl,(Vl 1)⟩);refine Ve 3 1 [(4,A.i 0)] 1 ?_;exact A.ke f (Vh ⟨rfl,rfl,Vd⟩)
def F.cL (f:ByteArray):Option Bool:=some (decide (f≠f))
theorem o_ae (f:ByteArray)(k:f.size<=maxLen)(r:Bool)(h:F.cL f=some r):
    A.Ct Tryz.prog 85 [.string f] [] [] (λv H'=>v=.bool r/\H'=[]):=by
 refine Jz Tryz.func85 rfl Tryz.ntmps85 rfl λo s=>?_;rw[F.cL]at h;refine J8 1 ?_;refine Vc 1 [] 2 ?_;refine Vf 4 [(2,.bool (decide (f≠f)))] 1 ?_;exact A.ke h (Vh ⟨rfl,rfl⟩)
def F.cg (f:ByteArray)(h:ByteArray):Option Int:=(F.cL f).bind λo=>((F.cL h).bind λk=>(if o=true then(if k=true then(some 0)else(some (-1)))else(if k=true then(some 1)else(if(Op.bytesLess f.toList h.toList)=true then(some (-1))else(if(!(Op.bytesLess f.toList h.toList||f.toList==h.toList))=true then(some 1)else(some 0))))))
theorem o_aB (h:ByteArray)(k:ByteArray)(z:h.size<=maxLen)(B:k.size<=maxLen)(r:Int)(f:F.cg h k=some r):
    A.Ct Tryz.prog 54 [.string h,.string k] [] [] (λv H'=>v=A.i r/\H'=[]/\A.h6 r):=by
 refine Jz Tryz.func54 rfl Tryz.ntmps54 rfl λE I=>?_;rw[F.cg]at f;refine J8 1 ?_;refine Vc 1 [] 2 ?_;refine Uf 1 [(7,.string h)] (Vy 0 [] f (o_ae h z) .nil ?_);rintro u - f _ _ ⟨rfl,rfl⟩;refine Vb (Vc 1 [(5,.bool u)] 2 ?_);refine Uf 1 [(9,.string k)] (Vy 40 [] f (o_ae k B) .nil ?_);rintro s - f _ _ ⟨rfl,rfl⟩;refine Vb (Vc 1 [(6,.bool s)] 3 ?_);refine Vf 1 [(11,.bool u)] 1 ?_;refine Ur f ?_ ?_<;>intro o f;refine Ve 2 1 [(12,.bool s)] 1 ?_;refine Ur f ?_ ?_<;>intro o f;refine Ve 1 1 [(4,A.i 0)] 1 ?_;exact A.ke f (Vh ⟨rfl,rfl,Vd⟩);refine Ve 3 1 [(4,A.i (-1))] 1 ?_;exact A.ke f (Vh ⟨rfl,rfl,(Vl (-1))⟩);refine Ve 4 1 [(13,.bool s)] 1 ?_;refine Ur f ?_ ?_<;>intro o f;refine Ve 1 1 [(4,A.i 1)] 1 ?_;exact A.ke f (Vh ⟨rfl,rfl,(Vl 1)⟩);refine Ve 4 3 [(16,.bool (Op.bytesLess h.toList k.toList))] 1 ?_;refine Ur f ?_ ?_<;>intro o f;refine Ve 1 1 [(4,A.i (-1))] 1 ?_;exact A.ke f (Vh ⟨rfl,rfl,(Vl (-1))⟩);refine Ve 4 3 [(19,.bool (!(Op.bytesLess h.toList k.toList||h.toList==k.toList)))] 1 ?_;refine Ur f ?_ ?_<;>intro o f;refine Ve 1 1 [(4,A.i 1)] 1 ?_;exact A.ke f (Vh ⟨rfl,rfl,(Vl 1)⟩);refine Ve 3 1 [(4,A.i 0)] 1 ?_;exact A.ke f (Vh ⟨rfl,rfl,Vd⟩)
def F.ad (f:D49)(h:D49):Option Int:=(F.ej f.1 h.1).bind λk=>((F.bP f.2.1 h.2.1).bind λo=>((F.cg f.2.2.1 h.2.2.1).bind λs=>((F.dK [k,o,s]).bind λu=>(some u))))
theorem o_az (f:D49)(h:D49)(B:A.h6 f.1)(E:A.h6 f.2.1)(I:f.2.2.1.size<=maxLen)(W:A.h6 f.2.2.2)(L:A.h6 h.1)(N:A.h6 h.2.1)(O:h.2.2.1.size<=maxLen)(a2:A.h6 h.2.2.2)(r:Int)(k:F.ad f h=some r):
    A.Ct Tryz.prog 50 [(A.raq f),(A.raq h)] [] [] (λv H'=>v=A.i r/\H'=[]/\A.h6 r):=by
 refine Jz Tryz.func50 rfl Tryz.ntmps50 rfl λw0 F0=>?_;rw[F.ad]at k;refine J8 1 ?_;refine J4 0 (cs:=(A.rak f)) λg1=>?_;refine J4 1 (cs:=(A.rak h)) λg2=>?_;refine Vf 1 [] 2 ?_;refine Vn mixed 18 18 (A.mb 18 0) ?_;refine Vg J5 [] l2e [0,1] [] (A.mb 18 15855) 6 [(0,.n),(2,.n),(5,.n),(7,.n),(10,.n),(12,.n),(1,.b 0 0),(3,.b 1 0),(6,.b 0 1),(8,.b 1 1),(11,.b 0 2),(13,.b 1 2)] [(6,A.i f.1),(8,A.i h.1),(11,A.i f.2.1),(13,A.i h.2.1),(16,.string f.2.2.1),(18,.string h.2.2.1)] (J6 4 ?_);refine Vy 2 [] k (o_aR f.1 h.1 B L) .nil ?_;rintro s - k _ _ ⟨rfl,rfl,hr5⟩;refine Vb (Va (A.mb 18 15871) l2e ?_);refine J6 9 ?_;refine Vy 42 [] k (o_aa f.2.1 h.2.1 E N) .nil ?_;rintro u - k _ _ ⟨rfl,rfl,hr8⟩;refine Vb (Va (A.mb 18 16383) l2e ?_);refine J6 14 ?_;refine Vy 82 [] k (o_aB f.2.2.1 h.2.2.1 I O) .nil ?_;rintro z - k _ _ ⟨rfl,rfl,hr11⟩;refine Vb (Va (A.mb 18 32767) l2e ?_);refine J6 15 ?_;refine Vx 122 (ty:=A.ti) (cs:=[A.i s,A.i u,A.i z]) [s,u,z] ⟨⟨rfl,hr5⟩,⟨⟨rfl,hr8⟩,⟨⟨rfl,hr11⟩,rfl⟩⟩⟩ (λU=>?_) Tryz.zeroValue3 Tryz.sizeOf3;refine Va (A.mb 18 65535) l2e ?_;refine J6 16 ?_;refine Vy 123 [] k (o_aK (some ⟨U,0,none⟩) 3 [s,u,z]) (.o 122 .nil) ?_;rintro V - k _ _ ⟨rfl,rfl,hr15⟩;refine Vb (Va (A.mb 18 131071) l2e ?_);refine Vg J5 l2e [0,1,122] [] [] (A.mb 18 262143) 0 [(17,.n)] [(4,A.i V)] (J7 ?_);refine Kp 1 ?_;exact A.ke k (Vh ⟨rfl,rfl,hr15⟩)
def F.x (f:List D49):Option (List D49):=A.gd (f.length<4611686018427387904) (A.srtF (λx y=>F.ad x y) f)
theorem o_e(f:List D49)(r:List D49)(k:F.x f=some r):
    A.Ct Tryz.prog 49 [.slice A0_ f.length c1_,.func (.func 50) #[] #[]] [(0,.own T49 50 A0_ c1_ f)] (Z.obl A0_++[]) (λv H'=>v=.tuple #[]/\H'=[(0,.own T49 50 A0_ c1_ r)]/\r.length=f.length):=by
 have⟨hc,k⟩:=V4 k;rw[Wh];exact A.Ct.sortF (t:=T49) (e:=50) Tryz.laysSortFunc49 rfl rfl Tryz.isAgg50 Tryz.sizeOf50 A0_ c1_ 50 (λx y=>F.ad x y) cf50 (λx y r hx hy h=>⟨_,o_az x y hx.1 hx.2.1 hx.2.2.1 hx.2.2.2 hy.1 hy.2.1 hy.2.2.1 hy.2.2.2 r h,λv H' h=>h.1⟩) f r hc k
def F.aF (o:(List (D93×Int))):Nat->(List Nat)->(List D49)->Option (List D49)
 |0,_,_=>none
 |f+1,s,k=>A.dem o s ((F.x k).bind λz=>(some z)) λu h=>(A.gd (decide (A.h6 h.1.1)=true/\decide (A.h6 h.1.2.1)=true/\h.1.2.2.size<=maxLen) (if h.2≠0 then(A.gd ((List.length (α:=D49) k+List.length (α:=D49) [(h.1.1,h.1.2.1,h.1.2.2,h.2)])*40<=140737488355328) ((F.aF o f) (u::s) (k++[(h.1.1,h.1.2.1,h.1.2.2,h.2)])))else((F.aF o f) (u::s) k)))
def F.az (f:(List (D93×Int))):Option (List D49):=F.aF f A.FU [] []
theorem o_ab(B:(List (D93×Int)))(r:(List D49))(o:F.az B=some r):
    A.Ct Tryz.prog 25 [.map (some b0_)] [(0,.mp D93 (λx:D93=>(A.rap x)) A.ti false b0_ B)] ([b0_]++[]) (λv H'=>∃(A0':Option Addr) (c1':Nat),v=.slice A0' r.length c1'/\H'=[(0,.own T49 50 A0' c1' r),(1,.mp D93 (λx:D93=>(A.rap x)) A.ti false b0_ B)]):=by
 refine Jz Tryz.func25 rfl Tryz.ntmps25 rfl λw0 F0=>?_;rw[F.az]at o;refine J8 1 ?_;refine Vc 1 [] 2 ?_;refine Vc 1 [(3,.slice none 0 0)] 3 ?_;refine Uf 1 [(6,.map (some b0_))] (A.AL.rgm 0 1 λU=>?_);refine Um 2 ?_;refine Uk 94 T49 50 ?_;refine Vs [7] [0] (λf V W=>∃(E:List Nat)(s:List D49)(la20:Option (Value×Value))(u:Option Addr)(z:Nat),V=[(3,.slice u s.length z)]/\W=[(1,.mit 0 U b0_ B.length E la20),(94,.own T49 50 u z s)]/\F.aF B f E s=some r) ⟨[],[],none,none,0,rfl,rfl,o⟩ ?_;rintro L _ _ ⟨E,s,la20,u,z,rfl,rfl,o⟩;rcases L with _|L
 exact Vo o;rw[F.aF]at o;refine J8 1 ?_;obtain⟨hend39,hev40⟩:=A.dem_some o;refine A.AL.nxm 0 1 221 (λhall=>?_) (λI h hp30 hs31 a1=>?_);replace o:=hend39 hall;refine Vf 1 [(9,.bool false)] 2 ?_;refine Uy rfl ?_;refine V6 3 1 [(28,.slice u s.length z)] ?_;refine Vy 181 [] o (o_e u z s) (.m 94 .nil) ?_;rintro a2 - o _ _ ⟨rfl,rfl,hr27⟩;refine Vb (Uu 181 94 [] ?_);refine V3 2 ?_;refine Vf 2 [(2,.slice u s.length z)] 1 ?_;obtain rfl:=Vr o;refine Kl 2 (Uv (show s.length=a2.length from(Eq.symm hr27))) ?_;exact Uw [(0,94),(1,0)] ⟨u,z,rfl,rfl⟩;have o:=hev40 I h hp30 hs31;have⟨hkc33,o⟩:=V4 o;refine Vf 1 [(9,.bool true)] 2 ?_;refine Ut rfl ?_;refine J8 4 ?_;refine A.AL.ent 1 ?_;refine Uf 2 [(11,(A.rap h.1)),(12,A.i h.2)] (J1 222 (cs:=l2d) Tryz.zeroValue94 λa3=>?_);refine Vp 222 [] (A.raj h.1) ?_;refine Vc 1 [(5,A.i h.2)] 2 ?_;refine Vf 2 [(14,.bool (decide (h.2≠0)))] 1 ?_;refine Uq o ?_ ?_<;>intro hb o;refine Vt 0 [222] [] [.n,.n,.b 0 0,.n,.n,.b 0 1,.n,.n,.b 0 2,.n,.n] [(15,.slice u s.length z),(25,.agg #[A.i h.1.1,A.i h.1.2.1,.string h.1.2.2,A.i h.2])] ?_;refine Vx 223 (ty:=T49) (cs:=[A.i h.1.1,A.i h.1.2.1,.string h.1.2.2,A.i h.2]) [(h.1.1,h.1.2.1,h.1.2.2,h.2)] ⟨⟨⟨rfl,(Wb hkc33.1)⟩,⟨rfl,(Wb hkc33.2.1)⟩,⟨rfl,hkc33.2.2⟩,⟨rfl,a1⟩⟩,rfl⟩ (λa4=>?_) Tryz.zeroValue50 Tryz.sizeOf50;have⟨hl38,o⟩:=V4 o;refine V2 (k:=94) [] (Ul (k:=223) rfl) Qkr hl38 λN O=>?_;refine Uf 1 [(3,.slice N ((s++[(h.1.1,h.1.2.1,h.1.2.2,h.2)]).length) O)] (Uo 1 ?_);exact Vj ⟨_,Qh _,⟨(I::E),(s++[(h.1.1,h.1.2.1,h.1.2.2,h.2)]),(some ((A.rap h.1),A.i h.2)),N,O,rfl,rfl,o⟩⟩;refine Ua 2 ?_;exact Vj ⟨_,Qh _,⟨(I::E),s,(some ((A.rap h.1),A.i h.2)),u,z,rfl,rfl,o⟩⟩
end Go.Proofs.YtlhiofnikdppeaaGreatDoor
end
