import Derived.Test.YtligcbdjiolamaaGreatDoorA1
set_option linter.defProp false
set_option linter.unusedVariables false
set_option maxRecDepth 20000
set_option linter.unusedSimpArgs false
set_option linter.unusedSectionVars false
section
namespace Go.A
open Go.RowKit Go.Z
def z0:h6 0:=hasl .i64 (0) rfl
def ck{b:Bool}{p:Prop}(h:p)(e:b=true:=by kernel_rfl):b=true/\p:=⟨e,h⟩
def b{α β:Type}{x:Option α}{f:α->Option β}{y:β}(h:x.bind f=some y):∃v,x=some v/\f v=some y:=Jt.1 h
def g{α:Type}{p:Prop}[Decidable p]{x:Option α}{y:α}(h:gd p x=some y):p/\x=some y:=gd_some h
section
variable{r:QN}{P:QR}{ops:QU}{Q:QG}{lst rest:QT}{C:Cx}{l:QI}{H:QJ}{Y:QG}{K:List Kx}
def n(k:Nat)(nl:QI)(h:AL r P ops Q (lst.drop k) C (cat nl l) H)
    (hq:((qs P ⟨knb H [],kne H []⟩ C.n ops (List.replicate k .n) lst (Z.q0 l)).bind (qfin l (nl.map Prod.fst)))=some ([],nl):=by kernel_rfl)
    (E:(qs P ⟨knb H [],kne H []⟩ C.n ops (List.replicate k .n) lst (Z.q0 l)).map (λs=>s.q.map Prod.fst)=(qs P ⟨knb H [],kne H []⟩ C.n ops (List.replicate k .n) lst (Z.q0 l)).map (λs=>s.q.map Prod.snd):=by kernel_rfl):AL r P ops Q lst C l H:=q0 [] [] (List.replicate k .n) nl (by rw[Ye];exact h) hq E
def m(k:Nat)(cs:List Prop)(nl:QI)(E:conj cs)(h:AL r P ops Q (lst.drop k) C (cat nl l) H)
    (hq:((qs P ⟨knb H [],kne H []⟩ C.n ops (List.replicate k .n) lst (Z.q0 l)).bind (qfin l (nl.map Prod.fst)))=some (cs,nl):=by kernel_rfl)
    (I:(qs P ⟨knb H [],kne H []⟩ C.n ops (List.replicate k .n) lst (Z.q0 l)).map (λs=>s.q.map Prod.fst)=(qs P ⟨knb H [],kne H []⟩ C.n ops (List.replicate k .n) lst (Z.q0 l)).map (λs=>s.q.map Prod.snd):=by kernel_rfl):AL r P ops Q lst C l H:=q [] [] (List.replicate k .n) cs nl E (by rw[Ye];exact h) hq I
def c{ρ:Type}{A B R:Option ρ}{c:Operand}{x y:Code}{p:Prop}[Decidable p](E:(if p then A else B)=R)(I:p->A=R->AX r P Y K x C l H)(J:¬p->B=R->AX r P Y K y C l H)(N:ev l c=some (.bool (decide p)):=by rfl):AX r P Y K (.cond c x y) C l H:=AX.cnd N E I J
def d{ρ:Type}{A B R:Option ρ}{c:Operand}{x y:Code}{b:Bool}(E:(if b=true then A else B)=R)(I:b=true->A=R->AX r P Y K x C l H)(J:b=false->B=R->AX r P Y K y C l H)(N:ev l c=some (.bool b):=by rfl):AX r P Y K (.cond c x y) C l H:=AX.cnb N E I J
def zb(k:Nat)(nl:QI)(j:Nat){K':List Kx}{c':Code}(h:AX r P Y K' c' C (cat nl l) H)(e0:lst.drop k=[]:=by rfl)
    (hq:((qs P ⟨knb H [],kne H []⟩ C.n ops (List.replicate k .n) lst (Z.q0 l)).bind (qfin l (nl.map Prod.fst)))=some ([],nl):=by kernel_rfl)
    (he:(qs P ⟨knb H [],kne H []⟩ C.n ops (List.replicate k .n) lst (Z.q0 l)).map (λs=>s.q.map Prod.fst)=(qs P ⟨knb H [],kne H []⟩ C.n ops (List.replicate k .n) lst (Z.q0 l)).map (λs=>s.q.map Prod.snd):=by kernel_rfl)
    (e:nxs j none K=some (some c',K'):=by rfl):AL r P ops (kont r P Y K) lst C l H:=n k nl (by rw[e0];exact dx j h e) hq he
def zc(k:Nat)(nl:QI)(j:Nat){K':List Kx}{id:Nat}{lo:QT}(h:AL r P lo.toArray (kont r P Y K') lo C (cat nl l) H)(e0:lst.drop k=[]:=by rfl)
    (hq:((qs P ⟨knb H [],kne H []⟩ C.n ops (List.replicate k .n) lst (Z.q0 l)).bind (qfin l (nl.map Prod.fst)))=some ([],nl):=by kernel_rfl)
    (he:(qs P ⟨knb H [],kne H []⟩ C.n ops (List.replicate k .n) lst (Z.q0 l)).map (λs=>s.q.map Prod.fst)=(qs P ⟨knb H [],kne H []⟩ C.n ops (List.replicate k .n) lst (Z.q0 l)).map (λs=>s.q.map Prod.snd):=by kernel_rfl)
    (e:nxs j none K=some (some (.region id lo.toArray false),K'):=by rfl):AL r P ops (kont r P Y K) lst C l H:=n k nl (by rw[e0];exact dl j h e) hq he
def zd(bs es:QM)(hs:List Hint)(nl:QI)(j:Nat){K':List Kx}{c':Code}(h:AX r P Y K' c' C (cat nl l) H)(e0:lst.drop hs.length=[]:=by rfl)
    (hq:((qs P ⟨knb H bs,kne H es⟩ C.n ops hs lst (Z.q0 l)).bind (qfin l (nl.map Prod.fst)))=some ([],nl):=by kernel_rfl)
    (he:(qs P ⟨knb H bs,kne H es⟩ C.n ops hs lst (Z.q0 l)).map (λs=>s.q.map Prod.fst)=(qs P ⟨knb H bs,kne H es⟩ C.n ops hs lst (Z.q0 l)).map (λs=>s.q.map Prod.snd):=by kernel_rfl)
    (e:nxs j none K=some (some c',K'):=by rfl):AL r P ops (kont r P Y K) lst C l H:=q0 bs es hs nl (by rw[e0];exact dx j h e) hq he
def ze(i k:Nat)(nl:QI){K':List Kx}{id:Nat}{lo:QT}{c:Code}(h:AL r P lo.toArray (kont r P Y K') (lo.drop k) C (cat nl l) H)(e:nxs i (some c) K=some (some (.region id lo.toArray false),K'):=by rfl)
    (hq:((qs P ⟨knb H [],kne H []⟩ C.n lo.toArray (List.replicate k .n) lo (Z.q0 l)).bind (qfin l (nl.map Prod.fst)))=some ([],nl):=by kernel_rfl)
    (he:(qs P ⟨knb H [],kne H []⟩ C.n lo.toArray (List.replicate k .n) lo (Z.q0 l)).map (λs=>s.q.map Prod.fst)=(qs P ⟨knb H [],kne H []⟩ C.n lo.toArray (List.replicate k .n) lo (Z.q0 l)).map (λs=>s.q.map Prod.snd):=by kernel_rfl):AX r P Y K c C l H:=xl i (n k nl h hq he) e
def zf(i k:Nat)(nl:QI)(j:Nat){K' K2:List Kx}{id:Nat}{lo:QT}{c c':Code}(h:AX r P Y K2 c' C (cat nl l) H)(e:nxs i (some c) K=some (some (.region id lo.toArray false),K'):=by rfl)(e0:lo.drop k=[]:=by rfl)
    (hq:((qs P ⟨knb H [],kne H []⟩ C.n lo.toArray (List.replicate k .n) lo (Z.q0 l)).bind (qfin l (nl.map Prod.fst)))=some ([],nl):=by kernel_rfl)
    (he:(qs P ⟨knb H [],kne H []⟩ C.n lo.toArray (List.replicate k .n) lo (Z.q0 l)).map (λs=>s.q.map Prod.fst)=(qs P ⟨knb H [],kne H []⟩ C.n lo.toArray (List.replicate k .n) lo (Z.q0 l)).map (λs=>s.q.map Prod.snd):=by kernel_rfl)
    (e2:nxs j none K'=some (some c',K2):=by rfl):AX r P Y K c C l H:=ze i k nl (by rw[e0];exact dx j h e2) e hq he
def zg(i k:Nat)(nl:QI)(j:Nat){ρ:Type}{A0 B0 R:Option ρ}{p:Prop}[Decidable p](E:(if p then A0 else B0)=R){K' K2:List Kx}{id:Nat}{lo:QT}{c x y:Code}{o:Operand}(I:p->A0=R->AX r P Y K2 x C (cat nl l) H)(L:¬p->B0=R->AX r P Y K2 y C (cat nl l) H)(e:nxs i (some c) K=some (some (.region id lo.toArray false),K'):=by rfl)(e0:lo.drop k=[]:=by rfl)
    (hq:((qs P ⟨knb H [],kne H []⟩ C.n lo.toArray (List.replicate k .n) lo (Z.q0 l)).bind (qfin l (nl.map Prod.fst)))=some ([],nl):=by kernel_rfl)
    (he:(qs P ⟨knb H [],kne H []⟩ C.n lo.toArray (List.replicate k .n) lo (Z.q0 l)).map (λs=>s.q.map Prod.fst)=(qs P ⟨knb H [],kne H []⟩ C.n lo.toArray (List.replicate k .n) lo (Z.q0 l)).map (λs=>s.q.map Prod.snd):=by kernel_rfl)
    (e2:nxs j none K'=some (some (.cond o x y),K2):=by rfl)(N:ev (cat nl l) o=some (.bool (decide p)):=by rfl):AX r P Y K c C l H:=zf i k nl j (A.c E I L N) e e0 hq he e2
def zh(i:Nat)(bs es:QM)(hs:List Hint)(nl:QI){K':List Kx}{id:Nat}{lo:QT}{c:Code}(h:AL r P lo.toArray (kont r P Y K') (lo.drop hs.length) C (cat nl l) H)(e:nxs i (some c) K=some (some (.region id lo.toArray false),K'):=by rfl)
    (hq:((qs P ⟨knb H bs,kne H es⟩ C.n lo.toArray hs lo (Z.q0 l)).bind (qfin l (nl.map Prod.fst)))=some ([],nl):=by kernel_rfl)
    (he:(qs P ⟨knb H bs,kne H es⟩ C.n lo.toArray hs lo (Z.q0 l)).map (λs=>s.q.map Prod.fst)=(qs P ⟨knb H bs,kne H es⟩ C.n lo.toArray hs lo (Z.q0 l)).map (λs=>s.q.map Prod.snd):=by kernel_rfl):AX r P Y K c C l H:=xl i (q0 bs es hs nl h hq he) e
def zi(i:Nat)(bs es:QM)(hs:List Hint)(nl:QI)(j:Nat){K' K2:List Kx}{id:Nat}{lo:QT}{c c':Code}(h:AX r P Y K2 c' C (cat nl l) H)(e:nxs i (some c) K=some (some (.region id lo.toArray false),K'):=by rfl)(e0:lo.drop hs.length=[]:=by rfl)
    (hq:((qs P ⟨knb H bs,kne H es⟩ C.n lo.toArray hs lo (Z.q0 l)).bind (qfin l (nl.map Prod.fst)))=some ([],nl):=by kernel_rfl)
    (he:(qs P ⟨knb H bs,kne H es⟩ C.n lo.toArray hs lo (Z.q0 l)).map (λs=>s.q.map Prod.fst)=(qs P ⟨knb H bs,kne H es⟩ C.n lo.toArray hs lo (Z.q0 l)).map (λs=>s.q.map Prod.snd):=by kernel_rfl)
    (e2:nxs j none K'=some (some c',K2):=by rfl):AX r P Y K c C l H:=zh i bs es hs nl (by rw[e0];exact dx j h e2) e hq he
@[elab_as_elim]theorem ke{ρ:Type}{x y:ρ}{M:ρ->Prop}(e:some x=some y)(h:M x):M y:=by cases e;exact h
def zj{t n:Nat}{v:Value}{fn:Func}{w0:World}{S:QM}{F:Nat->Prop}{R:Value->QJ->Prop}(hR:R v (A.ren H []))(hf:fn.results=#[.tmp t]:=by rfl)(hv:lk l t=some v:=by rfl):AX r P (bodyPost P fn λe w'=>∃v H',e=.returned v/\R v H'/\Hp ⟨0,[],w0,S,F⟩ H' w') K .ret ⟨n,[],w0,S,F⟩ l H:=rt1 [] hR hf hv
def zk(n:Int)(h:decide (IntKind.i64.has n)=true:=by rfl):IntKind.i64.has n:=hasl .i64 n h
def v{ρ σ:Type}{d:Tmp}{T:QQ}{pos:String}{af:Array Edge}(n:Nat)(js:QM){f:FuncId}{c:Operand}{xs:List Operand}{vs:QL}{ts:Array QQ}{H0:QJ}{ms:List (Nat×Nat)}{ls:QM}{S:QM}{R:ρ->Value->QJ->Prop}{X:Option ρ}{fF:ρ->Option σ}{yF:σ}
    (E:X.bind fF=some yF)(I:∀x,X=some x->Ct P f vs H0 S (R x))(N:Sub H H0 ms ls)
    (h:∀x,X=some x->fF x=some yF->∀v H',R x v H'->(outs H'&&frs n H H')=true/\AL r P ops Q rest C ((d,v)::l) (hcat (sft n H') (kld js H (ms.map (·.2)))))
    (J:∀args w,(callFunc f args).run P w=.ok (.enter f args) w:=by intros;kernel_rfl)
    (W:ev l c=some (.func (.func f) #[] #[]):=by rfl)(hx:evs l xs=some vs:=by rfl)(hS:blks H ms=S:=by rfl)(h1:nod (H0.map (·.1))=true:=by rfl)(h2:nod (ms.map (·.2))=true:=by rfl)(h3:ls.all (λk=>!(ms.map (·.2)).any (Nat.beq k))=true:=by rfl)(hd:Nat.ble (d+1) C.n=true:=by rfl)(hj:hng (ms.map (·.2)) js H=true:=by kernel_rfl):
    AL r P ops Q (⟨some d,.call {callee:=.value c,args:=xs.toArray,argTypes:=ts},T,pos,af,none⟩::rest) C l H:=by
 obtain⟨x,e,E⟩:=bd_some E;exact AL.call n js (first:=[]) (cap:=[]) J (I x e) N (h x e E) W hx (by rw[Xy];rfl) hS h1 h2 h3 hd hj
end
abbrev zz8:QL:=[i 0,i 0,i 0,i 0,i 0,i 0,i 0,i 0]
abbrev rah(x:Int×Int×Int×Int×Int×Int×ByteArray):QL:=[i x.1,i x.2.1,i x.2.2.1,i x.2.2.2.1,i x.2.2.2.2.1,i x.2.2.2.2.2.1,.string x.2.2.2.2.2.2]
abbrev rai{a1:Type}(x:Int×Int×List a1×(Int×Int×ByteArray)×ByteArray×Int×Int)(A1:QK)(c1:Nat):QL:=[i x.1,i x.2.1,.slice A1 x.2.2.1.length c1,i x.2.2.2.1.1,i x.2.2.2.1.2.1,.string x.2.2.2.1.2.2,.string x.2.2.2.2.1,i x.2.2.2.2.2.1,i x.2.2.2.2.2.2]
abbrev raj(x:Int×Int×ByteArray):QL:=[i x.1,i x.2.1,.string x.2.2]
abbrev rak(x:Int×Int×ByteArray×Int):QL:=[i x.1,i x.2.1,.string x.2.2.1,i x.2.2.2]
abbrev ral(x:Int×ByteArray):QL:=[i x.1,.string x.2]
abbrev ram{a1:Type}{a2:Type}{a3:Type}{a4:Type}{a5:Type}{a6:Type}{a7:Type}{a8:Type}{a9:Type}{a10:Type}{a11:Type}{a12:Type}{a13:Type}{a14:Type}{a15:Type}{a16:Type}(x:List a1×List a2×List a3×List a4×List a5×List a6×List a7×List a8×List a9×List a10×List a11×List a12×List a13×List a14×List a15×List a16)(A1:QK)(c1:Nat)(A2:QK)(c2:Nat)(A3:QK)(c3:Nat)(A4:QK)(c4:Nat)(A5:QK)(c5:Nat)(A6:QK)(c6:Nat)(A7:QK)(c7:Nat)(A8:QK)(c8:Nat)(A9:QK)(c9:Nat)(A10:QK)(c10:Nat)(A11:QK)(c11:Nat)(A12:QK)(c12:Nat)(A13:QK)(c13:Nat)(A14:QK)(c14:Nat)(A15:QK)(c15:Nat)(A16:QK)(c16:Nat):QL:=[.slice A1 x.1.length c1,.slice A2 x.2.1.length c2,.slice A3 x.2.2.1.length c3,.slice A4 x.2.2.2.1.length c4,.slice A5 x.2.2.2.2.1.length c5,.slice A6 x.2.2.2.2.2.1.length c6,.slice A7 x.2.2.2.2.2.2.1.length c7,.slice A8 x.2.2.2.2.2.2.2.1.length c8,.slice A9 x.2.2.2.2.2.2.2.2.1.length c9,.slice A10 x.2.2.2.2.2.2.2.2.2.1.length c10,.slice A11 x.2.2.2.2.2.2.2.2.2.2.1.length c11,.slice A12 x.2.2.2.2.2.2.2.2.2.2.2.1.length c12,.slice A13 x.2.2.2.2.2.2.2.2.2.2.2.2.1.length c13,.slice A14 x.2.2.2.2.2.2.2.2.2.2.2.2.2.1.length c14,.slice A15 x.2.2.2.2.2.2.2.2.2.2.2.2.2.2.1.length c15,.slice A16 x.2.2.2.2.2.2.2.2.2.2.2.2.2.2.2.length c16]
abbrev ran(x:Int×Int×Int×Int×Int×Int×ByteArray):Value:=.agg #[i x.1,i x.2.1,i x.2.2.1,i x.2.2.2.1,i x.2.2.2.2.1,i x.2.2.2.2.2.1,.string x.2.2.2.2.2.2]
abbrev rao{a1:Type}(x:Int×Int×List a1×(Int×Int×ByteArray)×ByteArray×Int×Int)(A1:QK)(c1:Nat):Value:=.agg #[i x.1,i x.2.1,.slice A1 x.2.2.1.length c1,i x.2.2.2.1.1,i x.2.2.2.1.2.1,.string x.2.2.2.1.2.2,.string x.2.2.2.2.1,i x.2.2.2.2.2.1,i x.2.2.2.2.2.2]
abbrev rap(x:Int×Int×ByteArray):Value:=.agg #[i x.1,i x.2.1,.string x.2.2]
abbrev raq(x:Int×Int×ByteArray×Int):Value:=.agg #[i x.1,i x.2.1,.string x.2.2.1,i x.2.2.2]
abbrev rar(x:Int×ByteArray):Value:=.agg #[i x.1,.string x.2]
abbrev raa(x:Int×Int):QL:=[i x.1,i x.2]
abbrev rab(x:Int×Int×Int×Int×Int×Int×Int×Int):QL:=[i x.1,i x.2.1,i x.2.2.1,i x.2.2.2.1,i x.2.2.2.2.1,i x.2.2.2.2.2.1,i x.2.2.2.2.2.2.1,i x.2.2.2.2.2.2.2]
abbrev rac(x:(Int×Int)×(Int×Int)×Int×Int×Int×Int×Int×Int×Int×Int):QL:=[i x.1.1,i x.1.2,i x.2.1.1,i x.2.1.2,i x.2.2.1,i x.2.2.2.1,i x.2.2.2.2.1,i x.2.2.2.2.2.1,i x.2.2.2.2.2.2.1,i x.2.2.2.2.2.2.2.1,i x.2.2.2.2.2.2.2.2.1,i x.2.2.2.2.2.2.2.2.2]
abbrev rad(x:Int×Int):Value:=.agg #[i x.1,i x.2]
abbrev rae(x:Int×Int×Int×Int×Int×Int×Int×Int):Value:=.agg #[i x.1,i x.2.1,i x.2.2.1,i x.2.2.2.1,i x.2.2.2.2.1,i x.2.2.2.2.2.1,i x.2.2.2.2.2.2.1,i x.2.2.2.2.2.2.2]
abbrev raf(x:(Int×Int)×Int):Value:=.agg #[i x.1.1,i x.1.2,i x.2]
abbrev rag(x:(Int×Int)×(Int×Int)×Int×Int×Int×Int×Int×Int×Int×Int):Value:=.agg #[i x.1.1,i x.1.2,i x.2.1.1,i x.2.1.2,i x.2.2.1,i x.2.2.2.1,i x.2.2.2.2.1,i x.2.2.2.2.2.1,i x.2.2.2.2.2.2.1,i x.2.2.2.2.2.2.2.1,i x.2.2.2.2.2.2.2.2.1,i x.2.2.2.2.2.2.2.2.2]
end Go.A
end
def Vg:=@Go.A.AL.done
def Vh:=@Go.A.Ct.enter
def Vi:=@Go.A.AX.join
def Vj:=@Go.A.AL.alloc
def Vk:=@Go.Z.i64_has
def Vl:=@Go.A.xl
def Vm:=@Go.A.AL.box
def Vn:=@Go.A.pb
def Vo:=@Go.A.AL.on
def Vp:=@Go.A.q0
def Vq:=@Go.A.zf
def Vr:=@Go.A.zc
def Vs:=@Go.A.ck
def Vt:=@Go.A.AH.done
def Vu:=@Go.A.AH.one
def Vv:=@Go.A.z0
def Vw:=@Go.A.AX.cnt
def Vx:=@Go.A.zj
def Vy:=@Go.A.zb
def Vz:=@Go.A.AH.nx
def V0:=@Go.A.j
def V1:=@Go.A.zk
def V2:=@Go.A.AX.cnf
def V3:=@Go.A.AL.store
def V4:=@Go.A.hq
def V5:=@Go.A.zd
def V6:=@Go.A.AL.cnp
def V7:=@Go.A.zg
def V8:=@Go.A.si
def V9:=@Go.A.AX.dr
def Ua:=@Go.A.no0
def Ub:=@Go.A.xe
def Uc:=@Go.A.AH.v
def Ud:=@Go.A.lp_
def Ue:=@Go.A.v
def Uf:=@Go.A.ze
def Ug:=@Go.A.AL.bsl
def Uh:=@Go.A.AL.cnd
def Ui:=@Go.A.g
def Uj:=@Go.A.zh
def Uk:=@Go.A.AL.ixs
def Ul:=@Go.A.sw
def Um:=@Go.A.r_ixa
def Un:=@Go.A.AE.jC
def Uo:=@Go.A.AL.app
def Up:=@Go.A.AX.ret
def Uq:=@Go.A.dl
def Ur:=@Go.A.Hp.blk
def Us:=@Go.A.r_indexArr
def Ut:=@Go.Z.rv_t
def Uu:=@Go.A.cns_some
def Uv:=@Go.A.AL.yield
def Uw:=@Go.A.n
def Ux:=@Go.A.AL.val
def Uy:=@Go.A.zi
def Uz:=@Go.A.b
def U0:=@Go.A.xx
def U1:=@Go.A.AX.joinC
def U2:=@Go.A.lt_some
def U3:=@Go.A.m
def U4:=@Go.A.AX.rtX
def U5:=@Go.A.frz
def U6:=@Go.A.AH.pkl
def U7:=@Go.A.AH.pks
def U8:=@Go.A.rt2
def U9:=@Go.A.d
def Ka:=@Go.A.nil
def Kc:=@Go.Z.resv2
def Kd:=@Go.A.rowO
def Ke:=@Go.Z.rv_n
def Kf:=@Go.A.AL.ixl
def Kg:=@Go.A.mvd
def Kh:=@Go.A.dx
def Ki:=@Go.A.de
def Kj:=@Go.A.rt1
def Kk:=@Go.A.AH.cnp
def Kl:=@Go.Z.slice_n
def Km:=@Go.A.c
def Ko:=@Go.A.AH.vg
def Kp:=@Go.Z.resv1
def Kq:=@Go.A.AL.ixo
def Kr:=@Go.A.wrap_has
def Ks:=@Go.A.AH.pko
def Kt:=@Go.A.AL.ixt
def Ku:=@Go.A.AH.nm
def Kv:=@Go.A.AX.rtM
def Kw:=@Go.A.AL.lku
def Kz:=@Go.A.r_ixo
def K4:=@Go.A.r_ixt
def K5:=@Go.A.AH.q
def K6:=@Go.A.seen_bd
def K7:=@Go.A.r_lkf
def K8:=@Go.A.szl
section
namespace Go.M
noncomputable section NC
open Go.Z
inductive T (α:Type) where
 |lf
 |nd (v:Option α) (l r:T α)
 deriving Inhabited
def T.get {α:Type}(t:T α):Nat->Option α:=T.rec (λ_=>none) (λv _ _ gl gr i=>Nat.rec v (λj _=>bif Nat.beq (j%2) 0 then gl (j / 2)else gr (j / 2)) i) t
def T.put {α:Type}(f:Nat):T α->Nat->Option α->T α:=
 Nat.rec (λt _ _=>t) (λ_ ih t i v=>Nat.rec
  (T.rec (.nd v .lf .lf) (λ_ l r _ _=>.nd v l r) t)
  (λj _=>T.rec (bif Nat.beq (j%2) 0 then .nd none (ih .lf (j / 2) v) .lf else .nd none .lf (ih .lf (j / 2) v))
   (λu l r _ _=>bif Nat.beq (j%2) 0 then .nd u (ih l (j / 2) v) r else .nd u l (ih r (j / 2) v)) t) i) f
def T.set {α:Type}(t:T α)(i:Nat)(v:α):T α:=T.put (i+1) t i (some v)
def T.del {α:Type}(t:T α)(i:Nat):T α:=T.put (i+1) t i none
def tb {α:Type}:Nat->(Nat->Option α)->T α
 |0,_=>.lf
 |d+1,f=>.nd (f 0) (tb d λk=>f (2*k+1)) (tb d λk=>f (2*k+2))
inductive Cap where
 |c (n:Nat)
 |u (n sz:Nat)
 deriving Inhabited
inductive V where
 |k (v:Value)
 |p (i o:Nat)
 |s (i o n:Nat) (c:Cap)
 |m (i:Nat)
 |f (fn:FuncId) (first cap:List V)
 |y (i:Nat)
 |q (i:Nat)
 |w (i:Nat)
 |gl (g o:Nat)
 |g (l:List V)
 |t (l:List V)
 |i (T:QQ) (v:V)
 deriving Inhabited
def V.cells:V->List V
 | .g l=>l
 |v=>[v]
def oneV:V->Bool
 | .g _=>false
 | .t _=>false
 |_=>true
def tupV:V->Bool
 | .t _=>true
 |_=>false
def Qjm:Value->Bool
 | .agg _=>false
 | .tuple _=>false
 |_=>true
def ofV:Value->Option V
 | .agg cs=>bif cs.toList.all Qjm then some (.g (cs.toList.map .k))else none
 | .tuple _=>none
 |v=>some (.k v)
def bo (b:Bool):V:=.k (.bool b)
def it (n:Int):V:=.k (.int .i64 n)
def nt (n:Nat):V:=.k (.int .i64 (.ofNat n))
inductive Pick where
 |fresh
 |cur (k:V) (all:Bool)
inductive Env where
 |o
 |c (t:Nat) (v:V) (r:Env)
def Env.get (e:Env)(t:Nat):Option V:=Env.rec none (λu v _ ih=>bif Nat.beq u t then some v else ih) e
def Env.set (e:Env)(t:Nat)(v:V):Env:=.c t v e
def Env.del (e:Env)(t:Nat):Env:=Env.rec .o (λu v _ ih=>bif Nat.beq u t then ih else .c u v ih) e
inductive O where
 |c (T:QQ) (l:List V)
 |m (es:List (V×V)) (clk:Nat) (pend:Option (Nat×Nat))
 |q (m clk:Nat) (x:Pick)
 |qn
 |st (s:ByteArray) (pos:Nat)
 |lp (env:Env) (ps:QM) (asg body:Code) (st:Bool) (pend:Option Code)
 |df
structure Ti where
 u:TypeDesc
 n:Nat
 ag:Bool
 z:List V
 b:Nat
 e:Bool
 pl:List (Nat×Nat)
structure Cx where
 ty:T Ti
 fn:T Func
 gv:T (List V)
structure S where
 env:Env
 ds:List (Option (V×List V)×Nat)
 h:T O
 nx:Nat
 rd:Bool
 fl:Nat
def S.up (s:S)(d:Nat)(v:V):S:=⟨s.env.set d v,s.ds,s.h,s.nx,s.rd,s.fl⟩
def S.upo (s:S)(d:QN)(v:V):S:=match d with
 |some d=>s.up d v
 |none=>s
def S.seth (s:S)(h:T O):S:=⟨s.env,s.ds,h,s.nx,s.rd,s.fl⟩
def S.sethn (s:S)(h:T O)(nx:Nat):S:=⟨s.env,s.ds,h,nx,s.rd,s.fl⟩
def S.new (s:S)(o:O):S:=s.sethn (s.h.set s.nx o) (s.nx+1)
inductive X where
 |n
 |r
 |e (i:Nat)
def V.val?:V->Option Value
 | .k v=>some v
 |_=>none
def V.int? (x:V):Option (IntKind×Int):=match x.val? with
 |some (.int a b)=>some (a,b)
 |_=>none
def V.nat? (x:V):QN:=match x.int? with
 |some (_,.ofNat n)=>some n
 |_=>none
def V.bool? (x:V):Option Bool:=match x.val? with
 |some (.bool b)=>some b
 |_=>none
def V.str? (x:V):Option ByteArray:=match x.val? with
 |some (.string b)=>some b
 |_=>none
def V.ptr?:V->Option (Nat×Nat)
 | .p a b=>some (a,b)
 |_=>none
def V.gl?:V->Option (Nat×Nat)
 | .gl a b=>some (a,b)
 |_=>none
def V.sl?:V->Option (Nat×Nat×Nat×Cap)
 | .s a b d e=>some (a,b,d,e)
 |_=>none
def V.map?:V->QN
 | .m a=>some a
 |_=>none
def V.agg?:V->Option (List V)
 | .g l=>some l
 |_=>none
def V.tup?:V->Option (List V)
 | .t l=>some l
 |_=>none
def nilS:Value->Bool
 | .slice none 0 0=>true
 |_=>false
def V.nilS (x:V):Bool:=match x.val? with
 |some v=>Go.M.nilS v
 |none=>false
def capB:Cap->Cap->Bool
 | .c a,.c b=>Nat.beq a b
 | .u a x,.u b y=>Nat.beq a b&&Nat.beq x y
 |_,_=>false
def vB:Value->Value->Bool
 | .int a m,.int b n=>decide (a=b)&&decide (m=n)
 | .bool a,.bool b=>a==b
 | .string a,.string b=>decide (a=b)
 | .pointer none,.pointer none=>true
 | .slice none 0 0,.slice none 0 0=>true
 | .map none,.map none=>true
 | .nilFunc,.nilFunc=>true
 | .nilIface,.nilIface=>true
 |_,_=>false
mutual
def beq:V->V->Bool
 | .k a,.k b=>vB a b
 | .p i o,.p j q=>Nat.beq i j&&Nat.beq o q
 | .s i o n c,.s j q m d=>Nat.beq i j&&Nat.beq o q&&Nat.beq n m&&capB c d
 | .m i,.m j=>Nat.beq i j
 | .f a x y,.f b u v=>Nat.beq a b&&beqs x u&&beqs y v
 | .y i,.y j=>Nat.beq i j
 | .q i,.q j=>Nat.beq i j
 | .w i,.w j=>Nat.beq i j
 | .gl i n,.gl j m=>Nat.beq i j&&Nat.beq n m
 | .g x,.g y=>beqs x y
 | .t x,.t y=>beqs x y
 | .i a x,.i b y=>Nat.beq a b&&beq x y
 |_,_=>false
def beqs:List V->List V->Bool
 | [],[]=>true
 |a::x,b::y=>beq a b&&beqs x y
 |_,_=>false
end
section
variable (C:Cx)
def opd (e:Env):Operand->Option V
 | .tmp t=>e.get t
 | .const v=>ofV v
 | .global g=>some (.gl g 0)
 | .func f=>some (.f f [] [])
def opds (e:Env):List Operand->Option (List V)
 | []=>some []
 |x::r=>match opd e x with
  |some v=>match opds e r with
   |some vs=>some (v::vs)
   |none=>none
  |none=>none
def parts (e:Env):List (Nat×Operand)->Option (List (Nat×V))
 | []=>some []
 |(i,x)::r=>match opd e x with
  |some v=>match parts e r with
   |some vs=>some ((i,v)::vs)
   |none=>none
  |none=>none
def und (t:QQ):Option TypeDesc:=match C.ty.get t with
 |some I=>some I.u
 |none=>none
def Qbl (t:QQ):Option QQ:=match und C t with
 |some (.slice e)=>some e
 |_=>none
def Qcm (t:QQ):Option Ti:=match Qbl C t with
 |some e=>C.ty.get e
 |none=>none
def arrTi (t:QQ):Option (Nat×Ti):=match und C t with
 |some (.array n e)=>match C.ty.get e with
  |some J=>some (n,J)
  |none=>none
 |_=>none
def Qdu (t:QQ):Option (QQ×Ti):=match und C t with
 |some (.map k v)=>match C.ty.get v with
  |some J=>some (k,J)
  |none=>none
 |_=>none
def Qda (t:QQ):Bool:=match und C t with
 |some .string=>true
 |_=>false
def intK (t:QQ):Option IntKind:=match und C t with
 |some (.int k)=>some k
 |_=>none
def isIf (t:QQ):Bool:=match und C t with
 |some (.interface _)=>true
 |_=>false
def zeroV (I:Ti):V:=bif I.ag then .g I.z else I.z.headD (.g [])
def fieldAt (t:QQ)(i:Nat):Option (Nat×Ti):=match und C t with
 |some (.struct fs)=>match fs.toList[i]? with
  |some f=>match C.ty.get f.type with
   |some J=>some (f.offset,J)
   |none=>none
  |none=>none
 |_=>none
def cut (ag:Bool)(n o:Nat)(xs:List V):Option V:=
 bif ag then(bif Nat.beq ((xs.drop o).take n).length n then some (.g ((xs.drop o).take n))else none)else xs[o]?
def inr:IntKind->Int->Bool
 | .i64,.ofNat m=>Nat.blt m 9223372036854775808
 | .i64,.negSucc m=>Nat.blt m 9223372036854775808
 | .u64,.ofNat m=>Nat.blt m 18446744073709551616
 | .u8,.ofNat m=>Nat.blt m 256
 | .i32,.ofNat m=>Nat.blt m 2147483648
 |_,_=>false
def wr (k:IntKind)(n:Int):Int:=bif inr k n then n else k.wrap n
def wrv (k:IntKind)(n:Int):Option V:=some (.k (.int k (wr k n)))
def qquo (k:IntKind)(m n:Int):Option V:=bif decide (n=0)then none else wrv k (m.tdiv n)
def qrem (k:IntKind)(m n:Int):Option V:=bif decide (n=0)then none else some (.k (.int k (m.tmod n)))
def qi (k:IntKind)(m n:Int):BinOp->Option V
 | .add=>wrv k (m+n)
 | .sub=>wrv k (m-n)
 | .mul=>wrv k (m*n)
 | .lss=>some (bo (decide (m<n)))
 | .leq=>some (bo (decide (m<=n)))
 | .gtr=>some (bo (decide (n<m)))
 | .geq=>some (bo (decide (n<=m)))
 | .eql=>some (bo (decide (m=n)))
 | .neq=>some (bo (!decide (m=n)))
 | .quo=>qquo k m n
 | .rem=>qrem k m n
 | .and=>wrv k (Int.ofNat (BitVec.ofInt k.bits m&&& BitVec.ofInt k.bits n).toNat)
 | .or=>wrv k (Int.ofNat (BitVec.ofInt k.bits m|||BitVec.ofInt k.bits n).toNat)
 | .xor=>wrv k (Int.ofNat (BitVec.ofInt k.bits m^^^BitVec.ofInt k.bits n).toNat)
 |_=>none
def qshr (k:IntKind)(m n:Int):Option V:=bif decide (k=.u64)&&(decide (0<=n)&&decide (n<=64))then some (.k (.int .u64 (m / 2^n.toNat)))else none
def qs (a b:ByteArray):BinOp->Option V
 | .eql=>some (bo (decide (a=b)))
 | .neq=>some (bo (!decide (a=b)))
 | .lss=>some (bo (Op.bytesLess a.toList b.toList))
 | .gtr=>some (bo (!(Op.bytesLess a.toList b.toList||a.toList==b.toList)))
 |_=>none
def eqFw (rec:QQ->V->V->Option Bool)(xs ys:List V):List Field->Option Bool
 | []=>some true
 |f::r=>match C.ty.get f.type with
  |none=>none
  |some J=>match cut J.ag J.n f.offset xs,cut J.ag J.n f.offset ys with
   |some a,some b=>bif f.name== "_" then none else match rec f.type a b with
    |some true=>eqFw rec xs ys r
    |some false=>some false
    |none=>none
   |_,_=>none
def eqIw (rec:V->V->Option Bool)(c:Nat)(ag:Bool)(xs ys:List V):Nat->Nat->Option Bool
 |0,_=>some true
 |n+1,i=>match cut ag c (i*c) xs,cut ag c (i*c) ys with
  |some a,some b=>match rec a b with
   |some true=>eqIw rec c ag xs ys n (i+1)
   |some false=>some false
   |none=>none
  |_,_=>none
def eqInt (x y:V):Option Bool:=match x.int? with
 |some (a,m)=>match y.int? with
  |some (b,n)=>bif decide (a=b)then some (decide (m=n))else none
  |none=>none
 |none=>none
def eqBool (x y:V):Option Bool:=match x.bool? with
 |some a=>match y.bool? with
  |some b=>some (decide (a=b))
  |none=>none
 |none=>none
def eqStr (x y:V):Option Bool:=match x.str? with
 |some a=>match y.str? with
  |some b=>some (decide (a=b))
  |none=>none
 |none=>none
def kP:Value->Option Bool
 | .pointer none=>some true
 |_=>none
def kS:Value->Option Bool
 | .slice none _ _=>some true
 |_=>none
def kM:Value->Option Bool
 | .map none=>some true
 |_=>none
def kF:Value->Option Bool
 | .nilFunc=>some true
 |_=>none
def kI:Value->Option Bool
 | .nilIface=>some true
 |_=>none
def nzP:V->Option Bool
 | .p _ _=>some false
 | .gl _ _=>some false
 | .k v=>kP v
 |_=>none
def nzS:V->Option Bool
 | .s _ _ _ _=>some false
 | .k v=>kS v
 |_=>none
def nzM:V->Option Bool
 | .m _=>some false
 | .k v=>kM v
 |_=>none
def nzF:V->Option Bool
 | .f _ _ _=>some false
 | .y _=>some false
 | .k v=>kF v
 |_=>none
def nzI:V->Option Bool
 | .i _ _=>some false
 | .k v=>kI v
 |_=>none
def eqN (x y:Option Bool):Option Bool:=match x with
 |some true=>y
 |some false=>match y with
  |some true=>some false
  |_=>none
 |none=>none
def eqAgg (rec:QQ->V->V->Option Bool)(x y:V)(fs:List Field):Option Bool:=match x.agg? with
 |some xs=>match y.agg? with
  |some ys=>eqFw C rec xs ys fs
  |none=>none
 |none=>none
def eqArr (rec:QQ->V->V->Option Bool)(x y:V)(n:Nat)(e:QQ):Option Bool:=match x.agg? with
 |some xs=>match y.agg? with
  |some ys=>match C.ty.get e with
   |some J=>eqIw (rec e) J.n J.ag xs ys n 0
   |none=>none
  |none=>none
 |none=>none
def eqOk (t:QQ):Bool:=match C.ty.get t with
 |some I=>I.e
 |none=>false
def eqV (d:Nat):QQ->V->V->Option Bool:=Nat.rec (λ_ _ _=>none) (λ_ rec t x y=>match und C t with
 |none=>none
 |some u=>match u with
  | .int _=>eqInt x y
  | .bool=>eqBool x y
  | .string=>eqStr x y
  | .pointer _=>eqN (nzP x) (nzP y)
  | .slice _=>eqN (nzS x) (nzS y)
  | .map _ _=>eqN (nzM x) (nzM y)
  | .func _ _ _=>eqN (nzF x) (nzF y)
  | .interface _=>eqN (nzI x) (nzI y)
  | .struct fs=>bif eqOk C t then eqAgg C rec x y fs.toList else none
  | .array n e=>eqArr C rec x y n e
  |_=>none) d
def okK:Value->Bool
 | .int _ _=>false
 | .float _ _=>false
 | .complex _ _ _=>false
 | .string _=>false
 |_=>true
def okEq:V->Bool
 | .k v=>okK v
 | .w _=>false
 | .t _=>false
 |_=>true
def pEq (t:QQ)(x y:V):BinOp->Option V
 | .eql=>match eqV C 20 t x y with
  |some b=>some (bo b)
  |none=>none
 | .neq=>match eqV C 20 t x y with
  |some b=>some (bo (!b))
  |none=>none
 |_=>none
def binI (op:BinOp)(k:IntKind)(m:Int)(k2:IntKind)(n:Int):Option V:=match op with
 | .shr=>qshr k m n
 |op=>bif decide (k=k2)then qi k m n op else none
def bin (op:BinOp)(t:QQ)(x y:V):Option V:=match x.int? with
 |some (a,m)=>match y.int? with
  |some (b,n)=>binI op a m b n
  |none=>none
 |none=>match x.str? with
  |some a=>match y.str? with
   |some b=>qs a b op
   |none=>none
  |none=>bif okEq x then pEq C t x y op else none
def isC:Operand->Bool
 | .const _=>true
 |_=>false
def isEq:BinOp->Bool
 | .eql=>true
 | .neq=>true
 |_=>false
def cmpOk (op:BinOp)(t:QQ)(x y:Operand):Bool:=bif isEq op then(match C.ty.get t with
 |some I=>bif I.ag then I.e else bif isIf C t then isC x||isC y else true
 |none=>false)else true
def pBin (e:Env)(op:BinOp)(t:QQ)(x y:Operand):Option V:=match opd e x with
 |some a=>match opd e y with
  |some b=>bif cmpOk C op t x y then bin C op t a b else none
  |none=>none
 |none=>none
def pPick (e:Env)(c x y:Operand):Option V:=match opd e c with
 |some v=>match v.bool? with
  |some b=>bif b then opd e x else opd e y
  |none=>none
 |none=>none
def pUn (e:Env)(op:UnOp)(x:Operand):Option V:=match opd e x with
 |some v=>match op with
  | .not=>match v.bool? with
   |some b=>some (bo (!b))
   |none=>none
  | .neg=>match v.int? with
   |some (k,n)=>wrv k (0-n)
   |none=>none
  |_=>none
 |none=>none
def pExt (e:Env)(x:Operand)(i:Nat):Option V:=match opd e x with
 |some v=>match v.tup? with
  |some vs=>vs[i]?
  |none=>none
 |none=>none
def nonNil:V->Option V
 | .p i o=>some (.p i o)
 | .gl i o=>some (.gl i o)
 | .f a b c=>some (.f a b c)
 | .y i=>some (.y i)
 |_=>none
def pNil (e:Env)(x:Operand):Option V:=match opd e x with
 |some v=>nonNil v
 |none=>none
def pFunc (e:Env)(fn:Fn)(xs ys:List Operand):Option V:=match fn with
 | .func f=>match opds e xs with
  |some vs=>match opds e ys with
   |some us=>some (.f f vs us)
   |none=>none
  |none=>none
 |_=>none
def pConv (e:Env)(s d:QQ)(x:Operand):Option V:=match opd e x with
 |some v=>match v.int? with
  |some (_,n)=>match und C s with
   |some _=>match intK C d with
    |some k=>wrv k n
    |none=>none
   |none=>none
  |none=>match v.str? with
   |some b=>bif Qda C s&&Qda C d then some (.k (.string b))else none
   |none=>none
 |none=>none
def offP (v:V)(k:Nat):Option V:=match v.ptr? with
 |some (i,o)=>some (.p i (o+k))
 |none=>match v.gl? with
  |some (i,o)=>some (.gl i (o+k))
  |none=>none
def pFa (e:Env)(t:QQ)(x:Operand)(i:Nat):Option V:=match fieldAt C t i with
 |some (o,J)=>bif Nat.beq J.n 0 then none else match opd e x with
  |some v=>offP v o
  |none=>none
 |none=>none
def pFld (e:Env)(t:QQ)(x:Operand)(i:Nat):Option V:=match fieldAt C t i with
 |some (o,J)=>match opd e x with
  |some v=>match v.agg? with
   |some cs=>cut J.ag J.n o cs
   |none=>none
  |none=>none
 |none=>none
def natAt (e:Env)(x:Operand):QN:=match opd e x with
 |some v=>v.nat?
 |none=>none
def ixA (t:QQ)(v:V)(u:Nat):Option V:=match v.sl? with
 |some (j,o,n,_)=>match Qcm C t with
  |some J=>bif Nat.blt u n then some (.p j (o+u*J.n))else none
  |none=>none
 |none=>match arrTi C t with
  |some (n,J)=>bif Nat.blt u n then offP v (u*J.n)else none
  |none=>none
def pIxA (e:Env)(t:QQ)(x i:Operand):Option V:=match opd e x with
 |some v=>match natAt e i with
  |some u=>ixA C t v u
  |none=>none
 |none=>none
def ixV (t:QQ)(v:V)(u:Nat):Option V:=match v.agg? with
 |some cs=>match arrTi C t with
  |some (n,J)=>bif Nat.blt u n then cut J.ag J.n (u*J.n) cs else none
  |none=>none
 |none=>match v.str? with
  |some s=>bif Qda C t then(match s.data.toList[u]? with
   |some b=>some (.k (.int .u8 (.ofNat b.toNat)))
   |none=>none)else none
  |none=>none
def pIx (e:Env)(t:QQ)(x i:Operand):Option V:=match opd e x with
 |some v=>match natAt e i with
  |some u=>ixV C t v u
  |none=>none
 |none=>none
def optInt (e:Env)(d:Nat):Option Operand->QN
 |none=>some d
 |some x=>natAt e x
def cutK (sz lo hi m i o n k:Nat):Option V:=bif Nat.ble lo hi&&Nat.ble hi m&&Nat.ble m k then some (.s i (bif Nat.beq m lo then o else o+lo*sz) (hi-lo) (.c (m-lo)))else none
def cutU (sz lo hi i o n k z:Nat):Option V:=bif Nat.beq sz z&&Nat.ble lo hi&&Nat.ble hi n&&(Nat.blt lo hi||Nat.beq lo 0)then some (.s i (o+lo*sz) (hi-lo) (.u (k+lo) z))else none
def cutS (sz lo hi:Nat)(mx:QN)(i o n:Nat)(c:Cap):Option V:=match c with
 | .c k=>cutK sz lo hi (mx.getD k) i o n k
 | .u k z=>match mx with
  |some m=>cutK sz lo hi m i o n n
  |none=>cutU sz lo hi i o n k z
def optMx (e:Env):Option Operand->Option (QN)
 |none=>some none
 |some x=>match natAt e x with
  |some m=>some (some m)
  |none=>none
def slStr (e:Env)(s:ByteArray)(lo hi:Option Operand):Option V:=match optInt e 0 lo with
 |some l=>match optInt e s.size hi with
  |some h=>bif Nat.ble l h&&Nat.ble h s.size then some (.k (.string (s.extract l h)))else none
  |none=>none
 |none=>none
def slSl (e:Env)(t:QQ)(i o n:Nat)(c:Cap)(lo hi mx:Option Operand):Option V:=bif mx.isSome&&hi.isNone then none else match Qcm C t with
 |some J=>match optInt e 0 lo with
  |some l=>match optInt e n hi with
   |some h=>match optMx e mx with
    |some m=>cutS J.n l h m i o n c
    |none=>none
   |none=>none
  |none=>none
 |none=>none
def slNil (e:Env)(lo hi mx:Option Operand):Option V:=bif mx.isSome&&hi.isNone then none else match optInt e 0 lo with
 |some l=>match optInt e 0 hi with
  |some h=>match optInt e 0 mx with
   |some m=>bif Nat.beq (l+h+m) 0 then some (.k (.slice none 0 0))else none
   |none=>none
  |none=>none
 |none=>none
def slArr (e:Env)(t:QQ)(i o:Nat)(lo hi mx:Option Operand):Option V:=bif mx.isSome&&hi.isNone then none else match arrTi C t with
 |some (n,J)=>match optInt e 0 lo with
  |some l=>match optInt e n hi with
   |some h=>match optInt e n mx with
    |some m=>cutK J.n l h m i o n n
    |none=>none
   |none=>none
  |none=>none
 |none=>none
def slV (e:Env)(t:QQ)(v:V)(lo hi mx:Option Operand):Option V:=match v.sl? with
 |some (i,o,n,c)=>slSl C e t i o n c lo hi mx
 |none=>match v.ptr? with
  |some (i,o)=>slArr C e t i o lo hi mx
  |none=>match v.str? with
   |some s=>bif Qda C t&&mx.isNone then slStr e s lo hi else none
   |none=>bif v.nilS&&(Qcm C t).isSome then slNil e lo hi mx else none
def pSl (e:Env)(t:QQ)(x:Operand)(lo hi mx:Option Operand):Option V:=match opd e x with
 |some v=>slV C e t v lo hi mx
 |none=>none
def Qkn (pl:Nat->Option (Nat×Nat))(cells:List V):List (Nat×V)->Option (List V)
 | []=>some cells
 |(i,v)::r=>match pl i with
  |none=>none
  |some (off,n)=>bif Nat.beq v.cells.length n&&Nat.ble (off+n) cells.length&& !tupV v then Qkn pl (cells.take off++v.cells++cells.drop (off+n)) r else none
def bldV (I:Ti)(pl:Nat->Option (Nat×Nat))(vs:List (Nat×V)):Option V:=match Qkn pl I.z vs with
 |some cs=>some (.g cs)
 |none=>none
def bldT (I:Ti)(vs:List (Nat×V)):TypeDesc->Option V
 | .struct _=>bldV I (λi=>I.pl[i]?) vs
 | .array _ el=>match C.ty.get el with
  |some J=>bldV I (λi=>some (i*J.n,J.n)) vs
  |none=>none
 |_=>none
def pBuild (e:Env)(t:QQ)(ps:List (Nat×Operand)):Option V:=match C.ty.get t with
 |some I=>match parts e ps with
  |some vs=>bldT C I vs I.u
  |none=>none
 |none=>none
def pMki (e:Env)(t:QQ)(x:Operand):Option V:=bif isIf C t then none else match und C t with
 |some _=>match opd e x with
  |some v=>some (.i t v)
  |none=>none
 |none=>none
def V.if?:V->Option (QQ×V)
 | .i a b=>some (a,b)
 |_=>none
def isNilI (x:V):Bool:=match x.val? with
 |some .nilIface=>true
 |_=>false
def tasNo (I:Ti)(ok:Bool):Option V:=bif ok then some (.t [zeroV I,bo false])else none
def tasV (v:V)(ty2_:QQ)(ok:Bool)(I:Ti):Option V:=match v.if? with
 |some (t,u)=>bif isIf C ty2_ then none else bif Nat.beq t ty2_ then some (bif ok then .t [u,bo true]else u)else tasNo I ok
 |none=>bif isNilI v then tasNo I ok else none
def pTas (e:Env)(x:Operand)(ty2_:QQ)(ok:Bool):Option V:=match C.ty.get ty2_ with
 |some I=>match opd e x with
  |some v=>tasV C v ty2_ ok I
  |none=>none
 |none=>none
def lenS (x:V):QN:=match x.sl? with
 |some (_,_,n,_)=>some n
 |none=>bif x.nilS then some 0 else none
def lenB (x:V):QN:=match x.str? with
 |some s=>some s.size
 |none=>none
def lenA (t:QQ):QN:=match arrTi C t with
 |some (n,_)=>some n
 |none=>none
def lenV (t:QQ)(x:V):QN:=match Qbl C t with
 |some _=>lenS x
 |none=>bif Qda C t then lenB x else lenA C t
def mm (f:Int->Int->Int)(x y:V):Option V:=match x.int? with
 |some (a,m)=>match y.int? with
  |some (_,n)=>some (.k (.int a (f m n)))
  |none=>none
 |none=>none
def natV:QN->Option V
 |some n=>some (nt n)
 |none=>none
def arg1 {α:Type}(l:Option (List V))(f:V->Option α):Option α:=match l with
 |some [x]=>f x
 |_=>none
def arg2 {α:Type}(l:Option (List V))(f:V->V->Option α):Option α:=match l with
 |some [x,y]=>f x y
 |_=>none
def ty1 {α:Type}(ts:List QQ)(f:QQ->Option α):Option α:=match ts with
 |t::_=>f t
 |_=>none
def imin (m n:Int):Int:=bif decide (n<m)then n else m
def imax (m n:Int):Int:=bif decide (m<n)then n else m
def pBi (e:Env)(xs:List Operand)(ts:List QQ):Builtin->Option V
 | .len=>arg1 (opds e xs) λx=>ty1 ts λt=>natV (lenV C t x)
 | .min=>arg2 (opds e xs) (mm imin)
 | .max=>arg2 (opds e xs) (mm imax)
 |_=>none
def pCall (e:Env)(c:Call):Option V:=match c.callee with
 | .builtin b=>pBi C e c.args.toList c.argTypes.toList b
 |_=>none
def pure1 (e:Env):Op->Option V
 | .move x=>opd e x
 | .assign x=>opd e x
 | .pick c x y=>pPick e c x y
 | .binOp op t x y _=>pBin C e op t x y
 | .unOp op _ x=>pUn e op x
 | .extract x i=>pExt e x i
 | .nilCheck x=>pNil e x
 | .makeFunc fn xs ys=>pFunc e fn xs.toList ys.toList
 | .convert s d x=>pConv C e s d x
 | .fieldAddr t x i=>pFa C e t x i
 | .field t x i=>pFld C e t x i
 | .indexAddr t x i=>pIxA C e t x i
 | .index t x i=>pIx C e t x i
 | .slice t x lo hi mx=>pSl C e t x lo hi mx
 | .build t ps=>pBuild C e t ps.toList
 | .makeInterface t x=>pMki C e t x
 | .typeAssert x _ ty2_ ok=>pTas C e x ty2_ ok
 | .call c=>pCall C e c
 |_=>none
def Qfs (h:T O)(i:Nat):Option (QQ×List V):=match h.get i with
 |some (.c T xs)=>some (T,xs)
 |_=>none
def Qlk (h:T O)(v:V):Option (List V×Nat):=match v.ptr? with
 |some (i,o)=>match Qfs h i with
  |some (_,xs)=>some (xs,o)
  |none=>none
 |none=>match v.gl? with
  |some (g,o)=>match C.gv.get g with
   |some xs=>some (xs,o)
   |none=>none
  |none=>none
def loadV (h:T O)(t:QQ)(p:V):Option V:=match C.ty.get t with
 |some J=>match Qlk C h p with
  |some (xs,o)=>cut J.ag J.n o xs
  |none=>none
 |none=>none
def look (kt:QQ)(k:V):List (V×V)->Nat->Option (Option (Nat×V×V))
 | [],_=>some none
 |(x,v)::r,i=>match eqV C 20 kt k x with
  |some true=>match look kt k r (i+1)with
   |some none=>some (some (i,x,v))
   |_=>none
  |some false=>look kt k r (i+1)
  |none=>none
def mapC (h:T O)(i:Nat):Option (List (V×V)×Nat):=match h.get i with
 |some (.m es c _)=>some (es,c)
 |_=>none
def mapAt (h:T O)(i:Nat):Option (List (V×V)):=match mapC h i with
 |some (es,_)=>some es
 |none=>none
def isNilM (x:V):Bool:=match x.val? with
 |some (.map none)=>true
 |_=>false
def mapOf (h:T O)(m:V):Option (List (V×V)):=match m.map? with
 |some i=>mapAt h i
 |none=>bif isNilM m then some []else none
def okV (ok:Bool)(v:V)(b:Bool):V:=bif ok then .t [v,bo b]else v
def keyT:Nat->QQ->Bool
 |0,_=>false
 |d+1,t=>match C.ty.get t with
  |some I=>match I.u with
   | .struct fs=>fs.toList.all λf=>match C.ty.get f.type with
    |some J=>Nat.ble (f.offset+J.n) I.n&&Nat.ble 1 J.n&&keyT d f.type
    |none=>false
   | .array m e=>match C.ty.get e with
    |some J=>Nat.ble (m*J.n) I.n&&Nat.ble 1 J.n&&keyT d e
    |none=>false
   | .interface _=>false
   |_=>true
  |none=>false
def keyS (t:QQ)(x:V):Bool:=match C.ty.get t with
 |some I=>bif I.ag then(match x.agg? with
  |some xs=>Nat.beq xs.length I.n
  |none=>false)else true
 |none=>false
def keyB (t:QQ)(x:V):Bool:=keyT C 20 t&&keyS C t x
def Qdv (kt:QQ)(k:V)(es:List (V×V)):Option (Option (Nat×V×V)):=bif keyB C kt k then look C kt k es 0 else none
def lkV (t:QQ)(es:List (V×V))(k:V)(ok:Bool):Option V:=match Qdu C t with
 |some (kt,J)=>match Qdv C kt k es with
  |some (some (_,_,v))=>some (okV ok v true)
  |some none=>some (okV ok (zeroV J) false)
  |none=>none
 |none=>none
def rLoad (e:Env)(h:T O)(t:QQ)(x:Operand):Option V:=match opd e x with
 |some p=>loadV C h t p
 |none=>none
def rLook (e:Env)(h:T O)(t:QQ)(m k:Operand)(ok:Bool):Option V:=match opd e m with
 |some m=>match opd e k with
  |some k=>match mapOf h m with
   |some es=>lkV C t es k ok
   |none=>none
  |none=>none
 |none=>none
def V.it?:V->QN
 | .q a=>some a
 |_=>none
def curOf (h:T O)(i:Nat):Option (Nat×Nat×V):=match h.get i with
 |some (.q m c (.cur k _))=>some (m,c,k)
 |_=>none
def rEnt (e:Env)(h:T O)(x:Operand):Option V:=match opd e x with
 |some v=>match v.it? with
  |some i=>match curOf h i with
   |some (m,c,k)=>match mapC h m with
    |some (es,c')=>bif Nat.beq c c' then(match es.find? (λx=>beq x.1 k)with
     |some (_,v)=>some (.t [k,v])
     |none=>none)else none
    |none=>none
   |none=>none
  |none=>none
 |none=>none
def byteV (x:V):Option UInt8:=match x.int? with
 |some (.u8,.ofNat b)=>bif Nat.blt b 256 then some (UInt8.ofNat b)else none
 |_=>none
def bytesV:List V->Option (List UInt8)
 | []=>some []
 |x::r=>match byteV x with
  |some b=>match bytesV r with
   |some l=>some (b::l)
   |none=>none
  |none=>none
def bytesOf (h:T O)(x:V):Option (List UInt8):=match x.sl? with
 |some (i,o,n,_)=>match Qfs h i with
  |some (_,xs)=>bif Nat.beq ((xs.drop o).take n).length n then bytesV ((xs.drop o).take n)else none
  |none=>none
 |none=>bif x.nilS then some []else none
def u8T (t:QQ):Bool:=match Qbl C t with
 |some e=>match intK C e with
  |some .u8=>true
  |_=>false
 |none=>false
def rConv (e:Env)(h:T O)(s d:QQ)(x:Operand):Option V:=bif u8T C s&&Qda C d then(match opd e x with
 |some v=>match bytesOf h v with
  |some l=>some (.k (.string ⟨l.toArray⟩))
  |none=>none
 |none=>none)else none
def lenM (h:T O)(t:QQ)(m:V):Option V:=bif (Qdu C t).isSome then(match mapOf h m with
 |some es=>some (nt es.length)
 |none=>none)else none
def rCall (e:Env)(h:T O)(c:Call):Option V:=match c.callee with
 | .builtin .len=>arg1 (opds e c.args.toList) λm=>ty1 c.argTypes.toList λt=>lenM C h t m
 |_=>none
def read1 (e:Env)(h:T O):Op->Option V
 | .load t x=>rLoad C e h t x
 | .lookup t m k ok=>rLook C e h t m k ok
 | .entry x=>rEnt e h x
 | .convert s d x=>rConv C e h s d x
 | .call c=>rCall C e h c
 |_=>none
def rep (z:List V):Nat->List V
 |0=>[]
 |n+1=>z++rep z n
def aBox (e:Env)(i:Nat)(t:QQ)(x:Operand):Option (V×O):=match opd e x with
 |some v=>match C.ty.get t with
  |some J=>bif !tupV v&&Nat.beq v.cells.length J.n then some (.p i 0,.c t v.cells)else none
  |none=>none
 |none=>none
def aAl (i:Nat)(t:QQ):Option (V×O):=match C.ty.get t with
 |some I=>some (.p i 0,.c t I.z)
 |none=>none
def bsV (J:Ti)(el:QQ)(i n:Nat)(vs:List (Nat×V)):Option (V×O):=bif Nat.ble (n*J.n) 16777216&&Nat.ble 1 J.n then(match Qkn (λi=>some (i*J.n,J.n)) (rep J.z n) vs with
 |some cs=>some (.s i 0 n (.c n),.c el cs)
 |none=>none)else none
def aBs (e:Env)(i:Nat)(t:QQ)(n:Nat)(ps:List (Nat×Operand)):Option (V×O):=match Qbl C t with
 |some el=>match C.ty.get el with
  |some J=>match parts e ps with
   |some vs=>bsV J el i n vs
   |none=>none
  |none=>none
 |none=>none
def rgV (h:T O)(i:Nat)(t:QQ)(v:V):Option (V×O):=match v.map? with
 |some m=>bif (Qdu C t).isSome then(match mapC h m with
  |some (_,c)=>some (.q i,.q m c .fresh)
  |none=>none)else none
 |none=>match v.str? with
  |some s=>bif Qda C t then some (.q i,.st s 0)else none
  |none=>bif isNilM v&&(Qdu C t).isSome then some (.q i,.qn)else none
def aRg (e:Env)(h:T O)(i:Nat)(t:QQ)(x:Operand):Option (V×O):=match opd e x with
 |some v=>rgV C h i t v
 |none=>none
def byteK (x:UInt8):V:=.k (.int .u8 (.ofNat x.toNat))
def Qbw (e:Env)(h:T O)(i:Nat):Op->Option (V×O)
 | .alloc t=>aAl C i t
 | .box t x=>aBox C e i t x
 | .buildSlice t n ps=>aBs C e i t n ps.toList
 | .makeMap _ r=>bif r.isNone then some (.m i,.m [] 0 none)else none
 | .range t x=>aRg C e h i t x
 |_=>none
end
end NC
end Go.M
end
section
namespace Go.M
noncomputable section NC
open Go.Z
inductive Job where
 |code (c:Code) (s:S)
 |call (f:V) (args:List V) (h:T O) (nx fl:Nat)
 |dcall (f:V) (args:List V) (h:T O) (nx fl:Nat)
inductive Rs where
 |code (x:X) (s:S)
 |call (v:V) (h:T O) (nx:Nat)
section
variable (C:Cx)
def cells (xs:List V)(o n:Nat):Option (List V):=bif Nat.beq ((xs.drop o).take n).length n then some ((xs.drop o).take n)else none
def elems (h:T O)(sz:Nat)(y:V):Option (List V×Nat):=match y.sl? with
 |some (i,o,n,_)=>bif Nat.beq n 0 then some ([],0)else match Qfs h i with
  |some (_,xs)=>match cells xs o (n*sz)with
   |some l=>some (l,n)
   |none=>none
  |none=>none
 |none=>match y.str? with
  |some b=>some (b.toList.map byteK,b.size)
  |none=>bif y.nilS then some ([],0)else none
def Qdp (xs:List V)(o:Nat)(ys:List V):Option (List V):=bif Nat.ble (o+ys.length) xs.length then some (xs.take o++ys++xs.drop (o+ys.length))else none
abbrev Ch3:=Option (V×T O×Nat)
def apIn (el i o n:Nat)(c:Cap)(at_:Nat)(xs ys:List V)(k:Nat)(h:T O)(nx:Nat):Ch3:=match Qdp xs at_ ys with
 |some xs'=>some (.s i o (n+k) c,h.set i (.c el xs'),nx)
 |none=>none
def apNew (el sz n o m:Nat)(xs ys:List V)(k:Nat)(h:T O)(nx:Nat):Ch3:=match cells xs o m with
 |some l=>some (.s nx 0 (n+k) (.u 0 sz),h.set nx (.c el (l++ys)),nx+1)
 |none=>none
def apS (el sz i o n:Nat)(c:Cap)(xs ys:List V)(k:Nat)(h:T O)(nx fl:Nat):Ch3:=match c with
 | .c cap=>bif Nat.ble (n+k) cap then(bif Nat.ble fl i then apIn el i o n c (o+n*sz) xs ys k h nx else none)else apNew el sz n o (n*sz) xs ys k h nx
 | .u _ _=>bif Nat.ble fl i then(bif Nat.ble (o+n*sz+ys.length) xs.length then apIn el i o n c (o+n*sz) xs ys k h nx else apNew el sz n o (n*sz) xs ys k (h.del i) nx)else none
def ap1 (el:QQ)(sz:Nat)(x:V)(ys:List V)(k:Nat)(h:T O)(nx fl:Nat):Ch3:=match x.sl? with
 |some (i,o,n,c)=>match Qfs h i with
  |some (T,xs)=>bif Nat.beq T el then apS el sz i o n c xs ys k h nx fl else none
  |none=>none
 |none=>bif x.nilS then some (.s nx 0 k (.u 0 sz),h.set nx (.c el ys),nx+1)else none
def isSl (x:V):Bool:=x.nilS||x.sl?.isSome
def fits (sz b n:Nat):Bool:=Nat.ble (n*b) 140737488355328&&Nat.ble 1 b&&Nat.ble 1 sz
def Qhs (J:Ti)(el:QQ)(h:T O)(nx fl:Nat)(x y:V):Ch3:=bif !isSl y then none else match elems h J.n y with
 |none=>none
 |some (ys,k)=>bif Nat.beq k 0 then(bif isSl x then some (x,h,nx)else none)else bif fits J.n J.b ((x.sl?.elim 0 λq=>q.2.2.1)+k)then ap1 el J.n x ys k h nx fl else none
def Qkx (v:V):List (V×V)->Nat->List (V×V)
 | [],_=>[]
 |(x,u)::r,p=>match p with
  |0=>(x,v)::r
  |p+1=>(x,u)::Qkx v r p
def Qkj:Value->Bool
 | .int _ _=>true
 | .bool _=>true
 | .string _=>true
 |_=>false
def flatC:V->Bool
 | .k v=>Qkj v
 |_=>false
def flKy:V->Bool
 | .k v=>Qkj v
 | .g l=>l.all flatC
 |_=>false
abbrev Ef:=Option (V×S)
def un:V:=.t []
def storeAt (s:S)(i o:Nat)(vs:List V):Ef:=bif Nat.blt i s.fl then none else match Qfs s.h i with
 |some (T,xs)=>match Qdp xs o vs with
  |some ys=>some (un,s.seth (s.h.set i (.c T ys)))
  |none=>none
 |none=>none
def Qfy (s:S)(t:QQ)(a x:Operand):Ef:=match opd s.env a with
 |some p=>match p.ptr? with
  |some (i,o)=>match opd s.env x with
   |some v=>match C.ty.get t with
    |some J=>bif Nat.beq v.cells.length J.n&& !tupV v then storeAt s i o v.cells else none
    |none=>none
   |none=>none
  |none=>none
 |none=>none
def mapI (e:Env)(m:Operand):QN:=match opd e m with
 |some v=>v.map?
 |none=>none
def mapW (s:S)(i:Nat):Option (List (V×V)×Nat):=bif Nat.blt i s.fl then none else match s.h.get i with
 |some (.m es c _)=>some (es,c)
 |_=>none
def putM (s:S)(i:Nat)(es:List (V×V))(c:Nat)(k v:V):Option (Option (Nat×V×V))->Ef
 |some (some (p,x,_))=>bif beq k x&&flKy k then some (un,s.seth (s.h.set i (.m (Qkx v es p) c none)))else none
 |some none=>some (un,s.seth (s.h.set i (.m (es++[(k,v)]) (c+1) none)))
 |none=>none
def eUpd (s:S)(t:QQ)(m k x:Operand):Ef:=match mapI s.env m with
 |some i=>match opd s.env k with
  |some k=>match opd s.env x with
   |some v=>match Qdu C t with
    |some (kt,_)=>match mapW s i with
     |some (es,c)=>putM s i es c k v (Qdv C kt k es)
     |none=>none
    |none=>none
   |none=>none
  |none=>none
 |none=>none
def entP (s:S)(i:Nat)(es:List (V×V))(c p:Nat)(v:V):Ef:=some (.t [v,.w s.nx],s.sethn (s.h.set i (.m es c (some (s.nx,p)))) (s.nx+1))
def entM (s:S)(J:Ti)(i:Nat)(es:List (V×V))(c:Nat)(k:V):Option (Option (Nat×V×V))->Ef
 |some (some (p,x,v))=>bif beq k x&&flKy k then entP s i es c p v else none
 |some none=>entP s i (es++[(k,zeroV J)]) (c+1) es.length (zeroV J)
 |none=>none
def eEnt (s:S)(t:QQ)(m k:Operand):Ef:=match mapI s.env m with
 |some i=>match opd s.env k with
  |some k=>match Qdu C t with
   |some (kt,J)=>match mapW s i with
    |some (es,c)=>entM s J i es c k (Qdv C kt k es)
    |none=>none
   |none=>none
  |none=>none
 |none=>none
def Qje (s:S)(i:Nat):Option (List (V×V)×Nat×Nat×Nat):=bif Nat.blt i s.fl then none else match s.h.get i with
 |some (.m es c (some (j,k)))=>some (es,c,j,k)
 |_=>none
def V.w?:V->QN
 | .w a=>some a
 |_=>none
def eEst (s:S)(m w x:Operand):Ef:=match mapI s.env m with
 |some i=>match opd s.env w with
  |some w=>match w.w? with
   |some j=>match opd s.env x with
    |some v=>match Qje s i with
     |some (es,c,j',p)=>bif Nat.beq j j' then some (un,s.seth (s.h.set i (.m (Qkx v es p) c none)))else none
     |none=>none
    |none=>none
   |none=>none
  |none=>none
 |none=>none
def nxQ (s:S):O->Ef
 | .qn=>some (.t [bo false],s)
 |_=>none
def nxStr (s:S)(i:Nat):O->Ef
 | .st b pos=>bif Nat.blt pos b.size then(bif Nat.blt i s.fl then none else some (.t [bo true,nt pos,.k (.int .i32 (Utf8.decode b pos).1)],s.seth (s.h.set i (.st b (pos+(Utf8.decode b pos).2)))))else some (.t [bo false],s)
 |_=>none
def eNext (s:S)(x:Operand)(str:Bool):Ef:=match opd s.env x with
 |some v=>match v.it? with
  |some i=>match s.h.get i with
   |some o=>bif str then nxStr s i o else nxQ s o
   |none=>none
  |none=>none
 |none=>none
def back (s:S):Ch3->Ef
 |some (v,h,nx)=>some (v,s.sethn h nx)
 |none=>none
def eApp (s:S)(t:QQ)(x y:V):Ef:=match Qbl C t with
 |some el=>match C.ty.get el with
  |some J=>back s (Qhs J el s.h s.nx s.fl x y)
  |none=>none
 |none=>none
def ty2 {α:Type}(ts:List QQ)(f:QQ->Option α):Option α:=match ts with
 | [t,u]=>bif Nat.beq t u then f t else none
 |_=>none
def eClr (s:S)(t:QQ)(x:V):Ef:=match Qcm C t with
 |some J=>match x.sl? with
  |some (i,o,n,_)=>bif Nat.beq n 0 then some (un,s)else storeAt s i o (rep J.z n)
  |none=>bif x.nilS then some (un,s)else none
 |none=>none
def eBi (s:S)(xs:List Operand)(ts:List QQ):Builtin->Ef
 | .append=>ty2 ts λt=>arg2 (opds s.env xs) λx y=>eApp C s t x y
 | .clear=>ty1 ts λt=>arg1 (opds s.env xs) λx=>eClr C s t x
 |_=>none
def callR (s:S):Option Rs->Ef
 |some (.call v h nx)=>some (v,s.sethn h nx)
 |_=>none
def eCv (ih:Job->Option Rs)(s:S)(f:Operand)(xs:List Operand):Ef:=match opds s.env xs with
 |some args=>match opd s.env f with
  |some fv=>callR s (ih (.call fv args s.h s.nx s.fl))
  |none=>none
 |none=>none
def eCall (ih:Job->Option Rs)(s:S)(c:Call):Ef:=match c.callee with
 | .value f=>eCv ih s f c.args.toList
 | .builtin b=>eBi C s c.args.toList c.argTypes.toList b
 |_=>none
def isF:V->Bool
 | .f _ _ _=>true
 |_=>false
def eDef (s:S)(c:Call):Ef:=match c.callee with
 | .value f=>match opds s.env c.args.toList with
  |some args=>match opd s.env f with
   |some fv=>bif s.rd|| !isF fv then none else some (un,⟨s.env,(some (fv,args),0)::s.ds,s.h,s.nx,s.rd,s.fl⟩)
   |none=>none
  |none=>none
 |_=>none
def eff (ih:Job->Option Rs)(s:S):Op->Ef
 | .store t a x=>Qfy C s t a x
 | .mapUpdate t m k x=>eUpd C s t m k x
 | .insert t m k x=>eUpd C s t m k x
 | .mapEntry t m k=>eEnt C s t m k
 | .entryStore t m w x=>eEst s m w x
 | .next x b=>eNext s x b
 | .call c=>eCall C ih s c
 | .defer c=>eDef s c
 |_=>none
def clsC (c:Call):Nat:=match c.callee with
 | .builtin .len=>4
 | .builtin .cap=>0
 | .builtin .min=>0
 | .builtin .max=>0
 |_=>3
def cls:Op->Nat
 | .load _ _=>1
 | .lookup _ _ _ _=>1
 | .entry _=>1
 | .alloc _=>2
 | .box _ _=>2
 | .buildSlice _ _ _=>2
 | .makeMap _ _=>2
 | .makeSlice _ _ _=>2
 | .range _ _=>2
 | .store _ _ _=>3
 | .mapUpdate _ _ _ _=>3
 | .insert _ _ _ _=>3
 | .mapEntry _ _ _=>3
 | .entryStore _ _ _ _=>3
 | .next _ _=>3
 | .defer _=>3
 | .convert _ _ _=>4
 | .call c=>clsC c
 |_=>0
def orV (a b:Option V):Option V:=match a with
 |some v=>some v
 |none=>b
def look1 (e:Env)(h:T O)(o:Op):Nat->Option V
 |0=>pure1 C e o
 |1=>read1 C e h o
 |_=>orV (pure1 C e o) (read1 C e h o)
def made (s:S):Option (V×O)->Ef
 |some (v,x)=>some (v,s.new x)
 |none=>none
def kept (s:S)(o:Op):Option V->Ef
 |some v=>some (v,s)
 |none=>made s (Qbw C s.env s.h s.nx o)
def op1 (ih:Job->Option Rs)(s:S)(o:Op):Nat->Ef
 |3=>eff C ih s o
 |2=>made s (Qbw C s.env s.h s.nx o)
 |n=>kept C s o (look1 C s.env s.h o n)
def wantB (want:Bool)(e:Env):QN->Option Bool
 |some d=>match e.get d with
  |some v=>match v.bool? with
   |some b=>some (b==want)
   |none=>some false
  |none=>none
 |none=>some false
def wantedV (ops:QT)(e:Env)(g:Option (Nat×Bool)):Option Bool:=match g with
 |none=>some true
 |some (j,want)=>match ops[j]? with
  |some o=>wantB want e o.dst
  |none=>some false
def seq1 (ih:Job->Option Rs)(all:QT):QT->S->Option S
 | [],s=>some s
 |o::r,s=>match wantedV all s.env o.guard with
  |some true=>(match op1 C ih s o.op (cls o.op)with
   |some (v,s')=>seq1 ih all r (s'.upo o.dst v)
   |none=>none)
  |some false=>seq1 ih all r (s.upo o.dst un)
  |none=>none
def tst (b i:Nat):Bool:=Nat.beq (Nat.land (b / 2^i) 1) 1
def bits (bs:QM)(l:List Edge):Nat:=l.foldl (λs e=>bif Region.binds .any e then Nat.lor s (Nat.lor (2^e.on) (bs.getD e.on 0))else s) 0
def Qau:QT->QM->QM
 | [],bs=>bs
 |o::r,bs=>Qau r (bs++[bits bs o.after.toList])
def edgesOk (i:Nat)(l:List Edge):Bool:=l.all λe=> !Region.binds .any e||Nat.blt e.on i
def Qcs:QT->Nat->Bool
 | [],_=>true
 |o::r,i=>edgesOk i o.after.toList&&Qcs r (i+1)
def tmpOf:Operand->QN
 | .tmp t=>some t
 |_=>none
def optL:QN->QM
 |some d=>[d]
 |none=>[]
def gdOf (ops:QT):Option (Nat×Bool)->QM
 |some (j,_)=>match ops[j]? with
  |some o=>optL o.dst
  |none=>[]
 |none=>[]
def sees (ops:QT)(o:Oper):QM:=o.op.operands.toList.filterMap tmpOf++gdOf ops o.guard
def has (l:QM):QN->Bool
 |some d=>l.any λx=>Nat.beq x d
 |none=>false
def near (d:QN)(l:QM)(d':QN)(l':QM):Bool:=has l' d||has l d'||has (optL d) d'
def Qek (d':QN)(l':QM)(b:Nat):List (QN×QM)->Nat->Bool
 | [],_=>true
 |(d,l)::r,i=>(!near d l d' l'||tst b i)&&Qek d' l' b r (i+1)
def Qdw (ops:QT)(bs:QM):QT->List (QN×QM)->Bool
 | [],_=>true
 |o::r,acc=>Qek o.dst (sees ops o) (bs.getD acc.length 0) acc 0&&Qdw ops bs r (acc++[(o.dst,sees ops o)])
def cnt {α:Type}(l:List α):Nat:=List.rec 0 (λ_ _ n=>Nat.add n 1) l
def stat (ops:QT):Option (QM):=bif Qcs ops 0&&Qdw ops (Qau ops []) ops []then some (Qau ops [])else none
structure D where
 s:S
 cs:List (Nat×S)
 xs:List (Nat×Nat×O)
 rs:List (Nat×Op×Env×V)
 q:Nat
def layIf (h:T O)(i:Nat)(x:O):T O:=match h.get i with
 |some _=>h
 |none=>h.set i x
def lay (h:T O)(p:Nat->Bool):List (Nat×Nat×O)->T O
 | []=>h
 |(j,i,x)::r=>bif p j then layIf (lay h p r) i x else lay h p r
def noQ:O->Bool
 | .q _ _ _=>false
 |_=>true
def dMade (d:D)(i:Nat)(dst:QN):Option (V×O)->Option D
 |some (v,x)=>bif noQ x then some ⟨d.s.upo dst v,d.cs,(i,d.q,x)::d.xs,d.rs,d.q+1⟩else none
 |none=>none
def dLook (d:D)(i:Nat)(o:Oper):Option V->Option D
 |some v=>some ⟨d.s.upo o.dst v,d.cs,d.xs,(i,o.op,d.s.env,v)::d.rs,d.q⟩
 |none=>dMade d i o.dst (Qbw C d.s.env d.s.h d.q o.op)
def there (b:Nat)(h:T O)(x:Nat×Nat×O):Bool:= !tst b x.1||(h.get x.2.1).isSome
def dEff (d:D)(i b:Nat)(dst:QN):Ef->Option D
 |some (v,s)=>bif d.xs.all (there b s.h)then some ⟨s.upo dst v,(i,s)::d.cs,d.xs,d.rs,d.q⟩else none
 |none=>none
def dStep (ih:Job->Option Rs)(d:D)(i b:Nat)(o:Oper):Nat->Option D
 |3=>bif d.cs.all (λc=>tst b c.1)then dEff d i b o.dst (eff C ih (d.s.seth (lay d.s.h (tst b) d.xs)) o.op)else none
 |2=>dMade d i o.dst (Qbw C d.s.env d.s.h d.q o.op)
 |n=>dLook C d i o (look1 C d.s.env (lay d.s.h (tst b) d.xs) o.op n)
def dOne (ih:Job->Option Rs)(all:QT)(d:D)(i b:Nat)(o:Oper):Option D:=match wantedV all d.s.env o.guard with
 |some true=>dStep C ih d i b o (cls o.op)
 |some false=>some ⟨d.s.upo o.dst un,d.cs,d.xs,d.rs,d.q⟩
 |none=>none
def dGo (ih:Job->Option Rs)(all:QT)(bs:QM):QT->Nat->D->Option D
 | [],_,d=>some d
 |o::r,i,d=>match dOne C ih all d i (bs.getD i 0) o with
  |some d=>dGo ih all bs r (i+1) d
  |none=>none
def same1 (v:V):Option V->Bool
 |some u=>beq u v
 |none=>false
def behind (s0:S):List (Nat×S)->S
 | []=>s0
 |(_,s)::_=>s
def reread2 (s0:S)(d:D)(b:Nat)(o:Op)(e:Env)(v:V)(lo hi:Nat):Bool:=
 bif Nat.beq lo hi then true else(List.range (hi+1-lo)).all λk=>same1 v (look1 C e (lay (behind s0 (d.cs.drop (cnt d.cs-(lo+k)))).h (tst b) d.xs) o (cls o))
def reread (s0:S)(bs:QM)(d:D)(x:Nat×Op×Env×V):Bool:=bif Nat.beq (cls x.2.1) 0 then true else
 reread2 C s0 d (bs.getD x.1 0) x.2.1 x.2.2.1 x.2.2.2 (cnt (d.cs.filter λc=>tst (bs.getD x.1 0) c.1)) (cnt d.cs-cnt (d.cs.filter λc=>tst (bs.getD c.1 0) x.1))
def dEnd (s0:S)(bs:QM):Option D->Option S
 |some d=>bif d.rs.all (reread C s0 bs d)then some (d.s.seth (lay d.s.h (λ_=>true) d.xs))else none
 |none=>none
def dRun0 (ih:Job->Option Rs)(ops:QT)(bs:QM)(s0:S)(q:Nat):Option S:=dEnd C s0 bs (dGo C ih ops bs ops 0 ⟨s0,[],[],[],q⟩)
def drawn (ih:Job->Option Rs)(ops:QU)(s:S):Option S:=match stat ops.toList with
 |some bs=>dRun0 C ih ops.toList bs (s.sethn s.h (s.nx+cnt ops.toList)) s.nx
 |none=>none
def Qdq:Code->QM
 | .region _ ops _=>ops.toList.filterMap (·.dst)
 | .seq a b=>Qdq a++Qdq b
 | .cond _ a b=>Qdq a++Qdq b
 | .block _ a=>Qdq a
 | .loop a=>Qdq a
 | .scope a=>Qdq a
 |_=>[]
def delAll (e:Env):QM->Env
 | []=>e
 |d::r=>delAll (e.del d) r
structure Nx where
 x:Operand
 d:Nat
 all:QT
 r:QT
 c:Code
def nextOp (ops:QT)(c:Code):Option Nx:=match ops with
 |⟨some d,.next x false,_,_,_,none⟩::r=>some ⟨x,d,ops,r,c⟩
 |_=>none
def Qge:Code->Option Nx
 | .seq (.region _ ops false) c=>nextOp ops.toList c
 |_=>none
def roundC (ih:Job->Option Rs)(c:Code):Option S->Option Rs
 |some s=>ih (.code c s)
 |none=>none
def round0 (ih:Job->Option Rs)(N:Nx)(s:S)(v:V):Option Rs:=roundC ih N.c (seq1 C ih N.all N.r (s.up N.d v))
def round1 (ih:Job->Option Rs)(N:Nx)(s:S)(i m c:Nat)(al:Bool)(k v:V):Option Rs:=round0 C ih N (s.seth (s.h.set i (.q m c (.cur k al)))) (.t [bo true,k,v])
def roundR:Option Rs->Option S
 |some (.code .n s)=>some s
 |_=>none
def left:Option Rs->Option Rs
 |some (.code x s)=>match x with
  | .n=>none
  |x=>some (.code x s)
 |_=>none
def finL (ih:Job->Option Rs)(N:Nx)(s:S)(i:Nat):Option Rs:=left (round0 C ih N (s.seth (s.h.del i)) (.t [bo false]))
def lastQ (h:T O)(i:Nat):Option (Nat×Nat):=match h.get i with
 |some (.q m c (.cur _ true))=>some (m,c)
 |_=>none
def one2 (ih:Job->Option Rs)(N:Nx)(i:Nat)(s:S):Option (Nat×Nat)->Option Rs
 |some (m,c)=>match mapC s.h m with
  |some (_,c')=>bif Nat.beq c c' then finL C ih N s i else none
  |none=>none
 |none=>none
def itOf (N:Nx)(s:S):QN:=match opd s.env N.x with
 |some v=>v.it?
 |none=>none
def one1 (ih:Job->Option Rs)(N:Nx):Option S->Option Rs
 |some s=>match itOf N s with
  |some i=>bif Nat.blt i s.fl then none else one2 C ih N i s (lastQ s.h i)
  |none=>none
 |none=>none
def sameO (x y:Option V):Bool:=match x with
 |some a=>match y with
  |some b=>beq a b
  |none=>false
 |none=>true
def envLe (e0 e2 e:Env):Bool:=Env.rec true (λt _ _ ih=>sameO (e0.get t) (e2.get t)&&ih) e
def rounds (ih:Job->Option Rs)(N:Nx)(s:S)(i m c:Nat):List (V×V)->Bool
 | []=>true
 |(k,v)::r=>match roundR (round1 C ih N ⟨s.env,s.ds,s.h,s.nx,s.rd,s.nx⟩ i m c false k v)with
  |some s2=>s.ds.isEmpty&&s2.ds.isEmpty&&envLe s.env s2.env s.env&&rounds ih N s i m c r
  |none=>false
def ne0:V->V->Bool
 | .k a,.k b=>Qkj a&&Qkj b&& !vB a b
 |_,_=>false
def neL:List V->List V->Bool
 |a::x,b::y=>ne0 a b||neL x y
 |_,_=>false
def neK:V->V->Bool
 | .g x,.g y=>neL x y
 |a,b=>ne0 a b
def dk:List (V×V)->Bool
 | []=>true
 |(k,_)::r=>r.all (λy=>neK k y.1)&&dk r
def bare (s:S)(b:Code):S:=⟨delAll s.env (Qdq b),s.ds,s.h,s.nx,s.rd,s.fl⟩
def many (ih:Job->Option Rs)(N:Nx)(s:S)(i m c:Nat)(es:List (V×V)):Option Rs:=match itOf N s with
 |some j=>bif Nat.beq j i&&dk es&&rounds C ih N s i m c es then finL C ih N s i else none
 |none=>none
def Qlb (ih:Job->Option Rs)(b:Code)(N:Nx)(s:S)(i m c:Nat)(es:List (V×V)):Option Rs:=match es with
 | []=>finL C ih N s i
 | [(k,v)]=>one1 C ih N (roundR (round1 C ih N s i m c true k v))
 |es=>many C ih N (bare s b) i m c es
def bindV:QM->List V->Env->Option Env
 | [],[],e=>some e
 |p::ps,v::vs,e=>bindV ps vs (e.set p v)
 |_,_,_=>none
def argV:List V->Nat->Env->Env
 | [],_,e=>e
 |v::vs,i,e=>argV vs (i+1) (e.set i v)
def isDf:Option O->Bool
 |some .df=>true
 |_=>false
def callH:Option Rs->Option (T O×Nat)
 |some (.call _ h nx)=>some (h,nx)
 |_=>none
def Qlj (ih:Job->Option Rs)(fl:Nat):List (Option (V×List V)×Nat)->T O->Nat->Option (T O×Nat)
 | [],h,nx=>some (h,nx)
 |(none,i)::r,h,nx=>bif Nat.ble fl i&&isDf (h.get i)then Qlj ih fl r (h.del i) nx else none
 |(some (f,args),_)::r,h,nx=>match callH (ih (.dcall f args h nx fl))with
  |some (h,nx)=>Qlj ih fl r h nx
  |none=>none
def res1 (e:Env)(h:T O):ResultVar->Option V
 | .tmp t=>e.get t
 | .cell a t=>match e.get a with
  |some p=>loadV C h t p
  |none=>none
def resV (e:Env)(h:T O):List ResultVar->Option (List V)
 | []=>some []
 |x::r=>match res1 C e h x with
  |some v=>match resV e h r with
   |some vs=>some (v::vs)
   |none=>none
  |none=>none
def one:List V->V
 | [v]=>v
 |l=>.t l
def nrm (o:Option S):Option Rs:=match o with
 |some s=>some (.code .n s)
 |none=>none
def cSeq (ih:Job->Option Rs)(b:Code):Option Rs->Option Rs
 |some (.code .n s)=>ih (.code b s)
 |r=>r
def cCond (ih:Job->Option Rs)(x:Operand)(a b:Code)(s:S):Option Rs:=match opd s.env x with
 |some v=>match v.bool? with
  |some t=>ih (.code (bif t then a else b) s)
  |none=>none
 |none=>none
def blk (i j:Nat)(s:S):Option Rs:=bif Nat.beq j i then some (.code .n s)else some (.code (.e j) s)
def cBlock (i:Nat):Option Rs->Option Rs
 |some (.code (.e j) s)=>blk i j s
 |r=>r
def cAgain (ih:Job->Option Rs)(b:Code):Option Rs->Option Rs
 |some (.code .n s)=>ih (.code (.loop b) s)
 |r=>r
def freshAt (h:T O)(i:Nat):Option (Nat×Nat):=match h.get i with
 |some (.q m c .fresh)=>some (m,c)
 |_=>none
def isNext (b:Code)(s:S):Option (Nx×Nat×Nat×Nat×List (V×V)):=match Qge b with
 |some N=>match opd s.env N.x with
  |some v=>match v.it? with
   |some i=>match freshAt s.h i with
    |some (m,c)=>match mapC s.h m with
     |some (es,c')=>bif Nat.beq c c' then some (N,i,m,c,es)else none
     |none=>none
    |none=>none
   |none=>none
  |none=>none
 |none=>none
def cLoop (ih:Job->Option Rs)(b:Code)(s:S):Option Rs:=match isNext b s with
 |some (N,i,m,c,es)=>bif Nat.blt i s.fl then none else Qlb C ih b N s i m c es
 |none=>cAgain ih b (ih (.code b s))
def lpAt (h:T O)(i:Nat):Option (Env×QM×Code×Code×Bool×Option Code):=match h.get i with
 |some (.lp e ps a b st p)=>some (e,ps,a,b,st,p)
 |_=>none
def pendX:Option Code->Option X
 |none=>some .n
 |some .ret=>some .r
 |some (.exit j)=>some (.e j)
 |_=>none
def rfEnd (s:S)(i:Nat):Option (T O×Nat)->Option Rs
 |some (h,nx)=>match lpAt h (i+1)with
  |some (_,_,_,_,st,p)=>bif st&&p.isNone then none else match pendX p with
   |some x=>some (.code x ⟨s.env,(none,i)::s.ds,h.del (i+1),nx,s.rd,s.fl⟩)
   |none=>none
  |none=>none
 |none=>none
def cRf (ih:Job->Option Rs)(f:Operand)(ps:QM)(asg body:Code)(s:S):Option Rs:=match opd s.env f with
 |some fv=>bif s.rd|| !isF fv then none else rfEnd s s.nx (callH (ih (.call fv [.y (s.nx+1)] ((s.h.set s.nx .df).set (s.nx+1) (.lp s.env ps asg body false none)) (s.nx+2) s.fl)))
 |none=>none
def fCode (ih:Job->Option Rs)(s:S):Code->Option Rs
 | .skip=>some (.code .n s)
 | .label _=>some (.code .n s)
 | .region _ ops d=>nrm (bif d then drawn C ih ops s else seq1 C ih ops.toList ops.toList s)
 | .seq a b=>cSeq ih b (ih (.code a s))
 | .cond x a b=>cCond ih x a b s
 | .block i b=>cBlock i (ih (.code b s))
 | .scope b=>ih (.code b s)
 | .loop b=>cLoop C ih b s
 | .exit i=>some (.code (.e i) s)
 | .ret=>some (.code .r s)
 | .rangeFunc f ps asg body=>cRf ih f ps.toList asg body s
 |_=>none
def jump:X->Option (Bool×Option Code)
 | .n=>some (false,none)
 | .r=>some (true,some .ret)
 | .e j=>some (true,some (.exit j))
def yOut (i:Nat)(s:S)(b:Bool)(c:Option Code):Option (Env×QM×Code×Code×Bool×Option Code)->Option Rs
 |some (e,ps,asg,body,_,_)=>some (.call (bo (!b)) (s.h.set i (.lp e ps asg body b c)) s.nx)
 |none=>none
def yEnd (i:Nat):Option Rs->Option Rs
 |some (.code x s)=>match jump x with
  |some (b,c)=>yOut i s b c (lpAt s.h i)
  |none=>none
 |_=>none
def yGo (ih:Job->Option Rs)(i:Nat)(body:Code)(s:S):Option (Env×QM×Code×Code×Bool×Option Code)->Option Rs
 |some (e,ps,a,b,false,none)=>yEnd i (ih (.code body (s.seth (s.h.set i (.lp e ps a b true none)))))
 |_=>none
def yBody (ih:Job->Option Rs)(i:Nat)(body:Code):Option Rs->Option Rs
 |some (.code .n s)=>yGo ih i body s (lpAt s.h i)
 |_=>none
def yCall (ih:Job->Option Rs)(i:Nat)(args:List V)(h:T O)(nx fl:Nat):Option Rs:=bif Nat.blt i fl then none else match lpAt h i with
 |some (e,ps,asg,body,false,none)=>match bindV ps args e with
  |some e'=>yBody ih i body (ih (.code asg ⟨e',[],h,nx,true,fl⟩))
  |none=>none
 |_=>none
def retR (s:S)(rs:List ResultVar):Option (T O×Nat)->Option Rs
 |some (h,nx)=>match resV C s.env h rs with
  |some vs=>some (.call (one vs) h nx)
  |none=>none
 |none=>none
def Qjv:X->Bool
 | .e _=>true
 |_=>false
def bodyR (ih:Job->Option Rs)(fl:Nat)(rs:List ResultVar):Option Rs->Option Rs
 |some (.code x s)=>bif Qjv x then none else retR C s rs (Qlj ih fl s.ds s.h s.nx)
 |_=>none
def okD (n:Nat):Code->Bool
 | .region _ ops _=>ops.toList.all λo=>match o.dst with
  |some d=>Nat.blt d n
  |none=>true
 | .seq a b=>okD n a&&okD n b
 | .cond _ a b=>okD n a&&okD n b
 | .block _ a=>okD n a
 | .loop a=>okD n a
 | .scope a=>okD n a
 | .rangeFunc _ ps a b=>ps.toList.all (λd=>Nat.blt d n)&&okD n a&&okD n b
 |_=>true
def fnCall (ih:Job->Option Rs)(fid:Nat)(args:List V)(h:T O)(nx fl:Nat):Option Rs:=match C.fn.get fid with
 |some fn=>match fn.body with
  |some c=>bif okD fn.ntmps c&&Nat.ble args.length fn.ntmps then bodyR C ih fl fn.results.toList (ih (.code c ⟨argV args 0 .o,[],h,nx,false,fl⟩))else none
  |none=>none
 |none=>none
def isRec (c:Call):Bool:=match c.callee with
 | .builtin .recover=>Nat.beq c.args.size 0&&Nat.beq c.argTypes.size 0
 |_=>false
def recOp:QT->QN
 | [⟨some d,.call c,_,_,_,none⟩]=>bif isRec c then some d else none
 |_=>none
def dBody:Code->Option (Nat×Code)
 | .seq (.region _ ops false) b=>match recOp ops.toList with
  |some d=>some (d,b)
  |none=>none
 |_=>none
def endD (rs:List ResultVar):Option Rs->Option Rs
 |some (.code x s)=>bif Qjv x|| !s.ds.isEmpty|| !rs.isEmpty then none else some (.call un s.h s.nx)
 |_=>none
def dRun (ih:Job->Option Rs)(fn:Func)(args:List V)(h:T O)(nx fl:Nat):Option (Nat×Code)->Option Rs
 |some (d,b)=>bif okD fn.ntmps b&&Nat.ble args.length fn.ntmps&&Nat.blt d fn.ntmps then endD fn.results.toList (ih (.code b ⟨(argV args 0 .o).set d (.k .nilIface),[],h,nx,false,fl⟩))else none
 |none=>none
def dCall (ih:Job->Option Rs)(args:List V)(h:T O)(nx fl:Nat):V->Option Rs
 | .f fid first cap=>match C.fn.get fid with
  |some fn=>match fn.body with
   |some c=>dRun ih fn (first++args++cap) h nx fl (dBody c)
   |none=>none
  |none=>none
 |_=>none
def fCall (ih:Job->Option Rs)(args:List V)(h:T O)(nx fl:Nat):V->Option Rs
 | .y i=>yCall ih i args h nx fl
 | .f fid first cap=>fnCall C ih fid (first++args++cap) h nx fl
 |_=>none
def F (ih:Job->Option Rs):Job->Option Rs
 | .code c s=>fCode C ih s c
 | .call f args h nx fl=>fCall C ih args h nx fl f
 | .dcall f args h nx fl=>dCall C ih args h nx fl f
def ai (n:Nat):Job->Option Rs:=Nat.rec (λ_=>none) (λ_ ih j=>F C ih j) n
end
end NC
end Go.M
end
section
namespace Go.M
noncomputable section NC
open Go.Z
def isAg:TypeDesc->Bool
 | .struct _=>true
 | .array _ _=>true
 |_=>false
def isAggV:Value->Bool
 | .agg _=>true
 |_=>false
def plsOf (P:QR):TypeDesc->Option (List (Nat×Nat))
 | .struct fs=>qpl P fs.toList
 |_=>some []
def tiOf (P:QR)(t:Nat):Option Ti:=match P.underlying t,P.info? t with
 |some u,some i=>match i.zero,plsOf P u with
  |some z,some pl=>bif z.cells.toList.all Qjm&&(bif isAg u then isAggV z else Qjm z)&&Nat.beq z.cells.size i.size then some ⟨u,i.size,isAg u,z.cells.toList.map .k,i.bytes, !P.stoodInHeld t&& !P.eqGuardType P.depth t,pl⟩else none
  |_,_=>none
 |_,_=>none
def fnOf (P:QR)(i:Nat):Option Func:=match P.funcs[i]? with
 |some f=>bif f.name== "runtime.NumGoroutine" then none else some f
 |none=>none
def mkC (P:QR)(gv:T (List V)):Cx:=⟨tb 12 (tiOf P),tb 12 (fnOf P),gv⟩
def run0 (C:Cx)(n:Nat)(f:FuncId):Option V:=match ai C n (.call (.f f [] []) [] .lf 0 0)with
 |some (.call v _ _)=>some v
 |_=>none
end NC
end Go.M
end
section
namespace Go.Proofs.YtligcbdjiolamaaGreatDoor
def T6:M.run0 (M.mkC Tryz.prog .lf) 100000 6=some (.k (.bool true)):=by kernel_rfl
end Go.Proofs.YtligcbdjiolamaaGreatDoor
end
section
namespace Go.M
open Go.RowKit Go.Z
section
variable {α:Type}
def T.get_lf (i:Nat):(T.lf:T α).get i=none:=rfl
def T.get_0 (v:Option α)(l r:T α):(T.nd v l r).get 0=v:=rfl
def T.get_s (v:Option α)(l r:T α)(j:Nat):(T.nd v l r).get (j+1)=bif Nat.beq (j%2) 0 then l.get (j / 2)else r.get (j / 2):=rfl
def T.put_s0 (f:Nat)(t:T α)(v:Option α):T.put (f+1) t 0 v=match t with| .lf=>.nd v .lf .lf | .nd _ l r=>.nd v l r:=by cases t<;>rfl
def T.put_ss (f:Nat)(t:T α)(j:Nat)(v:Option α):T.put (f+1) t (j+1) v=match t with
  | .lf=>bif Nat.beq (j%2) 0 then .nd none (T.put f .lf (j / 2) v) .lf else .nd none .lf (T.put f .lf (j / 2) v)
  | .nd u l r=>bif Nat.beq (j%2) 0 then .nd u (T.put f l (j / 2) v) r else .nd u l (T.put f r (j / 2) v):=by cases t<;>rfl
def T.get_put: ∀(f:Nat) (t:T α) (i:Nat) (v:Option α) (j:Nat),i<f->(T.put f t i v).get j=if j=i then v else t.get j
 |0,_,_,_,_,h=>by omega
 |f+1,t,0,v,j,_=>by
  rw[T.put_s0];cases t<;>cases j<;>simp[T.get_lf,T.get_0,T.get_s]
 |f+1,t,i+1,v,j,h=>by
  rw[T.put_ss];have ih:=λt j=>T.get_put f t (i / 2) v j (by omega);cases t with
  |lf=>
   rcases Xv i with E|E<;>cases j with
   |zero=>simp[E,T.get_0,T.get_lf,show Nat.beq 1 0=false from rfl]
   |succ j=>
    rcases Xv j with I|I<;>simp only[E,I,cond_true,cond_false,T.get_s,ih,T.get_lf,show Nat.beq 1 0=false from rfl,show Nat.beq 0 0=true from rfl]<;>
     (try split)<;>(try split)<;>first|rfl|omega
  |nd u l r=>
   rcases Xv i with E|E<;>cases j with
   |zero=>simp[E,T.get_0,show Nat.beq 1 0=false from rfl]
   |succ j=>
    rcases Xv j with I|I<;>simp only[E,I,cond_true,cond_false,T.get_s,ih,show Nat.beq 1 0=false from rfl,show Nat.beq 0 0=true from rfl]<;>
     (try split)<;>(try split)<;>first|rfl|omega
def T.get_set (t:T α)(i:Nat)(v:α)(j:Nat):(t.set i v).get j=if j=i then some v else t.get j:=T.get_put _ t i _ j (by omega)
def T.get_del (t:T α)(i j:Nat):(t.del i).get j=if j=i then none else t.get j:=T.get_put _ t i _ j (by omega)
def T.get_set_same (t:T α)(i:Nat)(v:α):(t.set i v).get i=some v:=by rw[T.get_set,Qc rfl]
def T.get_set_other (t:T α){i j:Nat}(v:α)(h:j≠i):(t.set i v).get j=t.get j:=by rw[T.get_set,Qb h]
def tb_get: ∀(d:Nat) (f:Nat->Option α) (i:Nat) (x:α),(tb d f).get i=some x->f i=some x
 |0,_,_,_,h=>by cases h
 |d+1,f,0,x,h=>h
 |d+1,f,i+1,x,h=>by
  unfold tb at h;rw[T.get_s]at h;rcases Xv i with E|E<;>rw[E]at h
  have:=tb_get d _ _ _ (show(tb d λk=>f (2*k+1)).get (i / 2)=some x from h);rwa[show 2*(i / 2)+1=i+1 by omega]at this;have:=tb_get d _ _ _ (show(tb d λk=>f (2*k+2)).get (i / 2)=some x from h);rwa[show 2*(i / 2)+2=i+1 by omega]at this
end
def Env.get_c (t:Nat)(v:V)(r:Env)(d:Nat):(Env.c t v r).get d=if t=d then some v else r.get d:=by
 show(bif Nat.beq t d then some v else r.get d)=_;by_cases h:t=d;subst h;simp;rw[Qb h,show Nat.beq t d=false from by cases E:Nat.beq t d with|false=>rfl|true=>exact absurd (Qk E) h];rfl
def Env.get_o (d:Nat):Env.o.get d=none:=rfl
def Env.get_del (t:Nat): ∀(e:Env) (d:Nat) (v:V),(e.del t).get d=some v->e.get d=some v/\d≠t
 | .o,d,v,h=>by cases h
 | .c u x r,d,v,h=>by
  have h':(bif Nat.beq u t then r.del t else .c u x (r.del t)).get d=some v:=h;cases E:Nat.beq u t with
  |true=>
   rw[E]at h';obtain⟨h1,h2⟩:=Env.get_del t r d v h';have:u=t:=Qk E;rw[Env.get_c,Qb (by omega)];exact⟨h1,h2⟩
  |false=>
   rw[E]at h';rw[cond_false,Env.get_c]at h';rw[Env.get_c];split;rename_i e;subst e;rw[Qc rfl]at h';exact⟨h',λe=>by subst e;simp at E⟩;rename_i e;rw[Qb e]at h';exact Env.get_del t r d v h'
structure Pl where
 b:Nat
 o:Nat
 c:Nat
 s:Nat
abbrev Rho:=Nat->Option Pl
def Le (ρ ρ':Rho):Prop:=∀i x,ρ i=some x->ρ' i=some x
def Le.refl (ρ:Rho):Le ρ ρ:=λ_ _ h=>h
def Le.trans {a b c:Rho}(h:Le a b)(k:Le b c):Le a c:=λi x hx=>k i x (h i x hx)
def Rho.add (ρ:Rho)(i:Nat)(x:Pl):Rho:=λj=>if j=i then some x else ρ j
def Rho.le_add {ρ:Rho}{i:Nat}{x:Pl}(h:ρ i=none):Le ρ (ρ.add i x):=λj y E=>by
 unfold Rho.add;split;rename_i e;subst e;rw[h]at E;cases E;exact E
def Rho.add_same (ρ:Rho)(i:Nat)(x:Pl):ρ.add i x i=some x:=Qc rfl
def Rho.add_other {ρ:Rho}{i j:Nat}{x:Pl}(h:j≠i):ρ.add i x j=ρ j:=Qb h
def capN (x:Pl):Cap->Nat
 | .c n=>n
 | .u u _=>x.c-u
def slOk (x:Pl)(o n:Nat):Cap->Bool
 | .c m=>decide (n<=m)
 | .u u z=>decide (z=x.s/\o=u*x.s/\u+n<=x.c)
mutual
def cv (ρ:Rho):V->Option Value
 | .k v=>if Qjm v=true then some v else none
 | .p i o=>match ρ i with
  |some x=>some (.pointer (some ⟨x.b,x.o+o,none⟩))
  |none=>none
 | .s i o n c=>match ρ i with
  |some x=>if slOk x o n c=true then some (.slice (some ⟨x.b,x.o+o,none⟩) n (capN x c))else none
  |none=>none
 | .m i=>match ρ i with
  |some x=>some (.map (some x.b))
  |none=>none
 | .f fn first cap=>match cvl ρ first,cvl ρ cap with
  |some a,some b=>some (.func (.func fn) a.toArray b.toArray)
  |_,_=>none
 | .y i=>match ρ i with
  |some x=>some (.func (.yield x.b) #[] #[])
  |none=>none
 | .q i=>match ρ i with
  |some x=>some (.pointer (some ⟨x.b,0,none⟩))
  |none=>none
 | .w i=>match ρ i with
  |some x=>some (.int .i64 (x.b:Int))
  |none=>none
 | .gl g o=>some (.pointer (some ⟨g,o,none⟩))
 | .g l=>match cvc ρ l with
  |some l=>some (.agg l.toArray)
  |none=>none
 | .t l=>match cvl ρ l with
  |some l=>some (.tuple l.toArray)
  |none=>none
 | .i T v=>match cv ρ v with
  |some u=>some (.iface T u)
  |none=>none
def cvl (ρ:Rho):List V->Option (QL)
 | []=>some []
 |x::r=>match cv ρ x,cvl ρ r with
  |some v,some vs=>some (v::vs)
  |_,_=>none
def cvc (ρ:Rho):List V->Option (QL)
 | []=>some []
 |x::r=>if oneV x=true then(match cv ρ x,cvc ρ r with
  |some v,some vs=>some (v::vs)
  |_,_=>none)else none
end
mutual
def Qaj {ρ ρ':Rho}(h:Le ρ ρ'): ∀(x:V) (v:Value),cv ρ x=some v->cv ρ' x=some v
 | .k u,v,E=>by unfold cv at E ⊢;exact E
 | .p i o,v,E=>by
  unfold cv at E ⊢;cases I:ρ i with
  |none=>rw[I]at E;cases E
  |some x=>rw[h i x I];rw[I]at E;exact E
 | .s i o n c,v,E=>by
  unfold cv at E ⊢;cases I:ρ i with
  |none=>rw[I]at E;cases E
  |some x=>rw[h i x I];rw[I]at E;exact E
 | .m i,v,E=>by
  unfold cv at E ⊢;cases I:ρ i with
  |none=>rw[I]at E;cases E
  |some x=>rw[h i x I];rw[I]at E;exact E
 | .f fn first cap,v,E=>by
  unfold cv at E ⊢;cases h1:cvl ρ first with
  |none=>rw[h1]at E;cases E
  |some a=>cases h2:cvl ρ cap with
   |none=>rw[h1,h2]at E;cases E
   |some b=>rw[Qbj h _ _ h1,Qbj h _ _ h2];rw[h1,h2]at E;exact E
 | .y i,v,E=>by
  unfold cv at E ⊢;cases I:ρ i with
  |none=>rw[I]at E;cases E
  |some x=>rw[h i x I];rw[I]at E;exact E
 | .q i,v,E=>by
  unfold cv at E ⊢;cases I:ρ i with
  |none=>rw[I]at E;cases E
  |some x=>rw[h i x I];rw[I]at E;exact E
 | .w i,v,E=>by
  unfold cv at E ⊢;cases I:ρ i with
  |none=>rw[I]at E;cases E
  |some x=>rw[h i x I];rw[I]at E;exact E
 | .gl g o,v,E=>by unfold cv at E ⊢;exact E
 | .g l,v,E=>by
  unfold cv at E ⊢;cases h1:cvc ρ l with
  |none=>rw[h1]at E;cases E
  |some a=>rw[Qbn h _ _ h1];rw[h1]at E;exact E
 | .t l,v,E=>by
  unfold cv at E ⊢;cases h1:cvl ρ l with
  |none=>rw[h1]at E;cases E
  |some a=>rw[Qbj h _ _ h1];rw[h1]at E;exact E
 | .i T x,v,E=>by
  unfold cv at E ⊢;cases h1:cv ρ x with
  |none=>rw[h1]at E;cases E
  |some a=>rw[Qaj h _ _ h1];rw[h1]at E;exact E
def Qbj {ρ ρ':Rho}(h:Le ρ ρ'): ∀(x:List V) (v:QL),cvl ρ x=some v->cvl ρ' x=some v
 | [],v,E=>by unfold cvl at E ⊢;exact E
 |x::r,v,E=>by
  unfold cvl at E ⊢;cases h1:cv ρ x with
  |none=>rw[h1]at E;cases E
  |some a=>cases h2:cvl ρ r with
   |none=>rw[h1,h2]at E;cases E
   |some b=>rw[Qaj h _ _ h1,Qbj h _ _ h2];rw[h1,h2]at E;exact E
def Qbn {ρ ρ':Rho}(h:Le ρ ρ'): ∀(x:List V) (v:QL),cvc ρ x=some v->cvc ρ' x=some v
 | [],v,E=>by unfold cvc at E ⊢;exact E
 |x::r,v,E=>by
  unfold cvc at E ⊢;split at E;rename_i I;rw[Qc I];cases h1:cv ρ x with
  |none=>rw[h1]at E;cases E
  |some a=>cases h2:cvc ρ r with
   |none=>rw[h1,h2]at E;cases E
   |some b=>rw[Qaj h _ _ h1,Qbn h _ _ h2];rw[h1,h2]at E;exact E
  cases E
end
section
variable {ρ:Rho}
def Qan {x:V}{r:List V}{l:QL}(h:cvl ρ (x::r)=some l): ∃v vs,l=v::vs/\cv ρ x=some v/\cvl ρ r=some vs:=by
 unfold cvl at h;cases h1:cv ρ x with
 |none=>rw[h1]at h;cases h
 |some a=>cases h2:cvl ρ r with
  |none=>rw[h1,h2]at h;cases h
  |some b=>rw[h1,h2]at h;injection h with h;exact⟨a,b,h.symm,rfl,rfl⟩
def Qao {x:V}{r:List V}{l:QL}(h:cvc ρ (x::r)=some l): ∃v vs,l=v::vs/\oneV x=true/\cv ρ x=some v/\cvc ρ r=some vs:=by
 unfold cvc at h;split at h;rename_i E;cases h1:cv ρ x with
 |none=>rw[h1]at h;cases h
 |some a=>cases h2:cvc ρ r with
  |none=>rw[h1,h2]at h;cases h
  |some b=>rw[h1,h2]at h;injection h with h;exact⟨a,b,h.symm,E,rfl,rfl⟩
 cases h
def Qbd {l:QL}(h:cvl ρ []=some l):l=[]:=by unfold cvl at h;injection h with h;exact h.symm
def Qdh {l:QL}(h:cvc ρ []=some l):l=[]:=by unfold cvc at h;injection h with h;exact h.symm
def Qae {x:V}{r:List V}{v:Value}{vs:QL}(h1:cv ρ x=some v)(h2:cvl ρ r=some vs):cvl ρ (x::r)=some (v::vs):=by unfold cvl;rw[h1,h2]
def Qjz {x:V}{r:List V}{v:Value}{vs:QL}(h0:oneV x=true)(h1:cv ρ x=some v)(h2:cvc ρ r=some vs):cvc ρ (x::r)=some (v::vs):=by unfold cvc;rw[Qc h0,h1,h2]
def Qai: ∀{l:List V} {vs:QL},cvc ρ l=some vs->vs.length=l.length
 | [],vs,h=>by rw[Qdh h];rfl
 |x::r,vs,h=>by obtain⟨v,us,rfl,_,_,h2⟩:=Qao h;simp[Qai h2]
def cvl_len: ∀{l:List V} {vs:QL},cvl ρ l=some vs->vs.length=l.length
 | [],vs,h=>by rw[Qbd h];rfl
 |x::r,vs,h=>by obtain⟨v,us,rfl,_,h2⟩:=Qan h;simp[cvl_len h2]
def cvc_get: ∀{l:List V} {vs:QL} {i:Nat} {x:V},cvc ρ l=some vs->l[i]?=some x->∃v,vs[i]?=some v/\cv ρ x=some v/\oneV x=true
 | [],vs,i,x,h,E=>by cases E
 |y::r,vs,0,x,h,E=>by obtain⟨v,us,rfl,h0,h1,_⟩:=Qao h;injection E with E;subst E;exact⟨v,rfl,h1,h0⟩
 |y::r,vs,i+1,x,h,E=>by
  obtain⟨v,us,rfl,_,_,h2⟩:=Qao h;obtain⟨u,I,J⟩:=cvc_get h2 (i:=i) (x:=x) (by simpa using E);exact⟨u,by simpa using I,J⟩
def cvl_get: ∀{l:List V} {vs:QL} {i:Nat} {x:V},cvl ρ l=some vs->l[i]?=some x->∃v,vs[i]?=some v/\cv ρ x=some v
 | [],vs,i,x,h,E=>by cases E
 |y::r,vs,0,x,h,E=>by obtain⟨v,us,rfl,h1,_⟩:=Qan h;injection E with E;subst E;exact⟨v,rfl,h1⟩
 |y::r,vs,i+1,x,h,E=>by
  obtain⟨v,us,rfl,_,h2⟩:=Qan h;obtain⟨u,I,J⟩:=cvl_get h2 (i:=i) (x:=x) (by simpa using E);exact⟨u,by simpa using I,J⟩
def Qby: ∀{l m:List V} {vs us:QL},cvc ρ l=some vs->cvc ρ m=some us->cvc ρ (l++m)=some (vs++us)
 | [],m,vs,us,h,k=>by rw[Qdh h];exact k
 |x::r,m,vs,us,h,k=>by obtain⟨v,ws,rfl,h0,h1,h2⟩:=Qao h;exact Qjz h0 h1 (Qby h2 k)
def Qeo: ∀{l m:List V} {vs us:QL},cvl ρ l=some vs->cvl ρ m=some us->cvl ρ (l++m)=some (vs++us)
 | [],m,vs,us,h,k=>by rw[Qbd h];exact k
 |x::r,m,vs,us,h,k=>by obtain⟨v,ws,rfl,h1,h2⟩:=Qan h;exact Qae h1 (Qeo h2 k)
def Qbb: ∀{l:List V} {vs:QL} (n:Nat),cvc ρ l=some vs->cvc ρ (l.take n)=some (vs.take n)
 | [],vs,n,h=>by rw[Qdh h];simp;unfold cvc;rfl
 |x::r,vs,0,h=>by simp;unfold cvc;rfl
 |x::r,vs,n+1,h=>by obtain⟨v,ws,rfl,h0,h1,h2⟩:=Qao h;exact Qjz h0 h1 (Qbb n h2)
def Qbc: ∀{l:List V} {vs:QL} (n:Nat),cvc ρ l=some vs->cvc ρ (l.drop n)=some (vs.drop n)
 | [],vs,n,h=>by rw[Qdh h];simp;unfold cvc;rfl
 |x::r,vs,0,h=>h
 |x::r,vs,n+1,h=>by obtain⟨v,ws,rfl,h0,h1,h2⟩:=Qao h;exact Qbc n h2
def cvc_one: ∀{l:List V} {vs:QL},cvc ρ l=some vs->∀u∈vs,u.oneCell'=true
 | [],vs,h,u,E=>by rw[Qdh h]at E;cases E
 |x::r,vs,h,u,E=>by
  obtain⟨v,ws,rfl,h0,h1,h2⟩:=Qao h;rcases Qn.1 E with rfl|E
  ·cases x<;>unfold cv at h1<;>first
    |(cases h0;done)
    |(split at h1<;>first|(cases h1;done)|(rename_i hp;injection h1 with h1;subst h1;rename_i w;cases w<;>first|rfl|cases hp))
    |(split at h1<;>first|(injection h1 with h1;subst h1;rfl)|cases h1|(split at h1<;>first|(injection h1 with h1;subst h1;rfl)|cases h1))
    |(injection h1 with h1;subst h1;rfl)
  exact cvc_one h2 u E
end
end Go.M
end
section
namespace Go.M
open Go.RowKit Go.Z
structure TOK (P:QR) (t:QQ) (I:Ti):Prop where
 u:P.underlying t=some I.u
 sz:szB P t=some I.n
 ag:aggB P t=some I.ag
 info: ∃i z,P.info? t=some i/\i.zero=some z/\I.z=z.cells.toList.map .k/\z.cells.toList.all Qjm=true/\(I.ag=true->z=.agg z.cells)/\(I.ag=false->Qjm z=true)/\i.bytes=I.b/\i.size=I.n/\z.cells.size=I.n
 pl: ∀fs,I.u=.struct fs->qpl P fs.toList=some I.pl
 e:I.e=true->P.stoodInHeld t=false/\P.eqGuardType P.depth t=false
structure OKC (P:QR) (C:Cx):Prop where
 ty: ∀t I,C.ty.get t=some I->TOK P t I
 fn: ∀i f,C.fn.get i=some f->P.funcs[i]?=some f/\f.name≠ "runtime.NumGoroutine"
 mixed:P.follows .mixedOrders=true
 gv: ∀g,C.gv.get g=none
structure Fe (ρ:Rho) (e:Env) (n:Nat) (a:Act):Prop where
 size:a.tmps.size=n
 get: ∀d x,e.get d=some x->∃v,cv ρ x=some v/\a.tmps[d]?=some v
section
variable {ρ ρ':Rho}{e:Env}{n:Nat}{a:Act}
def Fe.mono (h:Fe ρ e n a)(E:Le ρ ρ'):Fe ρ' e n a:=⟨h.size,λd x I=>by obtain⟨v,h1,h2⟩:=h.get d x I;exact⟨v,Qaj E _ _ h1,h2⟩⟩
def Fe.put (h:Fe ρ e n a){d:Nat}(I:d<n){x:V}{v:Value}(J:cv ρ x=some v):Fe ρ (e.set d x) n (a.put (some d) v):=by
 refine⟨by simp[Act.put,h.size],λt y N=>?_⟩;have ht':(Env.c d x e).get t=some y:=N;rw[Env.get_c]at ht';split at ht';rename_i E;subst E;injection ht' with ht'
 subst ht';exact⟨v,J,by simp[Act.put,h.size,I]⟩;rename_i E;obtain⟨u,h1,h2⟩:=h.get t y ht';exact⟨u,h1,by simp only[Act.put];rw[Xh E];exact h2⟩
def Fe.defs (h:Fe ρ e n a)(ds:List Deferred):Fe ρ e n {a with defers:=ds}:=⟨h.size,h.get⟩
end
section
variable {x:V}
def V.int?_eq {k:IntKind}{n:Int}(h:x.int?=some (k,n)):x=.k (.int k n):=by
 unfold V.int? V.val? at h;cases x with
 |k v=>cases v with
  |int a b=>simp only[Qg,Qt]at h;obtain⟨rfl,rfl⟩:=h;rfl
  |_=>cases h
 |_=>cases h
def V.val?_eq {v:Value}(h:x.val?=some v):x=.k v:=by
 unfold V.val? at h;cases x with
 |k v=>injection h with h;subst h;rfl
 |_=>cases h
def V.nat?_eq {n:Nat}(h:x.nat?=some n): ∃k,x=.k (.int k (.ofNat n)):=by
 unfold V.nat? at h;split at h;rename_i k m h1;injection h with h;subst h;exact⟨_,V.int?_eq h1⟩
 cases h
def V.bool?_eq {b:Bool}(h:x.bool?=some b):x=.k (.bool b):=by
 unfold V.bool? at h;split at h;rename_i c h1;injection h with h;subst h;exact V.val?_eq h1
 cases h
def V.str?_eq {b:ByteArray}(h:x.str?=some b):x=.k (.string b):=by
 unfold V.str? at h;split at h;rename_i c h1;injection h with h;subst h;exact V.val?_eq h1
 cases h
def V.ptr?_eq {i o:Nat}(h:x.ptr?=some (i,o)):x=.p i o:=by
 unfold V.ptr? at h;cases x<;>first|(simp only[Qg,Qt]at h;obtain⟨rfl,rfl⟩:=h;rfl)|cases h
def V.gl?_eq {i o:Nat}(h:x.gl?=some (i,o)):x=.gl i o:=by
 unfold V.gl? at h;cases x<;>first|(simp only[Qg,Qt]at h;obtain⟨rfl,rfl⟩:=h;rfl)|cases h
def V.sl?_eq {i o n:Nat}{c:Cap}(h:x.sl?=some (i,o,n,c)):x=.s i o n c:=by
 unfold V.sl? at h;cases x<;>first|(simp only[Qg,Qt]at h;obtain⟨rfl,rfl,rfl,rfl⟩:=h;rfl)|cases h
def V.map?_eq {i:Nat}(h:x.map?=some i):x=.m i:=by
 unfold V.map? at h;cases x<;>first|(injection h with h;subst h;rfl)|cases h
def V.agg?_eq {l:List V}(h:x.agg?=some l):x=.g l:=by
 unfold V.agg? at h;cases x<;>first|(injection h with h;subst h;rfl)|cases h
def V.tup?_eq {l:List V}(h:x.tup?=some l):x=.t l:=by
 unfold V.tup? at h;cases x<;>first|(injection h with h;subst h;rfl)|cases h
def V.if?_eq {t:QQ}{v:V}(h:x.if?=some (t,v)):x=.i t v:=by
 unfold V.if? at h;cases x<;>first|(simp only[Qg,Qt]at h;obtain⟨rfl,rfl⟩:=h;rfl)|cases h
def V.it?_eq {i:Nat}(h:x.it?=some i):x=.q i:=by
 unfold V.it? at h;cases x<;>first|(injection h with h;subst h;rfl)|cases h
def V.nilS_eq (h:x.nilS=true):x=.k (.slice none 0 0):=by
 unfold V.nilS at h;split at h;rename_i v h1;rw[V.val?_eq h1];unfold Go.M.nilS at h;split at h;rfl;cases h;cases h
def Qjf (h:isNilM x=true):x=.k (.map none):=by
 unfold isNilM at h;split at h;rename_i h1;exact V.val?_eq h1;cases h
def isNilI_eq (h:isNilI x=true):x=.k .nilIface:=by
 unfold isNilI at h;split at h;rename_i h1;exact V.val?_eq h1;cases h
end
def cv_k {ρ:Rho}{v u:Value}(h:cv ρ (.k v)=some u):u=v:=by
 unfold cv at h;split at h;injection h with h;exact h.symm
 cases h
def cv_p {ρ:Rho}{i o:Nat}{u:Value}(h:cv ρ (.p i o)=some u): ∃x,ρ i=some x/\u=.pointer (some ⟨x.b,x.o+o,none⟩):=by
 unfold cv at h;split at h;rename_i x hx;injection h with h;exact⟨x,hx,h.symm⟩
 cases h
def Qhz {ρ:Rho}{i o:Nat}{x:Pl}(h:ρ i=some x):cv ρ (.p i o)=some (.pointer (some ⟨x.b,x.o+o,none⟩)):=by unfold cv;rw[h]
def cv_s {ρ:Rho}{i o n:Nat}{c:Cap}{u:Value}(h:cv ρ (.s i o n c)=some u): ∃x,ρ i=some x/\slOk x o n c=true/\u=.slice (some ⟨x.b,x.o+o,none⟩) n (capN x c):=by
 unfold cv at h;split at h;rename_i x hx;split at h;rename_i h2;injection h with h;exact⟨x,hx,h2,h.symm⟩
 cases h;cases h
def Qbm {ρ:Rho}{i o n:Nat}{c:Cap}{x:Pl}(h:ρ i=some x)(h2:slOk x o n c=true):cv ρ (.s i o n c)=some (.slice (some ⟨x.b,x.o+o,none⟩) n (capN x c)):=by unfold cv;rw[h];simp only[h2,Xo]
def cv_m {ρ:Rho}{i:Nat}{u:Value}(h:cv ρ (.m i)=some u): ∃x,ρ i=some x/\u=.map (some x.b):=by
 unfold cv at h;split at h;rename_i x hx;injection h with h;exact⟨x,hx,h.symm⟩
 cases h
def cv_g {ρ:Rho}{l:List V}{u:Value}(h:cv ρ (.g l)=some u): ∃vs,cvc ρ l=some vs/\u=.agg vs.toArray:=by
 unfold cv at h;split at h;rename_i x hx;injection h with h;exact⟨x,hx,h.symm⟩
 cases h
def Qfg {ρ:Rho}{l:List V}{vs:QL}(h:cvc ρ l=some vs):cv ρ (.g l)=some (.agg vs.toArray):=by unfold cv;rw[h]
def cv_t {ρ:Rho}{l:List V}{u:Value}(h:cv ρ (.t l)=some u): ∃vs,cvl ρ l=some vs/\u=.tuple vs.toArray:=by
 unfold cv at h;split at h;rename_i x hx;injection h with h;exact⟨x,hx,h.symm⟩
 cases h
def cv_t_mk {ρ:Rho}{l:List V}{vs:QL}(h:cvl ρ l=some vs):cv ρ (.t l)=some (.tuple vs.toArray):=by unfold cv;rw[h]
def cv_i {ρ:Rho}{T:QQ}{v:V}{u:Value}(h:cv ρ (.i T v)=some u): ∃w,cv ρ v=some w/\u=.iface T w:=by
 unfold cv at h;split at h;rename_i x hx;injection h with h;exact⟨x,hx,h.symm⟩
 cases h
def cv_i_mk {ρ:Rho}{T:QQ}{v:V}{w:Value}(h:cv ρ v=some w):cv ρ (.i T v)=some (.iface T w):=by unfold cv;rw[h]
def cv_f {ρ:Rho}{fn:FuncId}{xs ys:List V}{u:Value}(h:cv ρ (.f fn xs ys)=some u): ∃a b,cvl ρ xs=some a/\cvl ρ ys=some b/\u=.func (.func fn) a.toArray b.toArray:=by
 unfold cv at h;split at h;rename_i a b h1 h2;injection h with h;exact⟨a,b,h1,h2,h.symm⟩
 cases h
def Qfj {ρ:Rho}{fn:FuncId}{xs ys:List V}{a b:QL}(h1:cvl ρ xs=some a)(h2:cvl ρ ys=some b):cv ρ (.f fn xs ys)=some (.func (.func fn) a.toArray b.toArray):=by unfold cv;rw[h1,h2]
def cv_y {ρ:Rho}{i:Nat}{u:Value}(h:cv ρ (.y i)=some u): ∃x,ρ i=some x/\u=.func (.yield x.b) #[] #[]:=by
 unfold cv at h;split at h;rename_i x hx;injection h with h;exact⟨x,hx,h.symm⟩
 cases h
def cv_q {ρ:Rho}{i:Nat}{u:Value}(h:cv ρ (.q i)=some u): ∃x,ρ i=some x/\u=.pointer (some ⟨x.b,0,none⟩):=by
 unfold cv at h;split at h;rename_i x hx;injection h with h;exact⟨x,hx,h.symm⟩
 cases h
def cv_w {ρ:Rho}{i:Nat}{u:Value}(h:cv ρ (.w i)=some u): ∃x,ρ i=some x/\u=.int .i64 (x.b:Int):=by
 unfold cv at h;split at h;rename_i x hx;injection h with h;exact⟨x,hx,h.symm⟩
 cases h
def cv_gl {ρ:Rho}{g o:Nat}{u:Value}(h:cv ρ (.gl g o)=some u):u=.pointer (some ⟨g,o,none⟩):=by unfold cv at h;injection h with h;exact h.symm
def cv_gl_mk {ρ:Rho}{g o:Nat}:cv ρ (.gl g o)=some (.pointer (some ⟨g,o,none⟩)):=by unfold cv;rfl
def Qaz {ρ:Rho}(b:Bool):cv ρ (bo b)=some (.bool b):=by unfold bo cv;rfl
def Qki {ρ:Rho}(k:IntKind)(n:Int):cv ρ (.k (.int k n))=some (.int k n):=by unfold cv;rfl
def cv_nt {ρ:Rho}(n:Nat):cv ρ (nt n)=some (.int .i64 (n:Int)):=by unfold nt cv;rfl
def cv_str {ρ:Rho}(s:ByteArray):cv ρ (.k (.string s))=some (.string s):=by unfold cv;rfl
def Qhh {ρ:Rho}{x:V}{v:Value}(E:tupV x=false)(h:cv ρ x=some v): ∃vs,cvc ρ x.cells=some vs/\v.cells=vs.toArray:=by
 cases x with
 |g l=>obtain⟨vs,h1,rfl⟩:=cv_g h;exact⟨vs,h1,rfl⟩
 |t l=>cases E
 |_=>
  refine⟨[v],Qjz rfl h (by unfold cvc;rfl),?_⟩;have h2:v.oneCell'=true:=cvc_one (Qjz (ρ:=ρ) rfl h (show cvc ρ []=some [] by unfold cvc;rfl)) v (Qq.2 rfl);cases v<;>first|rfl|cases h2
def cvc_k {ρ:Rho}: ∀{l:QL},l.all Qjm=true->cvc ρ (l.map .k)=some l
 | [],_=>by unfold cvc;rfl
 |v::r,h=>by
  simp only[X7,Qd]at h;exact Qjz rfl (by unfold cv;rw[Qc h.1]) (cvc_k h.2)
def o_dX {ρ:Rho}{v:Value}{x:V}(h:ofV v=some x):cv ρ x=some v:=by
 unfold ofV at h;cases v with
 |agg cs=>
  cases hp:cs.toList.all Qjm with
  |false=>simp only[hp,cond_false]at h;cases h
  |true=>
   simp only[hp,cond_true,Qg]at h;subst h;exact Qfg (cvc_k hp)
 |tuple cs=>cases h
 |_=>injection h with h;subst h;unfold cv;rfl
section
variable {P:QR}{C:Cx}{ρ:Rho}{e:Env}{n:Nat}{a:Act}
def o_b (E:Fe ρ e n a){x:Operand}{v:V}(h:opd e x=some v): ∃u,cv ρ v=some u/\a.eval x=u:=by
 cases x with
 |tmp t=>
  obtain⟨u,h1,h2⟩:=E.get t v h;exact⟨u,h1,by simp[Act.eval,Q1,h2]⟩
 |const w=>exact⟨w,o_dX h,rfl⟩
 |global g=>injection h with h;subst h;exact⟨_,cv_gl_mk,rfl⟩
 |func f=>injection h with h;subst h;exact⟨_,Qfj (by unfold cvl;rfl) (by unfold cvl;rfl),rfl⟩
def o_ai (I:Fe ρ e n a): ∀{xs:List Operand} {vs:List V},opds e xs=some vs->∃us,cvl ρ vs=some us/\xs.toArray.map a.eval=us.toArray
 | [],vs,h=>by injection h with h;subst h;exact⟨[],by unfold cvl;rfl,by simp⟩
 |x::r,vs,h=>by
  unfold opds at h;split at h;rename_i v J;split at h;rename_i ws N;injection h with h;subst h
  obtain⟨u,h1,h2⟩:=o_b I J;obtain⟨us,W,E⟩:=o_ai I N;exact⟨u::us,Qae h1 W,by
   simp only[Yg,Wc,h2]at E ⊢;rw[Jc]at E;rw[E]⟩
  cases h;cases h
def o_aZ (I:Fe ρ e n a): ∀{xs:List (Nat×Operand)} {vs:List (Nat×V)},parts e xs=some vs->∃us:QI,us.map (·.1)=vs.map (·.1)/\cvl ρ (vs.map (·.2))=some (us.map (·.2))/\xs.toArray.map (λ(i,x)=>(i,a.eval x))=us.toArray
 | [],vs,h=>by injection h with h;subst h;exact⟨[],rfl,by simp;unfold cvl;rfl,by simp⟩
 |(i,x)::r,vs,h=>by
  unfold parts at h;split at h;rename_i v J;split at h;rename_i ws N;injection h with h;subst h
  obtain⟨u,h1,h2⟩:=o_b I J;obtain⟨us,W,h4,E⟩:=o_aZ I N;exact⟨(i,u)::us,by simp[W],Qae h1 h4,by
   simp only[Yg,Wc,h2]at E ⊢;rw[Jc]at E;rw[E]⟩
  cases h;cases h
def o_v (E:OKC P C){t:QQ}{u:TypeDesc}(h:und C t=some u):P.underlying t=some u:=by
 unfold und at h;split at h;rename_i I J;injection h with h;subst h;exact(E.ty t I J).u
 cases h
def o_w (E:OKC P C){t el:QQ}(h:Qbl C t=some el):P.underlying t=some (.slice el):=by
 unfold Qbl at h;split at h;rename_i I;injection h with h;subst h;exact o_v E I
 cases h
def o_ag (I:OKC P C){t:QQ}{J:Ti}(h:Qcm C t=some J): ∃el,P.underlying t=some (.slice el)/\Qbl C t=some el/\C.ty.get el=some J:=by
 unfold Qcm at h;split at h;rename_i el E;exact⟨el,o_w I E,E,h⟩;cases h
def o_au (E:OKC P C){t n:Nat}{J:Ti}(h:arrTi C t=some (n,J)): ∃el,P.underlying t=some (.array n el)/\C.ty.get el=some J:=by
 unfold arrTi at h;split at h;rename_i m el I;split at h;rename_i K N;simp only[Qg,Qt]at h;obtain⟨rfl,rfl⟩:=h;exact⟨el,o_v E I,N⟩;cases h;cases h
def o_ac (E:OKC P C){t kt:Nat}{J:Ti}(h:Qdu C t=some (kt,J)): ∃vt,P.underlying t=some (.map kt vt)/\C.ty.get vt=some J:=by
 unfold Qdu at h;split at h;rename_i m el I;split at h;rename_i K N;simp only[Qg,Qt]at h;obtain⟨rfl,rfl⟩:=h;exact⟨el,o_v E I,N⟩;cases h;cases h
def o_u (E:OKC P C){t:QQ}(h:Qda C t=true):P.underlying t=some .string:=by
 unfold Qda at h;split at h;rename_i I;exact o_v E I;cases h
def o_cA (E:OKC P C){t:QQ}{k:IntKind}(h:intK C t=some k):P.underlying t=some (.int k):=by
 unfold intK at h;split at h;rename_i I;injection h with h;subst h;exact o_v E I
 cases h
def o_a6 (E:OKC P C){t:QQ}{i o:Nat}{J:Ti}(h:fieldAt C t i=some (o,J)): ∃fs f,P.underlying t=some (.struct fs)/\fs[i]?=some f/\f.offset=o/\C.ty.get f.type=some J:=by
 unfold fieldAt at h;split at h;rename_i fs I;split at h;rename_i f N;split at h;rename_i K W;simp only[Qg,Qt]at h;obtain⟨rfl,rfl⟩:=h;exact⟨fs,f,o_v E I,by rw[<-Wi];exact N,rfl,W⟩;cases h;cases h;cases h
def o_p (E:OKC P C){t:QQ}{J:Ti}(h:C.ty.get t=some J)(w:World):(sizeOf t).run P w=.ok J.n w:=Qaf (E.ty t J h).sz w
def o_bL (E:OKC P C){t:QQ}{J:Ti}(h:C.ty.get t=some J)(w:World):(isAgg t).run P w=.ok J.ag w:=Qce (E.ty t J h).ag w
def o_ae (I:OKC P C){t:QQ}{J:Ti}(N:C.ty.get t=some J){xs:List V}{vs:QL}{o:Nat}{v:V}(hx:cvc ρ xs=some vs)(h:cut J.ag J.n o xs=some v):
  ∃u,cv ρ v=some u/\(∀w,(part t vs.toArray o).run P w=.ok u w)/\(match J.ag with|true=>u=.agg ((vs.drop o).take J.n).toArray/\((vs.drop o).take J.n).length=J.n|false=>vs[o]?=some u):=by
 unfold cut at h;cases E:J.ag with
 |true=>
  rw[E,cond_true]at h;cases W:Nat.beq ((xs.drop o).take J.n).length J.n with
  |false=>rw[W]at h;cases h
  |true=>
   rw[W,cond_true]at h;injection h with h;subst h
   have h1:=Qbb J.n (Qbc o hx);have hl:((vs.drop o).take J.n).length=J.n:=by rw[Qai h1];exact Qk W
   refine⟨_,Qfg h1,λw=>?_,rfl,hl⟩;rw[part_agg (zs:=((vs.drop o).take J.n).toArray) w (λw=>by rw[o_bL I N,E]) (o_p I N) (by apply Yf.1;simp[Ju,Nat.add_sub_cancel_left])]
 |false=>
  rw[E,cond_false]at h;obtain⟨u,h1,h2,_⟩:=cvc_get hx h;exact⟨u,h2,λw=>part_one w (λw=>by rw[o_bL I N,E]) (by simpa using h1),h1⟩
def inr_wrap {k:IntKind}{m:Int}(h:inr k m=true):k.wrap m=m:=by
 have key: ∀{m b:Nat},Nat.blt m b=true->m<b:=λh=>Qm h;cases k<;>cases m<;>first|(cases h;done)|(have h1:=key h;unfold IntKind.wrap IntKind.bits IntKind.signed;simp only[Xj,Jf,Qy,Q3,Wd,Int.ofNat_eq_natCast];(try split)<;>omega)
def wr_eq (k:IntKind)(m:Int):wr k m=k.wrap m:=by
 unfold wr;cases h:inr k m with
 |true=>rw[cond_true,inr_wrap h]
 |false=>rfl
end
section
variable {P:QR}{C:Cx}{ρ:Rho}{e:Env}{n:Nat}{a:Act}
def o_cB (I:OKC P C){d k:Nat}{rec:QQ->V->V->Option Bool}(hrec: ∀t x y b u v,rec t x y=some b->cv ρ x=some u->cv ρ y=some v->EqV P (d+k) t u v b){xs ys:List V}{us vs:QL}(hx:cvc ρ xs=some us)(hy:cvc ρ ys=some vs):
  ∀{fs:List Field} {b:Bool},eqFw C rec xs ys fs=some b->EqF P (d+k) us.toArray vs.toArray fs b
 | [],b,h=>by injection h with h;subst h;exact eqf_nil
 |f::r,b,h=>by
  unfold eqFw at h;split at h;cases h;rename_i J hJ;split at h;rename_i p q hp hq;cases N:f.name== "_" with
  |true=>rw[N]at h;cases h
  |false=>
   rw[N,cond_false]at h;obtain⟨u,h1,h2,_⟩:=o_ae I hJ hx hp;obtain⟨v,h3,h4,_⟩:=o_ae I hJ hy hq;have E:(f.name != "_")=true:=by simp[bne,N]
   split at h;rename_i W;have:=eqf_cons E h2 h4 (hrec _ _ _ _ _ _ W h1 h3) (o_cB I hrec hx hy h);simpa using this;rename_i W;injection h with h;subst h
   intro w;have he:=hrec _ _ _ _ _ _ W h1 h3 w;have hn':f.name≠ "_" :=by simpa using E
   simp[Op.eqFields,hn',h2,h4,he];cases h
  cases h
def o_cC (E:OKC P C){d k:Nat}{el:QQ}{J:Ti}(I:C.ty.get el=some J){rec:V->V->Option Bool}(hrec: ∀x y b u v,rec x y=some b->cv ρ x=some u->cv ρ y=some v->EqV P (d+k) el u v b){xs ys:List V}{us vs:QL}(hx:cvc ρ xs=some us)(W:cvc ρ ys=some vs):
  ∀{m i:Nat} {b:Bool},eqIw rec J.n J.ag xs ys m i=some b->EqI P (d+k) el J.n us.toArray vs.toArray (List.range' i m) b
 |0,i,b,h=>by injection h with h;subst h;exact eqi_nil
 |m+1,i,b,h=>by
  unfold eqIw at h;rw[List.range'_succ];split at h;rename_i p q hp hq;obtain⟨u,h1,h2,_⟩:=o_ae E I hx hp;obtain⟨v,h3,h4,_⟩:=o_ae E I W hq;split at h;rename_i N;have:=eqi_cons h2 h4 (hrec _ _ _ _ _ N h1 h3) (o_cC E I hrec hx W h);simpa using this;rename_i N;injection h with h;subst h
  intro w;have he:=hrec _ _ _ _ _ N h1 h3 w;simp[Op.eqItems,h2,h4,he];cases h;cases h
def eqN_cases {x y:Option Bool}{b:Bool}(h:eqN x y=some b):(x=some true/\y=some b)\/(x=some false/\y=some true/\b=false):=by
 unfold eqN at h;split at h;exact .inl ⟨rfl,h⟩;split at h;injection h with h;exact .inr ⟨rfl,rfl,h.symm⟩
 cases h;cases h
def o_a7 {x:V}{b:Bool}{u:Value}(h:nzP x=some b)(E:cv ρ x=some u):(b=true/\u=.pointer none)\/(b=false/\∃ad,u=.pointer (some ad)):=by
 unfold nzP at h;split at h;injection h with h;obtain⟨y,_,rfl⟩:=cv_p E;exact .inr ⟨h.symm,_,rfl⟩
 injection h with h;exact .inr ⟨h.symm,_,cv_gl E⟩
 rename_i v;rw[cv_k E];unfold kP at h;split at h;injection h with h;exact .inl ⟨h.symm,rfl⟩
 cases h;cases h
def o_a8 {x:V}{b:Bool}{u:Value}(h:nzS x=some b)(E:cv ρ x=some u):(b=true/\∃p q,u=.slice none p q)\/(b=false/\∃ad p q,u=.slice (some ad) p q):=by
 unfold nzS at h;split at h;injection h with h;obtain⟨y,_,_,rfl⟩:=cv_s E;exact .inr ⟨h.symm,_,_,_,rfl⟩
 rename_i v;rw[cv_k E];unfold kS at h;split at h;injection h with h;exact .inl ⟨h.symm,_,_,rfl⟩
 cases h;cases h
def o_a9 {x:V}{b:Bool}{u:Value}(h:nzM x=some b)(E:cv ρ x=some u):(b=true/\u=.map none)\/(b=false/\∃ad,u=.map (some ad)):=by
 unfold nzM at h;split at h;injection h with h;obtain⟨y,_,rfl⟩:=cv_m E;exact .inr ⟨h.symm,_,rfl⟩
 rename_i v;rw[cv_k E];unfold kM at h;split at h;injection h with h;exact .inl ⟨h.symm,rfl⟩
 cases h;cases h
def o_ba {x:V}{b:Bool}{u:Value}(h:nzF x=some b)(E:cv ρ x=some u):(b=true/\u=.nilFunc)\/(b=false/\∃p q r,u=.func p q r):=by
 unfold nzF at h;split at h;injection h with h;obtain⟨_,_,_,_,rfl⟩:=cv_f E;exact .inr ⟨h.symm,_,_,_,rfl⟩
 injection h with h;obtain⟨y,_,rfl⟩:=cv_y E;exact .inr ⟨h.symm,_,_,_,rfl⟩
 rename_i v;rw[cv_k E];unfold kF at h;split at h;injection h with h;exact .inl ⟨h.symm,rfl⟩
 cases h;cases h
def o_bb {x:V}{b:Bool}{u:Value}(h:nzI x=some b)(E:cv ρ x=some u):(b=true/\u=.nilIface)\/(b=false/\∃p q,u=.iface p q):=by
 unfold nzI at h;split at h;injection h with h;obtain⟨_,_,rfl⟩:=cv_i E;exact .inr ⟨h.symm,_,_,rfl⟩
 rename_i v;rw[cv_k E];unfold kI at h;split at h;injection h with h;exact .inl ⟨h.symm,rfl⟩
 cases h;cases h
def o_c9 {x y:V}{b:Bool}(h:eqInt x y=some b): ∃k p q,x=.k (.int k p)/\y=.k (.int k q)/\b=decide (p=q):=by
 unfold eqInt at h;split at h;rename_i k p hx;split at h;rename_i E q I;cases hk:decide (k=E)with
 |false=>rw[hk]at h;cases h
 |true=>
  rw[hk,cond_true]at h;injection h with h
  have:=Q7 hk;subst this;exact⟨k,p,q,V.int?_eq hx,V.int?_eq I,h.symm⟩
 cases h;cases h
def o_aH (hC:OKC P C): ∀(d k:Nat) (t:QQ) (x y:V) (b:Bool) (u v:Value),eqV C d t x y=some b->cv ρ x=some u->cv ρ y=some v->EqV P (d+k) t u v b
 |0,k,t,x,y,b,u,v,h,_,_=>by cases h
 |d+1,k,t,x,y,b,u,v,h,W,hv=>by
  have ih:=o_aH hC d k;rw[show d+1+k=(d+k)+1 by omega];have h':(match und C t with
   |none=>none
   |some u=>match u with
    | .int _=>eqInt x y
    | .bool=>eqBool x y
    | .string=>eqStr x y
    | .pointer _=>eqN (nzP x) (nzP y)
    | .slice _=>eqN (nzS x) (nzS y)
    | .map _ _=>eqN (nzM x) (nzM y)
    | .func _ _ _=>eqN (nzF x) (nzF y)
    | .interface _=>eqN (nzI x) (nzI y)
    | .struct fs=>bif eqOk C t then eqAgg C (eqV C d) x y fs.toList else none
    | .array n e=>eqArr C (eqV C d) x y n e
    |_=>none)=some b:=h
  split at h';cases h';rename_i tu htu;have E:=o_v hC htu;split at h';obtain⟨kk,p,q,rfl,rfl,rfl⟩:=o_c9 h';rw[cv_k W,cv_k hv];exact eq_int E;unfold eqBool at h';split at h';rename_i p hp;split at h';rename_i q hq;injection h' with h';subst h'
  rw[V.bool?_eq hp]at W;rw[V.bool?_eq hq]at hv;rw[cv_k W,cv_k hv];exact eq_bool E;cases h';cases h';unfold eqStr at h';split at h';rename_i p hp;split at h';rename_i q hq;injection h' with h';subst h'
  rw[V.str?_eq hp]at W;rw[V.str?_eq hq]at hv;rw[cv_k W,cv_k hv];exact eq_str E;cases h';cases h';intro w;rcases eqN_cases h' with⟨h1,h2⟩|⟨h1,h2,rfl⟩
  rcases o_a7 h1 W with⟨_,rfl⟩|⟨N,_⟩
  rcases o_a7 h2 hv with⟨rfl,rfl⟩|⟨rfl,ad,rfl⟩<;>simp[Op.equalIn,Ql E]
  cases N;rcases o_a7 h1 W with⟨N,_⟩|⟨_,ad,rfl⟩
  cases N;rcases o_a7 h2 hv with⟨_,rfl⟩|⟨N,_⟩
  simp[Op.equalIn,Ql E];cases N;intro w;rcases eqN_cases h' with⟨h1,h2⟩|⟨h1,h2,rfl⟩
  rcases o_a8 h1 W with⟨_,p,q,rfl⟩|⟨N,_⟩
  rcases o_a8 h2 hv with⟨rfl,p2,q2,rfl⟩|⟨rfl,ad,p2,q2,rfl⟩<;>simp[Op.equalIn,Ql E]
  cases N;rcases o_a8 h1 W with⟨N,_⟩|⟨_,ad,p,q,rfl⟩
  cases N;rcases o_a8 h2 hv with⟨_,p2,q2,rfl⟩|⟨N,_⟩
  simp[Op.equalIn,Ql E];cases N;intro w;rcases eqN_cases h' with⟨h1,h2⟩|⟨h1,h2,rfl⟩
  rcases o_a9 h1 W with⟨_,rfl⟩|⟨N,_⟩
  rcases o_a9 h2 hv with⟨rfl,rfl⟩|⟨rfl,ad,rfl⟩<;>simp[Op.equalIn,Ql E]
  cases N;rcases o_a9 h1 W with⟨N,_⟩|⟨_,ad,rfl⟩
  cases N;rcases o_a9 h2 hv with⟨_,rfl⟩|⟨N,_⟩
  simp[Op.equalIn,Ql E];cases N;intro w;rcases eqN_cases h' with⟨h1,h2⟩|⟨h1,h2,rfl⟩
  rcases o_ba h1 W with⟨_,rfl⟩|⟨N,_⟩
  rcases o_ba h2 hv with⟨rfl,rfl⟩|⟨rfl,p,q,r,rfl⟩<;>simp[Op.equalIn,Ql E]
  cases N;rcases o_ba h1 W with⟨N,_⟩|⟨_,p,q,r,rfl⟩
  cases N;rcases o_ba h2 hv with⟨_,rfl⟩|⟨N,_⟩
  simp[Op.equalIn,Ql E];cases N;intro w;rcases eqN_cases h' with⟨h1,h2⟩|⟨h1,h2,rfl⟩
  rcases o_bb h1 W with⟨_,rfl⟩|⟨N,_⟩
  rcases o_bb h2 hv with⟨rfl,rfl⟩|⟨rfl,p,q,rfl⟩<;>simp[Op.equalIn,Ql E]
  cases N;rcases o_bb h1 W with⟨N,_⟩|⟨_,p,q,rfl⟩
  cases N;rcases o_bb h2 hv with⟨_,rfl⟩|⟨N,_⟩
  simp[Op.equalIn,Ql E];cases N;rename_i fs;cases he:eqOk C t with
  |false=>rw[he]at h';cases h'
  |true=>
   rw[he,cond_true]at h';have hs:P.stoodInHeld t=false:=by
    unfold eqOk at he;split at he;rename_i I hI;exact((hC.ty t I hI).e he).1;cases he
   unfold eqAgg at h';split at h';rename_i xs hx;split at h';rename_i ys hy;rw[V.agg?_eq hx]at W;rw[V.agg?_eq hy]at hv;obtain⟨us,h1,rfl⟩:=cv_g W;obtain⟨vs,h2,rfl⟩:=cv_g hv;exact eq_struct (fs:=fs.toList) (by simpa using E) hs (o_cB hC (λt x y b u v h h1 h2=>ih t x y b u v h h1 h2) h1 h2 h');cases h';cases h'
  rename_i m el;unfold eqArr at h';split at h';rename_i xs hx;split at h';rename_i ys hy;split at h';rename_i J hJ;rw[V.agg?_eq hx]at W;rw[V.agg?_eq hy]at hv;obtain⟨us,h1,rfl⟩:=cv_g W;obtain⟨vs,h2,rfl⟩:=cv_g hv;obtain⟨i,z,hi,_,_,_,_,_,_,hn,_⟩:=(hC.ty el J hJ).info;exact eq_array (c:=J.n) (i:=i) (is:=List.range' 0 m) E hi (by simp[Program.cellsOf,hi,hn]) (by rw[List.range_eq_range']) (o_cC hC hJ (λx y b u v h h1 h2=>ih el x y b u v h h1 h2) h1 h2 h');cases h';cases h';cases h';cases h'
end
def Ex (P:QR)(a:Act)(w:World)(o:Op)(u:Value):Prop:=∀(dst:Option Tmp) (T:QQ) (pos:String) (af:Array Edge) (gd:Option (Nat×Bool)),(execOp a.eval ⟨dst,o,T,pos,af,gd⟩).run P w=.ok (.value u) w
section
variable {P:QR}{C:Cx}{ρ:Rho}{e:Env}{n:Nat}{a:Act}{w:World}
def o_x {k:IntKind}{m:Int}{v:V}(h:wrv k m=some v):cv ρ v=some (.int k (k.wrap m)):=by
 injection h with h;subst h;rw[wr_eq];exact Qki _ _
def bits_and {t ty:QQ}{x y:Operand}{k:IntKind}{p q:Int}(hx:a.eval x=.int k p)(E:a.eval y=.int k q):Ex P a w (.binOp .and t x y ty) (.int k (k.wrap (Int.ofNat (BitVec.ofInt k.bits p&&& BitVec.ofInt k.bits q).toNat))):=λ_ _ _ _ _=>by
 have e:binOp .and t (.int k p) (.int k q)=(pure (.int k (k.wrap (Int.ofNat (BitVec.ofInt k.bits p&&& BitVec.ofInt k.bits q).toNat))):Sem Value):=by
  show(if k≠k then _ else Op.intBits .and k p q)=_;rw[Qb (λh=>h rfl)];rfl
 have g:eqGuard .and t x y (.int k p) (.int k q)=pure ():=rfl;simp only[execOp,hx,E,e,g,Qp,Qs,Qi]
def bits_or {t ty:QQ}{x y:Operand}{k:IntKind}{p q:Int}(hx:a.eval x=.int k p)(E:a.eval y=.int k q):Ex P a w (.binOp .or t x y ty) (.int k (k.wrap (Int.ofNat (BitVec.ofInt k.bits p|||BitVec.ofInt k.bits q).toNat))):=λ_ _ _ _ _=>by
 have e:binOp .or t (.int k p) (.int k q)=(pure (.int k (k.wrap (Int.ofNat (BitVec.ofInt k.bits p|||BitVec.ofInt k.bits q).toNat))):Sem Value):=by
  show(if k≠k then _ else Op.intBits .or k p q)=_;rw[Qb (λh=>h rfl)];rfl
 have g:eqGuard .or t x y (.int k p) (.int k q)=pure ():=rfl;simp only[execOp,hx,E,e,g,Qp,Qs,Qi]
def bits_xor {t ty:QQ}{x y:Operand}{k:IntKind}{p q:Int}(hx:a.eval x=.int k p)(E:a.eval y=.int k q):Ex P a w (.binOp .xor t x y ty) (.int k (k.wrap (Int.ofNat (BitVec.ofInt k.bits p^^^BitVec.ofInt k.bits q).toNat))):=λ_ _ _ _ _=>by
 have e:binOp .xor t (.int k p) (.int k q)=(pure (.int k (k.wrap (Int.ofNat (BitVec.ofInt k.bits p^^^BitVec.ofInt k.bits q).toNat))):Sem Value):=by
  show(if k≠k then _ else Op.intBits .xor k p q)=_;rw[Qb (λh=>h rfl)];rfl
 have g:eqGuard .xor t x y (.int k p) (.int k q)=pure ():=rfl;simp only[execOp,hx,E,e,g,Qp,Qs,Qi]
def o_dA {op:BinOp}{t ty:QQ}{x y:Operand}{k J:IntKind}{p q:Int}{v:V}(hx:a.eval x=.int k p)(E:a.eval y=.int J q)(h:binI op k p J q=some v): ∃u,cv ρ v=some u/\Ex P a w (.binOp op t x y ty) u:=by
 unfold binI at h;split at h;unfold qshr at h;cases I:decide (k=.u64)&&(decide (0<=q)&&decide (q<=64))with
 |false=>rw[I]at h;cases h
 |true=>
  rw[I,cond_true]at h;rw[Qd,Qd,Xp,Xp,Xp]at I;obtain⟨rfl,h2,N⟩:=I;injection h with h1;subst h1
  exact⟨_,Qki _ _,λ_ _ _ _ _=>r_shr hx E h2 N⟩
 cases hk:decide (k=J)with
 |false=>rw[hk]at h;cases h
 |true=>
  rw[hk,cond_true]at h;have:=Q7 hk;subst this;unfold qi at h;split at h;exact⟨_,o_x h,λ_ _ _ _ _=>r_add hx E⟩;exact⟨_,o_x h,λ_ _ _ _ _=>r_sub hx E⟩;exact⟨_,o_x h,λ_ _ _ _ _=>r_mul hx E⟩;injection h with h;subst h;exact⟨_,Qaz _,λ_ _ _ _ _=>r_lss hx E⟩
  injection h with h;subst h;exact⟨_,Qaz _,λ_ _ _ _ _=>r_leq hx E⟩
  injection h with h;subst h;exact⟨_,Qaz _,λ_ _ _ _ _=>by rw[r_gtr hx E]⟩
  injection h with h;subst h;exact⟨_,Qaz _,λ_ _ _ _ _=>by rw[r_geq hx E]⟩
  injection h with h;subst h;exact⟨_,Qaz _,λ_ _ _ _ _=>r_eql hx E⟩
  injection h with h;subst h;exact⟨_,Qaz _,λ_ _ _ _ _=>by rw[r_neq hx E];simp⟩
  unfold qquo at h;cases h0:decide (q=0)with
  |true=>rw[h0]at h;cases h
  |false=>rw[h0,cond_false]at h;exact⟨_,o_x h,λ_ _ _ _ _=>r_quo hx E (of_decide_eq_false h0)⟩
  unfold qrem at h;cases h0:decide (q=0)with
  |true=>rw[h0]at h;cases h
  |false=>rw[h0,cond_false]at h;injection h with h;subst h;exact⟨_,Qki _ _,λ_ _ _ _ _=>r_rem hx E (of_decide_eq_false h0)⟩
  exact⟨_,o_x h,bits_and hx E⟩;exact⟨_,o_x h,bits_or hx E⟩;exact⟨_,o_x h,bits_xor hx E⟩;cases h
def o_ed {op:BinOp}{t ty:QQ}{x y:Operand}{p q:ByteArray}{v:V}(hx:a.eval x=.string p)(E:a.eval y=.string q)(h:qs p q op=some v): ∃u,cv ρ v=some u/\Ex P a w (.binOp op t x y ty) u:=by
 unfold qs at h;split at h;injection h with h;subst h;exact⟨_,Qaz _,λ_ _ _ _ _=>r_eqs hx E⟩
 injection h with h;subst h;exact⟨_,Qaz _,λ_ _ _ _ _=>r_nes hx E⟩
 injection h with h;subst h;exact⟨_,Qaz _,λ_ _ _ _ _=>Qkb hx E⟩
 injection h with h;subst h;exact⟨_,Qaz _,λ_ _ _ _ _=>Qit hx E⟩
 cases h
def o_dB {x:V}{u:Value}(h:okEq x=true)(E:cv ρ x=some u):okK u=true:=by
 cases x with
 |k v=>rw[cv_k E];exact h
 |p i o=>obtain⟨_,_,rfl⟩:=cv_p E;rfl
 |s i o n c=>obtain⟨_,_,_,rfl⟩:=cv_s E;rfl
 |m i=>obtain⟨_,_,rfl⟩:=cv_m E;rfl
 |f fn a b=>obtain⟨_,_,_,_,rfl⟩:=cv_f E;rfl
 |y i=>obtain⟨_,_,rfl⟩:=cv_y E;rfl
 |q i=>obtain⟨_,_,rfl⟩:=cv_q E;rfl
 |w i=>cases h
 |gl g o=>rw[cv_gl E];rfl
 |g l=>obtain⟨_,_,rfl⟩:=cv_g E;rfl
 |t l=>cases h
 |i T v=>obtain⟨_,_,rfl⟩:=cv_i E;rfl
def binOp_eql' {t:QQ}{u v:Value}(E:okK u=true):binOp .eql t u v=(do pure (.bool (<-Op.equal t u v)):Sem Value):=by
 cases u<;>first|(cases E;done)|(cases v<;>rfl)
def binOp_neq' {t:QQ}{u v:Value}(E:okK u=true):binOp .neq t u v=(do pure (.bool (!(<-Op.equal t u v))):Sem Value):=by
 cases u<;>first|(cases E;done)|(cases v<;>rfl)
def guard_pass {op:BinOp}{t:QQ}{x y:Operand}{u v:Value}(h1: ∀a b,u=.agg a->v=.agg b->P.eqGuardType P.depth t=false)(h2:u=.nilIface->v=.nilIface->(isC x||isC y)=true):
  (eqGuard op t x y u v).run P w=.ok () w:=by
 cases u with
 |agg a=>cases v with
  |agg b=>exact run_eqGuard_agg w op t x y a b (h1 a b rfl rfl)
  |_=>cases op<;>rfl
 |nilIface=>cases v with
  |nilIface=>
   have:=h2 rfl rfl;cases x with
   |const c=>cases op<;>rfl
   |_=>cases y with
    |const c=>cases op<;>rfl
    |_=>cases this
  |_=>cases op<;>rfl
 |_=>cases op<;>rfl
def eq_agg_ag {d:Nat}{t:QQ}{p q:Array Value}{b:Bool}(h:EqV P (d+1) t (.agg p) (.agg q) b):aggB P t=some true:=by
 have h:=h default;unfold aggB;cases E:P.underlying t with
 |none=>simp[Op.equalIn,underlying,E,stuck]at h
 |some u=>cases u<;>simp[Op.equalIn,Ql E,stuck]at h ⊢
def eq_nilI {d:Nat}{t:QQ}{b:Bool}(h:EqV P (d+1) t .nilIface .nilIface b): ∃ms,P.underlying t=some (.interface ms):=by
 have h:=h default;cases E:P.underlying t with
 |none=>simp[Op.equalIn,underlying,E,stuck]at h
 |some u=>cases u<;>simp[Op.equalIn,Ql E,stuck]at h ⊢
def o_dY (hC:OKC P C){op:BinOp}{t ty:QQ}{x y:Operand}{p q v:V}{N W:Value}(hp:cv ρ p=some N)(hq:cv ρ q=some W)(hx:a.eval x=N)(hy:a.eval y=W)(hk:okEq p=true)(hc:cmpOk C op t x y=true)(h:pEq C t p q op=some v):
  ∃u,cv ρ v=some u/\Ex P a w (.binOp op t x y ty) u:=by
 have hk1:=o_dB hk hp;have hg:isEq op=true->∀b,eqV C 20 t p q=some b->(eqGuard op t x y N W).run P w=.ok () w:=λhe b hb=>by
  have hE:EqV P (19+1) t N W b:=o_aH hC 20 0 t p q b _ _ hb hp hq;unfold cmpOk at hc;rw[he,cond_true]at hc;split at hc;rename_i I hI;have E:=(hC.ty t I hI).ag;refine guard_pass (λb1 b2 e1 e2=>?_) (λe1 e2=>?_);subst e1;subst e2;rw[eq_agg_ag hE]at E;injection E with E
  rw[<-E,cond_true]at hc;exact((hC.ty t I hI).e hc).2;subst e1;subst e2;obtain⟨ms,hu⟩:=eq_nilI hE;have hab2:aggB P t=some false:=by unfold aggB;rw[hu]
  rw[hab2]at E;injection E with E
  have J:=(hC.ty t I hI).u;rw[hu]at J;injection J with J
  have hif:isIf C t=true:=by unfold isIf und;rw[hI];simp only[];rw[<-J]
  rw[<-E,cond_false,hif,cond_true]at hc;exact hc;cases hc
 unfold pEq at h;split at h;split at h;rename_i b hb;injection h with h;subst h
 have hE:=o_aH hC 20 9980 t p q b _ _ hb hp hq w;refine⟨_,Qaz _,λdst T pos af gd=>?_⟩;simp only[execOp,hx,hy,Qp,hg rfl b hb,Qi,binOp_eql' hk1,show Op.equal t N W=Op.equalIn (20+9980) t N W from rfl,hE,Qs];cases h;split at h;rename_i b hb;injection h with h;subst h
 have hE:=o_aH hC 20 9980 t p q b _ _ hb hp hq w;refine⟨_,Qaz _,λdst T pos af gd=>?_⟩;simp only[execOp,hx,hy,Qp,hg rfl b hb,Qi,binOp_neq' hk1,show Op.equal t N W=Op.equalIn (20+9980) t N W from rfl,hE,Qs];cases h;cases h
def o_dC (hC:OKC P C)(W:Fe ρ e n a){op:BinOp}{t ty:QQ}{x y:Operand}{v:V}(h:pBin C e op t x y=some v): ∃u,cv ρ v=some u/\Ex P a w (.binOp op t x y ty) u:=by
 unfold pBin at h;split at h;rename_i p hp;split at h;rename_i q hq;obtain⟨u1,E,hx⟩:=o_b W hp;obtain⟨u2,I,J⟩:=o_b W hq;cases N:cmpOk C op t x y with
 |false=>rw[N]at h;cases h
 |true=>
  rw[N,cond_true]at h;unfold bin at h;split at h;rename_i k1 m1 h1;split at h;rename_i k2 m2 h2;rw[V.int?_eq h1]at E;rw[V.int?_eq h2]at I;rw[cv_k E]at hx;rw[cv_k I]at J;exact o_dA hx J h;cases h;split at h;rename_i s1 h1;split at h;rename_i s2 h2;rw[V.str?_eq h1]at E;rw[V.str?_eq h2]at I;rw[cv_k E]at hx;rw[cv_k I]at J;exact o_ed hx J h;cases h;cases hk:okEq p with
  |false=>rw[hk]at h;cases h
  |true=>rw[hk,cond_true]at h;exact o_dY hC E I hx J hk N h
 cases h;cases h
end
section
variable {P:QR}{C:Cx}{ρ:Rho}{e:Env}{n:Nat}{a:Act}{w:World}
abbrev Pk (P:QR) (ρ:Rho) (a:Act) (w:World) (o:Op) (v:V):Prop:=∃u,cv ρ v=some u/\Ex P a w o u
def o_da (E:Fe ρ e n a){c x y:Operand}{v:V}(h:pPick e c x y=some v):Pk P ρ a w (.pick c x y) v:=by
 unfold pPick at h;split at h;rename_i p hp;split at h;rename_i b N;obtain⟨W,h1,h2⟩:=o_b E hp;rw[V.bool?_eq N]at h1;rw[cv_k h1]at h2;cases b with
 |true=>
  rw[cond_true]at h;obtain⟨u,I,J⟩:=o_b E h;exact⟨u,I,λ_ _ _ _ _=>Qhb h2 J⟩
 |false=>
  rw[cond_false]at h;obtain⟨u,I,J⟩:=o_b E h;exact⟨u,I,λ_ _ _ _ _=>Qgz h2 J⟩
 cases h;cases h
def o_dZ (E:Fe ρ e n a){op:UnOp}{t:QQ}{x:Operand}{v:V}(h:pUn e op x=some v):Pk P ρ a w (.unOp op t x) v:=by
 unfold pUn at h;split at h;rename_i p hp;obtain⟨J,h1,h2⟩:=o_b E hp;split at h;split at h;rename_i b I;injection h with h;subst h
 rw[V.bool?_eq I]at h1;rw[cv_k h1]at h2;exact⟨_,Qaz _,λ_ _ _ _ _=>r_not h2⟩;cases h;split at h;rename_i k m hk;rw[V.int?_eq hk]at h1;rw[cv_k h1]at h2;refine⟨_,o_x h,λ_ _ _ _ _=>?_⟩;simp[execOp,h2,Op.unary,Op.intArith];cases h;cases h;cases h
def o_dD (I:Fe ρ e n a){x:Operand}{i:Nat}{v:V}(h:pExt e x i=some v):Pk P ρ a w (.extract x i) v:=by
 unfold pExt at h;split at h;rename_i p hp;split at h;rename_i vs E;obtain⟨u1,h1,h2⟩:=o_b I hp;rw[V.tup?_eq E]at h1;obtain⟨us,J,rfl⟩:=cv_t h1;obtain⟨u,N,W⟩:=cvl_get J h;exact⟨u,W,λ_ _ _ _ _=>r_extract h2 (by simpa using N)⟩;cases h;cases h
def o_dE (E:Fe ρ e n a){x:Operand}{v:V}(h:pNil e x=some v):Pk P ρ a w (.nilCheck x) v:=by
 unfold pNil at h;split at h;rename_i p hp;obtain⟨I,h1,h2⟩:=o_b E hp;unfold nonNil at h;split at h;injection h with h;subst h;obtain⟨y,_,rfl⟩:=cv_p h1;exact⟨_,h1,λ_ _ _ _ _=>Qdk h2⟩
 injection h with h;subst h;rw[cv_gl h1]at h2 h1;exact⟨_,h1,λ_ _ _ _ _=>Qdk h2⟩
 injection h with h;subst h;obtain⟨_,_,_,_,rfl⟩:=cv_f h1;exact⟨_,h1,λ_ _ _ _ _=>by simp[execOp,h2]⟩
 injection h with h;subst h;obtain⟨_,_,rfl⟩:=cv_y h1;exact⟨_,h1,λ_ _ _ _ _=>by simp[execOp,h2]⟩
 cases h;cases h
def o_db (J:Fe ρ e n a){fn:Fn}{xs ys:Array Operand}{v:V}(h:pFunc e fn xs.toList ys.toList=some v):Pk P ρ a w (.makeFunc fn xs ys) v:=by
 unfold pFunc at h;split at h;split at h;rename_i vs E;split at h;rename_i us I;injection h with h;subst h
 obtain⟨a1,h1,h2⟩:=o_ai J E;obtain⟨a2,N,W⟩:=o_ai J I;exact⟨_,Qfj h1 N,λ_ _ _ _ _=>Qfx (by simpa using h2) (by simpa using W)⟩;cases h;cases h;cases h
def o_dc (I:OKC P C)(N:Fe ρ e n a){s d:QQ}{x:Operand}{v:V}(h:pConv C e s d x=some v):Pk P ρ a w (.convert s d x) v:=by
 unfold pConv at h;split at h;rename_i p hp;obtain⟨u1,h1,h2⟩:=o_b N hp;split at h;rename_i k m hk;rw[V.int?_eq hk]at h1;rw[cv_k h1]at h2;split at h;rename_i ds E;split at h;rename_i k2 J;exact⟨_,o_x h,λ_ _ _ _ _=>r_conv (o_v I E) (o_cA I J) h2⟩;cases h;cases h;split at h;rename_i b W;rw[V.str?_eq W]at h1;rw[cv_k h1]at h2;cases E:Qda C s&&Qda C d with
 |false=>rw[E]at h;cases h
 |true=>
  rw[E,cond_true]at h;injection h with h;subst h
  rw[Qd]at E;refine⟨_,cv_str _,λ_ _ _ _ _=>?_⟩;simp[execOp,h2,convert,Ql (o_u I E.1),Ql (o_u I E.2)]
 cases h;cases h
def o_cD {v r:V}{k:Nat}{u:Value}(E:cv ρ v=some u)(h:offP v k=some r): ∃ad,u=.pointer (some ad)/\cv ρ r=some (.pointer (some (ad.add k))):=by
 unfold offP at h;split at h;rename_i i o hp;injection h with h;subst h
 rw[V.ptr?_eq hp]at E;obtain⟨x,hx,rfl⟩:=cv_p E;exact⟨_,rfl,by rw[Qhz hx,Wf,Xn]⟩;split at h;rename_i i o hp;injection h with h;subst h
 rw[V.gl?_eq hp]at E;rw[cv_gl E];exact⟨_,rfl,by rw[cv_gl_mk,Wf]⟩;cases h
def o_d0 (I:OKC P C)(N:Fe ρ e n a){t:QQ}{x:Operand}{i:Nat}{v:V}(h:pFa C e t x i=some v):Pk P ρ a w (.fieldAddr t x i) v:=by
 unfold pFa at h;split at h;rename_i o J W;cases h0:Nat.beq J.n 0 with
 |true=>rw[h0]at h;cases h
 |false=>
  rw[h0,cond_false]at h;split at h;rename_i p hp;obtain⟨u1,h1,h2⟩:=o_b N hp;obtain⟨fs,f,hu,E,rfl,hT⟩:=o_a6 I W;obtain⟨ad,rfl,h3⟩:=o_cD h1 h;have hpos: ∃m,J.n=m+1:=by
   cases hn:J.n with
   |zero=>rw[hn]at h0;cases h0
   |succ m=>exact⟨m,rfl⟩
  obtain⟨m,hm⟩:=hpos;exact⟨_,h3,λ_ _ _ _ _=>Qdr hu E (λw=>by rw[o_p I hT,hm]) h2⟩;cases h
 cases h
def o_dF (N:OKC P C)(W:Fe ρ e n a){t:QQ}{x:Operand}{i:Nat}{v:V}(h:pFld C e t x i=some v):Pk P ρ a w (.field t x i) v:=by
 unfold pFld at h;split at h;rename_i o J hJ;split at h;rename_i p hp;split at h;rename_i cs E;obtain⟨u1,h1,h2⟩:=o_b W hp;obtain⟨fs,f,hu,I,rfl,hT⟩:=o_a6 N hJ;rw[V.agg?_eq E]at h1;obtain⟨vs,h3,rfl⟩:=cv_g h1;obtain⟨u,h4,h5,_⟩:=o_ae N hT h3 h;refine⟨u,h4,λ_ _ _ _ _=>?_⟩;have h6:=h5 w;simp[execOp,Instr.field,Ql hu,I,h2,asAgg,h6];cases h;cases h;cases h
def o_av (E:Fe ρ e n a){x:Operand}{m:Nat}(h:natAt e x=some m): ∃k,a.eval x=.int k (m:Int):=by
 unfold natAt at h;split at h;rename_i p hp;obtain⟨I,h1,h2⟩:=o_b E hp;obtain⟨k,rfl⟩:=V.nat?_eq h;rw[cv_k h1]at h2;exact⟨k,h2⟩;cases h
def o_dG (N:OKC P C)(hf:Fe ρ e n a){t:QQ}{x i:Operand}{v:V}(h:pIxA C e t x i=some v):Pk P ρ a w (.indexAddr t x i) v:=by
 unfold pIxA at h;split at h;rename_i p hp;split at h;rename_i m hm;obtain⟨u1,h1,h2⟩:=o_b hf hp;obtain⟨k,hk⟩:=o_av hf hm;unfold ixA at h;split at h;rename_i j o l c hs;split at h;rename_i J W;cases E:Nat.blt m l with
 |false=>rw[E]at h;cases h
 |true=>
  rw[E,cond_true]at h;injection h with h;subst h
  have I:m<l:=Qm E;obtain⟨el,hu,_,hT⟩:=o_ag N W;rw[V.sl?_eq hs]at h1;obtain⟨y,hy,_,rfl⟩:=cv_s h1;refine⟨_,Qhz hy,λ_ _ _ _ _=>?_⟩;rw[r_indexAddr hu (o_p N hT) h2 hk (by omega) (by omega),Wf];simp[Xn]
 cases h;split at h;rename_i l J W;cases E:Nat.blt m l with
 |false=>rw[E]at h;cases h
 |true=>
  rw[E,cond_true]at h;have I:m<l:=Qm E;obtain⟨el,hu,hT⟩:=o_au N W;obtain⟨ad,rfl,h3⟩:=o_cD h1 h;refine⟨_,h3,λ_ _ _ _ _=>?_⟩;simp[execOp,Instr.indexAt,h2,hk,asIntOf,Ql hu,Instr.sureAddr,I,o_p N hT]
 cases h;cases h;cases h
def o_d1 (W:OKC P C)(hf:Fe ρ e n a){t:QQ}{x i:Operand}{v:V}(h:pIx C e t x i=some v):Pk P ρ a w (.index t x i) v:=by
 unfold pIx at h;split at h;rename_i p hp;split at h;rename_i m hm;obtain⟨u1,h1,h2⟩:=o_b hf hp;obtain⟨k,hk⟩:=o_av hf hm;unfold ixV at h;split at h;rename_i cs hs;split at h;rename_i l J hJ;cases N:Nat.blt m l with
 |false=>rw[N]at h;cases h
 |true=>
  rw[N,cond_true]at h;have E:m<l:=Qm N;obtain⟨el,hu,hT⟩:=o_au W hJ;rw[V.agg?_eq hs]at h1;obtain⟨vs,h3,rfl⟩:=cv_g h1;obtain⟨u,h4,h5,_⟩:=o_ae W hT h3 h;refine⟨u,h4,λ_ _ _ _ _=>?_⟩;have h6:=h5 w;simp[execOp,Instr.index,h2,hk,asIntOf,Ql hu,E,o_p W hT,h6]
 cases h;split at h;rename_i s hs;cases I:Qda C t with
 |false=>rw[I]at h;cases h
 |true=>
  rw[I,cond_true]at h;split at h;rename_i b N;injection h with h;subst h
  rw[V.str?_eq hs]at h1;rw[cv_k h1]at h2;have hsz:s.size=s.data.toList.length:=rfl;have E:m<s.size:=by rw[hsz];exact(Qe.1 N).1
  have h7:s[m]?=some b:=by
   rw[ByteArray.getElem?_lt' s m E];have h8:=(Qe.1 N).2;rw[<-h8];rfl
  refine⟨_,Qki _ _,λ_ _ _ _ _=>?_⟩;simp[execOp,Instr.index,h2,hk,asIntOf,Ql (o_u W I),h7];cases h
 cases h;cases h;cases h
def OI (a:Act)(d m:Nat)(x:Option Operand):Prop:=(x=none/\m=d)\/∃y k,x=some y/\a.eval y=.int k (m:Int)
def o_i (E:Fe ρ e n a){d m:Nat}{x:Option Operand}(h:optInt e d x=some m):OI a d m x:=by
 cases x with
 |none=>injection h with h;exact .inl ⟨rfl,h.symm⟩
 |some y=>obtain⟨k,hk⟩:=o_av E (show natAt e y=some m from h);exact .inr ⟨y,k,rfl,hk⟩
def Qbe {k:IntKind}{m y:Nat}{code:BoundsCode}(h:m<=y):(Instr.sliceBound (.int k (m:Int)) y code).run P w=.ok m w:=by
 simp[Instr.sliceBound,asIntOf,h]
def run_bounds {isS:Bool}{len cap l h m:Nat}{lo E mx:Option Operand}(h1:OI a 0 l lo)(h2:OI a len h E)(N:OI a cap m mx)(W:mx.isSome=true->E.isSome=true)(I:l<=h)(h6:h<=m)(J:m<=cap):
  (Instr.sliceBounds isS len cap (lo.map a.eval) (E.map a.eval) (mx.map a.eval)).run P w=.ok (l,h,m) w:=by
 rcases N with⟨rfl,rfl⟩|⟨y3,k3,rfl,e3⟩<;>rcases h2 with⟨rfl,rfl⟩|⟨y2,k2,rfl,e2⟩<;>rcases h1 with⟨rfl,rfl⟩|⟨y1,k1,rfl,e1⟩<;>first
  |(simp at W;done)
  |(simp[Instr.sliceBounds,Qp, *,Qbe I,Qbe h6,Qbe J];done)
  |(simp[Instr.sliceBounds,Qp,e1,e2,e3,Qbe I,Qbe h6,Qbe J];done)
def o_a0 (E:Fe ρ e n a){d:Nat}{x:Option Operand}{m:QN}(h:optMx e x=some m):OI a d (m.getD d) x/\(m=none->x=none):=by
 cases x with
 |none=>injection h with h;subst h;exact⟨.inl ⟨rfl,rfl⟩,λ_=>rfl⟩
 |some y=>
  have h':(match natAt e y with
   |some m=>some (some m)
   |none=>none)=some m:=h
  split at h';rename_i q hq;injection h' with h';subst h';obtain⟨k,hk⟩:=o_av E hq;exact⟨.inr ⟨y,k,rfl,hk⟩,λh=>by cases h⟩
  cases h'
def Qap {α:Type}{b:Bool}{x:Option α}{v:α}(h:(bif b then none else x)=some v):b=false/\x=some v:=by cases b<;>first|(cases h;done)|exact⟨rfl,h⟩
def Qaa {α:Type}{b:Bool}{x:Option α}{v:α}(h:(bif b then x else none)=some v):b=true/\x=some v:=by cases b<;>first|(cases h;done)|exact⟨rfl,h⟩
def hiMx {E mx:Option Operand}(h:(mx.isSome&&E.isNone)=false):mx.isSome=true->E.isSome=true:=λI=>by
 rw[I,Xj]at h;cases E<;>first|(cases h;done)|rfl
def o_bh {sz lo E m i o len k:Nat}{v:V}(h:cutK sz lo E m i o len k=some v):lo<=E/\E<=m/\m<=k/\v=.s i (if m=lo then o else o+lo*sz) (E-lo) (.c (m-lo)):=by
 unfold cutK at h;obtain⟨I,h⟩:=Qaa h;rw[Qd,Qd]at I;injection h with h;subst h
 refine⟨Qm I.1.1,Qm I.1.2,Qm I.2,?_⟩;cases J:Nat.beq m lo with
 |true=>rw[Qc (Qk J)];rfl
 |false=>rw[Qb (λN=>by subst N;simp at J)];rfl
def o_dH (hC:OKC P C)(N:Fe ρ e n a){t:QQ}{x:Operand}{i o len:Nat}{c:Cap}{u1:Value}{lo hi mx:Option Operand}{v:V}(h1:cv ρ (.s i o len c)=some u1)(h2:a.eval x=u1)(h:slSl C e t i o len c lo hi mx=some v):Pk P ρ a w (.slice t x lo hi mx) v:=by
 unfold slSl at h;obtain⟨hm0,h⟩:=Qap h;split at h;rename_i J hJ;split at h;rename_i l hl;split at h;rename_i I hhh;split at h;rename_i m hm;obtain⟨el,hu,_,hT⟩:=o_ag hC hJ;obtain⟨y,hy,hok,rfl⟩:=cv_s h1;have key: ∀(mm:Nat),OI a (capN y c) mm mx->l<=I->I<=mm->mm<=capN y c->Ex P a w (.slice t x lo hi mx) (.slice (if mm=l then some ⟨y.b,y.o+o,none⟩else some ⟨y.b,y.o+o+l*J.n,none⟩) (I-l) (mm-l)):=λmm hmm W g2 g3 _ _ _ _ _=>by
  have hb:=run_bounds (P:=P) (w:=w) (isS:=true) (o_i N hl) (o_i N hhh) hmm (hiMx hm0) W g2 g3;simp only[execOp,Instr.sliceAt,Qp,Ql hu,Qi,h2,Instr.slice,hb,o_p hC hT,Qs,Wo,Wf]
 cases c with
 |c k=>
  obtain⟨W,g2,g3,rfl⟩:=o_bh (show cutK J.n l I (m.getD k) i o len k=some v from h);have:=key (m.getD k) (o_a0 N hm).1 W g2 g3;refine⟨_,Qbm hy (Q4 (by omega)),λd T p q g=>?_⟩;have:=this d T p q g;rw[this];by_cases E:m.getD k=l<;>simp[E,capN,Xn]
 |u k z=>
  have hok':z=y.s/\o=k*y.s/\k+len<=y.c:=Q7 hok;cases m with
  |some m'=>
   obtain⟨W,g2,g3,rfl⟩:=o_bh (show cutK J.n l I m' i o len len=some v from h);have:=key m' (o_a0 N hm).1 W g2 (by show m'<=y.c-k;omega);refine⟨_,Qbm hy (Q4 (by omega)),λd T p q g=>?_⟩;have:=this d T p q g;rw[this];by_cases E:m'=l<;>simp[E,capN,Xn]
  |none=>
   have h:cutU J.n l I i o len k z=some v:=h;unfold cutU at h;obtain⟨hb,h⟩:=Qaa h;rw[Qd,Qd,Qd,Xs]at hb;injection h with h;subst h
   obtain⟨⟨⟨b1,b2⟩,b3⟩,b4⟩:=hb;have b1:=Qk b1;have b2:=Qm b2;have b3:=Qm b3;have hmx:=(o_a0 N (d:=y.c-k) hm).2 rfl;have:=key (y.c-k) (.inl ⟨hmx,rfl⟩) b2 (by omega) (Qr _);refine⟨_,Qbm hy (Q4 ⟨hok'.1,by rw[hok'.2.1,b1,hok'.1,Xq],by omega⟩),λd T p q g=>?_⟩;have:=this d T p q g;rw[this];have hne:y.c-k=l->l=0:=λe1=>by
    rcases b4 with b4|b4
    have b4:l<I:=Qm b4;omega;exact Qk b4
   by_cases E:y.c-k=l;have h0:=hne E;subst h0;simp[capN,E];simp[E,capN,Xn,Nat.sub_add_eq]
 cases h;cases h;cases h;cases h
def o_d2 (hC:OKC P C)(N:Fe ρ e n a){t:QQ}{x:Operand}{p v:V}{u1:Value}{lo hi mx:Option Operand}(h1:cv ρ p=some u1)(h2:a.eval x=u1)(h:slV C e t p lo hi mx=some v):Pk P ρ a w (.slice t x lo hi mx) v:=by
 unfold slV at h;split at h;rename_i i o len c hs;rw[V.sl?_eq hs]at h1;exact o_dH hC N h1 h2 h;split at h;rename_i i o hp;rw[V.ptr?_eq hp]at h1;obtain⟨y,hy,rfl⟩:=cv_p h1;unfold slArr at h;obtain⟨hm0,h⟩:=Qap h;split at h;rename_i l0 J hJ;split at h;rename_i l hl;split at h;rename_i hh I;split at h;rename_i m hm;obtain⟨el,hu,hT⟩:=o_au hC hJ;obtain⟨g1,g2,g3,rfl⟩:=o_bh h;have W:=run_bounds (P:=P) (w:=w) (isS:=false) (o_i N hl) (o_i N I) (o_i N hm) (hiMx hm0) g1 g2 g3;refine⟨_,Qbm hy (Q4 (by omega)),λ_ _ _ _ _=>?_⟩;simp only[execOp,Instr.sliceAt,Qp,Ql hu,Qi,h2,Instr.sureAddr,W,o_p hC hT,Qs,Wf];by_cases hml:m=l<;>simp[hml,capN,Xn];cases h;cases h;cases h;cases h;split at h;rename_i s hs;obtain⟨W,hq⟩:=Qaa h;rw[Qd]at W;have hmx:mx=none:=by cases mx<;>first|rfl|cases W.2
 subst hmx;rw[V.str?_eq hs]at h1;rw[cv_k h1]at h2;clear h;unfold slStr at hq;split at hq;rename_i l hl;split at hq;rename_i hh I;obtain⟨hb2,hr⟩:=Qaa hq;rw[Qd]at hb2;injection hr with hr;subst hr
 have hbb:=run_bounds (P:=P) (w:=w) (isS:=false) (cap:=s.size) (mx:=none) (o_i N hl) (o_i N I) (.inl ⟨rfl,rfl⟩) (λh=>by cases h) (Qm hb2.1) (Qm hb2.2) (Qr _);refine⟨_,cv_str _,λ_ _ _ _ _=>?_⟩;have hu:=o_u hC W.1;simp only[Option.map_none]at hbb;simp[execOp,Instr.sliceAt,Ql hu,h2,Instr.slice,hbb];cases hq;cases hq;obtain⟨W,hq⟩:=Qaa h;clear h;rw[Qd]at W;rw[V.nilS_eq W.1]at h1;rw[cv_k h1]at h2;obtain⟨J,he⟩:=Xt.1 W.2;obtain⟨el,hu,_,hT⟩:=o_ag hC he;unfold slNil at hq;obtain⟨hm0,E⟩:=Qap hq;clear hq;split at E;rename_i l hl;split at E;rename_i hh I;split at E;rename_i m hm;obtain⟨hz,hr⟩:=Qaa E;injection hr with hr;subst hr
 have hz:=Qk hz;obtain rfl:l=0:=by omega
 obtain rfl:hh=0:=by omega
 obtain rfl:m=0:=by omega
 have hbb:=run_bounds (P:=P) (w:=w) (isS:=true) (o_i N hl) (o_i N I) (o_i N hm) (hiMx hm0) (Qr _) (Qr _) (Qr _);refine⟨.slice none 0 0,by unfold cv;rfl,λ_ _ _ _ _=>?_⟩;simp only[execOp,Instr.sliceAt,Qp,Ql hu,Qi,h2,Instr.slice,hbb,o_p hC hT,Qs];simp;cases E;cases E;cases E
def o_d3 (J:OKC P C)(E:Fe ρ e n a){t:QQ}{x:Operand}{v:V}{lo I mx:Option Operand}(h:pSl C e t x lo I mx=some v):Pk P ρ a w (.slice t x lo I mx) v:=by
 unfold pSl at h;split at h;rename_i p hp;obtain⟨N,h1,h2⟩:=o_b E hp;exact o_d2 J E h1 h2 h;cases h
end
section
variable {P:QR}{C:Cx}{ρ:Rho}{e:Env}{n:Nat}{a:Act}{w:World}
def Qjt (off:Nat): ∀(l:QL) (j:Nat) (arr:Array Value),off+j+l.length<=arr.size->
  (l.zipIdx j).foldl (λcs (x:Value×Nat)=>cs.setIfInBounds (off+x.2) x.1) arr=(arr.toList.take (off+j)++l++arr.toList.drop (off+j+l.length)).toArray
 | [],j,arr,h=>by simp
 |c::r,j,arr,h=>by
  simp only[Q2]at h;rw[List.zipIdx_cons,Vb,Qjt off r (j+1) _ (by simp;omega)];apply Yf.1;simp only[Array.toList_setIfInBounds];have E:off+j<arr.toList.length:=by simp;omega
  rw[show off+(j+1)=off+j+1 by omega,X2,List.take_set_of_le (by omega),List.drop_set_of_lt (by omega),List.getElem?_set_self E];simp[show off+j+1+r.length=off+j+(r.length+1) by omega]
def o_aw {pl:Nat->Option (Nat×Nat)}: ∀{vs:List (Nat×V)} {us:QI} {zs cs:List V} {zv:QL},Qkn pl zs vs=some cs->cvc ρ zs=some zv->us.map (·.1)=vs.map (·.1)->cvl ρ (vs.map (·.2))=some (us.map (·.2))->
  ∃cv',cvc ρ cs=some cv'/\Instr.fill pl zv.toArray us=some cv'.toArray
 | [],us,zs,cs,zv,h,E,h1,h2=>by
  injection h with h;subst h
  cases us with
  |nil=>exact⟨zv,E,rfl⟩
  |cons=>cases h1
 |(i,v)::r,us,zs,cs,zv,h,E,h1,h2=>by
  cases us with
  |nil=>cases h1
  |cons q us=>
   obtain⟨i',u⟩:=q;simp only[Wc,Ym]at h1;obtain⟨rfl,h1⟩:=h1;obtain⟨u',us',N,h3,h4⟩:=Qan h2;simp only[Wc,Ym]at N;obtain⟨rfl,rfl⟩:=N;unfold Qkn at h;split at h;cases h;rename_i off sz J;obtain⟨I,h⟩:=Qaa h;rw[Qd,Qd,X0]at I;obtain⟨vs',W,h6⟩:=Qhh I.2 h3;have hl:=Qk I.1.1;have hle:=Qm I.1.2;have hvl:=Qai W;have hzl:=Qai E;obtain⟨cv',h7,h8⟩:=o_aw h (Qby (Qby (Qbb off E) W) (Qbc (off+sz) E)) h1 h4;refine⟨cv',h7,?_⟩;unfold Instr.fill;rw[J,h6];simp only[Xk];rw[Qb (by simp;omega)];have hf:=Qjt off vs' 0 zv.toArray (by simp;omega);rw[<-Array.foldl_toList,Array.toList_zipIdx];simp only[Jw]at hf;rw[show(vs'.toArray.toList.zipIdx 0).foldl _ zv.toArray=_ from hf];rw[<-h8,show off+vs'.length=off+sz by omega]
def o_ax (W:OKC P C){t:QQ}{I:Ti}(hI:C.ty.get t=some I): ∃z,(∀w,(zeroValue t).run P w=.ok z w)/\cvc ρ I.z=some z.cells.toList/\cv ρ (zeroV I)=some z/\z.cells.size=I.n:=by
 obtain⟨i,z,h1,h2,J,h4,h5,h6,_,_,h7⟩:=(W.ty t I hI).info;have N:cvc ρ I.z=some z.cells.toList:=by rw[J];exact cvc_k h4
 refine⟨z,zero_run h1 h2,N,?_,h7⟩;unfold zeroV;cases E:I.ag with
 |true=>
  rw[cond_true,Qfg N];have:=h5 E;rw[this];rfl
 |false=>
  rw[cond_false];have hp:=h6 E;have hc:z.cells=#[z]:=by cases z<;>first|rfl|cases hp
  rw[J,hc];show cv ρ (.k z)=some z;unfold cv;rw[Qc hp]
def o_cY (hC:OKC P C)(hf:Fe ρ e n a){t:QQ}{ps:Array (Nat×Operand)}{v:V}(h:pBuild C e t ps.toList=some v):Pk P ρ a w (.build t ps) v:=by
 unfold pBuild at h;split at h;rename_i I hI;split at h;rename_i vs hvs;obtain⟨us,h1,h2,h3⟩:=o_aZ hf hvs;obtain⟨z,hz,N,_,_⟩:=o_ax (ρ:=ρ) hC hI;have hu:=(hC.ty t I hI).u;unfold bldT at h;split at h;rename_i fs W;unfold bldV at h;split at h;rename_i cs E;injection h with h;subst h
 obtain⟨cv',h4,h5⟩:=o_aw E N h1 h2;refine⟨_,Qfg h4,λ_ _ _ _ _=>?_⟩;rw[W]at hu;simp only[Q9]at h3;simp only[execOp,Instr.build,h3,Qp,hz w,Qi,Ql hu];rw[qpl_arr ((hC.ty t I hI).pl fs W) w];have h6:Instr.fill (λi=>I.pl.toArray[i]?) z.cells us=some cv'.toArray:=by simpa using h5
 simp only[Qi,h6,Qs];cases h;rename_i l el hel;split at h;rename_i J hJ;unfold bldV at h;split at h;rename_i cs E;injection h with h;subst h
 obtain⟨cv',h4,h5⟩:=o_aw E N h1 h2;refine⟨_,Qfg h4,λ_ _ _ _ _=>?_⟩;rw[hel]at hu;simp only[Q9]at h3;simp only[execOp,Instr.build,h3,Qp,hz w,Qi,Ql hu,o_p hC hJ];have h6:Instr.fill (λi=>some (i*J.n,J.n)) z.cells us=some cv'.toArray:=by simpa using h5
 simp[h6];cases h;cases h;cases h;cases h;cases h
def o_cE (J:OKC P C){t:QQ}{u:TypeDesc}(h:isIf C t=false)(E:und C t=some u): ∀ms,u≠ .interface ms:=λms I=>by
 subst I;unfold isIf at h;rw[E]at h;cases h
def o_dI (E:OKC P C)(J:Fe ρ e n a){t:QQ}{x:Operand}{v:V}(h:pMki C e t x=some v):Pk P ρ a w (.makeInterface t x) v:=by
 unfold pMki at h;obtain⟨N,h⟩:=Qap h;split at h;rename_i u I;split at h;rename_i p hp;injection h with h;subst h
 obtain⟨u1,h1,h2⟩:=o_b J hp;have W:=o_cE E N I;refine⟨_,cv_i_mk h1,λ_ _ _ _ _=>?_⟩;have hu':=o_v E I;cases u<;>first|(exact absurd rfl (W _))|simp[execOp,h2,Instr.makeInterface,Ql hu']
 cases h;cases h
def o_bO {I:Ti}{ok:Bool}{v:V}{z:Value}(E:cv ρ (zeroV I)=some z)(h:tasNo I ok=some v):ok=true/\cv ρ v=some (.tuple #[z,.bool false]):=by
 unfold tasNo at h;obtain⟨J,h⟩:=Qaa h;injection h with h;subst h
 exact⟨J,cv_t_mk (Qae E (Qae (Qaz false) (by unfold cvl;rfl)))⟩
def o_dJ (hC:OKC P C)(hf:Fe ρ e n a){x:Operand}{xT ty2_:QQ}{ok:Bool}{v:V}(h:pTas C e x ty2_ ok=some v):Pk P ρ a w (.typeAssert x xT ty2_ ok) v:=by
 unfold pTas at h;split at h;rename_i I hI;split at h;rename_i p hp;obtain⟨u1,h1,h2⟩:=o_b hf hp;obtain⟨z,hz,_,N,_⟩:=o_ax (ρ:=ρ) hC hI;have E:=(hC.ty ty2_ I hI).u;unfold tasV at h;split at h;rename_i t q hq;obtain⟨hi,h'⟩:=Qap h;clear h;have h:=h';clear h';have J:=o_cE hC hi (show und C ty2_=some I.u by unfold und;rw[hI]);rw[V.if?_eq hq]at h1;obtain⟨uq,h3,rfl⟩:=cv_i h1;cases W:Nat.beq t ty2_ with
 |true=>
  rw[W,cond_true]at h;have:=Qk W;subst this;injection h with h;subst h
  cases ok with
  |true=>
   refine⟨_,cv_t_mk (Qae h3 (Qae (Qaz true) (by unfold cvl;rfl))),λ_ _ _ _ _=>?_⟩;cases hIu:I.u<;>rw[hIu]at E J<;>first|(exact absurd rfl (J _))|simp[execOp,h2,Instr.typeAssert,Ql E]
  |false=>
   refine⟨_,h3,λ_ _ _ _ _=>?_⟩;cases hIu:I.u<;>rw[hIu]at E J<;>first|(exact absurd rfl (J _))|simp[execOp,h2,Instr.typeAssert,Ql E]
 |false=>
  rw[W,cond_false]at h;obtain⟨rfl,h4⟩:=o_bO N h;have hne:t≠ty2_:=λe1=>by subst e1;simp at W
  refine⟨_,h4,λ_ _ _ _ _=>?_⟩;cases hIu:I.u<;>rw[hIu]at E J<;>first|(exact absurd rfl (J _))|simp[execOp,h2,Instr.typeAssert,Ql E,hne,hz w]
 obtain⟨hi,h⟩:=Qaa h;rw[isNilI_eq hi]at h1;rw[cv_k h1]at h2;obtain⟨rfl,h4⟩:=o_bO N h;refine⟨_,h4,λ_ _ _ _ _=>?_⟩;cases hIu:I.u<;>rw[hIu]at E<;>simp[execOp,h2,Instr.typeAssert,Ql E,hz w];cases h;cases h
def o_bi {α:Type}{l:Option (List V)}{f:V->Option α}{v:α}(h:arg1 l f=some v): ∃x,l=some [x]/\f x=some v:=by
 unfold arg1 at h;split at h;exact⟨_,rfl,h⟩;cases h
def o_bj {α:Type}{l:Option (List V)}{f:V->V->Option α}{v:α}(h:arg2 l f=some v): ∃x y,l=some [x,y]/\f x y=some v:=by
 unfold arg2 at h;split at h;exact⟨_,_,rfl,h⟩;cases h
def o_cZ {α:Type}{l:List QQ}{f:QQ->Option α}{v:α}(h:ty1 l f=some v): ∃t r,l=t::r/\f t=some v:=by
 unfold ty1 at h;split at h;exact⟨_,_,rfl,h⟩;cases h
def o_dK {m:QN}{v:V}(h:natV m=some v): ∃k,m=some k/\cv ρ v=some (.int .i64 (k:Int)):=by
 unfold natV at h;split at h;injection h with h;subst h;exact⟨_,rfl,cv_nt _⟩
 cases h
def o_aj (E:Fe ρ e n a){xs:Array Operand}{vs:List V}(h:opds e xs.toList=some vs): ∃us,cvl ρ vs=some us/\xs.map a.eval=us.toArray:=by
 obtain⟨us,h1,h2⟩:=o_ai E h;exact⟨us,h1,by simpa using h2⟩
def o_dL (hC:OKC P C){t:QQ}{x:V}{k:Nat}{u:Value}{ts:Array QQ}{ty:QQ}(E:ts[0]?=some t)(N:cv ρ x=some u)(h:lenV C t x=some k):(Builtin.len_ ts ty #[u]).run P w=.ok (.int .i64 (k:Int)) w:=by
 unfold lenV at h;split at h;rename_i el he;have W:=o_w hC he;unfold lenS at h;split at h;rename_i hs;injection h with h;subst h
 rw[V.sl?_eq hs]at N;obtain⟨y,_,_,rfl⟩:=cv_s N;simp[Builtin.len_,E,Ql W,goInt];obtain⟨hn,h⟩:=Qaa h;injection h with h;subst h
 rw[V.nilS_eq hn]at N;rw[cv_k N];simp[Builtin.len_,E,Ql W,goInt];cases I:Qda C t with
 |true=>
  rw[I,cond_true]at h;have W:=o_u hC I;unfold lenB at h;split at h;rename_i hs;injection h with h;subst h
  rw[V.str?_eq hs]at N;rw[cv_k N];simp[Builtin.len_,E,Ql W,goInt];cases h
 |false=>
  rw[I,cond_false]at h;unfold lenA at h;split at h;rename_i m J hJ;injection h with h;subst h
  obtain⟨el,W,_⟩:=o_au hC hJ;simp[Builtin.len_,E,Ql W,goInt];cases h
def cvl1 {x:V}{us:QL}(h:cvl ρ [x]=some us): ∃u,us=[u]/\cv ρ x=some u:=by
 obtain⟨u,us',rfl,E,I⟩:=Qan h;rw[Qbd I];exact⟨u,rfl,E⟩
def cvl2 {x y:V}{us:QL}(h:cvl ρ [x,y]=some us): ∃u v,us=[u,v]/\cv ρ x=some u/\cv ρ y=some v:=by
 obtain⟨u,us',rfl,E,I⟩:=Qan h;obtain⟨v,rfl,J⟩:=cvl1 I;exact⟨u,v,rfl,E,J⟩
def o_dv {f:Int->Int->Int}{x y v:V}(h:mm f x y=some v): ∃k m E q,x=.k (.int k m)/\y=.k (.int E q)/\v=.k (.int k (f m q)):=by
 unfold mm at h;split at h;rename_i k m hx;split at h;rename_i E q I;injection h with h
 exact⟨k,m,E,q,V.int?_eq hx,V.int?_eq I,h.symm⟩;cases h;cases h
def o_d4 (hC:OKC P C)(J:Fe ρ e n a){xs:Array Operand}{ts:Array QQ}{b:Builtin}{v:V}(h:pBi C e xs.toList ts.toList b=some v):Pk P ρ a w (.call {callee:=.builtin b,args:=xs,argTypes:=ts}) v:=by
 unfold pBi at h;split at h;obtain⟨x,hx,h⟩:=o_bi h;obtain⟨t,tr,ht,h⟩:=o_cZ h;obtain⟨us,h1,h2⟩:=o_aj J hx;obtain⟨u,rfl,E⟩:=cvl1 h1;obtain⟨k,hk,I⟩:=o_dK (ρ:=ρ) h;have N:ts[0]?=some t:=by rw[<-Wi,ht];rfl
 refine⟨_,I,λ_ T _ _ _=>?_⟩;have:=o_dL (w:=w) (ty:=T) hC N E hk;simp only[execOp,resolve,h2,Qp,Qs,Qi,invoke,builtin,this];obtain⟨x,y,hx,h⟩:=o_bj h;obtain⟨us,h1,h2⟩:=o_aj J hx;obtain⟨u1,u2,rfl,E,I⟩:=cvl2 h1;obtain⟨k,m,k2,q,rfl,rfl,rfl⟩:=o_dv h;rw[cv_k E,cv_k I]at h2;refine⟨_,Qki _ _,λ_ T _ _ _=>?_⟩;have W:(if q<m then q else m)=imin m q:=by unfold imin;by_cases hq:q<m<;>simp[hq]
 simp[execOp,resolve,h2,invoke,builtin,Builtin.min_,Builtin.min2,W];obtain⟨x,y,hx,h⟩:=o_bj h;obtain⟨us,h1,h2⟩:=o_aj J hx;obtain⟨u1,u2,rfl,E,I⟩:=cvl2 h1;obtain⟨k,m,k2,q,rfl,rfl,rfl⟩:=o_dv h;rw[cv_k E,cv_k I]at h2;refine⟨_,Qki _ _,λ_ T _ _ _=>?_⟩;have W:(if m<q then q else m)=imax m q:=by unfold imax;by_cases hq:m<q<;>simp[hq]
 simp[execOp,resolve,h2,invoke,builtin,Builtin.max_,Builtin.max2,W];cases h
def o_bP (I:OKC P C)(E:Fe ρ e n a){o:Op}{v:V}(h:pure1 C e o=some v):Pk P ρ a w o v:=by
 unfold pure1 at h;split at h;obtain⟨u,h1,h2⟩:=o_b E h;exact⟨u,h1,λ_ _ _ _ _=>r_move h2⟩;obtain⟨u,h1,h2⟩:=o_b E h;exact⟨u,h1,λ_ _ _ _ _=>r_assign h2⟩;exact o_da E h;exact o_dC I E h;exact o_dZ E h;exact o_dD E h;exact o_dE E h;exact o_db E h;exact o_dc I E h;exact o_d0 I E h;exact o_dF I E h;exact o_dG I E h;exact o_d1 I E h;exact o_d3 I E h;exact o_cY I E h;exact o_dI I E h;exact o_dJ I E h;rename_i c;unfold pCall at h;split at h;rename_i b J;obtain⟨cal,xs,ts⟩:=c;subst J;exact o_d4 I E h;cases h;cases h
end
def cvp (ρ:Rho):List (V×V)->Option (List (Value×Value))
 | []=>some []
 |(k,v)::r=>match cv ρ k,cv ρ v,cvp ρ r with
  |some a,some b,some l=>some ((a,b)::l)
  |_,_,_=>none
def Qaw {ρ:Rho}{k v:V}{r:List (V×V)}{l:List (Value×Value)}(h:cvp ρ ((k,v)::r)=some l): ∃a b m,l=(a,b)::m/\cv ρ k=some a/\cv ρ v=some b/\cvp ρ r=some m:=by
 unfold cvp at h;split at h;rename_i a b m h1 h2 E;injection h with h;exact⟨a,b,m,h.symm,h1,h2,E⟩
 cases h
def Qck {ρ:Rho}{l:List (Value×Value)}(h:cvp ρ []=some l):l=[]:=by unfold cvp at h;injection h with h;exact h.symm
def Qds {ρ:Rho}{k v:V}{r:List (V×V)}{a b:Value}{m:List (Value×Value)}(h1:cv ρ k=some a)(h2:cv ρ v=some b)(E:cvp ρ r=some m):cvp ρ ((k,v)::r)=some ((a,b)::m):=by unfold cvp;rw[h1,h2,E]
def Qcu {ρ ρ':Rho}(h:Le ρ ρ'): ∀{x:List (V×V)} {l:List (Value×Value)},cvp ρ x=some l->cvp ρ' x=some l
 | [],l,E=>by rw[Qck E];unfold cvp;rfl
 |(k,v)::r,l,E=>by obtain⟨a,b,m,rfl,h1,h2,I⟩:=Qaw E;exact Qds (Qaj h _ _ h1) (Qaj h _ _ h2) (Qcu h I)
def Qfa {ρ:Rho}: ∀{x y:List (V×V)} {l m:List (Value×Value)},cvp ρ x=some l->cvp ρ y=some m->cvp ρ (x++y)=some (l++m)
 | [],y,l,m,h,k=>by rw[Qck h];exact k
 |(p,q)::r,y,l,m,h,k=>by obtain⟨a,b,c,rfl,h1,h2,E⟩:=Qaw h;exact Qds h1 h2 (Qfa E k)
def Qef {ρ:Rho}: ∀{x:List (V×V)} {l:List (Value×Value)},cvp ρ x=some l->l.length=x.length
 | [],l,h=>by rw[Qck h];rfl
 |(k,v)::r,l,h=>by obtain⟨a,b,m,rfl,_,_,E⟩:=Qaw h;simp[Qef E]
def OR (P:QR)(ρ:Rho)(w:World)(x:Pl):O->Prop
 | .c T xs=>∃vs arr,cvc ρ xs=some vs/\w.heap[x.b]?=some (.cells arr T (0,0))/\(∀k v,vs[k]?=some v->arr[x.o+k]?=some v)/\szB P T=some x.s/\x.o+x.c*x.s=arr.size
 | .m es clk pend=>∃ks arr,cvp ρ es=some ks/\w.heap[x.b]?=some (.map arr clk)/\ks.Perm (arr.toList.map λe=>(e.key,e.val))/\(arr.toList.map (·.born)).Nodup/\(∀e∈arr.toList,e.born<clk)/\
   (∀j p,pend=some (j,p)->∃y A ent B ka kb,ρ j=some y/\arr.toList=A++ent::B/\ent.born=y.b/\ks=ka++(ent.key,ent.val)::kb/\ka.length=p/\(ka++kb).Perm ((A++B).map λe=>(e.key,e.val)))
 | .q m clk p=>∃y since seen,ρ m=some y/\y.b<w.heap.size/\w.heap[x.b]?=some (.mapIter (some y.b) since seen clk)/\(p=.fresh->since=clk/\seen=#[])/\
   (∀k al,p=.cur k al->∃st kv,seen.back?=some st/\cv ρ k=some kv/\∀arr c2,w.heap[y.b]?=some (.map arr c2)->clk<=c2/\(c2=clk->(∀e∈arr.toList,e.key=kv->e.born=st)/\(al=true->∀e∈arr.toList,e.born∈seen.toList)))
 | .qn=>∃s t c,w.heap[x.b]?=some (.mapIter none s t c)
 | .st b pos=>w.heap[x.b]?=some (.stringIter b pos)
 | .lp env ps asg body st pend=>∃lp n,w.heap[x.b]?=some (.loop lp)/\lp.state=(if st=true then(if pend.isNone=true then .busy else .done)else .ready)/\lp.pending=pend/\lp.params=ps.toArray/\lp.assign=asg/\lp.body=body/\
   Fe ρ env n ⟨lp.tmps,[]⟩/\okD n asg=true/\okD n body=true/\∀d∈ps,d<n
 | .df=>w.heap[x.b]?=some (.deferred (some []))
structure HR (P:QR) (w0:World) (ρ:Rho) (h:T O) (nx:Nat) (w:World):Prop where
 live: ∀i o,h.get i=some o->i<nx/\∃x,ρ i=some x/\w0.heap.size<=x.b/\x.b<w.heap.size/\OR P ρ w x o
 inj: ∀i j o p x y,h.get i=some o->h.get j=some p->ρ i=some x->ρ j=some y->x.b=y.b->i=j
 top: ∀i,nx<=i->ρ i=none
 base: ∀k,k<w0.heap.size->w.heap[k]?=w0.heap[k]?
 size:w0.heap.size<=w.heap.size
 os:w.os=w0.os
 tape:w.tape=w0.tape
 output:w.output=w0.output
structure Tr (ρ:Rho) (h:T O) (n0:Nat) (w:World) (ρ':Rho) (h':T O) (n1:Nat) (w':World) (fl:Nat):Prop where
 le:Le ρ ρ'
 nx:n0<=n1
 size:w.heap.size<=w'.heap.size
 keep: ∀b,b<w.heap.size->(∀i o x,h.get i=some o->ρ i=some x->x.b≠b)->w'.heap[b]?=w.heap[b]?
 own: ∀i o x,h'.get i=some o->ρ' i=some x->x.b<w.heap.size->∃j p y,h.get j=some p/\ρ j=some y/\y.b=x.b
 flo: ∀i,i<fl->h'.get i=h.get i
 old: ∀i o x,i<fl->h.get i=some o->ρ i=some x->w'.heap[x.b]?=w.heap[x.b]?
 new: ∀i,i<n0->ρ i=none->ρ' i=none
section
variable {P:QR}{w0:World}{ρ ρ' ρ'':Rho}{h h' h'':T O}{nx nx' nx'':Nat}{w w' w'':World}{fl:Nat}
def Tr.refl (ρ:Rho)(h:T O)(nx:Nat)(w:World)(fl:Nat):Tr ρ h nx w ρ h nx w fl:=⟨Le.refl _,Qr _,Qr _,λ_ _ _=>rfl,λi o x h1 h2 _=>⟨i,o,x,h1,h2,rfl⟩,λ_ _=>rfl,λ_ _ _ _ _ _=>rfl,λ_ _ h=>h⟩
def Tr.trans (a:Tr ρ h nx w ρ' h' nx' w' fl)(b:Tr ρ' h' nx' w' ρ'' h'' nx'' w'' fl):Tr ρ h nx w ρ'' h'' nx'' w'' fl where
 le:=a.le.trans b.le
 nx:=Wb a.nx b.nx
 size:=Wb a.size b.size
 keep k hk hn:=by
  have h1:=a.keep k hk hn;rw[<-h1];refine b.keep k (Qw hk a.size) λi o x hi hx e1=>?_;obtain⟨j,p,y,h2,h3,h4⟩:=a.own i o x hi hx (by omega);exact hn j p y h2 h3 (h4.trans e1)
 own i o x hi hx hb:=by
  obtain⟨j,p,y,h2,h3,h4⟩:=b.own i o x hi hx (Qw hb a.size);obtain⟨j',p',y',h5,h6,h7⟩:=a.own j p y h2 h3 (by omega);exact⟨j',p',y',h5,h6,h7.trans h4⟩
 flo i hi:=(b.flo i hi).trans (a.flo i hi);old i o x hi h1 h2:=(b.old i o x hi ((a.flo i hi).trans h1) (a.le _ _ h2)).trans (a.old i o x hi h1 h2);new i hi h1:=b.new i (Qw hi a.nx) (a.new i hi h1)
def Ben (w w':World)(b:Nat):Prop:=∀arr' c',w'.heap[b]?=some (.map arr' c')->∃arr c,w.heap[b]?=some (.map arr c)/\c<=c'/\(c'=c->∀e'∈arr'.toList,∃e∈arr.toList,e.key=e'.key/\e.born=e'.born)
def Ben.of_eq {b:Nat}(E:w'.heap[b]?=w.heap[b]?):Ben w w' b:=λarr' c' h=>⟨arr',c',by rw[<-E];exact h,Qr _,λ_ e I=>⟨e,I,rfl,rfl⟩⟩
def OR.keep {x:Pl}{o:O}(W:Le ρ ρ')(hs:w.heap.size<=w'.heap.size)(E:w'.heap[x.b]?=w.heap[x.b]?)(hben: ∀b,b<w.heap.size->Ben w w' b)(I:OR P ρ w x o):OR P ρ' w' x o:=by
 cases o with
 |c T xs=>obtain⟨vs,arr,h1,h2,J⟩:=I;exact⟨vs,arr,Qbn W _ _ h1,E.trans h2,J⟩
 |m es clk pend=>
  obtain⟨ks,arr,h1,h2,J,h4,h5,h6⟩:=I;refine⟨ks,arr,Qcu W h1,E.trans h2,J,h4,h5,λj k e1=>?_⟩;obtain⟨y,A,ent,B,ka,kb,g1,g2⟩:=h6 j k e1;exact⟨y,A,ent,B,ka,kb,W _ _ g1,g2⟩
 |q m clk p=>
  obtain⟨y,since,seen,h1,h2,J,h4,h5⟩:=I;refine⟨y,since,seen,W _ _ h1,by omega,E.trans J,h4,λk al e1=>?_⟩;obtain⟨st,kv,g1,g2,g3⟩:=h5 k al e1;refine⟨st,kv,g1,Qaj W _ _ g2,λarr' c' ha=>?_⟩;obtain⟨arr,c,k1,k2,k3⟩:=hben y.b h2 arr' c' ha;obtain⟨k4,k5⟩:=g3 arr c k1;refine⟨by omega,λe2=>⟨λe' he hk=>?_,λhal e' he=>?_⟩⟩;obtain⟨e0,N,h6,h7⟩:=k3 (by omega) e' he;rw[<-h7];exact(k5 (by omega)).1 e0 N (h6.trans hk);obtain⟨e0,N,h6,h7⟩:=k3 (by omega) e' he;rw[<-h7];exact(k5 (by omega)).2 hal e0 N
 |qn=>obtain⟨s,t,c,h1⟩:=I;exact⟨s,t,c,E.trans h1⟩
 |st b pos=>exact E.trans I
 |lp env ps asg body st pend=>
  obtain⟨lp,n,h1,h2,J,h4,h5,h6,h8,h9⟩:=I;exact⟨lp,n,E.trans h1,h2,J,h4,h5,h6,h8.mono W,h9⟩
 |df=>exact E.trans I
def HR.heap (E:HR P w0 ρ h nx w)(I:w'.heap=w.heap)(J:w'.os=w.os)(N:w'.tape=w.tape)(hp:w'.output=w.output):HR P w0 ρ h nx w':=
 ⟨λi o W=>by
  obtain⟨h1,x,h2,h3,h4,h5⟩:=E.live i o W;exact⟨h1,x,h2,h3,by rw[I];exact h4,OR.keep (Le.refl _) (by rw[I];exact Qr _) (by rw[I]) (λb _=>Ben.of_eq (by rw[I])) h5⟩,E.inj,E.top,λk hk=>by rw[I];exact E.base k hk,by rw[I];exact E.size,J.trans E.os,N.trans E.tape,hp.trans E.output⟩
def Tr.heap (ρ:Rho)(h:T O)(nx fl:Nat)(E:w'.heap=w.heap):Tr ρ h nx w ρ h nx w' fl:=
 ⟨Le.refl _,Qr _,by rw[E];exact Qr _,λ_ _ _=>by rw[E],λi o x h1 h2 _=>⟨i,o,x,h1,h2,rfl⟩,λ_ _=>rfl,λ_ _ _ _ _ _=>by rw[E],λ_ _ h=>h⟩
def HR.alloc (E:HR P w0 ρ h nx w)(ob:Obj)(o:O)(x:Pl)(hx:x.b=w.heap.size)(ho:OR P (ρ.add nx x) (w.alloc ob) x o):HR P w0 (ρ.add nx x) (h.set nx o) (nx+1) (w.alloc ob):=by
 have hl:Le ρ (ρ.add nx x):=Rho.le_add (E.top nx (Qr _));have hs:(w.alloc ob).heap.size=w.heap.size+1:=by simp
 have old: ∀k,k<w.heap.size->(w.alloc ob).heap[k]?=w.heap[k]?:=λk hk=>Below.heap_alloc w ob k hk;refine⟨λi p I=>?_,λi j p q y z I W J N e1=>?_,λi I=>?_,λk hk=>(old k (Qw hk E.size)).trans (E.base k hk),by rw[hs];have:=E.size;omega,E.os,E.tape,E.output⟩;rw[T.get_set]at I;split at I;rename_i e1;subst e1;injection I with I
 subst I;exact⟨by omega,x,Rho.add_same _ _ _,by rw[hx];exact E.size,by rw[hs,hx];omega,ho⟩;rename_i e1;obtain⟨h1,y,h2,h3,h4,h5⟩:=E.live i p I;exact⟨by omega,y,hl _ _ h2,h3,by omega,OR.keep hl (by omega) (old _ h4) (λb hb=>Ben.of_eq (old b hb)) h5⟩;rw[T.get_set]at I W;have fresh: ∀{k p y},h.get k=some p->(ρ.add nx x) k=some y->y.b<w.heap.size:=λ{k p y} hk J=>by
  obtain⟨h1,y',h2,_,h4,_⟩:=E.live k p hk;rw[hl _ _ h2]at J;injection J with J
  subst J;exact h4
 split at I<;>split at W;omega;rename_i e2 e3;subst e2;rw[Rho.add_same]at J;injection J with J;subst J
 have:=fresh W N;omega;rename_i e2 e3;subst e3;rw[Rho.add_same]at N;injection N with N;subst N
 have:=fresh I J;omega;rename_i e2 e3;rw[Rho.add_other e2]at J;rw[Rho.add_other e3]at N;exact E.inj i j p q y z I W J N e1;rw[Rho.add_other (by omega)];exact E.top i (by omega)
def Tr.alloc (W:HR P w0 ρ h nx w)(ob:Obj)(o:O)(x:Pl)(hx:x.b=w.heap.size)(hfl:fl<=nx):Tr ρ h nx w (ρ.add nx x) (h.set nx o) (nx+1) (w.alloc ob) fl:=
 ⟨Rho.le_add (W.top nx (Qr _)),by omega,by simp,λb hb _=>Below.heap_alloc w ob b hb,λi p y I E hb=>by
  rw[T.get_set]at I;split at I;rename_i N;subst N;rw[Rho.add_same]at E;injection E with E;subst E
  omega;rename_i N;rw[Rho.add_other N]at E;exact⟨i,p,y,I,E,rfl⟩,λi I=>T.get_set_other h o (by omega),λi o y _ h1 h2=>by
  obtain⟨_,y',J,_,g4,_⟩:=W.live i o h1;rw[h2]at J;injection J with J;subst J
  exact Below.heap_alloc w ob _ g4,λi I h1=>by rw[Rho.add_other (by omega)];exact h1⟩
def HR.upd (E:HR P w0 ρ h nx w){i:Nat}{o o':O}{x:Pl}(N:h.get i=some o)(hx:ρ i=some x)(hs:w'.heap.size=w.heap.size)(W: ∀k,k≠x.b->w'.heap[k]?=w.heap[k]?)(h1:w'.os=w.os)(h2:w'.tape=w.tape)(h3:w'.output=w.output)
  (hben:Ben w w' x.b) (ho:OR P ρ w' x o'):HR P w0 ρ (h.set i o') nx w':=by
 obtain⟨hin,x',hx',hlo,hhi,_⟩:=E.live i o N;rw[hx]at hx';injection hx' with hx'
 subst hx';have hbenAll: ∀b,b<w.heap.size->Ben w w' b:=λb _=>by
  by_cases hb:b=x.b;subst hb;exact hben;exact Ben.of_eq (W b hb)
 refine⟨λj p I=>?_,λj k p q y z I hk hy hz J=>?_,E.top,λk hk=>(W k (by omega)).trans (E.base k hk),by rw[hs];exact E.size,h1.trans E.os,h2.trans E.tape,h3.trans E.output⟩;rw[T.get_set]at I;split at I;rename_i J;subst J;injection I with I
 subst I;exact⟨hin,x,hx,hlo,by omega,ho⟩;rename_i J;obtain⟨g1,y,g2,g3,g4,g5⟩:=E.live j p I;refine⟨g1,y,g2,g3,by omega,OR.keep (Le.refl _) (by omega) (W y.b λe2=>J (E.inj j i p o y x I N g2 hx e2)) hbenAll g5⟩;have real: ∀{l r},(h.set i o').get l=some r->∃r',h.get l=some r':=λ{l r} hl=>by
  rw[T.get_set]at hl;split at hl;rename_i e2;subst e2;exact⟨o,N⟩;exact⟨r,hl⟩
 obtain⟨p',hj'⟩:=real I;obtain⟨q',hk'⟩:=real hk;exact E.inj j k p' q' y z hj' hk' hy hz J
def Tr.upd (W:HR P w0 ρ h nx w){i:Nat}{o o':O}{x:Pl}(I:h.get i=some o)(hx:ρ i=some x)(hs:w'.heap.size=w.heap.size)(J: ∀k,k≠x.b->w'.heap[k]?=w.heap[k]?)(hfl:fl<=i):Tr ρ h nx w ρ (h.set i o') nx w' fl:=
 ⟨Le.refl _,Qr _,by omega,λb hb hn=>J b λe1=>hn i o x I hx e1.symm,λj p y E N _=>by
  rw[T.get_set]at E;split at E;rename_i e2;subst e2;exact⟨j,o,y,I,N,rfl⟩;exact⟨j,p,y,E,N,rfl⟩,λj E=>T.get_set_other h o' (by omega),λj p y E h1 h2=>J y.b λe=>by have:=W.inj j i p o y x h1 I h2 hx e;omega,λ_ _ h=>h⟩
def HR.del (E:HR P w0 ρ h nx w)(i:Nat):HR P w0 ρ (h.del i) nx w:=by
 have real: ∀{l r},(h.del i).get l=some r->h.get l=some r:=λ{l r} I=>by
  rw[T.get_del]at I;split at I;cases I;exact I
 exact⟨λj p J=>E.live j p (real J),λj k p q y z J hk=>E.inj j k p q y z (real J) (real hk),E.top,E.base,E.size,E.os,E.tape,E.output⟩
def Tr.del (ρ:Rho)(h:T O)(nx:Nat)(w:World){i:Nat}(I:fl<=i):Tr ρ h nx w ρ (h.del i) nx w fl:=
 ⟨Le.refl _,Qr _,Qr _,λ_ _ _=>rfl,λj p y E J _=>by
  rw[T.get_del]at E;split at E;cases E;exact⟨j,p,y,E,J,rfl⟩,λj E=>by rw[T.get_del,Qb (by omega)],λ_ _ _ _ _ _=>rfl,λ_ _ h=>h⟩
end
section
variable {P:QR}{C:Cx}{w0:World}{ρ:Rho}{h:T O}{nx:Nat}{w:World}{e:Env}{n:Nat}{a:Act}
def rowAt_eq {i:Nat}{T:QQ}{xs:List V}(E:Qfs h i=some (T,xs)):h.get i=some (.c T xs):=by
 unfold Qfs at E;split at E;rename_i U ys I;simp only[Qg,Qt]at E;obtain⟨rfl,rfl⟩:=E;exact I;cases E
def HR.row (E:HR P w0 ρ h nx w){i:Nat}{T:QQ}{xs:List V}(I:h.get i=some (.c T xs)): ∃x vs arr,ρ i=some x/\cvc ρ xs=some vs/\w.heap[x.b]?=some (.cells arr T (0,0))/\(∀k v,vs[k]?=some v->arr[x.o+k]?=some v)/\
  szB P T=some x.s/\x.o+x.c*x.s=arr.size/\i<nx/\w0.heap.size<=x.b/\x.b<w.heap.size:=by
 obtain⟨h1,x,h2,J,N,vs,arr,W,h6,h7,h8,h9⟩:=E.live i _ I;exact⟨x,vs,arr,h2,W,h6,h7,h8,h9,h1,J,N⟩
def cellOf {b:Nat}{arr:Array Value}{T:QQ}(E:w.heap[b]?=some (.cells arr T (0,0)))(k:Nat):w.cell? ⟨b,k,none⟩=arr[k]?:=cell_of_row w b k arr T (0,0) E
def o_bQ (hC:OKC P C)(hr:HR P w0 ρ h nx w){t:QQ}{p v:V}{u:Value}(hp:cv ρ p=some u)(W:loadV C h t p=some v): ∃z,cv ρ v=some z/\(Instr.loadAt t u).run P w=.ok z w:=by
 unfold loadV at W;split at W;rename_i J hJ;split at W;rename_i xs o E;unfold Qlk at E;split at E;rename_i i o' hpp;split at E;rename_i T ys hrow;simp only[Qg,Qt]at E;obtain⟨rfl,rfl⟩:=E;obtain⟨x,vs,arr,hx,hvs,hb,hget,_⟩:=hr.row (rowAt_eq hrow);rw[V.ptr?_eq hpp]at hp;obtain⟨x',hx',rfl⟩:=cv_p hp;rw[hx]at hx';injection hx' with hx'
 subst hx';obtain⟨z,hz,_,I⟩:=o_ae hC hJ hvs W;refine⟨z,hz,?_⟩;cases N:J.ag with
 |true=>
  rw[N]at I;obtain⟨rfl,hlen⟩:=I;have:=run_loadCells_list (P:=P) w ⟨x.b,x.o+o',none⟩ ((vs.drop o').take J.n) (λj q hj=>by
   rw[Wf,cellOf hb,Xn];refine hget _ _ ?_;rw[W8]at hj;split at hj;rw[Wj]at hj;exact hj;cases hj)
  rw[hlen]at this;simp[Instr.loadAt,Instr.sureAddr,loadVar,o_bL hC hJ,N,o_p hC hJ,this]
 |false=>
  rw[N]at I;have hcell:w.cell? ⟨x.b,x.o+o',none⟩=some z:=by rw[cellOf hb];exact hget _ _ I
  simp[Instr.loadAt,Instr.sureAddr,loadVar,o_bL hC hJ,N,hcell]
 cases E;split at E;rw[hC.gv]at E;cases E;cases E;cases W;cases W
def o_dd (I:OKC P C)(J:HR P w0 ρ h nx w)(N:Fe ρ e n a){t:QQ}{x:Operand}{v:V}(E:rLoad C e h t x=some v):Pk P ρ a w (.load t x) v:=by
 unfold rLoad at E;split at E;rename_i p hp;obtain⟨u,h1,h2⟩:=o_b N hp;obtain⟨z,W,h4⟩:=o_bQ I J h1 E;refine⟨z,W,λ_ _ _ _ _=>?_⟩;simp only[execOp,h2,Qp,h4,Qi,Qs];cases E
def part_there (hC:OKC P C){T:QQ}{J:Ti}(W:C.ty.get T=some J){xs:List V}{vs:QL}(E:cvc ρ xs=some vs){o:Nat}(h1:o+J.n<=xs.length)(h2:1<=J.n): ∃v z,keyS C T v=true/\cv ρ v=some z/\∀w,(part T vs.toArray o).run P w=.ok z w:=by
 have hcut: ∃v,cut J.ag J.n o xs=some v/\keyS C T v=true:=by
  unfold cut keyS;rw[W];cases hJag:J.ag with
  |true=>
   have hl:((xs.drop o).take J.n).length=J.n:=by simp;omega
   refine⟨.g ((xs.drop o).take J.n),by rw[hl];simp,?_⟩;simp only[hJag,cond_true,V.agg?,hl];simp
  |false=>exact⟨xs[o]'(by omega),by simp,by simp[hJag]⟩
 obtain⟨v,hv,I⟩:=hcut;obtain⟨z,hz,N,_⟩:=o_ae hC W E hv;exact⟨v,z,I,hz,N⟩
def o_aT (W:OKC P C)(em:Bool): ∀(d k:Nat) (t:QQ) (x:V) (u:Value),keyT C d t=true->keyS C t x=true->cv ρ x=some u->(Instr.checkKey em (d+k) t u).run P w=.ok () w
 |0,_,_,_,_,h1,_,_=>by cases h1
 |d+1,k,t,x,u,h1,h2,hu=>by
  rw[show d+1+k=(d+k)+1 by omega];unfold keyT at h1;split at h1;rename_i I hI;have N:=(W.ty t I hI).u;have E:=(W.ty t I hI).ag;unfold keyS at h2;rw[hI]at h2;split at h1;rename_i fs hfs;rw[hfs]at N;have hag:I.ag=true:=by unfold aggB at E;rw[N]at E;injection E with E;exact E.symm
  simp only[hag,cond_true]at h2;split at h2;rename_i xs hx;rw[V.agg?_eq hx]at hu;obtain⟨vs,hvs,rfl⟩:=cv_g hu;have hxl:=Qk h2;unfold Instr.checkKey;simp only[Qp,Ql N,Qi];rw[<-Array.forIn_toList];generalize fs.toList=l at h1;induction l with
  |nil=>simp
  |cons f l ih=>
   rw[X7,Qd]at h1;obtain⟨g1,g2⟩:=h1;simp only[List.forIn_cons,Qp];have step:(Instr.checkKey em (d+k) f.type=<<part f.type vs.toArray f.offset).run P w=.ok () w:=by
    split at g1;rename_i J hJ;rw[Qd,Qd]at g1;obtain⟨⟨k1,k2⟩,k3⟩:=g1;have k1:=Qm k1;have k2:=Qm k2;obtain⟨v,z,hks,hz,hz2⟩:=part_there W hJ hvs (o:=f.offset) (by omega) k2;have:=o_aT W em d k f.type v z k3 hks hz;show(Bind.bind (part f.type vs.toArray f.offset) λz=>Instr.checkKey em (d+k) f.type z).run P w=_;rw[Qp,hz2];exact this;cases g1
   by_cases hn:f.name= "_";simp only[hn,ne_eq,not_true,Wd,Qs,Qi];exact ih g2;have s1:((part f.type vs.toArray f.offset).run P w).andThen (λz w=>(Instr.checkKey em (d+k) f.type z).run P w)=.ok () w:=by rw[<-Qp];exact step
   simp only[ne_eq,hn,not_false_eq_true,Xo,Qp];cases hpp:(part f.type vs.toArray f.offset).run P w with
   |halt q w1=>rw[hpp]at s1;cases s1
   |ok z w1=>
    rw[hpp]at s1;simp only[Qi]at s1 ⊢;rw[s1];simp only[Qi,Qs];exact ih g2
  cases h2;rename_i m el hel;rw[hel]at N;have hag:I.ag=true:=by unfold aggB at E;rw[N]at E;injection E with E;exact E.symm
  simp only[hag,cond_true]at h2;split at h1;rename_i J hJ;rw[Qd,Qd]at h1;obtain⟨⟨k1,k2⟩,k3⟩:=h1;have k1:=Qm k1;have k2:=Qm k2;split at h2;rename_i xs hx;rw[V.agg?_eq hx]at hu;obtain⟨vs,hvs,rfl⟩:=cv_g hu;have hxl:=Qk h2;unfold Instr.checkKey;simp only[Qp,Ql N,Qi];simp only[Std.Legacy.Range.forIn_eq_forIn_range',Std.Legacy.Range.size,Nat.sub_zero,Nat.add_one_sub_one,Nat.div_one];have hr: ∀i∈List.range' 0 m,i<m:=λi hi=>by simp[List.mem_range']at hi;omega
  generalize List.range' 0 m=l at hr;induction l with
  |nil=>simp
  |cons i l ih=>
   have hi:i<m:=hr i (Qh ..);have hmul:i*J.n+J.n<=m*J.n:=by rw[<-Vf];exact Wr _ hi
   obtain⟨v,z,hks,hz,hz2⟩:=part_there W hJ hvs (o:=i*J.n) (by omega) k2;have:=o_aT W em d k el v z k3 hks hz;simp only[List.forIn_cons,Qp,o_p W hJ,Qi,hz2,this,Qs];exact ih λi hi=>hr i (Qf _ hi)
  cases h2;cases h1;cases h1;unfold Instr.checkKey;simp only[Qp,Ql N,Qi];cases hIu:I.u<;>simp_all;cases h1
def o_ay {d:TypeDesc}{kt:QQ}{u v:Value}{b c:Bool}{m:Nat}(E:P.underlying kt=some d)(h1:Instr.sameNow d u v=some c)(h2:EqV P (m+1) kt u v b):c=b:=by
 have h2:=h2 default;unfold Instr.sameNow at h1;split at h1;split at h1;rename_i hk;injection h1 with h1
 subst hk;rw[run_equalIn_int default m kt _ _ _ _ E]at h2;injection h2 with h2
 rw[<-h1,<-h2];cases h1;injection h1 with h1
 simp[Op.equalIn,Ql E]at h2;rw[<-h1,<-h2];injection h1 with h1
 rw[run_equalIn_bool' default m kt _ _ E]at h2;injection h2 with h2
 rw[<-h1,<-h2];cases h1
def Qfz {d:TypeDesc}{kt:QQ}{u:Value}{E:MapEntry}{B:List MapEntry}(I:P.underlying kt=some d)(h0:EqV P 10000 kt u E.key true): ∀{A:List MapEntry} {i:Nat} {r:Option (Nat×Value)},(∀e∈A,EqV P 10000 kt u e.key false)->Instr.findNow d u (A++E::B) i=some r->r=some (i+A.length,E.val)
 | [],i,r,_,h=>by
  simp only[X8]at h;unfold Instr.findNow at h;split at h;injection h with h;simp[<-h]
  rename_i J;cases o_ay I J h0;cases h
 |x::A,i,r,N,h=>by
  simp only[Yc]at h;unfold Instr.findNow at h;split at h;rename_i J;cases o_ay I J (N x (Qh ..));have:=Qfz I h0 (λe W=>N e (Qf _ W)) h;rw[this];simp;omega;cases h
def Qgd {d:TypeDesc}{kt:QQ}{u:Value}(E:P.underlying kt=some d): ∀{A:List MapEntry} {i:Nat} {r:Option (Nat×Value)},(∀e∈A,EqV P 10000 kt u e.key false)->Instr.findNow d u A i=some r->r=none
 | [],i,r,_,h=>by unfold Instr.findNow at h;injection h with h;exact h.symm
 |x::A,i,r,I,h=>by
  unfold Instr.findNow at h;split at h;rename_i J;cases o_ay E J (I x (Qh ..));exact Qgd E (λe N=>I e (Qf _ N)) h;cases h
def findAsk_at {kt:QQ}{u:Value}{E:MapEntry}{B:List MapEntry}(h0:EqV P 10000 kt u E.key true): ∀{A:List MapEntry} {i:Nat},(∀e∈A,EqV P 10000 kt u e.key false)->∀w,(Instr.findAsking kt u (A++E::B) i).run P w=.ok (some (i+A.length,E.val)) w
 | [],i,_,w=>by
  have:=h0 w;simp[Instr.findAsking,Op.equal,Op.maxDepth,this]
 |x::A,i,I,w=>by
  have h1:=I x (Qh ..) w;have:=findAsk_at (B:=B) h0 (A:=A) (i:=i+1) (λe J=>I e (Qf _ J)) w;simp only[Yc];unfold Instr.findAsking;simp only[Op.equal,Op.maxDepth,Qp,h1,Qi,Q3,Wd,this];simp[Xn,Y6 1]
def findAsk_no {kt:QQ}{u:Value}: ∀{A:List MapEntry} {i:Nat},(∀e∈A,EqV P 10000 kt u e.key false)->∀w,(Instr.findAsking kt u A i).run P w=.ok none w
 | [],i,_,w=>by simp[Instr.findAsking]
 |x::A,i,E,w=>by
  have h1:=E x (Qh ..) w;have:=findAsk_no (A:=A) (i:=i+1) (λe I=>E e (Qf _ I)) w;unfold Instr.findAsking;simp only[Op.equal,Op.maxDepth,Qp,h1,Qi,Q3,Wd,this]
def find_at {kt:QQ}{d:TypeDesc}{u:Value}{E:MapEntry}{A B:List MapEntry}(I:P.underlying kt=some d)(h0:EqV P 10000 kt u E.key true)(J: ∀e∈A,EqV P 10000 kt u e.key false)(w:World):
  (Instr.findKey kt u (A++E::B)).run P w=.ok (some (A.length,E.val)) w:=by
 unfold Instr.findKey;simp only[Qp,Ql I,Qi];cases N:Instr.findNow d u (A++E::B) 0 with
 |some r=>rw[Qfz I h0 J N];simp
 |none=>have:=findAsk_at (B:=B) h0 (i:=0) J w;simpa using this
def Qlg {kt:QQ}{d:TypeDesc}{u:Value}{A:List MapEntry}(E:P.underlying kt=some d)(I: ∀e∈A,EqV P 10000 kt u e.key false)(w:World):(Instr.findKey kt u A).run P w=.ok none w:=by
 unfold Instr.findKey;simp only[Qp,Ql E,Qi];cases J:Instr.findNow d u A 0 with
 |some r=>rw[Qgd E I J];simp
 |none=>exact findAsk_no I w
def Qfq {kt:QQ}{k:V}: ∀{es:List (V×V)} {i:Nat},look C kt k es i=some none->∀y∈es,eqV C 20 kt k y.1=some false
 | [],_,_=>λ_ h=>by cases h
 |(x,z)::r,i,h=>by
  unfold look at h;split at h;split at h<;>cases h;rename_i I;have:=Qfq h;exact λy E=>by rcases Qn.1 E with rfl|E;exact I;exact this y E
  cases h
def Qim {kt:QQ}{k x v:V}{p:Nat}: ∀{es:List (V×V)} {i:Nat},look C kt k es i=some (some (p,x,v))->∃a b,es=a++(x,v)::b/\p=i+a.length/\eqV C 20 kt k x=some true/\(∀y∈a,eqV C 20 kt k y.1=some false)/\∀y∈b,eqV C 20 kt k y.1=some false
 | [],_,h=>by cases h
 |(y,z)::r,i,h=>by
  unfold look at h;split at h;rename_i E;split at h;rename_i I;simp only[Qg,Qt]at h;obtain⟨rfl,rfl,rfl⟩:=h;exact⟨[],r,rfl,rfl,E,λ_ h=>(by cases h),Qfq I⟩;cases h;rename_i E;obtain⟨a,b,h1,h2,J,N,W⟩:=Qim h;subst h1;exact⟨(y,z)::a,b,rfl,by simp;omega,J,λq hq=>by rcases Qn.1 hq with rfl|hq;exact E;exact N q hq,W⟩;cases h
end
section
variable {P:QR}{C:Cx}{w0:World}{ρ:Rho}{h:T O}{nx:Nat}{w:World}{e:Env}{n:Nat}{a:Act}
def cvp_mem: ∀{x:List (V×V)} {l:List (Value×Value)},cvp ρ x=some l->∀p∈l,∃y∈x,cv ρ y.1=some p.1/\cv ρ y.2=some p.2
 | [],l,h,p,hp=>by rw[Qck h]at hp;cases hp
 |(k,v)::r,l,h,p,hp=>by
  obtain⟨a,b,m,rfl,h1,h2,E⟩:=Qaw h;rcases Qn.1 hp with rfl|hp
  exact⟨(k,v),Qh ..,h1,h2⟩;obtain⟨y,I,J⟩:=cvp_mem E p hp;exact⟨y,Qf _ I,J⟩
def Qez: ∀{x:List (V×V)} {k v:V} {y:List (V×V)} {l:List (Value×Value)},cvp ρ (x++(k,v)::y)=some l->∃E a b I,l=E++(a,b)::I/\cvp ρ x=some E/\cv ρ k=some a/\cv ρ v=some b/\cvp ρ y=some I
 | [],k,v,y,l,h=>by obtain⟨a,b,m,rfl,h1,h2,J⟩:=Qaw h;exact⟨[],a,b,m,rfl,by unfold cvp;rfl,h1,h2,J⟩
 |(p,q)::x,k,v,y,l,h=>by
  obtain⟨a,b,m,rfl,h1,h2,J⟩:=Qaw h;obtain⟨E,a',b',I,rfl,N,W⟩:=Qez J;exact⟨(a,b)::E,a',b',I,rfl,Qds h1 h2 N,W⟩
structure At (P:QR) (kt:QQ) (u:Value) (l A:List MapEntry) (e0:MapEntry) (B:List MapEntry):Prop where
 eq:l=A++e0::B
 yes:EqV P 10000 kt u e0.key true
 noA: ∀e∈A,EqV P 10000 kt u e.key false
 noB: ∀e∈B,EqV P 10000 kt u e.key false
def eqV10 (E:OKC P C){kt:QQ}{k x:V}{b:Bool}{u v:Value}(h:eqV C 20 kt k x=some b)(I:cv ρ k=some u)(J:cv ρ x=some v):EqV P 10000 kt u v b:=o_aH E 20 9980 kt k x b u v h I J
def Qev (hC:OKC P C){kt:QQ}{k x v:V}{p:Nat}{u:Value}{es:List (V×V)}{ks:List (Value×Value)}{l:List MapEntry}(hk:cv ρ k=some u)(hl:look C kt k es 0=some (some (p,x,v)))(hes:cvp ρ es=some ks)(hp:ks.Perm (l.map λe=>(e.key,e.val))):
  ∃A E B a b ka kb,At P kt u l A E B/\es=a++(x,v)::b/\p=a.length/\ks=ka++(E.key,E.val)::kb/\cv ρ x=some E.key/\cv ρ v=some E.val/\cvp ρ a=some ka/\cvp ρ b=some kb/\
   (ka++kb).Perm ((A++B).map λe=>(e.key,e.val)):=by
 obtain⟨a,b,rfl,hpl,h1,h2,h3⟩:=Qim hl;obtain⟨ka,kx,kv,kb,rfl,h4,h5,h6,h7⟩:=Qez hes;have hm:(kx,kv)∈l.map λe=>(e.key,e.val):=hp.mem_iff.1 (Q6 _ (Qh ..));obtain⟨E,he0,I⟩:=W5.1 hm;simp only[Qt]at I;obtain⟨rfl,rfl⟩:=I;obtain⟨A,B,rfl⟩:=Jq he0;have J:(ka++kb).Perm ((A++B).map λe=>(e.key,e.val)):=by
  have:((E.key,E.val)::(ka++kb)).Perm ((E.key,E.val)::((A++B).map λe=>(e.key,e.val))):=by
   refine(List.perm_middle.symm.trans hp).trans ?_;simp only[Xc,Wc];exact List.perm_middle
  exact this.cons_inv
 have N: ∀e∈A++B,EqV P 10000 kt u e.key false:=λe W=>by
  have:(e.key,e.val)∈ka++kb:=J.mem_iff.2 (W5.2 ⟨e,W,rfl⟩);rcases Q8.1 this with h8|h8
  obtain⟨y,hy,h9,_⟩:=cvp_mem h4 _ h8;exact eqV10 hC (h2 y hy) hk h9;obtain⟨y,hy,h9,_⟩:=cvp_mem h7 _ h8;exact eqV10 hC (h3 y hy) hk h9
 exact⟨A,E,B,a,b,ka,kb,⟨rfl,eqV10 hC h1 hk h5,λe W=>N e (Ws _ W),λe W=>N e (Q6 _ W)⟩,rfl,by omega,rfl,h5,h6,h4,h7,J⟩
def Qfl (I:OKC P C){kt:QQ}{k:V}{u:Value}{es:List (V×V)}{ks:List (Value×Value)}{l:List MapEntry}(hk:cv ρ k=some u)(J:look C kt k es 0=some none)(E:cvp ρ es=some ks)(hp:ks.Perm (l.map λe=>(e.key,e.val))):
  ∀e∈l,EqV P 10000 kt u e.key false:=λe N=>by
 have:(e.key,e.val)∈ks:=hp.mem_iff.2 (W5.2 ⟨e,N,rfl⟩);obtain⟨y,W,h9,_⟩:=cvp_mem E _ this;exact eqV10 I (Qfq J y W) hk h9
def run_getObj' {r:Nat}{o:Obj}(E:w.heap[r]?=some o)(I: ∀c t f,o≠ .cells c t f):(getObj r).run P w=.ok o w:=by
 cases o<;>first|(exact absurd rfl (I _ _ _))|simp[getObj,Sem.run,E]
def Qfm {i:Nat}{es:List (V×V)}{c:Nat}(E:mapC h i=some (es,c)): ∃p,h.get i=some (.m es c p):=by
 unfold mapC at E;split at E;rename_i es' c' p I;simp only[Qg,Qt]at E;obtain⟨rfl,rfl⟩:=E;exact⟨p,I⟩;cases E
def mapAt_eq {i:Nat}{es:List (V×V)}(E:mapAt h i=some es): ∃c p,h.get i=some (.m es c p):=by
 unfold mapAt at E;split at E;rename_i es' c I;injection E with E;subst E;obtain⟨p,hp⟩:=Qfm I;exact⟨c,p,hp⟩
 cases E
def o_bR (J:HR P w0 ρ h nx w){m:V}{es:List (V×V)}{u:Value}(I:cv ρ m=some u)(E:mapOf h m=some es): ∃ks arr,cvp ρ es=some ks/\ks.Perm (arr.toList.map λe=>(e.key,e.val))/\
  ((u=.map none/\arr=#[])\/∃b c,u=.map (some b)/\w.heap[b]?=some (.map arr c)):=by
 unfold mapOf at E;split at E;rename_i i N;rw[V.map?_eq N]at I;obtain⟨x,hx,rfl⟩:=cv_m I;obtain⟨c,p,W⟩:=mapAt_eq E;obtain⟨_,x',hx',_,_,ks,arr,h1,h2,h3,_⟩:=J.live i _ W;rw[hx]at hx';injection hx' with hx'
 subst hx';exact⟨ks,arr,h1,h3,.inr ⟨x.b,c,rfl,h2⟩⟩;obtain⟨hn,E⟩:=Qaa E;injection E with E;subst E
 rw[Qjf hn]at I;exact⟨[],#[],by unfold cvp;rfl,by simp,.inl ⟨cv_k I,rfl⟩⟩
def o_c0 {ok b:Bool}{v:V}{z:Value}(E:cv ρ v=some z):cv ρ (okV ok v b)=some (if ok=true then .tuple #[z,.bool b]else z):=by
 unfold okV;cases ok with
 |true=>exact cv_t_mk (Qae E (Qae (Qaz b) (by unfold cvl;rfl)))
 |false=>exact E
def o_de (hC:OKC P C)(hr:HR P w0 ρ h nx w)(hf:Fe ρ e n a){t:QQ}{m k:Operand}{ok:Bool}{v:V}(E:rLook C e h t m k ok=some v):Pk P ρ a w (.lookup t m k ok) v:=by
 unfold rLook at E;split at E
 ·rename_i mv hmv
  split at E
  ·rename_i kv hkv
   split at E
   ·rename_i es hes
    obtain⟨um,h1,h2⟩:=o_b hf hmv;obtain⟨uk,h3,h4⟩:=o_b hf hkv;obtain⟨ks,arr,hks,hp,hcase⟩:=o_bR hr h1 hes;unfold lkV at E;split at E
    ·rename_i kt J hJ
     obtain⟨vt,hu,hT⟩:=o_ac hC hJ;have hkey: ∀r,Qdv C kt kv es=some r->look C kt kv es 0=some r/\∀em w,(Instr.checkKey em 10000 kt uk).run P w=.ok () w:=λr hr=>by
      unfold Qdv at hr;obtain⟨hb,hr⟩:=Qaa hr;unfold keyB at hb;rw[Qd]at hb;exact⟨hr,λem w=>o_aT hC em 20 9980 kt kv uk hb.1 hb.2 h3⟩
     have hut: ∃d,P.underlying kt=some d:=by
      have:=hkey;cases hlb:Qdv C kt kv es with
      |none=>rw[hlb]at E;cases E
      |some r=>
       unfold Qdv at hlb;obtain⟨hb,_⟩:=Qaa hlb;unfold keyB keyT at hb;rw[Qd]at hb;cases hI:C.ty.get kt with
       |none=>rw[hI]at hb;cases hb.1
       |some I=>exact⟨_,(hC.ty kt I hI).u⟩
     obtain⟨d,hd⟩:=hut;have run1: ∀(i:Nat) (z:Value),(Instr.findKey kt uk arr.toList).run P w=.ok (some (i,z)) w->(∀em w,(Instr.checkKey em 10000 kt uk).run P w=.ok () w)->Ex P a w (.lookup t m k ok) (if ok=true then .tuple #[z,.bool true]else z):=λi z hfk N _ _ _ _ _=>by
      rcases hcase with⟨rfl,rfl⟩|⟨bb,c,rfl,hb⟩
      ·simp only[execOp,h2,h4,Instr.lookup,Qp,Ql hu,Qi,Qs,N,hfk]
       try (cases ok<;>rfl)
      ·have hg:=run_getObj' (P:=P) hb (λ_ _ _ h=>by cases h)
       simp only[execOp,h2,h4,Instr.lookup,Qp,Ql hu,Qi,Qs,hg,N,hfk];try (cases ok<;>rfl)
     have run0: ∀(z:Value),(Instr.findKey kt uk arr.toList).run P w=.ok none w->(zeroValue vt).run P w=.ok z w->(∀em w,(Instr.checkKey em 10000 kt uk).run P w=.ok () w)->Ex P a w (.lookup t m k ok) (if ok=true then .tuple #[z,.bool false]else z):=λz hfk hz N _ _ _ _ _=>by
      rcases hcase with⟨rfl,rfl⟩|⟨bb,c,rfl,hb⟩
      ·simp only[execOp,h2,h4,Instr.lookup,Qp,Ql hu,Qi,Qs,N,hfk,hz]
       try (cases ok<;>rfl)
      ·have hg:=run_getObj' (P:=P) hb (λ_ _ _ h=>by cases h)
       simp only[execOp,h2,h4,Instr.lookup,Qp,Ql hu,Qi,Qs,hg,N,hfk,hz];try (cases ok<;>rfl)
     split at E;rename_i p0 x0 v0 W;injection E with E;subst E
     obtain⟨W,N⟩:=hkey _ W;obtain⟨A,e0,B,_,_,_,_,hat,_,_,_,_,hval,_⟩:=Qev hC h3 W hks hp;exact⟨_,o_c0 hval,run1 A.length _ (by rw[hat.eq];exact find_at hd hat.yes hat.noA w) N⟩;rename_i W;injection E with E;subst E
     obtain⟨W,N⟩:=hkey _ W;obtain⟨z,hz,_,hzv,_⟩:=o_ax (ρ:=ρ) hC hT;exact⟨_,o_c0 hzv,run0 _ (Qlg hd (Qfl hC h3 W hks hp) w) (hz w) N⟩;cases E
    cases E
   cases E
  cases E
 cases E
def beq_val {u v:Value}(h:vB u v=true):u=v:=by
 unfold vB at h;split at h;rw[Qd]at h;rw[Q7 h.1,Q7 h.2];rw[eq_of_beq h];rw[Q7 h];all_goals first|rfl|cases h
def capB_eq {x y:Cap}(h:capB x y=true):x=y:=by
 unfold capB at h;split at h;rw[Qk h];rw[Qd]at h;rw[Qk h.1,Qk h.2];cases h
mutual
def Qex: ∀(x y:V),beq x y=true->x=y
 |x,y,h=>by
  unfold beq at h;split at h;rw[beq_val h];rw[Qd]at h;rw[Qk h.1,Qk h.2];simp only[Qd]at h;obtain⟨⟨⟨h1,h2⟩,E⟩,I⟩:=h;rw[Qk h1,Qk h2,Qk E,capB_eq I];rw[Qk h];simp only[Qd]at h;obtain⟨⟨h1,h2⟩,E⟩:=h;rw[Qk h1,Qey _ _ h2,Qey _ _ E];rw[Qk h];rw[Qk h];rw[Qk h];rw[Qd]at h;rw[Qk h.1,Qk h.2];rw[Qey _ _ h];rw[Qey _ _ h];rw[Qd]at h;rw[Qk h.1,Qex _ _ h.2];cases h
def Qey: ∀(x y:List V),beqs x y=true->x=y
 | [],[],_=>rfl
 |a::x,b::y,h=>by
  unfold beqs at h;rw[Qd]at h;rw[Qex _ _ h.1,Qey _ _ h.2]
 | [],_::_,h=>by cases h
 |_::_,[],h=>by cases h
end
def o_dM (hr:HR P w0 ρ h nx w)(hf:Fe ρ e n a){x:Operand}{v:V}(E:rEnt e h x=some v):Pk P ρ a w (.entry x) v:=by
 unfold rEnt at E;split at E;rename_i p hp;split at E;rename_i i hi;split at E;rename_i m c k hcur;split at E;rename_i es c' hm;obtain⟨hc,I⟩:=Qaa E;clear E;have hc:=Qk hc;subst hc;split at I;rename_i k' v' hfind;injection I with I;subst I
 obtain⟨u,h1,h2⟩:=o_b hf hp;rw[V.it?_eq hi]at h1;obtain⟨x1,hx1,rfl⟩:=cv_q h1;have hq: ∃al,h.get i=some (.q m c (.cur k al)):=by
  unfold curOf at hcur;split at hcur;rename_i a1 a2 a3 hg;simp only[Qg,Qt]at hcur;obtain⟨rfl,rfl,rfl⟩:=hcur;exact⟨_,hg⟩;cases hcur
 obtain⟨al,hq⟩:=hq;obtain⟨_,x1',hx1',_,_,y,since,seen,hy,hyb,hit,_,hcu⟩:=hr.live i _ hq;rw[hx1]at hx1';injection hx1' with e1
 subst e1;obtain⟨st,kv,hst,J,hmap⟩:=hcu k al rfl;obtain⟨pp,hg⟩:=Qfm hm;obtain⟨_,y',hy',_,_,ks,arr,hks,harr,hperm,hnod,_,_⟩:=hr.live m _ hg;rw[hy]at hy';injection hy' with e1
 subst e1;have hmem:=List.mem_of_find?_eq_some hfind;have hbq:=List.find?_some hfind;have hkk:k'=k:=Qex _ _ hbq;subst hkk;obtain⟨s1,s2,rfl⟩:=Jq hmem;obtain⟨l1,ak,av,l2,rfl,_,g1,g2,_⟩:=Qez hks;rw[J]at g1;injection g1 with g1
 subst g1;have hmm:(kv,av)∈arr.toList.map λe=>(e.key,e.val):=hperm.mem_iff.1 (Q6 _ (Qh ..));obtain⟨e0,N,W⟩:=W5.1 hmm;simp only[Qt]at W;obtain⟨rfl,rfl⟩:=W;have hborn:e0.born=st:=((hmap arr c harr).2 rfl).1 e0 N rfl;have hfb:arr.find? (λe=>e.born==st)=some e0:=by
  rw[<-Array.find?_toList];obtain⟨A,B,hAB⟩:=Jq N;rw[hAB]at hnod ⊢;rw[List.find?_append];have hA:A.find? (λe=>e.born==st)=none:=by
   rw[List.find?_eq_none];intro q hq hqb;rw[Xc,Wc,Xl]at hnod;have:=hnod.2.2 q.born (W5.2 ⟨q,hq,rfl⟩) e0.born (Qh ..);rw[hborn]at this;exact this (by simpa using hqb)
  rw[hA,List.find?_cons,hborn];simp
 refine⟨_,cv_t_mk (Qae J (Qae g2 (by unfold cvl;rfl))),λ_ _ _ _ _=>?_⟩;have r1:=run_getObj' (P:=P) hit (λ_ _ _ h=>by cases h);have r2:=run_getObj' (P:=P) harr (λ_ _ _ h=>by cases h);simp only[execOp,h2,Instr.entry,Qp,r1,Qi,hst,r2,bne_self_eq_false,Q3,Wd,hfb,Qs];cases I;cases E;cases E;cases E;cases E
end
section
variable {P:QR}{C:Cx}{w0:World}{ρ:Rho}{h:T O}{nx:Nat}{w:World}{e:Env}{n:Nat}{a:Act}
def run_bytes {ad:Addr}{c:Nat}{bs:List UInt8}(J: ∀j b,bs[j]?=some b->w.cell? (ad.add j)=some (.int .u8 (b.toNat:Int))):(Conv.bytesToString (.slice (some ad) bs.length c)).run P w=.ok (.string ⟨bs.toArray⟩) w:=by
 have hload:(loadCells ad bs.length).run P w=.ok (bs.map λb=>Value.int .u8 (b.toNat:Int)).toArray w:=by
  have:=run_loadCells_list (P:=P) w ad (bs.map λb=>Value.int .u8 (b.toNat:Int)) (λj v E=>by
   rw[Q0]at E;cases I:bs[j]? with
   |none=>rw[I]at E;cases E
   |some b=>rw[I]at E;injection E with E;subst E;exact J j b I)
  rw[W6]at this;exact this
 have hloop: ∀(l:List UInt8) (acc:ByteArray),(forIn (m:=Sem) (l.map λb=>Value.int .u8 (b.toNat:Int)) acc λc r=>(match c with
   | .int .u8 m=>(pure (ForInStep.yield (r.push (UInt8.ofNat m.toNat))):Sem (ForInStep ByteArray))
   |_=>stuck "bytesToString: byte expected")).run P w=.ok ⟨acc.data++l.toArray⟩ w:=by
  intro l;induction l with
  |nil=>intro acc;simp
  |cons b r ih=>
   intro acc;simp only[Wc,List.forIn_cons,Qp,Qs,Qi];rw[ih];simp only[ByteArray.push,We,UInt8.ofNat_toNat];congr 2;apply Yf.1;simp
 simp only[Conv.bytesToString,Qp,hload,Qi];rw[<-Array.forIn_toList];have:=hloop bs ByteArray.empty;erw [this];simp[ByteArray.empty,ByteArray.emptyWithCapacity];rfl
def o_bt: ∀{l:List V} {bs:List UInt8} {vs:QL},bytesV l=some bs->cvc ρ l=some vs->bs.length=l.length/\∀(j:Nat) (b:UInt8),bs[j]?=some b->vs[j]?=some (Value.int .u8 (b.toNat:Int))
 | [],bs,vs,h,_=>by injection h with h;subst h;exact⟨rfl,λj b J=>by cases J⟩
 |x::r,bs,vs,h,W=>by
  obtain⟨v,us,rfl,_,h1,h2⟩:=Qao W;unfold bytesV at h;split at h;rename_i b J;split at h;rename_i l hl;injection h with h;subst h
  obtain⟨g1,g2⟩:=o_bt hl h2;refine⟨by simp[g1],λj c N=>?_⟩;cases j with
  |zero=>
   injection N with N;subst N
   unfold byteV at J;split at J;rename_i m hm;obtain⟨E,I⟩:=Qaa J;injection I with I
   have E:m<256:=Qm E;rw[V.int?_eq hm]at h1;rw[cv_k h1,<-I];simp[UInt8.toNat_ofNat',Nat.mod_eq_of_lt E];cases J
  |succ j=>exact g2 j c (by simpa using N)
  cases h;cases h
def o_d5 (E:OKC P C){t:QQ}(h:u8T C t=true): ∃el,P.underlying t=some (.slice el)/\P.underlying el=some (.int .u8):=by
 unfold u8T at h;split at h;rename_i el I;split at h;rename_i hk;exact⟨el,o_w E I,o_cA E hk⟩;cases h;cases h
def HR.cells (hr:HR P w0 ρ h nx w){i o len:Nat}{c:Cap}{T:QQ}{xs:List V}{u:Value}(hu:cv ρ (.s i o len c)=some u)(hrow:Qfs h i=some (T,xs)): ∃x vs arr,ρ i=some x/\u=.slice (some ⟨x.b,x.o+o,none⟩) len (capN x c)/\slOk x o len c=true/\cvc ρ xs=some vs/\
  w.heap[x.b]?=some (.cells arr T (0,0))/\szB P T=some x.s/\x.o+x.c*x.s=arr.size/\(∀k v,vs[k]?=some v->arr[x.o+k]?=some v)/\x.b<w.heap.size/\(∀k v,vs[o+k]?=some v->w.cell? (Addr.add ⟨x.b,x.o+o,none⟩ k)=some v):=by
 obtain⟨x,vs,arr,hx,E,W,hget,I,hcap,_,_,J⟩:=hr.row (rowAt_eq hrow);obtain⟨x',hx',N,rfl⟩:=cv_s hu;rw[hx]at hx';injection hx' with hx'
 subst hx';refine⟨x,vs,arr,hx,rfl,N,E,W,I,hcap,hget,J,λk v hk=>?_⟩;rw[Wf,cellOf W,Xn];exact hget _ _ hk
def o_df (hC:OKC P C)(hr:HR P w0 ρ h nx w)(hf:Fe ρ e n a){s d:QQ}{x:Operand}{v:V}(J:rConv C e h s d x=some v):Pk P ρ a w (.convert s d x) v:=by
 unfold rConv at J;obtain⟨N,h1⟩:=Qaa J;clear J;rw[Qd]at N;obtain⟨el,hs,hel⟩:=o_d5 hC N.1;have hd:=o_u hC N.2;split at h1;rename_i p hp;split at h1;rename_i l E;injection h1 with h1;subst h1
 obtain⟨u,h2,h3⟩:=o_b hf hp;have key:(Conv.bytesToString u).run P w=.ok (.string ⟨l.toArray⟩) w:=by
  unfold bytesOf at E;split at E;rename_i i o len c W;split at E;rename_i T xs hrow;obtain⟨hlen,hbs2⟩:=Qaa E;clear E;rw[V.sl?_eq W]at h2;obtain⟨x1,vs,arr,hx1,rfl,_,hvs,_,_,_,_,_,hcell⟩:=hr.cells h2 hrow;have hl2:=Qk hlen;obtain⟨g1,g2⟩:=o_bt hbs2 (Qbb len (Qbc o hvs));rw[hl2]at g1;have:=run_bytes (P:=P) (w:=w) (ad:=⟨x1.b,x1.o+o,none⟩) (c:=capN x1 c) (bs:=l) (λj b hj=>hcell j _ (by
   have I:=g2 j b hj;rw[W8]at I;split at I;rw[Wj]at I;exact I;cases I))
  rw[g1]at this;exact this;cases E;obtain⟨hn,hbs2⟩:=Qaa E;injection hbs2 with hbs2;subst hbs2
  rw[V.nilS_eq hn]at h2;rw[cv_k h2];simp[Conv.bytesToString];rfl
 refine⟨_,cv_str _,λ_ _ _ _ _=>?_⟩;subst h3;cases hu:a.eval x with
 |slice A len c=>rw[hu]at key;simp[execOp,hu,convert,Ql hs,Ql hd,Ql hel,key]
 |_=>rw[hu]at key;simp[Conv.bytesToString,stuck]at key
 cases h1;cases h1
def o_dg (hC:OKC P C)(hr:HR P w0 ρ h nx w)(hf:Fe ρ e n a){c:Call}{v:V}(I:rCall C e h c=some v):Pk P ρ a w (.call c) v:=by
 unfold rCall at I;split at I;rename_i hcal;obtain⟨cal,xs,ts⟩:=c;subst hcal;obtain⟨x,hx,h1⟩:=o_bi I;obtain⟨t,tr,ht,h2⟩:=o_cZ h1;obtain⟨us,h3,h4⟩:=o_aj hf hx;obtain⟨u,rfl,h5⟩:=cvl1 h3;have E:ts[0]?=some t:=by rw[<-Wi,ht];rfl
 unfold lenM at h2;obtain⟨hm,h6⟩:=Qaa h2;obtain⟨⟨kt,J⟩,hJ⟩:=Xt.1 hm;obtain⟨vt,hu,_⟩:=o_ac hC hJ;split at h6;rename_i es N;injection h6 with h6;subst h6
 obtain⟨ks,arr,W,hp,hcase⟩:=o_bR hr h5 N;have hlen:es.length=arr.size:=by rw[<-Qef W,hp.length_eq];simp
 refine⟨_,cv_nt _,λ_ T _ _ _=>?_⟩;have key:(Builtin.len_ ts T #[u]).run P w=.ok (.int .i64 (es.length:Int)) w:=by
  rcases hcase with⟨rfl,rfl⟩|⟨b,cl,rfl,hb⟩
  simp[Builtin.len_,E,Ql hu,goInt,hlen];have hg:=run_getObj' (P:=P) hb (λ_ _ _ h=>by cases h);simp[Builtin.len_,E,Ql hu,goInt,hg,hlen]
 simp only[execOp,resolve,h4,Qp,Qs,Qi,invoke,builtin,key];cases h6;cases I
def o_bS (N:OKC P C)(I:HR P w0 ρ h nx w)(J:Fe ρ e n a){o:Op}{v:V}(E:read1 C e h o=some v):Pk P ρ a w o v:=by
 unfold read1 at E;split at E;exact o_dd N I J E;exact o_de N I J E;exact o_dM I J E;exact o_df N I J E;exact o_dg N I J E;cases E
def o_bT (I:OKC P C)(N:HR P w0 ρ h nx w)(J:Fe ρ e n a){o:Op}{k:Nat}{v:V}(E:look1 C e h o k=some v):Pk P ρ a w o v:=by
 unfold look1 at E;split at E;exact o_bP I J E;exact o_bS I N J E;unfold orV at E;split at E;rename_i u W;injection E with E;subst E;exact o_bP I J W
 exact o_bS I N J E
end
def Mk (P:QR)(ρ:Rho)(nx:Nat)(a:Act)(w:World)(o:Op)(v:V)(ob:O):Prop:=∃(obj:Obj) (x:Pl) (u:Value),x.b=w.heap.size/\OR P (ρ.add nx x) (w.alloc obj) x ob/\cv (ρ.add nx x) v=some u/\
 ∀(dst:Option Tmp) (T:QQ) (pos:String) (af:Array Edge) (gd:Option (Nat×Bool)),(execOp a.eval ⟨dst,o,T,pos,af,gd⟩).run P w=.ok (.value u) (w.alloc obj)
section
variable {P:QR}{C:Cx}{w0:World}{ρ:Rho}{h:T O}{nx:Nat}{w:World}{e:Env}{n:Nat}{a:Act}
def newCells (hq:ρ nx=none){t:QQ}{J:Ti}(I:OKC P C)(N:C.ty.get t=some J){xs:List V}{vs:QL}(E:cvc ρ xs=some vs)(c:Nat)(W:c*J.n=vs.length):
  OR P (ρ.add nx ⟨w.heap.size,0,c,J.n⟩) (w.alloc (.cells vs.toArray t)) ⟨w.heap.size,0,c,J.n⟩ (.c t xs):=
 ⟨vs,vs.toArray,Qbn (Rho.le_add hq) _ _ E,Xe w _,λk v hk=>by simpa using hk,(I.ty t J N).sz,by simpa using W⟩
def o_d6 (W:OKC P C)(hq:ρ nx=none){t:QQ}{v:V}{ob:O}(E:aAl C nx t=some (v,ob)):Mk P ρ nx a w (.alloc t) v ob:=by
 unfold aAl at E;split at E;rename_i I hI;simp only[Qg,Qt]at E;obtain⟨rfl,rfl⟩:=E;obtain⟨z,hz,J,_,N⟩:=o_ax (ρ:=ρ) W hI;refine⟨.cells z.cells t,⟨w.heap.size,0,1,I.n⟩,_,rfl,by have:=newCells (w:=w) hq W hI J 1 (by simp[N]);simpa using this,Qhz (Rho.add_same _ _ _),λ_ _ _ _ _=>?_⟩;simp[execOp,Instr.alloc,hz w,newVar,newRow];cases E
def o_dN (W:OKC P C)(hq:ρ nx=none)(hf:Fe ρ e n a){t:QQ}{x:Operand}{v:V}{ob:O}(E:aBox C e nx t x=some (v,ob)):Mk P ρ nx a w (.box t x) v ob:=by
 unfold aBox at E;split at E;rename_i p hp;split at E;rename_i J hJ;obtain⟨I,h1⟩:=Qaa E;rw[Qd,X0]at I;simp only[Qg,Qt]at h1;obtain⟨rfl,rfl⟩:=h1;obtain⟨u,h2,h3⟩:=o_b hf hp;obtain⟨vs,N,h5⟩:=Qhh I.1 h2;have hn:=Qk I.2;refine⟨.cells vs.toArray t,⟨w.heap.size,0,1,J.n⟩,_,rfl,newCells (w:=w) hq W hJ N 1 (by rw[Qai N];omega),Qhz (Rho.add_same _ _ _),λ_ _ _ _ _=>?_⟩;simp[execOp,h3,Instr.box,newVar,newRow,h5];cases E;cases E
def rep_ok: ∀{z:List V} {zv:QL} (m:Nat),cvc ρ z=some zv->cvc ρ (rep z m)=some ((List.range (m*zv.length)).map λi=>zv[i%zv.length]!)
 |z,zv,0,h=>by simp[rep];unfold cvc;rfl
 |z,zv,m+1,h=>by
  unfold rep;have:=Qby h (rep_ok m h);rw[this];congr 1;rw[Vf,Y6,List.range_add,Xc,Ve];congr 1;apply List.ext_getElem;simp;intro i h1 h2;simp only[W6,List.length_range]at h2;simp[Nat.mod_eq_of_lt h2,h2];apply Jn;intro i E;simp
def Qip {pl:Nat->Option (Nat×Nat)}: ∀{vs:List (Nat×V)} {zs cs:List V},Qkn pl zs vs=some cs->cs.length=zs.length
 | [],zs,cs,h=>by injection h with h;rw[h]
 |(i,v)::r,zs,cs,h=>by
  unfold Qkn at h;split at h;cases h;obtain⟨E,h1⟩:=Qaa h;rw[Qd,Qd]at E;have h2:=Qk E.1.1;have I:=Qm E.1.2;rw[Qip h1];simp only[Qz,Qx,W7];omega
def o_d7 (W:OKC P C)(hq:ρ nx=none)(hf:Fe ρ e n a){t:QQ}{len:Nat}{ps:Array (Nat×Operand)}{v:V}{ob:O}(E:aBs C e nx t len ps.toList=some (v,ob)):Mk P ρ nx a w (.buildSlice t len ps) v ob:=by
 unfold aBs at E;split at E;rename_i el hel;split at E;rename_i J hJ;split at E;rename_i vs hvs;unfold bsV at E;obtain⟨hb,h1⟩:=Qaa E;rw[Qd]at hb;have hb1:=Qm hb.1;have hb2:=Qm hb.2;split at h1;rename_i cs I;simp only[Qg,Qt]at h1;obtain⟨rfl,rfl⟩:=h1;obtain⟨us,g1,g2,g3⟩:=o_aZ hf hvs;obtain⟨z,hz,hzc,_,N⟩:=o_ax (ρ:=ρ) W hJ;have hrep:=rep_ok len hzc;have hzl:z.cells.toList.length=J.n:=by simpa using N
 rw[hzl]at hrep;obtain⟨cv',g4,g5⟩:=o_aw I hrep g1 g2;have hul:=o_w W hel;have hlen:cv'.length=len*J.n:=by
  rw[Qai g4,Qip I,<-Qai hrep];simp
 refine⟨.cells cv'.toArray el,⟨w.heap.size,0,len,J.n⟩,_,rfl,newCells (w:=w) hq W hJ g4 len (by omega),Qbm (Rho.add_same _ _ _) (Q4 (Qr _)),λ_ _ _ _ _=>?_⟩;have hnot: ¬(2^24<len*J.n):=by omega
 simp only[Q9]at g3;simp only[execOp,g3,Instr.buildSlice,Qp,Ql hul,Qi,o_p W hJ,gt_iff_lt,hnot,Wd];by_cases h0:len*J.n=0;have hl0:len=0:=by
  rcases Nat.mul_eq_zero.1 h0 with h0|h0
  exact h0;omega
 subst hl0;simp only[Jg,Xo,Qs,Qi];have g5':Instr.fill (λi=>some (i*J.n,J.n)) #[] us=some cv'.toArray:=by simpa using g5
 have e0:(Array.range 0).map (λ_=>(default:Value))=#[]:=by apply Yf.1;simp
 simp[e0,g5',newRow,capN];simp only[h0,Wd,Qp,hz w,Qi,Qs];have e1:(Array.range (len*J.n)).map (λx=>z.cells[x%z.cells.size]!)=((List.range (len*J.n)).map λi=>z.cells.toList[i%J.n]!).toArray:=by
  apply Yf.1;simp only[Array.toList_map,Array.toList_range];apply Jn;intro i _;rw[N];simp[getElem!_def]
 rw[e1,g5];simp[newRow,capN];cases h1;cases E;cases E;cases E
def o_d8 (W:OKC P C){nm:Nat}(hr:HR P w0 ρ h nm w)(hq:ρ nx=none)(hf:Fe ρ e n a){t:QQ}{x:Operand}{v:V}{ob:O}(E:aRg C e h nx t x=some (v,ob)):Mk P ρ nx a w (.range t x) v ob:=by
 unfold aRg at E;split at E;rename_i p hp;obtain⟨u,h2,N⟩:=o_b hf hp;unfold rgV at E;split at E;rename_i m hm;obtain⟨I,h1⟩:=Qaa E;obtain⟨⟨kt,J⟩,hJ⟩:=Xt.1 I;obtain⟨vt,hu,_⟩:=o_ac W hJ;split at h1;rename_i es c hmc;simp only[Qg,Qt]at h1;obtain⟨rfl,rfl⟩:=h1;obtain⟨pp,hg⟩:=Qfm hmc;rw[V.map?_eq hm]at h2;obtain⟨y,hy,rfl⟩:=cv_m h2;obtain⟨hmn,y',hy',_,hlt,ks,arr,_,harr,_⟩:=hr.live m _ hg;rw[hy]at hy';injection hy' with e1
 subst e1;have hle:=Rho.le_add (ρ:=ρ) (x:=⟨w.heap.size,0,0,0⟩) hq;refine⟨.mapIter (some y.b) c #[] c,⟨w.heap.size,0,0,0⟩,.pointer (some ⟨w.heap.size,0,none⟩),rfl,⟨y,c,#[],hle _ _ hy,by simp;omega,Xe w _,λ_=>⟨rfl,rfl⟩,λk al hk=>by cases hk⟩,by unfold cv;rw[Rho.add_same],λ_ _ _ _ _=>?_⟩;have r1:=run_getObj' (P:=P) harr (λ_ _ _ h=>by cases h);simp[execOp,N,Instr.range,Ql hu,r1];cases h1;split at E;rename_i s hs;obtain⟨I,h1⟩:=Qaa E;simp only[Qg,Qt]at h1;obtain⟨rfl,rfl⟩:=h1;rw[V.str?_eq hs]at h2;rw[cv_k h2]at N;refine⟨.stringIter s 0,⟨w.heap.size,0,0,0⟩,.pointer (some ⟨w.heap.size,0,none⟩),rfl,Xe w _,by unfold cv;rw[Rho.add_same],λ_ _ _ _ _=>?_⟩;simp[execOp,N,Instr.range,Ql (o_u W I)];obtain⟨I,h1⟩:=Qaa E;rw[Qd]at I;simp only[Qg,Qt]at h1;obtain⟨rfl,rfl⟩:=h1;obtain⟨⟨kt,J⟩,hJ⟩:=Xt.1 I.2;obtain⟨vt,hu,_⟩:=o_ac W hJ;rw[Qjf I.1]at h2;rw[cv_k h2]at N;refine⟨.mapIter none 0 #[] 0,⟨w.heap.size,0,0,0⟩,.pointer (some ⟨w.heap.size,0,none⟩),rfl,⟨_,_,_,Xe w _⟩,by unfold cv;rw[Rho.add_same],λ_ _ _ _ _=>?_⟩;simp[execOp,N,Instr.range,Ql hu];cases E
def o_bu (I:OKC P C){nm:Nat}(W:HR P w0 ρ h nm w)(hq:ρ nx=none)(J:Fe ρ e n a){o:Op}{v:V}{ob:O}(E:Qbw C e h nx o=some (v,ob)):Mk P ρ nx a w o v ob:=by
 unfold Qbw at E;split at E;exact o_d6 I hq E;exact o_dN I hq J E;exact o_d7 I hq J E;rename_i t r;obtain⟨hb,h1⟩:=Qaa E;simp only[Qg,Qt]at h1;obtain⟨rfl,rfl⟩:=h1;have N:r=none:=by cases r<;>first|rfl|cases hb
 subst N;refine⟨.map #[] 0,⟨w.heap.size,0,0,0⟩,.map (some w.heap.size),rfl,⟨[],#[],by unfold cvp;rfl,Xe w _,by simp,by simp,by simp,λj k hk=>by cases hk⟩,by unfold cv;rw[Rho.add_same],λ_ _ _ _ _=>?_⟩;simp[execOp,Instr.makeMap];exact o_d8 I W hq J E;cases E
end
def Do (P:QR)(w0:World)(ρ:Rho)(s:S)(a:Act)(w:World)(o:Op)(v:V)(s':S):Prop:=∃(ρ':Rho) (w':World) (u:Value) (nxt:Next),s'=s.sethn s'.h s'.nx/\HR P w0 ρ' s'.h s'.nx w'/\Tr ρ s.h s.nx w ρ' s'.h s'.nx w' s.fl/\cv ρ' v=some u/\
 (nxt=.value u\/nxt=.skip/\u=undef)/\∀(dst:Option Tmp) (T:QQ) (pos:String) (af:Array Edge) (gd:Option (Nat×Bool)),(execOp a.eval ⟨dst,o,T,pos,af,gd⟩).run P w=.ok nxt w'
def Qft {ρ:Rho}:cv ρ un=some undef:=by unfold un;exact cv_t_mk (by unfold cvl;rfl)
def get_put {α:Type}{L us:List α}{p:Nat}(hp:p+us.length<=L.length)(j:Nat):(L.take p++us++L.drop (p+us.length))[j]?=if j<p then L[j]? else if j<p+us.length then us[j-p]? else L[j]?:=by
 rw[Jz,List.getElem?_append];simp only[Qx,Xx (show p<=L.length by omega)];split;rename_i h1;rw[W8,Qc h1];rename_i h1;rw[List.getElem?_append];split;rename_i h2;rw[Qc (by omega)];rename_i h2;rw[Qb (by omega),Wj];congr 1;omega
section
variable {P:QR}{C:Cx}{w0:World}{ρ:Rho}{h:T O}{nx fl:Nat}{w:World}{e:Env}{n:Nat}{a:Act}{s s':S}
def row_in {vs:QL}{arr:Array Value}{o0 k:Nat}(hget: ∀k v,vs[k]?=some v->arr[o0+k]?=some v)(h0:o0<=arr.size)(hk:k<=vs.length):o0+k<=arr.size:=by
 cases k with
 |zero=>simpa using h0
 |succ k=>
  have:=hget k _ (Qj (by omega));have:=(Qv.1 this).1;omega
def o_c1 {xs ys zs:List V}{o:Nat}(E:Qdp xs o ys=some zs):o+ys.length<=xs.length/\zs=xs.take o++ys++xs.drop (o+ys.length):=by
 unfold Qdp at E;obtain⟨I,h1⟩:=Qaa E;injection h1 with h1
 exact⟨Qm I,h1.symm⟩
def HR.write (W:HR P w0 ρ h nx w){i:Nat}{T:QQ}{xs ys zs:List V}{us:QL}{o:Nat}(hi:h.get i=some (.c T xs))(hfl:fl<=i)(hs:Qdp xs o ys=some zs)(I:cvc ρ ys=some us):
  ∃x arr w',ρ i=some x/\w.heap[x.b]?=some (.cells arr T (0,0))/\x.o+o+us.length<=arr.size/\w'=w.setRow x.b (arr.toList.take (x.o+o)++us++arr.toList.drop (x.o+o+us.length)).toArray/\
   HR P w0 ρ (h.set i (.c T zs)) nx w'/\Tr ρ h nx w ρ (h.set i (.c T zs)) nx w' fl:=by
 obtain⟨x,vs,arr,hx,E,hb,hget,hsz,hcap,_,_,hlt⟩:=W.row hi;obtain⟨h1,rfl⟩:=o_c1 hs;have hul:=Qai I;have hvl:=Qai E;have hin:x.o+(o+us.length)<=arr.size:=row_in hget (by omega) (by omega);have hset:(w.setRow x.b (arr.toList.take (x.o+o)++us++arr.toList.drop (x.o+o+us.length)).toArray).heap[x.b]?=some (.cells (arr.toList.take (x.o+o)++us++arr.toList.drop (x.o+o+us.length)).toArray T (0,0)):=setRow_heap w x.b arr _ T (0,0) hb;have hoth: ∀k,k≠x.b->(w.setRow x.b (arr.toList.take (x.o+o)++us++arr.toList.drop (x.o+o+us.length)).toArray).heap[k]?=w.heap[k]?:=λk hk=>setRow_other w x.b k _ hk;have J:(w.setRow x.b (arr.toList.take (x.o+o)++us++arr.toList.drop (x.o+o+us.length)).toArray).heap.size=w.heap.size:=by simp[World.setRow]
 refine⟨x,arr,_,hx,hb,by omega,rfl,W.upd hi hx J hoth rfl rfl rfl (λarr' c' N=>?_) ?_,Tr.upd W hi hx J hoth hfl⟩;rw[hset]at N;injection N with N;cases N
 refine⟨vs.take o++us++vs.drop (o+us.length),_,by rw[hul];exact Qby (Qby (Qbb o E) I) (Qbc _ E),hset,λk v hk=>?_,hsz,?_⟩;rw[get_put (by omega)]at hk;simp only[Wv];rw[get_put (by simp;omega)];split at hk;rename_i g1;rw[Qc (by omega)];have:=hget k v hk;simpa using this;rename_i g1;rw[Qb (by omega)];split at hk;rename_i g2;rw[Qc (by omega),<-hk];congr 1;omega;rename_i g2;rw[Qb (by omega)];have:=hget k v hk;simpa using this;simp only[Xk,Qz,Qx,W7,Yo];omega
def Qat {i fl:Nat}(E:Nat.blt i fl=false):fl<=i:=by
 rcases Yh i fl with h1|h1
 have:Nat.blt i fl=true:=J3 h1;rw[this]at E;cases E;exact h1
def o_c2 (hC:OKC P C)(hr:HR P w0 ρ s.h s.nx w)(hf:Fe ρ s.env n a){t:QQ}{x y:Operand}{v:V}(E:Qfy C s t x y=some (v,s')):Do P w0 ρ s a w (.store t x y) v s':=by
 unfold Qfy at E;split at E;rename_i p hp;split at E;rename_i i o N;split at E;rename_i q hq;split at E;rename_i J hJ;obtain⟨W,h1⟩:=Qaa E;rw[Qd,X0]at W;unfold storeAt at h1;obtain⟨hfl,h2⟩:=Qap h1;split at h2;rename_i T xs hrow;split at h2;rename_i ys hys;simp only[Qg,Qt]at h2;obtain⟨rfl,rfl⟩:=h2;obtain⟨u1,g1,g2⟩:=o_b hf hp;obtain⟨u2,g3,g4⟩:=o_b hf hq;obtain⟨us,g5,g6⟩:=Qhh W.2 g3;rw[V.ptr?_eq N]at g1;obtain⟨x1,hx1,rfl⟩:=cv_p g1;obtain⟨x2,arr,w',I,k2,k3,k4,k5,k6⟩:=hr.write (rowAt_eq hrow) (Qat hfl) hys g5;rw[hx1]at I;injection I with I
 subst I;refine⟨ρ,w',undef,.skip,rfl,k5,k6,Qft,.inr ⟨rfl,rfl⟩,λ_ _ _ _ _=>?_⟩;have hn:us.length=J.n:=by rw[Qai g5];exact Qk W.1
 have hrun:=run_storeB (P:=P) (t:=t) (v:=u2) (new:=us) (m:=J.n) (cs:=arr.toList) (bt:=T) (g:=x1.b) (o:=x1.o+o) (by simpa[Blk] using k2) (o_p hC hJ) g6 hn (by simp;omega) (cvc_one g5);rw[<-hn,<-k4]at hrun;simp only[execOp,g2,g4,Qp,hrun,Qi,Qs];cases h2;cases h2;cases E;cases E;cases E;cases E
def o_bk (I:Fe ρ e n a){m:Operand}{i:Nat}(E:mapI e m=some i): ∃x,ρ i=some x/\a.eval m=.map (some x.b):=by
 unfold mapI at E;split at E;rename_i v J;obtain⟨u,h1,h2⟩:=o_b I J;rw[V.map?_eq E]at h1;obtain⟨x,hx,rfl⟩:=cv_m h1;exact⟨x,hx,h2⟩;cases E
def o_cF {i c:Nat}{es:List (V×V)}(E:mapW s i=some (es,c)):s.fl<=i/\∃p,s.h.get i=some (.m es c p):=by
 unfold mapW at E;obtain⟨I,h1⟩:=Qap E;refine⟨Qat I,?_⟩;split at h1;rename_i es' c' p J;simp only[Qg,Qt]at h1;obtain⟨rfl,rfl⟩:=h1;exact⟨p,J⟩;cases h1
def Qcq {v:Value}{d:Nat}(E:Qkj v=true):Instr.sameBits d v v=true:=by
 cases v<;>first|(cases E;done)|(cases d<;>simp[Instr.sameBits];done)|(cases d<;>simp only[Instr.sameBits]<;>exact bbeq _)
def Qcv {k:V}{u:Value}(hk:flKy k=true)(J:cv ρ k=some u):Instr.sameBits 10000 u u=true:=by
 cases k with
 |k v=>rw[cv_k J];exact Qcq hk
 |g l=>
  obtain⟨vs,h1,rfl⟩:=cv_g J;replace hk:l.all flatC=true:=hk;have hall: ∀v∈vs,Qkj v=true:=by
   clear J;induction l generalizing vs with
   |nil=>rw[Qdh h1];intro v W;cases W
   |cons x r ih=>
    rw[X7,Qd]at hk;obtain⟨v,us,rfl,_,h2,h3⟩:=Qao h1;intro y N;rcases Qn.1 N with rfl|N
    cases x with
    |k q=>rw[cv_k h2];exact hk.1
    |_=>cases hk.1
    exact ih us h3 hk.2 y N
  show(vs.toArray.size==vs.toArray.size&&(vs.toArray.toList.zip vs.toArray.toList).all λ(x,y)=>Instr.sameBits 9999 x y)=true;simp only[BEq.rfl,Xj,Q5];intro q hq;have hz: ∀{l:QL},q∈l.zip l->q.1=q.2/\q.1∈l:=λ{l}=>by
   induction l with
   |nil=>intro h;cases h
   |cons b l ih=>
    intro h;rw[List.zip_cons_cons]at h;rcases Qn.1 h with rfl|h
    exact⟨rfl,Qh ..⟩;obtain⟨E,I⟩:=ih h;exact⟨E,Qf _ I⟩
  obtain⟨E,I⟩:=hz hq;obtain⟨q1,q2⟩:=q;simp only at E I;subst E;exact Qcq (hall q1 (by simpa using I))
 |_=>cases hk
def run_setObj' {r:Nat}{o o':Obj}(E:w.heap[r]?=some o)(I: ∀c t f,o≠ .cells c t f):(setObj r o').run P w=.ok () (w.putObj r o'):=by
 cases o<;>first|(exact absurd rfl (I _ _ _))|simp[setObj,Sem.run,E,World.putObj]
def Qhq {v x u:V}{b:List (V×V)}: ∀(a:List (V×V)),Qkx v (a++(x,u)::b) a.length=a++(x,v)::b
 | []=>rfl
 |(y,z)::a=>by simp only[Yc,Q2];show(y,z)::Qkx v _ _=_;rw[Qhq a]
def HR.putMap (W:HR P w0 ρ h nx w){i c c':Nat}{es es':List (V×V)}{p p':Option (Nat×Nat)}{x:Pl}{arr arr':Array MapEntry}{ks':List (Value×Value)}(hi:h.get i=some (.m es c p))(hx:ρ i=some x)(harr:w.heap[x.b]?=some (.map arr c))(J:x.b<w.heap.size)
  (h1:cvp ρ es'=some ks') (h2:ks'.Perm (arr'.toList.map λe=>(e.key,e.val))) (h3:(arr'.toList.map (·.born)).Nodup) (h4: ∀e∈arr'.toList,e.born<c') (h5: ∀j q,p'=some (j,q)->∃y A ent B ka kb,ρ j=some y/\arr'.toList=A++ent::B/\ent.born=y.b/\ks'=ka++(ent.key,ent.val)::kb/\ka.length=q/\(ka++kb).Perm ((A++B).map λe=>(e.key,e.val)))
  (hc:c<=c') (hben:c'=c->∀e'∈arr'.toList,∃e∈arr.toList,e.key=e'.key/\e.born=e'.born) (N:fl<=i):
  HR P w0 ρ (h.set i (.m es' c' p')) nx (w.putObj x.b (.map arr' c'))/\Tr ρ h nx w ρ (h.set i (.m es' c' p')) nx (w.putObj x.b (.map arr' c')) fl:=by
 have hsame:(w.putObj x.b (.map arr' c')).heap[x.b]?=some (.map arr' c'):=Wm J;have hoth: ∀k,k≠x.b->(w.putObj x.b (.map arr' c')).heap[k]?=w.heap[k]?:=λk hk=>Wy hk;have E:(w.putObj x.b (.map arr' c')).heap.size=w.heap.size:=by simp
 exact⟨W.upd hi hx E hoth rfl rfl rfl (λa2 c2 I=>by
  rw[hsame]at I;injection I with I
  injection I with e1 e2
  subst e1;subst e2;exact⟨arr,c,harr,hc,hben⟩) ⟨ks',arr',h1,hsame,h2,h3,h4,h5⟩,Tr.upd W hi hx E hoth N⟩
end
section
variable {P:QR}{C:Cx}{w0:World}{ρ:Rho}{h:T O}{nx fl:Nat}{w:World}{e:Env}{n:Nat}{a:Act}{s s':S}
def Qfk {α:Type}(f:α->α)(x:α)(B:List α): ∀A:List α,(A++x::B).modify A.length f=A++f x::B
 | []=>rfl
 |a::A=>by simp only[Yc,Q2,List.modify_succ_cons,Qfk f x B A]
def Qdd {arr:Array MapEntry}{A B:List MapEntry}{E:MapEntry}(h:arr.toList=A++E::B)(f:MapEntry->MapEntry):(arr.modify A.length f).toList=A++f E::B:=by
 rw[Array.toList_modify,h,Qfk]
def arr_get {arr:Array MapEntry}{A B:List MapEntry}{E:MapEntry}(h:arr.toList=A++E::B):arr[A.length]?=some E:=by
 rw[<-Wi,h];simp
def o_az (N:OKC P C){kt:QQ}{k:V}{u:Value}{es:List (V×V)}{r:Option (Nat×V×V)}(hu:cv ρ k=some u)(W:Qdv C kt k es=some r):look C kt k es 0=some r/\(∀em w,(Instr.checkKey em 10000 kt u).run P w=.ok () w)/\∃d,P.underlying kt=some d:=by
 unfold Qdv at W;obtain⟨J,h1⟩:=Qaa W;unfold keyB at J;rw[Qd]at J;refine⟨h1,λem w=>o_aT N em 20 9980 kt k u J.1 J.2 hu,?_⟩;have E:=J.1;unfold keyT at E;cases hI:C.ty.get kt with
 |none=>rw[hI]at E;cases E
 |some I=>exact⟨_,(N.ty kt I hI).u⟩
def Qib {α:Type}{ka kb:List α}{y:α}{β:Type}{f:β->α}{A B:List β}{b:β}(hp:(ka++kb).Perm ((A++B).map f))(E:f b=y):(ka++y::kb).Perm ((A++b::B).map f):=by
 rw[Xc,Wc,E];rw[Xc]at hp;exact List.perm_middle.trans ((hp.cons y).trans List.perm_middle.symm)
def keyStays {u:Value}(h:Instr.sameBits 10000 u u=true)(w:World):(Instr.keyThatStays u u).run P w=.ok u w:=by
 simp[Instr.keyThatStays,h]
def o_dO (hC:OKC P C)(hr:HR P w0 ρ s.h s.nx w){t:QQ}{kt vt:QQ}{i c:Nat}{es:List (V×V)}{k v r:V}{uk uv:Value}{x:Pl}(hx:ρ i=some x)(hu:P.underlying t=some (.map kt vt))(hk:cv ρ k=some uk)(hv:cv ρ v=some uv)(hm:mapW s i=some (es,c))
  (hl:putM s i es c k v (Qdv C kt k es)=some (r,s')): ∃w',s'=s.sethn s'.h s'.nx/\r=un/\HR P w0 ρ s'.h s'.nx w'/\Tr ρ s.h s.nx w ρ s'.h s'.nx w' s.fl/\(Instr.mapUpdate t (.map (some x.b)) uk uv).run P w=.ok () w':=by
 obtain⟨hfl,p,hg⟩:=o_cF hm;obtain⟨_,x',hx',_,hlt,ks,arr,N,harr,hperm,hnod,hborn,_⟩:=hr.live i _ hg;rw[hx]at hx';injection hx' with e1
 subst e1;have hget:=run_getObj' (P:=P) harr (λ_ _ _ h=>by cases h);have hset: ∀o',(setObj x.b o').run P w=.ok () (w.putObj x.b o'):=λo'=>run_setObj' harr (λ_ _ _ h=>by cases h);unfold putM at hl;split at hl;rename_i p0 x0 v0 W;obtain⟨hb,h1⟩:=Qaa hl;rw[Qd]at hb;simp only[Qg,Qt]at h1;obtain⟨rfl,rfl⟩:=h1;obtain⟨hlk2,hck,d,hd⟩:=o_az hC hk W;obtain⟨A,e0,B,a1,b1,ka,kb,I,rfl,rfl,rfl,J,hval,hka,hkb,hp2⟩:=Qev hC hk hlk2 N hperm;have:=Qex _ _ hb.1;subst this;rw[hk]at J;injection J with J
 subst J;have hmod:=Qdd I.eq (λe=>{e with key:=e0.key,val:=uv});obtain⟨g1,g2⟩:=hr.putMap (fl:=s.fl) (es':=Qkx v (a1++(k,v0)::b1) a1.length) (p':=none) (c':=c) (arr':=arr.modify A.length λe=>{e with key:=e0.key,val:=uv}) (ks':=ka++(e0.key,uv)::kb) hg hx harr hlt
  (by rw[Qhq];exact Qfa hka (Qds hk hv hkb)) (by rw[hmod];exact Qib hp2 rfl) (by rw[hmod];rw[I.eq]at hnod;simpa using hnod)
  (λe E=>by
   rw[hmod]at E;rcases Q8.1 E with E|E
   exact hborn e (by rw[I.eq];exact Ws _ E);rcases Qn.1 E with rfl|E
   exact hborn e0 (by rw[I.eq];exact Q6 _ (Qh ..));exact hborn e (by rw[I.eq];exact Q6 _ (Qf _ E)))
  (λj q hq=>by cases hq) (Qr _)
  (λ_ e' he'=>by
   rw[hmod]at he';rw[I.eq];rcases Q8.1 he' with E|E
   exact⟨e',Ws _ E,rfl,rfl⟩;rcases Qn.1 E with rfl|E
   exact⟨e0,Q6 _ (Qh ..),rfl,rfl⟩;exact⟨e',Q6 _ (Qf _ E),rfl,rfl⟩) hfl
 refine⟨_,rfl,rfl,g1,g2,?_⟩;have hfind:=find_at hd I.yes I.noA (B:=B) w;rw[<-I.eq]at hfind;have hkey:=keyStays (P:=P) (Qcv hb.2 hk) w;simp only[Instr.mapUpdate,Qp,Ql hu,Qi,hget,hck,hfind,arr_get I.eq,Wo,Y0,hkey,hset];rename_i W;simp only[Qg,Qt]at hl;obtain⟨rfl,rfl⟩:=hl;obtain⟨hlk2,hck,d,hd⟩:=o_az hC hk W;have hno:=Qfl hC hk hlk2 N hperm;obtain⟨g1,g2⟩:=hr.putMap (fl:=s.fl) (es':=es++[(k,v)]) (p':=none) (c':=c+1) (arr':=arr.push {key:=uk,val:=uv,born:=c}) (ks':=ks++[(uk,uv)]) hg hx harr hlt
  (Qfa N (Qds hk hv (by unfold cvp;rfl))) (by rw[Yv,Xc];exact hperm.append_right _)
  (by
   rw[Yv,Xc,Xl];refine⟨hnod,by simp,λb hb q hq=>?_⟩;obtain⟨e,E,rfl⟩:=W5.1 hb;have:=hborn e E;simp at hq;omega)
  (λe E=>by
   rw[Yv]at E;rcases Q8.1 E with E|E
   have:=hborn e E;omega;simp at E;subst E;simp)
  (λj q hq=>by cases hq) (by omega) (λhc=>by omega) hfl
 refine⟨_,rfl,rfl,g1,g2,?_⟩;have hfind:=Qlg hd hno w;simp only[Instr.mapUpdate,Qp,Ql hu,Qi,hget,hck,hfind,hset];cases hl
def o_cG (hC:OKC P C)(hr:HR P w0 ρ s.h s.nx w)(I:Fe ρ s.env n a){t:QQ}{m k x:Operand}{v:V}{o:Op}(ho:o=.mapUpdate t m k x\/o=.insert t m k x)(E:eUpd C s t m k x=some (v,s')):Do P w0 ρ s a w o v s':=by
 unfold eUpd at E;split at E;rename_i i hi;split at E;rename_i kv N;split at E;rename_i xv W;split at E;rename_i kt J hJ;split at E;rename_i es c hm;obtain⟨x1,hx1,hm1⟩:=o_bk I hi;obtain⟨uk,h1,h2⟩:=o_b I N;obtain⟨uv,h3,h4⟩:=o_b I W;obtain⟨vt,hu,_⟩:=o_ac hC hJ;obtain⟨w',g1,rfl,g3,g4,g5⟩:=o_dO hC hr hx1 hu h1 h3 hm E;refine⟨ρ,w',undef,.skip,g1,g3,g4,Qft,.inr ⟨rfl,rfl⟩,λ_ _ _ _ _=>?_⟩;rcases ho with rfl|rfl<;>simp only[execOp,hm1,h2,h4,Qp,g5,Qi,Qs]
 cases E;cases E;cases E;cases E;cases E
end
end Go.M
end
