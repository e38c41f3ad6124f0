import Derived.Test.YtlbdgahbamalcaaGreatDoorL1
set_option linter.unusedVariables false
set_option maxRecDepth 20000
set_option linter.unusedSimpArgs false
set_option linter.unusedSectionVars false
section
namespace Go.A
open Go.RowKit Go.Z
theorem z0:h6 0:=hasl .i64 (0) rfl
theorem ck{b:Bool}{p:Prop}(h:p)(e:b=true:=by kernel_rfl):b=true/\p:=⟨e,h⟩
theorem b{α β:Type}{x:Option α}{f:α->Option β}{y:β}(h:x.bind f=some y):∃v,x=some v/\f v=some y:=Jd.1 h
theorem g{α:Type}{p:Prop}[Decidable p]{x:Option α}{y:α}(h:gd p x=some y):p/\x=some y:=gd_some h
section
variable{r:Option Nat}{P:Program}{ops:Array Oper}{Q:Exit->Act->World->Prop}{lst rest:List Oper}{C:Cx}{l:List (Nat×Value)}{H:List (Nat×Res)}{Y:Exit->Act->World->Prop}{K:List Kx}
theorem n(k:Nat)(nl:List (Nat×Value))(h:AL r P ops Q (lst.drop k) C (cat nl l) H)
    (hq:((qs P ⟨knb H [],kne H []⟩ C.n ops (List.replicate k .n) lst (Z.q0 l)).bind (qfin l (nl.map Prod.fst)))=some ([],nl):=by kernel_rfl)
    (he:(qs P ⟨knb H [],kne H []⟩ C.n ops (List.replicate k .n) lst (Z.q0 l)).map (fun s=>s.q.map Prod.fst)=(qs P ⟨knb H [],kne H []⟩ C.n ops (List.replicate k .n) lst (Z.q0 l)).map (fun s=>s.q.map Prod.snd):=by kernel_rfl):AL r P ops Q lst C l H:=q0 [] [] (List.replicate k .n) nl (by rw[Jl];exact h) hq he
theorem m(k:Nat)(cs:List Prop)(nl:List (Nat×Value))(hc:conj cs)(h:AL r P ops Q (lst.drop k) C (cat nl l) H)
    (hq:((qs P ⟨knb H [],kne H []⟩ C.n ops (List.replicate k .n) lst (Z.q0 l)).bind (qfin l (nl.map Prod.fst)))=some (cs,nl):=by kernel_rfl)
    (he:(qs P ⟨knb H [],kne H []⟩ C.n ops (List.replicate k .n) lst (Z.q0 l)).map (fun s=>s.q.map Prod.fst)=(qs P ⟨knb H [],kne H []⟩ C.n ops (List.replicate k .n) lst (Z.q0 l)).map (fun s=>s.q.map Prod.snd):=by kernel_rfl):AL r P ops Q lst C l H:=q [] [] (List.replicate k .n) cs nl hc (by rw[Jl];exact h) hq he
theorem c{ρ:Type}{A B R:Option ρ}{c:Operand}{x y:Code}{p:Prop}[Decidable p](hF:(if p then A else B)=R)(ht:p->A=R->AX r P Y K x C l H)(he:¬p->B=R->AX r P Y K y C l H)(hc:ev l c=some (.bool (decide p)):=by rfl):AX r P Y K (.cond c x y) C l H:=AX.cnd hc hF ht he
theorem d{ρ:Type}{A B R:Option ρ}{c:Operand}{x y:Code}{b:Bool}(hF:(if b=true then A else B)=R)(ht:b=true->A=R->AX r P Y K x C l H)(he:b=false->B=R->AX r P Y K y C l H)(hc:ev l c=some (.bool b):=by rfl):AX r P Y K (.cond c x y) C l H:=AX.cnb hc hF ht he
theorem zb(k:Nat)(nl:List (Nat×Value))(j:Nat){K':List Kx}{c':Code}(h:AX r P Y K' c' C (cat nl l) H)(e0:lst.drop k=[]:=by rfl)
    (hq:((qs P ⟨knb H [],kne H []⟩ C.n ops (List.replicate k .n) lst (Z.q0 l)).bind (qfin l (nl.map Prod.fst)))=some ([],nl):=by kernel_rfl)
    (he:(qs P ⟨knb H [],kne H []⟩ C.n ops (List.replicate k .n) lst (Z.q0 l)).map (fun s=>s.q.map Prod.fst)=(qs P ⟨knb H [],kne H []⟩ C.n ops (List.replicate k .n) lst (Z.q0 l)).map (fun s=>s.q.map Prod.snd):=by kernel_rfl)
    (e:nxs j none K=some (some c',K'):=by rfl):AL r P ops (kont r P Y K) lst C l H:=n k nl (by rw[e0];exact dx j h e) hq he
theorem zc(k:Nat)(nl:List (Nat×Value))(j:Nat){K':List Kx}{id:Nat}{lo:List Oper}(h:AL r P lo.toArray (kont r P Y K') lo C (cat nl l) H)(e0:lst.drop k=[]:=by rfl)
    (hq:((qs P ⟨knb H [],kne H []⟩ C.n ops (List.replicate k .n) lst (Z.q0 l)).bind (qfin l (nl.map Prod.fst)))=some ([],nl):=by kernel_rfl)
    (he:(qs P ⟨knb H [],kne H []⟩ C.n ops (List.replicate k .n) lst (Z.q0 l)).map (fun s=>s.q.map Prod.fst)=(qs P ⟨knb H [],kne H []⟩ C.n ops (List.replicate k .n) lst (Z.q0 l)).map (fun s=>s.q.map Prod.snd):=by kernel_rfl)
    (e:nxs j none K=some (some (.region id lo.toArray false),K'):=by rfl):AL r P ops (kont r P Y K) lst C l H:=n k nl (by rw[e0];exact dl j h e) hq he
theorem zd(bs es:List Nat)(hs:List Hint)(nl:List (Nat×Value))(j:Nat){K':List Kx}{c':Code}(h:AX r P Y K' c' C (cat nl l) H)(e0:lst.drop hs.length=[]:=by rfl)
    (hq:((qs P ⟨knb H bs,kne H es⟩ C.n ops hs lst (Z.q0 l)).bind (qfin l (nl.map Prod.fst)))=some ([],nl):=by kernel_rfl)
    (he:(qs P ⟨knb H bs,kne H es⟩ C.n ops hs lst (Z.q0 l)).map (fun s=>s.q.map Prod.fst)=(qs P ⟨knb H bs,kne H es⟩ C.n ops hs lst (Z.q0 l)).map (fun s=>s.q.map Prod.snd):=by kernel_rfl)
    (e:nxs j none K=some (some c',K'):=by rfl):AL r P ops (kont r P Y K) lst C l H:=q0 bs es hs nl (by rw[e0];exact dx j h e) hq he
theorem ze(i k:Nat)(nl:List (Nat×Value)){K':List Kx}{id:Nat}{lo:List Oper}{c:Code}(h:AL r P lo.toArray (kont r P Y K') (lo.drop k) C (cat nl l) H)(e:nxs i (some c) K=some (some (.region id lo.toArray false),K'):=by rfl)
    (hq:((qs P ⟨knb H [],kne H []⟩ C.n lo.toArray (List.replicate k .n) lo (Z.q0 l)).bind (qfin l (nl.map Prod.fst)))=some ([],nl):=by kernel_rfl)
    (he:(qs P ⟨knb H [],kne H []⟩ C.n lo.toArray (List.replicate k .n) lo (Z.q0 l)).map (fun s=>s.q.map Prod.fst)=(qs P ⟨knb H [],kne H []⟩ C.n lo.toArray (List.replicate k .n) lo (Z.q0 l)).map (fun s=>s.q.map Prod.snd):=by kernel_rfl):AX r P Y K c C l H:=xl i (n k nl h hq he) e
theorem zf(i k:Nat)(nl:List (Nat×Value))(j:Nat){K' K2:List Kx}{id:Nat}{lo:List Oper}{c c':Code}(h:AX r P Y K2 c' C (cat nl l) H)(e:nxs i (some c) K=some (some (.region id lo.toArray false),K'):=by rfl)(e0:lo.drop k=[]:=by rfl)
    (hq:((qs P ⟨knb H [],kne H []⟩ C.n lo.toArray (List.replicate k .n) lo (Z.q0 l)).bind (qfin l (nl.map Prod.fst)))=some ([],nl):=by kernel_rfl)
    (he:(qs P ⟨knb H [],kne H []⟩ C.n lo.toArray (List.replicate k .n) lo (Z.q0 l)).map (fun s=>s.q.map Prod.fst)=(qs P ⟨knb H [],kne H []⟩ C.n lo.toArray (List.replicate k .n) lo (Z.q0 l)).map (fun s=>s.q.map Prod.snd):=by kernel_rfl)
    (e2:nxs j none K'=some (some c',K2):=by rfl):AX r P Y K c C l H:=ze i k nl (by rw[e0];exact dx j h e2) e hq he
theorem zg(i k:Nat)(nl:List (Nat×Value))(j:Nat){ρ:Type}{A0 B0 R:Option ρ}{p:Prop}[Decidable p](E:(if p then A0 else B0)=R){K' K2:List Kx}{id:Nat}{lo:List Oper}{c x y:Code}{o:Operand}(I:p->A0=R->AX r P Y K2 x C (cat nl l) H)(L:¬p->B0=R->AX r P Y K2 y C (cat nl l) H)(e:nxs i (some c) K=some (some (.region id lo.toArray false),K'):=by rfl)(e0:lo.drop k=[]:=by rfl)
    (hq:((qs P ⟨knb H [],kne H []⟩ C.n lo.toArray (List.replicate k .n) lo (Z.q0 l)).bind (qfin l (nl.map Prod.fst)))=some ([],nl):=by kernel_rfl)
    (he:(qs P ⟨knb H [],kne H []⟩ C.n lo.toArray (List.replicate k .n) lo (Z.q0 l)).map (fun s=>s.q.map Prod.fst)=(qs P ⟨knb H [],kne H []⟩ C.n lo.toArray (List.replicate k .n) lo (Z.q0 l)).map (fun s=>s.q.map Prod.snd):=by kernel_rfl)
    (e2:nxs j none K'=some (some (.cond o x y),K2):=by rfl)(N:ev (cat nl l) o=some (.bool (decide p)):=by rfl):AX r P Y K c C l H:=zf i k nl j (A.c E I L N) e e0 hq he e2
theorem zh(i:Nat)(bs es:List Nat)(hs:List Hint)(nl:List (Nat×Value)){K':List Kx}{id:Nat}{lo:List Oper}{c:Code}(h:AL r P lo.toArray (kont r P Y K') (lo.drop hs.length) C (cat nl l) H)(e:nxs i (some c) K=some (some (.region id lo.toArray false),K'):=by rfl)
    (hq:((qs P ⟨knb H bs,kne H es⟩ C.n lo.toArray hs lo (Z.q0 l)).bind (qfin l (nl.map Prod.fst)))=some ([],nl):=by kernel_rfl)
    (he:(qs P ⟨knb H bs,kne H es⟩ C.n lo.toArray hs lo (Z.q0 l)).map (fun s=>s.q.map Prod.fst)=(qs P ⟨knb H bs,kne H es⟩ C.n lo.toArray hs lo (Z.q0 l)).map (fun s=>s.q.map Prod.snd):=by kernel_rfl):AX r P Y K c C l H:=xl i (q0 bs es hs nl h hq he) e
theorem zi(i:Nat)(bs es:List Nat)(hs:List Hint)(nl:List (Nat×Value))(j:Nat){K' K2:List Kx}{id:Nat}{lo:List Oper}{c c':Code}(h:AX r P Y K2 c' C (cat nl l) H)(e:nxs i (some c) K=some (some (.region id lo.toArray false),K'):=by rfl)(e0:lo.drop hs.length=[]:=by rfl)
    (hq:((qs P ⟨knb H bs,kne H es⟩ C.n lo.toArray hs lo (Z.q0 l)).bind (qfin l (nl.map Prod.fst)))=some ([],nl):=by kernel_rfl)
    (he:(qs P ⟨knb H bs,kne H es⟩ C.n lo.toArray hs lo (Z.q0 l)).map (fun s=>s.q.map Prod.fst)=(qs P ⟨knb H bs,kne H es⟩ C.n lo.toArray hs lo (Z.q0 l)).map (fun s=>s.q.map Prod.snd):=by kernel_rfl)
    (e2:nxs j none K'=some (some c',K2):=by rfl):AX r P Y K c C l H:=zh i bs es hs nl (by rw[e0];exact dx j h e2) e hq he
@[elab_as_elim]theorem ke{ρ:Type}{x y:ρ}{M:ρ->Prop}(e:some x=some y)(h:M x):M y:=by cases e;exact h
theorem zj{t n:Nat}{v:Value}{fn:Func}{w0:World}{S:List Nat}{F:Nat->Prop}{R:Value->List (Nat×Res)->Prop}(hR:R v (A.ren H []))(hf:fn.results=#[.tmp t]:=by rfl)(hv:lk l t=some v:=by rfl):AX r P (bodyPost P fn fun e w'=>∃v H',e=.returned v/\R v H'/\Hp ⟨0,[],w0,S,F⟩ H' w') K .ret ⟨n,[],w0,S,F⟩ l H:=rt1 [] hR hf hv
theorem zk(n:Int)(h:decide (IntKind.i64.has n)=true:=by rfl):IntKind.i64.has n:=hasl .i64 n h
theorem v{ρ σ:Type}{d:Tmp}{T:TypeId}{pos:String}{af:Array Edge}(n:Nat)(js:List Nat){f:FuncId}{c:Operand}{xs:List Operand}{vs:List Value}{ts:Array TypeId}{H0:List (Nat×Res)}{ms:List (Nat×Nat)}{ls:List Nat}{S:List Nat}{R:ρ->Value->List (Nat×Res)->Prop}{X:Option ρ}{fF:ρ->Option σ}{yF:σ}
    (hF:X.bind fF=some yF)(hct:∀x,X=some x->Ct P f vs H0 S (R x))(hs:Sub H H0 ms ls)
    (h:∀x,X=some x->fF x=some yF->∀v H',R x v H'->(outs H'&&frs n H H')=true/\AL r P ops Q rest C ((d,v)::l) (hcat (sft n H') (kld js H (ms.map (·.2)))))
    (hcf:∀args w,(callFunc f args).run P w=.ok (.enter f args) w:=by intros;kernel_rfl)
    (hc:ev l c=some (.func (.func f) #[] #[]):=by rfl)(hx:evs l xs=some vs:=by rfl)(hS:blks H ms=S:=by rfl)(h1:nod (H0.map (·.1))=true:=by rfl)(h2:nod (ms.map (·.2))=true:=by rfl)(h3:ls.all (fun k=>!(ms.map (·.2)).any (Nat.beq k))=true:=by rfl)(hd:Nat.ble (d+1) C.n=true:=by rfl)(hj:hng (ms.map (·.2)) js H=true:=by kernel_rfl):
    AL r P ops Q (⟨some d,.call {callee:=.value c,args:=xs.toArray,argTypes:=ts},T,pos,af,none⟩::rest) C l H:=by
 obtain⟨x,e,hF⟩:=bd_some hF
 exact AL.call n js (first:=[]) (cap:=[]) hcf (hct x e) hs (h x e hF) hc hx (by rw[W8];rfl) hS h1 h2 h3 hd hj
end
abbrev zz8:List Value:=[i 0,i 0,i 0,i 0,i 0,i 0,i 0,i 0]
abbrev rah(x:Int×Int×Int×ByteArray):List Value:=[i x.1,i x.2.1,i x.2.2.1,.string x.2.2.2]
abbrev rai{a1:Type}(x:Int×Int×List a1×(Int×Int×ByteArray)×ByteArray×Int×Int)(A1:Option Addr)(c1:Nat):List Value:=[i x.1,i x.2.1,.slice A1 x.2.2.1.length c1,i x.2.2.2.1.1,i x.2.2.2.1.2.1,.string x.2.2.2.1.2.2,.string x.2.2.2.2.1,i x.2.2.2.2.2.1,i x.2.2.2.2.2.2]
abbrev raj(x:Int×Int×ByteArray):List Value:=[i x.1,i x.2.1,.string x.2.2]
abbrev rak(x:Int×Int×ByteArray×Int):List Value:=[i x.1,i x.2.1,.string x.2.2.1,i x.2.2.2]
abbrev ral(x:Int×ByteArray):List Value:=[i x.1,.string x.2]
abbrev ram(x:(Int×ByteArray)×Int):List Value:=[i x.1.1,.string x.1.2,i x.2]
abbrev ran(x:Int×Int×Int×ByteArray):Value:=.agg #[i x.1,i x.2.1,i x.2.2.1,.string x.2.2.2]
abbrev rao{a1:Type}(x:Int×Int×List a1×(Int×Int×ByteArray)×ByteArray×Int×Int)(A1:Option Addr)(c1:Nat):Value:=.agg #[i x.1,i x.2.1,.slice A1 x.2.2.1.length c1,i x.2.2.2.1.1,i x.2.2.2.1.2.1,.string x.2.2.2.1.2.2,.string x.2.2.2.2.1,i x.2.2.2.2.2.1,i x.2.2.2.2.2.2]
abbrev rap(x:Int×Int×ByteArray):Value:=.agg #[i x.1,i x.2.1,.string x.2.2]
abbrev raq(x:Int×Int×ByteArray×Int):Value:=.agg #[i x.1,i x.2.1,.string x.2.2.1,i x.2.2.2]
abbrev rar(x:Int×ByteArray):Value:=.agg #[i x.1,.string x.2]
abbrev ras(x:(Int×ByteArray)×Int):Value:=.agg #[i x.1.1,.string x.1.2,i x.2]
abbrev rat{a1:Type}(x:ByteArray×Int×List a1)(A1:Option Addr)(c1:Nat):Value:=.agg #[.string x.1,i x.2.1,.slice A1 x.2.2.length c1]
abbrev raa(x:Int×Int):List Value:=[i x.1,i x.2]
abbrev rab(x:Int×Int×Int×Int×Int×Int):List Value:=[i x.1,i x.2.1,i x.2.2.1,i x.2.2.2.1,i x.2.2.2.2.1,i x.2.2.2.2.2]
abbrev rac(x:Int×Int×Int×Int×Int×Int×Int×Int):List Value:=[i x.1,i x.2.1,i x.2.2.1,i x.2.2.2.1,i x.2.2.2.2.1,i x.2.2.2.2.2.1,i x.2.2.2.2.2.2.1,i x.2.2.2.2.2.2.2]
abbrev rad(x:Int×Int):Value:=.agg #[i x.1,i x.2]
abbrev rae(x:Int×Int×Int×Int×Int×Int):Value:=.agg #[i x.1,i x.2.1,i x.2.2.1,i x.2.2.2.1,i x.2.2.2.2.1,i x.2.2.2.2.2]
abbrev raf(x:Int×Int×Int×Int×Int×Int×Int):Value:=.agg #[i x.1,i x.2.1,i x.2.2.1,i x.2.2.2.1,i x.2.2.2.2.1,i x.2.2.2.2.2.1,i x.2.2.2.2.2.2]
abbrev rag(x:Int×Int×Int×Int×Int×Int×Int×Int):Value:=.agg #[i x.1,i x.2.1,i x.2.2.1,i x.2.2.2.1,i x.2.2.2.2.1,i x.2.2.2.2.2.1,i x.2.2.2.2.2.2.1,i x.2.2.2.2.2.2.2]
end Go.A
end
set_option linter.defProp false
def Ju:=@Go.A.AL.done
def Jv:=@Go.A.Ct.enter
def Jw:=@Go.Z.i64_has
def Jy:=@Go.A.AL.alloc
def Jz:=@Go.A.AH.one
def J0:=@Go.A.xl
def J1:=@Go.A.AL.box
def J2:=@Go.A.AH.nx
def J3:=@Go.A.z0
def J4:=@Go.A.AX.join
def J5:=@Go.A.q0
def J6:=@Go.A.AH.done
def J7:=@Go.A.zc
def J8:=@Go.A.mvd
def J9:=@Go.A.ck
def Va:=@Go.A.zf
def Vb:=@Go.A.no0
def Vc:=@Go.A.zb
def Vd:=@Go.A.pb
def Ve:=@Go.A.AL.bsl
def Vf:=@Go.A.si
def Vg:=@Go.A.sw
def Vh:=@Go.A.zj
def Vi:=@Go.A.lt_some
def Vj:=@Go.A.AX.dr
def Vk:=@Go.A.dl
def Vl:=@Go.A.zg
def Vm:=@Go.A.hq
def Vn:=@Go.A.j
def Vo:=@Go.A.lp_
def Vp:=@Go.A.zk
def Vq:=@Go.A.Hp.blk
def Vr:=@Go.A.AL.ixs
def Vs:=@Go.A.g
def Vt:=@Go.A.AL.app
def Vu:=@Go.A.AL.on
def Vv:=@Go.A.AH.nm
def Vw:=@Go.A.zd
def Vx:=@Go.A.v
def Vy:=@Go.A.zh
def Vz:=@Go.A.AL.ixl
def V0:=@Go.A.AH.v
def V1:=@Go.A.xe
def V2:=@Go.A.AL.cnd
def V3:=@Go.A.AL.call
def V4:=@Go.A.dx
def V5:=@Go.A.AX.cnf
def V6:=@Go.A.b
def V7:=@Go.A.rt1
def V8:=@Go.A.AL.lku
def V9:=@Go.A.n
def Ua:=@Go.A.AX.cnt
def Ub:=@Go.A.ze
def Uc:=@Go.A.rowO
def Ud:=@Go.Z.slice_n
def Ue:=@Go.A.rt2
def Uf:=@Go.A.m
def Ug:=@Go.A.AX.ret
def Uh:=@Go.A.zi
def Ui:=@Go.A.AE.ret
def Uj:=@Go.A.AL.mkm
def Uk:=@Go.A.d
def Ul:=@Go.A.nil
def Um:=@Go.A.xx
def Un:=@Go.A.r_ixa
def Uo:=@Go.Z.resv1
def Up:=@Go.A.AL.cnp
def Uq:=@Go.A.AL.ixo
def Ur:=@Go.Z.rv_1
def Us:=@Go.A.AL.store
def Ut:=@Go.Z.rv_n
def Uu:=@Go.A.szl
def Uv:=@Go.A.c
def Uw:=@Go.Z.res0
def Ux:=@Go.Z.rv_t
def Uy:=@Go.A.AL.val
def Uz:=@Go.A.AL.mup
def U0:=@Go.A.seen_bd
def U1:=@Go.A.el
def U2:=@Go.Z.resv2
def U3:=@Go.A.frz
def U4:=@Go.A.de
section
namespace Go.M
noncomputable section NC
open Go.Z
inductive T (α:Type) where
 |lf
 |nd (v:Option α) (l r:T α)
 deriving Inhabited
def T.get {α:Type}(t:T α):Nat->Option α:=T.rec (fun _=>none) (fun v _ _ gl gr i=>Nat.rec v (fun j _=>bif Nat.beq (j%2) 0 then gl (j / 2)else gr (j / 2)) i) t
def T.put {α:Type}(f:Nat):T α->Nat->Option α->T α:=
 Nat.rec (fun t _ _=>t) (fun _ ih t i v=>Nat.rec
  (T.rec (.nd v .lf .lf) (fun _ l r _ _=>.nd v l r) t)
  (fun j _=>T.rec (bif Nat.beq (j%2) 0 then .nd none (ih .lf (j / 2) v) .lf else .nd none .lf (ih .lf (j / 2) v))
   (fun u l r _ _=>bif Nat.beq (j%2) 0 then .nd u (ih l (j / 2) v) r else .nd u l (ih r (j / 2) v)) t) i) f
def T.set {α:Type}(t:T α)(i:Nat)(v:α):T α:=T.put (i+1) t i (some v)
def T.del {α:Type}(t:T α)(i:Nat):T α:=T.put (i+1) t i none
def tb {α:Type}:Nat->(Nat->Option α)->T α
 |0,_=>.lf
 |d+1,f=>.nd (f 0) (tb d fun k=>f (2*k+1)) (tb d fun k=>f (2*k+2))
inductive Cap where
 |c (n:Nat)
 |u (n sz:Nat)
 deriving Inhabited
inductive V where
 |k (v:Value)
 |p (i o:Nat)
 |s (i o n:Nat) (c:Cap)
 |m (i:Nat)
 |f (fn:FuncId) (first cap:List V)
 |y (i:Nat)
 |q (i:Nat)
 |w (i:Nat)
 |gl (g o:Nat)
 |g (l:List V)
 |t (l:List V)
 |i (T:TypeId) (v:V)
 deriving Inhabited
def V.cells:V->List V
 | .g l=>l
 |v=>[v]
def oneV:V->Bool
 | .g _=>false
 | .t _=>false
 |_=>true
def tupV:V->Bool
 | .t _=>true
 |_=>false
def Qhh:Value->Bool
 | .agg _=>false
 | .tuple _=>false
 |_=>true
def ofV:Value->Option V
 | .agg cs=>bif cs.toList.all Qhh then some (.g (cs.toList.map .k))else none
 | .tuple _=>none
 |v=>some (.k v)
def bo (b:Bool):V:=.k (.bool b)
def it (n:Int):V:=.k (.int .i64 n)
def nt (n:Nat):V:=.k (.int .i64 (.ofNat n))
inductive Pick where
 |fresh
 |cur (k:V) (all:Bool)
inductive Env where
 |o
 |c (t:Nat) (v:V) (r:Env)
def Env.get (e:Env)(t:Nat):Option V:=Env.rec none (fun u v _ ih=>bif Nat.beq u t then some v else ih) e
def Env.set (e:Env)(t:Nat)(v:V):Env:=.c t v e
def Env.del (e:Env)(t:Nat):Env:=Env.rec .o (fun u v _ ih=>bif Nat.beq u t then ih else .c u v ih) e
inductive O where
 |c (T:TypeId) (l:List V)
 |m (es:List (V×V)) (clk:Nat) (pend:Option (Nat×Nat))
 |q (m clk:Nat) (x:Pick)
 |qn
 |st (s:ByteArray) (pos:Nat)
 |lp (env:Env) (ps:List Nat) (asg body:Code) (st:Bool) (pend:Option Code)
 |df
structure Ti where
 u:TypeDesc
 n:Nat
 ag:Bool
 z:List V
 b:Nat
 e:Bool
 pl:List (Nat×Nat)
structure Cx where
 ty:T Ti
 fn:T Func
 gv:T (List V)
structure S where
 env:Env
 ds:List (Option (V×List V)×Nat)
 h:T O
 nx:Nat
 rd:Bool
 fl:Nat
def S.up (s:S)(d:Nat)(v:V):S:=⟨s.env.set d v,s.ds,s.h,s.nx,s.rd,s.fl⟩
def S.upo (s:S)(d:Option Nat)(v:V):S:=match d with
 |some d=>s.up d v
 |none=>s
def S.seth (s:S)(h:T O):S:=⟨s.env,s.ds,h,s.nx,s.rd,s.fl⟩
def S.sethn (s:S)(h:T O)(nx:Nat):S:=⟨s.env,s.ds,h,nx,s.rd,s.fl⟩
def S.new (s:S)(o:O):S:=s.sethn (s.h.set s.nx o) (s.nx+1)
inductive X where
 |n
 |r
 |e (i:Nat)
def V.val?:V->Option Value
 | .k v=>some v
 |_=>none
def V.int? (x:V):Option (IntKind×Int):=match x.val? with
 |some (.int a b)=>some (a,b)
 |_=>none
def V.nat? (x:V):Option Nat:=match x.int? with
 |some (_,.ofNat n)=>some n
 |_=>none
def V.bool? (x:V):Option Bool:=match x.val? with
 |some (.bool b)=>some b
 |_=>none
def V.str? (x:V):Option ByteArray:=match x.val? with
 |some (.string b)=>some b
 |_=>none
def V.ptr?:V->Option (Nat×Nat)
 | .p a b=>some (a,b)
 |_=>none
def V.gl?:V->Option (Nat×Nat)
 | .gl a b=>some (a,b)
 |_=>none
def V.sl?:V->Option (Nat×Nat×Nat×Cap)
 | .s a b d e=>some (a,b,d,e)
 |_=>none
def V.map?:V->Option Nat
 | .m a=>some a
 |_=>none
def V.agg?:V->Option (List V)
 | .g l=>some l
 |_=>none
def V.tup?:V->Option (List V)
 | .t l=>some l
 |_=>none
def nilS:Value->Bool
 | .slice none 0 0=>true
 |_=>false
def V.nilS (x:V):Bool:=match x.val? with
 |some v=>Go.M.nilS v
 |none=>false
def capB:Cap->Cap->Bool
 | .c a,.c b=>Nat.beq a b
 | .u a x,.u b y=>Nat.beq a b&&Nat.beq x y
 |_,_=>false
def vB:Value->Value->Bool
 | .int a m,.int b n=>decide (a=b)&&decide (m=n)
 | .bool a,.bool b=>a==b
 | .string a,.string b=>decide (a=b)
 | .pointer none,.pointer none=>true
 | .slice none 0 0,.slice none 0 0=>true
 | .map none,.map none=>true
 | .nilFunc,.nilFunc=>true
 | .nilIface,.nilIface=>true
 |_,_=>false
mutual
def beq:V->V->Bool
 | .k a,.k b=>vB a b
 | .p i o,.p j q=>Nat.beq i j&&Nat.beq o q
 | .s i o n c,.s j q m d=>Nat.beq i j&&Nat.beq o q&&Nat.beq n m&&capB c d
 | .m i,.m j=>Nat.beq i j
 | .f a x y,.f b u v=>Nat.beq a b&&beqs x u&&beqs y v
 | .y i,.y j=>Nat.beq i j
 | .q i,.q j=>Nat.beq i j
 | .w i,.w j=>Nat.beq i j
 | .gl i n,.gl j m=>Nat.beq i j&&Nat.beq n m
 | .g x,.g y=>beqs x y
 | .t x,.t y=>beqs x y
 | .i a x,.i b y=>Nat.beq a b&&beq x y
 |_,_=>false
def beqs:List V->List V->Bool
 | [],[]=>true
 |a::x,b::y=>beq a b&&beqs x y
 |_,_=>false
end
section
variable (C:Cx)
def opd (e:Env):Operand->Option V
 | .tmp t=>e.get t
 | .const v=>ofV v
 | .global g=>some (.gl g 0)
 | .func f=>some (.f f [] [])
def opds (e:Env):List Operand->Option (List V)
 | []=>some []
 |x::r=>match opd e x with
  |some v=>match opds e r with
   |some vs=>some (v::vs)
   |none=>none
  |none=>none
def parts (e:Env):List (Nat×Operand)->Option (List (Nat×V))
 | []=>some []
 |(i,x)::r=>match opd e x with
  |some v=>match parts e r with
   |some vs=>some ((i,v)::vs)
   |none=>none
  |none=>none
def und (t:TypeId):Option TypeDesc:=match C.ty.get t with
 |some I=>some I.u
 |none=>none
def Qbk (t:TypeId):Option TypeId:=match und C t with
 |some (.slice e)=>some e
 |_=>none
def Qcf (t:TypeId):Option Ti:=match Qbk C t with
 |some e=>C.ty.get e
 |none=>none
def arrTi (t:TypeId):Option (Nat×Ti):=match und C t with
 |some (.array n e)=>match C.ty.get e with
  |some J=>some (n,J)
  |none=>none
 |_=>none
def Qdl (t:TypeId):Option (TypeId×Ti):=match und C t with
 |some (.map k v)=>match C.ty.get v with
  |some J=>some (k,J)
  |none=>none
 |_=>none
def Qcz (t:TypeId):Bool:=match und C t with
 |some .string=>true
 |_=>false
def intK (t:TypeId):Option IntKind:=match und C t with
 |some (.int k)=>some k
 |_=>none
def isIf (t:TypeId):Bool:=match und C t with
 |some (.interface _)=>true
 |_=>false
def zeroV (I:Ti):V:=bif I.ag then .g I.z else I.z.headD (.g [])
def fieldAt (t:TypeId)(i:Nat):Option (Nat×Ti):=match und C t with
 |some (.struct fs)=>match fs.toList[i]? with
  |some f=>match C.ty.get f.type with
   |some J=>some (f.offset,J)
   |none=>none
  |none=>none
 |_=>none
def cut (ag:Bool)(n o:Nat)(xs:List V):Option V:=
 bif ag then(bif Nat.beq ((xs.drop o).take n).length n then some (.g ((xs.drop o).take n))else none)else xs[o]?
def inr:IntKind->Int->Bool
 | .i64,.ofNat m=>Nat.blt m 9223372036854775808
 | .i64,.negSucc m=>Nat.blt m 9223372036854775808
 | .u64,.ofNat m=>Nat.blt m 18446744073709551616
 | .u8,.ofNat m=>Nat.blt m 256
 | .i32,.ofNat m=>Nat.blt m 2147483648
 |_,_=>false
def wr (k:IntKind)(n:Int):Int:=bif inr k n then n else k.wrap n
def wrv (k:IntKind)(n:Int):Option V:=some (.k (.int k (wr k n)))
def qquo (k:IntKind)(m n:Int):Option V:=bif decide (n=0)then none else wrv k (m.tdiv n)
def qrem (k:IntKind)(m n:Int):Option V:=bif decide (n=0)then none else some (.k (.int k (m.tmod n)))
def qi (k:IntKind)(m n:Int):BinOp->Option V
 | .add=>wrv k (m+n)
 | .sub=>wrv k (m-n)
 | .mul=>wrv k (m*n)
 | .lss=>some (bo (decide (m<n)))
 | .leq=>some (bo (decide (m<=n)))
 | .gtr=>some (bo (decide (n<m)))
 | .geq=>some (bo (decide (n<=m)))
 | .eql=>some (bo (decide (m=n)))
 | .neq=>some (bo (!decide (m=n)))
 | .quo=>qquo k m n
 | .rem=>qrem k m n
 | .and=>wrv k (Int.ofNat (BitVec.ofInt k.bits m&&& BitVec.ofInt k.bits n).toNat)
 | .or=>wrv k (Int.ofNat (BitVec.ofInt k.bits m|||BitVec.ofInt k.bits n).toNat)
 | .xor=>wrv k (Int.ofNat (BitVec.ofInt k.bits m^^^BitVec.ofInt k.bits n).toNat)
 |_=>none
def qshr (k:IntKind)(m n:Int):Option V:=bif decide (k=.u64)&&(decide (0<=n)&&decide (n<=64))then some (.k (.int .u64 (m / 2^n.toNat)))else none
def qs (a b:ByteArray):BinOp->Option V
 | .eql=>some (bo (decide (a=b)))
 | .neq=>some (bo (!decide (a=b)))
 | .lss=>some (bo (Op.bytesLess a.toList b.toList))
 | .gtr=>some (bo (!(Op.bytesLess a.toList b.toList||a.toList==b.toList)))
 |_=>none
def eqFw (rec:TypeId->V->V->Option Bool)(xs ys:List V):List Field->Option Bool
 | []=>some true
 |f::r=>match C.ty.get f.type with
  |none=>none
  |some J=>match cut J.ag J.n f.offset xs,cut J.ag J.n f.offset ys with
   |some a,some b=>bif f.name== "_" then none else match rec f.type a b with
    |some true=>eqFw rec xs ys r
    |some false=>some false
    |none=>none
   |_,_=>none
def eqIw (rec:V->V->Option Bool)(c:Nat)(ag:Bool)(xs ys:List V):Nat->Nat->Option Bool
 |0,_=>some true
 |n+1,i=>match cut ag c (i*c) xs,cut ag c (i*c) ys with
  |some a,some b=>match rec a b with
   |some true=>eqIw rec c ag xs ys n (i+1)
   |some false=>some false
   |none=>none
  |_,_=>none
def eqInt (x y:V):Option Bool:=match x.int? with
 |some (a,m)=>match y.int? with
  |some (b,n)=>bif decide (a=b)then some (decide (m=n))else none
  |none=>none
 |none=>none
def eqBool (x y:V):Option Bool:=match x.bool? with
 |some a=>match y.bool? with
  |some b=>some (decide (a=b))
  |none=>none
 |none=>none
def eqStr (x y:V):Option Bool:=match x.str? with
 |some a=>match y.str? with
  |some b=>some (decide (a=b))
  |none=>none
 |none=>none
def kP:Value->Option Bool
 | .pointer none=>some true
 |_=>none
def kS:Value->Option Bool
 | .slice none _ _=>some true
 |_=>none
def kM:Value->Option Bool
 | .map none=>some true
 |_=>none
def kF:Value->Option Bool
 | .nilFunc=>some true
 |_=>none
def kI:Value->Option Bool
 | .nilIface=>some true
 |_=>none
def nzP:V->Option Bool
 | .p _ _=>some false
 | .gl _ _=>some false
 | .k v=>kP v
 |_=>none
def nzS:V->Option Bool
 | .s _ _ _ _=>some false
 | .k v=>kS v
 |_=>none
def nzM:V->Option Bool
 | .m _=>some false
 | .k v=>kM v
 |_=>none
def nzF:V->Option Bool
 | .f _ _ _=>some false
 | .y _=>some false
 | .k v=>kF v
 |_=>none
def nzI:V->Option Bool
 | .i _ _=>some false
 | .k v=>kI v
 |_=>none
def eqN (x y:Option Bool):Option Bool:=match x with
 |some true=>y
 |some false=>match y with
  |some true=>some false
  |_=>none
 |none=>none
def eqAgg (rec:TypeId->V->V->Option Bool)(x y:V)(fs:List Field):Option Bool:=match x.agg? with
 |some xs=>match y.agg? with
  |some ys=>eqFw C rec xs ys fs
  |none=>none
 |none=>none
def eqArr (rec:TypeId->V->V->Option Bool)(x y:V)(n:Nat)(e:TypeId):Option Bool:=match x.agg? with
 |some xs=>match y.agg? with
  |some ys=>match C.ty.get e with
   |some J=>eqIw (rec e) J.n J.ag xs ys n 0
   |none=>none
  |none=>none
 |none=>none
def eqOk (t:TypeId):Bool:=match C.ty.get t with
 |some I=>I.e
 |none=>false
def eqV (d:Nat):TypeId->V->V->Option Bool:=Nat.rec (fun _ _ _=>none) (fun _ rec t x y=>match und C t with
 |none=>none
 |some u=>match u with
  | .int _=>eqInt x y
  | .bool=>eqBool x y
  | .string=>eqStr x y
  | .pointer _=>eqN (nzP x) (nzP y)
  | .slice _=>eqN (nzS x) (nzS y)
  | .map _ _=>eqN (nzM x) (nzM y)
  | .func _ _ _=>eqN (nzF x) (nzF y)
  | .interface _=>eqN (nzI x) (nzI y)
  | .struct fs=>bif eqOk C t then eqAgg C rec x y fs.toList else none
  | .array n e=>eqArr C rec x y n e
  |_=>none) d
def okK:Value->Bool
 | .int _ _=>false
 | .float _ _=>false
 | .complex _ _ _=>false
 | .string _=>false
 |_=>true
def okEq:V->Bool
 | .k v=>okK v
 | .w _=>false
 | .t _=>false
 |_=>true
def pEq (t:TypeId)(x y:V):BinOp->Option V
 | .eql=>match eqV C 20 t x y with
  |some b=>some (bo b)
  |none=>none
 | .neq=>match eqV C 20 t x y with
  |some b=>some (bo (!b))
  |none=>none
 |_=>none
def binI (op:BinOp)(k:IntKind)(m:Int)(k2:IntKind)(n:Int):Option V:=match op with
 | .shr=>qshr k m n
 |op=>bif decide (k=k2)then qi k m n op else none
def bin (op:BinOp)(t:TypeId)(x y:V):Option V:=match x.int? with
 |some (a,m)=>match y.int? with
  |some (b,n)=>binI op a m b n
  |none=>none
 |none=>match x.str? with
  |some a=>match y.str? with
   |some b=>qs a b op
   |none=>none
  |none=>bif okEq x then pEq C t x y op else none
def isC:Operand->Bool
 | .const _=>true
 |_=>false
def isEq:BinOp->Bool
 | .eql=>true
 | .neq=>true
 |_=>false
def cmpOk (op:BinOp)(t:TypeId)(x y:Operand):Bool:=bif isEq op then(match C.ty.get t with
 |some I=>bif I.ag then I.e else bif isIf C t then isC x||isC y else true
 |none=>false)else true
def pBin (e:Env)(op:BinOp)(t:TypeId)(x y:Operand):Option V:=match opd e x with
 |some a=>match opd e y with
  |some b=>bif cmpOk C op t x y then bin C op t a b else none
  |none=>none
 |none=>none
def pPick (e:Env)(c x y:Operand):Option V:=match opd e c with
 |some v=>match v.bool? with
  |some b=>bif b then opd e x else opd e y
  |none=>none
 |none=>none
def pUn (e:Env)(op:UnOp)(x:Operand):Option V:=match opd e x with
 |some v=>match op with
  | .not=>match v.bool? with
   |some b=>some (bo (!b))
   |none=>none
  | .neg=>match v.int? with
   |some (k,n)=>wrv k (0-n)
   |none=>none
  |_=>none
 |none=>none
def pExt (e:Env)(x:Operand)(i:Nat):Option V:=match opd e x with
 |some v=>match v.tup? with
  |some vs=>vs[i]?
  |none=>none
 |none=>none
def nonNil:V->Option V
 | .p i o=>some (.p i o)
 | .gl i o=>some (.gl i o)
 | .f a b c=>some (.f a b c)
 | .y i=>some (.y i)
 |_=>none
def pNil (e:Env)(x:Operand):Option V:=match opd e x with
 |some v=>nonNil v
 |none=>none
def pFunc (e:Env)(fn:Fn)(xs ys:List Operand):Option V:=match fn with
 | .func f=>match opds e xs with
  |some vs=>match opds e ys with
   |some us=>some (.f f vs us)
   |none=>none
  |none=>none
 |_=>none
def pConv (e:Env)(s d:TypeId)(x:Operand):Option V:=match opd e x with
 |some v=>match v.int? with
  |some (_,n)=>match und C s with
   |some _=>match intK C d with
    |some k=>wrv k n
    |none=>none
   |none=>none
  |none=>match v.str? with
   |some b=>bif Qcz C s&&Qcz C d then some (.k (.string b))else none
   |none=>none
 |none=>none
def offP (v:V)(k:Nat):Option V:=match v.ptr? with
 |some (i,o)=>some (.p i (o+k))
 |none=>match v.gl? with
  |some (i,o)=>some (.gl i (o+k))
  |none=>none
def pFa (e:Env)(t:TypeId)(x:Operand)(i:Nat):Option V:=match fieldAt C t i with
 |some (o,J)=>bif Nat.beq J.n 0 then none else match opd e x with
  |some v=>offP v o
  |none=>none
 |none=>none
def pFld (e:Env)(t:TypeId)(x:Operand)(i:Nat):Option V:=match fieldAt C t i with
 |some (o,J)=>match opd e x with
  |some v=>match v.agg? with
   |some cs=>cut J.ag J.n o cs
   |none=>none
  |none=>none
 |none=>none
def natAt (e:Env)(x:Operand):Option Nat:=match opd e x with
 |some v=>v.nat?
 |none=>none
def ixA (t:TypeId)(v:V)(u:Nat):Option V:=match v.sl? with
 |some (j,o,n,_)=>match Qcf C t with
  |some J=>bif Nat.blt u n then some (.p j (o+u*J.n))else none
  |none=>none
 |none=>match arrTi C t with
  |some (n,J)=>bif Nat.blt u n then offP v (u*J.n)else none
  |none=>none
def pIxA (e:Env)(t:TypeId)(x i:Operand):Option V:=match opd e x with
 |some v=>match natAt e i with
  |some u=>ixA C t v u
  |none=>none
 |none=>none
def ixV (t:TypeId)(v:V)(u:Nat):Option V:=match v.agg? with
 |some cs=>match arrTi C t with
  |some (n,J)=>bif Nat.blt u n then cut J.ag J.n (u*J.n) cs else none
  |none=>none
 |none=>match v.str? with
  |some s=>bif Qcz C t then(match s.data.toList[u]? with
   |some b=>some (.k (.int .u8 (.ofNat b.toNat)))
   |none=>none)else none
  |none=>none
def pIx (e:Env)(t:TypeId)(x i:Operand):Option V:=match opd e x with
 |some v=>match natAt e i with
  |some u=>ixV C t v u
  |none=>none
 |none=>none
def optInt (e:Env)(d:Nat):Option Operand->Option Nat
 |none=>some d
 |some x=>natAt e x
def cutK (sz lo hi m i o n k:Nat):Option V:=bif Nat.ble lo hi&&Nat.ble hi m&&Nat.ble m k then some (.s i (bif Nat.beq m lo then o else o+lo*sz) (hi-lo) (.c (m-lo)))else none
def cutU (sz lo hi i o n k z:Nat):Option V:=bif Nat.beq sz z&&Nat.ble lo hi&&Nat.ble hi n&&(Nat.blt lo hi||Nat.beq lo 0)then some (.s i (o+lo*sz) (hi-lo) (.u (k+lo) z))else none
def cutS (sz lo hi:Nat)(mx:Option Nat)(i o n:Nat)(c:Cap):Option V:=match c with
 | .c k=>cutK sz lo hi (mx.getD k) i o n k
 | .u k z=>match mx with
  |some m=>cutK sz lo hi m i o n n
  |none=>cutU sz lo hi i o n k z
def optMx (e:Env):Option Operand->Option (Option Nat)
 |none=>some none
 |some x=>match natAt e x with
  |some m=>some (some m)
  |none=>none
def slStr (e:Env)(s:ByteArray)(lo hi:Option Operand):Option V:=match optInt e 0 lo with
 |some l=>match optInt e s.size hi with
  |some h=>bif Nat.ble l h&&Nat.ble h s.size then some (.k (.string (s.extract l h)))else none
  |none=>none
 |none=>none
def slSl (e:Env)(t:TypeId)(i o n:Nat)(c:Cap)(lo hi mx:Option Operand):Option V:=bif mx.isSome&&hi.isNone then none else match Qcf C t with
 |some J=>match optInt e 0 lo with
  |some l=>match optInt e n hi with
   |some h=>match optMx e mx with
    |some m=>cutS J.n l h m i o n c
    |none=>none
   |none=>none
  |none=>none
 |none=>none
def slNil (e:Env)(lo hi mx:Option Operand):Option V:=bif mx.isSome&&hi.isNone then none else match optInt e 0 lo with
 |some l=>match optInt e 0 hi with
  |some h=>match optInt e 0 mx with
   |some m=>bif Nat.beq (l+h+m) 0 then some (.k (.slice none 0 0))else none
   |none=>none
  |none=>none
 |none=>none
def slArr (e:Env)(t:TypeId)(i o:Nat)(lo hi mx:Option Operand):Option V:=bif mx.isSome&&hi.isNone then none else match arrTi C t with
 |some (n,J)=>match optInt e 0 lo with
  |some l=>match optInt e n hi with
   |some h=>match optInt e n mx with
    |some m=>cutK J.n l h m i o n n
    |none=>none
   |none=>none
  |none=>none
 |none=>none
def slV (e:Env)(t:TypeId)(v:V)(lo hi mx:Option Operand):Option V:=match v.sl? with
 |some (i,o,n,c)=>slSl C e t i o n c lo hi mx
 |none=>match v.ptr? with
  |some (i,o)=>slArr C e t i o lo hi mx
  |none=>match v.str? with
   |some s=>bif Qcz C t&&mx.isNone then slStr e s lo hi else none
   |none=>bif v.nilS&&(Qcf C t).isSome then slNil e lo hi mx else none
def pSl (e:Env)(t:TypeId)(x:Operand)(lo hi mx:Option Operand):Option V:=match opd e x with
 |some v=>slV C e t v lo hi mx
 |none=>none
def Qie (pl:Nat->Option (Nat×Nat))(cells:List V):List (Nat×V)->Option (List V)
 | []=>some cells
 |(i,v)::r=>match pl i with
  |none=>none
  |some (off,n)=>bif Nat.beq v.cells.length n&&Nat.ble (off+n) cells.length&& !tupV v then Qie pl (cells.take off++v.cells++cells.drop (off+n)) r else none
def bldV (I:Ti)(pl:Nat->Option (Nat×Nat))(vs:List (Nat×V)):Option V:=match Qie pl I.z vs with
 |some cs=>some (.g cs)
 |none=>none
def bldT (I:Ti)(vs:List (Nat×V)):TypeDesc->Option V
 | .struct _=>bldV I (fun i=>I.pl[i]?) vs
 | .array _ el=>match C.ty.get el with
  |some J=>bldV I (fun i=>some (i*J.n,J.n)) vs
  |none=>none
 |_=>none
def pBuild (e:Env)(t:TypeId)(ps:List (Nat×Operand)):Option V:=match C.ty.get t with
 |some I=>match parts e ps with
  |some vs=>bldT C I vs I.u
  |none=>none
 |none=>none
def pMki (e:Env)(t:TypeId)(x:Operand):Option V:=bif isIf C t then none else match und C t with
 |some _=>match opd e x with
  |some v=>some (.i t v)
  |none=>none
 |none=>none
def V.if?:V->Option (TypeId×V)
 | .i a b=>some (a,b)
 |_=>none
def isNilI (x:V):Bool:=match x.val? with
 |some .nilIface=>true
 |_=>false
def tasNo (I:Ti)(ok:Bool):Option V:=bif ok then some (.t [zeroV I,bo false])else none
def tasV (v:V)(ty2_:TypeId)(ok:Bool)(I:Ti):Option V:=match v.if? with
 |some (t,u)=>bif isIf C ty2_ then none else bif Nat.beq t ty2_ then some (bif ok then .t [u,bo true]else u)else tasNo I ok
 |none=>bif isNilI v then tasNo I ok else none
def pTas (e:Env)(x:Operand)(ty2_:TypeId)(ok:Bool):Option V:=match C.ty.get ty2_ with
 |some I=>match opd e x with
  |some v=>tasV C v ty2_ ok I
  |none=>none
 |none=>none
def lenS (x:V):Option Nat:=match x.sl? with
 |some (_,_,n,_)=>some n
 |none=>bif x.nilS then some 0 else none
def lenB (x:V):Option Nat:=match x.str? with
 |some s=>some s.size
 |none=>none
def lenA (t:TypeId):Option Nat:=match arrTi C t with
 |some (n,_)=>some n
 |none=>none
def lenV (t:TypeId)(x:V):Option Nat:=match Qbk C t with
 |some _=>lenS x
 |none=>bif Qcz C t then lenB x else lenA C t
def mm (f:Int->Int->Int)(x y:V):Option V:=match x.int? with
 |some (a,m)=>match y.int? with
  |some (_,n)=>some (.k (.int a (f m n)))
  |none=>none
 |none=>none
def natV:Option Nat->Option V
 |some n=>some (nt n)
 |none=>none
def arg1 {α:Type}(l:Option (List V))(f:V->Option α):Option α:=match l with
 |some [x]=>f x
 |_=>none
def arg2 {α:Type}(l:Option (List V))(f:V->V->Option α):Option α:=match l with
 |some [x,y]=>f x y
 |_=>none
def ty1 {α:Type}(ts:List TypeId)(f:TypeId->Option α):Option α:=match ts with
 |t::_=>f t
 |_=>none
def imin (m n:Int):Int:=bif decide (n<m)then n else m
def imax (m n:Int):Int:=bif decide (m<n)then n else m
def pBi (e:Env)(xs:List Operand)(ts:List TypeId):Builtin->Option V
 | .len=>arg1 (opds e xs) fun x=>ty1 ts fun t=>natV (lenV C t x)
 | .min=>arg2 (opds e xs) (mm imin)
 | .max=>arg2 (opds e xs) (mm imax)
 |_=>none
def pCall (e:Env)(c:Call):Option V:=match c.callee with
 | .builtin b=>pBi C e c.args.toList c.argTypes.toList b
 |_=>none
def pure1 (e:Env):Op->Option V
 | .move x=>opd e x
 | .assign x=>opd e x
 | .pick c x y=>pPick e c x y
 | .binOp op t x y _=>pBin C e op t x y
 | .unOp op _ x=>pUn e op x
 | .extract x i=>pExt e x i
 | .nilCheck x=>pNil e x
 | .makeFunc fn xs ys=>pFunc e fn xs.toList ys.toList
 | .convert s d x=>pConv C e s d x
 | .fieldAddr t x i=>pFa C e t x i
 | .field t x i=>pFld C e t x i
 | .indexAddr t x i=>pIxA C e t x i
 | .index t x i=>pIx C e t x i
 | .slice t x lo hi mx=>pSl C e t x lo hi mx
 | .build t ps=>pBuild C e t ps.toList
 | .makeInterface t x=>pMki C e t x
 | .typeAssert x _ ty2_ ok=>pTas C e x ty2_ ok
 | .call c=>pCall C e c
 |_=>none
def Qfa (h:T O)(i:Nat):Option (TypeId×List V):=match h.get i with
 |some (.c T xs)=>some (T,xs)
 |_=>none
def Qij (h:T O)(v:V):Option (List V×Nat):=match v.ptr? with
 |some (i,o)=>match Qfa h i with
  |some (_,xs)=>some (xs,o)
  |none=>none
 |none=>match v.gl? with
  |some (g,o)=>match C.gv.get g with
   |some xs=>some (xs,o)
   |none=>none
  |none=>none
def loadV (h:T O)(t:TypeId)(p:V):Option V:=match C.ty.get t with
 |some J=>match Qij C h p with
  |some (xs,o)=>cut J.ag J.n o xs
  |none=>none
 |none=>none
def look (kt:TypeId)(k:V):List (V×V)->Nat->Option (Option (Nat×V×V))
 | [],_=>some none
 |(x,v)::r,i=>match eqV C 20 kt k x with
  |some true=>match look kt k r (i+1)with
   |some none=>some (some (i,x,v))
   |_=>none
  |some false=>look kt k r (i+1)
  |none=>none
def mapC (h:T O)(i:Nat):Option (List (V×V)×Nat):=match h.get i with
 |some (.m es c _)=>some (es,c)
 |_=>none
def mapAt (h:T O)(i:Nat):Option (List (V×V)):=match mapC h i with
 |some (es,_)=>some es
 |none=>none
def isNilM (x:V):Bool:=match x.val? with
 |some (.map none)=>true
 |_=>false
def mapOf (h:T O)(m:V):Option (List (V×V)):=match m.map? with
 |some i=>mapAt h i
 |none=>bif isNilM m then some []else none
def okV (ok:Bool)(v:V)(b:Bool):V:=bif ok then .t [v,bo b]else v
def keyT:Nat->TypeId->Bool
 |0,_=>false
 |d+1,t=>match C.ty.get t with
  |some I=>match I.u with
   | .struct fs=>fs.toList.all fun f=>match C.ty.get f.type with
    |some J=>Nat.ble (f.offset+J.n) I.n&&Nat.ble 1 J.n&&keyT d f.type
    |none=>false
   | .array m e=>match C.ty.get e with
    |some J=>Nat.ble (m*J.n) I.n&&Nat.ble 1 J.n&&keyT d e
    |none=>false
   | .interface _=>false
   |_=>true
  |none=>false
def keyS (t:TypeId)(x:V):Bool:=match C.ty.get t with
 |some I=>bif I.ag then(match x.agg? with
  |some xs=>Nat.beq xs.length I.n
  |none=>false)else true
 |none=>false
def keyB (t:TypeId)(x:V):Bool:=keyT C 20 t&&keyS C t x
def Qdm (kt:TypeId)(k:V)(es:List (V×V)):Option (Option (Nat×V×V)):=bif keyB C kt k then look C kt k es 0 else none
def lkV (t:TypeId)(es:List (V×V))(k:V)(ok:Bool):Option V:=match Qdl C t with
 |some (kt,J)=>match Qdm C kt k es with
  |some (some (_,_,v))=>some (okV ok v true)
  |some none=>some (okV ok (zeroV J) false)
  |none=>none
 |none=>none
def rLoad (e:Env)(h:T O)(t:TypeId)(x:Operand):Option V:=match opd e x with
 |some p=>loadV C h t p
 |none=>none
def rLook (e:Env)(h:T O)(t:TypeId)(m k:Operand)(ok:Bool):Option V:=match opd e m with
 |some m=>match opd e k with
  |some k=>match mapOf h m with
   |some es=>lkV C t es k ok
   |none=>none
  |none=>none
 |none=>none
def V.it?:V->Option Nat
 | .q a=>some a
 |_=>none
def curOf (h:T O)(i:Nat):Option (Nat×Nat×V):=match h.get i with
 |some (.q m c (.cur k _))=>some (m,c,k)
 |_=>none
def rEnt (e:Env)(h:T O)(x:Operand):Option V:=match opd e x with
 |some v=>match v.it? with
  |some i=>match curOf h i with
   |some (m,c,k)=>match mapC h m with
    |some (es,c')=>bif Nat.beq c c' then(match es.find? (fun x=>beq x.1 k)with
     |some (_,v)=>some (.t [k,v])
     |none=>none)else none
    |none=>none
   |none=>none
  |none=>none
 |none=>none
def byteV (x:V):Option UInt8:=match x.int? with
 |some (.u8,.ofNat b)=>bif Nat.blt b 256 then some (UInt8.ofNat b)else none
 |_=>none
def bytesV:List V->Option (List UInt8)
 | []=>some []
 |x::r=>match byteV x with
  |some b=>match bytesV r with
   |some l=>some (b::l)
   |none=>none
  |none=>none
def bytesOf (h:T O)(x:V):Option (List UInt8):=match x.sl? with
 |some (i,o,n,_)=>match Qfa h i with
  |some (_,xs)=>bif Nat.beq ((xs.drop o).take n).length n then bytesV ((xs.drop o).take n)else none
  |none=>none
 |none=>bif x.nilS then some []else none
def u8T (t:TypeId):Bool:=match Qbk C t with
 |some e=>match intK C e with
  |some .u8=>true
  |_=>false
 |none=>false
def rConv (e:Env)(h:T O)(s d:TypeId)(x:Operand):Option V:=bif u8T C s&&Qcz C d then(match opd e x with
 |some v=>match bytesOf h v with
  |some l=>some (.k (.string ⟨l.toArray⟩))
  |none=>none
 |none=>none)else none
def lenM (h:T O)(t:TypeId)(m:V):Option V:=bif (Qdl C t).isSome then(match mapOf h m with
 |some es=>some (nt es.length)
 |none=>none)else none
def rCall (e:Env)(h:T O)(c:Call):Option V:=match c.callee with
 | .builtin .len=>arg1 (opds e c.args.toList) fun m=>ty1 c.argTypes.toList fun t=>lenM C h t m
 |_=>none
def read1 (e:Env)(h:T O):Op->Option V
 | .load t x=>rLoad C e h t x
 | .lookup t m k ok=>rLook C e h t m k ok
 | .entry x=>rEnt e h x
 | .convert s d x=>rConv C e h s d x
 | .call c=>rCall C e h c
 |_=>none
def rep (z:List V):Nat->List V
 |0=>[]
 |n+1=>z++rep z n
def aBox (e:Env)(i:Nat)(t:TypeId)(x:Operand):Option (V×O):=match opd e x with
 |some v=>match C.ty.get t with
  |some J=>bif !tupV v&&Nat.beq v.cells.length J.n then some (.p i 0,.c t v.cells)else none
  |none=>none
 |none=>none
def aAl (i:Nat)(t:TypeId):Option (V×O):=match C.ty.get t with
 |some I=>some (.p i 0,.c t I.z)
 |none=>none
def bsV (J:Ti)(el:TypeId)(i n:Nat)(vs:List (Nat×V)):Option (V×O):=bif Nat.ble (n*J.n) 16777216&&Nat.ble 1 J.n then(match Qie (fun i=>some (i*J.n,J.n)) (rep J.z n) vs with
 |some cs=>some (.s i 0 n (.c n),.c el cs)
 |none=>none)else none
def aBs (e:Env)(i:Nat)(t:TypeId)(n:Nat)(ps:List (Nat×Operand)):Option (V×O):=match Qbk C t with
 |some el=>match C.ty.get el with
  |some J=>match parts e ps with
   |some vs=>bsV J el i n vs
   |none=>none
  |none=>none
 |none=>none
def rgV (h:T O)(i:Nat)(t:TypeId)(v:V):Option (V×O):=match v.map? with
 |some m=>bif (Qdl C t).isSome then(match mapC h m with
  |some (_,c)=>some (.q i,.q m c .fresh)
  |none=>none)else none
 |none=>match v.str? with
  |some s=>bif Qcz C t then some (.q i,.st s 0)else none
  |none=>bif isNilM v&&(Qdl C t).isSome then some (.q i,.qn)else none
def aRg (e:Env)(h:T O)(i:Nat)(t:TypeId)(x:Operand):Option (V×O):=match opd e x with
 |some v=>rgV C h i t v
 |none=>none
def byteK (x:UInt8):V:=.k (.int .u8 (.ofNat x.toNat))
def Qbw (e:Env)(h:T O)(i:Nat):Op->Option (V×O)
 | .alloc t=>aAl C i t
 | .box t x=>aBox C e i t x
 | .buildSlice t n ps=>aBs C e i t n ps.toList
 | .makeMap _ r=>bif r.isNone then some (.m i,.m [] 0 none)else none
 | .range t x=>aRg C e h i t x
 |_=>none
end
end NC
end Go.M
end
section
namespace Go.M
noncomputable section NC
open Go.Z
inductive Job where
 |code (c:Code) (s:S)
 |call (f:V) (args:List V) (h:T O) (nx fl:Nat)
 |dcall (f:V) (args:List V) (h:T O) (nx fl:Nat)
inductive Rs where
 |code (x:X) (s:S)
 |call (v:V) (h:T O) (nx:Nat)
section
variable (C:Cx)
def cells (xs:List V)(o n:Nat):Option (List V):=bif Nat.beq ((xs.drop o).take n).length n then some ((xs.drop o).take n)else none
def elems (h:T O)(sz:Nat)(y:V):Option (List V×Nat):=match y.sl? with
 |some (i,o,n,_)=>bif Nat.beq n 0 then some ([],0)else match Qfa h i with
  |some (_,xs)=>match cells xs o (n*sz)with
   |some l=>some (l,n)
   |none=>none
  |none=>none
 |none=>match y.str? with
  |some b=>some (b.toList.map byteK,b.size)
  |none=>bif y.nilS then some ([],0)else none
def Qdj (xs:List V)(o:Nat)(ys:List V):Option (List V):=bif Nat.ble (o+ys.length) xs.length then some (xs.take o++ys++xs.drop (o+ys.length))else none
abbrev Ch3:=Option (V×T O×Nat)
def apIn (el i o n:Nat)(c:Cap)(at_:Nat)(xs ys:List V)(k:Nat)(h:T O)(nx:Nat):Ch3:=match Qdj xs at_ ys with
 |some xs'=>some (.s i o (n+k) c,h.set i (.c el xs'),nx)
 |none=>none
def apNew (el sz n o m:Nat)(xs ys:List V)(k:Nat)(h:T O)(nx:Nat):Ch3:=match cells xs o m with
 |some l=>some (.s nx 0 (n+k) (.u 0 sz),h.set nx (.c el (l++ys)),nx+1)
 |none=>none
def apS (el sz i o n:Nat)(c:Cap)(xs ys:List V)(k:Nat)(h:T O)(nx fl:Nat):Ch3:=match c with
 | .c cap=>bif Nat.ble (n+k) cap then(bif Nat.ble fl i then apIn el i o n c (o+n*sz) xs ys k h nx else none)else apNew el sz n o (n*sz) xs ys k h nx
 | .u _ _=>bif Nat.ble fl i then(bif Nat.ble (o+n*sz+ys.length) xs.length then apIn el i o n c (o+n*sz) xs ys k h nx else apNew el sz n o (n*sz) xs ys k (h.del i) nx)else none
def ap1 (el:TypeId)(sz:Nat)(x:V)(ys:List V)(k:Nat)(h:T O)(nx fl:Nat):Ch3:=match x.sl? with
 |some (i,o,n,c)=>match Qfa h i with
  |some (T,xs)=>bif Nat.beq T el then apS el sz i o n c xs ys k h nx fl else none
  |none=>none
 |none=>bif x.nilS then some (.s nx 0 k (.u 0 sz),h.set nx (.c el ys),nx+1)else none
def isSl (x:V):Bool:=x.nilS||x.sl?.isSome
def fits (sz b n:Nat):Bool:=Nat.ble (n*b) 140737488355328&&Nat.ble 1 b&&Nat.ble 1 sz
def Qfx (J:Ti)(el:TypeId)(h:T O)(nx fl:Nat)(x y:V):Ch3:=bif !isSl y then none else match elems h J.n y with
 |none=>none
 |some (ys,k)=>bif Nat.beq k 0 then(bif isSl x then some (x,h,nx)else none)else bif fits J.n J.b ((x.sl?.elim 0 fun q=>q.2.2.1)+k)then ap1 el J.n x ys k h nx fl else none
def Qhy (v:V):List (V×V)->Nat->List (V×V)
 | [],_=>[]
 |(x,u)::r,p=>match p with
  |0=>(x,v)::r
  |p+1=>(x,u)::Qhy v r p
def Qid:Value->Bool
 | .int _ _=>true
 | .bool _=>true
 | .string _=>true
 |_=>false
def flatC:V->Bool
 | .k v=>Qid v
 |_=>false
def flKy:V->Bool
 | .k v=>Qid v
 | .g l=>l.all flatC
 |_=>false
abbrev Ef:=Option (V×S)
def un:V:=.t []
def storeAt (s:S)(i o:Nat)(vs:List V):Ef:=bif Nat.blt i s.fl then none else match Qfa s.h i with
 |some (T,xs)=>match Qdj xs o vs with
  |some ys=>some (un,s.seth (s.h.set i (.c T ys)))
  |none=>none
 |none=>none
def Qfk (s:S)(t:TypeId)(a x:Operand):Ef:=match opd s.env a with
 |some p=>match p.ptr? with
  |some (i,o)=>match opd s.env x with
   |some v=>match C.ty.get t with
    |some J=>bif Nat.beq v.cells.length J.n&& !tupV v then storeAt s i o v.cells else none
    |none=>none
   |none=>none
  |none=>none
 |none=>none
def mapI (e:Env)(m:Operand):Option Nat:=match opd e m with
 |some v=>v.map?
 |none=>none
def mapW (s:S)(i:Nat):Option (List (V×V)×Nat):=bif Nat.blt i s.fl then none else match s.h.get i with
 |some (.m es c _)=>some (es,c)
 |_=>none
def putM (s:S)(i:Nat)(es:List (V×V))(c:Nat)(k v:V):Option (Option (Nat×V×V))->Ef
 |some (some (p,x,_))=>bif beq k x&&flKy k then some (un,s.seth (s.h.set i (.m (Qhy v es p) c none)))else none
 |some none=>some (un,s.seth (s.h.set i (.m (es++[(k,v)]) (c+1) none)))
 |none=>none
def eUpd (s:S)(t:TypeId)(m k x:Operand):Ef:=match mapI s.env m with
 |some i=>match opd s.env k with
  |some k=>match opd s.env x with
   |some v=>match Qdl C t with
    |some (kt,_)=>match mapW s i with
     |some (es,c)=>putM s i es c k v (Qdm C kt k es)
     |none=>none
    |none=>none
   |none=>none
  |none=>none
 |none=>none
def entP (s:S)(i:Nat)(es:List (V×V))(c p:Nat)(v:V):Ef:=some (.t [v,.w s.nx],s.sethn (s.h.set i (.m es c (some (s.nx,p)))) (s.nx+1))
def entM (s:S)(J:Ti)(i:Nat)(es:List (V×V))(c:Nat)(k:V):Option (Option (Nat×V×V))->Ef
 |some (some (p,x,v))=>bif beq k x&&flKy k then entP s i es c p v else none
 |some none=>entP s i (es++[(k,zeroV J)]) (c+1) es.length (zeroV J)
 |none=>none
def eEnt (s:S)(t:TypeId)(m k:Operand):Ef:=match mapI s.env m with
 |some i=>match opd s.env k with
  |some k=>match Qdl C t with
   |some (kt,J)=>match mapW s i with
    |some (es,c)=>entM s J i es c k (Qdm C kt k es)
    |none=>none
   |none=>none
  |none=>none
 |none=>none
def Qgz (s:S)(i:Nat):Option (List (V×V)×Nat×Nat×Nat):=bif Nat.blt i s.fl then none else match s.h.get i with
 |some (.m es c (some (j,k)))=>some (es,c,j,k)
 |_=>none
def V.w?:V->Option Nat
 | .w a=>some a
 |_=>none
def eEst (s:S)(m w x:Operand):Ef:=match mapI s.env m with
 |some i=>match opd s.env w with
  |some w=>match w.w? with
   |some j=>match opd s.env x with
    |some v=>match Qgz s i with
     |some (es,c,j',p)=>bif Nat.beq j j' then some (un,s.seth (s.h.set i (.m (Qhy v es p) c none)))else none
     |none=>none
    |none=>none
   |none=>none
  |none=>none
 |none=>none
def nxQ (s:S):O->Ef
 | .qn=>some (.t [bo false],s)
 |_=>none
def nxStr (s:S)(i:Nat):O->Ef
 | .st b pos=>bif Nat.blt pos b.size then(bif Nat.blt i s.fl then none else some (.t [bo true,nt pos,.k (.int .i32 (Utf8.decode b pos).1)],s.seth (s.h.set i (.st b (pos+(Utf8.decode b pos).2)))))else some (.t [bo false],s)
 |_=>none
def eNext (s:S)(x:Operand)(str:Bool):Ef:=match opd s.env x with
 |some v=>match v.it? with
  |some i=>match s.h.get i with
   |some o=>bif str then nxStr s i o else nxQ s o
   |none=>none
  |none=>none
 |none=>none
def back (s:S):Ch3->Ef
 |some (v,h,nx)=>some (v,s.sethn h nx)
 |none=>none
def eApp (s:S)(t:TypeId)(x y:V):Ef:=match Qbk C t with
 |some el=>match C.ty.get el with
  |some J=>back s (Qfx J el s.h s.nx s.fl x y)
  |none=>none
 |none=>none
def ty2 {α:Type}(ts:List TypeId)(f:TypeId->Option α):Option α:=match ts with
 | [t,u]=>bif Nat.beq t u then f t else none
 |_=>none
def eClr (s:S)(t:TypeId)(x:V):Ef:=match Qcf C t with
 |some J=>match x.sl? with
  |some (i,o,n,_)=>bif Nat.beq n 0 then some (un,s)else storeAt s i o (rep J.z n)
  |none=>bif x.nilS then some (un,s)else none
 |none=>none
def eBi (s:S)(xs:List Operand)(ts:List TypeId):Builtin->Ef
 | .append=>ty2 ts fun t=>arg2 (opds s.env xs) fun x y=>eApp C s t x y
 | .clear=>ty1 ts fun t=>arg1 (opds s.env xs) fun x=>eClr C s t x
 |_=>none
def callR (s:S):Option Rs->Ef
 |some (.call v h nx)=>some (v,s.sethn h nx)
 |_=>none
def eCv (ih:Job->Option Rs)(s:S)(f:Operand)(xs:List Operand):Ef:=match opds s.env xs with
 |some args=>match opd s.env f with
  |some fv=>callR s (ih (.call fv args s.h s.nx s.fl))
  |none=>none
 |none=>none
def eCall (ih:Job->Option Rs)(s:S)(c:Call):Ef:=match c.callee with
 | .value f=>eCv ih s f c.args.toList
 | .builtin b=>eBi C s c.args.toList c.argTypes.toList b
 |_=>none
def isF:V->Bool
 | .f _ _ _=>true
 |_=>false
def eDef (s:S)(c:Call):Ef:=match c.callee with
 | .value f=>match opds s.env c.args.toList with
  |some args=>match opd s.env f with
   |some fv=>bif s.rd|| !isF fv then none else some (un,⟨s.env,(some (fv,args),0)::s.ds,s.h,s.nx,s.rd,s.fl⟩)
   |none=>none
  |none=>none
 |_=>none
def eff (ih:Job->Option Rs)(s:S):Op->Ef
 | .store t a x=>Qfk C s t a x
 | .mapUpdate t m k x=>eUpd C s t m k x
 | .insert t m k x=>eUpd C s t m k x
 | .mapEntry t m k=>eEnt C s t m k
 | .entryStore t m w x=>eEst s m w x
 | .next x b=>eNext s x b
 | .call c=>eCall C ih s c
 | .defer c=>eDef s c
 |_=>none
def clsC (c:Call):Nat:=match c.callee with
 | .builtin .len=>4
 | .builtin .cap=>0
 | .builtin .min=>0
 | .builtin .max=>0
 |_=>3
def cls:Op->Nat
 | .load _ _=>1
 | .lookup _ _ _ _=>1
 | .entry _=>1
 | .alloc _=>2
 | .box _ _=>2
 | .buildSlice _ _ _=>2
 | .makeMap _ _=>2
 | .makeSlice _ _ _=>2
 | .range _ _=>2
 | .store _ _ _=>3
 | .mapUpdate _ _ _ _=>3
 | .insert _ _ _ _=>3
 | .mapEntry _ _ _=>3
 | .entryStore _ _ _ _=>3
 | .next _ _=>3
 | .defer _=>3
 | .convert _ _ _=>4
 | .call c=>clsC c
 |_=>0
def orV (a b:Option V):Option V:=match a with
 |some v=>some v
 |none=>b
def look1 (e:Env)(h:T O)(o:Op):Nat->Option V
 |0=>pure1 C e o
 |1=>read1 C e h o
 |_=>orV (pure1 C e o) (read1 C e h o)
def made (s:S):Option (V×O)->Ef
 |some (v,x)=>some (v,s.new x)
 |none=>none
def kept (s:S)(o:Op):Option V->Ef
 |some v=>some (v,s)
 |none=>made s (Qbw C s.env s.h s.nx o)
def op1 (ih:Job->Option Rs)(s:S)(o:Op):Nat->Ef
 |3=>eff C ih s o
 |2=>made s (Qbw C s.env s.h s.nx o)
 |n=>kept C s o (look1 C s.env s.h o n)
def wantB (want:Bool)(e:Env):Option Nat->Option Bool
 |some d=>match e.get d with
  |some v=>match v.bool? with
   |some b=>some (b==want)
   |none=>some false
  |none=>none
 |none=>some false
def wantedV (ops:List Oper)(e:Env)(g:Option (Nat×Bool)):Option Bool:=match g with
 |none=>some true
 |some (j,want)=>match ops[j]? with
  |some o=>wantB want e o.dst
  |none=>some false
def seq1 (ih:Job->Option Rs)(all:List Oper):List Oper->S->Option S
 | [],s=>some s
 |o::r,s=>match wantedV all s.env o.guard with
  |some true=>(match op1 C ih s o.op (cls o.op)with
   |some (v,s')=>seq1 ih all r (s'.upo o.dst v)
   |none=>none)
  |some false=>seq1 ih all r (s.upo o.dst un)
  |none=>none
def tst (b i:Nat):Bool:=Nat.beq (Nat.land (b / 2^i) 1) 1
def bits (bs:List Nat)(l:List Edge):Nat:=l.foldl (fun s e=>bif Region.binds .any e then Nat.lor s (Nat.lor (2^e.on) (bs.getD e.on 0))else s) 0
def Qav:List Oper->List Nat->List Nat
 | [],bs=>bs
 |o::r,bs=>Qav r (bs++[bits bs o.after.toList])
def edgesOk (i:Nat)(l:List Edge):Bool:=l.all fun e=> !Region.binds .any e||Nat.blt e.on i
def Qcr:List Oper->Nat->Bool
 | [],_=>true
 |o::r,i=>edgesOk i o.after.toList&&Qcr r (i+1)
def tmpOf:Operand->Option Nat
 | .tmp t=>some t
 |_=>none
def optL:Option Nat->List Nat
 |some d=>[d]
 |none=>[]
def gdOf (ops:List Oper):Option (Nat×Bool)->List Nat
 |some (j,_)=>match ops[j]? with
  |some o=>optL o.dst
  |none=>[]
 |none=>[]
def sees (ops:List Oper)(o:Oper):List Nat:=o.op.operands.toList.filterMap tmpOf++gdOf ops o.guard
def has (l:List Nat):Option Nat->Bool
 |some d=>l.any fun x=>Nat.beq x d
 |none=>false
def near (d:Option Nat)(l:List Nat)(d':Option Nat)(l':List Nat):Bool:=has l' d||has l d'||has (optL d) d'
def Qen (d':Option Nat)(l':List Nat)(b:Nat):List (Option Nat×List Nat)->Nat->Bool
 | [],_=>true
 |(d,l)::r,i=>(!near d l d' l'||tst b i)&&Qen d' l' b r (i+1)
def Qdn (ops:List Oper)(bs:List Nat):List Oper->List (Option Nat×List Nat)->Bool
 | [],_=>true
 |o::r,acc=>Qen o.dst (sees ops o) (bs.getD acc.length 0) acc 0&&Qdn ops bs r (acc++[(o.dst,sees ops o)])
def cnt {α:Type}(l:List α):Nat:=List.rec 0 (fun _ _ n=>Nat.add n 1) l
def stat (ops:List Oper):Option (List Nat):=bif Qcr ops 0&&Qdn ops (Qav ops []) ops []then some (Qav ops [])else none
structure D where
 s:S
 cs:List (Nat×S)
 xs:List (Nat×Nat×O)
 rs:List (Nat×Op×Env×V)
 q:Nat
def layIf (h:T O)(i:Nat)(x:O):T O:=match h.get i with
 |some _=>h
 |none=>h.set i x
def lay (h:T O)(p:Nat->Bool):List (Nat×Nat×O)->T O
 | []=>h
 |(j,i,x)::r=>bif p j then layIf (lay h p r) i x else lay h p r
def noQ:O->Bool
 | .q _ _ _=>false
 |_=>true
def dMade (d:D)(i:Nat)(dst:Option Nat):Option (V×O)->Option D
 |some (v,x)=>bif noQ x then some ⟨d.s.upo dst v,d.cs,(i,d.q,x)::d.xs,d.rs,d.q+1⟩else none
 |none=>none
def dLook (d:D)(i:Nat)(o:Oper):Option V->Option D
 |some v=>some ⟨d.s.upo o.dst v,d.cs,d.xs,(i,o.op,d.s.env,v)::d.rs,d.q⟩
 |none=>dMade d i o.dst (Qbw C d.s.env d.s.h d.q o.op)
def there (b:Nat)(h:T O)(x:Nat×Nat×O):Bool:= !tst b x.1||(h.get x.2.1).isSome
def dEff (d:D)(i b:Nat)(dst:Option Nat):Ef->Option D
 |some (v,s)=>bif d.xs.all (there b s.h)then some ⟨s.upo dst v,(i,s)::d.cs,d.xs,d.rs,d.q⟩else none
 |none=>none
def dStep (ih:Job->Option Rs)(d:D)(i b:Nat)(o:Oper):Nat->Option D
 |3=>bif d.cs.all (fun c=>tst b c.1)then dEff d i b o.dst (eff C ih (d.s.seth (lay d.s.h (tst b) d.xs)) o.op)else none
 |2=>dMade d i o.dst (Qbw C d.s.env d.s.h d.q o.op)
 |n=>dLook C d i o (look1 C d.s.env (lay d.s.h (tst b) d.xs) o.op n)
def dOne (ih:Job->Option Rs)(all:List Oper)(d:D)(i b:Nat)(o:Oper):Option D:=match wantedV all d.s.env o.guard with
 |some true=>dStep C ih d i b o (cls o.op)
 |some false=>some ⟨d.s.upo o.dst un,d.cs,d.xs,d.rs,d.q⟩
 |none=>none
def dGo (ih:Job->Option Rs)(all:List Oper)(bs:List Nat):List Oper->Nat->D->Option D
 | [],_,d=>some d
 |o::r,i,d=>match dOne C ih all d i (bs.getD i 0) o with
  |some d=>dGo ih all bs r (i+1) d
  |none=>none
def same1 (v:V):Option V->Bool
 |some u=>beq u v
 |none=>false
def behind (s0:S):List (Nat×S)->S
 | []=>s0
 |(_,s)::_=>s
def reread2 (s0:S)(d:D)(b:Nat)(o:Op)(e:Env)(v:V)(lo hi:Nat):Bool:=
 bif Nat.beq lo hi then true else(List.range (hi+1-lo)).all fun k=>same1 v (look1 C e (lay (behind s0 (d.cs.drop (cnt d.cs-(lo+k)))).h (tst b) d.xs) o (cls o))
def reread (s0:S)(bs:List Nat)(d:D)(x:Nat×Op×Env×V):Bool:=bif Nat.beq (cls x.2.1) 0 then true else
 reread2 C s0 d (bs.getD x.1 0) x.2.1 x.2.2.1 x.2.2.2 (cnt (d.cs.filter fun c=>tst (bs.getD x.1 0) c.1)) (cnt d.cs-cnt (d.cs.filter fun c=>tst (bs.getD c.1 0) x.1))
def dEnd (s0:S)(bs:List Nat):Option D->Option S
 |some d=>bif d.rs.all (reread C s0 bs d)then some (d.s.seth (lay d.s.h (fun _=>true) d.xs))else none
 |none=>none
def dRun0 (ih:Job->Option Rs)(ops:List Oper)(bs:List Nat)(s0:S)(q:Nat):Option S:=dEnd C s0 bs (dGo C ih ops bs ops 0 ⟨s0,[],[],[],q⟩)
def drawn (ih:Job->Option Rs)(ops:Array Oper)(s:S):Option S:=match stat ops.toList with
 |some bs=>dRun0 C ih ops.toList bs (s.sethn s.h (s.nx+cnt ops.toList)) s.nx
 |none=>none
def Qdg:Code->List Nat
 | .region _ ops _=>ops.toList.filterMap (·.dst)
 | .seq a b=>Qdg a++Qdg b
 | .cond _ a b=>Qdg a++Qdg b
 | .block _ a=>Qdg a
 | .loop a=>Qdg a
 | .scope a=>Qdg a
 |_=>[]
def delAll (e:Env):List Nat->Env
 | []=>e
 |d::r=>delAll (e.del d) r
structure Nx where
 x:Operand
 d:Nat
 all:List Oper
 r:List Oper
 c:Code
def nextOp (ops:List Oper)(c:Code):Option Nx:=match ops with
 |⟨some d,.next x false,_,_,_,none⟩::r=>some ⟨x,d,ops,r,c⟩
 |_=>none
def Qfo:Code->Option Nx
 | .seq (.region _ ops false) c=>nextOp ops.toList c
 |_=>none
def roundC (ih:Job->Option Rs)(c:Code):Option S->Option Rs
 |some s=>ih (.code c s)
 |none=>none
def round0 (ih:Job->Option Rs)(N:Nx)(s:S)(v:V):Option Rs:=roundC ih N.c (seq1 C ih N.all N.r (s.up N.d v))
def round1 (ih:Job->Option Rs)(N:Nx)(s:S)(i m c:Nat)(al:Bool)(k v:V):Option Rs:=round0 C ih N (s.seth (s.h.set i (.q m c (.cur k al)))) (.t [bo true,k,v])
def roundR:Option Rs->Option S
 |some (.code .n s)=>some s
 |_=>none
def left:Option Rs->Option Rs
 |some (.code x s)=>match x with
  | .n=>none
  |x=>some (.code x s)
 |_=>none
def finL (ih:Job->Option Rs)(N:Nx)(s:S)(i:Nat):Option Rs:=left (round0 C ih N (s.seth (s.h.del i)) (.t [bo false]))
def lastQ (h:T O)(i:Nat):Option (Nat×Nat):=match h.get i with
 |some (.q m c (.cur _ true))=>some (m,c)
 |_=>none
def one2 (ih:Job->Option Rs)(N:Nx)(i:Nat)(s:S):Option (Nat×Nat)->Option Rs
 |some (m,c)=>match mapC s.h m with
  |some (_,c')=>bif Nat.beq c c' then finL C ih N s i else none
  |none=>none
 |none=>none
def itOf (N:Nx)(s:S):Option Nat:=match opd s.env N.x with
 |some v=>v.it?
 |none=>none
def one1 (ih:Job->Option Rs)(N:Nx):Option S->Option Rs
 |some s=>match itOf N s with
  |some i=>bif Nat.blt i s.fl then none else one2 C ih N i s (lastQ s.h i)
  |none=>none
 |none=>none
def sameO (x y:Option V):Bool:=match x with
 |some a=>match y with
  |some b=>beq a b
  |none=>false
 |none=>true
def envLe (e0 e2 e:Env):Bool:=Env.rec true (fun t _ _ ih=>sameO (e0.get t) (e2.get t)&&ih) e
def rounds (ih:Job->Option Rs)(N:Nx)(s:S)(i m c:Nat):List (V×V)->Bool
 | []=>true
 |(k,v)::r=>match roundR (round1 C ih N ⟨s.env,s.ds,s.h,s.nx,s.rd,s.nx⟩ i m c false k v)with
  |some s2=>s.ds.isEmpty&&s2.ds.isEmpty&&envLe s.env s2.env s.env&&rounds ih N s i m c r
  |none=>false
def ne0:V->V->Bool
 | .k a,.k b=>Qid a&&Qid b&& !vB a b
 |_,_=>false
def neL:List V->List V->Bool
 |a::x,b::y=>ne0 a b||neL x y
 |_,_=>false
def neK:V->V->Bool
 | .g x,.g y=>neL x y
 |a,b=>ne0 a b
def dk:List (V×V)->Bool
 | []=>true
 |(k,_)::r=>r.all (fun y=>neK k y.1)&&dk r
def bare (s:S)(b:Code):S:=⟨delAll s.env (Qdg b),s.ds,s.h,s.nx,s.rd,s.fl⟩
def many (ih:Job->Option Rs)(N:Nx)(s:S)(i m c:Nat)(es:List (V×V)):Option Rs:=match itOf N s with
 |some j=>bif Nat.beq j i&&dk es&&rounds C ih N s i m c es then finL C ih N s i else none
 |none=>none
def Qhv (ih:Job->Option Rs)(b:Code)(N:Nx)(s:S)(i m c:Nat)(es:List (V×V)):Option Rs:=match es with
 | []=>finL C ih N s i
 | [(k,v)]=>one1 C ih N (roundR (round1 C ih N s i m c true k v))
 |es=>many C ih N (bare s b) i m c es
def bindV:List Nat->List V->Env->Option Env
 | [],[],e=>some e
 |p::ps,v::vs,e=>bindV ps vs (e.set p v)
 |_,_,_=>none
def argV:List V->Nat->Env->Env
 | [],_,e=>e
 |v::vs,i,e=>argV vs (i+1) (e.set i v)
def isDf:Option O->Bool
 |some .df=>true
 |_=>false
def callH:Option Rs->Option (T O×Nat)
 |some (.call _ h nx)=>some (h,nx)
 |_=>none
def Qih (ih:Job->Option Rs)(fl:Nat):List (Option (V×List V)×Nat)->T O->Nat->Option (T O×Nat)
 | [],h,nx=>some (h,nx)
 |(none,i)::r,h,nx=>bif Nat.ble fl i&&isDf (h.get i)then Qih ih fl r (h.del i) nx else none
 |(some (f,args),_)::r,h,nx=>match callH (ih (.dcall f args h nx fl))with
  |some (h,nx)=>Qih ih fl r h nx
  |none=>none
def res1 (e:Env)(h:T O):ResultVar->Option V
 | .tmp t=>e.get t
 | .cell a t=>match e.get a with
  |some p=>loadV C h t p
  |none=>none
def resV (e:Env)(h:T O):List ResultVar->Option (List V)
 | []=>some []
 |x::r=>match res1 C e h x with
  |some v=>match resV e h r with
   |some vs=>some (v::vs)
   |none=>none
  |none=>none
def one:List V->V
 | [v]=>v
 |l=>.t l
def nrm (o:Option S):Option Rs:=match o with
 |some s=>some (.code .n s)
 |none=>none
def cSeq (ih:Job->Option Rs)(b:Code):Option Rs->Option Rs
 |some (.code .n s)=>ih (.code b s)
 |r=>r
def cCond (ih:Job->Option Rs)(x:Operand)(a b:Code)(s:S):Option Rs:=match opd s.env x with
 |some v=>match v.bool? with
  |some t=>ih (.code (bif t then a else b) s)
  |none=>none
 |none=>none
def blk (i j:Nat)(s:S):Option Rs:=bif Nat.beq j i then some (.code .n s)else some (.code (.e j) s)
def cBlock (i:Nat):Option Rs->Option Rs
 |some (.code (.e j) s)=>blk i j s
 |r=>r
def cAgain (ih:Job->Option Rs)(b:Code):Option Rs->Option Rs
 |some (.code .n s)=>ih (.code (.loop b) s)
 |r=>r
def freshAt (h:T O)(i:Nat):Option (Nat×Nat):=match h.get i with
 |some (.q m c .fresh)=>some (m,c)
 |_=>none
def isNext (b:Code)(s:S):Option (Nx×Nat×Nat×Nat×List (V×V)):=match Qfo b with
 |some N=>match opd s.env N.x with
  |some v=>match v.it? with
   |some i=>match freshAt s.h i with
    |some (m,c)=>match mapC s.h m with
     |some (es,c')=>bif Nat.beq c c' then some (N,i,m,c,es)else none
     |none=>none
    |none=>none
   |none=>none
  |none=>none
 |none=>none
def cLoop (ih:Job->Option Rs)(b:Code)(s:S):Option Rs:=match isNext b s with
 |some (N,i,m,c,es)=>bif Nat.blt i s.fl then none else Qhv C ih b N s i m c es
 |none=>cAgain ih b (ih (.code b s))
def lpAt (h:T O)(i:Nat):Option (Env×List Nat×Code×Code×Bool×Option Code):=match h.get i with
 |some (.lp e ps a b st p)=>some (e,ps,a,b,st,p)
 |_=>none
def pendX:Option Code->Option X
 |none=>some .n
 |some .ret=>some .r
 |some (.exit j)=>some (.e j)
 |_=>none
def rfEnd (s:S)(i:Nat):Option (T O×Nat)->Option Rs
 |some (h,nx)=>match lpAt h (i+1)with
  |some (_,_,_,_,st,p)=>bif st&&p.isNone then none else match pendX p with
   |some x=>some (.code x ⟨s.env,(none,i)::s.ds,h.del (i+1),nx,s.rd,s.fl⟩)
   |none=>none
  |none=>none
 |none=>none
def cRf (ih:Job->Option Rs)(f:Operand)(ps:List Nat)(asg body:Code)(s:S):Option Rs:=match opd s.env f with
 |some fv=>bif s.rd|| !isF fv then none else rfEnd s s.nx (callH (ih (.call fv [.y (s.nx+1)] ((s.h.set s.nx .df).set (s.nx+1) (.lp s.env ps asg body false none)) (s.nx+2) s.fl)))
 |none=>none
def fCode (ih:Job->Option Rs)(s:S):Code->Option Rs
 | .skip=>some (.code .n s)
 | .label _=>some (.code .n s)
 | .region _ ops d=>nrm (bif d then drawn C ih ops s else seq1 C ih ops.toList ops.toList s)
 | .seq a b=>cSeq ih b (ih (.code a s))
 | .cond x a b=>cCond ih x a b s
 | .block i b=>cBlock i (ih (.code b s))
 | .scope b=>ih (.code b s)
 | .loop b=>cLoop C ih b s
 | .exit i=>some (.code (.e i) s)
 | .ret=>some (.code .r s)
 | .rangeFunc f ps asg body=>cRf ih f ps.toList asg body s
 |_=>none
def jump:X->Option (Bool×Option Code)
 | .n=>some (false,none)
 | .r=>some (true,some .ret)
 | .e j=>some (true,some (.exit j))
def yOut (i:Nat)(s:S)(b:Bool)(c:Option Code):Option (Env×List Nat×Code×Code×Bool×Option Code)->Option Rs
 |some (e,ps,asg,body,_,_)=>some (.call (bo (!b)) (s.h.set i (.lp e ps asg body b c)) s.nx)
 |none=>none
def yEnd (i:Nat):Option Rs->Option Rs
 |some (.code x s)=>match jump x with
  |some (b,c)=>yOut i s b c (lpAt s.h i)
  |none=>none
 |_=>none
def yGo (ih:Job->Option Rs)(i:Nat)(body:Code)(s:S):Option (Env×List Nat×Code×Code×Bool×Option Code)->Option Rs
 |some (e,ps,a,b,false,none)=>yEnd i (ih (.code body (s.seth (s.h.set i (.lp e ps a b true none)))))
 |_=>none
def yBody (ih:Job->Option Rs)(i:Nat)(body:Code):Option Rs->Option Rs
 |some (.code .n s)=>yGo ih i body s (lpAt s.h i)
 |_=>none
def yCall (ih:Job->Option Rs)(i:Nat)(args:List V)(h:T O)(nx fl:Nat):Option Rs:=bif Nat.blt i fl then none else match lpAt h i with
 |some (e,ps,asg,body,false,none)=>match bindV ps args e with
  |some e'=>yBody ih i body (ih (.code asg ⟨e',[],h,nx,true,fl⟩))
  |none=>none
 |_=>none
def retR (s:S)(rs:List ResultVar):Option (T O×Nat)->Option Rs
 |some (h,nx)=>match resV C s.env h rs with
  |some vs=>some (.call (one vs) h nx)
  |none=>none
 |none=>none
def Qhm:X->Bool
 | .e _=>true
 |_=>false
def bodyR (ih:Job->Option Rs)(fl:Nat)(rs:List ResultVar):Option Rs->Option Rs
 |some (.code x s)=>bif Qhm x then none else retR C s rs (Qih ih fl s.ds s.h s.nx)
 |_=>none
def okD (n:Nat):Code->Bool
 | .region _ ops _=>ops.toList.all fun o=>match o.dst with
  |some d=>Nat.blt d n
  |none=>true
 | .seq a b=>okD n a&&okD n b
 | .cond _ a b=>okD n a&&okD n b
 | .block _ a=>okD n a
 | .loop a=>okD n a
 | .scope a=>okD n a
 | .rangeFunc _ ps a b=>ps.toList.all (fun d=>Nat.blt d n)&&okD n a&&okD n b
 |_=>true
def fnCall (ih:Job->Option Rs)(fid:Nat)(args:List V)(h:T O)(nx fl:Nat):Option Rs:=match C.fn.get fid with
 |some fn=>match fn.body with
  |some c=>bif okD fn.ntmps c&&Nat.ble args.length fn.ntmps then bodyR C ih fl fn.results.toList (ih (.code c ⟨argV args 0 .o,[],h,nx,false,fl⟩))else none
  |none=>none
 |none=>none
def isRec (c:Call):Bool:=match c.callee with
 | .builtin .recover=>Nat.beq c.args.size 0&&Nat.beq c.argTypes.size 0
 |_=>false
def recOp:List Oper->Option Nat
 | [⟨some d,.call c,_,_,_,none⟩]=>bif isRec c then some d else none
 |_=>none
def dBody:Code->Option (Nat×Code)
 | .seq (.region _ ops false) b=>match recOp ops.toList with
  |some d=>some (d,b)
  |none=>none
 |_=>none
def endD (rs:List ResultVar):Option Rs->Option Rs
 |some (.code x s)=>bif Qhm x|| !s.ds.isEmpty|| !rs.isEmpty then none else some (.call un s.h s.nx)
 |_=>none
def dRun (ih:Job->Option Rs)(fn:Func)(args:List V)(h:T O)(nx fl:Nat):Option (Nat×Code)->Option Rs
 |some (d,b)=>bif okD fn.ntmps b&&Nat.ble args.length fn.ntmps&&Nat.blt d fn.ntmps then endD fn.results.toList (ih (.code b ⟨(argV args 0 .o).set d (.k .nilIface),[],h,nx,false,fl⟩))else none
 |none=>none
def dCall (ih:Job->Option Rs)(args:List V)(h:T O)(nx fl:Nat):V->Option Rs
 | .f fid first cap=>match C.fn.get fid with
  |some fn=>match fn.body with
   |some c=>dRun ih fn (first++args++cap) h nx fl (dBody c)
   |none=>none
  |none=>none
 |_=>none
def fCall (ih:Job->Option Rs)(args:List V)(h:T O)(nx fl:Nat):V->Option Rs
 | .y i=>yCall ih i args h nx fl
 | .f fid first cap=>fnCall C ih fid (first++args++cap) h nx fl
 |_=>none
def F (ih:Job->Option Rs):Job->Option Rs
 | .code c s=>fCode C ih s c
 | .call f args h nx fl=>fCall C ih args h nx fl f
 | .dcall f args h nx fl=>dCall C ih args h nx fl f
def ai (n:Nat):Job->Option Rs:=Nat.rec (fun _=>none) (fun _ ih j=>F C ih j) n
end
end NC
end Go.M
end
section
namespace Go.M
noncomputable section NC
open Go.Z
def isAg:TypeDesc->Bool
 | .struct _=>true
 | .array _ _=>true
 |_=>false
def isAggV:Value->Bool
 | .agg _=>true
 |_=>false
def plsOf (P:Program):TypeDesc->Option (List (Nat×Nat))
 | .struct fs=>qpl P fs.toList
 |_=>some []
def tiOf (P:Program)(t:Nat):Option Ti:=match P.underlying t,P.info? t with
 |some u,some i=>match i.zero,plsOf P u with
  |some z,some pl=>bif z.cells.toList.all Qhh&&(bif isAg u then isAggV z else Qhh z)&&Nat.beq z.cells.size i.size then some ⟨u,i.size,isAg u,z.cells.toList.map .k,i.bytes, !P.stoodInHeld t&& !P.eqGuardType P.depth t,pl⟩else none
  |_,_=>none
 |_,_=>none
def fnOf (P:Program)(i:Nat):Option Func:=match P.funcs[i]? with
 |some f=>bif f.name== "runtime.NumGoroutine" then none else some f
 |none=>none
def mkC (P:Program)(gv:T (List V)):Cx:=⟨tb 12 (tiOf P),tb 12 (fnOf P),gv⟩
def run0 (C:Cx)(n:Nat)(f:FuncId):Option V:=match ai C n (.call (.f f [] []) [] .lf 0 0)with
 |some (.call v _ _)=>some v
 |_=>none
end NC
end Go.M
end
section
namespace Go.Proofs.YtlbdgahbamalcaaGreatDoor
theorem T6:M.run0 (M.mkC Tryz.prog .lf) 100000 6=some (.k (.bool true)):=by kernel_rfl
end Go.Proofs.YtlbdgahbamalcaaGreatDoor
end
section
namespace Go.M
open Go.RowKit Go.Z
section
variable {α:Type}
theorem T.get_lf (i:Nat):(T.lf:T α).get i=none:=rfl
theorem T.get_0 (v:Option α)(l r:T α):(T.nd v l r).get 0=v:=rfl
theorem T.get_s (v:Option α)(l r:T α)(j:Nat):(T.nd v l r).get (j+1)=bif Nat.beq (j%2) 0 then l.get (j / 2)else r.get (j / 2):=rfl
theorem T.put_s0 (f:Nat)(t:T α)(v:Option α):T.put (f+1) t 0 v=match t with| .lf=>.nd v .lf .lf | .nd _ l r=>.nd v l r:=by cases t<;>rfl
theorem T.put_ss (f:Nat)(t:T α)(j:Nat)(v:Option α):T.put (f+1) t (j+1) v=match t with
  | .lf=>bif Nat.beq (j%2) 0 then .nd none (T.put f .lf (j / 2) v) .lf else .nd none .lf (T.put f .lf (j / 2) v)
  | .nd u l r=>bif Nat.beq (j%2) 0 then .nd u (T.put f l (j / 2) v) r else .nd u l (T.put f r (j / 2) v):=by cases t<;>rfl
theorem T.get_put: ∀(f:Nat) (t:T α) (i:Nat) (v:Option α) (j:Nat),i<f->(T.put f t i v).get j=if j=i then v else t.get j
 |0,_,_,_,_,h=>by omega
 |f+1,t,0,v,j,_=>by
  rw[T.put_s0]
  cases t<;>cases j<;>simp[T.get_lf,T.get_0,T.get_s]
 |f+1,t,i+1,v,j,h=>by
  rw[T.put_ss]
  have ih:=fun t j=>T.get_put f t (i / 2) v j (by omega)
  cases t with
  |lf=>
   rcases Xu i with hi|hi<;>cases j with
   |zero=>simp[hi,T.get_0,T.get_lf,show Nat.beq 1 0=false from rfl]
   |succ j=>
    rcases Xu j with hj|hj<;>simp only[hi,hj,cond_true,cond_false,T.get_s,ih,T.get_lf,show Nat.beq 1 0=false from rfl,show Nat.beq 0 0=true from rfl]<;>
     (try split)<;>(try split)<;>first|rfl|omega
  |nd u l r=>
   rcases Xu i with hi|hi<;>cases j with
   |zero=>simp[hi,T.get_0,show Nat.beq 1 0=false from rfl]
   |succ j=>
    rcases Xu j with hj|hj<;>simp only[hi,hj,cond_true,cond_false,T.get_s,ih,show Nat.beq 1 0=false from rfl,show Nat.beq 0 0=true from rfl]<;>
     (try split)<;>(try split)<;>first|rfl|omega
theorem T.get_set (t:T α)(i:Nat)(v:α)(j:Nat):(t.set i v).get j=if j=i then some v else t.get j:=T.get_put _ t i _ j (by omega)
theorem T.get_del (t:T α)(i j:Nat):(t.del i).get j=if j=i then none else t.get j:=T.get_put _ t i _ j (by omega)
theorem T.get_set_same (t:T α)(i:Nat)(v:α):(t.set i v).get i=some v:=by rw[T.get_set,Qj rfl]
theorem T.get_set_other (t:T α){i j:Nat}(v:α)(h:j≠i):(t.set i v).get j=t.get j:=by rw[T.get_set,Qd h]
theorem tb_get: ∀(d:Nat) (f:Nat->Option α) (i:Nat) (x:α),(tb d f).get i=some x->f i=some x
 |0,_,_,_,h=>by cases h
 |d+1,f,0,x,h=>h
 |d+1,f,i+1,x,h=>by
  unfold tb at h
  rw[T.get_s]at h
  rcases Xu i with hi|hi<;>rw[hi]at h
  ·have:=tb_get d _ _ _ (show(tb d fun k=>f (2*k+1)).get (i / 2)=some x from h)
   rwa[show 2*(i / 2)+1=i+1 by omega]at this
  ·have:=tb_get d _ _ _ (show(tb d fun k=>f (2*k+2)).get (i / 2)=some x from h)
   rwa[show 2*(i / 2)+2=i+1 by omega]at this
end
theorem Env.get_c (t:Nat)(v:V)(r:Env)(d:Nat):(Env.c t v r).get d=if t=d then some v else r.get d:=by
 show(bif Nat.beq t d then some v else r.get d)=_
 by_cases h:t=d
 ·subst h;simp
 ·rw[Qd h,show Nat.beq t d=false from by cases hb:Nat.beq t d with|false=>rfl|true=>exact absurd (Ql hb) h];rfl
theorem Env.get_o (d:Nat):Env.o.get d=none:=rfl
theorem Env.get_del (t:Nat): ∀(e:Env) (d:Nat) (v:V),(e.del t).get d=some v->e.get d=some v/\d≠t
 | .o,d,v,h=>by cases h
 | .c u x r,d,v,h=>by
  have h':(bif Nat.beq u t then r.del t else .c u x (r.del t)).get d=some v:=h
  cases hb:Nat.beq u t with
  |true=>
   rw[hb]at h'
   obtain⟨h1,h2⟩:=Env.get_del t r d v h'
   have:u=t:=Ql hb
   rw[Env.get_c,Qd (by omega)]
   exact⟨h1,h2⟩
  |false=>
   rw[hb]at h'
   rw[cond_false,Env.get_c]at h'
   rw[Env.get_c]
   split
   ·rename_i e
    subst e
    rw[Qj rfl]at h'
    exact⟨h',fun e=>by subst e;simp at hb⟩
   ·rename_i e
    rw[Qd e]at h'
    exact Env.get_del t r d v h'
structure Pl where
 b:Nat
 o:Nat
 c:Nat
 s:Nat
abbrev Rho:=Nat->Option Pl
def Le (ρ ρ':Rho):Prop:=∀i x,ρ i=some x->ρ' i=some x
theorem Le.refl (ρ:Rho):Le ρ ρ:=fun _ _ h=>h
theorem Le.trans {a b c:Rho}(h:Le a b)(k:Le b c):Le a c:=fun i x hx=>k i x (h i x hx)
def Rho.add (ρ:Rho)(i:Nat)(x:Pl):Rho:=fun j=>if j=i then some x else ρ j
theorem Rho.le_add {ρ:Rho}{i:Nat}{x:Pl}(h:ρ i=none):Le ρ (ρ.add i x):=fun j y hy=>by
 unfold Rho.add
 split
 ·rename_i e;subst e;rw[h]at hy;cases hy
 ·exact hy
theorem Rho.add_same (ρ:Rho)(i:Nat)(x:Pl):ρ.add i x i=some x:=Qj rfl
theorem Rho.add_other {ρ:Rho}{i j:Nat}{x:Pl}(h:j≠i):ρ.add i x j=ρ j:=Qd h
def capN (x:Pl):Cap->Nat
 | .c n=>n
 | .u u _=>x.c-u
def slOk (x:Pl)(o n:Nat):Cap->Bool
 | .c m=>decide (n<=m)
 | .u u z=>decide (z=x.s/\o=u*x.s/\u+n<=x.c)
mutual
def cv (ρ:Rho):V->Option Value
 | .k v=>if Qhh v=true then some v else none
 | .p i o=>match ρ i with
  |some x=>some (.pointer (some ⟨x.b,x.o+o,none⟩))
  |none=>none
 | .s i o n c=>match ρ i with
  |some x=>if slOk x o n c=true then some (.slice (some ⟨x.b,x.o+o,none⟩) n (capN x c))else none
  |none=>none
 | .m i=>match ρ i with
  |some x=>some (.map (some x.b))
  |none=>none
 | .f fn first cap=>match cvl ρ first,cvl ρ cap with
  |some a,some b=>some (.func (.func fn) a.toArray b.toArray)
  |_,_=>none
 | .y i=>match ρ i with
  |some x=>some (.func (.yield x.b) #[] #[])
  |none=>none
 | .q i=>match ρ i with
  |some x=>some (.pointer (some ⟨x.b,0,none⟩))
  |none=>none
 | .w i=>match ρ i with
  |some x=>some (.int .i64 (x.b:Int))
  |none=>none
 | .gl g o=>some (.pointer (some ⟨g,o,none⟩))
 | .g l=>match cvc ρ l with
  |some l=>some (.agg l.toArray)
  |none=>none
 | .t l=>match cvl ρ l with
  |some l=>some (.tuple l.toArray)
  |none=>none
 | .i T v=>match cv ρ v with
  |some u=>some (.iface T u)
  |none=>none
def cvl (ρ:Rho):List V->Option (List Value)
 | []=>some []
 |x::r=>match cv ρ x,cvl ρ r with
  |some v,some vs=>some (v::vs)
  |_,_=>none
def cvc (ρ:Rho):List V->Option (List Value)
 | []=>some []
 |x::r=>if oneV x=true then(match cv ρ x,cvc ρ r with
  |some v,some vs=>some (v::vs)
  |_,_=>none)else none
end
mutual
theorem Qam {ρ ρ':Rho}(h:Le ρ ρ'): ∀(x:V) (v:Value),cv ρ x=some v->cv ρ' x=some v
 | .k u,v,hv=>by unfold cv at hv ⊢;exact hv
 | .p i o,v,hv=>by
  unfold cv at hv ⊢
  cases hi:ρ i with
  |none=>rw[hi]at hv;cases hv
  |some x=>rw[h i x hi];rw[hi]at hv;exact hv
 | .s i o n c,v,hv=>by
  unfold cv at hv ⊢
  cases hi:ρ i with
  |none=>rw[hi]at hv;cases hv
  |some x=>rw[h i x hi];rw[hi]at hv;exact hv
 | .m i,v,hv=>by
  unfold cv at hv ⊢
  cases hi:ρ i with
  |none=>rw[hi]at hv;cases hv
  |some x=>rw[h i x hi];rw[hi]at hv;exact hv
 | .f fn first cap,v,hv=>by
  unfold cv at hv ⊢
  cases h1:cvl ρ first with
  |none=>rw[h1]at hv;cases hv
  |some a=>cases h2:cvl ρ cap with
   |none=>rw[h1,h2]at hv;cases hv
   |some b=>rw[Qbl h _ _ h1,Qbl h _ _ h2];rw[h1,h2]at hv;exact hv
 | .y i,v,hv=>by
  unfold cv at hv ⊢
  cases hi:ρ i with
  |none=>rw[hi]at hv;cases hv
  |some x=>rw[h i x hi];rw[hi]at hv;exact hv
 | .q i,v,hv=>by
  unfold cv at hv ⊢
  cases hi:ρ i with
  |none=>rw[hi]at hv;cases hv
  |some x=>rw[h i x hi];rw[hi]at hv;exact hv
 | .w i,v,hv=>by
  unfold cv at hv ⊢
  cases hi:ρ i with
  |none=>rw[hi]at hv;cases hv
  |some x=>rw[h i x hi];rw[hi]at hv;exact hv
 | .gl g o,v,hv=>by unfold cv at hv ⊢;exact hv
 | .g l,v,hv=>by
  unfold cv at hv ⊢
  cases h1:cvc ρ l with
  |none=>rw[h1]at hv;cases hv
  |some a=>rw[Qbj h _ _ h1];rw[h1]at hv;exact hv
 | .t l,v,hv=>by
  unfold cv at hv ⊢
  cases h1:cvl ρ l with
  |none=>rw[h1]at hv;cases hv
  |some a=>rw[Qbl h _ _ h1];rw[h1]at hv;exact hv
 | .i T x,v,hv=>by
  unfold cv at hv ⊢
  cases h1:cv ρ x with
  |none=>rw[h1]at hv;cases hv
  |some a=>rw[Qam h _ _ h1];rw[h1]at hv;exact hv
theorem Qbl {ρ ρ':Rho}(h:Le ρ ρ'): ∀(x:List V) (v:List Value),cvl ρ x=some v->cvl ρ' x=some v
 | [],v,hv=>by unfold cvl at hv ⊢;exact hv
 |x::r,v,hv=>by
  unfold cvl at hv ⊢
  cases h1:cv ρ x with
  |none=>rw[h1]at hv;cases hv
  |some a=>cases h2:cvl ρ r with
   |none=>rw[h1,h2]at hv;cases hv
   |some b=>rw[Qam h _ _ h1,Qbl h _ _ h2];rw[h1,h2]at hv;exact hv
theorem Qbj {ρ ρ':Rho}(h:Le ρ ρ'): ∀(x:List V) (v:List Value),cvc ρ x=some v->cvc ρ' x=some v
 | [],v,hv=>by unfold cvc at hv ⊢;exact hv
 |x::r,v,hv=>by
  unfold cvc at hv ⊢
  split at hv
  ·rename_i ho
   rw[Qj ho]
   cases h1:cv ρ x with
   |none=>rw[h1]at hv;cases hv
   |some a=>cases h2:cvc ρ r with
    |none=>rw[h1,h2]at hv;cases hv
    |some b=>rw[Qam h _ _ h1,Qbj h _ _ h2];rw[h1,h2]at hv;exact hv
  ·cases hv
end
section
variable {ρ:Rho}
theorem Qaq {x:V}{r:List V}{l:List Value}(h:cvl ρ (x::r)=some l): ∃v vs,l=v::vs/\cv ρ x=some v/\cvl ρ r=some vs:=by
 unfold cvl at h
 cases h1:cv ρ x with
 |none=>rw[h1]at h;cases h
 |some a=>cases h2:cvl ρ r with
  |none=>rw[h1,h2]at h;cases h
  |some b=>rw[h1,h2]at h;injection h with h;exact⟨a,b,h.symm,rfl,rfl⟩
theorem Qap {x:V}{r:List V}{l:List Value}(h:cvc ρ (x::r)=some l): ∃v vs,l=v::vs/\oneV x=true/\cv ρ x=some v/\cvc ρ r=some vs:=by
 unfold cvc at h
 split at h
 ·rename_i ho
  cases h1:cv ρ x with
  |none=>rw[h1]at h;cases h
  |some a=>cases h2:cvc ρ r with
   |none=>rw[h1,h2]at h;cases h
   |some b=>rw[h1,h2]at h;injection h with h;exact⟨a,b,h.symm,ho,rfl,rfl⟩
 ·cases h
theorem Qbp {l:List Value}(h:cvl ρ []=some l):l=[]:=by unfold cvl at h;injection h with h;exact h.symm
theorem Qde {l:List Value}(h:cvc ρ []=some l):l=[]:=by unfold cvc at h;injection h with h;exact h.symm
theorem Qad {x:V}{r:List V}{v:Value}{vs:List Value}(h1:cv ρ x=some v)(h2:cvl ρ r=some vs):cvl ρ (x::r)=some (v::vs):=by unfold cvl;rw[h1,h2]
theorem Qgy {x:V}{r:List V}{v:Value}{vs:List Value}(h0:oneV x=true)(h1:cv ρ x=some v)(h2:cvc ρ r=some vs):cvc ρ (x::r)=some (v::vs):=by unfold cvc;rw[Qj h0,h1,h2]
theorem Qal: ∀{l:List V} {vs:List Value},cvc ρ l=some vs->vs.length=l.length
 | [],vs,h=>by rw[Qde h];rfl
 |x::r,vs,h=>by obtain⟨v,us,rfl,_,_,h2⟩:=Qap h;simp[Qal h2]
theorem cvl_len: ∀{l:List V} {vs:List Value},cvl ρ l=some vs->vs.length=l.length
 | [],vs,h=>by rw[Qbp h];rfl
 |x::r,vs,h=>by obtain⟨v,us,rfl,_,h2⟩:=Qaq h;simp[cvl_len h2]
theorem cvc_get: ∀{l:List V} {vs:List Value} {i:Nat} {x:V},cvc ρ l=some vs->l[i]?=some x->∃v,vs[i]?=some v/\cv ρ x=some v/\oneV x=true
 | [],vs,i,x,h,hi=>by cases hi
 |y::r,vs,0,x,h,hi=>by obtain⟨v,us,rfl,h0,h1,_⟩:=Qap h;injection hi with hi;subst hi;exact⟨v,rfl,h1,h0⟩
 |y::r,vs,i+1,x,h,hi=>by
  obtain⟨v,us,rfl,_,_,h2⟩:=Qap h
  obtain⟨u,h3,h4⟩:=cvc_get h2 (i:=i) (x:=x) (by simpa using hi)
  exact⟨u,by simpa using h3,h4⟩
theorem cvl_get: ∀{l:List V} {vs:List Value} {i:Nat} {x:V},cvl ρ l=some vs->l[i]?=some x->∃v,vs[i]?=some v/\cv ρ x=some v
 | [],vs,i,x,h,hi=>by cases hi
 |y::r,vs,0,x,h,hi=>by obtain⟨v,us,rfl,h1,_⟩:=Qaq h;injection hi with hi;subst hi;exact⟨v,rfl,h1⟩
 |y::r,vs,i+1,x,h,hi=>by
  obtain⟨v,us,rfl,_,h2⟩:=Qaq h
  obtain⟨u,h3,h4⟩:=cvl_get h2 (i:=i) (x:=x) (by simpa using hi)
  exact⟨u,by simpa using h3,h4⟩
theorem Qbr: ∀{l m:List V} {vs us:List Value},cvc ρ l=some vs->cvc ρ m=some us->cvc ρ (l++m)=some (vs++us)
 | [],m,vs,us,h,k=>by rw[Qde h];exact k
 |x::r,m,vs,us,h,k=>by obtain⟨v,ws,rfl,h0,h1,h2⟩:=Qap h;exact Qgy h0 h1 (Qbr h2 k)
theorem Qeb: ∀{l m:List V} {vs us:List Value},cvl ρ l=some vs->cvl ρ m=some us->cvl ρ (l++m)=some (vs++us)
 | [],m,vs,us,h,k=>by rw[Qbp h];exact k
 |x::r,m,vs,us,h,k=>by obtain⟨v,ws,rfl,h1,h2⟩:=Qaq h;exact Qad h1 (Qeb h2 k)
theorem Qbc: ∀{l:List V} {vs:List Value} (n:Nat),cvc ρ l=some vs->cvc ρ (l.take n)=some (vs.take n)
 | [],vs,n,h=>by rw[Qde h];simp;unfold cvc;rfl
 |x::r,vs,0,h=>by simp;unfold cvc;rfl
 |x::r,vs,n+1,h=>by obtain⟨v,ws,rfl,h0,h1,h2⟩:=Qap h;exact Qgy h0 h1 (Qbc n h2)
theorem Qbb: ∀{l:List V} {vs:List Value} (n:Nat),cvc ρ l=some vs->cvc ρ (l.drop n)=some (vs.drop n)
 | [],vs,n,h=>by rw[Qde h];simp;unfold cvc;rfl
 |x::r,vs,0,h=>h
 |x::r,vs,n+1,h=>by obtain⟨v,ws,rfl,h0,h1,h2⟩:=Qap h;exact Qbb n h2
theorem cvc_one: ∀{l:List V} {vs:List Value},cvc ρ l=some vs->∀u∈vs,u.oneCell'=true
 | [],vs,h,u,hu=>by rw[Qde h]at hu;cases hu
 |x::r,vs,h,u,hu=>by
  obtain⟨v,ws,rfl,h0,h1,h2⟩:=Qap h
  rcases Qk.1 hu with rfl|hu
  ·cases x<;>unfold cv at h1<;>first
    |(cases h0;done)
    |(split at h1<;>first|(cases h1;done)|(rename_i hp;injection h1 with h1;subst h1;rename_i w;cases w<;>first|rfl|cases hp))
    |(split at h1<;>first|(injection h1 with h1;subst h1;rfl)|cases h1|(split at h1<;>first|(injection h1 with h1;subst h1;rfl)|cases h1))
    |(injection h1 with h1;subst h1;rfl)
  ·exact cvc_one h2 u hu
end
end Go.M
end
section
namespace Go.M
open Go.RowKit Go.Z
structure TOK (P:Program) (t:TypeId) (I:Ti):Prop where
 u:P.underlying t=some I.u
 sz:szB P t=some I.n
 ag:aggB P t=some I.ag
 info: ∃i z,P.info? t=some i/\i.zero=some z/\I.z=z.cells.toList.map .k/\z.cells.toList.all Qhh=true/\(I.ag=true->z=.agg z.cells)/\(I.ag=false->Qhh z=true)/\i.bytes=I.b/\i.size=I.n/\z.cells.size=I.n
 pl: ∀fs,I.u=.struct fs->qpl P fs.toList=some I.pl
 e:I.e=true->P.stoodInHeld t=false/\P.eqGuardType P.depth t=false
structure OKC (P:Program) (C:Cx):Prop where
 ty: ∀t I,C.ty.get t=some I->TOK P t I
 fn: ∀i f,C.fn.get i=some f->P.funcs[i]?=some f/\f.name≠ "runtime.NumGoroutine"
 mixed:P.follows .mixedOrders=true
 gv: ∀g,C.gv.get g=none
structure Fe (ρ:Rho) (e:Env) (n:Nat) (a:Act):Prop where
 size:a.tmps.size=n
 get: ∀d x,e.get d=some x->∃v,cv ρ x=some v/\a.tmps[d]?=some v
section
variable {ρ ρ':Rho}{e:Env}{n:Nat}{a:Act}
theorem Fe.mono (h:Fe ρ e n a)(hl:Le ρ ρ'):Fe ρ' e n a:=⟨h.size,fun d x hd=>by obtain⟨v,h1,h2⟩:=h.get d x hd;exact⟨v,Qam hl _ _ h1,h2⟩⟩
theorem Fe.put (h:Fe ρ e n a){d:Nat}(hd:d<n){x:V}{v:Value}(hv:cv ρ x=some v):Fe ρ (e.set d x) n (a.put (some d) v):=by
 refine⟨by simp[Act.put,h.size],fun t y ht=>?_⟩
 have ht':(Env.c d x e).get t=some y:=ht
 rw[Env.get_c]at ht'
 split at ht'
 ·rename_i e1
  subst e1
  injection ht' with ht'
  subst ht'
  exact⟨v,hv,by simp[Act.put,h.size,hd]⟩
 ·rename_i e1
  obtain⟨u,h1,h2⟩:=h.get t y ht'
  exact⟨u,h1,by simp only[Act.put];rw[W7 e1];exact h2⟩
end
section
variable {x:V}
theorem V.int?_eq {k:IntKind}{n:Int}(h:x.int?=some (k,n)):x=.k (.int k n):=by
 unfold V.int? V.val? at h
 cases x with
 |k v=>cases v with
  |int a b=>simp only[Qc,Qr]at h;obtain⟨rfl,rfl⟩:=h;rfl
  |_=>cases h
 |_=>cases h
theorem V.val?_eq {v:Value}(h:x.val?=some v):x=.k v:=by
 unfold V.val? at h
 cases x with
 |k v=>injection h with h;subst h;rfl
 |_=>cases h
theorem V.nat?_eq {n:Nat}(h:x.nat?=some n): ∃k,x=.k (.int k (.ofNat n)):=by
 unfold V.nat? at h
 split at h
 ·rename_i k m h1;injection h with h;subst h;exact⟨_,V.int?_eq h1⟩
 ·cases h
theorem V.bool?_eq {b:Bool}(h:x.bool?=some b):x=.k (.bool b):=by
 unfold V.bool? at h
 split at h
 ·rename_i c h1;injection h with h;subst h;exact V.val?_eq h1
 ·cases h
theorem V.str?_eq {b:ByteArray}(h:x.str?=some b):x=.k (.string b):=by
 unfold V.str? at h
 split at h
 ·rename_i c h1;injection h with h;subst h;exact V.val?_eq h1
 ·cases h
theorem V.ptr?_eq {i o:Nat}(h:x.ptr?=some (i,o)):x=.p i o:=by
 unfold V.ptr? at h
 cases x<;>first|(simp only[Qc,Qr]at h;obtain⟨rfl,rfl⟩:=h;rfl)|cases h
theorem V.gl?_eq {i o:Nat}(h:x.gl?=some (i,o)):x=.gl i o:=by
 unfold V.gl? at h
 cases x<;>first|(simp only[Qc,Qr]at h;obtain⟨rfl,rfl⟩:=h;rfl)|cases h
theorem V.sl?_eq {i o n:Nat}{c:Cap}(h:x.sl?=some (i,o,n,c)):x=.s i o n c:=by
 unfold V.sl? at h
 cases x<;>first|(simp only[Qc,Qr]at h;obtain⟨rfl,rfl,rfl,rfl⟩:=h;rfl)|cases h
theorem V.map?_eq {i:Nat}(h:x.map?=some i):x=.m i:=by
 unfold V.map? at h
 cases x<;>first|(injection h with h;subst h;rfl)|cases h
theorem V.agg?_eq {l:List V}(h:x.agg?=some l):x=.g l:=by
 unfold V.agg? at h
 cases x<;>first|(injection h with h;subst h;rfl)|cases h
theorem V.tup?_eq {l:List V}(h:x.tup?=some l):x=.t l:=by
 unfold V.tup? at h
 cases x<;>first|(injection h with h;subst h;rfl)|cases h
theorem V.if?_eq {t:TypeId}{v:V}(h:x.if?=some (t,v)):x=.i t v:=by
 unfold V.if? at h
 cases x<;>first|(simp only[Qc,Qr]at h;obtain⟨rfl,rfl⟩:=h;rfl)|cases h
theorem V.it?_eq {i:Nat}(h:x.it?=some i):x=.q i:=by
 unfold V.it? at h
 cases x<;>first|(injection h with h;subst h;rfl)|cases h
theorem V.nilS_eq (h:x.nilS=true):x=.k (.slice none 0 0):=by
 unfold V.nilS at h
 split at h
 ·rename_i v h1
  rw[V.val?_eq h1]
  unfold Go.M.nilS at h
  split at h
  ·rfl
  ·cases h
 ·cases h
theorem Qhg (h:isNilM x=true):x=.k (.map none):=by
 unfold isNilM at h
 split at h
 ·rename_i h1;exact V.val?_eq h1
 ·cases h
theorem isNilI_eq (h:isNilI x=true):x=.k .nilIface:=by
 unfold isNilI at h
 split at h
 ·rename_i h1;exact V.val?_eq h1
 ·cases h
end
theorem cv_k {ρ:Rho}{v u:Value}(h:cv ρ (.k v)=some u):u=v:=by
 unfold cv at h
 split at h
 ·injection h with h;exact h.symm
 ·cases h
theorem cv_p {ρ:Rho}{i o:Nat}{u:Value}(h:cv ρ (.p i o)=some u): ∃x,ρ i=some x/\u=.pointer (some ⟨x.b,x.o+o,none⟩):=by
 unfold cv at h
 split at h
 ·rename_i x hx;injection h with h;exact⟨x,hx,h.symm⟩
 ·cases h
theorem Qfy {ρ:Rho}{i o:Nat}{x:Pl}(h:ρ i=some x):cv ρ (.p i o)=some (.pointer (some ⟨x.b,x.o+o,none⟩)):=by unfold cv;rw[h]
theorem cv_s {ρ:Rho}{i o n:Nat}{c:Cap}{u:Value}(h:cv ρ (.s i o n c)=some u): ∃x,ρ i=some x/\slOk x o n c=true/\u=.slice (some ⟨x.b,x.o+o,none⟩) n (capN x c):=by
 unfold cv at h
 split at h
 ·rename_i x hx
  split at h
  ·rename_i h2;injection h with h;exact⟨x,hx,h2,h.symm⟩
  ·cases h
 ·cases h
theorem Qbh {ρ:Rho}{i o n:Nat}{c:Cap}{x:Pl}(h:ρ i=some x)(h2:slOk x o n c=true):cv ρ (.s i o n c)=some (.slice (some ⟨x.b,x.o+o,none⟩) n (capN x c)):=by unfold cv;rw[h];simp only[h2,X6]
theorem cv_m {ρ:Rho}{i:Nat}{u:Value}(h:cv ρ (.m i)=some u): ∃x,ρ i=some x/\u=.map (some x.b):=by
 unfold cv at h
 split at h
 ·rename_i x hx;injection h with h;exact⟨x,hx,h.symm⟩
 ·cases h
theorem cv_g {ρ:Rho}{l:List V}{u:Value}(h:cv ρ (.g l)=some u): ∃vs,cvc ρ l=some vs/\u=.agg vs.toArray:=by
 unfold cv at h
 split at h
 ·rename_i x hx;injection h with h;exact⟨x,hx,h.symm⟩
 ·cases h
theorem Qei {ρ:Rho}{l:List V}{vs:List Value}(h:cvc ρ l=some vs):cv ρ (.g l)=some (.agg vs.toArray):=by unfold cv;rw[h]
theorem cv_t {ρ:Rho}{l:List V}{u:Value}(h:cv ρ (.t l)=some u): ∃vs,cvl ρ l=some vs/\u=.tuple vs.toArray:=by
 unfold cv at h
 split at h
 ·rename_i x hx;injection h with h;exact⟨x,hx,h.symm⟩
 ·cases h
theorem cv_t_mk {ρ:Rho}{l:List V}{vs:List Value}(h:cvl ρ l=some vs):cv ρ (.t l)=some (.tuple vs.toArray):=by unfold cv;rw[h]
theorem cv_i {ρ:Rho}{T:TypeId}{v:V}{u:Value}(h:cv ρ (.i T v)=some u): ∃w,cv ρ v=some w/\u=.iface T w:=by
 unfold cv at h
 split at h
 ·rename_i x hx;injection h with h;exact⟨x,hx,h.symm⟩
 ·cases h
theorem cv_i_mk {ρ:Rho}{T:TypeId}{v:V}{w:Value}(h:cv ρ v=some w):cv ρ (.i T v)=some (.iface T w):=by unfold cv;rw[h]
theorem cv_f {ρ:Rho}{fn:FuncId}{xs ys:List V}{u:Value}(h:cv ρ (.f fn xs ys)=some u): ∃a b,cvl ρ xs=some a/\cvl ρ ys=some b/\u=.func (.func fn) a.toArray b.toArray:=by
 unfold cv at h
 split at h
 ·rename_i a b h1 h2;injection h with h;exact⟨a,b,h1,h2,h.symm⟩
 ·cases h
theorem Qgm {ρ:Rho}{fn:FuncId}{xs ys:List V}{a b:List Value}(h1:cvl ρ xs=some a)(h2:cvl ρ ys=some b):cv ρ (.f fn xs ys)=some (.func (.func fn) a.toArray b.toArray):=by unfold cv;rw[h1,h2]
theorem cv_y {ρ:Rho}{i:Nat}{u:Value}(h:cv ρ (.y i)=some u): ∃x,ρ i=some x/\u=.func (.yield x.b) #[] #[]:=by
 unfold cv at h
 split at h
 ·rename_i x hx;injection h with h;exact⟨x,hx,h.symm⟩
 ·cases h
theorem cv_q {ρ:Rho}{i:Nat}{u:Value}(h:cv ρ (.q i)=some u): ∃x,ρ i=some x/\u=.pointer (some ⟨x.b,0,none⟩):=by
 unfold cv at h
 split at h
 ·rename_i x hx;injection h with h;exact⟨x,hx,h.symm⟩
 ·cases h
theorem cv_w {ρ:Rho}{i:Nat}{u:Value}(h:cv ρ (.w i)=some u): ∃x,ρ i=some x/\u=.int .i64 (x.b:Int):=by
 unfold cv at h
 split at h
 ·rename_i x hx;injection h with h;exact⟨x,hx,h.symm⟩
 ·cases h
theorem cv_gl {ρ:Rho}{g o:Nat}{u:Value}(h:cv ρ (.gl g o)=some u):u=.pointer (some ⟨g,o,none⟩):=by unfold cv at h;injection h with h;exact h.symm
theorem cv_gl_mk {ρ:Rho}{g o:Nat}:cv ρ (.gl g o)=some (.pointer (some ⟨g,o,none⟩)):=by unfold cv;rfl
theorem Qba {ρ:Rho}(b:Bool):cv ρ (bo b)=some (.bool b):=by unfold bo cv;rfl
theorem Qif {ρ:Rho}(k:IntKind)(n:Int):cv ρ (.k (.int k n))=some (.int k n):=by unfold cv;rfl
theorem cv_nt {ρ:Rho}(n:Nat):cv ρ (nt n)=some (.int .i64 (n:Int)):=by unfold nt cv;rfl
theorem cv_str {ρ:Rho}(s:ByteArray):cv ρ (.k (.string s))=some (.string s):=by unfold cv;rfl
theorem Qgi {ρ:Rho}{x:V}{v:Value}(ht:tupV x=false)(h:cv ρ x=some v): ∃vs,cvc ρ x.cells=some vs/\v.cells=vs.toArray:=by
 cases x with
 |g l=>obtain⟨vs,h1,rfl⟩:=cv_g h;exact⟨vs,h1,rfl⟩
 |t l=>cases ht
 |_=>
  refine⟨[v],Qgy rfl h (by unfold cvc;rfl),?_⟩
  have h2:v.oneCell'=true:=cvc_one (Qgy (ρ:=ρ) rfl h (show cvc ρ []=some [] by unfold cvc;rfl)) v (Qm.2 rfl)
  cases v<;>first|rfl|cases h2
theorem cvc_k {ρ:Rho}: ∀{l:List Value},l.all Qhh=true->cvc ρ (l.map .k)=some l
 | [],_=>by unfold cvc;rfl
 |v::r,h=>by
  simp only[Js,Qe]at h
  exact Qgy rfl (by unfold cv;rw[Qj h.1]) (cvc_k h.2)
theorem o_dn {ρ:Rho}{v:Value}{x:V}(h:ofV v=some x):cv ρ x=some v:=by
 unfold ofV at h
 cases v with
 |agg cs=>
  cases hp:cs.toList.all Qhh with
  |false=>simp only[hp,cond_false]at h;cases h
  |true=>
   simp only[hp,cond_true,Qc]at h
   subst h
   exact Qei (cvc_k hp)
 |tuple cs=>cases h
 |_=>injection h with h;subst h;unfold cv;rfl
section
variable {P:Program}{C:Cx}{ρ:Rho}{e:Env}{n:Nat}{a:Act}
theorem o_a (hf:Fe ρ e n a){x:Operand}{v:V}(h:opd e x=some v): ∃u,cv ρ v=some u/\a.eval x=u:=by
 cases x with
 |tmp t=>
  obtain⟨u,h1,h2⟩:=hf.get t v h
  exact⟨u,h1,by simp[Act.eval,Q1,h2]⟩
 |const w=>exact⟨w,o_dn h,rfl⟩
 |global g=>injection h with h;subst h;exact⟨_,cv_gl_mk,rfl⟩
 |func f=>injection h with h;subst h;exact⟨_,Qgm (by unfold cvl;rfl) (by unfold cvl;rfl),rfl⟩
theorem o_ap (hf:Fe ρ e n a): ∀{xs:List Operand} {vs:List V},opds e xs=some vs->∃us,cvl ρ vs=some us/\xs.toArray.map a.eval=us.toArray
 | [],vs,h=>by injection h with h;subst h;exact⟨[],by unfold cvl;rfl,by simp⟩
 |x::r,vs,h=>by
  unfold opds at h
  split at h
  ·rename_i v hv
   split at h
   ·rename_i ws hw
    injection h with h;subst h
    obtain⟨u,h1,h2⟩:=o_a hf hv
    obtain⟨us,h3,h4⟩:=o_ap hf hw
    exact⟨u::us,Qad h1 h3,by
     simp only[Xi,Qz,h2]at h4 ⊢
     rw[Yu]at h4
     rw[h4]⟩
   ·cases h
  ·cases h
theorem o_a4 (hf:Fe ρ e n a): ∀{xs:List (Nat×Operand)} {vs:List (Nat×V)},parts e xs=some vs->∃us:List (Nat×Value),us.map (·.1)=vs.map (·.1)/\cvl ρ (vs.map (·.2))=some (us.map (·.2))/\xs.toArray.map (fun(i,x)=>(i,a.eval x))=us.toArray
 | [],vs,h=>by injection h with h;subst h;exact⟨[],rfl,by simp;unfold cvl;rfl,by simp⟩
 |(i,x)::r,vs,h=>by
  unfold parts at h
  split at h
  ·rename_i v hv
   split at h
   ·rename_i ws hw
    injection h with h;subst h
    obtain⟨u,h1,h2⟩:=o_a hf hv
    obtain⟨us,h3,h4,h5⟩:=o_a4 hf hw
    exact⟨(i,u)::us,by simp[h3],Qad h1 h4,by
     simp only[Xi,Qz,h2]at h5 ⊢
     rw[Yu]at h5
     rw[h5]⟩
   ·cases h
  ·cases h
theorem o_z (hC:OKC P C){t:TypeId}{u:TypeDesc}(h:und C t=some u):P.underlying t=some u:=by
 unfold und at h
 split at h
 ·rename_i I hI;injection h with h;subst h;exact(hC.ty t I hI).u
 ·cases h
theorem o_aa (hC:OKC P C){t el:TypeId}(h:Qbk C t=some el):P.underlying t=some (.slice el):=by
 unfold Qbk at h
 split at h
 ·rename_i hu;injection h with h;subst h;exact o_z hC hu
 ·cases h
theorem o_ao (hC:OKC P C){t:TypeId}{J:Ti}(h:Qcf C t=some J): ∃el,P.underlying t=some (.slice el)/\Qbk C t=some el/\C.ty.get el=some J:=by
 unfold Qcf at h
 split at h
 ·rename_i el he;exact⟨el,o_aa hC he,he,h⟩
 ·cases h
theorem o_aC (hC:OKC P C){t n:Nat}{J:Ti}(h:arrTi C t=some (n,J)): ∃el,P.underlying t=some (.array n el)/\C.ty.get el=some J:=by
 unfold arrTi at h
 split at h
 ·rename_i m el hu
  split at h
  ·rename_i K hK;simp only[Qc,Qr]at h;obtain⟨rfl,rfl⟩:=h;exact⟨el,o_z hC hu,hK⟩
  ·cases h
 ·cases h
theorem o_af (hC:OKC P C){t kt:Nat}{J:Ti}(h:Qdl C t=some (kt,J)): ∃vt,P.underlying t=some (.map kt vt)/\C.ty.get vt=some J:=by
 unfold Qdl at h
 split at h
 ·rename_i m el hu
  split at h
  ·rename_i K hK;simp only[Qc,Qr]at h;obtain⟨rfl,rfl⟩:=h;exact⟨el,o_z hC hu,hK⟩
  ·cases h
 ·cases h
theorem o_y (hC:OKC P C){t:TypeId}(h:Qcz C t=true):P.underlying t=some .string:=by
 unfold Qcz at h
 split at h
 ·rename_i hu;exact o_z hC hu
 ·cases h
theorem o_ca (hC:OKC P C){t:TypeId}{k:IntKind}(h:intK C t=some k):P.underlying t=some (.int k):=by
 unfold intK at h
 split at h
 ·rename_i hu;injection h with h;subst h;exact o_z hC hu
 ·cases h
theorem o_be (hC:OKC P C){t:TypeId}{i o:Nat}{J:Ti}(h:fieldAt C t i=some (o,J)): ∃fs f,P.underlying t=some (.struct fs)/\fs[i]?=some f/\f.offset=o/\C.ty.get f.type=some J:=by
 unfold fieldAt at h
 split at h
 ·rename_i fs hu
  split at h
  ·rename_i f hf
   split at h
   ·rename_i K hK
    simp only[Qc,Qr]at h
    obtain⟨rfl,rfl⟩:=h
    exact⟨fs,f,o_z hC hu,by rw[<-Wh];exact hf,rfl,hK⟩
   ·cases h
  ·cases h
 ·cases h
theorem o_r (hC:OKC P C){t:TypeId}{J:Ti}(h:C.ty.get t=some J)(w:World):(sizeOf t).run P w=.ok J.n w:=Qah (hC.ty t J h).sz w
theorem o_bM (hC:OKC P C){t:TypeId}{J:Ti}(h:C.ty.get t=some J)(w:World):(isAgg t).run P w=.ok J.ag w:=Qcj (hC.ty t J h).ag w
theorem o_ah (hC:OKC P C){t:TypeId}{J:Ti}(hJ:C.ty.get t=some J){xs:List V}{vs:List Value}{o:Nat}{v:V}(hx:cvc ρ xs=some vs)(h:cut J.ag J.n o xs=some v):
  ∃u,cv ρ v=some u/\(∀w,(part t vs.toArray o).run P w=.ok u w)/\(match J.ag with|true=>u=.agg ((vs.drop o).take J.n).toArray/\((vs.drop o).take J.n).length=J.n|false=>vs[o]?=some u):=by
 unfold cut at h
 cases hag:J.ag with
 |true=>
  rw[hag,cond_true]at h
  cases hb:Nat.beq ((xs.drop o).take J.n).length J.n with
  |false=>rw[hb]at h;cases h
  |true=>
   rw[hb,cond_true]at h
   injection h with h;subst h
   have h1:=Qbc J.n (Qbb o hx)
   have hl:((vs.drop o).take J.n).length=J.n:=by rw[Qal h1];exact Ql hb
   refine⟨_,Qei h1,fun w=>?_,rfl,hl⟩
   rw[part_agg (zs:=((vs.drop o).take J.n).toArray) w (fun w=>by rw[o_bM hC hJ,hag]) (o_r hC hJ) (by apply Yc.1;simp[List.drop_take,Nat.add_sub_cancel_left])]
 |false=>
  rw[hag,cond_false]at h
  obtain⟨u,h1,h2,_⟩:=cvc_get hx h
  exact⟨u,h2,fun w=>part_one w (fun w=>by rw[o_bM hC hJ,hag]) (by simpa using h1),h1⟩
theorem inr_wrap {k:IntKind}{m:Int}(h:inr k m=true):k.wrap m=m:=by
 have key: ∀{m b:Nat},Nat.blt m b=true->m<b:=fun h=>Qi h
 cases k<;>cases m<;>first|(cases h;done)|(have h1:=key h;unfold IntKind.wrap IntKind.bits IntKind.signed;simp only[Y9,Bool.false_and,Xw,Wo,Wu,Int.ofNat_eq_natCast];(try split)<;>omega)
theorem wr_eq (k:IntKind)(m:Int):wr k m=k.wrap m:=by
 unfold wr
 cases h:inr k m with
 |true=>rw[cond_true,inr_wrap h]
 |false=>rfl
end
section
variable {P:Program}{C:Cx}{ρ:Rho}{e:Env}{n:Nat}{a:Act}
theorem o_cb (hC:OKC P C){d k:Nat}{rec:TypeId->V->V->Option Bool}(hrec: ∀t x y b u v,rec t x y=some b->cv ρ x=some u->cv ρ y=some v->EqV P (d+k) t u v b){xs ys:List V}{us vs:List Value}(hx:cvc ρ xs=some us)(hy:cvc ρ ys=some vs):
  ∀{fs:List Field} {b:Bool},eqFw C rec xs ys fs=some b->EqF P (d+k) us.toArray vs.toArray fs b
 | [],b,h=>by injection h with h;subst h;exact eqf_nil
 |f::r,b,h=>by
  unfold eqFw at h
  split at h
  ·cases h
  ·rename_i J hJ
   split at h
   ·rename_i p q hp hq
    cases hn:f.name== "_" with
    |true=>rw[hn]at h;cases h
    |false=>
     rw[hn,cond_false]at h
     obtain⟨u,h1,h2,_⟩:=o_ah hC hJ hx hp
     obtain⟨v,h3,h4,_⟩:=o_ah hC hJ hy hq
     have hnn:(f.name != "_")=true:=by simp[bne,hn]
     split at h
     ·rename_i hr
      have:=eqf_cons hnn h2 h4 (hrec _ _ _ _ _ _ hr h1 h3) (o_cb hC hrec hx hy h)
      simpa using this
     ·rename_i hr
      injection h with h;subst h
      intro w;have he:=hrec _ _ _ _ _ _ hr h1 h3 w
      have hn':f.name≠ "_" :=by simpa using hnn
      simp[Op.eqFields,hn',h2,h4,he]
     ·cases h
   ·cases h
theorem o_cc (hC:OKC P C){d k:Nat}{el:TypeId}{J:Ti}(hJ:C.ty.get el=some J){rec:V->V->Option Bool}(hrec: ∀x y b u v,rec x y=some b->cv ρ x=some u->cv ρ y=some v->EqV P (d+k) el u v b){xs ys:List V}{us vs:List Value}(hx:cvc ρ xs=some us)(hy:cvc ρ ys=some vs):
  ∀{m i:Nat} {b:Bool},eqIw rec J.n J.ag xs ys m i=some b->EqI P (d+k) el J.n us.toArray vs.toArray (List.range' i m) b
 |0,i,b,h=>by injection h with h;subst h;exact eqi_nil
 |m+1,i,b,h=>by
  unfold eqIw at h
  rw[List.range'_succ]
  split at h
  ·rename_i p q hp hq
   obtain⟨u,h1,h2,_⟩:=o_ah hC hJ hx hp
   obtain⟨v,h3,h4,_⟩:=o_ah hC hJ hy hq
   split at h
   ·rename_i hr
    have:=eqi_cons h2 h4 (hrec _ _ _ _ _ hr h1 h3) (o_cc hC hJ hrec hx hy h)
    simpa using this
   ·rename_i hr
    injection h with h;subst h
    intro w;have he:=hrec _ _ _ _ _ hr h1 h3 w
    simp[Op.eqItems,h2,h4,he]
   ·cases h
  ·cases h
theorem eqN_cases {x y:Option Bool}{b:Bool}(h:eqN x y=some b):(x=some true/\y=some b)\/(x=some false/\y=some true/\b=false):=by
 unfold eqN at h
 split at h
 ·exact .inl ⟨rfl,h⟩
 ·split at h
  ·injection h with h;exact .inr ⟨rfl,rfl,h.symm⟩
  ·cases h
 ·cases h
theorem o_bf {x:V}{b:Bool}{u:Value}(h:nzP x=some b)(hu:cv ρ x=some u):(b=true/\u=.pointer none)\/(b=false/\∃ad,u=.pointer (some ad)):=by
 unfold nzP at h
 split at h
 ·injection h with h;obtain⟨y,_,rfl⟩:=cv_p hu;exact .inr ⟨h.symm,_,rfl⟩
 ·injection h with h;exact .inr ⟨h.symm,_,cv_gl hu⟩
 ·rename_i v
  rw[cv_k hu]
  unfold kP at h
  split at h
  ·injection h with h;exact .inl ⟨h.symm,rfl⟩
  ·cases h
 ·cases h
theorem o_bg {x:V}{b:Bool}{u:Value}(h:nzS x=some b)(hu:cv ρ x=some u):(b=true/\∃p q,u=.slice none p q)\/(b=false/\∃ad p q,u=.slice (some ad) p q):=by
 unfold nzS at h
 split at h
 ·injection h with h;obtain⟨y,_,_,rfl⟩:=cv_s hu;exact .inr ⟨h.symm,_,_,_,rfl⟩
 ·rename_i v
  rw[cv_k hu]
  unfold kS at h
  split at h
  ·injection h with h;exact .inl ⟨h.symm,_,_,rfl⟩
  ·cases h
 ·cases h
theorem o_bh {x:V}{b:Bool}{u:Value}(h:nzM x=some b)(hu:cv ρ x=some u):(b=true/\u=.map none)\/(b=false/\∃ad,u=.map (some ad)):=by
 unfold nzM at h
 split at h
 ·injection h with h;obtain⟨y,_,rfl⟩:=cv_m hu;exact .inr ⟨h.symm,_,rfl⟩
 ·rename_i v
  rw[cv_k hu]
  unfold kM at h
  split at h
  ·injection h with h;exact .inl ⟨h.symm,rfl⟩
  ·cases h
 ·cases h
theorem o_bi {x:V}{b:Bool}{u:Value}(h:nzF x=some b)(hu:cv ρ x=some u):(b=true/\u=.nilFunc)\/(b=false/\∃p q r,u=.func p q r):=by
 unfold nzF at h
 split at h
 ·injection h with h;obtain⟨_,_,_,_,rfl⟩:=cv_f hu;exact .inr ⟨h.symm,_,_,_,rfl⟩
 ·injection h with h;obtain⟨y,_,rfl⟩:=cv_y hu;exact .inr ⟨h.symm,_,_,_,rfl⟩
 ·rename_i v
  rw[cv_k hu]
  unfold kF at h
  split at h
  ·injection h with h;exact .inl ⟨h.symm,rfl⟩
  ·cases h
 ·cases h
theorem o_bj {x:V}{b:Bool}{u:Value}(h:nzI x=some b)(hu:cv ρ x=some u):(b=true/\u=.nilIface)\/(b=false/\∃p q,u=.iface p q):=by
 unfold nzI at h
 split at h
 ·injection h with h;obtain⟨_,_,rfl⟩:=cv_i hu;exact .inr ⟨h.symm,_,_,rfl⟩
 ·rename_i v
  rw[cv_k hu]
  unfold kI at h
  split at h
  ·injection h with h;exact .inl ⟨h.symm,rfl⟩
  ·cases h
 ·cases h
theorem o_cB {x y:V}{b:Bool}(h:eqInt x y=some b): ∃k p q,x=.k (.int k p)/\y=.k (.int k q)/\b=decide (p=q):=by
 unfold eqInt at h
 split at h
 ·rename_i k p hx
  split at h
  ·rename_i k2 q hy
   cases hk:decide (k=k2)with
   |false=>rw[hk]at h;cases h
   |true=>
    rw[hk,cond_true]at h
    injection h with h
    have:=Wf hk
    subst this
    exact⟨k,p,q,V.int?_eq hx,V.int?_eq hy,h.symm⟩
  ·cases h
 ·cases h
theorem o_aR (hC:OKC P C): ∀(d k:Nat) (t:TypeId) (x y:V) (b:Bool) (u v:Value),eqV C d t x y=some b->cv ρ x=some u->cv ρ y=some v->EqV P (d+k) t u v b
 |0,k,t,x,y,b,u,v,h,_,_=>by cases h
 |d+1,k,t,x,y,b,u,v,h,hu,hv=>by
  have ih:=o_aR hC d k
  rw[show d+1+k=(d+k)+1 by omega]
  have h':(match und C t with
   |none=>none
   |some u=>match u with
    | .int _=>eqInt x y
    | .bool=>eqBool x y
    | .string=>eqStr x y
    | .pointer _=>eqN (nzP x) (nzP y)
    | .slice _=>eqN (nzS x) (nzS y)
    | .map _ _=>eqN (nzM x) (nzM y)
    | .func _ _ _=>eqN (nzF x) (nzF y)
    | .interface _=>eqN (nzI x) (nzI y)
    | .struct fs=>bif eqOk C t then eqAgg C (eqV C d) x y fs.toList else none
    | .array n e=>eqArr C (eqV C d) x y n e
    |_=>none)=some b:=h
  split at h'
  ·cases h'
  ·rename_i tu htu
   have hut:=o_z hC htu
   split at h'
   ·obtain⟨kk,p,q,rfl,rfl,rfl⟩:=o_cB h'
    rw[cv_k hu,cv_k hv];exact eq_int hut
   ·unfold eqBool at h'
    split at h'
    ·rename_i p hp
     split at h'
     ·rename_i q hq
      injection h' with h';subst h'
      rw[V.bool?_eq hp]at hu;rw[V.bool?_eq hq]at hv
      rw[cv_k hu,cv_k hv];exact eq_bool hut
     ·cases h'
    ·cases h'
   ·unfold eqStr at h'
    split at h'
    ·rename_i p hp
     split at h'
     ·rename_i q hq
      injection h' with h';subst h'
      rw[V.str?_eq hp]at hu;rw[V.str?_eq hq]at hv
      rw[cv_k hu,cv_k hv];exact eq_str hut
     ·cases h'
    ·cases h'
   ·intro w;rcases eqN_cases h' with⟨h1,h2⟩|⟨h1,h2,rfl⟩
    ·rcases o_bf h1 hu with⟨_,rfl⟩|⟨h3,_⟩
     ·rcases o_bf h2 hv with⟨rfl,rfl⟩|⟨rfl,ad,rfl⟩<;>simp[Op.equalIn,run_underlying hut]
     ·cases h3
    ·rcases o_bf h1 hu with⟨h3,_⟩|⟨_,ad,rfl⟩
     ·cases h3
     ·rcases o_bf h2 hv with⟨_,rfl⟩|⟨h3,_⟩
      ·simp[Op.equalIn,run_underlying hut]
      ·cases h3
   ·intro w;rcases eqN_cases h' with⟨h1,h2⟩|⟨h1,h2,rfl⟩
    ·rcases o_bg h1 hu with⟨_,p,q,rfl⟩|⟨h3,_⟩
     ·rcases o_bg h2 hv with⟨rfl,p2,q2,rfl⟩|⟨rfl,ad,p2,q2,rfl⟩<;>simp[Op.equalIn,run_underlying hut]
     ·cases h3
    ·rcases o_bg h1 hu with⟨h3,_⟩|⟨_,ad,p,q,rfl⟩
     ·cases h3
     ·rcases o_bg h2 hv with⟨_,p2,q2,rfl⟩|⟨h3,_⟩
      ·simp[Op.equalIn,run_underlying hut]
      ·cases h3
   ·intro w;rcases eqN_cases h' with⟨h1,h2⟩|⟨h1,h2,rfl⟩
    ·rcases o_bh h1 hu with⟨_,rfl⟩|⟨h3,_⟩
     ·rcases o_bh h2 hv with⟨rfl,rfl⟩|⟨rfl,ad,rfl⟩<;>simp[Op.equalIn,run_underlying hut]
     ·cases h3
    ·rcases o_bh h1 hu with⟨h3,_⟩|⟨_,ad,rfl⟩
     ·cases h3
     ·rcases o_bh h2 hv with⟨_,rfl⟩|⟨h3,_⟩
      ·simp[Op.equalIn,run_underlying hut]
      ·cases h3
   ·intro w;rcases eqN_cases h' with⟨h1,h2⟩|⟨h1,h2,rfl⟩
    ·rcases o_bi h1 hu with⟨_,rfl⟩|⟨h3,_⟩
     ·rcases o_bi h2 hv with⟨rfl,rfl⟩|⟨rfl,p,q,r,rfl⟩<;>simp[Op.equalIn,run_underlying hut]
     ·cases h3
    ·rcases o_bi h1 hu with⟨h3,_⟩|⟨_,p,q,r,rfl⟩
     ·cases h3
     ·rcases o_bi h2 hv with⟨_,rfl⟩|⟨h3,_⟩
      ·simp[Op.equalIn,run_underlying hut]
      ·cases h3
   ·intro w;rcases eqN_cases h' with⟨h1,h2⟩|⟨h1,h2,rfl⟩
    ·rcases o_bj h1 hu with⟨_,rfl⟩|⟨h3,_⟩
     ·rcases o_bj h2 hv with⟨rfl,rfl⟩|⟨rfl,p,q,rfl⟩<;>simp[Op.equalIn,run_underlying hut]
     ·cases h3
    ·rcases o_bj h1 hu with⟨h3,_⟩|⟨_,p,q,rfl⟩
     ·cases h3
     ·rcases o_bj h2 hv with⟨_,rfl⟩|⟨h3,_⟩
      ·simp[Op.equalIn,run_underlying hut]
      ·cases h3
   ·rename_i fs
    cases he:eqOk C t with
    |false=>rw[he]at h';cases h'
    |true=>
     rw[he,cond_true]at h'
     have hs:P.stoodInHeld t=false:=by
      unfold eqOk at he
      split at he
      ·rename_i I hI;exact((hC.ty t I hI).e he).1
      ·cases he
     unfold eqAgg at h'
     split at h'
     ·rename_i xs hx
      split at h'
      ·rename_i ys hy
       rw[V.agg?_eq hx]at hu;rw[V.agg?_eq hy]at hv
       obtain⟨us,h1,rfl⟩:=cv_g hu
       obtain⟨vs,h2,rfl⟩:=cv_g hv
       exact eq_struct (fs:=fs.toList) (by simpa using hut) hs (o_cb hC (fun t x y b u v h h1 h2=>ih t x y b u v h h1 h2) h1 h2 h')
      ·cases h'
     ·cases h'
   ·rename_i m el
    unfold eqArr at h'
    split at h'
    ·rename_i xs hx
     split at h'
     ·rename_i ys hy
      split at h'
      ·rename_i J hJ
       rw[V.agg?_eq hx]at hu;rw[V.agg?_eq hy]at hv
       obtain⟨us,h1,rfl⟩:=cv_g hu
       obtain⟨vs,h2,rfl⟩:=cv_g hv
       obtain⟨i,z,hi,_,_,_,_,_,_,hn,_⟩:=(hC.ty el J hJ).info
       exact eq_array (c:=J.n) (i:=i) (is:=List.range' 0 m) hut hi (by simp[Program.cellsOf,hi,hn]) (by rw[List.range_eq_range']) (o_cc hC hJ (fun x y b u v h h1 h2=>ih el x y b u v h h1 h2) h1 h2 h')
      ·cases h'
     ·cases h'
    ·cases h'
   ·cases h'
end
def Ex (P:Program)(a:Act)(w:World)(o:Op)(u:Value):Prop:=∀(dst:Option Tmp) (T:TypeId) (pos:String) (af:Array Edge) (gd:Option (Nat×Bool)),(execOp a.eval ⟨dst,o,T,pos,af,gd⟩).run P w=.ok (.value u) w
section
variable {P:Program}{C:Cx}{ρ:Rho}{e:Env}{n:Nat}{a:Act}{w:World}
theorem o_ab {k:IntKind}{m:Int}{v:V}(h:wrv k m=some v):cv ρ v=some (.int k (k.wrap m)):=by
 injection h with h;subst h;rw[wr_eq];exact Qif _ _
theorem bits_and {t ty:TypeId}{x y:Operand}{k:IntKind}{p q:Int}(hx:a.eval x=.int k p)(hy:a.eval y=.int k q):Ex P a w (.binOp .and t x y ty) (.int k (k.wrap (Int.ofNat (BitVec.ofInt k.bits p&&& BitVec.ofInt k.bits q).toNat))):=fun _ _ _ _ _=>by
 have e:binOp .and t (.int k p) (.int k q)=(pure (.int k (k.wrap (Int.ofNat (BitVec.ofInt k.bits p&&& BitVec.ofInt k.bits q).toNat))):Sem Value):=by
  show(if k≠k then _ else Op.intBits .and k p q)=_
  rw[Qd (fun h=>h rfl)];rfl
 have g:eqGuard .and t x y (.int k p) (.int k q)=pure ():=rfl
 simp only[execOp,hx,hy,e,g,Sem.run_bind,Sem.run_pure,Result.andThen_ok]
theorem bits_or {t ty:TypeId}{x y:Operand}{k:IntKind}{p q:Int}(hx:a.eval x=.int k p)(hy:a.eval y=.int k q):Ex P a w (.binOp .or t x y ty) (.int k (k.wrap (Int.ofNat (BitVec.ofInt k.bits p|||BitVec.ofInt k.bits q).toNat))):=fun _ _ _ _ _=>by
 have e:binOp .or t (.int k p) (.int k q)=(pure (.int k (k.wrap (Int.ofNat (BitVec.ofInt k.bits p|||BitVec.ofInt k.bits q).toNat))):Sem Value):=by
  show(if k≠k then _ else Op.intBits .or k p q)=_
  rw[Qd (fun h=>h rfl)];rfl
 have g:eqGuard .or t x y (.int k p) (.int k q)=pure ():=rfl
 simp only[execOp,hx,hy,e,g,Sem.run_bind,Sem.run_pure,Result.andThen_ok]
theorem bits_xor {t ty:TypeId}{x y:Operand}{k:IntKind}{p q:Int}(hx:a.eval x=.int k p)(hy:a.eval y=.int k q):Ex P a w (.binOp .xor t x y ty) (.int k (k.wrap (Int.ofNat (BitVec.ofInt k.bits p^^^BitVec.ofInt k.bits q).toNat))):=fun _ _ _ _ _=>by
 have e:binOp .xor t (.int k p) (.int k q)=(pure (.int k (k.wrap (Int.ofNat (BitVec.ofInt k.bits p^^^BitVec.ofInt k.bits q).toNat))):Sem Value):=by
  show(if k≠k then _ else Op.intBits .xor k p q)=_
  rw[Qd (fun h=>h rfl)];rfl
 have g:eqGuard .xor t x y (.int k p) (.int k q)=pure ():=rfl
 simp only[execOp,hx,hy,e,g,Sem.run_bind,Sem.run_pure,Result.andThen_ok]
theorem o_c0 {op:BinOp}{t ty:TypeId}{x y:Operand}{k k2:IntKind}{p q:Int}{v:V}(hx:a.eval x=.int k p)(hy:a.eval y=.int k2 q)(h:binI op k p k2 q=some v): ∃u,cv ρ v=some u/\Ex P a w (.binOp op t x y ty) u:=by
 unfold binI at h
 split at h
 ·unfold qshr at h
  cases hb:decide (k=.u64)&&(decide (0<=q)&&decide (q<=64))with
  |false=>rw[hb]at h;cases h
  |true=>
   rw[hb,cond_true]at h
   rw[Qe,Qe,X5,X5,X5]at hb
   obtain⟨rfl,h2,h3⟩:=hb
   injection h with h1;subst h1
   exact⟨_,Qif _ _,fun _ _ _ _ _=>r_shr hx hy h2 h3⟩
 cases hk:decide (k=k2)with
 |false=>rw[hk]at h;cases h
 |true=>
  rw[hk,cond_true]at h
  have:=Wf hk
  subst this
  unfold qi at h
  split at h
  ·exact⟨_,o_ab h,fun _ _ _ _ _=>r_add hx hy⟩
  ·exact⟨_,o_ab h,fun _ _ _ _ _=>r_sub hx hy⟩
  ·exact⟨_,o_ab h,fun _ _ _ _ _=>r_mul hx hy⟩
  ·injection h with h;subst h;exact⟨_,Qba _,fun _ _ _ _ _=>r_lss hx hy⟩
  ·injection h with h;subst h;exact⟨_,Qba _,fun _ _ _ _ _=>r_leq hx hy⟩
  ·injection h with h;subst h;exact⟨_,Qba _,fun _ _ _ _ _=>by rw[r_gtr hx hy]⟩
  ·injection h with h;subst h;exact⟨_,Qba _,fun _ _ _ _ _=>by rw[r_geq hx hy]⟩
  ·injection h with h;subst h;exact⟨_,Qba _,fun _ _ _ _ _=>r_eql hx hy⟩
  ·injection h with h;subst h;exact⟨_,Qba _,fun _ _ _ _ _=>by rw[r_neq hx hy];simp⟩
  ·unfold qquo at h
   cases h0:decide (q=0)with
   |true=>rw[h0]at h;cases h
   |false=>rw[h0,cond_false]at h;exact⟨_,o_ab h,fun _ _ _ _ _=>r_quo hx hy (of_decide_eq_false h0)⟩
  ·unfold qrem at h
   cases h0:decide (q=0)with
   |true=>rw[h0]at h;cases h
   |false=>rw[h0,cond_false]at h;injection h with h;subst h;exact⟨_,Qif _ _,fun _ _ _ _ _=>r_rem hx hy (of_decide_eq_false h0)⟩
  ·exact⟨_,o_ab h,bits_and hx hy⟩
  ·exact⟨_,o_ab h,bits_or hx hy⟩
  ·exact⟨_,o_ab h,bits_xor hx hy⟩
  ·cases h
theorem o_dF {op:BinOp}{t ty:TypeId}{x y:Operand}{p q:ByteArray}{v:V}(hx:a.eval x=.string p)(hy:a.eval y=.string q)(h:qs p q op=some v): ∃u,cv ρ v=some u/\Ex P a w (.binOp op t x y ty) u:=by
 unfold qs at h
 split at h
 ·injection h with h;subst h;exact⟨_,Qba _,fun _ _ _ _ _=>r_eqs hx hy⟩
 ·injection h with h;subst h;exact⟨_,Qba _,fun _ _ _ _ _=>r_nes hx hy⟩
 ·injection h with h;subst h;exact⟨_,Qba _,fun _ _ _ _ _=>Qhr hx hy⟩
 ·injection h with h;subst h;exact⟨_,Qba _,fun _ _ _ _ _=>Qhs hx hy⟩
 ·cases h
theorem o_c1 {x:V}{u:Value}(h:okEq x=true)(hu:cv ρ x=some u):okK u=true:=by
 cases x with
 |k v=>rw[cv_k hu];exact h
 |p i o=>obtain⟨_,_,rfl⟩:=cv_p hu;rfl
 |s i o n c=>obtain⟨_,_,_,rfl⟩:=cv_s hu;rfl
 |m i=>obtain⟨_,_,rfl⟩:=cv_m hu;rfl
 |f fn a b=>obtain⟨_,_,_,_,rfl⟩:=cv_f hu;rfl
 |y i=>obtain⟨_,_,rfl⟩:=cv_y hu;rfl
 |q i=>obtain⟨_,_,rfl⟩:=cv_q hu;rfl
 |w i=>cases h
 |gl g o=>rw[cv_gl hu];rfl
 |g l=>obtain⟨_,_,rfl⟩:=cv_g hu;rfl
 |t l=>cases h
 |i T v=>obtain⟨_,_,rfl⟩:=cv_i hu;rfl
theorem binOp_eql' {t:TypeId}{u v:Value}(hu:okK u=true):binOp .eql t u v=(do pure (.bool (<-Op.equal t u v)):Sem Value):=by
 cases u<;>first|(cases hu;done)|(cases v<;>rfl)
theorem binOp_neq' {t:TypeId}{u v:Value}(hu:okK u=true):binOp .neq t u v=(do pure (.bool (!(<-Op.equal t u v))):Sem Value):=by
 cases u<;>first|(cases hu;done)|(cases v<;>rfl)
theorem guard_pass {op:BinOp}{t:TypeId}{x y:Operand}{u v:Value}(h1: ∀a b,u=.agg a->v=.agg b->P.eqGuardType P.depth t=false)(h2:u=.nilIface->v=.nilIface->(isC x||isC y)=true):
  (eqGuard op t x y u v).run P w=.ok () w:=by
 cases u with
 |agg a=>cases v with
  |agg b=>exact run_eqGuard_agg w op t x y a b (h1 a b rfl rfl)
  |_=>cases op<;>rfl
 |nilIface=>cases v with
  |nilIface=>
   have:=h2 rfl rfl
   cases x with
   |const c=>cases op<;>rfl
   |_=>cases y with
    |const c=>cases op<;>rfl
    |_=>cases this
  |_=>cases op<;>rfl
 |_=>cases op<;>rfl
theorem eq_agg_ag {d:Nat}{t:TypeId}{p q:Array Value}{b:Bool}(h:EqV P (d+1) t (.agg p) (.agg q) b):aggB P t=some true:=by
 have h:=h default
 unfold aggB
 cases hu:P.underlying t with
 |none=>simp[Op.equalIn,underlying,hu,stuck]at h
 |some u=>cases u<;>simp[Op.equalIn,run_underlying hu,stuck]at h ⊢
theorem eq_nilI {d:Nat}{t:TypeId}{b:Bool}(h:EqV P (d+1) t .nilIface .nilIface b): ∃ms,P.underlying t=some (.interface ms):=by
 have h:=h default
 cases hu:P.underlying t with
 |none=>simp[Op.equalIn,underlying,hu,stuck]at h
 |some u=>cases u<;>simp[Op.equalIn,run_underlying hu,stuck]at h ⊢
theorem o_dp (hC:OKC P C){op:BinOp}{t ty:TypeId}{x y:Operand}{p q v:V}{u1 u2:Value}(hp:cv ρ p=some u1)(hq:cv ρ q=some u2)(hx:a.eval x=u1)(hy:a.eval y=u2)(hk:okEq p=true)(hc:cmpOk C op t x y=true)(h:pEq C t p q op=some v):
  ∃u,cv ρ v=some u/\Ex P a w (.binOp op t x y ty) u:=by
 have hk1:=o_c1 hk hp
 have hg:isEq op=true->∀b,eqV C 20 t p q=some b->(eqGuard op t x y u1 u2).run P w=.ok () w:=fun he b hb=>by
  have hE:EqV P (19+1) t u1 u2 b:=o_aR hC 20 0 t p q b _ _ hb hp hq
  unfold cmpOk at hc
  rw[he,cond_true]at hc
  split at hc
  ·rename_i I hI
   have hab:=(hC.ty t I hI).ag
   refine guard_pass (fun b1 b2 e1 e2=>?_) (fun e1 e2=>?_)
   ·subst e1;subst e2
    rw[eq_agg_ag hE]at hab
    injection hab with hab
    rw[<-hab,cond_true]at hc
    exact((hC.ty t I hI).e hc).2
   ·subst e1;subst e2
    obtain⟨ms,hu⟩:=eq_nilI hE
    have hab2:aggB P t=some false:=by unfold aggB;rw[hu]
    rw[hab2]at hab
    injection hab with hab
    have hu2:=(hC.ty t I hI).u
    rw[hu]at hu2
    injection hu2 with hu2
    have hif:isIf C t=true:=by unfold isIf und;rw[hI];simp only[];rw[<-hu2]
    rw[<-hab,cond_false,hif,cond_true]at hc
    exact hc
  ·cases hc
 unfold pEq at h
 split at h
 ·split at h
  ·rename_i b hb
   injection h with h;subst h
   have hE:=o_aR hC 20 9980 t p q b _ _ hb hp hq w
   refine⟨_,Qba _,fun dst T pos af gd=>?_⟩
   simp only[execOp,hx,hy,Sem.run_bind,hg rfl b hb,Result.andThen_ok,binOp_eql' hk1,show Op.equal t u1 u2=Op.equalIn (20+9980) t u1 u2 from rfl,hE,Sem.run_pure]
  ·cases h
 ·split at h
  ·rename_i b hb
   injection h with h;subst h
   have hE:=o_aR hC 20 9980 t p q b _ _ hb hp hq w
   refine⟨_,Qba _,fun dst T pos af gd=>?_⟩
   simp only[execOp,hx,hy,Sem.run_bind,hg rfl b hb,Result.andThen_ok,binOp_neq' hk1,show Op.equal t u1 u2=Op.equalIn (20+9980) t u1 u2 from rfl,hE,Sem.run_pure]
  ·cases h
 ·cases h
theorem o_c2 (hC:OKC P C)(hf:Fe ρ e n a){op:BinOp}{t ty:TypeId}{x y:Operand}{v:V}(h:pBin C e op t x y=some v): ∃u,cv ρ v=some u/\Ex P a w (.binOp op t x y ty) u:=by
 unfold pBin at h
 split at h
 ·rename_i p hp
  split at h
  ·rename_i q hq
   obtain⟨u1,hp1,hx⟩:=o_a hf hp
   obtain⟨u2,hq1,hy⟩:=o_a hf hq
   cases hc:cmpOk C op t x y with
   |false=>rw[hc]at h;cases h
   |true=>
    rw[hc,cond_true]at h
    unfold bin at h
    split at h
    ·rename_i k1 m1 h1
     split at h
     ·rename_i k2 m2 h2
      rw[V.int?_eq h1]at hp1;rw[V.int?_eq h2]at hq1
      rw[cv_k hp1]at hx;rw[cv_k hq1]at hy
      exact o_c0 hx hy h
     ·cases h
    ·split at h
     ·rename_i s1 h1
      split at h
      ·rename_i s2 h2
       rw[V.str?_eq h1]at hp1;rw[V.str?_eq h2]at hq1
       rw[cv_k hp1]at hx;rw[cv_k hq1]at hy
       exact o_dF hx hy h
      ·cases h
     ·cases hk:okEq p with
      |false=>rw[hk]at h;cases h
      |true=>rw[hk,cond_true]at h;exact o_dp hC hp1 hq1 hx hy hk hc h
  ·cases h
 ·cases h
end
section
variable {P:Program}{C:Cx}{ρ:Rho}{e:Env}{n:Nat}{a:Act}{w:World}
abbrev Pk (P:Program) (ρ:Rho) (a:Act) (w:World) (o:Op) (v:V):Prop:=∃u,cv ρ v=some u/\Ex P a w o u
theorem o_cC (hf:Fe ρ e n a){c x y:Operand}{v:V}(h:pPick e c x y=some v):Pk P ρ a w (.pick c x y) v:=by
 unfold pPick at h
 split at h
 ·rename_i p hp
  split at h
  ·rename_i b hb
   obtain⟨u1,h1,h2⟩:=o_a hf hp
   rw[V.bool?_eq hb]at h1
   rw[cv_k h1]at h2
   cases b with
   |true=>
    rw[cond_true]at h
    obtain⟨u,h3,h4⟩:=o_a hf h
    exact⟨u,h3,fun _ _ _ _ _=>Qge h2 h4⟩
   |false=>
    rw[cond_false]at h
    obtain⟨u,h3,h4⟩:=o_a hf h
    exact⟨u,h3,fun _ _ _ _ _=>Qfw h2 h4⟩
  ·cases h
 ·cases h
theorem o_dq (hf:Fe ρ e n a){op:UnOp}{t:TypeId}{x:Operand}{v:V}(h:pUn e op x=some v):Pk P ρ a w (.unOp op t x) v:=by
 unfold pUn at h
 split at h
 ·rename_i p hp
  obtain⟨u1,h1,h2⟩:=o_a hf hp
  split at h
  ·split at h
   ·rename_i b hb
    injection h with h;subst h
    rw[V.bool?_eq hb]at h1
    rw[cv_k h1]at h2
    exact⟨_,Qba _,fun _ _ _ _ _=>r_not h2⟩
   ·cases h
  ·split at h
   ·rename_i k m hk
    rw[V.int?_eq hk]at h1
    rw[cv_k h1]at h2
    refine⟨_,o_ab h,fun _ _ _ _ _=>?_⟩
    simp[execOp,h2,Op.unary,Op.intArith]
   ·cases h
  ·cases h
 ·cases h
theorem o_c3 (hf:Fe ρ e n a){x:Operand}{i:Nat}{v:V}(h:pExt e x i=some v):Pk P ρ a w (.extract x i) v:=by
 unfold pExt at h
 split at h
 ·rename_i p hp
  split at h
  ·rename_i vs hvs
   obtain⟨u1,h1,h2⟩:=o_a hf hp
   rw[V.tup?_eq hvs]at h1
   obtain⟨us,h3,rfl⟩:=cv_t h1
   obtain⟨u,h4,h5⟩:=cvl_get h3 h
   exact⟨u,h5,fun _ _ _ _ _=>r_extract h2 (by simpa using h4)⟩
  ·cases h
 ·cases h
theorem o_c4 (hf:Fe ρ e n a){x:Operand}{v:V}(h:pNil e x=some v):Pk P ρ a w (.nilCheck x) v:=by
 unfold pNil at h
 split at h
 ·rename_i p hp
  obtain⟨u1,h1,h2⟩:=o_a hf hp
  unfold nonNil at h
  split at h
  ·injection h with h;subst h;obtain⟨y,_,rfl⟩:=cv_p h1;exact⟨_,h1,fun _ _ _ _ _=>Qdc h2⟩
  ·injection h with h;subst h;rw[cv_gl h1]at h2 h1;exact⟨_,h1,fun _ _ _ _ _=>Qdc h2⟩
  ·injection h with h;subst h;obtain⟨_,_,_,_,rfl⟩:=cv_f h1;exact⟨_,h1,fun _ _ _ _ _=>by simp[execOp,h2]⟩
  ·injection h with h;subst h;obtain⟨_,_,rfl⟩:=cv_y h1;exact⟨_,h1,fun _ _ _ _ _=>by simp[execOp,h2]⟩
  ·cases h
 ·cases h
theorem o_cD (hf:Fe ρ e n a){fn:Fn}{xs ys:Array Operand}{v:V}(h:pFunc e fn xs.toList ys.toList=some v):Pk P ρ a w (.makeFunc fn xs ys) v:=by
 unfold pFunc at h
 split at h
 ·split at h
  ·rename_i vs hvs
   split at h
   ·rename_i us hus
    injection h with h;subst h
    obtain⟨a1,h1,h2⟩:=o_ap hf hvs
    obtain⟨a2,h3,h4⟩:=o_ap hf hus
    exact⟨_,Qgm h1 h3,fun _ _ _ _ _=>Qfi (by simpa using h2) (by simpa using h4)⟩
   ·cases h
  ·cases h
 ·cases h
theorem o_cE (hC:OKC P C)(hf:Fe ρ e n a){s d:TypeId}{x:Operand}{v:V}(h:pConv C e s d x=some v):Pk P ρ a w (.convert s d x) v:=by
 unfold pConv at h
 split at h
 ·rename_i p hp
  obtain⟨u1,h1,h2⟩:=o_a hf hp
  split at h
  ·rename_i k m hk
   rw[V.int?_eq hk]at h1
   rw[cv_k h1]at h2
   split at h
   ·rename_i ds hs
    split at h
    ·rename_i k2 hk2
     exact⟨_,o_ab h,fun _ _ _ _ _=>r_conv (o_z hC hs) (o_ca hC hk2) h2⟩
    ·cases h
   ·cases h
  ·split at h
   ·rename_i b hb
    rw[V.str?_eq hb]at h1
    rw[cv_k h1]at h2
    cases hs:Qcz C s&&Qcz C d with
    |false=>rw[hs]at h;cases h
    |true=>
     rw[hs,cond_true]at h
     injection h with h;subst h
     rw[Qe]at hs
     refine⟨_,cv_str _,fun _ _ _ _ _=>?_⟩
     simp[execOp,h2,convert,run_underlying (o_y hC hs.1),run_underlying (o_y hC hs.2)]
   ·cases h
 ·cases h
theorem o_cd {v r:V}{k:Nat}{u:Value}(hu:cv ρ v=some u)(h:offP v k=some r): ∃ad,u=.pointer (some ad)/\cv ρ r=some (.pointer (some (ad.add k))):=by
 unfold offP at h
 split at h
 ·rename_i i o hp
  injection h with h;subst h
  rw[V.ptr?_eq hp]at hu
  obtain⟨x,hx,rfl⟩:=cv_p hu
  exact⟨_,rfl,by rw[Qfy hx,Addr.add_lit,Xb]⟩
 ·split at h
  ·rename_i i o hp
   injection h with h;subst h
   rw[V.gl?_eq hp]at hu
   rw[cv_gl hu]
   exact⟨_,rfl,by rw[cv_gl_mk,Addr.add_lit]⟩
  ·cases h
theorem o_dr (hC:OKC P C)(hf:Fe ρ e n a){t:TypeId}{x:Operand}{i:Nat}{v:V}(h:pFa C e t x i=some v):Pk P ρ a w (.fieldAddr t x i) v:=by
 unfold pFa at h
 split at h
 ·rename_i o J hJ
  cases h0:Nat.beq J.n 0 with
  |true=>rw[h0]at h;cases h
  |false=>
   rw[h0,cond_false]at h
   split at h
   ·rename_i p hp
    obtain⟨u1,h1,h2⟩:=o_a hf hp
    obtain⟨fs,f,hu,hff,rfl,hT⟩:=o_be hC hJ
    obtain⟨ad,rfl,h3⟩:=o_cd h1 h
    have hpos: ∃m,J.n=m+1:=by
     cases hn:J.n with
     |zero=>rw[hn]at h0;cases h0
     |succ m=>exact⟨m,rfl⟩
    obtain⟨m,hm⟩:=hpos
    exact⟨_,h3,fun _ _ _ _ _=>Qdk hu hff (fun w=>by rw[o_r hC hT,hm]) h2⟩
   ·cases h
 ·cases h
theorem o_c5 (hC:OKC P C)(hf:Fe ρ e n a){t:TypeId}{x:Operand}{i:Nat}{v:V}(h:pFld C e t x i=some v):Pk P ρ a w (.field t x i) v:=by
 unfold pFld at h
 split at h
 ·rename_i o J hJ
  split at h
  ·rename_i p hp
   split at h
   ·rename_i cs hcs
    obtain⟨u1,h1,h2⟩:=o_a hf hp
    obtain⟨fs,f,hu,hff,rfl,hT⟩:=o_be hC hJ
    rw[V.agg?_eq hcs]at h1
    obtain⟨vs,h3,rfl⟩:=cv_g h1
    obtain⟨u,h4,h5,_⟩:=o_ah hC hT h3 h
    refine⟨u,h4,fun _ _ _ _ _=>?_⟩
    have h6:=h5 w
    simp[execOp,Instr.field,run_underlying hu,hff,h2,asAgg,h6]
   ·cases h
  ·cases h
 ·cases h
theorem o_aD (hf:Fe ρ e n a){x:Operand}{m:Nat}(h:natAt e x=some m): ∃k,a.eval x=.int k (m:Int):=by
 unfold natAt at h
 split at h
 ·rename_i p hp
  obtain⟨u1,h1,h2⟩:=o_a hf hp
  obtain⟨k,rfl⟩:=V.nat?_eq h
  rw[cv_k h1]at h2
  exact⟨k,h2⟩
 ·cases h
theorem o_c6 (hC:OKC P C)(hf:Fe ρ e n a){t:TypeId}{x i:Operand}{v:V}(h:pIxA C e t x i=some v):Pk P ρ a w (.indexAddr t x i) v:=by
 unfold pIxA at h
 split at h
 ·rename_i p hp
  split at h
  ·rename_i m hm
   obtain⟨u1,h1,h2⟩:=o_a hf hp
   obtain⟨k,hk⟩:=o_aD hf hm
   unfold ixA at h
   split at h
   ·rename_i j o l c hs
    split at h
    ·rename_i J hJ
     cases hb:Nat.blt m l with
     |false=>rw[hb]at h;cases h
     |true=>
      rw[hb,cond_true]at h
      injection h with h;subst h
      have hlt:m<l:=Qi hb
      obtain⟨el,hu,_,hT⟩:=o_ao hC hJ
      rw[V.sl?_eq hs]at h1
      obtain⟨y,hy,_,rfl⟩:=cv_s h1
      refine⟨_,Qfy hy,fun _ _ _ _ _=>?_⟩
      rw[r_indexAddr hu (o_r hC hT) h2 hk (by omega) (by omega),Addr.add_lit]
      simp[Xb]
    ·cases h
   ·split at h
    ·rename_i l J hJ
     cases hb:Nat.blt m l with
     |false=>rw[hb]at h;cases h
     |true=>
      rw[hb,cond_true]at h
      have hlt:m<l:=Qi hb
      obtain⟨el,hu,hT⟩:=o_aC hC hJ
      obtain⟨ad,rfl,h3⟩:=o_cd h1 h
      refine⟨_,h3,fun _ _ _ _ _=>?_⟩
      simp[execOp,Instr.indexAt,h2,hk,asIntOf,run_underlying hu,Instr.sureAddr,hlt,o_r hC hT]
    ·cases h
  ·cases h
 ·cases h
theorem o_ds (hC:OKC P C)(hf:Fe ρ e n a){t:TypeId}{x i:Operand}{v:V}(h:pIx C e t x i=some v):Pk P ρ a w (.index t x i) v:=by
 unfold pIx at h
 split at h
 ·rename_i p hp
  split at h
  ·rename_i m hm
   obtain⟨u1,h1,h2⟩:=o_a hf hp
   obtain⟨k,hk⟩:=o_aD hf hm
   unfold ixV at h
   split at h
   ·rename_i cs hs
    split at h
    ·rename_i l J hJ
     cases hb:Nat.blt m l with
     |false=>rw[hb]at h;cases h
     |true=>
      rw[hb,cond_true]at h
      have hlt:m<l:=Qi hb
      obtain⟨el,hu,hT⟩:=o_aC hC hJ
      rw[V.agg?_eq hs]at h1
      obtain⟨vs,h3,rfl⟩:=cv_g h1
      obtain⟨u,h4,h5,_⟩:=o_ah hC hT h3 h
      refine⟨u,h4,fun _ _ _ _ _=>?_⟩
      have h6:=h5 w
      simp[execOp,Instr.index,h2,hk,asIntOf,run_underlying hu,hlt,o_r hC hT,h6]
    ·cases h
   ·split at h
    ·rename_i s hs
     cases hst:Qcz C t with
     |false=>rw[hst]at h;cases h
     |true=>
      rw[hst,cond_true]at h
      split at h
      ·rename_i b hb
       injection h with h;subst h
       rw[V.str?_eq hs]at h1
       rw[cv_k h1]at h2
       have hsz:s.size=s.data.toList.length:=rfl
       have hlt:m<s.size:=by rw[hsz];exact(Qb.1 hb).1
       have h7:s[m]?=some b:=by
        rw[ByteArray.getElem?_lt' s m hlt]
        have h8:=(Qb.1 hb).2
        rw[<-h8];rfl
       refine⟨_,Qif _ _,fun _ _ _ _ _=>?_⟩
       simp[execOp,Instr.index,h2,hk,asIntOf,run_underlying (o_y hC hst),h7]
      ·cases h
    ·cases h
  ·cases h
 ·cases h
def OI (a:Act)(d m:Nat)(x:Option Operand):Prop:=(x=none/\m=d)\/∃y k,x=some y/\a.eval y=.int k (m:Int)
theorem o_i (hf:Fe ρ e n a){d m:Nat}{x:Option Operand}(h:optInt e d x=some m):OI a d m x:=by
 cases x with
 |none=>injection h with h;exact .inl ⟨rfl,h.symm⟩
 |some y=>obtain⟨k,hk⟩:=o_aD hf (show natAt e y=some m from h);exact .inr ⟨y,k,rfl,hk⟩
theorem Qbg {k:IntKind}{m y:Nat}{code:BoundsCode}(h:m<=y):(Instr.sliceBound (.int k (m:Int)) y code).run P w=.ok m w:=by
 simp[Instr.sliceBound,asIntOf,h]
theorem run_bounds {isS:Bool}{len cap l h m:Nat}{lo hi mx:Option Operand}(h1:OI a 0 l lo)(h2:OI a len h hi)(h3:OI a cap m mx)(h4:mx.isSome=true->hi.isSome=true)(h5:l<=h)(h6:h<=m)(h7:m<=cap):
  (Instr.sliceBounds isS len cap (lo.map a.eval) (hi.map a.eval) (mx.map a.eval)).run P w=.ok (l,h,m) w:=by
 rcases h3 with⟨rfl,rfl⟩|⟨y3,k3,rfl,e3⟩<;>rcases h2 with⟨rfl,rfl⟩|⟨y2,k2,rfl,e2⟩<;>rcases h1 with⟨rfl,rfl⟩|⟨y1,k1,rfl,e1⟩<;>first
  |(simp at h4;done)
  |(simp[Instr.sliceBounds,Sem.run_bind, *,Qbg h5,Qbg h6,Qbg h7];done)
  |(simp[Instr.sliceBounds,Sem.run_bind,e1,e2,e3,Qbg h5,Qbg h6,Qbg h7];done)
theorem o_a5 (hf:Fe ρ e n a){d:Nat}{x:Option Operand}{m:Option Nat}(h:optMx e x=some m):OI a d (m.getD d) x/\(m=none->x=none):=by
 cases x with
 |none=>injection h with h;subst h;exact⟨.inl ⟨rfl,rfl⟩,fun _=>rfl⟩
 |some y=>
  have h':(match natAt e y with
   |some m=>some (some m)
   |none=>none)=some m:=h
  split at h'
  ·rename_i q hq;injection h' with h';subst h';obtain⟨k,hk⟩:=o_aD hf hq;exact⟨.inr ⟨y,k,rfl,hk⟩,fun h=>by cases h⟩
  ·cases h'
theorem Qao {α:Type}{b:Bool}{x:Option α}{v:α}(h:(bif b then none else x)=some v):b=false/\x=some v:=by cases b<;>first|(cases h;done)|exact⟨rfl,h⟩
theorem Qaa {α:Type}{b:Bool}{x:Option α}{v:α}(h:(bif b then x else none)=some v):b=true/\x=some v:=by cases b<;>first|(cases h;done)|exact⟨rfl,h⟩
theorem hiMx {hi mx:Option Operand}(h:(mx.isSome&&hi.isNone)=false):mx.isSome=true->hi.isSome=true:=fun hm=>by
 rw[hm,Y9]at h
 cases hi<;>first|(cases h;done)|rfl
theorem o_bp {sz lo hi m i o len k:Nat}{v:V}(h:cutK sz lo hi m i o len k=some v):lo<=hi/\hi<=m/\m<=k/\v=.s i (if m=lo then o else o+lo*sz) (hi-lo) (.c (m-lo)):=by
 unfold cutK at h
 obtain⟨hb,h⟩:=Qaa h
 rw[Qe,Qe]at hb
 injection h with h;subst h
 refine⟨Qi hb.1.1,Qi hb.1.2,Qi hb.2,?_⟩
 cases hm:Nat.beq m lo with
 |true=>rw[Qj (Ql hm)];rfl
 |false=>rw[Qd (fun e1=>by subst e1;simp at hm)];rfl
theorem o_c7 (hC:OKC P C)(hf:Fe ρ e n a){t:TypeId}{x:Operand}{i o len:Nat}{c:Cap}{u1:Value}{lo hi mx:Option Operand}{v:V}(h1:cv ρ (.s i o len c)=some u1)(h2:a.eval x=u1)(h:slSl C e t i o len c lo hi mx=some v):Pk P ρ a w (.slice t x lo hi mx) v:=by
 unfold slSl at h
 obtain⟨hm0,h⟩:=Qao h
 split at h
 ·rename_i J hJ
  split at h
  ·rename_i l hl
   split at h
   ·rename_i hh hhh
    split at h
    ·rename_i m hm
     obtain⟨el,hu,_,hT⟩:=o_ao hC hJ
     obtain⟨y,hy,hok,rfl⟩:=cv_s h1
     have key: ∀(mm:Nat),OI a (capN y c) mm mx->l<=hh->hh<=mm->mm<=capN y c->Ex P a w (.slice t x lo hi mx) (.slice (if mm=l then some ⟨y.b,y.o+o,none⟩else some ⟨y.b,y.o+o+l*J.n,none⟩) (hh-l) (mm-l)):=fun mm hmm g1 g2 g3 _ _ _ _ _=>by
      have hb:=run_bounds (P:=P) (w:=w) (isS:=true) (o_i hf hl) (o_i hf hhh) hmm (hiMx hm0) g1 g2 g3
      simp only[execOp,Instr.sliceAt,Sem.run_bind,run_underlying hu,Result.andThen_ok,h2,Instr.slice,hb,o_r hC hT,Sem.run_pure,Q7,Addr.add_lit]
     cases c with
     |c k=>
      obtain⟨g1,g2,g3,rfl⟩:=o_bp (show cutK J.n l hh (m.getD k) i o len k=some v from h)
      have:=key (m.getD k) (o_a5 hf hm).1 g1 g2 g3
      refine⟨_,Qbh hy (Wc (by omega)),fun d T p q g=>?_⟩
      have:=this d T p q g
      rw[this]
      by_cases hml:m.getD k=l<;>simp[hml,capN,Xb]
     |u k z=>
      have hok':z=y.s/\o=k*y.s/\k+len<=y.c:=Wf hok
      cases m with
      |some m'=>
       obtain⟨g1,g2,g3,rfl⟩:=o_bp (show cutK J.n l hh m' i o len len=some v from h)
       have:=key m' (o_a5 hf hm).1 g1 g2 (by show m'<=y.c-k;omega)
       refine⟨_,Qbh hy (Wc (by omega)),fun d T p q g=>?_⟩
       have:=this d T p q g
       rw[this]
       by_cases hml:m'=l<;>simp[hml,capN,Xb]
      |none=>
       have h:cutU J.n l hh i o len k z=some v:=h
       unfold cutU at h
       obtain⟨hb,h⟩:=Qaa h
       rw[Qe,Qe,Qe,Xz]at hb
       injection h with h;subst h
       obtain⟨⟨⟨b1,b2⟩,b3⟩,b4⟩:=hb
       have b1:=Ql b1
       have b2:=Qi b2
       have b3:=Qi b3
       have hmx:=(o_a5 hf (d:=y.c-k) hm).2 rfl
       have:=key (y.c-k) (.inl ⟨hmx,rfl⟩) b2 (by omega) (Qo _)
       refine⟨_,Qbh hy (Wc ⟨hok'.1,by rw[hok'.2.1,b1,hok'.1,W6],by omega⟩),fun d T p q g=>?_⟩
       have:=this d T p q g
       rw[this]
       have hne:y.c-k=l->l=0:=fun e1=>by
        rcases b4 with b4|b4
        ·have b4:l<hh:=Qi b4
         omega
        ·exact Ql b4
       by_cases hml:y.c-k=l
       ·have h0:=hne hml
        subst h0
        simp[capN,hml]
       ·simp[hml,capN,Xb,Nat.sub_add_eq]
    ·cases h
   ·cases h
  ·cases h
 ·cases h
theorem o_dt (hC:OKC P C)(hf:Fe ρ e n a){t:TypeId}{x:Operand}{p v:V}{u1:Value}{lo hi mx:Option Operand}(h1:cv ρ p=some u1)(h2:a.eval x=u1)(h:slV C e t p lo hi mx=some v):Pk P ρ a w (.slice t x lo hi mx) v:=by
 unfold slV at h
 split at h
 ·rename_i i o len c hs
  rw[V.sl?_eq hs]at h1
  exact o_c7 hC hf h1 h2 h
 ·split at h
  ·rename_i i o hp
   rw[V.ptr?_eq hp]at h1
   obtain⟨y,hy,rfl⟩:=cv_p h1
   unfold slArr at h
   obtain⟨hm0,h⟩:=Qao h
   split at h
   ·rename_i l0 J hJ
    split at h
    ·rename_i l hl
     split at h
     ·rename_i hh hhh
      split at h
      ·rename_i m hm
       obtain⟨el,hu,hT⟩:=o_aC hC hJ
       obtain⟨g1,g2,g3,rfl⟩:=o_bp h
       have hb:=run_bounds (P:=P) (w:=w) (isS:=false) (o_i hf hl) (o_i hf hhh) (o_i hf hm) (hiMx hm0) g1 g2 g3
       refine⟨_,Qbh hy (Wc (by omega)),fun _ _ _ _ _=>?_⟩
       simp only[execOp,Instr.sliceAt,Sem.run_bind,run_underlying hu,Result.andThen_ok,h2,Instr.sureAddr,hb,o_r hC hT,Sem.run_pure,Addr.add_lit]
       by_cases hml:m=l<;>simp[hml,capN,Xb]
      ·cases h
     ·cases h
    ·cases h
   ·cases h
  ·split at h
   ·rename_i s hs
    obtain⟨hb,hq⟩:=Qaa h
    rw[Qe]at hb
    have hmx:mx=none:=by cases mx<;>first|rfl|cases hb.2
    subst hmx
    rw[V.str?_eq hs]at h1
    rw[cv_k h1]at h2
    clear h
    unfold slStr at hq
    split at hq
    ·rename_i l hl
     split at hq
     ·rename_i hh hhh
      obtain⟨hb2,hr⟩:=Qaa hq
      rw[Qe]at hb2
      injection hr with hr;subst hr
      have hbb:=run_bounds (P:=P) (w:=w) (isS:=false) (cap:=s.size) (mx:=none) (o_i hf hl) (o_i hf hhh) (.inl ⟨rfl,rfl⟩) (fun h=>by cases h) (Qi hb2.1) (Qi hb2.2) (Qo _)
      refine⟨_,cv_str _,fun _ _ _ _ _=>?_⟩
      have hu:=o_y hC hb.1
      simp only[Option.map_none]at hbb
      simp[execOp,Instr.sliceAt,run_underlying hu,h2,Instr.slice,hbb]
     ·cases hq
    ·cases hq
   ·obtain⟨hb,hq⟩:=Qaa h
    clear h
    rw[Qe]at hb
    rw[V.nilS_eq hb.1]at h1
    rw[cv_k h1]at h2
    obtain⟨J,he⟩:=Xg.1 hb.2
    obtain⟨el,hu,_,hT⟩:=o_ao hC he
    unfold slNil at hq
    obtain⟨hm0,hq2⟩:=Qao hq
    clear hq
    split at hq2
    ·rename_i l hl
     split at hq2
     ·rename_i hh hhh
      split at hq2
      ·rename_i m hm
       obtain⟨hz,hr⟩:=Qaa hq2
       injection hr with hr;subst hr
       have hz:=Ql hz
       obtain rfl:l=0:=by omega
       obtain rfl:hh=0:=by omega
       obtain rfl:m=0:=by omega
       have hbb:=run_bounds (P:=P) (w:=w) (isS:=true) (o_i hf hl) (o_i hf hhh) (o_i hf hm) (hiMx hm0) (Qo _) (Qo _) (Qo _)
       refine⟨.slice none 0 0,by unfold cv;rfl,fun _ _ _ _ _=>?_⟩
       simp only[execOp,Instr.sliceAt,Sem.run_bind,run_underlying hu,Result.andThen_ok,h2,Instr.slice,hbb,o_r hC hT,Sem.run_pure]
       simp
      ·cases hq2
     ·cases hq2
    ·cases hq2
theorem o_du (hC:OKC P C)(hf:Fe ρ e n a){t:TypeId}{x:Operand}{v:V}{lo hi mx:Option Operand}(h:pSl C e t x lo hi mx=some v):Pk P ρ a w (.slice t x lo hi mx) v:=by
 unfold pSl at h
 split at h
 ·rename_i p hp
  obtain⟨u1,h1,h2⟩:=o_a hf hp
  exact o_dt hC hf h1 h2 h
 ·cases h
end
section
variable {P:Program}{C:Cx}{ρ:Rho}{e:Env}{n:Nat}{a:Act}{w:World}
theorem Qhf (off:Nat): ∀(l:List Value) (j:Nat) (arr:Array Value),off+j+l.length<=arr.size->
  (l.zipIdx j).foldl (fun cs (x:Value×Nat)=>cs.setIfInBounds (off+x.2) x.1) arr=(arr.toList.take (off+j)++l++arr.toList.drop (off+j+l.length)).toArray
 | [],j,arr,h=>by simp
 |c::r,j,arr,h=>by
  simp only[Qu]at h
  rw[List.zipIdx_cons,List.foldl_cons,Qhf off r (j+1) _ (by simp;omega)]
  apply Yc.1
  simp only[Array.toList_setIfInBounds]
  have hlt:off+j<arr.toList.length:=by simp;omega
  rw[show off+(j+1)=off+j+1 by omega,Xv,List.take_set_of_le (by omega),List.drop_set_of_lt (by omega),Jf hlt]
  simp[show off+j+1+r.length=off+j+(r.length+1) by omega]
theorem o_aE {pl:Nat->Option (Nat×Nat)}: ∀{vs:List (Nat×V)} {us:List (Nat×Value)} {zs cs:List V} {zv:List Value},Qie pl zs vs=some cs->cvc ρ zs=some zv->us.map (·.1)=vs.map (·.1)->cvl ρ (vs.map (·.2))=some (us.map (·.2))->
  ∃cv',cvc ρ cs=some cv'/\Instr.fill pl zv.toArray us=some cv'.toArray
 | [],us,zs,cs,zv,h,hz,h1,h2=>by
  injection h with h;subst h
  cases us with
  |nil=>exact⟨zv,hz,rfl⟩
  |cons=>cases h1
 |(i,v)::r,us,zs,cs,zv,h,hz,h1,h2=>by
  cases us with
  |nil=>cases h1
  |cons q us=>
   obtain⟨i',u⟩:=q
   simp only[Qz,X8]at h1
   obtain⟨rfl,h1⟩:=h1
   obtain⟨u',us',he,h3,h4⟩:=Qaq h2
   simp only[Qz,X8]at he
   obtain⟨rfl,rfl⟩:=he
   unfold Qie at h
   split at h
   ·cases h
   ·rename_i off sz hpl
    obtain⟨hb,h⟩:=Qaa h
    rw[Qe,Qe,Xt]at hb
    obtain⟨vs',h5,h6⟩:=Qgi hb.2 h3
    have hl:=Ql hb.1.1
    have hle:=Qi hb.1.2
    have hvl:=Qal h5
    have hzl:=Qal hz
    obtain⟨cv',h7,h8⟩:=o_aE h (Qbr (Qbr (Qbc off hz) h5) (Qbb (off+sz) hz)) h1 h4
    refine⟨cv',h7,?_⟩
    unfold Instr.fill
    rw[hpl,h6]
    simp only[Xs]
    rw[Qd (by simp;omega)]
    have hf:=Qhf off vs' 0 zv.toArray (by simp;omega)
    rw[<-Array.foldl_toList,Array.toList_zipIdx]
    simp only[Yo]at hf
    rw[show(vs'.toArray.toList.zipIdx 0).foldl _ zv.toArray=_ from hf]
    rw[<-h8,show off+vs'.length=off+sz by omega]
theorem o_aF (hC:OKC P C){t:TypeId}{I:Ti}(hI:C.ty.get t=some I): ∃z,(∀w,(zeroValue t).run P w=.ok z w)/\cvc ρ I.z=some z.cells.toList/\cv ρ (zeroV I)=some z/\z.cells.size=I.n:=by
 obtain⟨i,z,h1,h2,h3,h4,h5,h6,_,_,h7⟩:=(hC.ty t I hI).info
 have hz:cvc ρ I.z=some z.cells.toList:=by rw[h3];exact cvc_k h4
 refine⟨z,zero_run h1 h2,hz,?_,h7⟩
 unfold zeroV
 cases hag:I.ag with
 |true=>
  rw[cond_true,Qei hz]
  have:=h5 hag
  rw[this];rfl
 |false=>
  rw[cond_false]
  have hp:=h6 hag
  have hc:z.cells=#[z]:=by cases z<;>first|rfl|cases hp
  rw[h3,hc]
  show cv ρ (.k z)=some z
  unfold cv
  rw[Qj hp]
theorem o_cs (hC:OKC P C)(hf:Fe ρ e n a){t:TypeId}{ps:Array (Nat×Operand)}{v:V}(h:pBuild C e t ps.toList=some v):Pk P ρ a w (.build t ps) v:=by
 unfold pBuild at h
 split at h
 ·rename_i I hI
  split at h
  ·rename_i vs hvs
   obtain⟨us,h1,h2,h3⟩:=o_a4 hf hvs
   obtain⟨z,hz,hzc,_,_⟩:=o_aF (ρ:=ρ) hC hI
   have hu:=(hC.ty t I hI).u
   unfold bldT at h
   split at h
   ·rename_i fs hfs
    unfold bldV at h
    split at h
    ·rename_i cs hcs
     injection h with h;subst h
     obtain⟨cv',h4,h5⟩:=o_aE hcs hzc h1 h2
     refine⟨_,Qei h4,fun _ _ _ _ _=>?_⟩
     rw[hfs]at hu
     simp only[Q4]at h3
     simp only[execOp,Instr.build,h3,Sem.run_bind,hz w,Result.andThen_ok,run_underlying hu]
     rw[qpl_arr ((hC.ty t I hI).pl fs hfs) w]
     have h6:Instr.fill (fun i=>I.pl.toArray[i]?) z.cells us=some cv'.toArray:=by simpa using h5
     simp only[Result.andThen_ok,h6,Sem.run_pure]
    ·cases h
   ·rename_i l el hel
    split at h
    ·rename_i J hJ
     unfold bldV at h
     split at h
     ·rename_i cs hcs
      injection h with h;subst h
      obtain⟨cv',h4,h5⟩:=o_aE hcs hzc h1 h2
      refine⟨_,Qei h4,fun _ _ _ _ _=>?_⟩
      rw[hel]at hu
      simp only[Q4]at h3
      simp only[execOp,Instr.build,h3,Sem.run_bind,hz w,Result.andThen_ok,run_underlying hu,o_r hC hJ]
      have h6:Instr.fill (fun i=>some (i*J.n,J.n)) z.cells us=some cv'.toArray:=by simpa using h5
      simp[h6]
     ·cases h
    ·cases h
   ·cases h
  ·cases h
 ·cases h
theorem o_ce (hC:OKC P C){t:TypeId}{u:TypeDesc}(h:isIf C t=false)(hu:und C t=some u): ∀ms,u≠ .interface ms:=fun ms e1=>by
 subst e1
 unfold isIf at h
 rw[hu]at h
 cases h
theorem o_c8 (hC:OKC P C)(hf:Fe ρ e n a){t:TypeId}{x:Operand}{v:V}(h:pMki C e t x=some v):Pk P ρ a w (.makeInterface t x) v:=by
 unfold pMki at h
 obtain⟨hi,h⟩:=Qao h
 split at h
 ·rename_i u hu
  split at h
  ·rename_i p hp
   injection h with h;subst h
   obtain⟨u1,h1,h2⟩:=o_a hf hp
   have hn:=o_ce hC hi hu
   refine⟨_,cv_i_mk h1,fun _ _ _ _ _=>?_⟩
   have hu':=o_z hC hu
   cases u<;>first|(exact absurd rfl (hn _))|simp[execOp,h2,Instr.makeInterface,run_underlying hu']
  ·cases h
 ·cases h
theorem o_bP {I:Ti}{ok:Bool}{v:V}{z:Value}(hz:cv ρ (zeroV I)=some z)(h:tasNo I ok=some v):ok=true/\cv ρ v=some (.tuple #[z,.bool false]):=by
 unfold tasNo at h
 obtain⟨hb,h⟩:=Qaa h
 injection h with h;subst h
 exact⟨hb,cv_t_mk (Qad hz (Qad (Qba false) (by unfold cvl;rfl)))⟩
theorem o_c9 (hC:OKC P C)(hf:Fe ρ e n a){x:Operand}{xT ty2_:TypeId}{ok:Bool}{v:V}(h:pTas C e x ty2_ ok=some v):Pk P ρ a w (.typeAssert x xT ty2_ ok) v:=by
 unfold pTas at h
 split at h
 ·rename_i I hI
  split at h
  ·rename_i p hp
   obtain⟨u1,h1,h2⟩:=o_a hf hp
   obtain⟨z,hz,_,hzv,_⟩:=o_aF (ρ:=ρ) hC hI
   have hu:=(hC.ty ty2_ I hI).u
   unfold tasV at h
   split at h
   ·rename_i t q hq
    obtain⟨hi,h'⟩:=Qao h
    clear h
    have h:=h'
    clear h'
    have hn:=o_ce hC hi (show und C ty2_=some I.u by unfold und;rw[hI])
    rw[V.if?_eq hq]at h1
    obtain⟨uq,h3,rfl⟩:=cv_i h1
    cases ht:Nat.beq t ty2_ with
    |true=>
     rw[ht,cond_true]at h
     have:=Ql ht
     subst this
     injection h with h;subst h
     cases ok with
     |true=>
      refine⟨_,cv_t_mk (Qad h3 (Qad (Qba true) (by unfold cvl;rfl))),fun _ _ _ _ _=>?_⟩
      cases hIu:I.u<;>rw[hIu]at hu hn<;>first|(exact absurd rfl (hn _))|simp[execOp,h2,Instr.typeAssert,run_underlying hu]
     |false=>
      refine⟨_,h3,fun _ _ _ _ _=>?_⟩
      cases hIu:I.u<;>rw[hIu]at hu hn<;>first|(exact absurd rfl (hn _))|simp[execOp,h2,Instr.typeAssert,run_underlying hu]
    |false=>
     rw[ht,cond_false]at h
     obtain⟨rfl,h4⟩:=o_bP hzv h
     have hne:t≠ty2_:=fun e1=>by subst e1;simp at ht
     refine⟨_,h4,fun _ _ _ _ _=>?_⟩
     cases hIu:I.u<;>rw[hIu]at hu hn<;>first|(exact absurd rfl (hn _))|simp[execOp,h2,Instr.typeAssert,run_underlying hu,hne,hz w]
   ·obtain⟨hi,h⟩:=Qaa h
    rw[isNilI_eq hi]at h1
    rw[cv_k h1]at h2
    obtain⟨rfl,h4⟩:=o_bP hzv h
    refine⟨_,h4,fun _ _ _ _ _=>?_⟩
    cases hIu:I.u<;>rw[hIu]at hu<;>simp[execOp,h2,Instr.typeAssert,run_underlying hu,hz w]
  ·cases h
 ·cases h
theorem o_bq {α:Type}{l:Option (List V)}{f:V->Option α}{v:α}(h:arg1 l f=some v): ∃x,l=some [x]/\f x=some v:=by
 unfold arg1 at h
 split at h
 ·exact⟨_,rfl,h⟩
 ·cases h
theorem o_br {α:Type}{l:Option (List V)}{f:V->V->Option α}{v:α}(h:arg2 l f=some v): ∃x y,l=some [x,y]/\f x y=some v:=by
 unfold arg2 at h
 split at h
 ·exact⟨_,_,rfl,h⟩
 ·cases h
theorem o_ct {α:Type}{l:List TypeId}{f:TypeId->Option α}{v:α}(h:ty1 l f=some v): ∃t r,l=t::r/\f t=some v:=by
 unfold ty1 at h
 split at h
 ·exact⟨_,_,rfl,h⟩
 ·cases h
theorem o_da {m:Option Nat}{v:V}(h:natV m=some v): ∃k,m=some k/\cv ρ v=some (.int .i64 (k:Int)):=by
 unfold natV at h
 split at h
 ·injection h with h;subst h;exact⟨_,rfl,cv_nt _⟩
 ·cases h
theorem o_aq (hf:Fe ρ e n a){xs:Array Operand}{vs:List V}(h:opds e xs.toList=some vs): ∃us,cvl ρ vs=some us/\xs.map a.eval=us.toArray:=by
 obtain⟨us,h1,h2⟩:=o_ap hf h
 exact⟨us,h1,by simpa using h2⟩
theorem o_db (hC:OKC P C){t:TypeId}{x:V}{k:Nat}{u:Value}{ts:Array TypeId}{ty:TypeId}(hts:ts[0]?=some t)(hu:cv ρ x=some u)(h:lenV C t x=some k):(Builtin.len_ ts ty #[u]).run P w=.ok (.int .i64 (k:Int)) w:=by
 unfold lenV at h
 split at h
 ·rename_i el he
  have ht:=o_aa hC he
  unfold lenS at h
  split at h
  ·rename_i hs
   injection h with h;subst h
   rw[V.sl?_eq hs]at hu
   obtain⟨y,_,_,rfl⟩:=cv_s hu
   simp[Builtin.len_,hts,run_underlying ht,goInt]
  ·obtain⟨hn,h⟩:=Qaa h
   injection h with h;subst h
   rw[V.nilS_eq hn]at hu
   rw[cv_k hu]
   simp[Builtin.len_,hts,run_underlying ht,goInt]
 ·cases hst:Qcz C t with
  |true=>
   rw[hst,cond_true]at h
   have ht:=o_y hC hst
   unfold lenB at h
   split at h
   ·rename_i hs
    injection h with h;subst h
    rw[V.str?_eq hs]at hu
    rw[cv_k hu]
    simp[Builtin.len_,hts,run_underlying ht,goInt]
   ·cases h
  |false=>
   rw[hst,cond_false]at h
   unfold lenA at h
   split at h
   ·rename_i m J hJ
    injection h with h;subst h
    obtain⟨el,ht,_⟩:=o_aC hC hJ
    simp[Builtin.len_,hts,run_underlying ht,goInt]
   ·cases h
theorem cvl1 {x:V}{us:List Value}(h:cvl ρ [x]=some us): ∃u,us=[u]/\cv ρ x=some u:=by
 obtain⟨u,us',rfl,h3,h4⟩:=Qaq h
 rw[Qbp h4]
 exact⟨u,rfl,h3⟩
theorem cvl2 {x y:V}{us:List Value}(h:cvl ρ [x,y]=some us): ∃u v,us=[u,v]/\cv ρ x=some u/\cv ρ y=some v:=by
 obtain⟨u,us',rfl,h3,h4⟩:=Qaq h
 obtain⟨v,rfl,h5⟩:=cvl1 h4
 exact⟨u,v,rfl,h3,h5⟩
theorem o_cV {f:Int->Int->Int}{x y v:V}(h:mm f x y=some v): ∃k m k2 q,x=.k (.int k m)/\y=.k (.int k2 q)/\v=.k (.int k (f m q)):=by
 unfold mm at h
 split at h
 ·rename_i k m hx
  split at h
  ·rename_i k2 q hy
   injection h with h
   exact⟨k,m,k2,q,V.int?_eq hx,V.int?_eq hy,h.symm⟩
  ·cases h
 ·cases h
theorem o_dv (hC:OKC P C)(hf:Fe ρ e n a){xs:Array Operand}{ts:Array TypeId}{b:Builtin}{v:V}(h:pBi C e xs.toList ts.toList b=some v):Pk P ρ a w (.call {callee:=.builtin b,args:=xs,argTypes:=ts}) v:=by
 unfold pBi at h
 split at h
 ·obtain⟨x,hx,h⟩:=o_bq h
  obtain⟨t,tr,ht,h⟩:=o_ct h
  obtain⟨us,h1,h2⟩:=o_aq hf hx
  obtain⟨u,rfl,h3⟩:=cvl1 h1
  obtain⟨k,hk,h4⟩:=o_da (ρ:=ρ) h
  have hts:ts[0]?=some t:=by rw[<-Wh,ht];rfl
  refine⟨_,h4,fun _ T _ _ _=>?_⟩
  have:=o_db (w:=w) (ty:=T) hC hts h3 hk
  simp only[execOp,resolve,h2,Sem.run_bind,Sem.run_pure,Result.andThen_ok,invoke,builtin,this]
 ·obtain⟨x,y,hx,h⟩:=o_br h
  obtain⟨us,h1,h2⟩:=o_aq hf hx
  obtain⟨u1,u2,rfl,h3,h4⟩:=cvl2 h1
  obtain⟨k,m,k2,q,rfl,rfl,rfl⟩:=o_cV h
  rw[cv_k h3,cv_k h4]at h2
  refine⟨_,Qif _ _,fun _ T _ _ _=>?_⟩
  have e1:(if q<m then q else m)=imin m q:=by unfold imin;by_cases hq:q<m<;>simp[hq]
  simp[execOp,resolve,h2,invoke,builtin,Builtin.min_,Builtin.min2,e1]
 ·obtain⟨x,y,hx,h⟩:=o_br h
  obtain⟨us,h1,h2⟩:=o_aq hf hx
  obtain⟨u1,u2,rfl,h3,h4⟩:=cvl2 h1
  obtain⟨k,m,k2,q,rfl,rfl,rfl⟩:=o_cV h
  rw[cv_k h3,cv_k h4]at h2
  refine⟨_,Qif _ _,fun _ T _ _ _=>?_⟩
  have e1:(if m<q then q else m)=imax m q:=by unfold imax;by_cases hq:m<q<;>simp[hq]
  simp[execOp,resolve,h2,invoke,builtin,Builtin.max_,Builtin.max2,e1]
 ·cases h
theorem o_bQ (hC:OKC P C)(hf:Fe ρ e n a){o:Op}{v:V}(h:pure1 C e o=some v):Pk P ρ a w o v:=by
 unfold pure1 at h
 split at h
 ·obtain⟨u,h1,h2⟩:=o_a hf h;exact⟨u,h1,fun _ _ _ _ _=>r_move h2⟩
 ·obtain⟨u,h1,h2⟩:=o_a hf h;exact⟨u,h1,fun _ _ _ _ _=>r_assign h2⟩
 ·exact o_cC hf h
 ·exact o_c2 hC hf h
 ·exact o_dq hf h
 ·exact o_c3 hf h
 ·exact o_c4 hf h
 ·exact o_cD hf h
 ·exact o_cE hC hf h
 ·exact o_dr hC hf h
 ·exact o_c5 hC hf h
 ·exact o_c6 hC hf h
 ·exact o_ds hC hf h
 ·exact o_du hC hf h
 ·exact o_cs hC hf h
 ·exact o_c8 hC hf h
 ·exact o_c9 hC hf h
 ·rename_i c
  unfold pCall at h
  split at h
  ·rename_i b hb
   obtain⟨cal,xs,ts⟩:=c
   subst hb
   exact o_dv hC hf h
  ·cases h
 ·cases h
end
def cvp (ρ:Rho):List (V×V)->Option (List (Value×Value))
 | []=>some []
 |(k,v)::r=>match cv ρ k,cv ρ v,cvp ρ r with
  |some a,some b,some l=>some ((a,b)::l)
  |_,_,_=>none
theorem Qaw {ρ:Rho}{k v:V}{r:List (V×V)}{l:List (Value×Value)}(h:cvp ρ ((k,v)::r)=some l): ∃a b m,l=(a,b)::m/\cv ρ k=some a/\cv ρ v=some b/\cvp ρ r=some m:=by
 unfold cvp at h
 split at h
 ·rename_i a b m h1 h2 h3;injection h with h;exact⟨a,b,m,h.symm,h1,h2,h3⟩
 ·cases h
theorem Qce {ρ:Rho}{l:List (Value×Value)}(h:cvp ρ []=some l):l=[]:=by unfold cvp at h;injection h with h;exact h.symm
theorem Qdf {ρ:Rho}{k v:V}{r:List (V×V)}{a b:Value}{m:List (Value×Value)}(h1:cv ρ k=some a)(h2:cv ρ v=some b)(h3:cvp ρ r=some m):cvp ρ ((k,v)::r)=some ((a,b)::m):=by unfold cvp;rw[h1,h2,h3]
theorem Qcp {ρ ρ':Rho}(h:Le ρ ρ'): ∀{x:List (V×V)} {l:List (Value×Value)},cvp ρ x=some l->cvp ρ' x=some l
 | [],l,hl=>by rw[Qce hl];unfold cvp;rfl
 |(k,v)::r,l,hl=>by obtain⟨a,b,m,rfl,h1,h2,h3⟩:=Qaw hl;exact Qdf (Qam h _ _ h1) (Qam h _ _ h2) (Qcp h h3)
theorem Qej {ρ:Rho}: ∀{x y:List (V×V)} {l m:List (Value×Value)},cvp ρ x=some l->cvp ρ y=some m->cvp ρ (x++y)=some (l++m)
 | [],y,l,m,h,k=>by rw[Qce h];exact k
 |(p,q)::r,y,l,m,h,k=>by obtain⟨a,b,c,rfl,h1,h2,h3⟩:=Qaw h;exact Qdf h1 h2 (Qej h3 k)
theorem Qer {ρ:Rho}: ∀{x:List (V×V)} {l:List (Value×Value)},cvp ρ x=some l->l.length=x.length
 | [],l,h=>by rw[Qce h];rfl
 |(k,v)::r,l,h=>by obtain⟨a,b,m,rfl,_,_,h3⟩:=Qaw h;simp[Qer h3]
def OR (P:Program)(ρ:Rho)(w:World)(x:Pl):O->Prop
 | .c T xs=>∃vs arr,cvc ρ xs=some vs/\w.heap[x.b]?=some (.cells arr T (0,0))/\(∀k v,vs[k]?=some v->arr[x.o+k]?=some v)/\szB P T=some x.s/\x.o+x.c*x.s=arr.size
 | .m es clk pend=>∃ks arr,cvp ρ es=some ks/\w.heap[x.b]?=some (.map arr clk)/\ks.Perm (arr.toList.map fun e=>(e.key,e.val))/\(arr.toList.map (·.born)).Nodup/\(∀e∈arr.toList,e.born<clk)/\
   (∀j p,pend=some (j,p)->∃y A ent B ka kb,ρ j=some y/\arr.toList=A++ent::B/\ent.born=y.b/\ks=ka++(ent.key,ent.val)::kb/\ka.length=p/\(ka++kb).Perm ((A++B).map fun e=>(e.key,e.val)))
 | .q m clk p=>∃y since seen,ρ m=some y/\y.b<w.heap.size/\w.heap[x.b]?=some (.mapIter (some y.b) since seen clk)/\(p=.fresh->since=clk/\seen=#[])/\
   (∀k al,p=.cur k al->∃st kv,seen.back?=some st/\cv ρ k=some kv/\∀arr c2,w.heap[y.b]?=some (.map arr c2)->clk<=c2/\(c2=clk->(∀e∈arr.toList,e.key=kv->e.born=st)/\(al=true->∀e∈arr.toList,e.born∈seen.toList)))
 | .qn=>∃s t c,w.heap[x.b]?=some (.mapIter none s t c)
 | .st b pos=>w.heap[x.b]?=some (.stringIter b pos)
 | .lp env ps asg body st pend=>∃lp n,w.heap[x.b]?=some (.loop lp)/\lp.state=(if st=true then(if pend.isNone=true then .busy else .done)else .ready)/\lp.pending=pend/\lp.params=ps.toArray/\lp.assign=asg/\lp.body=body/\
   Fe ρ env n ⟨lp.tmps,[]⟩/\okD n asg=true/\okD n body=true/\∀d∈ps,d<n
 | .df=>w.heap[x.b]?=some (.deferred (some []))
structure HR (P:Program) (w0:World) (ρ:Rho) (h:T O) (nx:Nat) (w:World):Prop where
 live: ∀i o,h.get i=some o->i<nx/\∃x,ρ i=some x/\w0.heap.size<=x.b/\x.b<w.heap.size/\OR P ρ w x o
 inj: ∀i j o p x y,h.get i=some o->h.get j=some p->ρ i=some x->ρ j=some y->x.b=y.b->i=j
 top: ∀i,nx<=i->ρ i=none
 base: ∀k,k<w0.heap.size->w.heap[k]?=w0.heap[k]?
 size:w0.heap.size<=w.heap.size
 os:w.os=w0.os
 tape:w.tape=w0.tape
 output:w.output=w0.output
structure Tr (ρ:Rho) (h:T O) (n0:Nat) (w:World) (ρ':Rho) (h':T O) (n1:Nat) (w':World) (fl:Nat):Prop where
 le:Le ρ ρ'
 nx:n0<=n1
 size:w.heap.size<=w'.heap.size
 keep: ∀b,b<w.heap.size->(∀i o x,h.get i=some o->ρ i=some x->x.b≠b)->w'.heap[b]?=w.heap[b]?
 own: ∀i o x,h'.get i=some o->ρ' i=some x->x.b<w.heap.size->∃j p y,h.get j=some p/\ρ j=some y/\y.b=x.b
 flo: ∀i,i<fl->h'.get i=h.get i
 old: ∀i o x,i<fl->h.get i=some o->ρ i=some x->w'.heap[x.b]?=w.heap[x.b]?
 new: ∀i,i<n0->ρ i=none->ρ' i=none
section
variable {P:Program}{w0:World}{ρ ρ' ρ'':Rho}{h h' h'':T O}{nx nx' nx'':Nat}{w w' w'':World}{fl:Nat}
theorem Tr.refl (ρ:Rho)(h:T O)(nx:Nat)(w:World)(fl:Nat):Tr ρ h nx w ρ h nx w fl:=⟨Le.refl _,Qo _,Qo _,fun _ _ _=>rfl,fun i o x h1 h2 _=>⟨i,o,x,h1,h2,rfl⟩,fun _ _=>rfl,fun _ _ _ _ _ _=>rfl,fun _ _ h=>h⟩
theorem Tr.trans (a:Tr ρ h nx w ρ' h' nx' w' fl)(b:Tr ρ' h' nx' w' ρ'' h'' nx'' w'' fl):Tr ρ h nx w ρ'' h'' nx'' w'' fl where
 le:=a.le.trans b.le
 nx:=Wd a.nx b.nx
 size:=Wd a.size b.size
 keep k hk hn:=by
  have h1:=a.keep k hk hn
  rw[<-h1]
  refine b.keep k (Qq hk a.size) fun i o x hi hx e1=>?_
  obtain⟨j,p,y,h2,h3,h4⟩:=a.own i o x hi hx (by omega)
  exact hn j p y h2 h3 (h4.trans e1)
 own i o x hi hx hb:=by
  obtain⟨j,p,y,h2,h3,h4⟩:=b.own i o x hi hx (Qq hb a.size)
  obtain⟨j',p',y',h5,h6,h7⟩:=a.own j p y h2 h3 (by omega)
  exact⟨j',p',y',h5,h6,h7.trans h4⟩
 flo i hi:=(b.flo i hi).trans (a.flo i hi)
 old i o x hi h1 h2:=(b.old i o x hi ((a.flo i hi).trans h1) (a.le _ _ h2)).trans (a.old i o x hi h1 h2)
 new i hi h1:=b.new i (Qq hi a.nx) (a.new i hi h1)
def Ben (w w':World)(b:Nat):Prop:=∀arr' c',w'.heap[b]?=some (.map arr' c')->∃arr c,w.heap[b]?=some (.map arr c)/\c<=c'/\(c'=c->∀e'∈arr'.toList,∃e∈arr.toList,e.key=e'.key/\e.born=e'.born)
theorem Ben.of_eq {b:Nat}(hb:w'.heap[b]?=w.heap[b]?):Ben w w' b:=fun arr' c' h=>⟨arr',c',by rw[<-hb];exact h,Qo _,fun _ e he=>⟨e,he,rfl,rfl⟩⟩
theorem OR.keep {x:Pl}{o:O}(hl:Le ρ ρ')(hs:w.heap.size<=w'.heap.size)(hb:w'.heap[x.b]?=w.heap[x.b]?)(hben: ∀b,b<w.heap.size->Ben w w' b)(ho:OR P ρ w x o):OR P ρ' w' x o:=by
 cases o with
 |c T xs=>obtain⟨vs,arr,h1,h2,h3⟩:=ho;exact⟨vs,arr,Qbj hl _ _ h1,hb.trans h2,h3⟩
 |m es clk pend=>
  obtain⟨ks,arr,h1,h2,h3,h4,h5,h6⟩:=ho
  refine⟨ks,arr,Qcp hl h1,hb.trans h2,h3,h4,h5,fun j k e1=>?_⟩
  obtain⟨y,A,ent,B,ka,kb,g1,g2⟩:=h6 j k e1
  exact⟨y,A,ent,B,ka,kb,hl _ _ g1,g2⟩
 |q m clk p=>
  obtain⟨y,since,seen,h1,h2,h3,h4,h5⟩:=ho
  refine⟨y,since,seen,hl _ _ h1,by omega,hb.trans h3,h4,fun k al e1=>?_⟩
  obtain⟨st,kv,g1,g2,g3⟩:=h5 k al e1
  refine⟨st,kv,g1,Qam hl _ _ g2,fun arr' c' ha=>?_⟩
  obtain⟨arr,c,k1,k2,k3⟩:=hben y.b h2 arr' c' ha
  obtain⟨k4,k5⟩:=g3 arr c k1
  refine⟨by omega,fun e2=>⟨fun e' he hk=>?_,fun hal e' he=>?_⟩⟩
  ·obtain⟨e0,he0,h6,h7⟩:=k3 (by omega) e' he
   rw[<-h7]
   exact(k5 (by omega)).1 e0 he0 (h6.trans hk)
  ·obtain⟨e0,he0,h6,h7⟩:=k3 (by omega) e' he
   rw[<-h7]
   exact(k5 (by omega)).2 hal e0 he0
 |qn=>obtain⟨s,t,c,h1⟩:=ho;exact⟨s,t,c,hb.trans h1⟩
 |st b pos=>exact hb.trans ho
 |lp env ps asg body st pend=>
  obtain⟨lp,n,h1,h2,h3,h4,h5,h6,h8,h9⟩:=ho
  exact⟨lp,n,hb.trans h1,h2,h3,h4,h5,h6,h8.mono hl,h9⟩
 |df=>exact hb.trans ho
theorem HR.heap (hr:HR P w0 ρ h nx w)(hh:w'.heap=w.heap)(ho:w'.os=w.os)(ht:w'.tape=w.tape)(hp:w'.output=w.output):HR P w0 ρ h nx w':=
 ⟨fun i o hi=>by
  obtain⟨h1,x,h2,h3,h4,h5⟩:=hr.live i o hi
  exact⟨h1,x,h2,h3,by rw[hh];exact h4,OR.keep (Le.refl _) (by rw[hh];exact Qo _) (by rw[hh]) (fun b _=>Ben.of_eq (by rw[hh])) h5⟩,hr.inj,hr.top,fun k hk=>by rw[hh];exact hr.base k hk,by rw[hh];exact hr.size,ho.trans hr.os,ht.trans hr.tape,hp.trans hr.output⟩
theorem Tr.heap (ρ:Rho)(h:T O)(nx fl:Nat)(hh:w'.heap=w.heap):Tr ρ h nx w ρ h nx w' fl:=
 ⟨Le.refl _,Qo _,by rw[hh];exact Qo _,fun _ _ _=>by rw[hh],fun i o x h1 h2 _=>⟨i,o,x,h1,h2,rfl⟩,fun _ _=>rfl,fun _ _ _ _ _ _=>by rw[hh],fun _ _ h=>h⟩
theorem HR.alloc (hr:HR P w0 ρ h nx w)(ob:Obj)(o:O)(x:Pl)(hx:x.b=w.heap.size)(ho:OR P (ρ.add nx x) (w.alloc ob) x o):HR P w0 (ρ.add nx x) (h.set nx o) (nx+1) (w.alloc ob):=by
 have hl:Le ρ (ρ.add nx x):=Rho.le_add (hr.top nx (Qo _))
 have hs:(w.alloc ob).heap.size=w.heap.size+1:=by simp
 have old: ∀k,k<w.heap.size->(w.alloc ob).heap[k]?=w.heap[k]?:=fun k hk=>Below.heap_alloc w ob k hk
 refine⟨fun i p hi=>?_,fun i j p q y z hi hj hy hz e1=>?_,fun i hi=>?_,fun k hk=>(old k (Qq hk hr.size)).trans (hr.base k hk),by rw[hs];have:=hr.size;omega,hr.os,hr.tape,hr.output⟩
 ·rw[T.get_set]at hi
  split at hi
  ·rename_i e1
   subst e1
   injection hi with hi
   subst hi
   exact⟨by omega,x,Rho.add_same _ _ _,by rw[hx];exact hr.size,by rw[hs,hx];omega,ho⟩
  ·rename_i e1
   obtain⟨h1,y,h2,h3,h4,h5⟩:=hr.live i p hi
   exact⟨by omega,y,hl _ _ h2,h3,by omega,OR.keep hl (by omega) (old _ h4) (fun b hb=>Ben.of_eq (old b hb)) h5⟩
 ·rw[T.get_set]at hi hj
  have fresh: ∀{k p y},h.get k=some p->(ρ.add nx x) k=some y->y.b<w.heap.size:=fun {k p y} hk hy=>by
   obtain⟨h1,y',h2,_,h4,_⟩:=hr.live k p hk
   rw[hl _ _ h2]at hy
   injection hy with hy
   subst hy;exact h4
  split at hi<;>split at hj
  ·omega
  ·rename_i e2 e3
   subst e2
   rw[Rho.add_same]at hy
   injection hy with hy;subst hy
   have:=fresh hj hz
   omega
  ·rename_i e2 e3
   subst e3
   rw[Rho.add_same]at hz
   injection hz with hz;subst hz
   have:=fresh hi hy
   omega
  ·rename_i e2 e3
   rw[Rho.add_other e2]at hy
   rw[Rho.add_other e3]at hz
   exact hr.inj i j p q y z hi hj hy hz e1
 ·rw[Rho.add_other (by omega)]
  exact hr.top i (by omega)
theorem Tr.alloc (hr:HR P w0 ρ h nx w)(ob:Obj)(o:O)(x:Pl)(hx:x.b=w.heap.size)(hfl:fl<=nx):Tr ρ h nx w (ρ.add nx x) (h.set nx o) (nx+1) (w.alloc ob) fl:=
 ⟨Rho.le_add (hr.top nx (Qo _)),by omega,by simp,fun b hb _=>Below.heap_alloc w ob b hb,fun i p y hi hy hb=>by
  rw[T.get_set]at hi
  split at hi
  ·rename_i e1
   subst e1
   rw[Rho.add_same]at hy
   injection hy with hy;subst hy
   omega
  ·rename_i e1
   rw[Rho.add_other e1]at hy
   exact⟨i,p,y,hi,hy,rfl⟩,fun i hi=>T.get_set_other h o (by omega),fun i o y _ h1 h2=>by
  obtain⟨_,y',g2,_,g4,_⟩:=hr.live i o h1
  rw[h2]at g2;injection g2 with g2;subst g2
  exact Below.heap_alloc w ob _ g4,fun i hi h1=>by rw[Rho.add_other (by omega)];exact h1⟩
theorem HR.upd (hr:HR P w0 ρ h nx w){i:Nat}{o o':O}{x:Pl}(hi:h.get i=some o)(hx:ρ i=some x)(hs:w'.heap.size=w.heap.size)(hw: ∀k,k≠x.b->w'.heap[k]?=w.heap[k]?)(h1:w'.os=w.os)(h2:w'.tape=w.tape)(h3:w'.output=w.output)
  (hben:Ben w w' x.b) (ho:OR P ρ w' x o'):HR P w0 ρ (h.set i o') nx w':=by
 obtain⟨hin,x',hx',hlo,hhi,_⟩:=hr.live i o hi
 rw[hx]at hx'
 injection hx' with hx'
 subst hx'
 have hbenAll: ∀b,b<w.heap.size->Ben w w' b:=fun b _=>by
  by_cases hb:b=x.b
  ·subst hb;exact hben
  ·exact Ben.of_eq (hw b hb)
 refine⟨fun j p hj=>?_,fun j k p q y z hj hk hy hz e1=>?_,hr.top,fun k hk=>(hw k (by omega)).trans (hr.base k hk),by rw[hs];exact hr.size,h1.trans hr.os,h2.trans hr.tape,h3.trans hr.output⟩
 ·rw[T.get_set]at hj
  split at hj
  ·rename_i e1
   subst e1
   injection hj with hj
   subst hj
   exact⟨hin,x,hx,hlo,by omega,ho⟩
  ·rename_i e1
   obtain⟨g1,y,g2,g3,g4,g5⟩:=hr.live j p hj
   refine⟨g1,y,g2,g3,by omega,OR.keep (Le.refl _) (by omega) (hw y.b fun e2=>e1 (hr.inj j i p o y x hj hi g2 hx e2)) hbenAll g5⟩
 ·have real: ∀{l r},(h.set i o').get l=some r->∃r',h.get l=some r':=fun {l r} hl=>by
   rw[T.get_set]at hl
   split at hl
   ·rename_i e2;subst e2;exact⟨o,hi⟩
   ·exact⟨r,hl⟩
  obtain⟨p',hj'⟩:=real hj
  obtain⟨q',hk'⟩:=real hk
  exact hr.inj j k p' q' y z hj' hk' hy hz e1
theorem Tr.upd (hr:HR P w0 ρ h nx w){i:Nat}{o o':O}{x:Pl}(hi:h.get i=some o)(hx:ρ i=some x)(hs:w'.heap.size=w.heap.size)(hw: ∀k,k≠x.b->w'.heap[k]?=w.heap[k]?)(hfl:fl<=i):Tr ρ h nx w ρ (h.set i o') nx w' fl:=
 ⟨Le.refl _,Qo _,by omega,fun b hb hn=>hw b fun e1=>hn i o x hi hx e1.symm,fun j p y hj hy _=>by
  rw[T.get_set]at hj
  split at hj
  ·rename_i e2;subst e2;exact⟨j,o,y,hi,hy,rfl⟩
  ·exact⟨j,p,y,hj,hy,rfl⟩,fun j hj=>T.get_set_other h o' (by omega),fun j p y hj h1 h2=>hw y.b fun e=>by have:=hr.inj j i p o y x h1 hi h2 hx e;omega,fun _ _ h=>h⟩
theorem HR.del (hr:HR P w0 ρ h nx w)(i:Nat):HR P w0 ρ (h.del i) nx w:=by
 have real: ∀{l r},(h.del i).get l=some r->h.get l=some r:=fun {l r} hl=>by
  rw[T.get_del]at hl
  split at hl
  ·cases hl
  ·exact hl
 exact⟨fun j p hj=>hr.live j p (real hj),fun j k p q y z hj hk=>hr.inj j k p q y z (real hj) (real hk),hr.top,hr.base,hr.size,hr.os,hr.tape,hr.output⟩
theorem Tr.del (ρ:Rho)(h:T O)(nx:Nat)(w:World){i:Nat}(hfl:fl<=i):Tr ρ h nx w ρ (h.del i) nx w fl:=
 ⟨Le.refl _,Qo _,Qo _,fun _ _ _=>rfl,fun j p y hj hy _=>by
  rw[T.get_del]at hj
  split at hj
  ·cases hj
  ·exact⟨j,p,y,hj,hy,rfl⟩,fun j hj=>by rw[T.get_del,Qd (by omega)],fun _ _ _ _ _ _=>rfl,fun _ _ h=>h⟩
end
section
variable {P:Program}{C:Cx}{w0:World}{ρ:Rho}{h:T O}{nx:Nat}{w:World}{e:Env}{n:Nat}{a:Act}
theorem rowAt_eq {i:Nat}{T:TypeId}{xs:List V}(hi:Qfa h i=some (T,xs)):h.get i=some (.c T xs):=by
 unfold Qfa at hi
 split at hi
 ·rename_i U ys hg;simp only[Qc,Qr]at hi;obtain⟨rfl,rfl⟩:=hi;exact hg
 ·cases hi
theorem HR.row (hr:HR P w0 ρ h nx w){i:Nat}{T:TypeId}{xs:List V}(hi:h.get i=some (.c T xs)): ∃x vs arr,ρ i=some x/\cvc ρ xs=some vs/\w.heap[x.b]?=some (.cells arr T (0,0))/\(∀k v,vs[k]?=some v->arr[x.o+k]?=some v)/\
  szB P T=some x.s/\x.o+x.c*x.s=arr.size/\i<nx/\w0.heap.size<=x.b/\x.b<w.heap.size:=by
 obtain⟨h1,x,h2,h3,h4,vs,arr,h5,h6,h7,h8,h9⟩:=hr.live i _ hi
 exact⟨x,vs,arr,h2,h5,h6,h7,h8,h9,h1,h3,h4⟩
theorem cellOf {b:Nat}{arr:Array Value}{T:TypeId}(hb:w.heap[b]?=some (.cells arr T (0,0)))(k:Nat):w.cell? ⟨b,k,none⟩=arr[k]?:=cell_of_row w b k arr T (0,0) hb
theorem o_bR (hC:OKC P C)(hr:HR P w0 ρ h nx w){t:TypeId}{p v:V}{u:Value}(hp:cv ρ p=some u)(hl:loadV C h t p=some v): ∃z,cv ρ v=some z/\(Instr.loadAt t u).run P w=.ok z w:=by
 unfold loadV at hl
 split at hl
 ·rename_i J hJ
  split at hl
  ·rename_i xs o hc
   unfold Qij at hc
   split at hc
   ·rename_i i o' hpp
    split at hc
    ·rename_i T ys hrow
     simp only[Qc,Qr]at hc
     obtain⟨rfl,rfl⟩:=hc
     obtain⟨x,vs,arr,hx,hvs,hb,hget,_⟩:=hr.row (rowAt_eq hrow)
     rw[V.ptr?_eq hpp]at hp
     obtain⟨x',hx',rfl⟩:=cv_p hp
     rw[hx]at hx'
     injection hx' with hx'
     subst hx'
     obtain⟨z,hz,_,hz2⟩:=o_ah hC hJ hvs hl
     refine⟨z,hz,?_⟩
     cases hag:J.ag with
     |true=>
      rw[hag]at hz2
      obtain⟨rfl,hlen⟩:=hz2
      have:=run_loadCells_list (P:=P) w ⟨x.b,x.o+o',none⟩ ((vs.drop o').take J.n) (fun j q hj=>by
       rw[Addr.add_lit,cellOf hb,Xb]
       refine hget _ _ ?_
       rw[Wq]at hj
       split at hj
       ·rw[Q8]at hj;exact hj
       ·cases hj)
      rw[hlen]at this
      simp[Instr.loadAt,Instr.sureAddr,loadVar,o_bM hC hJ,hag,o_r hC hJ,this]
     |false=>
      rw[hag]at hz2
      have hcell:w.cell? ⟨x.b,x.o+o',none⟩=some z:=by rw[cellOf hb];exact hget _ _ hz2
      simp[Instr.loadAt,Instr.sureAddr,loadVar,o_bM hC hJ,hag,hcell]
    ·cases hc
   ·split at hc
    ·rw[hC.gv]at hc;cases hc
    ·cases hc
  ·cases hl
 ·cases hl
theorem o_cF (hC:OKC P C)(hr:HR P w0 ρ h nx w)(hf:Fe ρ e n a){t:TypeId}{x:Operand}{v:V}(hl:rLoad C e h t x=some v):Pk P ρ a w (.load t x) v:=by
 unfold rLoad at hl
 split at hl
 ·rename_i p hp
  obtain⟨u,h1,h2⟩:=o_a hf hp
  obtain⟨z,h3,h4⟩:=o_bR hC hr h1 hl
  refine⟨z,h3,fun _ _ _ _ _=>?_⟩
  simp only[execOp,h2,Sem.run_bind,h4,Result.andThen_ok,Sem.run_pure]
 ·cases hl
theorem part_there (hC:OKC P C){T:TypeId}{J:Ti}(hJ:C.ty.get T=some J){xs:List V}{vs:List Value}(hvs:cvc ρ xs=some vs){o:Nat}(h1:o+J.n<=xs.length)(h2:1<=J.n): ∃v z,keyS C T v=true/\cv ρ v=some z/\∀w,(part T vs.toArray o).run P w=.ok z w:=by
 have hcut: ∃v,cut J.ag J.n o xs=some v/\keyS C T v=true:=by
  unfold cut keyS
  rw[hJ]
  cases hJag:J.ag with
  |true=>
   have hl:((xs.drop o).take J.n).length=J.n:=by simp;omega
   refine⟨.g ((xs.drop o).take J.n),by rw[hl];simp,?_⟩
   simp only[hJag,cond_true,V.agg?,hl]
   simp
  |false=>exact⟨xs[o]'(by omega),by simp,by simp[hJag]⟩
 obtain⟨v,hv,hks⟩:=hcut
 obtain⟨z,hz,hz2,_⟩:=o_ah hC hJ hvs hv
 exact⟨v,z,hks,hz,hz2⟩
theorem o_aZ (hC:OKC P C)(em:Bool): ∀(d k:Nat) (t:TypeId) (x:V) (u:Value),keyT C d t=true->keyS C t x=true->cv ρ x=some u->(Instr.checkKey em (d+k) t u).run P w=.ok () w
 |0,_,_,_,_,h1,_,_=>by cases h1
 |d+1,k,t,x,u,h1,h2,hu=>by
  rw[show d+1+k=(d+k)+1 by omega]
  unfold keyT at h1
  split at h1
  ·rename_i I hI
   have hut:=(hC.ty t I hI).u
   have hab:=(hC.ty t I hI).ag
   unfold keyS at h2
   rw[hI]at h2
   split at h1
   ·rename_i fs hfs
    rw[hfs]at hut
    have hag:I.ag=true:=by unfold aggB at hab;rw[hut]at hab;injection hab with hab;exact hab.symm
    simp only[hag,cond_true]at h2
    split at h2
    ·rename_i xs hx
     rw[V.agg?_eq hx]at hu
     obtain⟨vs,hvs,rfl⟩:=cv_g hu
     have hxl:=Ql h2
     unfold Instr.checkKey
     simp only[Sem.run_bind,run_underlying hut,Result.andThen_ok]
     rw[<-Array.forIn_toList]
     generalize fs.toList=l at h1
     induction l with
     |nil=>simp
     |cons f l ih=>
      rw[Js,Qe]at h1
      obtain⟨g1,g2⟩:=h1
      simp only[List.forIn_cons,Sem.run_bind]
      have step:(Instr.checkKey em (d+k) f.type=<<part f.type vs.toArray f.offset).run P w=.ok () w:=by
       split at g1
       ·rename_i J hJ
        rw[Qe,Qe]at g1
        obtain⟨⟨k1,k2⟩,k3⟩:=g1
        have k1:=Qi k1
        have k2:=Qi k2
        obtain⟨v,z,hks,hz,hz2⟩:=part_there hC hJ hvs (o:=f.offset) (by omega) k2
        have:=o_aZ hC em d k f.type v z k3 hks hz
        show(Bind.bind (part f.type vs.toArray f.offset) fun z=>Instr.checkKey em (d+k) f.type z).run P w=_
        rw[Sem.run_bind,hz2]
        exact this
       ·cases g1
      by_cases hn:f.name= "_"
      ·simp only[hn,ne_eq,not_true,Wu,Sem.run_pure,Result.andThen_ok]
       exact ih g2
      ·have s1:((part f.type vs.toArray f.offset).run P w).andThen (fun z w=>(Instr.checkKey em (d+k) f.type z).run P w)=.ok () w:=by rw[<-Sem.run_bind];exact step
       simp only[ne_eq,hn,not_false_eq_true,X6,Sem.run_bind]
       cases hpp:(part f.type vs.toArray f.offset).run P w with
       |halt q w1=>rw[hpp]at s1;cases s1
       |ok z w1=>
        rw[hpp]at s1
        simp only[Result.andThen_ok]at s1 ⊢
        rw[s1]
        simp only[Result.andThen_ok,Sem.run_pure]
        exact ih g2
    ·cases h2
   ·rename_i m el hel
    rw[hel]at hut
    have hag:I.ag=true:=by unfold aggB at hab;rw[hut]at hab;injection hab with hab;exact hab.symm
    simp only[hag,cond_true]at h2
    split at h1
    ·rename_i J hJ
     rw[Qe,Qe]at h1
     obtain⟨⟨k1,k2⟩,k3⟩:=h1
     have k1:=Qi k1
     have k2:=Qi k2
     split at h2
     ·rename_i xs hx
      rw[V.agg?_eq hx]at hu
      obtain⟨vs,hvs,rfl⟩:=cv_g hu
      have hxl:=Ql h2
      unfold Instr.checkKey
      simp only[Sem.run_bind,run_underlying hut,Result.andThen_ok]
      simp only[Std.Legacy.Range.forIn_eq_forIn_range',Std.Legacy.Range.size,Nat.sub_zero,Nat.add_one_sub_one,Nat.div_one]
      have hr: ∀i∈List.range' 0 m,i<m:=fun i hi=>by simp[List.mem_range']at hi;omega
      generalize List.range' 0 m=l at hr
      induction l with
      |nil=>simp
      |cons i l ih=>
       have hi:i<m:=hr i (Qg ..)
       have hmul:i*J.n+J.n<=m*J.n:=by rw[<-Jt];exact Q5 _ hi
       obtain⟨v,z,hks,hz,hz2⟩:=part_there hC hJ hvs (o:=i*J.n) (by omega) k2
       have:=o_aZ hC em d k el v z k3 hks hz
       simp only[List.forIn_cons,Sem.run_bind,o_r hC hJ,Result.andThen_ok,hz2,this,Sem.run_pure]
       exact ih fun i hi=>hr i (Qf _ hi)
     ·cases h2
    ·cases h1
   ·cases h1
   ·unfold Instr.checkKey
    simp only[Sem.run_bind,run_underlying hut,Result.andThen_ok]
    cases hIu:I.u<;>simp_all
  ·cases h1
theorem o_aG {d:TypeDesc}{kt:TypeId}{u v:Value}{b c:Bool}{m:Nat}(hd:P.underlying kt=some d)(h1:Instr.sameNow d u v=some c)(h2:EqV P (m+1) kt u v b):c=b:=by
 have h2:=h2 default
 unfold Instr.sameNow at h1
 split at h1
 ·split at h1
  ·rename_i hk
   injection h1 with h1
   subst hk
   rw[run_equalIn_int default m kt _ _ _ _ hd]at h2
   injection h2 with h2
   rw[<-h1,<-h2]
  ·cases h1
 ·injection h1 with h1
  simp[Op.equalIn,run_underlying hd]at h2
  rw[<-h1,<-h2]
 ·injection h1 with h1
  rw[run_equalIn_bool' default m kt _ _ hd]at h2
  injection h2 with h2
  rw[<-h1,<-h2]
 ·cases h1
theorem Qfl {d:TypeDesc}{kt:TypeId}{u:Value}{e0:MapEntry}{B:List MapEntry}(hd:P.underlying kt=some d)(h0:EqV P 10000 kt u e0.key true): ∀{A:List MapEntry} {i:Nat} {r:Option (Nat×Value)},(∀e∈A,EqV P 10000 kt u e.key false)->Instr.findNow d u (A++e0::B) i=some r->r=some (i+A.length,e0.val)
 | [],i,r,_,h=>by
  simp only[Yp]at h
  unfold Instr.findNow at h
  split at h
  ·injection h with h;simp[<-h]
  ·rename_i hs;cases o_aG hd hs h0
  ·cases h
 |x::A,i,r,hA,h=>by
  simp only[Xq]at h
  unfold Instr.findNow at h
  split at h
  ·rename_i hs;cases o_aG hd hs (hA x (Qg ..))
  ·have:=Qfl hd h0 (fun e he=>hA e (Qf _ he)) h
   rw[this];simp;omega
  ·cases h
theorem Qfp {d:TypeDesc}{kt:TypeId}{u:Value}(hd:P.underlying kt=some d): ∀{A:List MapEntry} {i:Nat} {r:Option (Nat×Value)},(∀e∈A,EqV P 10000 kt u e.key false)->Instr.findNow d u A i=some r->r=none
 | [],i,r,_,h=>by unfold Instr.findNow at h;injection h with h;exact h.symm
 |x::A,i,r,hA,h=>by
  unfold Instr.findNow at h
  split at h
  ·rename_i hs;cases o_aG hd hs (hA x (Qg ..))
  ·exact Qfp hd (fun e he=>hA e (Qf _ he)) h
  ·cases h
theorem findAsk_at {kt:TypeId}{u:Value}{e0:MapEntry}{B:List MapEntry}(h0:EqV P 10000 kt u e0.key true): ∀{A:List MapEntry} {i:Nat},(∀e∈A,EqV P 10000 kt u e.key false)->∀w,(Instr.findAsking kt u (A++e0::B) i).run P w=.ok (some (i+A.length,e0.val)) w
 | [],i,_,w=>by
  have:=h0 w
  simp[Instr.findAsking,Op.equal,Op.maxDepth,this]
 |x::A,i,hA,w=>by
  have h1:=hA x (Qg ..) w
  have:=findAsk_at (B:=B) h0 (A:=A) (i:=i+1) (fun e he=>hA e (Qf _ he)) w
  simp only[Xq]
  unfold Instr.findAsking
  simp only[Op.equal,Op.maxDepth,Sem.run_bind,h1,Result.andThen_ok,Wo,Wu,this]
  simp[Xb,Ye 1]
theorem findAsk_no {kt:TypeId}{u:Value}: ∀{A:List MapEntry} {i:Nat},(∀e∈A,EqV P 10000 kt u e.key false)->∀w,(Instr.findAsking kt u A i).run P w=.ok none w
 | [],i,_,w=>by simp[Instr.findAsking]
 |x::A,i,hA,w=>by
  have h1:=hA x (Qg ..) w
  have:=findAsk_no (A:=A) (i:=i+1) (fun e he=>hA e (Qf _ he)) w
  unfold Instr.findAsking
  simp only[Op.equal,Op.maxDepth,Sem.run_bind,h1,Result.andThen_ok,Wo,Wu,this]
theorem find_at {kt:TypeId}{d:TypeDesc}{u:Value}{e0:MapEntry}{A B:List MapEntry}(hd:P.underlying kt=some d)(h0:EqV P 10000 kt u e0.key true)(hA: ∀e∈A,EqV P 10000 kt u e.key false)(w:World):
  (Instr.findKey kt u (A++e0::B)).run P w=.ok (some (A.length,e0.val)) w:=by
 unfold Instr.findKey
 simp only[Sem.run_bind,run_underlying hd,Result.andThen_ok]
 cases hn:Instr.findNow d u (A++e0::B) 0 with
 |some r=>rw[Qfl hd h0 hA hn];simp
 |none=>have:=findAsk_at (B:=B) h0 (i:=0) hA w;simpa using this
theorem Qhx {kt:TypeId}{d:TypeDesc}{u:Value}{A:List MapEntry}(hd:P.underlying kt=some d)(hA: ∀e∈A,EqV P 10000 kt u e.key false)(w:World):(Instr.findKey kt u A).run P w=.ok none w:=by
 unfold Instr.findKey
 simp only[Sem.run_bind,run_underlying hd,Result.andThen_ok]
 cases hn:Instr.findNow d u A 0 with
 |some r=>rw[Qfp hd hA hn];simp
 |none=>exact findAsk_no hA w
theorem Qek {kt:TypeId}{k:V}: ∀{es:List (V×V)} {i:Nat},look C kt k es i=some none->∀y∈es,eqV C 20 kt k y.1=some false
 | [],_,_=>fun _ h=>by cases h
 |(x,z)::r,i,h=>by
  unfold look at h
  split at h
  ·split at h<;>cases h
  ·rename_i he
   have:=Qek h
   exact fun y hy=>by rcases Qk.1 hy with rfl|hy;exact he;exact this y hy
  ·cases h
theorem Qgt {kt:TypeId}{k x v:V}{p:Nat}: ∀{es:List (V×V)} {i:Nat},look C kt k es i=some (some (p,x,v))->∃a b,es=a++(x,v)::b/\p=i+a.length/\eqV C 20 kt k x=some true/\(∀y∈a,eqV C 20 kt k y.1=some false)/\∀y∈b,eqV C 20 kt k y.1=some false
 | [],_,h=>by cases h
 |(y,z)::r,i,h=>by
  unfold look at h
  split at h
  ·rename_i he
   split at h
   ·rename_i hl
    simp only[Qc,Qr]at h
    obtain⟨rfl,rfl,rfl⟩:=h
    exact⟨[],r,rfl,rfl,he,fun _ h=>(by cases h),Qek hl⟩
   ·cases h
  ·rename_i he
   obtain⟨a,b,h1,h2,h3,h4,h5⟩:=Qgt h
   subst h1
   exact⟨(y,z)::a,b,rfl,by simp;omega,h3,fun q hq=>by rcases Qk.1 hq with rfl|hq;exact he;exact h4 q hq,h5⟩
  ·cases h
end
section
variable {P:Program}{C:Cx}{w0:World}{ρ:Rho}{h:T O}{nx:Nat}{w:World}{e:Env}{n:Nat}{a:Act}
theorem cvp_mem: ∀{x:List (V×V)} {l:List (Value×Value)},cvp ρ x=some l->∀p∈l,∃y∈x,cv ρ y.1=some p.1/\cv ρ y.2=some p.2
 | [],l,h,p,hp=>by rw[Qce h]at hp;cases hp
 |(k,v)::r,l,h,p,hp=>by
  obtain⟨a,b,m,rfl,h1,h2,h3⟩:=Qaw h
  rcases Qk.1 hp with rfl|hp
  ·exact⟨(k,v),Qg ..,h1,h2⟩
  ·obtain⟨y,hy,h4⟩:=cvp_mem h3 p hp;exact⟨y,Qf _ hy,h4⟩
theorem Qeh: ∀{x:List (V×V)} {k v:V} {y:List (V×V)} {l:List (Value×Value)},cvp ρ (x++(k,v)::y)=some l->∃l1 a b l2,l=l1++(a,b)::l2/\cvp ρ x=some l1/\cv ρ k=some a/\cv ρ v=some b/\cvp ρ y=some l2
 | [],k,v,y,l,h=>by obtain⟨a,b,m,rfl,h1,h2,h3⟩:=Qaw h;exact⟨[],a,b,m,rfl,by unfold cvp;rfl,h1,h2,h3⟩
 |(p,q)::x,k,v,y,l,h=>by
  obtain⟨a,b,m,rfl,h1,h2,h3⟩:=Qaw h
  obtain⟨l1,a',b',l2,rfl,h4,h5⟩:=Qeh h3
  exact⟨(a,b)::l1,a',b',l2,rfl,Qdf h1 h2 h4,h5⟩
structure At (P:Program) (kt:TypeId) (u:Value) (l A:List MapEntry) (e0:MapEntry) (B:List MapEntry):Prop where
 eq:l=A++e0::B
 yes:EqV P 10000 kt u e0.key true
 noA: ∀e∈A,EqV P 10000 kt u e.key false
 noB: ∀e∈B,EqV P 10000 kt u e.key false
theorem eqV10 (hC:OKC P C){kt:TypeId}{k x:V}{b:Bool}{u v:Value}(h:eqV C 20 kt k x=some b)(hu:cv ρ k=some u)(hv:cv ρ x=some v):EqV P 10000 kt u v b:=o_aR hC 20 9980 kt k x b u v h hu hv
theorem find_some (hC:OKC P C){kt:TypeId}{k x v:V}{p:Nat}{u:Value}{es:List (V×V)}{ks:List (Value×Value)}{l:List MapEntry}(hk:cv ρ k=some u)(hl:look C kt k es 0=some (some (p,x,v)))(hes:cvp ρ es=some ks)(hp:ks.Perm (l.map fun e=>(e.key,e.val))):
  ∃A e0 B a b ka kb,At P kt u l A e0 B/\es=a++(x,v)::b/\p=a.length/\ks=ka++(e0.key,e0.val)::kb/\cv ρ x=some e0.key/\cv ρ v=some e0.val/\cvp ρ a=some ka/\cvp ρ b=some kb/\
   (ka++kb).Perm ((A++B).map fun e=>(e.key,e.val)):=by
 obtain⟨a,b,rfl,hpl,h1,h2,h3⟩:=Qgt hl
 obtain⟨ka,kx,kv,kb,rfl,h4,h5,h6,h7⟩:=Qeh hes
 have hm:(kx,kv)∈l.map fun e=>(e.key,e.val):=hp.mem_iff.1 (Qy _ (Qg ..))
 obtain⟨e0,he0,hee⟩:=Wx.1 hm
 simp only[Qr]at hee
 obtain⟨rfl,rfl⟩:=hee
 obtain⟨A,B,rfl⟩:=Jb he0
 have hp2:(ka++kb).Perm ((A++B).map fun e=>(e.key,e.val)):=by
  have:((e0.key,e0.val)::(ka++kb)).Perm ((e0.key,e0.val)::((A++B).map fun e=>(e.key,e.val))):=by
   refine(List.perm_middle.symm.trans hp).trans ?_
   simp only[W5,Qz]
   exact List.perm_middle
  exact this.cons_inv
 have hno: ∀e∈A++B,EqV P 10000 kt u e.key false:=fun e he=>by
  have:(e.key,e.val)∈ka++kb:=hp2.mem_iff.2 (Wx.2 ⟨e,he,rfl⟩)
  rcases Q0.1 this with h8|h8
  ·obtain⟨y,hy,h9,_⟩:=cvp_mem h4 _ h8;exact eqV10 hC (h2 y hy) hk h9
  ·obtain⟨y,hy,h9,_⟩:=cvp_mem h7 _ h8;exact eqV10 hC (h3 y hy) hk h9
 exact⟨A,e0,B,a,b,ka,kb,⟨rfl,eqV10 hC h1 hk h5,fun e he=>hno e (Wn _ he),fun e he=>hno e (Qy _ he)⟩,rfl,by omega,rfl,h5,h6,h4,h7,hp2⟩
theorem Qeg (hC:OKC P C){kt:TypeId}{k:V}{u:Value}{es:List (V×V)}{ks:List (Value×Value)}{l:List MapEntry}(hk:cv ρ k=some u)(hl:look C kt k es 0=some none)(hes:cvp ρ es=some ks)(hp:ks.Perm (l.map fun e=>(e.key,e.val))):
  ∀e∈l,EqV P 10000 kt u e.key false:=fun e he=>by
 have:(e.key,e.val)∈ks:=hp.mem_iff.2 (Wx.2 ⟨e,he,rfl⟩)
 obtain⟨y,hy,h9,_⟩:=cvp_mem hes _ this
 exact eqV10 hC (Qek hl y hy) hk h9
theorem run_getObj' {r:Nat}{o:Obj}(hr:w.heap[r]?=some o)(hn: ∀c t f,o≠ .cells c t f):(getObj r).run P w=.ok o w:=by
 cases o<;>first|(exact absurd rfl (hn _ _ _))|simp[getObj,Sem.run,hr]
theorem Qeq {i:Nat}{es:List (V×V)}{c:Nat}(hm:mapC h i=some (es,c)): ∃p,h.get i=some (.m es c p):=by
 unfold mapC at hm
 split at hm
 ·rename_i es' c' p hg;simp only[Qc,Qr]at hm;obtain⟨rfl,rfl⟩:=hm;exact⟨p,hg⟩
 ·cases hm
theorem mapAt_eq {i:Nat}{es:List (V×V)}(hm:mapAt h i=some es): ∃c p,h.get i=some (.m es c p):=by
 unfold mapAt at hm
 split at hm
 ·rename_i es' c hg;injection hm with hm;subst hm;obtain⟨p,hp⟩:=Qeq hg;exact⟨c,p,hp⟩
 ·cases hm
theorem o_bS (hr:HR P w0 ρ h nx w){m:V}{es:List (V×V)}{u:Value}(hu:cv ρ m=some u)(hm:mapOf h m=some es): ∃ks arr,cvp ρ es=some ks/\ks.Perm (arr.toList.map fun e=>(e.key,e.val))/\
  ((u=.map none/\arr=#[])\/∃b c,u=.map (some b)/\w.heap[b]?=some (.map arr c)):=by
 unfold mapOf at hm
 split at hm
 ·rename_i i hi
  rw[V.map?_eq hi]at hu
  obtain⟨x,hx,rfl⟩:=cv_m hu
  obtain⟨c,p,hg⟩:=mapAt_eq hm
  obtain⟨_,x',hx',_,_,ks,arr,h1,h2,h3,_⟩:=hr.live i _ hg
  rw[hx]at hx'
  injection hx' with hx'
  subst hx'
  exact⟨ks,arr,h1,h3,.inr ⟨x.b,c,rfl,h2⟩⟩
 ·obtain⟨hn,hm⟩:=Qaa hm
  injection hm with hm;subst hm
  rw[Qhg hn]at hu
  exact⟨[],#[],by unfold cvp;rfl,by simp,.inl ⟨cv_k hu,rfl⟩⟩
theorem o_cu {ok b:Bool}{v:V}{z:Value}(hz:cv ρ v=some z):cv ρ (okV ok v b)=some (if ok=true then .tuple #[z,.bool b]else z):=by
 unfold okV
 cases ok with
 |true=>exact cv_t_mk (Qad hz (Qad (Qba b) (by unfold cvl;rfl)))
 |false=>exact hz
theorem o_cG (hC:OKC P C)(hr:HR P w0 ρ h nx w)(hf:Fe ρ e n a){t:TypeId}{m k:Operand}{ok:Bool}{v:V}(hl:rLook C e h t m k ok=some v):Pk P ρ a w (.lookup t m k ok) v:=by
 unfold rLook at hl
 split at hl
 ·rename_i mv hmv
  split at hl
  ·rename_i kv hkv
   split at hl
   ·rename_i es hes
    obtain⟨um,h1,h2⟩:=o_a hf hmv
    obtain⟨uk,h3,h4⟩:=o_a hf hkv
    obtain⟨ks,arr,hks,hp,hcase⟩:=o_bS hr h1 hes
    unfold lkV at hl
    split at hl
    ·rename_i kt J hJ
     obtain⟨vt,hu,hT⟩:=o_af hC hJ
     have hkey: ∀r,Qdm C kt kv es=some r->look C kt kv es 0=some r/\∀em w,(Instr.checkKey em 10000 kt uk).run P w=.ok () w:=fun r hr=>by
      unfold Qdm at hr
      obtain⟨hb,hr⟩:=Qaa hr
      unfold keyB at hb
      rw[Qe]at hb
      exact⟨hr,fun em w=>o_aZ hC em 20 9980 kt kv uk hb.1 hb.2 h3⟩
     have hut: ∃d,P.underlying kt=some d:=by
      have:=hkey
      cases hlb:Qdm C kt kv es with
      |none=>rw[hlb]at hl;cases hl
      |some r=>
       unfold Qdm at hlb
       obtain⟨hb,_⟩:=Qaa hlb
       unfold keyB keyT at hb
       rw[Qe]at hb
       cases hI:C.ty.get kt with
       |none=>rw[hI]at hb;cases hb.1
       |some I=>exact⟨_,(hC.ty kt I hI).u⟩
     obtain⟨d,hd⟩:=hut
     have run1: ∀(i:Nat) (z:Value),(Instr.findKey kt uk arr.toList).run P w=.ok (some (i,z)) w->(∀em w,(Instr.checkKey em 10000 kt uk).run P w=.ok () w)->Ex P a w (.lookup t m k ok) (if ok=true then .tuple #[z,.bool true]else z):=fun i z hfk hck _ _ _ _ _=>by
      rcases hcase with⟨rfl,rfl⟩|⟨bb,c,rfl,hb⟩
      ·simp only[execOp,h2,h4,Instr.lookup,Sem.run_bind,run_underlying hu,Result.andThen_ok,Sem.run_pure,hck,hfk]
       try (cases ok<;>rfl)
      ·have hg:=run_getObj' (P:=P) hb (fun _ _ _ h=>by cases h)
       simp only[execOp,h2,h4,Instr.lookup,Sem.run_bind,run_underlying hu,Result.andThen_ok,Sem.run_pure,hg,hck,hfk]
       try (cases ok<;>rfl)
     have run0: ∀(z:Value),(Instr.findKey kt uk arr.toList).run P w=.ok none w->(zeroValue vt).run P w=.ok z w->(∀em w,(Instr.checkKey em 10000 kt uk).run P w=.ok () w)->Ex P a w (.lookup t m k ok) (if ok=true then .tuple #[z,.bool false]else z):=fun z hfk hz hck _ _ _ _ _=>by
      rcases hcase with⟨rfl,rfl⟩|⟨bb,c,rfl,hb⟩
      ·simp only[execOp,h2,h4,Instr.lookup,Sem.run_bind,run_underlying hu,Result.andThen_ok,Sem.run_pure,hck,hfk,hz]
       try (cases ok<;>rfl)
      ·have hg:=run_getObj' (P:=P) hb (fun _ _ _ h=>by cases h)
       simp only[execOp,h2,h4,Instr.lookup,Sem.run_bind,run_underlying hu,Result.andThen_ok,Sem.run_pure,hg,hck,hfk,hz]
       try (cases ok<;>rfl)
     split at hl
     ·rename_i p0 x0 v0 hlk
      injection hl with hl;subst hl
      obtain⟨hlk,hck⟩:=hkey _ hlk
      obtain⟨A,e0,B,_,_,_,_,hat,_,_,_,_,hval,_⟩:=find_some hC h3 hlk hks hp
      exact⟨_,o_cu hval,run1 A.length _ (by rw[hat.eq];exact find_at hd hat.yes hat.noA w) hck⟩
     ·rename_i hlk
      injection hl with hl;subst hl
      obtain⟨hlk,hck⟩:=hkey _ hlk
      obtain⟨z,hz,_,hzv,_⟩:=o_aF (ρ:=ρ) hC hT
      exact⟨_,o_cu hzv,run0 _ (Qhx hd (Qeg hC h3 hlk hks hp) w) (hz w) hck⟩
     ·cases hl
    ·cases hl
   ·cases hl
  ·cases hl
 ·cases hl
theorem beq_val {u v:Value}(h:vB u v=true):u=v:=by
 unfold vB at h
 split at h
 ·rw[Qe]at h
  rw[Wf h.1,Wf h.2]
 ·rw[eq_of_beq h]
 ·rw[Wf h]
 all_goals first|rfl|cases h
theorem capB_eq {x y:Cap}(h:capB x y=true):x=y:=by
 unfold capB at h
 split at h
 ·rw[Ql h]
 ·rw[Qe]at h;rw[Ql h.1,Ql h.2]
 ·cases h
mutual
theorem Qdt: ∀(x y:V),beq x y=true->x=y
 |x,y,h=>by
  unfold beq at h
  split at h
  ·rw[beq_val h]
  ·rw[Qe]at h;rw[Ql h.1,Ql h.2]
  ·simp only[Qe]at h;obtain⟨⟨⟨h1,h2⟩,h3⟩,h4⟩:=h;rw[Ql h1,Ql h2,Ql h3,capB_eq h4]
  ·rw[Ql h]
  ·simp only[Qe]at h;obtain⟨⟨h1,h2⟩,h3⟩:=h;rw[Ql h1,Qew _ _ h2,Qew _ _ h3]
  ·rw[Ql h]
  ·rw[Ql h]
  ·rw[Ql h]
  ·rw[Qe]at h;rw[Ql h.1,Ql h.2]
  ·rw[Qew _ _ h]
  ·rw[Qew _ _ h]
  ·rw[Qe]at h;rw[Ql h.1,Qdt _ _ h.2]
  ·cases h
theorem Qew: ∀(x y:List V),beqs x y=true->x=y
 | [],[],_=>rfl
 |a::x,b::y,h=>by
  unfold beqs at h
  rw[Qe]at h
  rw[Qdt _ _ h.1,Qew _ _ h.2]
 | [],_::_,h=>by cases h
 |_::_,[],h=>by cases h
end
theorem o_dc (hr:HR P w0 ρ h nx w)(hf:Fe ρ e n a){x:Operand}{v:V}(hl:rEnt e h x=some v):Pk P ρ a w (.entry x) v:=by
 unfold rEnt at hl
 split at hl
 ·rename_i p hp
  split at hl
  ·rename_i i hi
   split at hl
   ·rename_i m c k hcur
    split at hl
    ·rename_i es c' hm
     obtain⟨hc,hl2⟩:=Qaa hl
     clear hl
     have hc:=Ql hc
     subst hc
     split at hl2
     ·rename_i k' v' hfind
      injection hl2 with hl2;subst hl2
      obtain⟨u,h1,h2⟩:=o_a hf hp
      rw[V.it?_eq hi]at h1
      obtain⟨x1,hx1,rfl⟩:=cv_q h1
      have hq: ∃al,h.get i=some (.q m c (.cur k al)):=by
       unfold curOf at hcur
       split at hcur
       ·rename_i a1 a2 a3 hg;simp only[Qc,Qr]at hcur;obtain⟨rfl,rfl,rfl⟩:=hcur;exact⟨_,hg⟩
       ·cases hcur
      obtain⟨al,hq⟩:=hq
      obtain⟨_,x1',hx1',_,_,y,since,seen,hy,hyb,hit,_,hcu⟩:=hr.live i _ hq
      rw[hx1]at hx1'
      injection hx1' with e1
      subst e1
      obtain⟨st,kv,hst,hkv,hmap⟩:=hcu k al rfl
      obtain⟨pp,hg⟩:=Qeq hm
      obtain⟨_,y',hy',_,_,ks,arr,hks,harr,hperm,hnod,_,_⟩:=hr.live m _ hg
      rw[hy]at hy'
      injection hy' with e1
      subst e1
      have hmem:=List.mem_of_find?_eq_some hfind
      have hbq:=List.find?_some hfind
      have hkk:k'=k:=Qdt _ _ hbq
      subst hkk
      obtain⟨s1,s2,rfl⟩:=Jb hmem
      obtain⟨l1,ak,av,l2,rfl,_,g1,g2,_⟩:=Qeh hks
      rw[hkv]at g1
      injection g1 with g1
      subst g1
      have hmm:(kv,av)∈arr.toList.map fun e=>(e.key,e.val):=hperm.mem_iff.1 (Qy _ (Qg ..))
      obtain⟨e0,he0,hee⟩:=Wx.1 hmm
      simp only[Qr]at hee
      obtain⟨rfl,rfl⟩:=hee
      have hborn:e0.born=st:=((hmap arr c harr).2 rfl).1 e0 he0 rfl
      have hfb:arr.find? (fun e=>e.born==st)=some e0:=by
       rw[<-Array.find?_toList]
       obtain⟨A,B,hAB⟩:=Jb he0
       rw[hAB]at hnod ⊢
       rw[List.find?_append]
       have hA:A.find? (fun e=>e.born==st)=none:=by
        rw[List.find?_eq_none]
        intro q hq hqb;rw[W5,Qz,Wz]at hnod
        have:=hnod.2.2 q.born (Wx.2 ⟨q,hq,rfl⟩) e0.born (Qg ..)
        rw[hborn]at this
        exact this (by simpa using hqb)
       rw[hA,List.find?_cons,hborn]
       simp
      refine⟨_,cv_t_mk (Qad hkv (Qad g2 (by unfold cvl;rfl))),fun _ _ _ _ _=>?_⟩
      have r1:=run_getObj' (P:=P) hit (fun _ _ _ h=>by cases h)
      have r2:=run_getObj' (P:=P) harr (fun _ _ _ h=>by cases h)
      simp only[execOp,h2,Instr.entry,Sem.run_bind,r1,Result.andThen_ok,hst,r2,bne_self_eq_false,Wo,Wu,hfb,Sem.run_pure]
     ·cases hl2
    ·cases hl
   ·cases hl
  ·cases hl
 ·cases hl
end
section
variable {P:Program}{C:Cx}{w0:World}{ρ:Rho}{h:T O}{nx:Nat}{w:World}{e:Env}{n:Nat}{a:Act}
theorem run_bytes {ad:Addr}{c:Nat}{bs:List UInt8}(hc: ∀j b,bs[j]?=some b->w.cell? (ad.add j)=some (.int .u8 (b.toNat:Int))):(Conv.bytesToString (.slice (some ad) bs.length c)).run P w=.ok (.string ⟨bs.toArray⟩) w:=by
 have hload:(loadCells ad bs.length).run P w=.ok (bs.map fun b=>Value.int .u8 (b.toNat:Int)).toArray w:=by
  have:=run_loadCells_list (P:=P) w ad (bs.map fun b=>Value.int .u8 (b.toNat:Int)) (fun j v hj=>by
   rw[Qs]at hj
   cases hb:bs[j]? with
   |none=>rw[hb]at hj;cases hj
   |some b=>rw[hb]at hj;injection hj with hj;subst hj;exact hc j b hb)
  rw[Wb]at this
  exact this
 have hloop: ∀(l:List UInt8) (acc:ByteArray),(forIn (m:=Sem) (l.map fun b=>Value.int .u8 (b.toNat:Int)) acc fun c r=>(match c with
   | .int .u8 m=>(pure (ForInStep.yield (r.push (UInt8.ofNat m.toNat))):Sem (ForInStep ByteArray))
   |_=>stuck "bytesToString: byte expected")).run P w=.ok ⟨acc.data++l.toArray⟩ w:=by
  intro l
  induction l with
  |nil=>intro acc;simp
  |cons b r ih=>
   intro acc
   simp only[Qz,List.forIn_cons,Sem.run_bind,Sem.run_pure,Result.andThen_ok]
   rw[ih]
   simp only[ByteArray.push,Xm,UInt8.ofNat_toNat]
   congr 2
   apply Yc.1
   simp
 simp only[Conv.bytesToString,Sem.run_bind,hload,Result.andThen_ok]
 rw[<-Array.forIn_toList]
 have:=hloop bs ByteArray.empty
 erw [this]
 simp[ByteArray.empty,ByteArray.emptyWithCapacity]
 rfl
theorem o_bD: ∀{l:List V} {bs:List UInt8} {vs:List Value},bytesV l=some bs->cvc ρ l=some vs->bs.length=l.length/\∀(j:Nat) (b:UInt8),bs[j]?=some b->vs[j]?=some (Value.int .u8 (b.toNat:Int))
 | [],bs,vs,h,_=>by injection h with h;subst h;exact⟨rfl,fun j b hb=>by cases hb⟩
 |x::r,bs,vs,h,hv=>by
  obtain⟨v,us,rfl,_,h1,h2⟩:=Qap hv
  unfold bytesV at h
  split at h
  ·rename_i b hb
   split at h
   ·rename_i l hl
    injection h with h;subst h
    obtain⟨g1,g2⟩:=o_bD hl h2
    refine⟨by simp[g1],fun j c hc=>?_⟩
    cases j with
    |zero=>
     injection hc with hc;subst hc
     unfold byteV at hb
     split at hb
     ·rename_i m hm
      obtain⟨hlt,hb2⟩:=Qaa hb
      injection hb2 with hb2
      have hlt:m<256:=Qi hlt
      rw[V.int?_eq hm]at h1
      rw[cv_k h1,<-hb2]
      simp[UInt8.toNat_ofNat',Nat.mod_eq_of_lt hlt]
     ·cases hb
    |succ j=>exact g2 j c (by simpa using hc)
   ·cases h
  ·cases h
theorem o_dw (hC:OKC P C){t:TypeId}(h:u8T C t=true): ∃el,P.underlying t=some (.slice el)/\P.underlying el=some (.int .u8):=by
 unfold u8T at h
 split at h
 ·rename_i el he
  split at h
  ·rename_i hk;exact⟨el,o_aa hC he,o_ca hC hk⟩
  ·cases h
 ·cases h
theorem HR.cells (hr:HR P w0 ρ h nx w){i o len:Nat}{c:Cap}{T:TypeId}{xs:List V}{u:Value}(hu:cv ρ (.s i o len c)=some u)(hrow:Qfa h i=some (T,xs)): ∃x vs arr,ρ i=some x/\u=.slice (some ⟨x.b,x.o+o,none⟩) len (capN x c)/\slOk x o len c=true/\cvc ρ xs=some vs/\
  w.heap[x.b]?=some (.cells arr T (0,0))/\szB P T=some x.s/\x.o+x.c*x.s=arr.size/\(∀k v,vs[k]?=some v->arr[x.o+k]?=some v)/\x.b<w.heap.size/\(∀k v,vs[o+k]?=some v->w.cell? (Addr.add ⟨x.b,x.o+o,none⟩ k)=some v):=by
 obtain⟨x,vs,arr,hx,hvs,hb,hget,hsz,hcap,_,_,hlt⟩:=hr.row (rowAt_eq hrow)
 obtain⟨x',hx',hok,rfl⟩:=cv_s hu
 rw[hx]at hx'
 injection hx' with hx'
 subst hx'
 refine⟨x,vs,arr,hx,rfl,hok,hvs,hb,hsz,hcap,hget,hlt,fun k v hk=>?_⟩
 rw[Addr.add_lit,cellOf hb,Xb]
 exact hget _ _ hk
theorem o_cH (hC:OKC P C)(hr:HR P w0 ρ h nx w)(hf:Fe ρ e n a){s d:TypeId}{x:Operand}{v:V}(hl:rConv C e h s d x=some v):Pk P ρ a w (.convert s d x) v:=by
 unfold rConv at hl
 obtain⟨hb,h1⟩:=Qaa hl
 clear hl
 rw[Qe]at hb
 obtain⟨el,hs,hel⟩:=o_dw hC hb.1
 have hd:=o_y hC hb.2
 split at h1
 ·rename_i p hp
  split at h1
  ·rename_i l hbs
   injection h1 with h1;subst h1
   obtain⟨u,h2,h3⟩:=o_a hf hp
   have key:(Conv.bytesToString u).run P w=.ok (.string ⟨l.toArray⟩) w:=by
    unfold bytesOf at hbs
    split at hbs
    ·rename_i i o len c hsl
     split at hbs
     ·rename_i T xs hrow
      obtain⟨hlen,hbs2⟩:=Qaa hbs
      clear hbs
      rw[V.sl?_eq hsl]at h2
      obtain⟨x1,vs,arr,hx1,rfl,_,hvs,_,_,_,_,_,hcell⟩:=hr.cells h2 hrow
      have hl2:=Ql hlen
      obtain⟨g1,g2⟩:=o_bD hbs2 (Qbc len (Qbb o hvs))
      rw[hl2]at g1
      have:=run_bytes (P:=P) (w:=w) (ad:=⟨x1.b,x1.o+o,none⟩) (c:=capN x1 c) (bs:=l) (fun j b hj=>hcell j _ (by
       have h9:=g2 j b hj
       rw[Wq]at h9
       split at h9
       ·rw[Q8]at h9;exact h9
       ·cases h9))
      rw[g1]at this
      exact this
     ·cases hbs
    ·obtain⟨hn,hbs2⟩:=Qaa hbs
     injection hbs2 with hbs2;subst hbs2
     rw[V.nilS_eq hn]at h2
     rw[cv_k h2]
     simp[Conv.bytesToString];rfl
   refine⟨_,cv_str _,fun _ _ _ _ _=>?_⟩
   subst h3
   cases hu:a.eval x with
   |slice A len c=>rw[hu]at key;simp[execOp,hu,convert,run_underlying hs,run_underlying hd,run_underlying hel,key]
   |_=>rw[hu]at key;simp[Conv.bytesToString,stuck]at key
  ·cases h1
 ·cases h1
theorem o_cI (hC:OKC P C)(hr:HR P w0 ρ h nx w)(hf:Fe ρ e n a){c:Call}{v:V}(hl:rCall C e h c=some v):Pk P ρ a w (.call c) v:=by
 unfold rCall at hl
 split at hl
 ·rename_i hcal
  obtain⟨cal,xs,ts⟩:=c
  subst hcal
  obtain⟨x,hx,h1⟩:=o_bq hl
  obtain⟨t,tr,ht,h2⟩:=o_ct h1
  obtain⟨us,h3,h4⟩:=o_aq hf hx
  obtain⟨u,rfl,h5⟩:=cvl1 h3
  have hts:ts[0]?=some t:=by rw[<-Wh,ht];rfl
  unfold lenM at h2
  obtain⟨hm,h6⟩:=Qaa h2
  obtain⟨⟨kt,J⟩,hJ⟩:=Xg.1 hm
  obtain⟨vt,hu,_⟩:=o_af hC hJ
  split at h6
  ·rename_i es hes
   injection h6 with h6;subst h6
   obtain⟨ks,arr,hks,hp,hcase⟩:=o_bS hr h5 hes
   have hlen:es.length=arr.size:=by rw[<-Qer hks,hp.length_eq];simp
   refine⟨_,cv_nt _,fun _ T _ _ _=>?_⟩
   have key:(Builtin.len_ ts T #[u]).run P w=.ok (.int .i64 (es.length:Int)) w:=by
    rcases hcase with⟨rfl,rfl⟩|⟨b,cl,rfl,hb⟩
    ·simp[Builtin.len_,hts,run_underlying hu,goInt,hlen]
    ·have hg:=run_getObj' (P:=P) hb (fun _ _ _ h=>by cases h)
     simp[Builtin.len_,hts,run_underlying hu,goInt,hg,hlen]
   simp only[execOp,resolve,h4,Sem.run_bind,Sem.run_pure,Result.andThen_ok,invoke,builtin,key]
  ·cases h6
 ·cases hl
theorem o_bT (hC:OKC P C)(hr:HR P w0 ρ h nx w)(hf:Fe ρ e n a){o:Op}{v:V}(hl:read1 C e h o=some v):Pk P ρ a w o v:=by
 unfold read1 at hl
 split at hl
 ·exact o_cF hC hr hf hl
 ·exact o_cG hC hr hf hl
 ·exact o_dc hr hf hl
 ·exact o_cH hC hr hf hl
 ·exact o_cI hC hr hf hl
 ·cases hl
theorem o_bU (hC:OKC P C)(hr:HR P w0 ρ h nx w)(hf:Fe ρ e n a){o:Op}{k:Nat}{v:V}(hl:look1 C e h o k=some v):Pk P ρ a w o v:=by
 unfold look1 at hl
 split at hl
 ·exact o_bQ hC hf hl
 ·exact o_bT hC hr hf hl
 ·unfold orV at hl
  split at hl
  ·rename_i u hu;injection hl with hl;subst hl;exact o_bQ hC hf hu
  ·exact o_bT hC hr hf hl
end
def Mk (P:Program)(ρ:Rho)(nx:Nat)(a:Act)(w:World)(o:Op)(v:V)(ob:O):Prop:=∃(obj:Obj) (x:Pl) (u:Value),x.b=w.heap.size/\OR P (ρ.add nx x) (w.alloc obj) x ob/\cv (ρ.add nx x) v=some u/\
 ∀(dst:Option Tmp) (T:TypeId) (pos:String) (af:Array Edge) (gd:Option (Nat×Bool)),(execOp a.eval ⟨dst,o,T,pos,af,gd⟩).run P w=.ok (.value u) (w.alloc obj)
section
variable {P:Program}{C:Cx}{w0:World}{ρ:Rho}{h:T O}{nx:Nat}{w:World}{e:Env}{n:Nat}{a:Act}
theorem newCells (hq:ρ nx=none){t:TypeId}{J:Ti}(hC:OKC P C)(hJ:C.ty.get t=some J){xs:List V}{vs:List Value}(hvs:cvc ρ xs=some vs)(c:Nat)(hc:c*J.n=vs.length):
  OR P (ρ.add nx ⟨w.heap.size,0,c,J.n⟩) (w.alloc (.cells vs.toArray t)) ⟨w.heap.size,0,c,J.n⟩ (.c t xs):=
 ⟨vs,vs.toArray,Qbj (Rho.le_add hq) _ _ hvs,World.alloc_heap_new w _,fun k v hk=>by simpa using hk,(hC.ty t J hJ).sz,by simpa using hc⟩
theorem o_dx (hC:OKC P C)(hq:ρ nx=none){t:TypeId}{v:V}{ob:O}(hl:aAl C nx t=some (v,ob)):Mk P ρ nx a w (.alloc t) v ob:=by
 unfold aAl at hl
 split at hl
 ·rename_i I hI
  simp only[Qc,Qr]at hl
  obtain⟨rfl,rfl⟩:=hl
  obtain⟨z,hz,hzc,_,hzn⟩:=o_aF (ρ:=ρ) hC hI
  refine⟨.cells z.cells t,⟨w.heap.size,0,1,I.n⟩,_,rfl,by have:=newCells (w:=w) hq hC hI hzc 1 (by simp[hzn]);simpa using this,Qfy (Rho.add_same _ _ _),fun _ _ _ _ _=>?_⟩
  simp[execOp,Instr.alloc,hz w,newVar,newRow]
 ·cases hl
theorem o_dd (hC:OKC P C)(hq:ρ nx=none)(hf:Fe ρ e n a){t:TypeId}{x:Operand}{v:V}{ob:O}(hl:aBox C e nx t x=some (v,ob)):Mk P ρ nx a w (.box t x) v ob:=by
 unfold aBox at hl
 split at hl
 ·rename_i p hp
  split at hl
  ·rename_i J hJ
   obtain⟨hb,h1⟩:=Qaa hl
   rw[Qe,Xt]at hb
   simp only[Qc,Qr]at h1
   obtain⟨rfl,rfl⟩:=h1
   obtain⟨u,h2,h3⟩:=o_a hf hp
   obtain⟨vs,h4,h5⟩:=Qgi hb.1 h2
   have hn:=Ql hb.2
   refine⟨.cells vs.toArray t,⟨w.heap.size,0,1,J.n⟩,_,rfl,newCells (w:=w) hq hC hJ h4 1 (by rw[Qal h4];omega),Qfy (Rho.add_same _ _ _),fun _ _ _ _ _=>?_⟩
   simp[execOp,h3,Instr.box,newVar,newRow,h5]
  ·cases hl
 ·cases hl
theorem rep_ok: ∀{z:List V} {zv:List Value} (m:Nat),cvc ρ z=some zv->cvc ρ (rep z m)=some ((List.range (m*zv.length)).map fun i=>zv[i%zv.length]!)
 |z,zv,0,h=>by simp[rep];unfold cvc;rfl
 |z,zv,m+1,h=>by
  unfold rep
  have:=Qbr h (rep_ok m h)
  rw[this]
  congr 1
  rw[Jt,Ye,List.range_add,W5,Y1]
  congr 1
  ·apply List.ext_getElem
   ·simp
   ·intro i h1 h2;simp only[Wb,List.length_range]at h2
    simp[Nat.mod_eq_of_lt h2,h2]
  ·apply Y8
   intro i hi;simp
theorem Qhb {pl:Nat->Option (Nat×Nat)}: ∀{vs:List (Nat×V)} {zs cs:List V},Qie pl zs vs=some cs->cs.length=zs.length
 | [],zs,cs,h=>by injection h with h;rw[h]
 |(i,v)::r,zs,cs,h=>by
  unfold Qie at h
  split at h
  ·cases h
  ·obtain⟨hb,h1⟩:=Qaa h
   rw[Qe,Qe]at hb
   have h2:=Ql hb.1.1
   have h3:=Qi hb.1.2
   rw[Qhb h1]
   simp only[Wg,Qw,Wy]
   omega
theorem o_dy (hC:OKC P C)(hq:ρ nx=none)(hf:Fe ρ e n a){t:TypeId}{len:Nat}{ps:Array (Nat×Operand)}{v:V}{ob:O}(hl:aBs C e nx t len ps.toList=some (v,ob)):Mk P ρ nx a w (.buildSlice t len ps) v ob:=by
 unfold aBs at hl
 split at hl
 ·rename_i el hel
  split at hl
  ·rename_i J hJ
   split at hl
   ·rename_i vs hvs
    unfold bsV at hl
    obtain⟨hb,h1⟩:=Qaa hl
    rw[Qe]at hb
    have hb1:=Qi hb.1
    have hb2:=Qi hb.2
    split at h1
    ·rename_i cs hcs
     simp only[Qc,Qr]at h1
     obtain⟨rfl,rfl⟩:=h1
     obtain⟨us,g1,g2,g3⟩:=o_a4 hf hvs
     obtain⟨z,hz,hzc,_,hzn⟩:=o_aF (ρ:=ρ) hC hJ
     have hrep:=rep_ok len hzc
     have hzl:z.cells.toList.length=J.n:=by simpa using hzn
     rw[hzl]at hrep
     obtain⟨cv',g4,g5⟩:=o_aE hcs hrep g1 g2
     have hul:=o_aa hC hel
     have hlen:cv'.length=len*J.n:=by
      rw[Qal g4,Qhb hcs,<-Qal hrep]
      simp
     refine⟨.cells cv'.toArray el,⟨w.heap.size,0,len,J.n⟩,_,rfl,newCells (w:=w) hq hC hJ g4 len (by omega),Qbh (Rho.add_same _ _ _) (Wc (Qo _)),fun _ _ _ _ _=>?_⟩
     have hnot: ¬(2^24<len*J.n):=by omega
     simp only[Q4]at g3
     simp only[execOp,g3,Instr.buildSlice,Sem.run_bind,run_underlying hul,Result.andThen_ok,o_r hC hJ,gt_iff_lt,hnot,Wu]
     by_cases h0:len*J.n=0
     ·have hl0:len=0:=by
       rcases Nat.mul_eq_zero.1 h0 with h0|h0
       ·exact h0
       ·omega
      subst hl0
      simp only[Y0,X6,Sem.run_pure,Result.andThen_ok]
      have g5':Instr.fill (fun i=>some (i*J.n,J.n)) #[] us=some cv'.toArray:=by simpa using g5
      have e0:(Array.range 0).map (fun _=>(default:Value))=#[]:=by apply Yc.1;simp
      simp[e0,g5',newRow,capN]
     ·simp only[h0,Wu,Sem.run_bind,hz w,Result.andThen_ok,Sem.run_pure]
      have e1:(Array.range (len*J.n)).map (fun x=>z.cells[x%z.cells.size]!)=((List.range (len*J.n)).map fun i=>z.cells.toList[i%J.n]!).toArray:=by
       apply Yc.1
       simp only[Array.toList_map,Array.toList_range]
       apply Y8
       intro i _;rw[hzn]
       simp[getElem!_def]
      rw[e1,g5]
      simp[newRow,capN]
    ·cases h1
   ·cases hl
  ·cases hl
 ·cases hl
theorem o_dz (hC:OKC P C){nm:Nat}(hr:HR P w0 ρ h nm w)(hq:ρ nx=none)(hf:Fe ρ e n a){t:TypeId}{x:Operand}{v:V}{ob:O}(hl:aRg C e h nx t x=some (v,ob)):Mk P ρ nx a w (.range t x) v ob:=by
 unfold aRg at hl
 split at hl
 ·rename_i p hp
  obtain⟨u,h2,h3⟩:=o_a hf hp
  unfold rgV at hl
  split at hl
  ·rename_i m hm
   obtain⟨hb,h1⟩:=Qaa hl
   obtain⟨⟨kt,J⟩,hJ⟩:=Xg.1 hb
   obtain⟨vt,hu,_⟩:=o_af hC hJ
   split at h1
   ·rename_i es c hmc
    simp only[Qc,Qr]at h1
    obtain⟨rfl,rfl⟩:=h1
    obtain⟨pp,hg⟩:=Qeq hmc
    rw[V.map?_eq hm]at h2
    obtain⟨y,hy,rfl⟩:=cv_m h2
    obtain⟨hmn,y',hy',_,hlt,ks,arr,_,harr,_⟩:=hr.live m _ hg
    rw[hy]at hy'
    injection hy' with e1
    subst e1
    have hle:=Rho.le_add (ρ:=ρ) (x:=⟨w.heap.size,0,0,0⟩) hq
    refine⟨.mapIter (some y.b) c #[] c,⟨w.heap.size,0,0,0⟩,.pointer (some ⟨w.heap.size,0,none⟩),rfl,⟨y,c,#[],hle _ _ hy,by simp;omega,World.alloc_heap_new w _,fun _=>⟨rfl,rfl⟩,fun k al hk=>by cases hk⟩,by unfold cv;rw[Rho.add_same],fun _ _ _ _ _=>?_⟩
    have r1:=run_getObj' (P:=P) harr (fun _ _ _ h=>by cases h)
    simp[execOp,h3,Instr.range,run_underlying hu,r1]
   ·cases h1
  ·split at hl
   ·rename_i s hs
    obtain⟨hb,h1⟩:=Qaa hl
    simp only[Qc,Qr]at h1
    obtain⟨rfl,rfl⟩:=h1
    rw[V.str?_eq hs]at h2
    rw[cv_k h2]at h3
    refine⟨.stringIter s 0,⟨w.heap.size,0,0,0⟩,.pointer (some ⟨w.heap.size,0,none⟩),rfl,World.alloc_heap_new w _,by unfold cv;rw[Rho.add_same],fun _ _ _ _ _=>?_⟩
    simp[execOp,h3,Instr.range,run_underlying (o_y hC hb)]
   ·obtain⟨hb,h1⟩:=Qaa hl
    rw[Qe]at hb
    simp only[Qc,Qr]at h1
    obtain⟨rfl,rfl⟩:=h1
    obtain⟨⟨kt,J⟩,hJ⟩:=Xg.1 hb.2
    obtain⟨vt,hu,_⟩:=o_af hC hJ
    rw[Qhg hb.1]at h2
    rw[cv_k h2]at h3
    refine⟨.mapIter none 0 #[] 0,⟨w.heap.size,0,0,0⟩,.pointer (some ⟨w.heap.size,0,none⟩),rfl,⟨_,_,_,World.alloc_heap_new w _⟩,by unfold cv;rw[Rho.add_same],fun _ _ _ _ _=>?_⟩
    simp[execOp,h3,Instr.range,run_underlying hu]
 ·cases hl
theorem o_bE (hC:OKC P C){nm:Nat}(hr:HR P w0 ρ h nm w)(hq:ρ nx=none)(hf:Fe ρ e n a){o:Op}{v:V}{ob:O}(hl:Qbw C e h nx o=some (v,ob)):Mk P ρ nx a w o v ob:=by
 unfold Qbw at hl
 split at hl
 ·exact o_dx hC hq hl
 ·exact o_dd hC hq hf hl
 ·exact o_dy hC hq hf hl
 ·rename_i t r
  obtain⟨hb,h1⟩:=Qaa hl
  simp only[Qc,Qr]at h1
  obtain⟨rfl,rfl⟩:=h1
  have hr0:r=none:=by cases r<;>first|rfl|cases hb
  subst hr0
  refine⟨.map #[] 0,⟨w.heap.size,0,0,0⟩,.map (some w.heap.size),rfl,⟨[],#[],by unfold cvp;rfl,World.alloc_heap_new w _,by simp,by simp,by simp,fun j k hk=>by cases hk⟩,by unfold cv;rw[Rho.add_same],fun _ _ _ _ _=>?_⟩
  simp[execOp,Instr.makeMap]
 ·exact o_dz hC hr hq hf hl
 ·cases hl
end
def Do (P:Program)(w0:World)(ρ:Rho)(s:S)(a:Act)(w:World)(o:Op)(v:V)(s':S):Prop:=∃(ρ':Rho) (w':World) (u:Value) (nxt:Next),s'=s.sethn s'.h s'.nx/\HR P w0 ρ' s'.h s'.nx w'/\Tr ρ s.h s.nx w ρ' s'.h s'.nx w' s.fl/\cv ρ' v=some u/\
 (nxt=.value u\/nxt=.skip/\u=undef)/\∀(dst:Option Tmp) (T:TypeId) (pos:String) (af:Array Edge) (gd:Option (Nat×Bool)),(execOp a.eval ⟨dst,o,T,pos,af,gd⟩).run P w=.ok nxt w'
theorem Qfc {ρ:Rho}:cv ρ un=some undef:=by unfold un;exact cv_t_mk (by unfold cvl;rfl)
theorem get_put {α:Type}{L us:List α}{p:Nat}(hp:p+us.length<=L.length)(j:Nat):(L.take p++us++L.drop (p+us.length))[j]?=if j<p then L[j]? else if j<p+us.length then us[j-p]? else L[j]?:=by
 rw[Ys,List.getElem?_append]
 simp only[Qw,Xy (show p<=L.length by omega)]
 split
 ·rename_i h1;rw[Wq,Qj h1]
 ·rename_i h1
  rw[List.getElem?_append]
  split
  ·rename_i h2;rw[Qj (by omega)]
  ·rename_i h2
   rw[Qd (by omega),Q8]
   congr 1
   omega
section
variable {P:Program}{C:Cx}{w0:World}{ρ:Rho}{h:T O}{nx fl:Nat}{w:World}{e:Env}{n:Nat}{a:Act}{s s':S}
theorem row_in {vs:List Value}{arr:Array Value}{o0 k:Nat}(hget: ∀k v,vs[k]?=some v->arr[o0+k]?=some v)(h0:o0<=arr.size)(hk:k<=vs.length):o0+k<=arr.size:=by
 cases k with
 |zero=>simpa using h0
 |succ k=>
  have:=hget k _ (Qh (by omega))
  have:=(Qp.1 this).1
  omega
theorem o_cv {xs ys zs:List V}{o:Nat}(hs:Qdj xs o ys=some zs):o+ys.length<=xs.length/\zs=xs.take o++ys++xs.drop (o+ys.length):=by
 unfold Qdj at hs
 obtain⟨hb,h1⟩:=Qaa hs
 injection h1 with h1
 exact⟨Qi hb,h1.symm⟩
theorem HR.write (hr:HR P w0 ρ h nx w){i:Nat}{T:TypeId}{xs ys zs:List V}{us:List Value}{o:Nat}(hi:h.get i=some (.c T xs))(hfl:fl<=i)(hs:Qdj xs o ys=some zs)(hus:cvc ρ ys=some us):
  ∃x arr w',ρ i=some x/\w.heap[x.b]?=some (.cells arr T (0,0))/\x.o+o+us.length<=arr.size/\w'=w.setRow x.b (arr.toList.take (x.o+o)++us++arr.toList.drop (x.o+o+us.length)).toArray/\
   HR P w0 ρ (h.set i (.c T zs)) nx w'/\Tr ρ h nx w ρ (h.set i (.c T zs)) nx w' fl:=by
 obtain⟨x,vs,arr,hx,hvs,hb,hget,hsz,hcap,_,_,hlt⟩:=hr.row hi
 obtain⟨h1,rfl⟩:=o_cv hs
 have hul:=Qal hus
 have hvl:=Qal hvs
 have hin:x.o+(o+us.length)<=arr.size:=row_in hget (by omega) (by omega)
 have hset:(w.setRow x.b (arr.toList.take (x.o+o)++us++arr.toList.drop (x.o+o+us.length)).toArray).heap[x.b]?=some (.cells (arr.toList.take (x.o+o)++us++arr.toList.drop (x.o+o+us.length)).toArray T (0,0)):=setRow_heap w x.b arr _ T (0,0) hb
 have hoth: ∀k,k≠x.b->(w.setRow x.b (arr.toList.take (x.o+o)++us++arr.toList.drop (x.o+o+us.length)).toArray).heap[k]?=w.heap[k]?:=fun k hk=>setRow_other w x.b k _ hk
 have hss:(w.setRow x.b (arr.toList.take (x.o+o)++us++arr.toList.drop (x.o+o+us.length)).toArray).heap.size=w.heap.size:=by simp[World.setRow]
 refine⟨x,arr,_,hx,hb,by omega,rfl,hr.upd hi hx hss hoth rfl rfl rfl (fun arr' c' ha=>?_) ?_,Tr.upd hr hi hx hss hoth hfl⟩
 ·rw[hset]at ha;injection ha with ha;cases ha
 ·refine⟨vs.take o++us++vs.drop (o+us.length),_,by rw[hul];exact Qbr (Qbr (Qbc o hvs) hus) (Qbb _ hvs),hset,fun k v hk=>?_,hsz,?_⟩
  ·rw[get_put (by omega)]at hk
   simp only[W9]
   rw[get_put (by simp;omega)]
   split at hk
   ·rename_i g1
    rw[Qj (by omega)]
    have:=hget k v hk
    simpa using this
   ·rename_i g1
    rw[Qd (by omega)]
    split at hk
    ·rename_i g2
     rw[Qj (by omega),<-hk]
     congr 1
     omega
    ·rename_i g2
     rw[Qd (by omega)]
     have:=hget k v hk
     simpa using this
  ·simp only[Xs,Wg,Qw,Wy,Xh]
   omega
theorem Qas {i fl:Nat}(hb:Nat.blt i fl=false):fl<=i:=by
 rcases Yn i fl with h1|h1
 ·have:Nat.blt i fl=true:=Yr h1
  rw[this]at hb;cases hb
 ·exact h1
theorem o_cw (hC:OKC P C)(hr:HR P w0 ρ s.h s.nx w)(hf:Fe ρ s.env n a){t:TypeId}{x y:Operand}{v:V}(hl:Qfk C s t x y=some (v,s')):Do P w0 ρ s a w (.store t x y) v s':=by
 unfold Qfk at hl
 split at hl
 ·rename_i p hp
  split at hl
  ·rename_i i o hpp
   split at hl
   ·rename_i q hq
    split at hl
    ·rename_i J hJ
     obtain⟨hb,h1⟩:=Qaa hl
     rw[Qe,Xt]at hb
     unfold storeAt at h1
     obtain⟨hfl,h2⟩:=Qao h1
     split at h2
     ·rename_i T xs hrow
      split at h2
      ·rename_i ys hys
       simp only[Qc,Qr]at h2
       obtain⟨rfl,rfl⟩:=h2
       obtain⟨u1,g1,g2⟩:=o_a hf hp
       obtain⟨u2,g3,g4⟩:=o_a hf hq
       obtain⟨us,g5,g6⟩:=Qgi hb.2 g3
       rw[V.ptr?_eq hpp]at g1
       obtain⟨x1,hx1,rfl⟩:=cv_p g1
       obtain⟨x2,arr,w',k1,k2,k3,k4,k5,k6⟩:=hr.write (rowAt_eq hrow) (Qas hfl) hys g5
       rw[hx1]at k1
       injection k1 with k1
       subst k1
       refine⟨ρ,w',undef,.skip,rfl,k5,k6,Qfc,.inr ⟨rfl,rfl⟩,fun _ _ _ _ _=>?_⟩
       have hn:us.length=J.n:=by rw[Qal g5];exact Ql hb.1
       have hrun:=run_storeB (P:=P) (t:=t) (v:=u2) (new:=us) (m:=J.n) (cs:=arr.toList) (bt:=T) (g:=x1.b) (o:=x1.o+o) (by simpa[Blk] using k2) (o_r hC hJ) g6 hn (by simp;omega) (cvc_one g5)
       rw[<-hn,<-k4]at hrun
       simp only[execOp,g2,g4,Sem.run_bind,hrun,Result.andThen_ok,Sem.run_pure]
      ·cases h2
     ·cases h2
    ·cases hl
   ·cases hl
  ·cases hl
 ·cases hl
theorem o_bs (hf:Fe ρ e n a){m:Operand}{i:Nat}(hm:mapI e m=some i): ∃x,ρ i=some x/\a.eval m=.map (some x.b):=by
 unfold mapI at hm
 split at hm
 ·rename_i v hv
  obtain⟨u,h1,h2⟩:=o_a hf hv
  rw[V.map?_eq hm]at h1
  obtain⟨x,hx,rfl⟩:=cv_m h1
  exact⟨x,hx,h2⟩
 ·cases hm
theorem o_cf {i c:Nat}{es:List (V×V)}(hm:mapW s i=some (es,c)):s.fl<=i/\∃p,s.h.get i=some (.m es c p):=by
 unfold mapW at hm
 obtain⟨hb,h1⟩:=Qao hm
 refine⟨Qas hb,?_⟩
 split at h1
 ·rename_i es' c' p hg;simp only[Qc,Qr]at h1;obtain⟨rfl,rfl⟩:=h1;exact⟨p,hg⟩
 ·cases h1
theorem Qcu {v:Value}{d:Nat}(hv:Qid v=true):Instr.sameBits d v v=true:=by
 cases v<;>first|(cases hv;done)|(cases d<;>simp[Instr.sameBits];done)|(cases d<;>simp only[Instr.sameBits]<;>exact bbeq _)
theorem Qco {k:V}{u:Value}(hk:flKy k=true)(hu:cv ρ k=some u):Instr.sameBits 10000 u u=true:=by
 cases k with
 |k v=>rw[cv_k hu];exact Qcu hk
 |g l=>
  obtain⟨vs,h1,rfl⟩:=cv_g hu
  replace hk:l.all flatC=true:=hk
  have hall: ∀v∈vs,Qid v=true:=by
   clear hu
   induction l generalizing vs with
   |nil=>rw[Qde h1];intro v hv;cases hv
   |cons x r ih=>
    rw[Js,Qe]at hk
    obtain⟨v,us,rfl,_,h2,h3⟩:=Qap h1
    intro y hy
    rcases Qk.1 hy with rfl|hy
    ·cases x with
     |k q=>rw[cv_k h2];exact hk.1
     |_=>cases hk.1
    ·exact ih us h3 hk.2 y hy
  show(vs.toArray.size==vs.toArray.size&&(vs.toArray.toList.zip vs.toArray.toList).all fun(x,y)=>Instr.sameBits 9999 x y)=true
  simp only[BEq.rfl,Y9,Qx]
  intro q hq
  have hz: ∀{l:List Value},q∈l.zip l->q.1=q.2/\q.1∈l:=fun {l}=>by
   induction l with
   |nil=>intro h;cases h
   |cons b l ih=>
    intro h
    rw[List.zip_cons_cons]at h
    rcases Qk.1 h with rfl|h
    ·exact⟨rfl,Qg ..⟩
    ·obtain⟨g1,g2⟩:=ih h;exact⟨g1,Qf _ g2⟩
  obtain⟨g1,g2⟩:=hz hq
  obtain⟨q1,q2⟩:=q
  simp only at g1 g2
  subst g1
  exact Qcu (hall q1 (by simpa using g2))
 |_=>cases hk
theorem run_setObj' {r:Nat}{o o':Obj}(hr:w.heap[r]?=some o)(hn: ∀c t f,o≠ .cells c t f):(setObj r o').run P w=.ok () (w.putObj r o'):=by
 cases o<;>first|(exact absurd rfl (hn _ _ _))|simp[setObj,Sem.run,hr,World.putObj]
theorem Qgh {v x u:V}{b:List (V×V)}: ∀(a:List (V×V)),Qhy v (a++(x,u)::b) a.length=a++(x,v)::b
 | []=>rfl
 |(y,z)::a=>by simp only[Xq,Qu];show(y,z)::Qhy v _ _=_;rw[Qgh a]
theorem HR.putMap (hr:HR P w0 ρ h nx w){i c c':Nat}{es es':List (V×V)}{p p':Option (Nat×Nat)}{x:Pl}{arr arr':Array MapEntry}{ks':List (Value×Value)}(hi:h.get i=some (.m es c p))(hx:ρ i=some x)(harr:w.heap[x.b]?=some (.map arr c))(hlt:x.b<w.heap.size)
  (h1:cvp ρ es'=some ks') (h2:ks'.Perm (arr'.toList.map fun e=>(e.key,e.val))) (h3:(arr'.toList.map (·.born)).Nodup) (h4: ∀e∈arr'.toList,e.born<c') (h5: ∀j q,p'=some (j,q)->∃y A ent B ka kb,ρ j=some y/\arr'.toList=A++ent::B/\ent.born=y.b/\ks'=ka++(ent.key,ent.val)::kb/\ka.length=q/\(ka++kb).Perm ((A++B).map fun e=>(e.key,e.val)))
  (hc:c<=c') (hben:c'=c->∀e'∈arr'.toList,∃e∈arr.toList,e.key=e'.key/\e.born=e'.born) (hfl:fl<=i):
  HR P w0 ρ (h.set i (.m es' c' p')) nx (w.putObj x.b (.map arr' c'))/\Tr ρ h nx w ρ (h.set i (.m es' c' p')) nx (w.putObj x.b (.map arr' c')) fl:=by
 have hsame:(w.putObj x.b (.map arr' c')).heap[x.b]?=some (.map arr' c'):=World.putObj_heap_same hlt
 have hoth: ∀k,k≠x.b->(w.putObj x.b (.map arr' c')).heap[k]?=w.heap[k]?:=fun k hk=>World.putObj_heap_other hk
 have hss:(w.putObj x.b (.map arr' c')).heap.size=w.heap.size:=by simp
 exact⟨hr.upd hi hx hss hoth rfl rfl rfl (fun a2 c2 ha=>by
  rw[hsame]at ha
  injection ha with ha
  injection ha with e1 e2
  subst e1;subst e2
  exact⟨arr,c,harr,hc,hben⟩) ⟨ks',arr',h1,hsame,h2,h3,h4,h5⟩,Tr.upd hr hi hx hss hoth hfl⟩
end
section
variable {P:Program}{C:Cx}{w0:World}{ρ:Rho}{h:T O}{nx fl:Nat}{w:World}{e:Env}{n:Nat}{a:Act}{s s':S}
theorem Qef {α:Type}(f:α->α)(x:α)(B:List α): ∀A:List α,(A++x::B).modify A.length f=A++f x::B
 | []=>rfl
 |a::A=>by simp only[Xq,Qu,List.modify_succ_cons,Qef f x B A]
theorem Qcy {arr:Array MapEntry}{A B:List MapEntry}{e0:MapEntry}(h:arr.toList=A++e0::B)(f:MapEntry->MapEntry):(arr.modify A.length f).toList=A++f e0::B:=by
 rw[Array.toList_modify,h,Qef]
theorem arr_get {arr:Array MapEntry}{A B:List MapEntry}{e0:MapEntry}(h:arr.toList=A++e0::B):arr[A.length]?=some e0:=by
 rw[<-Wh,h];simp
theorem o_aH (hC:OKC P C){kt:TypeId}{k:V}{u:Value}{es:List (V×V)}{r:Option (Nat×V×V)}(hu:cv ρ k=some u)(hl:Qdm C kt k es=some r):look C kt k es 0=some r/\(∀em w,(Instr.checkKey em 10000 kt u).run P w=.ok () w)/\∃d,P.underlying kt=some d:=by
 unfold Qdm at hl
 obtain⟨hb,h1⟩:=Qaa hl
 unfold keyB at hb
 rw[Qe]at hb
 refine⟨h1,fun em w=>o_aZ hC em 20 9980 kt k u hb.1 hb.2 hu,?_⟩
 have hb1:=hb.1
 unfold keyT at hb1
 cases hI:C.ty.get kt with
 |none=>rw[hI]at hb1;cases hb1
 |some I=>exact⟨_,(hC.ty kt I hI).u⟩
theorem Qga {α:Type}{ka kb:List α}{y:α}{β:Type}{f:β->α}{A B:List β}{b:β}(hp:(ka++kb).Perm ((A++B).map f))(hb:f b=y):(ka++y::kb).Perm ((A++b::B).map f):=by
 rw[W5,Qz,hb]
 rw[W5]at hp
 exact List.perm_middle.trans ((hp.cons y).trans List.perm_middle.symm)
theorem keyStays {u:Value}(h:Instr.sameBits 10000 u u=true)(w:World):(Instr.keyThatStays u u).run P w=.ok u w:=by
 simp[Instr.keyThatStays,h]
theorem o_de (hC:OKC P C)(hr:HR P w0 ρ s.h s.nx w){t:TypeId}{kt vt:TypeId}{i c:Nat}{es:List (V×V)}{k v r:V}{uk uv:Value}{x:Pl}(hx:ρ i=some x)(hu:P.underlying t=some (.map kt vt))(hk:cv ρ k=some uk)(hv:cv ρ v=some uv)(hm:mapW s i=some (es,c))
  (hl:putM s i es c k v (Qdm C kt k es)=some (r,s')): ∃w',s'=s.sethn s'.h s'.nx/\r=un/\HR P w0 ρ s'.h s'.nx w'/\Tr ρ s.h s.nx w ρ s'.h s'.nx w' s.fl/\(Instr.mapUpdate t (.map (some x.b)) uk uv).run P w=.ok () w':=by
 obtain⟨hfl,p,hg⟩:=o_cf hm
 obtain⟨_,x',hx',_,hlt,ks,arr,hks,harr,hperm,hnod,hborn,_⟩:=hr.live i _ hg
 rw[hx]at hx'
 injection hx' with e1
 subst e1
 have hget:=run_getObj' (P:=P) harr (fun _ _ _ h=>by cases h)
 have hset: ∀o',(setObj x.b o').run P w=.ok () (w.putObj x.b o'):=fun o'=>run_setObj' harr (fun _ _ _ h=>by cases h)
 unfold putM at hl
 split at hl
 ·rename_i p0 x0 v0 hlk
  obtain⟨hb,h1⟩:=Qaa hl
  rw[Qe]at hb
  simp only[Qc,Qr]at h1
  obtain⟨rfl,rfl⟩:=h1
  obtain⟨hlk2,hck,d,hd⟩:=o_aH hC hk hlk
  obtain⟨A,e0,B,a1,b1,ka,kb,hat,rfl,rfl,rfl,hxk,hval,hka,hkb,hp2⟩:=find_some hC hk hlk2 hks hperm
  have:=Qdt _ _ hb.1
  subst this
  rw[hk]at hxk
  injection hxk with hxk
  subst hxk
  have hmod:=Qcy hat.eq (fun e=>{e with key:=e0.key,val:=uv})
  obtain⟨g1,g2⟩:=hr.putMap (fl:=s.fl) (es':=Qhy v (a1++(k,v0)::b1) a1.length) (p':=none) (c':=c) (arr':=arr.modify A.length fun e=>{e with key:=e0.key,val:=uv}) (ks':=ka++(e0.key,uv)::kb) hg hx harr hlt
   (by rw[Qgh];exact Qej hka (Qdf hk hv hkb)) (by rw[hmod];exact Qga hp2 rfl) (by rw[hmod];rw[hat.eq]at hnod;simpa using hnod)
   (fun e he=>by
    rw[hmod]at he
    rcases Q0.1 he with he|he
    ·exact hborn e (by rw[hat.eq];exact Wn _ he)
    ·rcases Qk.1 he with rfl|he
     ·exact hborn e0 (by rw[hat.eq];exact Qy _ (Qg ..))
     ·exact hborn e (by rw[hat.eq];exact Qy _ (Qf _ he)))
   (fun j q hq=>by cases hq) (Qo _)
   (fun _ e' he'=>by
    rw[hmod]at he'
    rw[hat.eq]
    rcases Q0.1 he' with he|he
    ·exact⟨e',Wn _ he,rfl,rfl⟩
    ·rcases Qk.1 he with rfl|he
     ·exact⟨e0,Qy _ (Qg ..),rfl,rfl⟩
     ·exact⟨e',Qy _ (Qf _ he),rfl,rfl⟩) hfl
  refine⟨_,rfl,rfl,g1,g2,?_⟩
  have hfind:=find_at hd hat.yes hat.noA (B:=B) w
  rw[<-hat.eq]at hfind
  have hkey:=keyStays (P:=P) (Qco hb.2 hk) w
  simp only[Instr.mapUpdate,Sem.run_bind,run_underlying hu,Result.andThen_ok,hget,hck,hfind,arr_get hat.eq,Q7,Y2,hkey,hset]
 ·rename_i hlk
  simp only[Qc,Qr]at hl
  obtain⟨rfl,rfl⟩:=hl
  obtain⟨hlk2,hck,d,hd⟩:=o_aH hC hk hlk
  have hno:=Qeg hC hk hlk2 hks hperm
  obtain⟨g1,g2⟩:=hr.putMap (fl:=s.fl) (es':=es++[(k,v)]) (p':=none) (c':=c+1) (arr':=arr.push {key:=uk,val:=uv,born:=c}) (ks':=ks++[(uk,uv)]) hg hx harr hlt
   (Qej hks (Qdf hk hv (by unfold cvp;rfl))) (by rw[Yh,W5];exact hperm.append_right _)
   (by
    rw[Yh,W5,Wz]
    refine⟨hnod,by simp,fun b hb q hq=>?_⟩
    obtain⟨e,he,rfl⟩:=Wx.1 hb
    have:=hborn e he
    simp at hq
    omega)
   (fun e he=>by
    rw[Yh]at he
    rcases Q0.1 he with he|he
    ·have:=hborn e he;omega
    ·simp at he;subst he;simp)
   (fun j q hq=>by cases hq) (by omega) (fun hc=>by omega) hfl
  refine⟨_,rfl,rfl,g1,g2,?_⟩
  have hfind:=Qhx hd hno w
  simp only[Instr.mapUpdate,Sem.run_bind,run_underlying hu,Result.andThen_ok,hget,hck,hfind,hset]
 ·cases hl
theorem o_cg (hC:OKC P C)(hr:HR P w0 ρ s.h s.nx w)(hf:Fe ρ s.env n a){t:TypeId}{m k x:Operand}{v:V}{o:Op}(ho:o=.mapUpdate t m k x\/o=.insert t m k x)(hl:eUpd C s t m k x=some (v,s')):Do P w0 ρ s a w o v s':=by
 unfold eUpd at hl
 split at hl
 ·rename_i i hi
  split at hl
  ·rename_i kv hkv
   split at hl
   ·rename_i xv hxv
    split at hl
    ·rename_i kt J hJ
     split at hl
     ·rename_i es c hm
      obtain⟨x1,hx1,hm1⟩:=o_bs hf hi
      obtain⟨uk,h1,h2⟩:=o_a hf hkv
      obtain⟨uv,h3,h4⟩:=o_a hf hxv
      obtain⟨vt,hu,_⟩:=o_af hC hJ
      obtain⟨w',g1,rfl,g3,g4,g5⟩:=o_de hC hr hx1 hu h1 h3 hm hl
      refine⟨ρ,w',undef,.skip,g1,g3,g4,Qfc,.inr ⟨rfl,rfl⟩,fun _ _ _ _ _=>?_⟩
      rcases ho with rfl|rfl<;>simp only[execOp,hm1,h2,h4,Sem.run_bind,g5,Result.andThen_ok,Sem.run_pure]
     ·cases hl
    ·cases hl
   ·cases hl
  ·cases hl
 ·cases hl
end
end Go.M
end
