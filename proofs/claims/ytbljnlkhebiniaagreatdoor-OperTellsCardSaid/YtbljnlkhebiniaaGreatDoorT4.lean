/- A layer over the small logic, continued: a text laid behind bytes. No program in sight. * Functions on data, and that the code computes them. * A layer over the small logic, continued: rows whose elements hold rows of their own. No program in sight. * Plain law of graphs: what the reference and the program say of graphs, as functions on data (no program in sight). * Plain: rounds by a count of steps are recursion over a list. * Plain: a text's bytes by the model's decoder. * Plain: what a text's bytes are, by the reference and by the model's decoder. * Plain: functions of nodes may be; a node for itself. -/
import Derived.Test.YtbljnlkhebiniaaGreatDoorT2
import Derived.Lib.AppendStr
import Derived.Test.YtbljnlkhebiniaaGreatDoorT0
import Derived.Test.YtbljnlkhebiniaaGreatDoorT1
import Derived.Test.YtbljnlkhebiniaaGreatDoorT3
import Derived.Lib.TrimUEq
section
set_option linter.unusedVariables false
set_option linter.unusedSimpArgs false
namespace Go.A
open Go.RowKit Go.Z Go.Lib
theorem st_free (P:Program)(g o:Nat)(t:TypeId)(fz:Nat×Nat): ∀(vs:List Value) (i:Nat) (cur:Array Value) (w:World),w.heap[g]?=some (.cells cur t fz)→Fz fz cur.size→o+i+vs.length≤cur.size→(∀v∈vs,v.oneCell'=true)→
  (storeCells ⟨g,o,none⟩ vs i).run P w=.ok () (w.setRow g (cur.toList.take (o+i)++vs++cur.toList.drop (o+i+vs.length)).toArray)
 | [],i,cur,w,hg,_,_,_=>by
  simp only[storeCells,List.append_nil,List.length_nil,Nat.add_zero,List.take_append_drop,Array.toArray_toList]
  rw[setRow_self w g cur t fz hg];rfl
 |v::vs,i,cur,w,hg,hz,hl,h1=>by
  have hi:o+i<cur.size:=by simp only[List.length_cons]at hl;omega
  have ha:(⟨g,o,none⟩:Addr).add i=⟨g,o+i,none⟩:=Addr.add_lit ..
  have hc:w.cell? ⟨g,o+i,none⟩=some cur[o+i]:=by simp[World.cell?,hg,hi]
  have hf:w.frozen? ⟨g,o+i,none⟩=false:=by
   obtain⟨a,b⟩:=fz
   have:=hz (o+i) hi
   simp only[World.frozen?,hg,Bool.and_eq_false_iff,decide_eq_false_iff_not]
   simp only at this;omega
  have hs:(store ((⟨g,o,none⟩:Addr).add i) v).run P w=.ok () (w.setRow g (cur.setIfInBounds (o+i) v)):=by
   rw[ha,run_store P w _ v _ (h1 v (List.mem_cons_self ..)),hc]
   simp[hf,setCell_eq_setRow w g (o+i) cur t fz v hg]
  have ih:=st_free P g o t fz vs (i+1) (cur.setIfInBounds (o+i) v) _ (setRow_heap w g cur _ t _ hg) (by simpa using hz) (by simp only[List.length_cons]at hl;simp;omega) fun x hx=>h1 x (List.mem_cons_of_mem _ hx)
  simp only[storeCells,Sem.run_bind,hs,Result.andThen_ok,ih,setRow_setRow]
  congr 3
  have e:=list_seg_step cur.toList (o+i) v vs (by simp only[List.length_cons]at hl;simp;omega)
  simpa[Array.toList_setIfInBounds,Nat.add_assoc] using e
section
variable {r:Option Nat}{P:Program}{ops:Array Oper}{Q:Exit→Act→World→Prop}{rest:List Oper}{C:Cx}{l:List (Nat×Value)}{H:List (Nat×Res)}{d:Nat}{T:TypeId}{pos:String}{af:Array Edge}
theorem AL.bap (k:Nat)(js:List Nat){tt tu e:TypeId}{x y:Operand}{i:TypeInfo}{c g n:Nat}{xs:List UInt8}{s:ByteArray}(hsz:xs.length+s.size≤140737488355328)
  (hinf:P.info? e=some i∧i.zero=some (.int .u8 0)∧i.size=1∧i.bytes=1)
  (h: ∀g' c',AL r P ops Q rest C ((d,.slice (some ⟨g',0,none⟩) (xs++s.data.toList).length c')::l) ((k,.ob g' (Bs e c' (xs++s.data.toList)))::ded js H))
  (hk1:hk H k=some (.ob g (Bs e c xs)):=by rfl) (hx:ev l x=some (.slice (some ⟨g,0,none⟩) n c):=by rfl) (hy:ev l y=some (.string s):=by rfl) (hlen:n=xs.length:=by rfl)
  (h1:P.underlying tt=some (.slice e):=by rfl) (h2:P.underlying tu=some .string:=by rfl) (hd:Nat.ble (d+1) C.n=true:=by rfl) (hj:hng [k] js H=true:=by kernel_rfl):
  AL r P ops Q (⟨some d,.call {callee:=.builtin .append,args:=#[x,y],argTypes:=#[tt,tu]},T,pos,af,none⟩::rest) C l H:=fun a w hf hh=>by
 subst hlen
 obtain⟨hi,hz,hs1,hby⟩:=hinf
 obtain⟨o,ho,hb⟩: ∃o,w.heap[g]?=some o∧Bs e c xs o:=hh.hold k _ hk1
 have hxc: ∀j u,(xs.map fun b=>Value.int .u8 (b.toNat:Int))[j]?=some u→w.cell? ((⟨g,0,none⟩:Addr).add j)=some u:=fun j u hu=>by
  rw[List.getElem?_map]at hu
  cases hb2:xs[j]? with
  |none=>rw[hb2]at hu;cases hu
  |some b=>
   rw[hb2]at hu;injection hu with hu;subst hu
   rw[Addr.add_lit,Nat.zero_add];exact Bs.cell ho hb hb2
 obtain⟨cur,fz,rfl,hfz,hcs,hcm,hxl,hcur⟩:=hb
 have hsl:s.data.toList.length=s.size:=rfl
 have hlen2:(xs++s.data.toList).length=xs.length+s.size:=by rw[List.length_append,hsl]
 by_cases hroom:xs.length+s.size≤c
 ·have hst:=st_free P g xs.length e fz (strCells s) 0 cur w ho (hcs▸hfz) (by rw[strCells_length];omega) (strCells_oneCell s)
  have hfc:=run_firstCells_string (P:=P) w 1 s
  simp only[Nat.add_zero,strCells_length]at hst
  have hrun:(Builtin.append_ #[tt,tu] T #[.slice (some ⟨g,0,none⟩) xs.length c,.string s]).run P w=.ok (.slice (some ⟨g,0,none⟩) (xs.length+s.size) c) (w.setRow g (cur.toList.take xs.length++strCells s++cur.toList.drop (xs.length+s.size)).toArray):=by
   simp[Builtin.append_,run_underlying h1,run_underlying h2,sizeOf,typeInfo,hi,hs1,Builtin.lenOf,hroom,hfc,Addr.add_lit,hst]
  have hg':=setRow_heap w g cur (cur.toList.take xs.length++strCells s++cur.toList.drop (xs.length+s.size)).toArray e fz ho
  have hch:Ch [g] w (w.setRow g (cur.toList.take xs.length++strCells s++cur.toList.drop (xs.length+s.size)).toArray):=⟨rfl,rfl,rfl,by simp,fun b _ hn=>setRow_other w g b _ fun e=>hn (by simp[e])⟩
  refine Z.valw (w':=_) (v:=.slice (some ⟨g,0,none⟩) (xs++s.data.toList).length c) hf hd ?_ fun a' hf'=>h g c a' _ hf' (Hp.dd (hh.upd hch (fun b hb=>⟨_,hk1,hb⟩) (fun b hb=>.inl ⟨_,hk1,hb⟩) (fun j hj=>by cases hj) fun _ _ _ _ _ _ _=>⟨_,hg',_,fz,rfl,hfz,?_,hcm,by omega,fun j b hj2=>?_⟩) hj)
  ·rw[hlen2]
   simp only[execOp,resolve,invoke,builtin,Sem.run_bind,Sem.run_pure,Result.andThen_ok,List.map_toArray,List.map_cons,List.map_nil,hf.eval hx,hf.eval hy,hrun]
  ·simp only[List.size_toArray,List.length_append,List.length_take,List.length_drop,Array.length_toList,strCells_length];omega
  ·rw[List.getElem?_toArray]
   have ht:(cur.toList.take xs.length).length=xs.length:=by
    have h9:cur.toList.length=cur.size:=Array.length_toList
    rw[List.length_take];omega
   by_cases hjx:j<xs.length
   ·rw[List.getElem?_append_left hjx]at hj2
    rw[List.append_assoc,List.getElem?_append_left (by omega),List.getElem?_take_of_lt hjx,Array.getElem?_toList]
    exact hcur j b hj2
   ·rw[List.getElem?_append_right (by omega)]at hj2
    have hjs:=(List.getElem?_eq_some_iff.1 hj2).1
    rw[List.getElem?_append_left (by rw[List.length_append,ht,strCells_length];omega),List.getElem?_append_right (by omega),ht,strCells,List.getElem?_map,hj2];rfl
 ·have hrun:=run_append_grow_string (P:=P) w tt tu T e i (.int .u8 0) h1 h2 hi hz ⟨g,0,none⟩ xs.length c (xs.map fun b=>Value.int .u8 (b.toNat:Int)) (by rw[hs1,List.length_map,Nat.mul_one]) hxc s (by omega) (by omega) (by rw[hby];exact growslice_fits (by omega) (by omega))
  obtain⟨c',hc'⟩: ∃c',grownCap w (xs.length+s.size) c e=c':=⟨_,rfl⟩
  have hge:xs.length+s.size≤c':=hc'▸grownCap_ge w (xs.length+s.size) c e
  have hcm2:c'≤maxLen:=hc'▸grownCap_le_maxLen w (xs.length+s.size) c e (by unfold maxLen;omega)
  rw[hc']at hrun
  have hz1:(Value.int IntKind.u8 0).cells.size=1:=rfl
  obtain⟨row,hrow⟩: ∃row,(xs.map fun b=>Value.int .u8 (b.toNat:Int)).toArray++(strCells s).toArray++Builtin.zeroCells (Value.int IntKind.u8 0).cells (c'-(xs.length+s.size))=row:=⟨_,rfl⟩
  rw[hrow]at hrun
  have hch:Ch [g] w (w.drew.alloc (.cells row e)):=by
   have hc:=Ch.alloc w.drew (.cells row e)
   exact⟨hc.os,hc.tape,hc.output,hc.size,fun b hb _=>hc.block b hb (by simp)⟩
  refine Z.valw (w':=_) (v:=.slice (some ⟨w.heap.size,0,none⟩) (xs++s.data.toList).length c') hf hd ?_ fun a' hf'=>h w.heap.size c' a' _ hf' (Hp.dd (hh.upd hch (fun b hb=>⟨_,hk1,hb⟩) (fun b hb=>?_) (fun j hj=>by cases hj) fun _ _ _ _ _ _ _=>⟨_,World.alloc_heap_new w.drew _,row,(0,0),rfl,fun j _ h=>by omega,?_,hcm2,by omega,fun j b hj2=>?_⟩) hj)
  ·rw[hlen2]
   simp only[execOp,resolve,invoke,builtin,Sem.run_bind,Sem.run_pure,Result.andThen_ok,List.map_toArray,List.map_cons,List.map_nil,hf.eval hx,hf.eval hy,hrun]
  ·simp only[Res.bl,List.mem_singleton]at hb
   subst hb
   exact .inr ⟨Nat.le_refl _,by rw[World.size_alloc];exact Nat.lt_succ_self _⟩
  ·rw[←hrow]
   simp only[Array.size_append,List.size_toArray,size_zeroCells,hz1,List.length_map,strCells_length];omega
  ·rw[←hrow]
   have hjl:=(List.getElem?_eq_some_iff.1 hj2).1
   rw[hlen2]at hjl
   have e:(xs.map fun b=>Value.int .u8 (b.toNat:Int)).toArray++(strCells s).toArray=((xs++s.data.toList).map fun b=>Value.int .u8 (b.toNat:Int)).toArray:=by
    rw[strCells,List.map_append];simp
   rw[e,Array.getElem?_append_left (by simp only[List.size_toArray,List.length_map];omega),List.getElem?_toArray,List.getElem?_map,hj2];rfl
end
end Go.A
end
section
set_option linter.unusedVariables false
set_option linter.unusedSimpArgs false
set_option maxRecDepth 20000
set_option maxHeartbeats 8000000
set_option synthInstance.maxSize 1000000
set_option synthInstance.maxHeartbeats 400000
namespace Go.Proofs.YtbljnlkhebiniaaGreatDoor
open Go.RowKit
def F.R06_Reduce_j1 (k1:(List UInt8)→Int→ByteArray→Int→Option (D43×Int))(y24:Int)(xs27:List UInt8)(y30:Int)(y32:ByteArray):Option (D43×Int):=A.gd (Z.R64 (y24+1)) (k1 xs27 y30 y32 (y24+1))
def F.R06_Reduce_j2 (k1:(List UInt8)→Int→ByteArray→Int→Option (D43×Int))(xs17:List UInt8)(y20:Int)(y22:ByteArray)(y24:Int)(x35:D69)(y44:Bool):Option (D43×Int):=if y44=true then(F.R06_Reduce_j1 k1 y24 (xs17++x35.1.2.data.toList) x35.1.1 x35.1.2)else(F.R06_Reduce_j1 k1 y24 (xs17++x35.1.2.data.toList) y20 y22)
def F.R06_Reduce_j3 (y20:Int)(y47:ByteArray):Option (D43×Int):=some ((y20,y47),0)
def F.R06_Reduce_l4 (a0:D23)(a1:(List D69)):Nat→(List UInt8)→Int→ByteArray→Int→Option (D43×Int)
 |0,_,_,_,_=>none
 |f+1,xs17,y20,y22,y24=>if y24<((a1).length:Int)then((A.ix a1 y24).bind fun x35=>(if x35.1.1≠y20 then(some ((0,ByteArray.mk #[]),1))else(A.gd ((xs17).length+x35.1.2.size≤140737488355328) (if a0.1=32 then(F.R06_Reduce_j2 (F.R06_Reduce_l4 a0 a1 f) xs17 y20 y22 y24 x35 true)else(if a0.1=33 then((F.R06_longer x35.1.2 y22).bind fun r45=>(F.R06_Reduce_j2 (F.R06_Reduce_l4 a0 a1 f) xs17 y20 y22 y24 x35 r45))else(F.R06_Reduce_j2 (F.R06_Reduce_l4 a0 a1 f) xs17 y20 y22 y24 x35 false))))))else(if a0.1=34 then((F.R05_Cut (ByteArray.mk (xs17).toArray) 64).bind fun r50=>(F.R06_Reduce_j3 y20 r50))else(F.R06_Reduce_j3 y20 y22))
def F.R06_Reduce (a0:D23)(a1:(List D69)):Option (D43×Int):=(F.R06_Check 8 (a0.1,a0.2.1,a0.2.2)).bind fun r3=>(if r3≠0 then(some ((0,ByteArray.mk #[]),r3))else((F.R05_CheckBag a1).bind fun r6=>(if r6≠0 then(some ((0,ByteArray.mk #[]),r6))else(if((a1).length:Int)=0 then(some ((0,ByteArray.mk #[]),4))else((A.ix a1 0).bind fun x9=>(F.R06_Reduce_l4 a0 a1 A.FU x9.1.2.data.toList x9.1.1 x9.1.2 1))))))
theorem R06_Reduce_ok (a0:D23)(a1:(List D69))(A3_:Option Addr)(c4_:Nat)(h0_:IntKind.i64.has a0.1)(h1_:IntKind.i64.has a0.2.1)(h2_:a0.2.2.size≤maxLen)(r:D43×Int)(hF:F.R06_Reduce a0 a1=some r):
    A.Ct Tryz.prog 77 [.agg #[.int .i64 a0.1,.int .i64 a0.2.1,.string a0.2.2],.slice A3_ ((a1).length) c4_] [(0,.ln T69 A3_ c4_ a1)] [] (fun v H'=>v=.tuple #[.agg #[.int .i64 r.1.1,.string r.1.2],.int .i64 r.2]∧H'=[]∧IntKind.i64.has r.1.1∧r.1.2.size≤maxLen∧IntKind.i64.has r.2):=by
 refine A.Ct.enter Tryz.func77 rfl Tryz.ntmps77 rfl fun w0 F0=>?_
 rw[F.R06_Reduce]at hF
 refine A.xl 1 ?_
 refine A.AL.box 1 (cs:=[.int .i64 a0.1,.int .i64 a0.2.1,.string a0.2.2]) fun g1=>?_
 refine A.AL.alloc 2 (cs:=[.int .i64 0,.string (ByteArray.mk #[])]) Tryz.zeroValue44 fun g2=>?_
 refine A.q0 [] [] [.n] [] ?_
 refine A.dl 3 ?_
 refine A.q0 [1] [] [.b 0 0] [(12,.agg #[.int .i64 a0.1,.int .i64 a0.2.1,.string a0.2.2])] ?_
 obtain⟨r3,hv4,hF⟩:=A.bd_some hF
 refine A.AL.call 3 [] (first:=[]) (cap:=[]) cf38 (R06_Check_ok 8 (a0.1,a0.2.1,a0.2.2) (A.hasl .i64 (8) rfl) h0_ h1_ h2_ r3 hv4) .nil ?_
 rintro _ _ ⟨rfl,rfl,hr5⟩
 refine⟨by kernel_rfl,?_⟩
 refine A.q0 [] [] [.n] [(6,.int .i64 r3)] ?_
 refine A.dl 2 ?_
 refine A.q0 [] [] [.n,.n] [(15,.bool (decide (r3≠0)))] ?_
 refine A.dx 1 ?_
 refine A.AX.cnd rfl hF (fun hb hF=>?_) (fun hb hF=>?_)
 ·refine A.xl 1 ?_
  refine A.q0 [] [] [.n,.n] [(16,.agg #[.int .i64 0,.string (ByteArray.mk #[])]),(17,.int .i64 r3)] ?_
  refine A.sw 2 [] [.int .i64 0,.string (ByteArray.mk #[])] ?_
  refine A.q0 [] [] [.n] [(5,.int .i64 r3)] ?_
  refine A.dx 1 ?_
  obtain rfl:=Option.some.inj hF
  exact A.AX.ret [] (.tuple #[.agg #[.int .i64 0,.string (ByteArray.mk #[])],.int .i64 r3]) (fun a w hf hh=>Z.resv2 rfl (Z.rv_n hf rfl Tryz.isAgg44 Tryz.sizeOf44 (A.Hp.blk hh 2) rfl) (Z.rv_t hf rfl)) (⟨rfl,rfl,(A.hasl .i64 (0) rfl),(A.szl (ByteArray.mk #[]) rfl),hr5⟩)
 refine A.xl 4 ?_
 refine A.q0 [] [] [.n] [(18,.slice A3_ ((a1).length) c4_)] ?_
 obtain⟨r6,hv7,hF⟩:=A.bd_some hF
 refine A.AL.call 43 [] (first:=[]) (cap:=[]) cf40 (R05_CheckBag_ok a1 A3_ c4_ r6 hv7) (.s 0 .nil) ?_
 rintro _ _ ⟨rfl,rfl,hr8⟩
 refine⟨by kernel_rfl,?_⟩
 refine A.q0 [] [] [.n] [(7,.int .i64 r6)] ?_
 refine A.dl 2 ?_
 refine A.q0 [] [] [.n,.n] [(21,.bool (decide (r6≠0)))] ?_
 refine A.dx 1 ?_
 refine A.AX.cnd rfl hF (fun hb hF=>?_) (fun hb hF=>?_)
 ·refine A.xl 1 ?_
  refine A.q0 [] [] [.n,.n] [(22,.agg #[.int .i64 0,.string (ByteArray.mk #[])]),(23,.int .i64 r6)] ?_
  refine A.sw 2 [] [.int .i64 0,.string (ByteArray.mk #[])] ?_
  refine A.q0 [] [] [.n] [(5,.int .i64 r6)] ?_
  refine A.dx 1 ?_
  obtain rfl:=Option.some.inj hF
  exact A.AX.ret [] (.tuple #[.agg #[.int .i64 0,.string (ByteArray.mk #[])],.int .i64 r6]) (fun a w hf hh=>Z.resv2 rfl (Z.rv_n hf rfl Tryz.isAgg44 Tryz.sizeOf44 (A.Hp.blk hh 2) rfl) (Z.rv_t hf rfl)) (⟨rfl,rfl,(A.hasl .i64 (0) rfl),(A.szl (ByteArray.mk #[]) rfl),hr8⟩)
 refine A.xl 4 ?_
 refine A.q0 [] [] [.n,.n,.n] [(26,.bool (decide (((a1).length:Int)=0)))] ?_
 refine A.dx 1 ?_
 refine A.AX.cnd rfl hF (fun hb hF=>?_) (fun hb hF=>?_)
 ·refine A.xl 1 ?_
  refine A.q0 [] [] [.n] [(27,.agg #[.int .i64 0,.string (ByteArray.mk #[])])] ?_
  refine A.sw 2 [] [.int .i64 0,.string (ByteArray.mk #[])] ?_
  refine A.q0 [] [] [.n] [(5,.int .i64 4)] ?_
  refine A.dx 1 ?_
  obtain rfl:=Option.some.inj hF
  exact A.AX.ret [] (.tuple #[.agg #[.int .i64 0,.string (ByteArray.mk #[])],.int .i64 4]) (fun a w hf hh=>Z.resv2 rfl (Z.rv_n hf rfl Tryz.isAgg44 Tryz.sizeOf44 (A.Hp.blk hh 2) rfl) (Z.rv_t hf rfl)) (⟨rfl,rfl,(A.hasl .i64 (0) rfl),(A.szl (ByteArray.mk #[]) rfl),(A.hasl .i64 (4) rfl)⟩)
 refine A.xl 3 ?_
 refine A.q0 [] [] [.n] [(28,.slice A3_ ((a1).length) c4_)] ?_
 obtain⟨x9,hv10,hF⟩:=A.bd_some hF
 refine A.AL.ixl 0 83 hv10 fun ho11=>?_
 intro b12 o13
 refine A.q0 [] [83] [.n,.e 0 0] [(31,.agg #[.int .i64 x9.1.1,.string x9.1.2])] ?_
 refine A.AL.alloc 84 (cs:=[.int .i64 0,.string (ByteArray.mk #[])]) Tryz.zeroValue44 fun g14=>?_
 refine A.sw 84 [] [.int .i64 x9.1.1,.string x9.1.2] ?_
 refine A.dl 2 ?_
 refine A.q0 [84] [] [.n,.b 0 1] [(33,.string x9.1.2)] ?_
 refine A.AL.cvb 85 ho11.1.2 fun g15 c16=>?_
 refine A.q0 [] [] [.n] [(9,.slice (some ⟨g15,0,none⟩) ((x9.1.2.data.toList).length) c16)] ?_
 refine A.dl 3 ?_
 refine A.q0 [] [] [.n] [(10,.int .i64 1)] ?_
 refine A.dx 2 ?_
 refine A.lp_ [1,2,4,8] [0,1,2] (fun f nl nh=>∃(xs17:List UInt8),∃(y20:Int),∃(y22:ByteArray),∃(y24:Int),∃(g18:Nat),∃(c19:Nat),nl=[(9,.slice (some ⟨g18,0,none⟩) ((xs17).length) c19),(10,.int .i64 y24)]∧nh=[(84,.blk g14 44 [.int .i64 y20,.string y22]),(85,.ob g18 (A.Bs 5 c19 xs17))]∧IntKind.i64.has y20∧y22.size≤maxLen∧IntKind.i64.has y24∧F.R06_Reduce_l4 a0 a1 f xs17 y20 y22 y24=some r) ⟨x9.1.2.data.toList,x9.1.1,x9.1.2,1,g15,c16,rfl,rfl,ho11.1.1,ho11.1.2,(A.hasl .i64 (1) rfl),hF⟩ ?_
 rintro f26 _ _ ⟨xs17,y20,y22,y24,g18,c19,rfl,rfl,hy21,hy23,hy25,hF⟩
 rcases f26 with _|f26
 ·exact A.no0 hF
 rw[F.R06_Reduce_l4]at hF
 refine A.xl 2 ?_
 refine A.q0 [] [] [.n,.n,.n,.n] [(38,.bool (decide (y24<((a1).length:Int))))] ?_
 refine A.dx 1 ?_
 refine A.AX.cnd rfl hF (fun hb hF=>?_) (fun hb hF=>?_)
 ·refine A.xx 2 ?_
  refine A.AX.join [1,2,4,8,10] [0,1,2] (fun nl nh=>∃(xs27:List UInt8),∃(y30:Int),∃(y32:ByteArray),∃(g28:Nat),∃(c29:Nat),nl=[(9,.slice (some ⟨g28,0,none⟩) ((xs27).length) c29)]∧nh=[(84,.blk g14 44 [.int .i64 y30,.string y32]),(85,.ob g28 (A.Bs 5 c29 xs27))]∧IntKind.i64.has y30∧y32.size≤maxLen∧F.R06_Reduce_j1 (F.R06_Reduce_l4 a0 a1 f26) y24 xs27 y30 y32=some r) ?_ ?_
  ·refine A.xl 2 ?_
   refine A.q0 [] [] [.n,.n] [(41,.slice A3_ ((a1).length) c4_),(42,.int .i64 y24)] ?_
   obtain⟨x35,hv36,hF⟩:=A.bd_some hF
   refine A.AL.ixl 0 250 hv36 fun ho37=>?_
   intro b38 o39
   refine A.q0 [] [250] [.n,.e 0 0] [(45,.agg #[.int .i64 x35.1.1,.string x35.1.2])] ?_
   refine A.AL.alloc 251 (cs:=[.int .i64 0,.string (ByteArray.mk #[])]) Tryz.zeroValue44 fun g40=>?_
   refine A.sw 251 [] [.int .i64 x35.1.1,.string x35.1.2] ?_
   refine A.dl 3 ?_
   refine A.q0 [251,84] [] [.n,.b 0 0,.n,.b 1 0,.n] [(50,.bool (decide (x35.1.1≠y20)))] ?_
   refine A.dx 1 ?_
   refine A.AX.cnd rfl hF (fun hb hF=>?_) (fun hb hF=>?_)
   ·refine A.xl 1 ?_
    refine A.q0 [] [] [.n] [(51,.agg #[.int .i64 0,.string (ByteArray.mk #[])])] ?_
    refine A.sw 2 [] [.int .i64 0,.string (ByteArray.mk #[])] ?_
    refine A.q0 [] [] [.n] [(5,.int .i64 1)] ?_
    refine A.dx 1 ?_
    obtain rfl:=Option.some.inj hF
    exact A.AX.ret [] (.tuple #[.agg #[.int .i64 0,.string (ByteArray.mk #[])],.int .i64 1]) (fun a w hf hh=>Z.resv2 rfl (Z.rv_n hf rfl Tryz.isAgg44 Tryz.sizeOf44 (A.Hp.blk hh 2) rfl) (Z.rv_t hf rfl)) (⟨rfl,rfl,(A.hasl .i64 (0) rfl),(A.szl (ByteArray.mk #[]) rfl),(A.hasl .i64 (1) rfl)⟩)
   refine A.xl 3 ?_
   refine A.q0 [251] [] [.n,.n,.b 0 1] [(52,.slice (some ⟨g18,0,none⟩) ((xs17).length) c19),(54,.string x35.1.2)] ?_
   obtain⟨hl43,hF⟩:=A.gd_some hF
   refine A.AL.bap 85 [] hl43 ⟨inf5.1,inf5.2.1,inf5.2.2.1,inf5.2.2.2.1⟩ (fun g41 c42=>?_)
   refine A.q0 [] [] [.n] [(9,.slice (some ⟨g41,0,none⟩) ((xs17++x35.1.2.data.toList).length) c42)] ?_
   refine A.dx 1 ?_
   refine A.AX.join [1,2,4,8,9,10,11] [0,1,2,84,85,251] (fun nl nh=>∃(y44:Bool),nl=[(70,.bool y44)]∧nh=[]∧F.R06_Reduce_j2 (F.R06_Reduce_l4 a0 a1 f26) xs17 y20 y22 y24 x35 y44=some r) ?_ ?_
   ·refine A.xl 0 ?_
    refine A.q0 [1] [] [.n,.b 0 0,.n,.n] [(59,.bool (decide (a0.1=32)))] ?_
    refine A.AL.cnp (j:=59) rfl hF (fun hb hF=>?_) (fun hb hF=>?_)
    ·refine A.q0 [] [] [.off,.off,.off,.off,.off,.off,.off,.off,.off,.off,.n] [(70,.bool true)] ?_
     refine A.AL.done ?_
     exact A.j ⟨true,rfl,rfl,hF⟩
    refine A.q0 [1] [] [.on .n,.on (.b 0 0),.on .n,.on .n] [(63,.bool (decide (a0.1=33)))] ?_
    refine A.AL.cnp (j:=63) rfl hF (fun hb hF=>?_) (fun hb hF=>?_)
    ·refine A.q0 [251,84] [] [.on .n,.on (.b 0 1),.on .n,.on (.b 1 1)] [(65,.string x35.1.2),(67,.string y22)] ?_
     refine A.AL.on (dj:=63) rfl rfl ?_
     obtain⟨r45,hv46,hF⟩:=A.bd_some hF
     refine A.AL.call 252 [] (first:=[]) (cap:=[]) cf118 (R06_longer_ok x35.1.2 y22 ho37.1.2 hy23 r45 hv46) .nil ?_
     rintro _ _ ⟨rfl,rfl⟩
     refine⟨by kernel_rfl,?_⟩
     refine A.q0 [] [] [.on .n,.n] [(70,.bool r45)] ?_
     refine A.AL.done ?_
     exact A.j ⟨r45,rfl,rfl,hF⟩
    refine A.q0 [] [] [.off,.off,.off,.off,.off,.on .n,.n] [(70,.bool false)] ?_
    refine A.AL.done ?_
    exact A.j ⟨false,rfl,rfl,hF⟩
   rintro _ _ ⟨y44,rfl,rfl,hF⟩
   rw[F.R06_Reduce_j2]at hF
   refine A.AX.cnb rfl hF (fun hb hF=>?_) (fun hb hF=>?_)
   ·refine A.xl 0 ?_
    refine A.q0 [251] [] [.b 0 0] [(71,.agg #[.int .i64 x35.1.1,.string x35.1.2])] ?_
    refine A.sw 84 [] [.int .i64 x35.1.1,.string x35.1.2] ?_
    refine A.de 1 ?_
    exact A.j ⟨(xs17++x35.1.2.data.toList),x35.1.1,x35.1.2,g41,c42,rfl,rfl,ho37.1.1,ho37.1.2,hF⟩
   refine A.xe 2 ?_
   exact A.j ⟨(xs17++x35.1.2.data.toList),y20,y22,g41,c42,rfl,rfl,hy21,hy23,hF⟩
  rintro _ _ ⟨xs27,y30,y32,g28,c29,rfl,rfl,hy31,hy33,hF⟩
  rw[F.R06_Reduce_j1]at hF
  refine A.xl 0 ?_
  obtain⟨hc34,hF⟩:=A.gd_some hF
  refine A.q [] [] [.n,.n,.n] [Z.R64 (y24+1)] [(10,.int .i64 (y24+1))] hc34 ?_
  refine A.AL.done ?_
  exact A.j ⟨_,Nat.lt_succ_self _,⟨xs27,y30,y32,(y24+1),g28,c29,rfl,rfl,hy31,hy33,(Z.i64_has hc34),hF⟩⟩
 refine A.xx 2 ?_
 refine A.AX.join [4,8] [2] (fun nl nh=>∃(y47:ByteArray),nl=[]∧nh=[(84,.blk g14 44 [.int .i64 y20,.string y47])]∧y47.size≤maxLen∧F.R06_Reduce_j3 y20 y47=some r) ?_ ?_
 ·refine A.xl 1 ?_
  refine A.q0 [1] [] [.n,.b 0 0,.n] [(74,.bool (decide (a0.1=34)))] ?_
  refine A.dx 1 ?_
  refine A.AX.cnd rfl hF (fun hb hF=>?_) (fun hb hF=>?_)
  ·refine A.xl 0 ?_
   refine A.q0 [] [] [.n] [(75,.slice (some ⟨g18,0,none⟩) ((xs17).length) c19)] ?_
   refine A.okB 85 fun hl49=>?_
   refine A.AL.cbs 85 rfl ?_
   obtain⟨r50,hv51,hF⟩:=A.bd_some hF
   refine A.AL.call 292 [] (first:=[]) (cap:=[]) cf119 (R05_Cut_ok (ByteArray.mk (xs17).toArray) 64 (A.mk_le hl49) (A.hasl .i64 (64) rfl) r50 hv51) .nil ?_
   rintro _ _ ⟨rfl,rfl,hr52⟩
   refine⟨by kernel_rfl,?_⟩
   refine A.q0 [] [] [.n] [(78,.pointer (some ⟨g14,1,none⟩))] ?_
   refine A.AL.store 84 [] (new:=[.string r50]) (cs':=[.int .i64 y20,.string r50]) ?_
   refine A.AL.done ?_
   exact A.j ⟨r50,rfl,rfl,hr52,hF⟩
  refine A.xe 1 ?_
  exact A.j ⟨y22,rfl,rfl,hy23,hF⟩
 rintro _ _ ⟨y47,rfl,rfl,hy48,hF⟩
 rw[F.R06_Reduce_j3]at hF
 refine A.xl 1 ?_
 refine A.q0 [84] [] [.b 0 0] [(79,.agg #[.int .i64 y20,.string y47])] ?_
 refine A.sw 2 [] [.int .i64 y20,.string y47] ?_
 refine A.q0 [] [] [.n] [(5,.int .i64 0)] ?_
 refine A.dx 1 ?_
 obtain rfl:=Option.some.inj hF
 exact A.AX.ret [] (.tuple #[.agg #[.int .i64 y20,.string y47],.int .i64 0]) (fun a w hf hh=>Z.resv2 rfl (Z.rv_n hf rfl Tryz.isAgg44 Tryz.sizeOf44 (A.Hp.blk hh 2) rfl) (Z.rv_t hf rfl)) (⟨rfl,rfl,hy21,hy48,(A.hasl .i64 (0) rfl)⟩)
def F.R06_may (a0:Int)(a1:D23)(a2:D43):Option Int:=(F.R06_Check a0 (a1.1,a1.2.1,a1.2.2)).bind fun r3=>(if r3≠0 then(some r3)else((F.R05_Check (a2.1,a2.2)).bind fun r6=>(some r6)))
theorem R06_may_ok (a0:Int)(a1:D23)(a2:D43)(h0_:IntKind.i64.has a0)(h1_:IntKind.i64.has a1.1)(h2_:IntKind.i64.has a1.2.1)(h3_:a1.2.2.size≤maxLen)(h4_:IntKind.i64.has a2.1)(h5_:a2.2.size≤maxLen)(r:Int)(hF:F.R06_may a0 a1 a2=some r):
    A.Ct Tryz.prog 129 [.int .i64 a0,.agg #[.int .i64 a1.1,.int .i64 a1.2.1,.string a1.2.2],.agg #[.int .i64 a2.1,.string a2.2]] [] [] (fun v H'=>v=.int .i64 r∧H'=[]∧IntKind.i64.has r):=by
 refine A.Ct.enter Tryz.func129 rfl Tryz.ntmps129 rfl fun w0 F0=>?_
 rw[F.R06_may]at hF
 refine A.xl 1 ?_
 refine A.AL.box 0 (cs:=[.int .i64 a1.1,.int .i64 a1.2.1,.string a1.2.2]) fun g1=>?_
 refine A.AL.box 1 (cs:=[.int .i64 a2.1,.string a2.2]) fun g2=>?_
 refine A.q0 [] [] [.n] [] ?_
 refine A.dl 3 ?_
 refine A.q0 [0] [] [.n,.b 0 0] [(8,.int .i64 a0),(9,.agg #[.int .i64 a1.1,.int .i64 a1.2.1,.string a1.2.2])] ?_
 obtain⟨r3,hv4,hF⟩:=A.bd_some hF
 refine A.AL.call 2 [] (first:=[]) (cap:=[]) cf38 (R06_Check_ok a0 (a1.1,a1.2.1,a1.2.2) h0_ h1_ h2_ h3_ r3 hv4) .nil ?_
 rintro _ _ ⟨rfl,rfl,hr5⟩
 refine⟨by kernel_rfl,?_⟩
 refine A.q0 [] [] [.n] [(7,.int .i64 r3)] ?_
 refine A.dl 2 ?_
 refine A.q0 [] [] [.n,.n] [(12,.bool (decide (r3≠0)))] ?_
 refine A.dx 1 ?_
 refine A.AX.cnd rfl hF (fun hb hF=>?_) (fun hb hF=>?_)
 ·refine A.xl 1 ?_
  refine A.q0 [] [] [.n,.n] [(6,.int .i64 r3)] ?_
  refine A.dx 1 ?_
  obtain rfl:=Option.some.inj hF
  exact A.rt1 [] ⟨rfl,rfl,hr5⟩
 refine A.xl 3 ?_
 refine A.q0 [1] [] [.b 0 0] [(14,.agg #[.int .i64 a2.1,.string a2.2])] ?_
 obtain⟨r6,hv7,hF⟩:=A.bd_some hF
 refine A.AL.call 42 [] (first:=[]) (cap:=[]) cf27 (R05_Check_ok (a2.1,a2.2) h4_ h5_ r6 hv7) .nil ?_
 rintro _ _ ⟨rfl,rfl,hr8⟩
 refine⟨by kernel_rfl,?_⟩
 refine A.q0 [] [] [.n] [(6,.int .i64 r6)] ?_
 refine A.dx 1 ?_
 obtain rfl:=Option.some.inj hF
 exact A.rt1 [] ⟨rfl,rfl,hr8⟩
def F.R06_Measure (a0:D23)(a1:D43):Option (Int×Int):=(F.R06_may 11 (a0.1,a0.2.1,a0.2.2) (a1.1,a1.2)).bind fun r3=>(if r3≠0 then(some (0,r3))else(if a0.1=41 then(some (1,0))else((F.R05_Runes a1.2).bind fun r6=>(some (((r6).length:Int),0)))))
theorem R06_Measure_ok (a0:D23)(a1:D43)(h0_:IntKind.i64.has a0.1)(h1_:IntKind.i64.has a0.2.1)(h2_:a0.2.2.size≤maxLen)(h3_:IntKind.i64.has a1.1)(h4_:a1.2.size≤maxLen)(r:Int×Int)(hF:F.R06_Measure a0 a1=some r):
    A.Ct Tryz.prog 120 [.agg #[.int .i64 a0.1,.int .i64 a0.2.1,.string a0.2.2],.agg #[.int .i64 a1.1,.string a1.2]] [] [] (fun v H'=>v=.tuple #[.int .i64 r.1,.int .i64 r.2]∧H'=[]∧IntKind.i64.has r.1∧IntKind.i64.has r.2):=by
 refine A.Ct.enter Tryz.func120 rfl Tryz.ntmps120 rfl fun w0 F0=>?_
 rw[F.R06_Measure]at hF
 refine A.xl 1 ?_
 refine A.AL.box 0 (cs:=[.int .i64 a0.1,.int .i64 a0.2.1,.string a0.2.2]) fun g1=>?_
 refine A.AL.box 1 (cs:=[.int .i64 a1.1,.string a1.2]) fun g2=>?_
 refine A.q0 [] [] [.n,.n] [] ?_
 refine A.dl 3 ?_
 refine A.q0 [0,1] [] [.b 0 0,.b 1 0] [(7,.agg #[.int .i64 a0.1,.int .i64 a0.2.1,.string a0.2.2]),(8,.agg #[.int .i64 a1.1,.string a1.2])] ?_
 obtain⟨r3,hv4,hF⟩:=A.bd_some hF
 refine A.AL.call 2 [] (first:=[]) (cap:=[]) cf129 (R06_may_ok 11 (a0.1,a0.2.1,a0.2.2) (a1.1,a1.2) (A.hasl .i64 (11) rfl) h0_ h1_ h2_ h3_ h4_ r3 hv4) .nil ?_
 rintro _ _ ⟨rfl,rfl,hr5⟩
 refine⟨by kernel_rfl,?_⟩
 refine A.q0 [] [] [.n] [(6,.int .i64 r3)] ?_
 refine A.dl 2 ?_
 refine A.q0 [] [] [.n,.n] [(11,.bool (decide (r3≠0)))] ?_
 refine A.dx 1 ?_
 refine A.AX.cnd rfl hF (fun hb hF=>?_) (fun hb hF=>?_)
 ·refine A.xl 1 ?_
  refine A.q0 [] [] [.n,.n,.n] [(4,.int .i64 0),(5,.int .i64 r3)] ?_
  refine A.dx 1 ?_
  obtain rfl:=Option.some.inj hF
  exact A.rt2 [] ⟨rfl,rfl,(A.hasl .i64 (0) rfl),hr5⟩
 refine A.xl 4 ?_
 refine A.q0 [0] [] [.n,.b 0 0,.n] [(15,.bool (decide (a0.1=41)))] ?_
 refine A.dx 1 ?_
 refine A.AX.cnd rfl hF (fun hb hF=>?_) (fun hb hF=>?_)
 ·refine A.xl 1 ?_
  refine A.q0 [] [] [.n,.n] [(4,.int .i64 1),(5,.int .i64 0)] ?_
  refine A.dx 1 ?_
  obtain rfl:=Option.some.inj hF
  exact A.rt2 [] ⟨rfl,rfl,(A.hasl .i64 (1) rfl),(A.hasl .i64 (0) rfl)⟩
 refine A.xl 3 ?_
 refine A.q0 [1] [] [.n,.b 0 1] [(17,.string a1.2)] ?_
 obtain⟨r6,hv7,hF⟩:=A.bd_some hF
 refine A.AL.call 42 [] (first:=[]) (cap:=[]) cf117 (R05_Runes_ok a1.2 h4_ r6 hv7) .nil ?_
 rintro _ _ ⟨A8,c9,rfl,rfl⟩
 refine⟨by kernel_rfl,?_⟩
 refine A.q0 [] [] [.n,.n,.n] [(4,.int .i64 ((r6).length:Int)),(5,.int .i64 0)] ?_
 refine A.dx 1 ?_
 obtain rfl:=Option.some.inj hF
 refine A.oko 42 fun hl10=>?_
 exact A.rt2 [] ⟨rfl,rfl,(A.has_len hl10.1),(A.hasl .i64 (0) rfl)⟩
def F.R17_total_j1 (k3:Int→Int→Option Int)(y5:Int)(y8:Int):Option Int:=A.gd (Z.R64 (y5+1)) (k3 y8 (y5+1))
def F.R17_total_l2 (a0:D25)(a1:D55):Nat→Int→Int→Option Int
 |0,_,_=>none
 |f+1,y22,y24=>if y24<((a1.2).length:Int)then((A.ix a1.2 y24).bind fun x27=>((F.R06_Measure (a0.2.2.2.1.1,a0.2.2.2.1.2.1,a0.2.2.2.1.2.2) (x27.1.1,x27.1.2)).bind fun r33=>((A.ix a1.2 y24).bind fun x37=>(A.gd (Z.R64 (r33.1*x37.2)∧Z.R64 (y22+(r33.1*x37.2))) (A.gd (Z.R64 (y24+1)) ((F.R17_total_l2 a0 a1 f) (min 1099511627776 (y22+(r33.1*x37.2))) (y24+1)))))))else(some y22)
def F.R17_total_l3 (a0:D25)(a1:D55)(a2:(List D46)):Nat→Int→Int→Option Int
 |0,_,_=>none
 |f+1,y3,y5=>if y5<((a2).length:Int)then((A.ix a2 y5).bind fun x11=>(if x11.2.1=a1.1 then((A.ix a2 y5).bind fun x17=>(F.R17_total_j1 (F.R17_total_l3 a0 a1 a2 f) y5 x17.2.2.2))else(F.R17_total_j1 (F.R17_total_l3 a0 a1 a2 f) y5 y3)))else(F.R17_total_l2 a0 a1 A.FU y3 0)
def F.R17_total (a0:D25)(a1:D55)(a2:(List D46)):Option Int:=F.R17_total_l3 a0 a1 a2 A.FU 0 0
theorem R17_total_ok (a0:D25)(a1:D55)(a2:(List D46))(A2_:Option Addr)(c3_:Nat)(A11_:Option Addr)(c12_:Nat)(A13_:Option Addr)(c14_:Nat)(h0_:IntKind.i64.has a0.1)(h1_:IntKind.i64.has a0.2.1)(h4_:IntKind.i64.has a0.2.2.2.1.1)(h5_:IntKind.i64.has a0.2.2.2.1.2.1)(h6_:a0.2.2.2.1.2.2.size≤maxLen)(h7_:a0.2.2.2.2.1.size≤maxLen)(h8_:IntKind.i64.has a0.2.2.2.2.2.1)(h9_:IntKind.i64.has a0.2.2.2.2.2.2)(h10_:IntKind.i64.has a1.1)(r:Int)(hF:F.R17_total a0 a1 a2=some r):
    A.Ct Tryz.prog 78 [.agg #[.int .i64 a0.1,.int .i64 a0.2.1,.slice A2_ ((a0.2.2.1).length) c3_,.int .i64 a0.2.2.2.1.1,.int .i64 a0.2.2.2.1.2.1,.string a0.2.2.2.1.2.2,.string a0.2.2.2.2.1,.int .i64 a0.2.2.2.2.2.1,.int .i64 a0.2.2.2.2.2.2],.agg #[.int .i64 a1.1,.slice A11_ ((a1.2).length) c12_],.slice A13_ ((a2).length) c14_] [(0,.sh (.slice (Z.Ty.int .i64)) [.slice A2_ (a0.2.2.1).length c3_] a0.2.2.1),(1,.sh (.slice T69) [.slice A11_ (a1.2).length c12_] a1.2),(2,.ln T46 A13_ c14_ a2)] [] (fun v H'=>v=.int .i64 r∧H'=[]∧IntKind.i64.has r):=by
 refine A.Ct.enter Tryz.func78 rfl Tryz.ntmps78 rfl fun w0 F0=>?_
 rw[F.R17_total]at hF
 refine A.xl 1 ?_
 refine A.AL.box 3 (cs:=[.int .i64 a0.1,.int .i64 a0.2.1,.slice A2_ ((a0.2.2.1).length) c3_,.int .i64 a0.2.2.2.1.1,.int .i64 a0.2.2.2.1.2.1,.string a0.2.2.2.1.2.2,.string a0.2.2.2.2.1,.int .i64 a0.2.2.2.2.2.1,.int .i64 a0.2.2.2.2.2.2]) fun g1=>?_
 refine A.AL.box 4 (cs:=[.int .i64 a1.1,.slice A11_ ((a1.2).length) c12_]) fun g2=>?_
 refine A.q0 [] [] [.n] [] ?_
 refine A.dl 2 ?_
 refine A.q0 [] [] [.n] [(7,.int .i64 0)] ?_
 refine A.dl 3 ?_
 refine A.q0 [] [] [.n] [(8,.int .i64 0)] ?_
 refine A.dx 2 ?_
 refine A.lp_ [2,3,4] [0,1,2,3,4] (fun f nl nh=>∃(y3:Int),∃(y5:Int),nl=[(7,.int .i64 y3),(8,.int .i64 y5)]∧nh=[]∧IntKind.i64.has y3∧IntKind.i64.has y5∧F.R17_total_l3 a0 a1 a2 f y3 y5=some r) ⟨0,0,rfl,rfl,(A.hasl .i64 (0) rfl),(A.hasl .i64 (0) rfl),hF⟩ ?_
 rintro f7 _ _ ⟨y3,y5,rfl,rfl,hy4,hy6,hF⟩
 rcases f7 with _|f7
 ·exact A.no0 hF
 rw[F.R17_total_l3]at hF
 refine A.xl 2 ?_
 refine A.q0 [] [] [.n,.n,.n,.n] [(15,.bool (decide (y5<((a2).length:Int))))] ?_
 refine A.dx 1 ?_
 refine A.AX.cnd rfl hF (fun hb hF=>?_) (fun hb hF=>?_)
 ·refine A.xx 2 ?_
  refine A.AX.join [2,3,4,8] [0,1,2,3,4] (fun nl nh=>∃(y8:Int),nl=[(7,.int .i64 y8)]∧nh=[]∧IntKind.i64.has y8∧F.R17_total_j1 (F.R17_total_l3 a0 a1 a2 f7) y5 y8=some r) ?_ ?_
  ·refine A.xx 2 ?_
   refine A.AX.dr mixed 8 8 (A.mb 8 0) ?_
   refine A.hq A.pb [] [0,1,2,3,4] [4] [] (A.mb 8 99) 4 [(0,.n),(1,.n),(5,.n),(6,.b 0 0)] [(18,.slice A13_ ((a2).length) c14_),(19,.int .i64 y5),(24,.int .i64 a1.1)] ?_
   obtain⟨x11,hv12,hF⟩:=A.bd_some hF
   refine A.AH.pkl 2 261 hv12 fun ho13=>?_
   intro b15 o16 hA14
   refine A.AH.v A.pb [0,1,2,3,4] [0,1,2,3,4,261] 2 (A.mb 8 103) rfl (fun a w hf hh=>A.r_ixa (t:=T46) hv12 hA14 hf) ?_
   refine A.hq A.pb [0,1,2,3,4,261] [0,1,2,3,4,261] [] [261] (A.mb 8 255) 0 [(3,.n),(4,.e 0 1),(7,.n)] [(25,.bool (decide (x11.2.1=a1.1)))] ?_
   refine A.AH.done ?_
   refine A.ex 1 ?_
   refine A.AX.cnd rfl hF (fun hb hF=>?_) (fun hb hF=>?_)
   ·refine A.xl 0 ?_
    refine A.q0 [] [] [.n,.n] [(26,.slice A13_ ((a2).length) c14_),(27,.int .i64 y5)] ?_
    obtain⟨x17,hv18,hF⟩:=A.bd_some hF
    refine A.AL.ixl 2 262 hv18 fun ho19=>?_
    intro b20 o21
    refine A.q0 [] [262] [.n,.e 0 3,.n] [(7,.int .i64 x17.2.2.2)] ?_
    refine A.de 1 ?_
    exact A.j ⟨x17.2.2.2,rfl,rfl,ho19.2.2.2,hF⟩
   refine A.xe 2 ?_
   exact A.j ⟨y3,rfl,rfl,hy4,hF⟩
  rintro _ _ ⟨y8,rfl,rfl,hy9,hF⟩
  rw[F.R17_total_j1]at hF
  refine A.xl 0 ?_
  obtain⟨hc10,hF⟩:=A.gd_some hF
  refine A.q [] [] [.n,.n,.n] [Z.R64 (y5+1)] [(8,.int .i64 (y5+1))] hc10 ?_
  refine A.AL.done ?_
  exact A.j ⟨_,Nat.lt_succ_self _,⟨y8,(y5+1),rfl,rfl,hy9,(Z.i64_has hc10),hF⟩⟩
 refine A.xl 4 ?_
 refine A.q0 [] [] [.n] [(9,.int .i64 0)] ?_
 refine A.dx 2 ?_
 refine A.lp_ [3,4] [0,1,3,4] (fun f nl nh=>∃(y22:Int),∃(y24:Int),nl=[(7,.int .i64 y22),(9,.int .i64 y24)]∧nh=[]∧IntKind.i64.has y22∧IntKind.i64.has y24∧F.R17_total_l2 a0 a1 f y22 y24=some r) ⟨y3,0,rfl,rfl,hy4,(A.hasl .i64 (0) rfl),hF⟩ ?_
 rintro f26 _ _ ⟨y22,y24,rfl,rfl,hy23,hy25,hF⟩
 rcases f26 with _|f26
 ·exact A.no0 hF
 rw[F.R17_total_l2]at hF
 refine A.xl 2 ?_
 refine A.q0 [4] [] [.n,.n,.b 0 1,.n,.n] [(35,.bool (decide (y24<((a1.2).length:Int))))] ?_
 refine A.dx 1 ?_
 refine A.AX.cnd rfl hF (fun hb hF=>?_) (fun hb hF=>?_)
 ·refine A.xx 5 ?_
  refine A.AX.dr mixed 14 14 (A.mb 14 0) ?_
  refine A.hq A.pb [] [0,1,3,4] [3,4] [] (A.mb 14 31) 9 [(0,.n),(2,.n),(4,.n),(1,.b 0 3),(3,.b 1 1)] [(43,.int .i64 y24),(40,.agg #[.int .i64 a0.2.2.2.1.1,.int .i64 a0.2.2.2.1.2.1,.string a0.2.2.2.1.2.2]),(42,.slice A11_ ((a1.2).length) c12_)] ?_
  obtain⟨x27,hv28,hF⟩:=A.bd_some hF
  refine A.AH.pks 1 347 hv28 fun ho29=>?_
  intro b31 o32 hA30
  refine A.AH.v A.pb [0,1,3,4] [0,1,3,4,347] 5 (A.mb 14 63) rfl (fun a w hf hh=>A.r_ixa (t:=T69) hv28 hA30 hf) ?_
  refine A.hq A.pb [0,1,3,4,347] [0,1,3,4,347] [] [347] (A.mb 14 255) 6 [(6,.n),(7,.e 0 0)] [(46,.agg #[.int .i64 x27.1.1,.string x27.1.2])] ?_
  refine A.AH.one 8 ?_
  obtain⟨r33,hv34,hF⟩:=A.bd_some hF
  refine A.AL.call 348 [] (first:=[]) (cap:=[]) cf120 (R06_Measure_ok (a0.2.2.2.1.1,a0.2.2.2.1.2.1,a0.2.2.2.1.2.2) (x27.1.1,x27.1.2) h4_ h5_ h6_ ho29.1.1 ho29.1.2 r33 hv34) .nil ?_
  rintro _ _ ⟨rfl,rfl,hr35,hr36⟩
  refine⟨by kernel_rfl,?_⟩
  refine A.AH.nx (A.mb 14 511) [0,1,3,4,347] ?_
  refine A.hq A.pb [0,1,3,4,347] [0,1,3,4,347] [] [] (A.mb 14 16383) 0 [(9,.n),(10,.n),(11,.n),(12,.n),(13,.n)] [(10,.int .i64 r33.1)] ?_
  refine A.AH.done ?_
  refine A.el 1 ?_
  refine A.q0 [4] [] [.n,.n,.n,.b 0 1,.n] [(50,.int .i64 y22),(51,.int .i64 r33.1),(53,.slice A11_ ((a1.2).length) c12_),(54,.int .i64 y24)] ?_
  obtain⟨x37,hv38,hF⟩:=A.bd_some hF
  refine A.AL.ixs 1 388 hv38 fun ho39=>?_
  intro b40 o41
  obtain⟨hc42,hF⟩:=A.gd_some hF
  refine A.q [] [388] [.n,.e 0 2,.n,.n,.n,.n] [Z.R64 (r33.1*x37.2),Z.R64 (y22+(r33.1*x37.2))] [(7,.int .i64 (min 1099511627776 (y22+(r33.1*x37.2))))] hc42 ?_
  refine A.dl 2 ?_
  obtain⟨hc43,hF⟩:=A.gd_some hF
  refine A.q [] [] [.n,.n,.n] [Z.R64 (y24+1)] [(9,.int .i64 (y24+1))] hc43 ?_
  refine A.AL.done ?_
  exact A.j ⟨_,Nat.lt_succ_self _,⟨(min 1099511627776 (y22+(r33.1*x37.2))),(y24+1),rfl,rfl,(A.has_min (A.hasl .i64 (1099511627776) rfl) (Z.i64_has hc42.2)),(Z.i64_has hc43),hF⟩⟩
 refine A.xl 3 ?_
 refine A.q0 [] [] [.n,.n] [(6,.int .i64 y22)] ?_
 refine A.dx 1 ?_
 obtain rfl:=Option.some.inj hF
 exact A.rt1 [] ⟨rfl,rfl,hy23⟩
def F.R17_ahead (a0:D46)(a1:D46):Option Bool:=(F.R05_Compare (a0.2.1,a0.2.2.1) (a1.2.1,a1.2.2.1)).bind fun r3=>(some (decide (r3<0)))
theorem R17_ahead_ok (a0:D46)(a1:D46)(h0_:IntKind.i64.has a0.1)(h1_:IntKind.i64.has a0.2.1)(h2_:a0.2.2.1.size≤maxLen)(h3_:IntKind.i64.has a0.2.2.2)(h4_:IntKind.i64.has a1.1)(h5_:IntKind.i64.has a1.2.1)(h6_:a1.2.2.1.size≤maxLen)(h7_:IntKind.i64.has a1.2.2.2)(r:Bool)(hF:F.R17_ahead a0 a1=some r):
    A.Ct Tryz.prog 44 [.agg #[.int .i64 a0.1,.int .i64 a0.2.1,.string a0.2.2.1,.int .i64 a0.2.2.2],.agg #[.int .i64 a1.1,.int .i64 a1.2.1,.string a1.2.2.1,.int .i64 a1.2.2.2]] [] [] (fun v H'=>v=.bool r∧H'=[]):=by
 refine A.Ct.enter Tryz.func44 rfl Tryz.ntmps44 rfl fun w0 F0=>?_
 rw[F.R17_ahead]at hF
 refine A.xl 1 ?_
 refine A.AL.box 0 (cs:=[.int .i64 a0.1,.int .i64 a0.2.1,.string a0.2.2.1,.int .i64 a0.2.2.2]) fun g1=>?_
 refine A.AL.box 1 (cs:=[.int .i64 a1.1,.int .i64 a1.2.1,.string a1.2.2.1,.int .i64 a1.2.2.2]) fun g2=>?_
 refine A.q0 [] [] [.n] [] ?_
 refine A.dl 2 ?_
 refine A.q0 [0,1] [] [.n,.b 0 1,.n,.b 0 2,.n,.n,.b 1 1,.n,.b 1 2,.n] [(9,.agg #[.int .i64 a0.2.1,.string a0.2.2.1]),(14,.agg #[.int .i64 a1.2.1,.string a1.2.2.1])] ?_
 obtain⟨r3,hv4,hF⟩:=A.bd_some hF
 refine A.AL.call 2 [] (first:=[]) (cap:=[]) cf74 (R05_Compare_ok (a0.2.1,a0.2.2.1) (a1.2.1,a1.2.2.1) h1_ h2_ h5_ h6_ r3 hv4) .nil ?_
 rintro _ _ ⟨rfl,rfl,hr5⟩
 refine⟨by kernel_rfl,?_⟩
 refine A.q0 [] [] [.n,.n] [(4,.bool (decide (r3<0)))] ?_
 refine A.dx 1 ?_
 obtain rfl:=Option.some.inj hF
 exact A.rt1 [] ⟨rfl,rfl⟩
end Go.Proofs.YtbljnlkhebiniaaGreatDoor
end
section
set_option linter.unusedVariables false
set_option linter.unusedSimpArgs false
set_option maxRecDepth 20000
set_option maxHeartbeats 8000000
set_option synthInstance.maxSize 1000000
set_option synthInstance.maxHeartbeats 400000
namespace Go.Proofs.YtbljnlkhebiniaaGreatDoor
open Go.RowKit
def F.R17_putEntry_j1 (k1:(List D46)→Bool→Int→Option (List D46))(y6:Int)(xs11:List D46)(y12:Bool):Option (List D46):=A.gd (Z.R64 (y6+1)) (k1 xs11 y12 (y6+1))
def F.R17_putEntry_j2 (k1:(List D46)→Bool→Int→Option (List D46))(a0:(List D46))(y6:Int)(xs16:List D46)(y17:Bool)(y18:Bool):Option (List D46):=if y18=true then((A.ix a0 y6).bind fun x19=>(A.gd ((List.length (α:=D46) xs16+List.length (α:=D46) [(x19.1,x19.2.1,x19.2.2.1,x19.2.2.2)])*40≤140737488355328) (F.R17_putEntry_j1 k1 y6 (xs16++[(x19.1,x19.2.1,x19.2.2.1,x19.2.2.2)]) y17)))else(F.R17_putEntry_j1 k1 y6 xs16 y17)
def F.R17_putEntry_j3 (k1:(List D46)→Bool→Int→Option (List D46))(a0:(List D46))(a1:D46)(y6:Int)(xs16:List D46)(y17:Bool):Option (List D46):=(A.ix a0 y6).bind fun x28=>((F.R17_ahead (x28.1,x28.2.1,x28.2.2.1,x28.2.2.2) (a1.1,a1.2.1,a1.2.2.1,a1.2.2.2)).bind fun r34=>(if r34=true then(F.R17_putEntry_j2 k1 a0 y6 xs16 y17 true)else((A.ix a0 y6).bind fun x36=>((F.R17_ahead (a1.1,a1.2.1,a1.2.2.1,a1.2.2.2) (x36.1,x36.2.1,x36.2.2.1,x36.2.2.2)).bind fun r42=>(F.R17_putEntry_j2 k1 a0 y6 xs16 y17 r42)))))
def F.R17_putEntry_j4 (k1:(List D46)→Bool→Int→Option (List D46))(a0:(List D46))(a1:D46)(xs4:List D46)(y5:Bool)(y6:Int)(y44:Bool):Option (List D46):=if y44=true then(A.gd ((List.length (α:=D46) xs4+List.length (α:=D46) [(a1.1,a1.2.1,a1.2.2.1,a1.2.2.2)])*40≤140737488355328) (F.R17_putEntry_j3 k1 a0 a1 y6 (xs4++[(a1.1,a1.2.1,a1.2.2.1,a1.2.2.2)]) true))else(F.R17_putEntry_j3 k1 a0 a1 y6 xs4 y5)
def F.R17_putEntry_j5 (xs59:List D46):Option (List D46):=some xs59
def F.R17_putEntry_l6 (a0:(List D46))(a1:D46):Nat→(List D46)→Bool→Int→Option (List D46)
 |0,_,_,_=>none
 |f+1,xs4,y5,y6=>if y6<((a0).length:Int)then(if(!y5)=true then((A.ix a0 y6).bind fun x49=>((F.R17_ahead (x49.1,x49.2.1,x49.2.2.1,x49.2.2.2) (a1.1,a1.2.1,a1.2.2.1,a1.2.2.2)).bind fun r55=>(F.R17_putEntry_j4 (F.R17_putEntry_l6 a0 a1 f) a0 a1 xs4 y5 y6 (!r55))))else(F.R17_putEntry_j4 (F.R17_putEntry_l6 a0 a1 f) a0 a1 xs4 y5 y6 false))else(if(!y5)=true then(A.gd ((List.length (α:=D46) xs4+List.length (α:=D46) [(a1.1,a1.2.1,a1.2.2.1,a1.2.2.2)])*40≤140737488355328) (F.R17_putEntry_j5 (xs4++[(a1.1,a1.2.1,a1.2.2.1,a1.2.2.2)])))else(F.R17_putEntry_j5 xs4))
def F.R17_putEntry (a0:(List D46))(a1:D46):Option (List D46):=F.R17_putEntry_l6 a0 a1 A.FU [] false 0
theorem R17_putEntry_ok (a0:(List D46))(a1:D46)(A0_:Option Addr)(c1_:Nat)(h2_:IntKind.i64.has a1.1)(h3_:IntKind.i64.has a1.2.1)(h4_:a1.2.2.1.size≤maxLen)(h5_:IntKind.i64.has a1.2.2.2)(r:(List D46))(hF:F.R17_putEntry a0 a1=some r):
    A.Ct Tryz.prog 79 [.slice A0_ ((a0).length) c1_,.agg #[.int .i64 a1.1,.int .i64 a1.2.1,.string a1.2.2.1,.int .i64 a1.2.2.2]] [(0,.ln T46 A0_ c1_ a0)] [] (fun v H'=>∃(A0':Option Addr) (c1':Nat),v=.slice A0' ((r).length) c1'∧H'=[(0,.own T46 47 A0' c1' r)]):=by
 refine A.Ct.enter Tryz.func79 rfl Tryz.ntmps79 rfl fun w0 F0=>?_
 rw[F.R17_putEntry]at hF
 refine A.xl 1 ?_
 refine A.AL.box 1 (cs:=[.int .i64 a1.1,.int .i64 a1.2.1,.string a1.2.2.1,.int .i64 a1.2.2.2]) fun g1=>?_
 refine A.q0 [] [] [.n] [] ?_
 refine A.dl 2 ?_
 refine A.q0 [] [] [.n] [(5,.slice none 0 0)] ?_
 refine A.dl 2 ?_
 refine A.q0 [] [] [.n] [(6,.bool false)] ?_
 refine A.dl 3 ?_
 refine A.q0 [] [] [.n] [(7,.int .i64 0)] ?_
 refine A.dx 2 ?_
 refine A.nil 426 T46 47 ?_
 refine A.lp_ [0,3] [0,1] (fun f nl nh=>∃(xs4:List D46),∃(y5:Bool),∃(y6:Int),∃(A2:Option Addr),∃(c3:Nat),nl=[(5,.slice A2 ((xs4).length) c3),(6,.bool y5),(7,.int .i64 y6)]∧nh=[(426,.own T46 47 A2 c3 xs4)]∧IntKind.i64.has y6∧F.R17_putEntry_l6 a0 a1 f xs4 y5 y6=some r) ⟨[],false,0,none,0,rfl,rfl,(A.hasl .i64 (0) rfl),hF⟩ ?_
 rintro f8 _ _ ⟨xs4,y5,y6,A2,c3,rfl,rfl,hy7,hF⟩
 rcases f8 with _|f8
 ·exact A.no0 hF
 rw[F.R17_putEntry_l6]at hF
 refine A.xl 2 ?_
 refine A.q0 [] [] [.n,.n,.n,.n] [(11,.bool (decide (y6<((a0).length:Int))))] ?_
 refine A.dx 1 ?_
 refine A.AX.cnd rfl hF (fun hb hF=>?_) (fun hb hF=>?_)
 ·refine A.xx 2 ?_
  refine A.AX.join [0,3,7] [0,1] (fun nl nh=>∃(xs11:List D46),∃(y12:Bool),∃(A9:Option Addr),∃(c10:Nat),nl=[(5,.slice A9 ((xs11).length) c10),(6,.bool y12)]∧nh=[(426,.own T46 47 A9 c10 xs11)]∧F.R17_putEntry_j1 (F.R17_putEntry_l6 a0 a1 f8) y6 xs11 y12=some r) ?_ ?_
  ·refine A.xx 1 ?_
   refine A.AX.join [0,3,7] [0,1] (fun nl nh=>∃(xs16:List D46),∃(y17:Bool),∃(A14:Option Addr),∃(c15:Nat),nl=[(5,.slice A14 ((xs16).length) c15),(6,.bool y17)]∧nh=[(426,.own T46 47 A14 c15 xs16)]∧F.R17_putEntry_j3 (F.R17_putEntry_l6 a0 a1 f8) a0 a1 y6 xs16 y17=some r) ?_ ?_
   ·refine A.AX.join [0,3,5,6,7] [0,1,426] (fun nl nh=>∃(y44:Bool),nl=[(24,.bool y44)]∧nh=[]∧F.R17_putEntry_j4 (F.R17_putEntry_l6 a0 a1 f8) a0 a1 xs4 y5 y6 y44=some r) ?_ ?_
    ·refine A.AX.dr mixed 11 11 (A.mb 11 0) ?_
     refine A.hq A.pb [] [0,1,426] [] [] (A.mb 11 7) 8 [(0,.n),(1,.n),(2,.n)] [(16,.bool (!y5))] ?_
     refine A.AH.cnd (j:=16) rfl hF (fun hF=>?_) (fun hF=>?_)
     ·refine A.hq A.pb [0,1,426] [0,1,426] [1] [] (A.mb 11 159) 5 [(3,.on .n),(4,.on .n),(7,.on (.b 0 0))] [(17,.slice A0_ ((a0).length) c1_),(18,.int .i64 y6),(21,.agg #[.int .i64 a1.1,.int .i64 a1.2.1,.string a1.2.2.1,.int .i64 a1.2.2.2])] ?_
      obtain⟨x49,hv50,hF⟩:=A.bd_some hF
      refine A.AH.pkl 0 723 hv50 fun ho51=>?_
      intro b53 o54 hA52
      refine A.AH.vg A.pb [0,1,426] [0,1,426,723] 5 (A.mb 11 191) (dj:=16) rfl (fun a w hf hh=>A.r_ixa (t:=T46) hv50 hA52 hf) ?_
      refine A.hq A.pb [0,1,426,723] [0,1,426,723] [] [723] (A.mb 11 255) 3 [(6,.on (.e 0 0))] [(20,.agg #[.int .i64 x49.1,.int .i64 x49.2.1,.string x49.2.2.1,.int .i64 x49.2.2.2])] ?_
      refine A.AH.one 8 ?_
      refine A.AL.on (dj:=16) rfl rfl ?_
      obtain⟨r55,hv56,hF⟩:=A.bd_some hF
      refine A.AL.call 724 [] (first:=[]) (cap:=[]) cf44 (R17_ahead_ok (x49.1,x49.2.1,x49.2.2.1,x49.2.2.2) (a1.1,a1.2.1,a1.2.2.1,a1.2.2.2) ho51.1 ho51.2.1 ho51.2.2.1 ho51.2.2.2 h2_ h3_ h4_ h5_ r55 hv56) .nil ?_
      rintro _ _ ⟨rfl,rfl⟩
      refine⟨by kernel_rfl,?_⟩
      refine A.AH.nx (A.mb 11 511) [0,1,426,723] ?_
      refine A.hq A.pb [0,1,426,723] [0,1,426,723] [] [] (A.mb 11 2047) 0 [(9,.on .n),(10,.n)] [(24,.bool (!r55))] ?_
      refine A.AH.done ?_
      exact A.j ⟨(!r55),rfl,rfl,hF⟩
     refine A.hq A.pb [0,1,426] [0,1,426] [] [] (A.mb 11 2047) 0 [(3,.off),(4,.off),(7,.off),(5,.off),(6,.off),(8,.off),(9,.off),(10,.n)] [(24,.bool false)] ?_
     refine A.AH.done ?_
     exact A.j ⟨false,rfl,rfl,hF⟩
    rintro _ _ ⟨y44,rfl,rfl,hF⟩
    rw[F.R17_putEntry_j4]at hF
    refine A.AX.cnb rfl hF (fun hb hF=>?_) (fun hb hF=>?_)
    ·refine A.xl 1 ?_
     refine A.q0 [1] [] [.n,.b 0 0] [(25,.slice A2 ((xs4).length) c3),(26,.agg #[.int .i64 a1.1,.int .i64 a1.2.1,.string a1.2.2.1,.int .i64 a1.2.2.2])] ?_
     refine A.AL.bsl 764 (ty:=T46) (cs:=[.int .i64 a1.1,.int .i64 a1.2.1,.string a1.2.2.1,.int .i64 a1.2.2.2]) [(a1.1,a1.2.1,a1.2.2.1,a1.2.2.2)] ⟨⟨⟨rfl,h2_⟩,⟨rfl,h3_⟩,⟨rfl,h4_⟩,⟨rfl,h5_⟩⟩,rfl⟩ (fun g45=>?_) Tryz.zeroValue47 Tryz.sizeOf47
     obtain⟨hl48,hF⟩:=A.gd_some hF
     refine A.AL.app (k:=426) [] (A.rowO (k:=764) rfl) inf47 hl48 fun A46 c47=>?_
     refine A.q0 [] [] [.n] [(5,.slice A46 ((xs4++[(a1.1,a1.2.1,a1.2.2.1,a1.2.2.2)]).length) c47)] ?_
     refine A.dl 1 ?_
     refine A.q0 [] [] [.n] [(6,.bool true)] ?_
     refine A.AL.done ?_
     exact A.j ⟨(xs4++[(a1.1,a1.2.1,a1.2.2.1,a1.2.2.2)]),true,A46,c47,rfl,rfl,hF⟩
    refine A.xe 1 ?_
    exact A.j ⟨xs4,y5,A2,c3,rfl,rfl,hF⟩
   rintro _ _ ⟨xs16,y17,A14,c15,rfl,rfl,hF⟩
   rw[F.R17_putEntry_j3]at hF
   refine A.AX.join [0,3,5,6,7] [0,1,426] (fun nl nh=>∃(y18:Bool),nl=[(42,.bool y18)]∧nh=[]∧F.R17_putEntry_j2 (F.R17_putEntry_l6 a0 a1 f8) a0 y6 xs16 y17 y18=some r) ?_ ?_
   ·refine A.AX.dr mixed 14 14 (A.mb 14 0) ?_
    refine A.hq A.pb [] [0,1,426] [1] [] (A.mb 14 19) 11 [(0,.n),(1,.n),(4,.b 0 0)] [(29,.slice A0_ ((a0).length) c1_),(30,.int .i64 y6),(33,.agg #[.int .i64 a1.1,.int .i64 a1.2.1,.string a1.2.2.1,.int .i64 a1.2.2.2])] ?_
    obtain⟨x28,hv29,hF⟩:=A.bd_some hF
    refine A.AH.pkl 0 765 hv29 fun ho30=>?_
    intro b32 o33 hA31
    refine A.AH.v A.pb [0,1,426] [0,1,426,765] 2 (A.mb 14 23) rfl (fun a w hf hh=>A.r_ixa (t:=T46) hv29 hA31 hf) ?_
    refine A.hq A.pb [0,1,426,765] [0,1,426,765] [] [765] (A.mb 14 31) 9 [(3,.e 0 0)] [(32,.agg #[.int .i64 x28.1,.int .i64 x28.2.1,.string x28.2.2.1,.int .i64 x28.2.2.2])] ?_
    refine A.AH.one 5 ?_
    obtain⟨r34,hv35,hF⟩:=A.bd_some hF
    refine A.AL.call 766 [] (first:=[]) (cap:=[]) cf44 (R17_ahead_ok (x28.1,x28.2.1,x28.2.2.1,x28.2.2.2) (a1.1,a1.2.1,a1.2.2.1,a1.2.2.2) ho30.1 ho30.2.1 ho30.2.2.1 ho30.2.2.2 h2_ h3_ h4_ h5_ r34 hv35) .nil ?_
    rintro _ _ ⟨rfl,rfl⟩
    refine⟨by kernel_rfl,?_⟩
    refine A.AH.nx (A.mb 14 63) [0,1,426,765] ?_
    refine A.hq A.pb [0,1,426,765] [0,1,426,765] [] [] (A.mb 14 127) 7 [(6,.n)] [(35,.bool r34)] ?_
    refine A.AH.cnd (j:=35) rfl hF (fun hF=>?_) (fun hF=>?_)
    ·refine A.hq A.pb [0,1,426,765] [0,1,426,765] [] [] (A.mb 14 16383) 0 [(7,.off),(8,.off),(9,.off),(10,.off),(11,.off),(12,.off),(13,.n)] [(42,.bool true)] ?_
     refine A.AH.done ?_
     exact A.j ⟨true,rfl,rfl,hF⟩
    refine A.hq A.pb [0,1,426,765] [0,1,426,765] [1] [] (A.mb 14 1023) 4 [(7,.on (.b 0 0)),(8,.on .n),(9,.on .n)] [(36,.agg #[.int .i64 a1.1,.int .i64 a1.2.1,.string a1.2.2.1,.int .i64 a1.2.2.2]),(37,.slice A0_ ((a0).length) c1_),(38,.int .i64 y6)] ?_
    obtain⟨x36,hv37,hF⟩:=A.bd_some hF
    refine A.AH.pkl 0 806 hv37 fun ho38=>?_
    intro b40 o41 hA39
    refine A.AH.vg A.pb [0,1,426,765] [0,1,426,765,806] 10 (A.mb 14 2047) (dj:=35) rfl (fun a w hf hh=>A.r_ixa (t:=T46) hv37 hA39 hf) ?_
    refine A.hq A.pb [0,1,426,765,806] [0,1,426,765,806] [] [806] (A.mb 14 4095) 2 [(11,.on (.e 0 0))] [(40,.agg #[.int .i64 x36.1,.int .i64 x36.2.1,.string x36.2.2.1,.int .i64 x36.2.2.2])] ?_
    refine A.AH.one 12 ?_
    refine A.AL.on (dj:=35) rfl rfl ?_
    obtain⟨r42,hv43,hF⟩:=A.bd_some hF
    refine A.AL.call 807 [] (first:=[]) (cap:=[]) cf44 (R17_ahead_ok (a1.1,a1.2.1,a1.2.2.1,a1.2.2.2) (x36.1,x36.2.1,x36.2.2.1,x36.2.2.2) h2_ h3_ h4_ h5_ ho38.1 ho38.2.1 ho38.2.2.1 ho38.2.2.2 r42 hv43) .nil ?_
    rintro _ _ ⟨rfl,rfl⟩
    refine⟨by kernel_rfl,?_⟩
    refine A.AH.nx (A.mb 14 8191) [0,1,426,765,806] ?_
    refine A.hq A.pb [0,1,426,765,806] [0,1,426,765,806] [] [] (A.mb 14 16383) 0 [(13,.n)] [(42,.bool r42)] ?_
    refine A.AH.done ?_
    exact A.j ⟨r42,rfl,rfl,hF⟩
   rintro _ _ ⟨y18,rfl,rfl,hF⟩
   rw[F.R17_putEntry_j2]at hF
   refine A.AX.cnb rfl hF (fun hb hF=>?_) (fun hb hF=>?_)
   ·refine A.xl 0 ?_
    refine A.q0 [] [] [.n,.n,.n] [(43,.slice A14 ((xs16).length) c15),(44,.slice A0_ ((a0).length) c1_),(45,.int .i64 y6)] ?_
    obtain⟨x19,hv20,hF⟩:=A.bd_some hF
    refine A.AL.ixl 0 847 hv20 fun ho21=>?_
    intro b22 o23
    refine A.q0 [] [847] [.e 0 0] [(47,.agg #[.int .i64 x19.1,.int .i64 x19.2.1,.string x19.2.2.1,.int .i64 x19.2.2.2])] ?_
    refine A.AL.bsl 848 (ty:=T46) (cs:=[.int .i64 x19.1,.int .i64 x19.2.1,.string x19.2.2.1,.int .i64 x19.2.2.2]) [(x19.1,x19.2.1,x19.2.2.1,x19.2.2.2)] ⟨⟨⟨rfl,ho21.1⟩,⟨rfl,ho21.2.1⟩,⟨rfl,ho21.2.2.1⟩,⟨rfl,ho21.2.2.2⟩⟩,rfl⟩ (fun g24=>?_) Tryz.zeroValue47 Tryz.sizeOf47
    obtain⟨hl27,hF⟩:=A.gd_some hF
    refine A.AL.app (k:=426) [] (A.rowO (k:=848) rfl) inf47 hl27 fun A25 c26=>?_
    refine A.q0 [] [] [.n] [(5,.slice A25 ((xs16++[(x19.1,x19.2.1,x19.2.2.1,x19.2.2.2)]).length) c26)] ?_
    refine A.de 1 ?_
    exact A.j ⟨(xs16++[(x19.1,x19.2.1,x19.2.2.1,x19.2.2.2)]),y17,A25,c26,rfl,rfl,hF⟩
   refine A.xe 2 ?_
   exact A.j ⟨xs16,y17,A14,c15,rfl,rfl,hF⟩
  rintro _ _ ⟨xs11,y12,A9,c10,rfl,rfl,hF⟩
  rw[F.R17_putEntry_j1]at hF
  refine A.xl 0 ?_
  obtain⟨hc13,hF⟩:=A.gd_some hF
  refine A.q [] [] [.n,.n,.n] [Z.R64 (y6+1)] [(7,.int .i64 (y6+1))] hc13 ?_
  refine A.AL.done ?_
  exact A.j ⟨_,Nat.lt_succ_self _,⟨xs11,y12,(y6+1),A9,c10,rfl,rfl,(Z.i64_has hc13),hF⟩⟩
 refine A.xx 2 ?_
 refine A.AX.join [] [] (fun nl nh=>∃(xs59:List D46),∃(A57:Option Addr),∃(c58:Nat),nl=[(5,.slice A57 ((xs59).length) c58)]∧nh=[(426,.own T46 47 A57 c58 xs59)]∧F.R17_putEntry_j5 xs59=some r) ?_ ?_
 ·refine A.xl 1 ?_
  refine A.q0 [] [] [.n,.n] [(51,.bool (!y5))] ?_
  refine A.dx 1 ?_
  refine A.AX.cnb rfl hF (fun hb hF=>?_) (fun hb hF=>?_)
  ·refine A.xl 0 ?_
   refine A.q0 [1] [] [.n,.b 0 0] [(52,.slice A2 ((xs4).length) c3),(53,.agg #[.int .i64 a1.1,.int .i64 a1.2.1,.string a1.2.2.1,.int .i64 a1.2.2.2])] ?_
   refine A.AL.bsl 849 (ty:=T46) (cs:=[.int .i64 a1.1,.int .i64 a1.2.1,.string a1.2.2.1,.int .i64 a1.2.2.2]) [(a1.1,a1.2.1,a1.2.2.1,a1.2.2.2)] ⟨⟨⟨rfl,h2_⟩,⟨rfl,h3_⟩,⟨rfl,h4_⟩,⟨rfl,h5_⟩⟩,rfl⟩ (fun g60=>?_) Tryz.zeroValue47 Tryz.sizeOf47
   obtain⟨hl63,hF⟩:=A.gd_some hF
   refine A.AL.app (k:=426) [] (A.rowO (k:=849) rfl) inf47 hl63 fun A61 c62=>?_
   refine A.q0 [] [] [.n] [(5,.slice A61 ((xs4++[(a1.1,a1.2.1,a1.2.2.1,a1.2.2.2)]).length) c62)] ?_
   refine A.AL.done ?_
   exact A.j ⟨(xs4++[(a1.1,a1.2.1,a1.2.2.1,a1.2.2.2)]),A61,c62,rfl,rfl,hF⟩
  refine A.xe 1 ?_
  exact A.j ⟨xs4,A2,c3,rfl,rfl,hF⟩
 rintro _ _ ⟨xs59,A57,c58,rfl,rfl,hF⟩
 rw[F.R17_putEntry_j5]at hF
 refine A.xl 1 ?_
 refine A.q0 [] [] [.n,.n] [(4,.slice A57 ((xs59).length) c58)] ?_
 refine A.dx 1 ?_
 obtain rfl:=Option.some.inj hF
 exact A.rt1 [(0,426)] ⟨A57,c58,rfl,rfl⟩
def F.R17_Put_j1 (k1:(List D43)→Bool→Int→Option (List D43))(y6:Int)(xs11:List D43)(y12:Bool):Option (List D43):=A.gd (Z.R64 (y6+1)) (k1 xs11 y12 (y6+1))
def F.R17_Put_j2 (k1:(List D43)→Bool→Int→Option (List D43))(a0:(List D43))(y6:Int)(r20:Int)(xs25:List D43)(y26:Bool):Option (List D43):=if r20≠0 then((A.ix a0 y6).bind fun x27=>(A.gd ((List.length (α:=D43) xs25+List.length (α:=D43) [(x27.1,x27.2)])*24≤140737488355328) (F.R17_Put_j1 k1 y6 (xs25++[(x27.1,x27.2)]) y26)))else(F.R17_Put_j1 k1 y6 xs25 y26)
def F.R17_Put_j3 (xs42:List D43):Option (List D43):=some xs42
def F.R17_Put_l4 (a0:(List D43))(a1:D43):Nat→(List D43)→Bool→Int→Option (List D43)
 |0,_,_,_=>none
 |f+1,xs4,y5,y6=>if y6<((a0).length:Int)then((A.ix a0 y6).bind fun x14=>((F.R05_Compare (a1.1,a1.2) (x14.1,x14.2)).bind fun r20=>(if(bif !y5 then decide (r20≤0)else false)=true then(A.gd ((List.length (α:=D43) xs4+List.length (α:=D43) [(a1.1,a1.2)])*24≤140737488355328) (F.R17_Put_j2 (F.R17_Put_l4 a0 a1 f) a0 y6 r20 (xs4++[(a1.1,a1.2)]) true))else(F.R17_Put_j2 (F.R17_Put_l4 a0 a1 f) a0 y6 r20 xs4 y5))))else(if(!y5)=true then(A.gd ((List.length (α:=D43) xs4+List.length (α:=D43) [(a1.1,a1.2)])*24≤140737488355328) (F.R17_Put_j3 (xs4++[(a1.1,a1.2)])))else(F.R17_Put_j3 xs4))
def F.R17_Put (a0:(List D43))(a1:D43):Option (List D43):=F.R17_Put_l4 a0 a1 A.FU [] false 0
theorem R17_Put_ok (a0:(List D43))(a1:D43)(A0_:Option Addr)(c1_:Nat)(h2_:IntKind.i64.has a1.1)(h3_:a1.2.size≤maxLen)(r:(List D43))(hF:F.R17_Put a0 a1=some r):
    A.Ct Tryz.prog 121 [.slice A0_ ((a0).length) c1_,.agg #[.int .i64 a1.1,.string a1.2]] [(0,.ln T43 A0_ c1_ a0)] [] (fun v H'=>∃(A0':Option Addr) (c1':Nat),v=.slice A0' ((r).length) c1'∧H'=[(0,.own T43 44 A0' c1' r)]):=by
 refine A.Ct.enter Tryz.func121 rfl Tryz.ntmps121 rfl fun w0 F0=>?_
 rw[F.R17_Put]at hF
 refine A.xl 1 ?_
 refine A.AL.box 1 (cs:=[.int .i64 a1.1,.string a1.2]) fun g1=>?_
 refine A.q0 [] [] [.n] [] ?_
 refine A.dl 2 ?_
 refine A.q0 [] [] [.n] [(5,.slice none 0 0)] ?_
 refine A.dl 2 ?_
 refine A.q0 [] [] [.n] [(6,.bool false)] ?_
 refine A.dl 3 ?_
 refine A.q0 [] [] [.n] [(7,.int .i64 0)] ?_
 refine A.dx 2 ?_
 refine A.nil 98 T43 44 ?_
 refine A.lp_ [0,3] [0,1] (fun f nl nh=>∃(xs4:List D43),∃(y5:Bool),∃(y6:Int),∃(A2:Option Addr),∃(c3:Nat),nl=[(5,.slice A2 ((xs4).length) c3),(6,.bool y5),(7,.int .i64 y6)]∧nh=[(98,.own T43 44 A2 c3 xs4)]∧IntKind.i64.has y6∧F.R17_Put_l4 a0 a1 f xs4 y5 y6=some r) ⟨[],false,0,none,0,rfl,rfl,(A.hasl .i64 (0) rfl),hF⟩ ?_
 rintro f8 _ _ ⟨xs4,y5,y6,A2,c3,rfl,rfl,hy7,hF⟩
 rcases f8 with _|f8
 ·exact A.no0 hF
 rw[F.R17_Put_l4]at hF
 refine A.xl 2 ?_
 refine A.q0 [] [] [.n,.n,.n,.n] [(12,.bool (decide (y6<((a0).length:Int))))] ?_
 refine A.dx 1 ?_
 refine A.AX.cnd rfl hF (fun hb hF=>?_) (fun hb hF=>?_)
 ·refine A.xx 2 ?_
  refine A.AX.join [0,3,7] [0,1] (fun nl nh=>∃(xs11:List D43),∃(y12:Bool),∃(A9:Option Addr),∃(c10:Nat),nl=[(5,.slice A9 ((xs11).length) c10),(6,.bool y12)]∧nh=[(98,.own T43 44 A9 c10 xs11)]∧F.R17_Put_j1 (F.R17_Put_l4 a0 a1 f8) y6 xs11 y12=some r) ?_ ?_
  ·refine A.xx 2 ?_
   refine A.AX.dr mixed 7 7 (A.mb 7 0) ?_
   refine A.hq A.pb [] [0,1,98] [1] [] (A.mb 7 7) 4 [(0,.b 0 0),(1,.n),(2,.n)] [(15,.agg #[.int .i64 a1.1,.string a1.2]),(16,.slice A0_ ((a0).length) c1_),(17,.int .i64 y6)] ?_
   obtain⟨x14,hv15,hF⟩:=A.bd_some hF
   refine A.AH.pkl 0 190 hv15 fun ho16=>?_
   intro b18 o19 hA17
   refine A.AH.v A.pb [0,1,98] [0,1,98,190] 3 (A.mb 7 15) rfl (fun a w hf hh=>A.r_ixa (t:=T43) hv15 hA17 hf) ?_
   refine A.hq A.pb [0,1,98,190] [0,1,98,190] [] [190] (A.mb 7 31) 2 [(4,.e 0 0)] [(19,.agg #[.int .i64 x14.1,.string x14.2])] ?_
   refine A.AH.one 5 ?_
   obtain⟨r20,hv21,hF⟩:=A.bd_some hF
   refine A.AL.call 191 [] (first:=[]) (cap:=[]) cf74 (R05_Compare_ok (a1.1,a1.2) (x14.1,x14.2) h2_ h3_ ho16.1 ho16.2 r20 hv21) .nil ?_
   rintro _ _ ⟨rfl,rfl,hr22⟩
   refine⟨by kernel_rfl,?_⟩
   refine A.AH.nx (A.mb 7 63) [0,1,98,190] ?_
   refine A.hq A.pb [0,1,98,190] [0,1,98,190] [] [] (A.mb 7 127) 0 [(6,.n)] [(8,.int .i64 r20)] ?_
   refine A.AH.done ?_
   refine A.ex 1 ?_
   refine A.AX.join [0,3,7,8] [0,1] (fun nl nh=>∃(xs25:List D43),∃(y26:Bool),∃(A23:Option Addr),∃(c24:Nat),nl=[(5,.slice A23 ((xs25).length) c24),(6,.bool y26)]∧nh=[(98,.own T43 44 A23 c24 xs25)]∧F.R17_Put_j2 (F.R17_Put_l4 a0 a1 f8) a0 y6 r20 xs25 y26=some r) ?_ ?_
   ·refine A.xl 1 ?_
    refine A.q0 [] [] [.n,.n,.n,.sy .n,.sy .n,.pk] [(26,.bool (bif !y5 then decide (r20≤0)else false))] ?_
    refine A.dx 1 ?_
    refine A.AX.cnb rfl hF (fun hb hF=>?_) (fun hb hF=>?_)
    ·refine A.xl 1 ?_
     refine A.q0 [1] [] [.n,.b 0 0] [(27,.slice A2 ((xs4).length) c3),(28,.agg #[.int .i64 a1.1,.string a1.2])] ?_
     refine A.AL.bsl 231 (ty:=T43) (cs:=[.int .i64 a1.1,.string a1.2]) [(a1.1,a1.2)] ⟨⟨⟨rfl,h2_⟩,⟨rfl,h3_⟩⟩,rfl⟩ (fun g36=>?_) Tryz.zeroValue44 Tryz.sizeOf44
     obtain⟨hl39,hF⟩:=A.gd_some hF
     refine A.AL.app (k:=98) [] (A.rowO (k:=231) rfl) inf44 hl39 fun A37 c38=>?_
     refine A.q0 [] [] [.n] [(5,.slice A37 ((xs4++[(a1.1,a1.2)]).length) c38)] ?_
     refine A.dl 1 ?_
     refine A.q0 [] [] [.n] [(6,.bool true)] ?_
     refine A.AL.done ?_
     exact A.j ⟨(xs4++[(a1.1,a1.2)]),true,A37,c38,rfl,rfl,hF⟩
    refine A.xe 1 ?_
    exact A.j ⟨xs4,y5,A2,c3,rfl,rfl,hF⟩
   rintro _ _ ⟨xs25,y26,A23,c24,rfl,rfl,hF⟩
   rw[F.R17_Put_j2]at hF
   refine A.xl 1 ?_
   refine A.q0 [] [] [.n,.n] [(32,.bool (decide (r20≠0)))] ?_
   refine A.dx 1 ?_
   refine A.AX.cnd rfl hF (fun hb hF=>?_) (fun hb hF=>?_)
   ·refine A.xl 0 ?_
    refine A.q0 [] [] [.n,.n,.n] [(33,.slice A23 ((xs25).length) c24),(34,.slice A0_ ((a0).length) c1_),(35,.int .i64 y6)] ?_
    obtain⟨x27,hv28,hF⟩:=A.bd_some hF
    refine A.AL.ixl 0 232 hv28 fun ho29=>?_
    intro b30 o31
    refine A.q0 [] [232] [.e 0 0] [(37,.agg #[.int .i64 x27.1,.string x27.2])] ?_
    refine A.AL.bsl 233 (ty:=T43) (cs:=[.int .i64 x27.1,.string x27.2]) [(x27.1,x27.2)] ⟨⟨⟨rfl,ho29.1⟩,⟨rfl,ho29.2⟩⟩,rfl⟩ (fun g32=>?_) Tryz.zeroValue44 Tryz.sizeOf44
    obtain⟨hl35,hF⟩:=A.gd_some hF
    refine A.AL.app (k:=98) [] (A.rowO (k:=233) rfl) inf44 hl35 fun A33 c34=>?_
    refine A.q0 [] [] [.n] [(5,.slice A33 ((xs25++[(x27.1,x27.2)]).length) c34)] ?_
    refine A.de 1 ?_
    exact A.j ⟨(xs25++[(x27.1,x27.2)]),y26,A33,c34,rfl,rfl,hF⟩
   refine A.xe 2 ?_
   exact A.j ⟨xs25,y26,A23,c24,rfl,rfl,hF⟩
  rintro _ _ ⟨xs11,y12,A9,c10,rfl,rfl,hF⟩
  rw[F.R17_Put_j1]at hF
  refine A.xl 0 ?_
  obtain⟨hc13,hF⟩:=A.gd_some hF
  refine A.q [] [] [.n,.n,.n] [Z.R64 (y6+1)] [(7,.int .i64 (y6+1))] hc13 ?_
  refine A.AL.done ?_
  exact A.j ⟨_,Nat.lt_succ_self _,⟨xs11,y12,(y6+1),A9,c10,rfl,rfl,(Z.i64_has hc13),hF⟩⟩
 refine A.xx 2 ?_
 refine A.AX.join [] [] (fun nl nh=>∃(xs42:List D43),∃(A40:Option Addr),∃(c41:Nat),nl=[(5,.slice A40 ((xs42).length) c41)]∧nh=[(98,.own T43 44 A40 c41 xs42)]∧F.R17_Put_j3 xs42=some r) ?_ ?_
 ·refine A.xl 1 ?_
  refine A.q0 [] [] [.n,.n] [(41,.bool (!y5))] ?_
  refine A.dx 1 ?_
  refine A.AX.cnb rfl hF (fun hb hF=>?_) (fun hb hF=>?_)
  ·refine A.xl 0 ?_
   refine A.q0 [1] [] [.n,.b 0 0] [(42,.slice A2 ((xs4).length) c3),(43,.agg #[.int .i64 a1.1,.string a1.2])] ?_
   refine A.AL.bsl 234 (ty:=T43) (cs:=[.int .i64 a1.1,.string a1.2]) [(a1.1,a1.2)] ⟨⟨⟨rfl,h2_⟩,⟨rfl,h3_⟩⟩,rfl⟩ (fun g43=>?_) Tryz.zeroValue44 Tryz.sizeOf44
   obtain⟨hl46,hF⟩:=A.gd_some hF
   refine A.AL.app (k:=98) [] (A.rowO (k:=234) rfl) inf44 hl46 fun A44 c45=>?_
   refine A.q0 [] [] [.n] [(5,.slice A44 ((xs4++[(a1.1,a1.2)]).length) c45)] ?_
   refine A.AL.done ?_
   exact A.j ⟨(xs4++[(a1.1,a1.2)]),A44,c45,rfl,rfl,hF⟩
  refine A.xe 1 ?_
  exact A.j ⟨xs4,A2,c3,rfl,rfl,hF⟩
 rintro _ _ ⟨xs42,A40,c41,rfl,rfl,hF⟩
 rw[F.R17_Put_j3]at hF
 refine A.xl 1 ?_
 refine A.q0 [] [] [.n,.n] [(4,.slice A40 ((xs42).length) c41)] ?_
 refine A.dx 1 ?_
 obtain rfl:=Option.some.inj hF
 exact A.rt1 [(0,98)] ⟨A40,c41,rfl,rfl⟩
def F.R17_joins_l1 (k3:(List D43)→Int→Option (List D43))(a1:(List D69))(a2:(List D69))(y4:Int):Nat→(List D43)→Int→Option (List D43)
 |0,_,_=>none
 |f+1,xs9,y10=>if y10<((a2).length:Int)then((A.ix a1 y4).bind fun x13=>(A.gd (x13.1.2.size+(ByteArray.mk #[43]).size≤9223372036854775807) ((A.ix a2 y10).bind fun x20=>(A.gd ((x13.1.2++(ByteArray.mk #[43])).size+x20.1.2.size≤9223372036854775807) ((F.R05_Cut ((x13.1.2++(ByteArray.mk #[43]))++x20.1.2) 64).bind fun r27=>((A.ix a1 y4).bind fun x30=>((F.R17_Put xs9 (x30.1.1,r27)).bind fun r35=>(A.gd (Z.R64 (y10+1)) ((F.R17_joins_l1 k3 a1 a2 y4 f) r35 (y10+1))))))))))else(A.gd (Z.R64 (y4+1)) (k3 xs9 (y4+1)))
def F.R17_joins_l2 (a1:(List D69))(a2:(List D69)):Nat→(List D43)→Int→Option (List D43)
 |0,_,_=>none
 |f+1,xs3,y4=>if y4<((a1).length:Int)then(F.R17_joins_l1 (F.R17_joins_l2 a1 a2 f) a1 a2 y4 A.FU xs3 0)else(some xs3)
def F.R17_joins (a0:(List D43))(a1:(List D69))(a2:(List D69)):Option (List D43):=F.R17_joins_l2 a1 a2 A.FU a0 0
theorem R17_joins_ok (a0:(List D43))(a1:(List D69))(a2:(List D69))(A0_:Option Addr)(c1_:Nat)(A2_:Option Addr)(c3_:Nat)(A4_:Option Addr)(c5_:Nat)(r:(List D43))(hF:F.R17_joins a0 a1 a2=some r):
    A.Ct Tryz.prog 80 [.slice A0_ ((a0).length) c1_,.slice A2_ ((a1).length) c3_,.slice A4_ ((a2).length) c5_] [(0,.sh (.slice T43) [.slice A0_ (a0).length c1_] a0),(1,.ln T69 A2_ c3_ a1),(2,.ln T69 A4_ c5_ a2)] [] (fun v H'=>∃(A0':Option Addr) (c1':Nat),v=.slice A0' ((r).length) c1'∧H'=[(0,.sh (.slice T43) [.slice A0' (r).length c1'] r)]):=by
 refine A.Ct.enter Tryz.func80 rfl Tryz.ntmps80 rfl fun w0 F0=>?_
 rw[F.R17_joins]at hF
 refine A.xl 1 ?_
 refine A.q0 [] [] [.n] [] ?_
 refine A.dl 3 ?_
 refine A.q0 [] [] [.n] [(7,.int .i64 0)] ?_
 refine A.dx 2 ?_
 refine A.lp_ [1,2] [1,2] (fun f nl nh=>∃(xs3:List D43),∃(y4:Int),∃(A1:Option Addr),∃(c2:Nat),nl=[(0,.slice A1 ((xs3).length) c2),(7,.int .i64 y4)]∧nh=[(0,.sh (.slice T43) [.slice A1 (xs3).length c2] xs3)]∧IntKind.i64.has y4∧F.R17_joins_l2 a1 a2 f xs3 y4=some r) ⟨a0,0,A0_,c1_,rfl,rfl,(A.hasl .i64 (0) rfl),hF⟩ ?_
 rintro f6 _ _ ⟨xs3,y4,A1,c2,rfl,rfl,hy5,hF⟩
 rcases f6 with _|f6
 ·exact A.no0 hF
 rw[F.R17_joins_l2]at hF
 refine A.xl 2 ?_
 refine A.q0 [] [] [.n,.n,.n,.n] [(13,.bool (decide (y4<((a1).length:Int))))] ?_
 refine A.dx 1 ?_
 refine A.AX.cnd rfl hF (fun hb hF=>?_) (fun hb hF=>?_)
 ·refine A.xl 5 ?_
  refine A.q0 [] [] [.n] [(8,.int .i64 0)] ?_
  refine A.dx 2 ?_
  refine A.lp_ [1,2,7] [1,2] (fun f nl nh=>∃(xs9:List D43),∃(y10:Int),∃(A7:Option Addr),∃(c8:Nat),nl=[(0,.slice A7 ((xs9).length) c8),(8,.int .i64 y10)]∧nh=[(0,.sh (.slice T43) [.slice A7 (xs9).length c8] xs9)]∧IntKind.i64.has y10∧F.R17_joins_l1 (F.R17_joins_l2 a1 a2 f6) a1 a2 y4 f xs9 y10=some r) ⟨xs3,0,A1,c2,rfl,rfl,(A.hasl .i64 (0) rfl),hF⟩ ?_
  rintro f12 _ _ ⟨xs9,y10,A7,c8,rfl,rfl,hy11,hF⟩
  rcases f12 with _|f12
  ·exact A.no0 hF
  rw[F.R17_joins_l1]at hF
  refine A.xl 2 ?_
  refine A.q0 [] [] [.n,.n,.n,.n] [(19,.bool (decide (y10<((a2).length:Int))))] ?_
  refine A.dx 1 ?_
  refine A.AX.cnd rfl hF (fun hb hF=>?_) (fun hb hF=>?_)
  ·refine A.xx 5 ?_
   refine A.AX.dr mixed 16 16 (A.mb 16 0) ?_
   refine A.hq A.pb [] [0,1,2] [] [] (A.mb 16 387) 12 [(0,.n),(1,.n),(7,.n),(8,.n)] [(22,.slice A2_ ((a1).length) c3_),(23,.int .i64 y4),(29,.slice A4_ ((a2).length) c5_),(30,.int .i64 y10)] ?_
   obtain⟨x13,hv14,hF⟩:=A.bd_some hF
   refine A.AH.pkl 1 675 hv14 fun ho15=>?_
   intro b17 o18 hA16
   refine A.AH.v A.pb [0,1,2] [0,1,2,675] 2 (A.mb 16 391) rfl (fun a w hf hh=>A.r_ixa (t:=T69) hv14 hA16 hf) ?_
   obtain⟨hc19,hF⟩:=A.gd_some hF
   refine A.AH.q A.pb [0,1,2,675] [0,1,2,675] [] [675] (A.mb 16 511) 7 [(3,.n),(4,.n),(5,.e 0 1),(6,.n)] [28] [x13.1.2.size+(ByteArray.mk #[43]).size≤9223372036854775807] [(28,.string (x13.1.2++(ByteArray.mk #[43])))] hc19 ?_
   obtain⟨x20,hv21,hF⟩:=A.bd_some hF
   refine A.AH.pkl 2 676 hv21 fun ho22=>?_
   intro b24 o25 hA23
   refine A.AH.v A.pb [0,1,2,675] [0,1,2,675,676] 9 (A.mb 16 1023) rfl (fun a w hf hh=>A.r_ixa (t:=T69) hv21 hA23 hf) ?_
   obtain⟨hc26,hF⟩:=A.gd_some hF
   refine A.AH.q A.pb [0,1,2,675,676] [0,1,2,675,676] [] [676] (A.mb 16 16383) 2 [(10,.n),(11,.n),(12,.e 0 1),(13,.n)] [35] [(x13.1.2++(ByteArray.mk #[43])).size+x20.1.2.size≤9223372036854775807] [(35,.string ((x13.1.2++(ByteArray.mk #[43]))++x20.1.2))] hc26 ?_
   refine A.AH.one 14 ?_
   obtain⟨r27,hv28,hF⟩:=A.bd_some hF
   refine A.AL.call 677 [] (first:=[]) (cap:=[]) cf119 (R05_Cut_ok ((x13.1.2++(ByteArray.mk #[43]))++x20.1.2) 64 (A.cat_le hc26) (A.hasl .i64 (64) rfl) r27 hv28) .nil ?_
   rintro _ _ ⟨rfl,rfl,hr29⟩
   refine⟨by kernel_rfl,?_⟩
   refine A.AH.nx (A.mb 16 32767) [0,1,2,675,676] ?_
   refine A.hq A.pb [0,1,2,675,676] [0,1,2,675,676] [] [] (A.mb 16 65535) 0 [(15,.n)] [(9,.string r27)] ?_
   refine A.AH.done ?_
   refine A.el 1 ?_
   refine A.q0 [] [] [.n,.n,.n] [(37,.slice A7 ((xs9).length) c8),(38,.slice A2_ ((a1).length) c3_),(39,.int .i64 y4)] ?_
   obtain⟨x30,hv31,hF⟩:=A.bd_some hF
   refine A.AL.ixl 1 717 hv31 fun ho32=>?_
   intro b33 o34
   refine A.q0 [] [717] [.n,.n,.e 0 0,.n,.n] [(45,.agg #[.int .i64 x30.1.1,.string r27])] ?_
   obtain⟨r35,hv36,hF⟩:=A.bd_some hF
   refine A.AL.call 718 [] (first:=[]) (cap:=[]) cf121 (R17_Put_ok xs9 (x30.1.1,r27) A7 c8 ho32.1.1 hr29 r35 hv36) (.l 0 .nil) ?_
   rintro _ _ ⟨A37,c38,rfl,rfl⟩
   refine⟨by kernel_rfl,?_⟩
   refine A.q0 [] [] [.n] [(0,.slice A37 ((r35).length) c38)] ?_
   refine A.dl 2 ?_
   obtain⟨hc39,hF⟩:=A.gd_some hF
   refine A.q [] [] [.n,.n,.n] [Z.R64 (y10+1)] [(8,.int .i64 (y10+1))] hc39 ?_
   refine A.AL.done ?_
   refine A.frz 718 [] ?_
   refine A.mv 0 758 [] ?_
   refine A.mvd 718 0 [] ?_
   exact A.j ⟨_,Nat.lt_succ_self _,⟨r35,(y10+1),A37,c38,rfl,rfl,(Z.i64_has hc39),hF⟩⟩
  refine A.xl 3 ?_
  obtain⟨hc40,hF⟩:=A.gd_some hF
  refine A.q [] [] [.n,.n,.n] [Z.R64 (y4+1)] [(7,.int .i64 (y4+1))] hc40 ?_
  refine A.AL.done ?_
  exact A.j ⟨_,Nat.lt_succ_self _,⟨xs9,(y4+1),A7,c8,rfl,rfl,(Z.i64_has hc40),hF⟩⟩
 refine A.xl 3 ?_
 refine A.q0 [] [] [.n,.n] [(6,.slice A1 ((xs3).length) c2)] ?_
 refine A.dx 1 ?_
 obtain rfl:=Option.some.inj hF
 exact A.rt1 [(0,0)] ⟨A1,c2,rfl,rfl⟩
end Go.Proofs.YtbljnlkhebiniaaGreatDoor
end
section
set_option linter.unusedVariables false
set_option linter.unusedSimpArgs false
set_option maxRecDepth 20000
set_option maxHeartbeats 8000000
set_option synthInstance.maxSize 1000000
set_option synthInstance.maxHeartbeats 400000
namespace Go.Proofs.YtbljnlkhebiniaaGreatDoor
open Go.RowKit
def F.R17_has_j1 (k1:Int→Option Bool)(y2:Int)(y5:Bool):Option Bool:=if y5=true then(some true)else(A.gd (Z.R64 (y2+1)) (k1 (y2+1)))
def F.R17_has_l2 (a0:(List D46))(a1:D43):Nat→Int→Option Bool
 |0,_=>none
 |f+1,y2=>if y2<((a0).length:Int)then((A.ix a0 y2).bind fun x7=>(if x7.2.1=a1.1 then((A.ix a0 y2).bind fun x13=>(F.R17_has_j1 (F.R17_has_l2 a0 a1 f) y2 (decide (x13.2.2.1=a1.2))))else(F.R17_has_j1 (F.R17_has_l2 a0 a1 f) y2 false)))else(some false)
def F.R17_has (a0:(List D46))(a1:D43):Option Bool:=F.R17_has_l2 a0 a1 A.FU 0
theorem R17_has_ok (a0:(List D46))(a1:D43)(A0_:Option Addr)(c1_:Nat)(h2_:IntKind.i64.has a1.1)(h3_:a1.2.size≤maxLen)(r:Bool)(hF:F.R17_has a0 a1=some r):
    A.Ct Tryz.prog 81 [.slice A0_ ((a0).length) c1_,.agg #[.int .i64 a1.1,.string a1.2]] [(0,.ln T46 A0_ c1_ a0)] [] (fun v H'=>v=.bool r∧H'=[]):=by
 refine A.Ct.enter Tryz.func81 rfl Tryz.ntmps81 rfl fun w0 F0=>?_
 rw[F.R17_has]at hF
 refine A.xl 1 ?_
 refine A.AL.box 1 (cs:=[.int .i64 a1.1,.string a1.2]) fun g1=>?_
 refine A.q0 [] [] [.n] [] ?_
 refine A.dl 3 ?_
 refine A.q0 [] [] [.n] [(5,.int .i64 0)] ?_
 refine A.dx 2 ?_
 refine A.lp_ [0,3] [0,1] (fun f nl nh=>∃(y2:Int),nl=[(5,.int .i64 y2)]∧nh=[]∧IntKind.i64.has y2∧F.R17_has_l2 a0 a1 f y2=some r) ⟨0,rfl,rfl,(A.hasl .i64 (0) rfl),hF⟩ ?_
 rintro f4 _ _ ⟨y2,rfl,rfl,hy3,hF⟩
 rcases f4 with _|f4
 ·exact A.no0 hF
 rw[F.R17_has_l2]at hF
 refine A.xl 2 ?_
 refine A.q0 [] [] [.n,.n,.n,.n] [(9,.bool (decide (y2<((a0).length:Int))))] ?_
 refine A.dx 1 ?_
 refine A.AX.cnd rfl hF (fun hb hF=>?_) (fun hb hF=>?_)
 ·refine A.xx 4 ?_
  refine A.AX.join [0,3,5] [0,1] (fun nl nh=>∃(y5:Bool),nl=[(29,.bool y5)]∧nh=[]∧F.R17_has_j1 (F.R17_has_l2 a0 a1 f4) y2 y5=some r) ?_ ?_
  ·refine A.AX.dr mixed 18 18 (A.mb 18 0) ?_
   refine A.hq A.pb [] [0,1] [1] [] (A.mb 18 99) 14 [(0,.n),(1,.n),(5,.n),(6,.b 0 0)] [(12,.slice A0_ ((a0).length) c1_),(13,.int .i64 y2),(18,.int .i64 a1.1)] ?_
   obtain⟨x7,hv8,hF⟩:=A.bd_some hF
   refine A.AH.pkl 0 6 hv8 fun ho9=>?_
   intro b11 o12 hA10
   refine A.AH.v A.pb [0,1] [0,1,6] 2 (A.mb 18 103) rfl (fun a w hf hh=>A.r_ixa (t:=T46) hv8 hA10 hf) ?_
   refine A.hq A.pb [0,1,6] [0,1,6] [] [6] (A.mb 18 511) 9 [(3,.n),(4,.e 0 1),(7,.n),(8,.n)] [(20,.bool (decide (x7.2.1=a1.1)))] ?_
   refine A.AH.cnp (j:=20) rfl hF (fun hb hF=>?_) (fun hb hF=>?_)
   ·refine A.hq A.pb [0,1,6] [0,1,6] [1] [] (A.mb 18 51199) 5 [(9,.on .n),(10,.on .n),(14,.on .n),(15,.on (.b 0 1))] [(21,.slice A0_ ((a0).length) c1_),(22,.int .i64 y2),(27,.string a1.2)] ?_
    obtain⟨x13,hv14,hF⟩:=A.bd_some hF
    refine A.AH.pkl 0 7 hv14 fun ho15=>?_
    intro b17 o18 hA16
    refine A.AH.vg A.pb [0,1,6] [0,1,6,7] 11 (A.mb 18 53247) (dj:=20) rfl (fun a w hf hh=>A.r_ixa (t:=T46) hv14 hA16 hf) ?_
    refine A.hq A.pb [0,1,6,7] [0,1,6,7] [] [7] (A.mb 18 262143) 0 [(12,.on .n),(13,.on (.e 0 2)),(16,.on .n),(17,.n)] [(29,.bool (decide (x13.2.2.1=a1.2)))] ?_
    refine A.AH.done ?_
    exact A.j ⟨(decide (x13.2.2.1=a1.2)),rfl,rfl,hF⟩
   refine A.hq A.pb [0,1,6] [0,1,6] [] [] (A.mb 18 262143) 0 [(9,.off),(10,.off),(14,.off),(11,.off),(15,.off),(12,.off),(13,.off),(16,.off),(17,.n)] [(29,.bool false)] ?_
   refine A.AH.done ?_
   exact A.j ⟨false,rfl,rfl,hF⟩
  rintro _ _ ⟨y5,rfl,rfl,hF⟩
  rw[F.R17_has_j1]at hF
  refine A.AX.cnb rfl hF (fun hb hF=>?_) (fun hb hF=>?_)
  ·refine A.xl 1 ?_
   refine A.q0 [] [] [.n] [(4,.bool true)] ?_
   refine A.dx 1 ?_
   obtain rfl:=Option.some.inj hF
   exact A.rt1 [] ⟨rfl,rfl⟩
  refine A.xl 3 ?_
  obtain⟨hc6,hF⟩:=A.gd_some hF
  refine A.q [] [] [.n,.n,.n] [Z.R64 (y2+1)] [(5,.int .i64 (y2+1))] hc6 ?_
  refine A.AL.done ?_
  exact A.j ⟨_,Nat.lt_succ_self _,⟨(y2+1),rfl,rfl,(Z.i64_has hc6),hF⟩⟩
 refine A.xl 3 ?_
 refine A.q0 [] [] [.n] [(4,.bool false)] ?_
 refine A.dx 1 ?_
 obtain rfl:=Option.some.inj hF
 exact A.rt1 [] ⟨rfl,rfl⟩
def F.R17_tells_j1 (xs22:List D43)(xs25:List D46):Option ((List D43)×(List D46)):=some (xs22,xs25)
def F.R17_tells_j2 (k1:(List D43)→Int→Option ((List D43)×(List D46)))(y992:Int)(xs997:List D43):Option ((List D43)×(List D46)):=A.gd (Z.R64 (y992+1)) (k1 xs997 (y992+1))
def F.R17_tells_l3 (a1:D55)(a2:(List D55))(a3:(List D46)):Nat→(List D43)→Int→Option ((List D43)×(List D46))
 |0,_,_=>none
 |f+1,xs991,y992=>if y992<((a2).length:Int)then((A.ix a2 y992).bind fun x999=>(if x999.1=a1.1 then((A.ix a2 y992).bind fun x1007=>((F.R17_joins xs991 a1.2 x1007.2).bind fun r1015=>(F.R17_tells_j2 (F.R17_tells_l3 a1 a2 a3 f) y992 r1015)))else(F.R17_tells_j2 (F.R17_tells_l3 a1 a2 a3 f) y992 xs991)))else(some (xs991,a3))
def F.R17_tells_j4 (k2:(List D46)→(List D43)→Int→Option ((List D43)×(List D46)))(y1025:Int)(xs1030:List D43)(xs1033:List D46):Option ((List D43)×(List D46)):=A.gd (Z.R64 (y1025+1)) (k2 xs1033 xs1030 (y1025+1))
def F.R17_tells_l5 (a0:D25)(a1:D55):Nat→(List D46)→(List D43)→Int→Option ((List D43)×(List D46))
 |0,_,_,_=>none
 |f+1,xs1021,xs1024,y1025=>if y1025<((a1.2).length:Int)then((A.ix a1.2 y1025).bind fun x1035=>(if a0.2.1=10 then(A.gd ((List.length (α:=D43) xs1024+List.length (α:=D43) [(x1035.1.1,x1035.1.2)])*24≤140737488355328) (F.R17_tells_j4 (F.R17_tells_l5 a0 a1 f) y1025 (xs1024++[(x1035.1.1,x1035.1.2)]) xs1021))else((F.R17_has xs1021 (x1035.1.1,x1035.1.2)).bind fun r1045=>(if(!r1045)=true then(A.gd ((List.length (α:=D43) xs1024+List.length (α:=D43) [(x1035.1.1,x1035.1.2)])*24≤140737488355328) ((F.R17_putEntry xs1021 (a0.1,x1035.1.1,x1035.1.2,1)).bind fun r1051=>(F.R17_tells_j4 (F.R17_tells_l5 a0 a1 f) y1025 (xs1024++[(x1035.1.1,x1035.1.2)]) r1051)))else(F.R17_tells_j4 (F.R17_tells_l5 a0 a1 f) y1025 xs1024 xs1021)))))else(some (xs1024,xs1021))
def F.R17_tells (a0:D25)(a1:D55)(a2:(List D55))(a3:(List D46)):Option ((List D43)×(List D46)):=if a0.2.1=7 then((F.R17_count a1.2).bind fun r3=>((F.R05_Number r3).bind fun r6=>(some ([(a1.1,r6)],a3))))else(if a0.2.1=8 then((F.R06_Reduce (a0.2.2.2.1.1,a0.2.2.2.1.2.1,a0.2.2.2.1.2.2) a1.2).bind fun r10=>(some ([(r10.1.1,r10.1.2)],a3)))else(if a0.2.1=11 then((F.R17_total (a0.1,a0.2.1,a0.2.2.1,(a0.2.2.2.1.1,a0.2.2.2.1.2.1,a0.2.2.2.1.2.2),a0.2.2.2.2.1,a0.2.2.2.2.2.1,a0.2.2.2.2.2.2) (a1.1,a1.2) a3).bind fun r17=>((F.R05_Number r17).bind fun r26=>((F.R17_putEntry a3 (a0.1,a1.1,ByteArray.mk #[],r17)).bind fun r809=>(F.R17_tells_j1 [(a1.1,r26)] r809))))else(if a0.2.1=9 then(F.R17_tells_l3 a1 a2 a3 A.FU [] 0)else(F.R17_tells_l5 a0 a1 A.FU a3 [] 0))))
theorem R17_tells_ok (a0:D25)(a1:D55)(a2:(List D55))(a3:(List D46))(A2_:Option Addr)(c3_:Nat)(A11_:Option Addr)(c12_:Nat)(A13_:Option Addr)(c14_:Nat)(A15_:Option Addr)(c16_:Nat)(h0_:IntKind.i64.has a0.1)(h1_:IntKind.i64.has a0.2.1)(h4_:IntKind.i64.has a0.2.2.2.1.1)(h5_:IntKind.i64.has a0.2.2.2.1.2.1)(h6_:a0.2.2.2.1.2.2.size≤maxLen)(h7_:a0.2.2.2.2.1.size≤maxLen)(h8_:IntKind.i64.has a0.2.2.2.2.2.1)(h9_:IntKind.i64.has a0.2.2.2.2.2.2)(h10_:IntKind.i64.has a1.1)(r:(List D43)×(List D46))(hF:F.R17_tells a0 a1 a2 a3=some r):
    A.Ct Tryz.prog 41 [.agg #[.int .i64 a0.1,.int .i64 a0.2.1,.slice A2_ ((a0.2.2.1).length) c3_,.int .i64 a0.2.2.2.1.1,.int .i64 a0.2.2.2.1.2.1,.string a0.2.2.2.1.2.2,.string a0.2.2.2.2.1,.int .i64 a0.2.2.2.2.2.1,.int .i64 a0.2.2.2.2.2.2],.agg #[.int .i64 a1.1,.slice A11_ ((a1.2).length) c12_],.slice A13_ ((a2).length) c14_,.slice A15_ ((a3).length) c16_] [(0,.sh (.slice (Z.Ty.int .i64)) [.slice A2_ (a0.2.2.1).length c3_] a0.2.2.1),(1,.sh (.slice T69) [.slice A11_ (a1.2).length c12_] a1.2),(2,.ln T55 A13_ c14_ a2),(3,.sh (.slice T46) [.slice A15_ (a3).length c16_] a3)] [] (fun v H'=>∃(A0':Option Addr) (c1':Nat) (A2':Option Addr) (c3':Nat),v=.tuple #[.slice A0' ((r.1).length) c1',.slice A2' ((r.2).length) c3']∧H'=[(0,.sh (.slice T43) [.slice A0' (r.1).length c1'] r.1),(1,.sh (.slice T46) [.slice A2' (r.2).length c3'] r.2)]):=by
 refine A.Ct.enter Tryz.func41 rfl Tryz.ntmps41 rfl fun w0 F0=>?_
 rw[F.R17_tells]at hF
 refine A.xl 1 ?_
 refine A.AL.box 4 (cs:=[.int .i64 a0.1,.int .i64 a0.2.1,.slice A2_ ((a0.2.2.1).length) c3_,.int .i64 a0.2.2.2.1.1,.int .i64 a0.2.2.2.1.2.1,.string a0.2.2.2.1.2.2,.string a0.2.2.2.2.1,.int .i64 a0.2.2.2.2.2.1,.int .i64 a0.2.2.2.2.2.2]) fun g1=>?_
 refine A.AL.box 5 (cs:=[.int .i64 a1.1,.slice A11_ ((a1.2).length) c12_]) fun g2=>?_
 refine A.q0 [] [] [.n,.n] [] ?_
 refine A.dl 3 ?_
 refine A.q0 [4] [] [.n,.b 0 1] [(19,.int .i64 a0.2.1)] ?_
 refine A.dl 3 ?_
 refine A.q0 [] [] [.n,.n] [(20,.bool (decide (a0.2.1=7)))] ?_
 refine A.dx 1 ?_
 refine A.AX.cnd rfl hF (fun hb hF=>?_) (fun hb hF=>?_)
 ·refine A.xx 1 ?_
  refine A.AX.dr mixed 11 11 (A.mb 11 0) ?_
  refine A.hq A.pb [] [0,1,2,3,4,5] [5] [] (A.mb 11 271) 6 [(0,.n),(2,.n),(8,.n),(1,.b 0 0),(3,.b 0 1)] [(30,.slice A15_ ((a3).length) c16_),(23,.int .i64 a1.1),(25,.slice A11_ ((a1.2).length) c12_)] ?_
  refine A.AH.one 4 ?_
  obtain⟨r3,hv4,hF⟩:=A.bd_some hF
  refine A.AL.call 6 [] (first:=[]) (cap:=[]) cf76 (R17_count_ok a1.2 A11_ c12_ r3 hv4) (.l 1 .nil) ?_
  rintro _ _ ⟨rfl,rfl,hr5⟩
  refine⟨by kernel_rfl,?_⟩
  refine A.AH.nx (A.mb 11 287) [0,1,2,3,4,5] ?_
  refine A.AH.one 5 ?_
  obtain⟨r6,hv7,hF⟩:=A.bd_some hF
  refine A.AL.call 46 [] (first:=[]) (cap:=[]) cf75 (R05_Number_ok r3 hr5 r6 hv7) .nil ?_
  rintro _ _ ⟨rfl,rfl,hr8⟩
  refine⟨by kernel_rfl,?_⟩
  refine A.AH.nx (A.mb 11 319) [0,1,2,3,4,5] ?_
  refine A.hq A.pb [0,1,2,3,4,5] [0,1,2,3,4,5] [] [] (A.mb 11 383) 3 [(6,.n)] [(28,.agg #[.int .i64 a1.1,.string r6])] ?_
  refine A.AH.one 7 ?_
  refine A.AL.bsl 86 (ty:=T43) (cs:=[.int .i64 a1.1,.string r6]) [(a1.1,r6)] ⟨⟨⟨rfl,h10_⟩,⟨rfl,hr8⟩⟩,rfl⟩ (fun g9=>?_) Tryz.zeroValue44 Tryz.sizeOf44
  refine A.AH.nx (A.mb 11 511) [0,1,2,3,4,5] ?_
  refine A.hq A.pb [0,1,2,3,4,5] [0,1,2,3,4,5,86] [] [] (A.mb 11 2047) 0 [(9,.n),(10,.n)] [(8,.slice (some ⟨g9,0,none⟩) 1 1),(9,.slice A15_ ((a3).length) c16_)] ?_
  refine A.AH.done ?_
  refine A.ex 1 ?_
  obtain rfl:=Option.some.inj hF
  refine A.frz 86 [] ?_
  exact A.rt2 [(0,86),(1,3)] ⟨(some ⟨g9,0,none⟩),1,A15_,c16_,rfl,rfl⟩
 refine A.xl 1 ?_
 refine A.q0 [] [] [.n,.n] [(31,.bool (decide (a0.2.1=8)))] ?_
 refine A.dx 1 ?_
 refine A.AX.cnd rfl hF (fun hb hF=>?_) (fun hb hF=>?_)
 ·refine A.xl 1 ?_
  refine A.q0 [4,5] [] [.n,.b 0 3,.n,.b 1 1] [(35,.agg #[.int .i64 a0.2.2.2.1.1,.int .i64 a0.2.2.2.1.2.1,.string a0.2.2.2.1.2.2]),(37,.slice A11_ ((a1.2).length) c12_)] ?_
  obtain⟨r10,hv11,hF⟩:=A.bd_some hF
  refine A.AL.call 87 [] (first:=[]) (cap:=[]) cf77 (R06_Reduce_ok (a0.2.2.2.1.1,a0.2.2.2.1.2.1,a0.2.2.2.1.2.2) a1.2 A11_ c12_ h4_ h5_ h6_ r10 hv11) (.l 1 .nil) ?_
  rintro _ _ ⟨rfl,rfl,hr12,hr13,hr14⟩
  refine⟨by kernel_rfl,?_⟩
  refine A.q0 [] [] [.n,.n,.n] [(39,.agg #[.int .i64 r10.1.1,.string r10.1.2]),(40,.int .i64 r10.2)] ?_
  refine A.AL.alloc 127 (cs:=[.int .i64 0,.string (ByteArray.mk #[])]) Tryz.zeroValue44 fun g15=>?_
  refine A.sw 127 [] [.int .i64 r10.1.1,.string r10.1.2] ?_
  refine A.q0 [] [] [.n] [] ?_
  refine A.dl 2 ?_
  refine A.q0 [127] [] [.b 0 0] [(41,.agg #[.int .i64 r10.1.1,.string r10.1.2])] ?_
  refine A.AL.bsl 128 (ty:=T43) (cs:=[.int .i64 r10.1.1,.string r10.1.2]) [(r10.1.1,r10.1.2)] ⟨⟨⟨rfl,hr12⟩,⟨rfl,hr13⟩⟩,rfl⟩ (fun g16=>?_) Tryz.zeroValue44 Tryz.sizeOf44
  refine A.q0 [] [] [.n,.n,.n] [(8,.slice (some ⟨g16,0,none⟩) 1 1),(9,.slice A15_ ((a3).length) c16_)] ?_
  refine A.dx 1 ?_
  obtain rfl:=Option.some.inj hF
  refine A.frz 128 [] ?_
  exact A.rt2 [(0,128),(1,3)] ⟨(some ⟨g16,0,none⟩),1,A15_,c16_,rfl,rfl⟩
 refine A.xl 1 ?_
 refine A.q0 [] [] [.n,.n] [(44,.bool (decide (a0.2.1=11)))] ?_
 refine A.dx 1 ?_
 refine A.AX.cnd rfl hF (fun hb hF=>?_) (fun hb hF=>?_)
 ·refine A.xl 1 ?_
  refine A.q0 [4,5] [] [.b 0 0,.b 1 0,.n] [(46,.agg #[.int .i64 a0.1,.int .i64 a0.2.1,.slice A2_ ((a0.2.2.1).length) c3_,.int .i64 a0.2.2.2.1.1,.int .i64 a0.2.2.2.1.2.1,.string a0.2.2.2.1.2.2,.string a0.2.2.2.2.1,.int .i64 a0.2.2.2.2.2.1,.int .i64 a0.2.2.2.2.2.2]),(47,.agg #[.int .i64 a1.1,.slice A11_ ((a1.2).length) c12_]),(48,.slice A15_ ((a3).length) c16_)] ?_
  obtain⟨r17,hv18,hF⟩:=A.bd_some hF
  refine A.AL.call 129 [] (first:=[]) (cap:=[]) cf78 (R17_total_ok (a0.1,a0.2.1,a0.2.2.1,(a0.2.2.2.1.1,a0.2.2.2.1.2.1,a0.2.2.2.1.2.2),a0.2.2.2.2.1,a0.2.2.2.2.2.1,a0.2.2.2.2.2.2) (a1.1,a1.2) a3 A2_ c3_ A11_ c12_ A15_ c16_ h0_ h1_ h4_ h5_ h6_ h7_ h8_ h9_ h10_ r17 hv18) (.s 0 (.s 1 (.l 3 .nil))) ?_
  rintro _ _ ⟨rfl,rfl,hr19⟩
  refine⟨by kernel_rfl,?_⟩
  refine A.q0 [] [] [.n] [(12,.int .i64 r17)] ?_
  refine A.dx 1 ?_
  refine A.AX.join [] [] (fun nl nh=>∃(xs22:List D43),∃(xs25:List D46),∃(A20:Option Addr),∃(c21:Nat),∃(A23:Option Addr),∃(c24:Nat),nl=[(8,.slice A20 ((xs22).length) c21),(9,.slice A23 ((xs25).length) c24)]∧nh=[(359,.own T43 44 A20 c21 xs22),(599,.own T46 47 A23 c24 xs25)]∧F.R17_tells_j1 xs22 xs25=some r) ?_ ?_
  ·refine A.AX.dr mixed 16 16 (A.mb 16 0) ?_
   refine A.hq A.pb [] [0,1,2,3,4,5] [5,4] [] (A.mb 16 8135) 6 [(0,.n),(2,.n),(6,.n),(7,.n),(9,.n),(11,.n),(1,.b 0 0),(8,.b 1 0),(10,.b 0 0),(12,.n)] [(52,.int .i64 r17),(56,.slice A15_ ((a3).length) c16_),(51,.int .i64 a1.1),(62,.agg #[.int .i64 a0.1,.int .i64 a1.1,.string (ByteArray.mk #[]),.int .i64 r17])] ?_
   refine A.AH.one 3 ?_
   obtain⟨r26,hv27,hF⟩:=A.bd_some hF
   refine A.AL.call 169 [] (first:=[]) (cap:=[]) cf75 (R05_Number_ok r17 hr19 r26 hv27) .nil ?_
   rintro _ _ ⟨rfl,rfl,hr28⟩
   refine⟨by kernel_rfl,?_⟩
   refine A.AH.nx (A.mb 16 8143) [0,1,2,3,4,5] ?_
   refine A.hq A.pb [0,1,2,3,4,5] [0,1,2,3,4,5] [] [] (A.mb 16 8159) 4 [(4,.n)] [(54,.agg #[.int .i64 a1.1,.string r26])] ?_
   refine A.AH.two 5 13 ?_ ?_
   ·refine A.AL.bsl 359 (ty:=T43) (cs:=[.int .i64 a1.1,.string r26]) [(a1.1,r26)] ⟨⟨⟨rfl,h10_⟩,⟨rfl,hr28⟩⟩,rfl⟩ (fun g329=>?_) Tryz.zeroValue44 Tryz.sizeOf44
    refine A.AH.nx (A.mb 16 8191) [0,1,2,3,4,5] ?_
    refine A.AH.one 13 ?_
    obtain⟨r809,hv810,hF⟩:=A.bd_some hF
    refine A.AL.call 599 [] (first:=[]) (cap:=[]) cf79 (R17_putEntry_ok a3 (a0.1,a1.1,ByteArray.mk #[],r17) A15_ c16_ h0_ h10_ (A.szl (ByteArray.mk #[]) rfl) hr19 r809 hv810) (.l 3 .nil) ?_
    rintro _ _ ⟨A811,c812,rfl,rfl⟩
    refine⟨by kernel_rfl,?_⟩
    refine A.AH.nx (A.mb 16 16383) [0,1,2,3,4,5] ?_
    refine A.hq A.pb [0,1,2,3,4,5] [0,1,2,3,4,5,359,599] [] [] (A.mb 16 65535) 0 [(14,.n),(15,.n)] [(8,.slice (some ⟨g329,0,none⟩) 1 1),(9,.slice A811 ((r809).length) c812)] ?_
    refine A.AH.done ?_
    exact A.j ⟨[(a1.1,r26)],r809,(some ⟨g329,0,none⟩),1,A811,c812,rfl,rfl,hF⟩
   obtain⟨r809,hv810,hF⟩:=A.bd_some hF
   refine A.AL.call 599 [] (first:=[]) (cap:=[]) cf79 (R17_putEntry_ok a3 (a0.1,a1.1,ByteArray.mk #[],r17) A15_ c16_ h0_ h10_ (A.szl (ByteArray.mk #[]) rfl) hr19 r809 hv810) (.l 3 .nil) ?_
   rintro _ _ ⟨A811,c812,rfl,rfl⟩
   refine⟨by kernel_rfl,?_⟩
   refine A.AH.nx (A.mb 16 16351) [0,1,2,3,4,5] ?_
   refine A.AH.one 5 ?_
   refine A.AL.bsl 359 (ty:=T43) (cs:=[.int .i64 a1.1,.string r26]) [(a1.1,r26)] ⟨⟨⟨rfl,h10_⟩,⟨rfl,hr28⟩⟩,rfl⟩ (fun g329=>?_) Tryz.zeroValue44 Tryz.sizeOf44
   refine A.AH.nx (A.mb 16 16383) [0,1,2,3,4,5] ?_
   refine A.hq A.pb [0,1,2,3,4,5] [0,1,2,3,4,5,359,599] [] [] (A.mb 16 65535) 0 [(14,.n),(15,.n)] [(8,.slice (some ⟨g329,0,none⟩) 1 1),(9,.slice A811 ((r809).length) c812)] ?_
   refine A.AH.done ?_
   exact A.j ⟨[(a1.1,r26)],r809,(some ⟨g329,0,none⟩),1,A811,c812,rfl,rfl,hF⟩
  rintro _ _ ⟨xs22,xs25,A20,c21,A23,c24,rfl,rfl,hF⟩
  rw[F.R17_tells_j1]at hF
  obtain rfl:=Option.some.inj hF
  refine A.frz 359 [] ?_
  refine A.frz 599 [] ?_
  exact A.rt2 [(0,359),(1,599)] ⟨A20,c21,A23,c24,rfl,rfl⟩
 refine A.xl 1 ?_
 refine A.q0 [] [] [.n,.n] [(64,.bool (decide (a0.2.1=9)))] ?_
 refine A.dx 1 ?_
 refine A.AX.cnd rfl hF (fun hb hF=>?_) (fun hb hF=>?_)
 ·refine A.xl 1 ?_
  refine A.q0 [] [] [.n] [(13,.slice none 0 0)] ?_
  refine A.dl 3 ?_
  refine A.q0 [] [] [.n] [(14,.int .i64 0)] ?_
  refine A.dx 2 ?_
  refine A.snil 780 T43 ?_
  refine A.lp_ [2,3,5] [1,2,3,5] (fun f nl nh=>∃(xs991:List D43),∃(y992:Int),∃(A989:Option Addr),∃(c990:Nat),nl=[(13,.slice A989 ((xs991).length) c990),(14,.int .i64 y992)]∧nh=[(780,.sh (.slice T43) [.slice A989 (xs991).length c990] xs991)]∧IntKind.i64.has y992∧F.R17_tells_l3 a1 a2 a3 f xs991 y992=some r) ⟨[],0,none,0,rfl,rfl,(A.hasl .i64 (0) rfl),hF⟩ ?_
  rintro f994 _ _ ⟨xs991,y992,A989,c990,rfl,rfl,hy993,hF⟩
  rcases f994 with _|f994
  ·exact A.no0 hF
  rw[F.R17_tells_l3]at hF
  refine A.xl 2 ?_
  refine A.q0 [] [] [.n,.n,.n,.n] [(69,.bool (decide (y992<((a2).length:Int))))] ?_
  refine A.dx 1 ?_
  refine A.AX.cnd rfl hF (fun hb hF=>?_) (fun hb hF=>?_)
  ·refine A.xx 2 ?_
   refine A.AX.join [2,3,5,14] [1,2,3,5] (fun nl nh=>∃(xs997:List D43),∃(A995:Option Addr),∃(c996:Nat),nl=[(13,.slice A995 ((xs997).length) c996)]∧nh=[(915,.sh (.slice T43) [.slice A995 (xs997).length c996] xs997)]∧F.R17_tells_j2 (F.R17_tells_l3 a1 a2 a3 f994) y992 xs997=some r) ?_ ?_
   ·refine A.xx 2 ?_
    refine A.AX.dr mixed 8 8 (A.mb 8 0) ?_
    refine A.hq A.pb [] [1,2,3,5,780] [5] [] (A.mb 8 99) 4 [(0,.n),(1,.n),(5,.n),(6,.b 0 0)] [(72,.slice A13_ ((a2).length) c14_),(73,.int .i64 y992),(78,.int .i64 a1.1)] ?_
    obtain⟨x999,hv1000,hF⟩:=A.bd_some hF
    refine A.AH.pkl 2 871 hv1000 fun ho1001=>?_
    intro A1003 c1004 b1005 o1006 hA1002
    refine A.AH.v A.pb [1,2,3,5,780] [1,2,3,5,780,871,872] 2 (A.mb 8 103) rfl (fun a w hf hh=>A.r_ixa (t:=T55) hv1000 hA1002 hf) ?_
    refine A.hq A.pb [1,2,3,5,780,871,872] [1,2,3,5,780,871,872] [] [871] (A.mb 8 255) 0 [(3,.n),(4,.e 0 0),(7,.n)] [(79,.bool (decide (x999.1=a1.1)))] ?_
    refine A.AH.done ?_
    refine A.ex 1 ?_
    refine A.AX.cnd rfl hF (fun hb hF=>?_) (fun hb hF=>?_)
    ·refine A.AX.dr mixed 10 10 (A.mb 10 0) ?_
     refine A.hq A.pb [] [1,2,3,5,780,871,872] [5] [] (A.mb 10 31) 5 [(0,.n),(1,.n),(3,.n),(4,.n),(2,.b 0 1)] [(80,.slice A989 ((xs991).length) c990),(83,.slice A13_ ((a2).length) c14_),(84,.int .i64 y992),(82,.slice A11_ ((a1.2).length) c12_)] ?_
     obtain⟨x1007,hv1008,hF⟩:=A.bd_some hF
     refine A.AH.pkl 2 873 hv1008 fun ho1009=>?_
     intro A1011 c1012 b1013 o1014 hA1010
     refine A.AH.v A.pb [1,2,3,5,780,871,872] [1,2,3,5,780,871,872,873,874] 5 (A.mb 10 63) rfl (fun a w hf hh=>A.r_ixa (t:=T55) hv1008 hA1010 hf) ?_
     refine A.hq A.pb [1,2,3,5,780,871,872,873,874] [1,2,3,5,780,871,872,873,874] [] [873] (A.mb 10 255) 2 [(6,.n),(7,.e 0 1)] [(87,.slice A1011 ((x1007.2).length) c1012)] ?_
     refine A.AH.one 8 ?_
     obtain⟨r1015,hv1016,hF⟩:=A.bd_some hF
     refine A.AL.call 875 [] (first:=[]) (cap:=[]) cf80 (R17_joins_ok xs991 a1.2 x1007.2 A989 c990 A11_ c12_ A1011 c1012 r1015 hv1016) (.s 780 (.l 1 (.l 874 .nil))) ?_
     rintro _ _ ⟨A1017,c1018,rfl,rfl⟩
     refine⟨by kernel_rfl,?_⟩
     refine A.AH.nx (A.mb 10 511) [1,2,3,5,780,871,872,873,874] ?_
     refine A.hq A.pb [1,2,3,5,780,871,872,873,874] [1,2,3,5,780,871,872,873,874,875] [] [] (A.mb 10 1023) 0 [(9,.n)] [(13,.slice A1017 ((r1015).length) c1018)] ?_
     refine A.AH.done ?_
     refine A.ee 1 ?_
     refine A.dup 875 915 ?_
     exact A.j ⟨r1015,A1017,c1018,rfl,rfl,hF⟩
    refine A.xe 2 ?_
    refine A.dup 780 915 ?_
    exact A.j ⟨xs991,A989,c990,rfl,rfl,hF⟩
   rintro _ _ ⟨xs997,A995,c996,rfl,rfl,hF⟩
   rw[F.R17_tells_j2]at hF
   refine A.xl 0 ?_
   obtain⟨hc998,hF⟩:=A.gd_some hF
   refine A.q [] [] [.n,.n,.n] [Z.R64 (y992+1)] [(14,.int .i64 (y992+1))] hc998 ?_
   refine A.AL.done ?_
   refine A.mv 915 780 [] ?_
   exact A.j ⟨_,Nat.lt_succ_self _,⟨xs997,(y992+1),A995,c996,rfl,rfl,(Z.i64_has hc998),hF⟩⟩
  refine A.xl 3 ?_
  refine A.q0 [] [] [.n,.n,.n,.n] [(8,.slice A989 ((xs991).length) c990),(9,.slice A15_ ((a3).length) c16_)] ?_
  refine A.dx 1 ?_
  obtain rfl:=Option.some.inj hF
  exact A.rt2 [(0,780),(1,3)] ⟨A989,c990,A15_,c16_,rfl,rfl⟩
 refine A.xl 4 ?_
 refine A.q0 [] [] [.n] [(15,.slice none 0 0)] ?_
 refine A.dl 3 ?_
 refine A.q0 [] [] [.n] [(16,.int .i64 0)] ?_
 refine A.dx 2 ?_
 refine A.nil 1089 T43 44 ?_
 refine A.lp_ [4,5] [0,1,4,5] (fun f nl nh=>∃(xs1021:List D46),∃(xs1024:List D43),∃(y1025:Int),∃(A1019:Option Addr),∃(c1020:Nat),∃(A1022:Option Addr),∃(c1023:Nat),nl=[(3,.slice A1019 ((xs1021).length) c1020),(15,.slice A1022 ((xs1024).length) c1023),(16,.int .i64 y1025)]∧nh=[(3,.sh (.slice T46) [.slice A1019 (xs1021).length c1020] xs1021),(1089,.own T43 44 A1022 c1023 xs1024)]∧IntKind.i64.has y1025∧F.R17_tells_l5 a0 a1 f xs1021 xs1024 y1025=some r) ⟨a3,[],0,A15_,c16_,none,0,rfl,rfl,(A.hasl .i64 (0) rfl),hF⟩ ?_
 rintro f1027 _ _ ⟨xs1021,xs1024,y1025,A1019,c1020,A1022,c1023,rfl,rfl,hy1026,hF⟩
 rcases f1027 with _|f1027
 ·exact A.no0 hF
 rw[F.R17_tells_l5]at hF
 refine A.xl 2 ?_
 refine A.q0 [5] [] [.n,.n,.b 0 1,.n,.n] [(95,.bool (decide (y1025<((a1.2).length:Int))))] ?_
 refine A.dx 1 ?_
 refine A.AX.cnd rfl hF (fun hb hF=>?_) (fun hb hF=>?_)
 ·refine A.xx 2 ?_
  refine A.AX.join [4,5,16] [0,1,4,5] (fun nl nh=>∃(xs1030:List D43),∃(xs1033:List D46),∃(A1028:Option Addr),∃(c1029:Nat),∃(A1031:Option Addr),∃(c1032:Nat),nl=[(3,.slice A1031 ((xs1033).length) c1032),(15,.slice A1028 ((xs1030).length) c1029)]∧nh=[(1089,.own T43 44 A1028 c1029 xs1030),(1344,.sh (.slice T46) [.slice A1031 (xs1033).length c1032] xs1033)]∧F.R17_tells_j4 (F.R17_tells_l5 a0 a1 f1027) y1025 xs1030 xs1033=some r) ?_ ?_
  ·refine A.xl 2 ?_
   refine A.q0 [5] [] [.n,.b 0 1,.n] [(99,.slice A11_ ((a1.2).length) c12_),(100,.int .i64 y1025)] ?_
   obtain⟨x1035,hv1036,hF⟩:=A.bd_some hF
   refine A.AL.ixs 1 1260 hv1036 fun ho1037=>?_
   intro b1038 o1039
   refine A.q0 [] [1260] [.n,.e 0 0] [(103,.agg #[.int .i64 x1035.1.1,.string x1035.1.2])] ?_
   refine A.AL.alloc 1261 (cs:=[.int .i64 0,.string (ByteArray.mk #[])]) Tryz.zeroValue44 fun g1040=>?_
   refine A.sw 1261 [] [.int .i64 x1035.1.1,.string x1035.1.2] ?_
   refine A.dl 2 ?_
   refine A.q0 [4] [] [.n,.b 0 1,.n] [(106,.bool (decide (a0.2.1=10)))] ?_
   refine A.dx 1 ?_
   refine A.AX.cnd rfl hF (fun hb hF=>?_) (fun hb hF=>?_)
   ·refine A.xl 0 ?_
    refine A.q0 [1261] [] [.n,.b 0 0] [(107,.slice A1022 ((xs1024).length) c1023),(108,.agg #[.int .i64 x1035.1.1,.string x1035.1.2])] ?_
    refine A.AL.bsl 1262 (ty:=T43) (cs:=[.int .i64 x1035.1.1,.string x1035.1.2]) [(x1035.1.1,x1035.1.2)] ⟨⟨⟨rfl,ho1037.1.1⟩,⟨rfl,ho1037.1.2⟩⟩,rfl⟩ (fun g1041=>?_) Tryz.zeroValue44 Tryz.sizeOf44
    obtain⟨hl1044,hF⟩:=A.gd_some hF
    refine A.AL.app (k:=1089) [] (A.rowO (k:=1262) rfl) inf44 hl1044 fun A1042 c1043=>?_
    refine A.q0 [] [] [.n] [(15,.slice A1042 ((xs1024++[(x1035.1.1,x1035.1.2)]).length) c1043)] ?_
    refine A.de 1 ?_
    refine A.dup 3 1344 ?_
    exact A.j ⟨(xs1024++[(x1035.1.1,x1035.1.2)]),xs1021,A1042,c1043,A1019,c1020,rfl,rfl,hF⟩
   refine A.xl 1 ?_
   refine A.q0 [1261] [] [.n,.b 0 0] [(111,.slice A1019 ((xs1021).length) c1020),(112,.agg #[.int .i64 x1035.1.1,.string x1035.1.2])] ?_
   obtain⟨r1045,hv1046,hF⟩:=A.bd_some hF
   refine A.AL.call 1263 [] (first:=[]) (cap:=[]) cf81 (R17_has_ok xs1021 (x1035.1.1,x1035.1.2) A1019 c1020 ho1037.1.1 ho1037.1.2 r1045 hv1046) (.l 3 .nil) ?_
   rintro _ _ ⟨rfl,rfl⟩
   refine⟨by kernel_rfl,?_⟩
   refine A.q0 [] [] [.n] [(114,.bool (!r1045))] ?_
   refine A.dx 1 ?_
   refine A.AX.cnb rfl hF (fun hb hF=>?_) (fun hb hF=>?_)
   ·refine A.xl 1 ?_
    refine A.q0 [1261] [] [.n,.b 0 0] [(115,.slice A1022 ((xs1024).length) c1023),(116,.agg #[.int .i64 x1035.1.1,.string x1035.1.2])] ?_
    refine A.AL.bsl 1303 (ty:=T43) (cs:=[.int .i64 x1035.1.1,.string x1035.1.2]) [(x1035.1.1,x1035.1.2)] ⟨⟨⟨rfl,ho1037.1.1⟩,⟨rfl,ho1037.1.2⟩⟩,rfl⟩ (fun g1047=>?_) Tryz.zeroValue44 Tryz.sizeOf44
    obtain⟨hl1050,hF⟩:=A.gd_some hF
    refine A.AL.app (k:=1089) [] (A.rowO (k:=1303) rfl) inf44 hl1050 fun A1048 c1049=>?_
    refine A.q0 [] [] [.n] [(15,.slice A1048 ((xs1024++[(x1035.1.1,x1035.1.2)]).length) c1049)] ?_
    refine A.dl 1 ?_
    refine A.q0 [4,1261] [] [.n,.n,.b 0 0,.n,.b 1 0,.n,.b 1 1,.n] [(119,.slice A1019 ((xs1021).length) c1020),(126,.agg #[.int .i64 a0.1,.int .i64 x1035.1.1,.string x1035.1.2,.int .i64 1])] ?_
    obtain⟨r1051,hv1052,hF⟩:=A.bd_some hF
    refine A.AL.call 1304 [] (first:=[]) (cap:=[]) cf79 (R17_putEntry_ok xs1021 (a0.1,x1035.1.1,x1035.1.2,1) A1019 c1020 h0_ ho1037.1.1 ho1037.1.2 (A.hasl .i64 (1) rfl) r1051 hv1052) (.l 3 .nil) ?_
    rintro _ _ ⟨A1053,c1054,rfl,rfl⟩
    refine⟨by kernel_rfl,?_⟩
    refine A.q0 [] [] [.n] [(3,.slice A1053 ((r1051).length) c1054)] ?_
    refine A.de 1 ?_
    refine A.frz 1304 [] ?_
    refine A.dup 1304 1344 ?_
    exact A.j ⟨(xs1024++[(x1035.1.1,x1035.1.2)]),r1051,A1048,c1049,A1053,c1054,rfl,rfl,hF⟩
   refine A.xe 2 ?_
   refine A.dup 3 1344 ?_
   exact A.j ⟨xs1024,xs1021,A1022,c1023,A1019,c1020,rfl,rfl,hF⟩
  rintro _ _ ⟨xs1030,xs1033,A1028,c1029,A1031,c1032,rfl,rfl,hF⟩
  rw[F.R17_tells_j4]at hF
  refine A.xl 0 ?_
  obtain⟨hc1034,hF⟩:=A.gd_some hF
  refine A.q [] [] [.n,.n,.n] [Z.R64 (y1025+1)] [(16,.int .i64 (y1025+1))] hc1034 ?_
  refine A.AL.done ?_
  refine A.mv 1344 3 [] ?_
  exact A.j ⟨_,Nat.lt_succ_self _,⟨xs1033,xs1030,(y1025+1),A1031,c1032,A1028,c1029,rfl,rfl,(Z.i64_has hc1034),hF⟩⟩
 refine A.xl 3 ?_
 refine A.q0 [] [] [.n,.n,.n,.n] [(8,.slice A1022 ((xs1024).length) c1023),(9,.slice A1019 ((xs1021).length) c1020)] ?_
 refine A.dx 1 ?_
 obtain rfl:=Option.some.inj hF
 refine A.frz 1089 [] ?_
 exact A.rt2 [(0,1089),(1,3)] ⟨A1022,c1023,A1019,c1020,rfl,rfl⟩
def F.R17_Keeps (a0:Int):Option Bool:=some (bif decide (a0=11)then true else decide (a0=16))
theorem R17_Keeps_ok (a0:Int)(h0_:IntKind.i64.has a0)(r:Bool)(hF:F.R17_Keeps a0=some r):
    A.Ct Tryz.prog 25 [.int .i64 a0] [] [] (fun v H'=>v=.bool r∧H'=[]):=by
 refine A.Ct.enter Tryz.func25 rfl Tryz.ntmps25 rfl fun w0 F0=>?_
 rw[F.R17_Keeps]at hF
 refine A.xl 1 ?_
 refine A.q0 [] [] [.n] [] ?_
 refine A.dl 2 ?_
 refine A.q0 [] [] [.n,.n,.n,.sy .n,.sy .n,.pk,.n] [(2,.bool (bif decide (a0=11)then true else decide (a0=16)))] ?_
 refine A.dx 1 ?_
 obtain rfl:=Option.some.inj hF
 exact A.rt1 [] ⟨rfl,rfl⟩
end Go.Proofs.YtbljnlkhebiniaaGreatDoor
end
section
set_option linter.unusedVariables false
set_option linter.unusedSimpArgs false
set_option linter.unusedSectionVars false
namespace Go.A
open Go.RowKit Go.Z
theorem hp_two {C:Cx}{H:List (Nat×Res)}{w w':World}{S:List Nat}(hh:Hp C H w)(hc:Ch S w w'){k k2:Nat}{r1 r2:Res}{js:List Nat}(hne:k2≠k)(hS: ∀b,b∈S→Bk H k b∨Bk H k2 b)
  (hb: ∀b,b∈r1.bl∨b∈r2.bl→(Bk H k b∨Bk H k2 b)∨(w.heap.size≤b∧b<w'.heap.size)) (hd: ∀b,b∈r1.bl→b∉r2.bl) (e1:r1.ref=none) (e2:r2.ref=none)
  (h1: ∀(F:Nat→Prop) (B:Nat→Nat→Prop),(∀b,Fh C H b→b<w.heap.size→F b)→(∀b,Bk H k b∨Bk H k2 b→b∉r1.bl→b∉r2.bl→F b)→r1.holds w' F B)
  (h2: ∀(F:Nat→Prop) (B:Nat→Nat→Prop),(∀b,Fh C H b→b<w.heap.size→F b)→(∀b,Bk H k b∨Bk H k2 b→b∉r1.bl→b∉r2.bl→F b)→r2.holds w' F B)
  (hj:hng [k,k2] js H=true):Hp C ((k2,r2)::(k,r1)::ded js H) w':=by
 have hkc: ∀j r,hk ((k2,r2)::(k,r1)::ded js H) j=some r→(j=k2∧r=r2)∨(j=k∧r=r1)∨(j≠k2∧j≠k∧(r=.dead∨(hk H j=some r∧r.ref≠some k∧r.ref≠some k2))):=fun j r h=>by
  rw[hk_cons]at h
  split at h
  ·rename_i e;injection h with h;exact .inl ⟨e.symm,h.symm⟩
  ·rename_i n2
   rw[hk_cons]at h
   split at h
   ·rename_i e;injection h with h;exact .inr (.inl ⟨e.symm,h.symm⟩)
   ·rename_i n1
    refine .inr (.inr ⟨Ne.symm n2,Ne.symm n1,?_⟩)
    rw[hk_ded]at h
    rcases hng_at hj j with h3|⟨h3,_⟩
    ·rw[h3]at h
     cases hv:hk H j with
     |none=>rw[hv]at h;cases h
     |some v=>
      rw[hv]at h
      simp only[Option.map_some,Option.some.injEq]at h
      cases hr:rin [k,k2] v.ref with
      |true=>rw[hr]at h;exact .inl h.symm
      |false=>
       rw[hr]at h
       replace h:v=r:=h
       subst h
       refine .inr ⟨rfl,fun e=>?_,fun e=>?_⟩
       ·rw[e]at hr;simp[rin]at hr
       ·rw[e]at hr;simp[rin]at hr
    ·rw[h3]at h;injection h with h;exact .inl h.symm
 have hkp: ∀j r,j≠k2→j≠k→hk H j=some r→r.ref=none→hk ((k2,r2)::(k,r1)::ded js H) j=some r:=fun j r n2 n1 h hr=>by
  rw[hk_cons,if_neg (Ne.symm n2),hk_cons,if_neg (Ne.symm n1),hk_ded]
  rcases hng_at hj j with h3|⟨_,h3⟩
  ·rw[h3,h];simp[hr,rin]
  ·rw[h]at h3;cases h3
 have hbk: ∀j b,Bk ((k2,r2)::(k,r1)::ded js H) j b→(j=k2∧b∈r2.bl)∨(j=k∧b∈r1.bl)∨(j≠k2∧j≠k∧Bk H j b):=fun j b ⟨r,h3,h4⟩=>by
  rcases hkc j r h3 with⟨e,rfl⟩|⟨e,rfl⟩|⟨n2,n1,rfl|⟨h5,_⟩⟩
  ·exact .inl ⟨e,h4⟩
  ·exact .inr (.inl ⟨e,h4⟩)
  ·cases h4
  ·exact .inr (.inr ⟨n2,n1,r,h5,h4⟩)
 have hlt: ∀b,Bk H k b∨Bk H k2 b→b<w.heap.size:=fun b h=>h.elim (fun h=>(hh.bnd k b h).2) fun h=>(hh.bnd k2 b h).2
 have hbn: ∀b,Bk H k b∨Bk H k2 b→C.w0.heap.size≤b∨b∈C.S:=fun b h=>h.elim (fun h=>(hh.bnd k b h).1) fun h=>(hh.bnd k2 b h).1
 have hun: ∀j b,j≠k→j≠k2→Bk H j b→¬(Bk H k b∨Bk H k2 b):=fun j b n1 n2 h h3=>h3.elim (fun h4=>n1 (hh.dis j k b h h4)) fun h4=>n2 (hh.dis j k2 b h h4)
 have hnb: ∀b,(∀j,¬Bk H j b)→b<w.heap.size→b∉S∧∀j,¬Bk ((k2,r2)::(k,r1)::ded js H) j b:=fun b hB hl=>by
  have hn: ¬(Bk H k b∨Bk H k2 b):=fun h=>h.elim (hB k) (hB k2)
  refine⟨fun h=>hn (hS b h),fun j hj=>?_⟩
  rcases hbk j b hj with⟨_,h3⟩|⟨_,h3⟩|⟨_,_,h3⟩
  ·rcases hb b (.inr h3)with h4|h4
   ·exact hn h4
   ·omega
  ·rcases hb b (.inl h3)with h4|h4
   ·exact hn h4
   ·omega
  ·exact hB j h3
 have hF: ∀b,Fh C H b→b<w.heap.size→b∉S∧Fh C ((k2,r2)::(k,r1)::ded js H) b:=fun b h hl=>⟨(hnb b h.1 hl).1,(hnb b h.1 hl).2,h.2⟩
 have hF2: ∀b,Bk H k b∨Bk H k2 b→b∉r1.bl→b∉r2.bl→Fh C ((k2,r2)::(k,r1)::ded js H) b:=fun b h h3 h4=>by
  refine⟨fun j hj=>?_,.inr (hbn b h)⟩
  rcases hbk j b hj with⟨_,h5⟩|⟨_,h5⟩|⟨n2,n1,h5⟩
  ·exact h4 h5
  ·exact h3 h5
  ·exact hun j b n1 n2 h5 h
 have bnd': ∀j b,Bk ((k2,r2)::(k,r1)::ded js H) j b→(C.w0.heap.size≤b∨b∈C.S)∧b<w'.heap.size:=fun j b hj=>by
  have hx: ∀b,(Bk H k b∨Bk H k2 b)∨(w.heap.size≤b∧b<w'.heap.size)→(C.w0.heap.size≤b∨b∈C.S)∧b<w'.heap.size:=fun b h=>h.elim (fun h=>⟨hbn b h,Nat.lt_of_lt_of_le (hlt b h) hc.size⟩) fun h=>⟨.inl (Nat.le_trans hh.ch.size h.1),h.2⟩
  rcases hbk j b hj with⟨_,h3⟩|⟨_,h3⟩|⟨_,_,h3⟩
  ·exact hx b (hb b (.inr h3))
  ·exact hx b (hb b (.inl h3))
  ·have:=hh.bnd j b h3;exact⟨this.1,Nat.lt_of_lt_of_le this.2 hc.size⟩
 have hdo: ∀j b,j≠k2→j≠k→Bk H j b→b∈r1.bl∨b∈r2.bl→False:=fun j b n2 n1 h3 h4=>by
  rcases hb b h4 with h5|h5
  ·exact hun j b n1 n2 h3 h5
  ·have:=(hh.bnd j b h3).2;omega
 refine⟨?_,fun j r hj'=>?_,bnd',fun j j' b hj hj'=>?_,fun j r i hj hri=>?_⟩
 ·have hch:=hh.ch
  refine⟨hc.os.trans hch.os,hc.tape.trans hch.tape,hc.output.trans hch.output,Nat.le_trans hch.size hc.size,fun b hb' hn=>?_⟩
  have hb2:b∉S:=fun hbS=>by
   rcases hbn b (hS b hbS)with h3|h3
   ·omega
   ·exact hn h3
  rw[hc.block b (Nat.lt_of_lt_of_le hb' hch.size) hb2]
  exact hch.block b hb' hn
 ·rcases hkc j r hj' with⟨_,rfl⟩|⟨_,rfl⟩|⟨n2,n1,rfl|⟨h5,n3,n4⟩⟩
  ·exact h2 _ _ (fun b h hl=>(hF b h hl).2) hF2
  ·exact h1 _ _ (fun b h hl=>(hF b h hl).2) hF2
  ·trivial
  ·refine Res.to (hh.hold j r h5) hc hF hnb (fun i b hi hB=>?_) fun b hbl hbS=>hun j b n1 n2 ⟨r,h5,hbl⟩ (hS b hbS)
   have hik:i≠k:=fun e=>n3 (by rw[hi,e])
   have hik2:i≠k2:=fun e=>n4 (by rw[hi,e])
   refine⟨fun hbS=>hun i b hik hik2 hB (hS b hbS),?_⟩
   obtain⟨r3,h7,h8⟩:=hB
   exact⟨r3,hkp i r3 hik2 hik h7 ((hh.ref j r i h5 hi).2 r3 h7),h8⟩
 ·rcases hbk j b hj with⟨rfl,h3⟩|⟨rfl,h3⟩|⟨a2,a1,h3⟩<;>rcases hbk j' b hj' with⟨rfl,h4⟩|⟨rfl,h4⟩|⟨b2,b1,h4⟩
  ·rfl
  ·exact absurd h3 (hd b h4)
  ·exact(hdo j' b b2 b1 h4 (.inr h3)).elim
  ·exact absurd h4 (hd b h3)
  ·rfl
  ·exact(hdo j' b b2 b1 h4 (.inl h3)).elim
  ·exact(hdo j b a2 a1 h3 (.inr h4)).elim
  ·exact(hdo j b a2 a1 h3 (.inl h4)).elim
  ·exact hh.dis j j' b h3 h4
 ·rcases hkc j r hj with⟨_,rfl⟩|⟨_,rfl⟩|⟨n2,n1,rfl|⟨h5,n3,n4⟩⟩
  ·rw[e2]at hri;cases hri
  ·rw[e1]at hri;cases hri
  ·cases hri
  ·obtain⟨h6,h7⟩:=hh.ref j r i h5 hri
   refine⟨h6,fun r' h8=>?_⟩
   rcases hkc i r' h8 with⟨_,rfl⟩|⟨_,rfl⟩|⟨_,_,rfl|⟨h9,_⟩⟩
   ·exact e2
   ·exact e1
   ·rfl
   ·exact h7 r' h9
structure In1 (T t:Ty) where
 get:T.den→List t.den
 set:T.den→List t.den→T.den
 pos:Nat
 hlt:pos<T.size
 hcl: ∀x ys p q,cl T (set x ys) [q]=(cl T x [p]).set pos (.slice q.1 ys.length q.2)
 hgs: ∀x ys,get (set x ys)=ys
 hss: ∀x a b,set (set x a) b=set x b
 hsg: ∀x,set x (get x)=x
 hrep: ∀(w:World) (F:Nat→Prop) x ys p q,T.rep w F (cl T x [p]) x→(Ty.slice t).rep w F [.slice q.1 ys.length q.2] ys→T.rep w F (cl T (set x ys) [q]) (set x ys)
theorem cl_lenN: ∀(t:Ty) (x:t.den) (ps:Lf),ps.length=lv t→(cl t x ps).length=t.size
 | .int _,_,_,_=>rfl
 | .byte,_,_,_=>rfl
 | .bool,_,_,_=>rfl
 | .str,_,_,_=>rfl
 | .slice _,_,[_],_=>rfl
 | .slice _,_,[],h=>by cases h
 | .slice _,_,_::_::_,h=>by simp[lv]at h
 | .pair a b,v,ps,h=>by
  simp only[cl,List.length_append,Ty.size]
  simp only[lv]at h
  rw[cl_lenN a v.1 _ (by rw[List.length_take];omega),cl_lenN b v.2 _ (by rw[List.length_drop];omega)]
def In1.snd (s t:Ty)(h:lv s=0):In1 (.pair s (.slice t)) t where
 get x:=x.2
 set x ys:=(x.1,ys)
 pos:=s.size
 hlt:=by show s.size<s.size+1;omega
 hcl x ys p q:=by
  have e: ∀(z:s.den) (zs:List t.den) (u:Option Addr×Nat),cl (.pair s (.slice t)) (z,zs) [u]=cl s z []++[.slice u.1 zs.length u.2]:=fun z zs u=>by
   simp only[cl,h,List.take_zero,List.drop_zero]
  have hl:(cl s x.1 []).length=s.size:=cl_lenN s x.1 [] (by simp[h])
  rw[e x.1 ys q,show cl (.pair s (.slice t)) x [p]=cl s x.1 []++[.slice p.1 x.2.length p.2]from e x.1 x.2 p,List.set_append_right _ _ (by omega),hl,Nat.sub_self];rfl
 hgs _ _:=rfl
 hss _ _ _:=rfl
 hsg _:=rfl
 hrep w F x ys p q h1 h2:=by
  have e: ∀(z:s.den) (zs:List t.den) (u:Option Addr×Nat),cl (.pair s (.slice t)) (z,zs) [u]=cl s z []++[.slice u.1 zs.length u.2]:=fun z zs u=>by
   simp only[cl,h,List.take_zero,List.drop_zero]
  obtain⟨ca,cb,h3,h4,h5⟩:=h1
  rw[show cl (.pair s (.slice t)) x [p]=cl s x.1 []++[.slice p.1 x.2.length p.2]from e x.1 x.2 p]at h3
  have hl:(cl s x.1 []).length=ca.length:=by rw[cl_lenN s x.1 [] (by simp[h]),rep_len s h4]
  rw[(List.append_inj h3 hl).1.symm]at h4
  rw[e x.1 ys q]
  exact⟨_,_,rfl,h4,h2⟩
def rblx (h:Option Nat)(As:Lf):List Nat:=match h with
 |none=>rbl As
 |some i=>rbl (As.set i (none,0))
theorem rblx_at {h:Option Nat}{As:Lf}{i:Nat}{a:Option Addr×Nat}(ha:As[i]?=some a)(hi:h≠some i){b:Nat}(hb:b∈obl a.1):b∈rblx h As:=by
 cases h with
 |none=>exact mem_rbl ha hb
 |some j=>exact mem_rbl (As:=As.set j (none,0)) (i:=i) (by rw[List.getElem?_set_ne (fun e=>hi (by rw[e]))];exact ha) hb
def NR {T t:Ty}(I:In1 T t)(e ei:TypeId)(A:Option Addr)(c:Nat)(xs:List T.den)(As:Lf)(h:Option Nat)(w:World)(F:Nat→Prop):Prop:=
 ∃cells:List Value,w.ownsRow 0 e T.size (.slice A xs.length c) xs.length cells∧(∀u∈cells,u.oneCell'=true)∧As.length=xs.length∧(obl A++rblx h As).Nodup∧(∀b,b∈obl A++rblx h As→b<w.heap.size)∧
  ∀(i:Nat) (x:T.den) (a:Option Addr×Nat),xs[i]?=some x→As[i]?=some a→(cells.drop (i*T.size)).take T.size=cl T x [a]∧T.rep w F (cl T (I.set x []) [(none,0)]) (I.set x [])∧(h≠some i→Own t ei 0 w F a.1 a.2 (I.get x))
theorem owr_to {w w':World}{S:List Nat}{e:TypeId}{sz n c m:Nat}{A:Option Addr}{cells:List Value}(h:w.ownsRow 0 e sz (.slice A n c) m cells)(hc:Ch S w w')(hA: ∀b,b∈obl A→b∉S):w'.ownsRow 0 e sz (.slice A n c) m cells:=by
 refine⟨h.1,?_⟩
 rcases h.2 with h3|⟨g,cap,cur,hv,hb,hg,rest⟩
 ·exact .inl h3
 ·refine .inr ⟨g,cap,cur,hv,hb,?_,rest⟩
  injection hv with hA' _ _
  have hm:g∈obl A:=by rw[hA'];simp[obl]
  rw[hc.block g (Array.getElem?_eq_some_iff.1 hg).1 (hA g hm)]
  exact hg
section
variable {T t:Ty}{I:In1 T t}{e ei:TypeId}{A:Option Addr}{c:Nat}{xs:List T.den}{As:Lf}{h:Option Nat}
theorem NR.to {w w':World}{F F':Nat→Prop}{S:List Nat}(hn:NR I e ei A c xs As h w F)(hc:Ch S w w')(hb: ∀b,b∈obl A++rblx h As→b∉S)(hF: ∀b,F b→b<w.heap.size→b∉S∧F' b):NR I e ei A c xs As h w' F':=by
 obtain⟨cells,h1,h2,h3,h4,h5,h6⟩:=hn
 refine⟨cells,owr_to h1 hc fun b hb'=>hb b (List.mem_append_left _ hb'),h2,h3,h4,fun b hb'=>Nat.lt_of_lt_of_le (h5 b hb') hc.size,fun i x a hx ha=>?_⟩
 obtain⟨h7,h8,h9⟩:=h6 i x a hx ha
 exact⟨h7,rep_to h8 hc hF,fun hi=>Own.to (h9 hi) hc (fun b hb' _ _=>hb b (List.mem_append_right _ (rblx_at ha hi hb'))) hF⟩
def nr (I:In1 T t)(e ei:TypeId)(A:Option Addr)(c:Nat)(xs:List T.den)(As:Lf)(h:Option Nat):Res:=.gn (obl A++rblx h As) (NR I e ei A c xs As h) NR.to
theorem NR.rep {w:World}{F:Nat→Prop}(hn:NR I e ei A c xs As none w F){F':Nat→Prop}(hF: ∀b,F b→F' b)(hB: ∀b,b∈rbl As→F' b):Own T e 0 w F' A c xs:=by
 obtain⟨cells,h1,h2,h3,h4,h5,h6⟩:=hn
 refine⟨cells,h1,h2,fun i x hx=>?_⟩
 have hi:=(List.getElem?_eq_some_iff.1 hx).1
 have ha:As[i]?=some As[i]:=List.getElem?_eq_getElem (by omega)
 obtain⟨h7,h8,h9⟩:=h6 i x _ hx ha
 have h10:=Own.rep (h9 (by simp)) hF fun b hb=>hB b (mem_rbl ha hb)
 have h11:=I.hrep w F' (I.set x []) (I.get x) (none,0) As[i] (rep_more hF T h8) h10
 rw[I.hss,I.hsg]at h11
 rw[h7];exact h11
end
section
variable {C:Cx}{l:List (Nat×Value)}{H:List (Nat×Res)}{X:Act→World→Prop}{T t:Ty}{e ei:TypeId}{A:Option Addr}{c:Nat}{xs:List T.den}{As:Lf}
theorem nrz (k:Nat)(I:In1 T t)(e ei:TypeId)(h: ∀a w,Fr a C.n C.ds l→Hp C ((k,nr I e ei none 0 [] [] none)::H) w→X a w)(hn:hk H k=none:=by kernel_rfl): ∀a w,Fr a C.n C.ds l→Hp C H w→X a w:=fun a w hf hh=>
 h a w hf (hh.add hn rfl (fun j hj=>by cases hj) ⟨[],World.ownsRow_nil w 0 e T.size,by simp,rfl,by simp[obl,rblx,rbl],by simp[obl,rblx,rbl],fun i x a hx=>by simp at hx⟩)
theorem nrfz (k:Nat)(js:List Nat)(I:In1 T t)(h: ∀a w,Fr a C.n C.ds l→Hp C ((k,.own T e A c xs)::ded js H) w→X a w)(hk1:hk H k=some (nr I e ei A c xs As none):=by rfl)(hj:hng [k] js H=true:=by kernel_rfl): ∀a w,Fr a C.n C.ds l→Hp C H w→X a w:=fun a w hf hh=>by
 refine h a w hf (Hp.dd (hh.upd (S:=[]) (Ch.refl w) (by simp) (fun b hb=>.inl ⟨_,hk1,List.mem_append_left _ hb⟩) (fun j hj=>by cases hj) fun F B h1 h2 _ _ _=>?_) hj)
 have hN:NR I e ei A c xs As none w (Fh C H):=hh.hold k _ hk1
 have hN2:NR I e ei A c xs As none w F:=hN.to (S:=[]) (Ch.refl w) (by simp) fun b hb hl=>⟨by simp,h1 b hb hl⟩
 refine hN2.rep (fun _ h=>h) fun b hb=>h2 b ⟨_,hk1,List.mem_append_right _ hb⟩ fun hbA=>?_
 obtain⟨_,_,_,_,h4,_⟩:=hN
 exact(List.nodup_append.1 h4).2.2 b hbA b hb rfl
theorem pkn (k kn:Nat)(I:In1 T t){hl:Option Nat}{i:Int}{v:T.den}(hi:ix xs i=some v)(h:T.ok (I.set v [])→∀A' c' g,A=some ⟨g,0,none⟩→As[i.toNat]?=some (A',c')→∀a w,Fr a C.n C.ds l→Hp C ((kn,.el (some k) g (i.toNat*T.size) (cl T v [(A',c')]))::H) w→X a w)
  (hk1:hk H k=some (nr I e ei A c xs As hl):=by rfl) (hn:hk H kn=none:=by kernel_rfl): ∀a w,Fr a C.n C.ds l→Hp C H w→X a w:=fun a w hf hh=>by
 obtain⟨j,rfl,hv⟩:=ix_some hi
 obtain⟨cells,h1,h2,h3,h4,h5,h6⟩:NR I e ei A c xs As hl w (Fh C H):=hh.hold k _ hk1
 have hj:=(List.getElem?_eq_some_iff.1 hv).1
 have ha:As[j]?=some As[j]:=List.getElem?_eq_getElem (by omega)
 obtain⟨h7,h8,_⟩:=h6 j v _ hv ha
 rcases h1.2 with⟨_,h9⟩|⟨g,cap,cur,hA',_⟩
 ·omega
 ·injection hA' with hA' _ hc'
  subst hA';subst hc'
  refine h (rep_ok T h8) As[j].1 As[j].2 g rfl (by rw[Int.toNat_natCast];exact ha) a w hf (hh.add hn rfl (fun i hi r hr=>by injection hi with hi;subst hi;rw[hk1]at hr;injection hr with hr;subst hr;rfl) ⟨fun q u hu=>?_,h5 g (List.mem_append_left _ (by simp[obl])),⟨_,hk1,List.mem_append_left _ (by simp[obl])⟩⟩)
  rw[Addr.add_lit,Int.toNat_natCast]
  have hlen:(cl T v [As[j]]).length=T.size:=by
   have:=congrArg List.length h7
   rw[←this,List.length_take,List.length_drop,h1.1]
   have:(j+1)*T.size≤xs.length*T.size:=Nat.mul_le_mul_right _ hj
   rw[Nat.add_mul,Nat.one_mul]at this;omega
  have hq:q<T.size:=by rw[←hlen];exact(List.getElem?_eq_some_iff.1 hu).1
  have:(j+1)*T.size≤xs.length*T.size:=Nat.mul_le_mul_right _ hj
  rw[Nat.add_mul,Nat.one_mul]at this
  rw[h1.cellAt _ (by omega)]
  rw[show cl T v [(As[j].1,As[j].2)]=cl T v [As[j]]from rfl,←h7,List.getElem?_take_of_lt hq,List.getElem?_drop]at hu
  exact hu
theorem nrt (k kn:Nat)(js:List Nat)(I:In1 T t){i:Int}{v:T.den}{A':Option Addr}{c':Nat}(hi:ix xs i=some v)(hA:As[i.toNat]?=some (A',c'))(h: ∀a w,Fr a C.n C.ds l→Hp C ((kn,.own t ei A' c' (I.get v))::(k,nr I e ei A c xs As (some i.toNat))::ded js H) w→X a w)
  (hk1:hk H k=some (nr I e ei A c xs As none):=by rfl) (hn:hk H kn=none:=by kernel_rfl) (hj:hng [k,kn] js H=true:=by kernel_rfl): ∀a w,Fr a C.n C.ds l→Hp C H w→X a w:=fun a w hf hh=>by
 obtain⟨j,rfl,hv⟩:=ix_some hi
 rw[Int.toNat_natCast]at hA h
 have hN:NR I e ei A c xs As none w (Fh C H):=hh.hold k _ hk1
 obtain⟨cells,h1,h2,h3,h4,h5,h6⟩:=hN
 have h4':(obl A++rbl As).Nodup:=h4
 rw[List.nodup_append]at h4'
 have hsub: ∀b,b∈rblx (some j) As→b∈rbl As:=fun b hb=>by
  rcases rbl_set hA b hb with h|h
  ·exact h
  ·cases h
 have hkn: ∀b,¬Bk H kn b:=fun b ⟨r,h7,_⟩=>by rw[hn]at h7;cases h7
 have hne:kn≠k:=fun e=>by subst e;rw[hn]at hk1;cases hk1
 have hdj: ∀b,b∈rblx (some j) As→b∉obl A':=fun b hb hb2=>by
  obtain⟨y,hy,hby⟩:=List.mem_flatMap.1 hb
  obtain⟨q,hq,hqe⟩:=List.getElem_of_mem hy
  have hqe':(As.set j (none,0))[q]?=some y:=by rw[←hqe];exact List.getElem?_eq_getElem hq
  by_cases hjq:j=q
  ·subst hjq
   rw[List.getElem?_set_self (by rw[List.length_set]at hq;exact hq)]at hqe'
   injection hqe' with hqe'
   subst hqe';cases hby
  ·rw[List.getElem?_set_ne hjq]at hqe'
   exact rbl_other h4'.2.1 hA hqe' hjq b hb2 hby
 refine h a w hf (hp_two hh (S:=[]) (Ch.refl w) hne (by simp) (fun b hb=>.inl (.inl ?_)) (fun b hb hb2=>?_) rfl rfl (fun F B q1 _=>?_) (fun F B q1 _=>?_) hj)
 ·rcases hb with hb|hb
  ·refine⟨_,hk1,?_⟩
   rcases List.mem_append.1 hb with hb|hb
   ·exact List.mem_append_left _ hb
   ·exact List.mem_append_right _ (hsub b hb)
  ·exact⟨_,hk1,List.mem_append_right _ (mem_rbl hA hb)⟩
 ·rcases List.mem_append.1 hb with hb|hb
  ·exact h4'.2.2 b hb b (mem_rbl hA hb2) rfl
  ·exact hdj b hb hb2
 ·have hrs:(obl A++rblx (some j) As).Nodup:=by
   rw[List.nodup_append]
   refine⟨h4'.1,rbl_set_nodup h4'.2.1 hA (by simp[obl]) (fun x hx=>by simp[obl]at hx),fun x hx y hy=>h4'.2.2 x hx y (hsub y hy)⟩
  refine⟨cells,h1,h2,h3,hrs,fun b hb=>h5 b ?_,fun i x a hx ha=>?_⟩
  ·rcases List.mem_append.1 hb with hb|hb
   ·exact List.mem_append_left _ hb
   ·exact List.mem_append_right _ (hsub b hb)
  ·obtain⟨h7,h8,h9⟩:=h6 i x a hx ha
   exact⟨h7,rep_as h8 q1,fun _=>Own.to (h9 (by simp)) (S:=[]) (Ch.refl w) (by simp) fun b hb hl=>⟨by simp,q1 b hb hl⟩⟩
 ·exact Own.to ((h6 j v _ hv hA).2.2 (by simp)) (S:=[]) (Ch.refl w) (by simp) fun b hb hl=>⟨by simp,q1 b hb hl⟩
end
theorem cl_oneN: ∀(t:Ty) (x:t.den) (ps:Lf),∀u∈cl t x ps,u.oneCell'=true
 | .int _,_,_,u,h=>by simp only[cl,List.mem_singleton]at h;subst h;rfl
 | .byte,_,_,u,h=>by simp only[cl,List.mem_singleton]at h;subst h;rfl
 | .bool,_,_,u,h=>by simp only[cl,List.mem_singleton]at h;subst h;rfl
 | .str,_,_,u,h=>by simp only[cl,List.mem_singleton]at h;subst h;rfl
 | .slice _,_,p::_,u,h=>by simp only[cl,List.mem_singleton]at h;subst h;rfl
 | .slice _,_,[],u,h=>by cases h
 | .pair a b,x,ps,u,h=>by
  rcases List.mem_append.1 h with h|h
  ·exact cl_oneN a x.1 _ u h
  ·exact cl_oneN b x.2 _ u h
theorem rbl_appendN (As Bs:Lf):rbl (As++Bs)=rbl As++rbl Bs:=by simp[rbl,List.flatMap_append]
theorem run_storeRaw {P:Program}{w:World}{e tt:TypeId}{sz n c g p:Nat}{cells:List Value}{v:Value}(hrow:w.ownsRow 0 e sz (.slice (some ⟨g,0,none⟩) n c) n cells)(hp:p<n*sz)(hS: ∀w,(sizeOf tt).run P w=.ok 1 w)(hv:v.cells=[v].toArray)(h1:v.oneCell'=true):
  ∃w',(Instr.storeAt tt (.pointer (some ⟨g,p,none⟩)) v).run P w=.ok () w'∧Ch [g] w w'∧w'.heap.size=w.heap.size∧w'.ownsRow 0 e sz (.slice (some ⟨g,0,none⟩) n c) n (cells.set p v):=by
 obtain⟨hl,hrow⟩:=hrow
 rcases hrow with⟨hv0,_⟩|⟨g',cap,cur,hv0,hb,hg,hnc,hcm,hcs,htake⟩
 ·cases hv0
 injection hv0 with hA _ hc
 injection hA with hA;injection hA with hA _ _
 subst hA;subst hc
 have hcur:n*sz≤cur.size:=by rw[hcs];exact Nat.mul_le_mul_right _ hnc
 have hBlk:Blk w g e cur.toList:=by unfold Blk;simpa using hg
 have hst:=run_storeB (P:=P) (o:=p) hBlk hS hv rfl (by simp;omega) (fun u hu=>by simp at hu;subst hu;exact h1)
 obtain⟨cs',hcs'⟩: ∃cs',cs'=cur.toList.take p++[v]++cur.toList.drop (p+1):=⟨_,rfl⟩
 rw[←hcs']at hst
 have hset:cs'=cur.toList.set p v:=by
  rw[hcs']
  refine List.ext_getElem? fun q=>?_
  have:=patch_get (l:=cur.toList) (new:=[v]) (p:=p) (by simp;omega) q
  simp only[List.length_singleton]at this
  rw[this,List.getElem?_set]
  by_cases h2:p=q
  ·subst h2;simp;omega
  ·rw[if_neg h2]
   by_cases h3:q<p
   ·rw[if_pos h3]
   ·rw[if_neg h3,if_neg (by omega)]
 refine⟨_,hst,Ch.setRow w g _,by simp[World.setRow],by rw[List.length_set];exact hl,.inr ⟨g,c,cs'.toArray,rfl,hb,?_,hnc,hcm,by rw[hset];simp[hcs],?_⟩⟩
 ·have:=hBlk.setRow (cs':=cs')
  unfold Blk at this;exact this
 ·show cs'.take (n*sz)=_
  rw[hset,List.take_set,htake]
theorem chunk_setN {cells:List Value}{sz j p i:Nat}{v:Value}(hp:p<sz):(((cells.set (j*sz+p) v).drop (i*sz)).take sz)=if i=j then((cells.drop (i*sz)).take sz).set p v else(cells.drop (i*sz)).take sz:=by
 refine List.ext_getElem? fun q=>?_
 rw[seg_get,List.getElem?_set]
 by_cases hij:i=j
 ·subst hij
  rw[if_pos rfl,List.getElem?_set,seg_get]
  by_cases hq:q<sz
  ·rw[if_pos hq,if_pos hq]
   by_cases hpq:p=q
   ·subst hpq
    rw[if_pos rfl,if_pos rfl]
    simp only[List.length_take,List.length_drop]
    by_cases h3:i*sz+p<cells.length
    ·rw[if_pos h3,if_pos (by omega)]
    ·rw[if_neg h3,if_neg (by omega)]
   ·rw[if_neg (by omega),if_neg hpq]
  ·rw[if_neg hq,if_neg (by omega),if_neg hq]
 ·rw[if_neg hij,seg_get]
  by_cases hq:q<sz
  ·rw[if_pos hq,if_pos hq,if_neg]
   intro h
   rcases Nat.lt_or_gt_of_ne hij with h3|h3
   ·have:(i+1)*sz≤j*sz:=Nat.mul_le_mul_right _ h3
    rw[Nat.add_mul,Nat.one_mul]at this;omega
   ·have:(j+1)*sz≤i*sz:=Nat.mul_le_mul_right _ h3
    rw[Nat.add_mul,Nat.one_mul]at this;omega
  ·rw[if_neg hq,if_neg hq]
section
variable {r:Option Nat}{P:Program}{ops:Array Oper}{Q:Exit→Act→World→Prop}{rest lst:List Oper}{C:Cx}{l:List (Nat×Value)}{H:List (Nat×Res)}{d:Nat}{T0:TypeId}{pos:String}{af:Array Edge}{T t:Ty}{e ei:TypeId}{A:Option Addr}{c:Nat}{xs ys:List T.den}{As Bs:Lf}
theorem AL.bslN (ki kn:Nat)(js:List Nat)(I:In1 T t){tt:TypeId}{sz:Nat}{z:Value}{parts:List (Nat×Operand)}{vs:List (Nat×Value)}{cs:List Value}{A1:Option Addr}{c1:Nat}{zs:List t.den}(y:T.den)(hD:Dat H T (cl T (I.set y []) [(none,0)]) (I.set y []))
  (h: ∀g,AL r P ops Q rest C ((d,.slice (some ⟨g,0,none⟩) 1 1)::l) ((kn,nr I e ei (some ⟨g,0,none⟩) 1 [y] [(A1,c1)] none)::(ki,.dead)::ded js H))
  (hz: ∀w,(zeroValue e).run P w=.ok z w) (hS: ∀w,(sizeOf e).run P w=.ok sz w) (hk1:hk H ki=some (.own t ei A1 c1 zs):=by rfl) (hy:I.get y=zs:=by rfl) (hcl:cl T y [(A1,c1)]=cs:=by rfl) (hsz:T.size=sz:=by rfl)
  (hp:evp l parts=some vs:=by rfl) (ht:P.underlying tt=some (.slice e):=by rfl) (hs:Nat.ble (1*sz) 16777216=true:=by rfl) (h0:Nat.ble 1 (1*sz)=true:=by rfl)
  (hc:Instr.fill (fun i=>some (i*sz,sz)) ((Array.range (1*sz)).map (z.cells[· %z.cells.size]!)) vs=some cs.toArray:=by kernel_rfl)
  (hd:Nat.ble (d+1) C.n=true:=by rfl) (hn:hk H kn=none:=by kernel_rfl) (hj:hng [ki,kn] js H=true:=by kernel_rfl):AL r P ops Q (⟨some d,.buildSlice tt 1 parts.toArray,T0,pos,af,none⟩::rest) C l H:=fun a w hf hh=>by
 subst hsz;subst hy;subst hcl
 have hO:Own t ei 0 w (Fh C H) A1 c1 (I.get y):=hh.hold ki _ hk1
 have hne:kn≠ki:=fun e=>by subst e;rw[hn]at hk1;cases hk1
 have hlt: ∀b,b∈obl A1→b<w.heap.size:=fun b hb=>(hh.bnd ki b ⟨_,hk1,hb⟩).2
 have hl:(cl T y [(A1,c1)]).length=T.size:=by
  have h1:=rep_len T (Dat.rep (w:=w) hh T hD)
  have h2:=I.hcl (I.set y []) (I.get y) (none,0) (A1,c1)
  rw[I.hss,I.hsg]at h2
  rw[h2,List.length_set];exact h1
 refine Z.st_bslice hf hd ht hS hz hp hs h0 hc fun g w' a' hg hs' hb hch hf'=>h g a' w' hf' (hp_two hh hch hne (by simp) (fun b hb'=>?_) (fun b hb'=>by cases hb') rfl rfl (fun F B _ _=>trivial) (fun F B q1 _=>?_) hj)
 ·rcases hb' with hb'|hb'
  ·cases hb'
  ·rcases List.mem_append.1 hb' with hb'|hb'
   ·simp only[obl,List.mem_singleton]at hb';exact .inr (by omega)
   ·have:b∈obl A1:=by simpa[rblx,rbl] using hb'
    exact .inl (.inl ⟨_,hk1,this⟩)
 ·refine⟨cl T y [(A1,c1)],⟨by rw[hl];simp,.inr ⟨g,1,(cl T y [(A1,c1)]).toArray,rfl,Nat.zero_le _,hb,Nat.le_refl _,by simp[maxLen],by simp[hl],by simp[List.take_of_length_le (Nat.le_of_eq hl)]⟩⟩,cl_oneN T y _,rfl,?_,fun b hb'=>?_,fun i x u hx hu=>?_⟩
  ·rw[List.nodup_append]
   refine⟨obl_nodup _,by simpa[rblx,rbl] using obl_nodup A1,fun x hx y hy=>?_⟩
   have hx:x=g:=by simpa[obl] using hx
   have hy:y∈obl A1:=by simpa[rblx,rbl] using hy
   have:=hlt y hy;omega
  ·rcases List.mem_append.1 hb' with hb'|hb'
   ·simp only[obl,List.mem_singleton]at hb';omega
   ·have:b∈obl A1:=by simpa[rblx,rbl] using hb'
    have:=hlt b this;omega
  ·have hi:i=0:=by have:=(List.getElem?_eq_some_iff.1 hx).1;simp at this;omega
   subst hi
   simp only[List.getElem?_cons_zero,Option.some.injEq]at hx hu
   subst hx;subst hu
   exact⟨by rw[Nat.zero_mul,List.drop_zero,List.take_of_length_le (by omega)],rep_to (Dat.rep hh T hD) hch fun b hb hl=>⟨by simp,q1 b hb hl⟩,fun _=>Own.to hO hch (by simp) fun b hb hl=>⟨by simp,q1 b hb hl⟩⟩
theorem AL.appN (k ky:Nat)(js:List Nat)(I:In1 T t){tt:TypeId}{x y:Operand}{i:TypeInfo}{z:Value}{bytes m n1 n2 g2 c2:Nat}
  (hinf:P.info? e=some i∧i.zero=some z∧i.size=m∧i.bytes=bytes∧z.cells.size=m) (hl:(xs.length+ys.length)*bytes≤140737488355328)
  (h: ∀A' c',AL r P ops Q rest C ((d,.slice A' (xs++ys).length c')::l) ((ky,.dead)::(k,nr I e ei A' c' (xs++ys) (As++Bs) none)::ded js H))
  (hk1:hk H k=some (nr I e ei A c xs As none):=by rfl) (hk2:hk H ky=some (nr I e ei (some ⟨g2,0,none⟩) c2 ys Bs none):=by rfl) (hne:Nat.beq ky k=false:=by rfl) (hx:ev l x=some (.slice A n1 c):=by rfl) (hy:ev l y=some (.slice (some ⟨g2,0,none⟩) n2 c2):=by rfl) (hn1:n1=xs.length:=by rfl) (hn2:n2=ys.length:=by rfl) (hm:m=T.size:=by rfl) (hbp:Nat.ble 1 bytes=true:=by rfl)
  (ht:P.underlying tt=some (.slice e):=by rfl) (hd:Nat.ble (d+1) C.n=true:=by rfl) (hj:hng [k,ky] js H=true:=by kernel_rfl):AL r P ops Q (⟨some d,.call {callee:=.builtin .append,args:=#[x,y],argTypes:=#[tt,tt]},T0,pos,af,none⟩::rest) C l H:=fun a w hf hh=>by
 subst hn1;subst hn2;subst hm
 have hne:ky≠k:=fun e=>by rw[e,Nat.beq_refl]at hne;cases hne
 obtain⟨hi,hz,hsize,hby,hzs⟩:=hinf
 have hbp:=Nat.le_of_ble_eq_true hbp
 obtain⟨cells,o1,o2,o3,o4,o5,o6⟩:NR I e ei A c xs As none w (Fh C H):=hh.hold k _ hk1
 obtain⟨news,p1,p2,p3,p4,p5,p6⟩:NR I e ei (some ⟨g2,0,none⟩) c2 ys Bs none w (Fh C H):=hh.hold ky _ hk2
 have o4':(obl A++rbl As).Nodup:=o4
 have p4':(obl (some (⟨g2,0,none⟩:Addr))++rbl Bs).Nodup:=p4
 rw[List.nodup_append]at o4' p4'
 have hbig:xs.length+ys.length≤maxLen:=by
  have:xs.length+ys.length≤(xs.length+ys.length)*bytes:=Nat.le_mul_of_pos_right _ hbp
  simp only[maxLen];omega
 obtain⟨v',w',hrun,h3,h4,_,h5⟩:=run_append_own_at (P:=P) w 0 tt T0 e i z T.size bytes ht hi hz hsize hby hzs (pos_size T) _ xs.length cells o1 ⟨g2,0,none⟩ ys.length c2 news p1.1 (fun j u hu=>by rw[Addr.add_lit,Nat.zero_add,p1.cellAt j (by have:=(List.getElem?_eq_some_iff.1 hu).1;rw[p1.1]at this;exact this)];exact hu) p2 hbig hl (Nat.zero_le _)
 have hform: ∃A' c',v'=.slice A' (xs.length+ys.length) c':=by
  rcases h3.2 with⟨hv,hn⟩|⟨g,cap,cur,hv,_⟩
  ·exact⟨none,0,by rw[hv,hn]⟩
  ·exact⟨_,_,hv⟩
 obtain⟨A',c',rfl⟩:=hform
 have hch:Ch (obl A) w w':=by have:=Ch.of_grown h4;rwa[ownBlock_slice]at this
 have hnew: ∀b,b∈obl A'→b∈obl A∨(b=w.heap.size∧b<w'.heap.size):=fun b hb=>by
  have hlt:b<w'.heap.size:=(h3.lt b (by cases A'<;>simp_all [obl,Value.ownBlock])).2
  rcases h5 with h5|h5
  ·left
   have:obl A'=obl A:=by rw[←ownBlock_slice A' (xs.length+ys.length) c',h5,ownBlock_slice]
   rwa[←this]
  ·right
   have:obl A'=[w.heap.size]:=by rw[←ownBlock_slice A' (xs.length+ys.length) c',h5];rfl
   rw[this]at hb
   exact⟨by simpa using hb,hlt⟩
 have hB1: ∀b,b∈obl A++rbl As→Bk H k b:=fun b hb=>⟨_,hk1,hb⟩
 have hB2: ∀b,b∈rbl Bs→Bk H ky b:=fun b hb=>⟨_,hk2,List.mem_append_right _ hb⟩
 have hdis: ∀b,Bk H k b→¬Bk H ky b:=fun b h1 h2=>hne (hh.dis ky k b h2 h1)
 have hFA: ∀b,Fh C H b→b∉obl A:=fun b hb hbA=>hb.1 k (hB1 b (List.mem_append_left _ hbA))
 refine Z.valw (w':=w') (v:=.slice A' (xs++ys).length c') hf hd ?_ fun a' hf'=>h A' c' a' w' hf' (hp_two hh hch hne (fun b hb=>.inl (hB1 b (List.mem_append_left _ hb))) (fun b hb=>?_) (fun b _ hb=>by cases hb) rfl rfl (fun F B q1 _=>?_) (fun _ _ _ _=>trivial) hj)
 ·rw[List.length_append]
  simp only[execOp,resolve,invoke,builtin,Sem.run_bind,Sem.run_pure,Result.andThen_ok,List.map_toArray,List.map_cons,List.map_nil,hf.eval hx,hf.eval hy,hrun]
 ·rcases hb with hb|hb
  ·rcases List.mem_append.1 hb with hb|hb
   ·rcases hnew b hb with hb|hb
    ·exact .inl (.inl (hB1 b (List.mem_append_left _ hb)))
    ·exact .inr ⟨by omega,hb.2⟩
   ·replace hb:b∈rbl (As++Bs):=hb
    rw[rbl_appendN]at hb
    rcases List.mem_append.1 hb with hb|hb
    ·exact .inl (.inl (hB1 b (List.mem_append_right _ hb)))
    ·exact .inl (.inr (hB2 b hb))
  ·cases hb
 ·have hlt: ∀b,b∈rbl (As++Bs)→b<w.heap.size:=fun b hb=>by
   rw[rbl_appendN]at hb
   rcases List.mem_append.1 hb with hb|hb
   ·exact o5 b (List.mem_append_right _ hb)
   ·exact p5 b (List.mem_append_right _ hb)
  refine⟨cells++news,by rw[List.length_append];exact h3,fun u hu=>?_,by rw[List.length_append,List.length_append,o3,p3],?_,fun b hb=>?_,fun q v u hv hu=>?_⟩
  ·rcases List.mem_append.1 hu with hu|hu
   ·exact o2 u hu
   ·exact p2 u hu
  ·show(obl A'++rbl (As++Bs)).Nodup
   rw[List.nodup_append]
   refine⟨obl_nodup _,?_,fun x hx y hy e=>?_⟩
   ·rw[rbl_appendN,List.nodup_append]
    exact⟨o4'.2.1,p4'.2.1,fun x hx y hy e=>by subst e;exact hdis x (hB1 x (List.mem_append_right _ hx)) (hB2 x hy)⟩
   ·subst e
    rcases hnew x hx with hx|hx
    ·rw[rbl_appendN]at hy
     rcases List.mem_append.1 hy with hy|hy
     ·exact o4'.2.2 x hx x hy rfl
     ·exact hdis x (hB1 x (List.mem_append_left _ hx)) (hB2 x hy)
    ·have:=hlt x hy;omega
  ·rcases List.mem_append.1 hb with hb|hb
   ·rcases hnew b hb with hb|hb
    ·exact Nat.lt_of_lt_of_le (o5 b (List.mem_append_left _ hb)) hch.size
    ·exact hb.2
   ·exact Nat.lt_of_lt_of_le (hlt b hb) hch.size
  ·by_cases hq:q<xs.length
   ·rw[List.getElem?_append_left hq]at hv
    rw[List.getElem?_append_left (by omega)]at hu
    obtain⟨h7,h8,h9⟩:=o6 q v u hv hu
    refine⟨?_,rep_to h8 hch fun b hb hl=>⟨hFA b hb,q1 b hb hl⟩,fun _=>Own.to (h9 (by simp)) hch (fun b hb _ _ hbA=>o4'.2.2 b hbA b (mem_rbl hu hb) rfl) fun b hb hl=>⟨hFA b hb,q1 b hb hl⟩⟩
    have hm:(q+1)*T.size≤xs.length*T.size:=Nat.mul_le_mul_right _ hq
    rw[Nat.add_mul,Nat.one_mul]at hm
    rw[List.drop_append_of_le_length (by rw[o1.1];omega),List.take_append_of_le_length (by rw[List.length_drop,o1.1];omega)]
    exact h7
   ·rw[List.getElem?_append_right (by omega)]at hv
    rw[List.getElem?_append_right (by omega),o3]at hu
    obtain⟨h7,h8,h9⟩:=p6 (q-xs.length) v u hv hu
    refine⟨?_,rep_to h8 hch fun b hb hl=>⟨hFA b hb,q1 b hb hl⟩,fun _=>Own.to (h9 (by simp)) hch (fun b hb _ _ hbA=>hdis b (hB1 b (List.mem_append_left _ hbA)) (hB2 b (mem_rbl hu hb))) fun b hb hl=>⟨hFA b hb,q1 b hb hl⟩⟩
    have e:(cells++news).drop (q*T.size)=news.drop ((q-xs.length)*T.size):=by
     rw[List.drop_append,List.drop_eq_nil_of_le (by rw[o1.1];exact Nat.mul_le_mul_right _ (by omega)),List.nil_append,o1.1,Nat.sub_mul]
    rw[e];exact h7
theorem AL.stN (k kn:Nat)(js:List Nat)(I:In1 T t){tt:TypeId}{px py:Operand}{g n c1:Nat}{A1:Option Addr}{i:Int}{v:T.den}{zs:List t.den}(hi:ix xs i=some v)(hA:A=some ⟨g,0,none⟩)
  (h:AL r P ops Q rest C l ((kn,.dead)::(k,nr I e ei A c (xs.set i.toNat (I.set v zs)) (As.set i.toNat (A1,c1)) none)::ded js H))
  (hk1:hk H k=some (nr I e ei A c xs As (some i.toNat)):=by rfl) (hk2:hk H kn=some (.own t ei A1 c1 zs):=by rfl) (hne:Nat.beq kn k=false:=by rfl) (hx:ev l px=some (.pointer (some ⟨g,i.toNat*T.size+I.pos,none⟩)):=by rfl) (hy:ev l py=some (.slice A1 n c1):=by rfl) (hn:n=zs.length:=by rfl) (hS:szB P tt=some 1:=by kernel_rfl)
  (hj:hng [k,kn] js H=true:=by kernel_rfl):AL r P ops Q (⟨none,.store tt px py,T0,pos,af,none⟩::rest) C l H:=fun a w hf hh=>by
 subst hn;subst hA
 have hne:kn≠k:=fun e=>by rw[e,Nat.beq_refl]at hne;cases hne
 obtain⟨j,rfl,hv⟩:=ix_some hi
 rw[Int.toNat_natCast]at h hk1 hx
 have hj':=(List.getElem?_eq_some_iff.1 hv).1
 obtain⟨cells,o1,o2,o3,o4,o5,o6⟩:NR I e ei (some ⟨g,0,none⟩) c xs As (some j) w (Fh C H):=hh.hold k _ hk1
 have hO:Own t ei 0 w (Fh C H) A1 c1 zs:=hh.hold kn _ hk2
 have hg:Bk H k g:=⟨_,hk1,List.mem_append_left _ (by simp[obl])⟩
 have hB2: ∀b,b∈obl A1→Bk H kn b:=fun b hb=>⟨_,hk2,hb⟩
 have hdis: ∀b,Bk H k b→¬Bk H kn b:=fun b h1 h2=>hne (hh.dis kn k b h2 h1)
 have hFA: ∀b,Fh C H b→b∉[g]:=fun b hb hbA=>by rw[List.mem_singleton]at hbA;subst hbA;exact hb.1 k hg
 have hm:(j+1)*T.size≤xs.length*T.size:=Nat.mul_le_mul_right _ hj'
 rw[Nat.add_mul,Nat.one_mul]at hm
 have hpos:=I.hlt
 obtain⟨w',hrun,hch,hsz,hrow⟩:=run_storeRaw (P:=P) (tt:=tt) (p:=j*T.size+I.pos) (v:=.slice A1 zs.length c1) o1 (by omega) (szB_run hS) rfl rfl
 have hlA:j<As.length:=by omega
 have ha:As[j]?=some As[j]:=List.getElem?_eq_getElem hlA
 have hsub: ∀b,b∈rbl (As.set j (A1,c1))→b∈rblx (some j) As∨b∈obl A1:=fun b hb=>by
  have:As.set j (A1,c1)=(As.set j (none,0)).set j (A1,c1):=by rw[List.set_set]
  rw[this]at hb
  exact rbl_set (As:=As.set j (none,0)) (i:=j) (a:=(none,0)) (List.getElem?_set_self hlA) b hb
 have o4':=o4
 rw[List.nodup_append]at o4'
 refine Z.skipw (w':=w') hf ?_ fun a' hf'=>h a' w' hf' (hp_two hh hch hne (fun b hb=>.inl (by rw[List.mem_singleton]at hb;subst hb;exact hg)) (fun b hb=>.inl ?_) (fun b _ hb=>by cases hb) rfl rfl (fun F B q1 _=>?_) (fun _ _ _ _=>trivial) hj)
 ·simp only[execOp,hf.eval hx,hf.eval hy,Sem.run_bind,hrun,Result.andThen_ok,Sem.run_pure]
 ·rcases hb with hb|hb
  ·rcases List.mem_append.1 hb with hb|hb
   ·exact .inl ⟨_,hk1,List.mem_append_left _ hb⟩
   ·rcases hsub b hb with hb|hb
    ·exact .inl ⟨_,hk1,List.mem_append_right _ hb⟩
    ·exact .inr (hB2 b hb)
  ·cases hb
 ·refine⟨cells.set (j*T.size+I.pos) (.slice A1 zs.length c1),by rw[List.length_set];exact hrow,fun u hu=>?_,by rw[List.length_set,List.length_set,o3],?_,fun b hb=>?_,fun q x u hx hu=>?_⟩
  ·rcases List.mem_or_eq_of_mem_set hu with hu|rfl
   ·exact o2 u hu
   ·rfl
  ·show(obl (some (⟨g,0,none⟩:Addr))++rbl (As.set j (A1,c1))).Nodup
   rw[List.nodup_append]
   refine⟨obl_nodup _,?_,fun x hx y hy e=>?_⟩
   ·have:As.set j (A1,c1)=(As.set j (none,0)).set j (A1,c1):=by rw[List.set_set]
    rw[this]
    exact rbl_set_nodup (As:=As.set j (none,0)) (i:=j) (a:=(none,0)) o4'.2.1 (List.getElem?_set_self hlA) (obl_nodup _) fun x hx=>.inr fun hx2=>hdis x ⟨_,hk1,List.mem_append_right _ hx2⟩ (hB2 x hx)
   ·subst e
    rcases hsub x hy with hy|hy
    ·exact o4'.2.2 x hx x hy rfl
    ·exact hdis x ⟨_,hk1,List.mem_append_left _ hx⟩ (hB2 x hy)
  ·rw[hsz]
   rcases List.mem_append.1 hb with hb|hb
   ·exact o5 b (List.mem_append_left _ hb)
   ·rcases hsub b hb with hb|hb
    ·exact o5 b (List.mem_append_right _ hb)
    ·exact(hh.bnd kn b (hB2 b hb)).2
  ·rw[chunk_setN hpos]
   by_cases hqj:q=j
   ·subst hqj
    rw[List.getElem?_set_self hj']at hx
    rw[List.getElem?_set_self hlA]at hu
    injection hx with hx;injection hu with hu
    subst hx;subst hu
    obtain⟨h7,h8,_⟩:=o6 q v _ hv ha
    rw[if_pos rfl,h7,I.hss,I.hgs]
    exact⟨(I.hcl v zs As[q] (A1,c1)).symm,rep_to h8 hch fun b hb hl=>⟨hFA b hb,q1 b hb hl⟩,fun _=>Own.to hO hch (fun b hb _ _ hbg=>by rw[List.mem_singleton]at hbg;subst hbg;exact hdis b hg (hB2 b hb)) fun b hb hl=>⟨hFA b hb,q1 b hb hl⟩⟩
   ·rw[List.getElem?_set_ne (Ne.symm hqj)]at hx hu
    rw[if_neg hqj]
    obtain⟨h7,h8,h9⟩:=o6 q x u hx hu
    have hne2:some j≠some q:=fun e=>by injection e with e;exact hqj e.symm
    exact⟨h7,rep_to h8 hch fun b hb hl=>⟨hFA b hb,q1 b hb hl⟩,fun _=>Own.to (h9 hne2) hch (fun b hb _ _ hbg=>by
     rw[List.mem_singleton]at hbg;subst hbg
     exact o4'.2.2 b (by simp[obl]) b (rblx_at hu hne2 hb) rfl) fun b hb hl=>⟨hFA b hb,q1 b hb hl⟩⟩
end
section
variable {r:Option Nat}{P:Program}{ops:Array Oper}{Q:Exit→Act→World→Prop}{C:Cx}{l:List (Nat×Value)}{H Hq:List (Nat×Res)}{m f:Nat}{li:List Bool}
theorem AH.qcC (hQ:Pq Q)(hS: ∀w,Hp C H w→gn ops li.toArray m=false→Hp C Hq w)(li':List Bool)(f:Nat)(is:List (Nat×Hint))(cs:List Prop)(nl:List (Nat×Value)){g:Nat}(hc:conj cs)(h:AH r P ops Q Hq m f li' C (cat nl l) H)
  (hg:g=f+is.length) (hb:is.all (fun p=> !(Nat.beq p.1 m))=true) (hcl:cloB ops li.toArray=true) (hn:(Region.noSelect ops&&noDefer ops)=true)
  (hq:((dqs P ⟨[],[]⟩ C.n ops is li.toArray (Z.q0 l)).bind fun x=>(qfin l (nl.map Prod.fst) x.2).map fun y=>(x.1.toList,y))=some (li',cs,nl))
  (he:(dqs P ⟨[],[]⟩ C.n ops is li.toArray (Z.q0 l)).map (fun s=>s.2.q.map Prod.fst)=(dqs P ⟨[],[]⟩ C.n ops is li.toArray (Z.q0 l)).map (fun s=>s.2.q.map Prod.snd)):AH r P ops Q Hq m g li C l H:=fun a w hf hh=>by
 subst hg
 cases hq1:dqs P ⟨[],[]⟩ C.n ops is li.toArray (Z.q0 l)with
 |none=>rw[hq1]at hq;cases hq
 |some x=>
  obtain⟨li1,s'⟩:=x
  rw[hq1]at hq he
  have hq:((qfin l (nl.map Prod.fst) s').map fun y=>(li1.toList,y))=some (li',cs,nl):=hq
  have he:s'.q.map Prod.fst=s'.q.map Prod.snd:=by injection he
  cases hq2:qfin l (nl.map Prod.fst) s' with
  |none=>rw[hq2]at hq;cases hq
  |some y=>
   obtain⟨cs1,nl1⟩:=y
   rw[hq2]at hq
   simp only[Option.map_some,Option.some.injEq,Prod.mk.injEq]at hq
   obtain⟨h1,h2,h3⟩:=hq
   subst h1
   have hq3:=hq2
   rw[h2,h3]at hq3
   have hcs:s'.c=cs:=by rw[←h2];unfold qfin at hq2;split at hq2;(injection hq2 with hq2;injection hq2);cases hq2
   have hkn: ∀w',Kn.ok ⟨[],[]⟩ w':=fun w'=>by refine⟨?_,?_⟩<;>intro x hx<;>cases hx
   exact dqm_walk hn hQ (K:=⟨[],[]⟩) (bb:=fun i=> !(Nat.beq i m)) (fun i hi o ho=>⟨fun e=>by subst e;simp at hi,.inr hkn⟩) (hS w hh) (clo_of hcl) hb hq1 (by rw[hcs];exact conj_all hc) (map_pairs he) (q0_ok hf) fun a' hok=>by
    have:=h a' w (qfin_fr hok (dqs_inv (q0_inv l) hq1) hq3).1 hh
    rwa[Array.toArray_toList]at this
theorem AH.qpC (hQ:Pq Q)(gs:List Nat)(li':List Bool)(f:Nat)(is:List (Nat×Hint))(cs:List Prop)(nl:List (Nat×Value)){g:Nat}(hc:conj cs)(h:AH r P ops Q Hq m f li' C (cat nl l) H)
  (hg:g=f+is.length:=by rfl) (hb:is.all (fun p=> !(Nat.beq p.1 m))=true:=by kernel_rfl) (hcl:cloB ops li.toArray=true:=by kernel_rfl) (hn:(Region.noSelect ops&&noDefer ops)=true:=by kernel_rfl)
  (hq:((dqs P ⟨[],[]⟩ C.n ops is li.toArray (Z.q0 l)).bind fun x=>(qfin l (nl.map Prod.fst) x.2).map fun y=>(x.1.toList,y))=some (li',cs,nl):=by kernel_rfl)
  (he:(dqs P ⟨[],[]⟩ C.n ops is li.toArray (Z.q0 l)).map (fun s=>s.2.q.map Prod.fst)=(dqs P ⟨[],[]⟩ C.n ops is li.toArray (Z.q0 l)).map (fun s=>s.2.q.map Prod.snd):=by kernel_rfl)
  (e:kpH H gs gs=Hq:=by kernel_rfl):AH r P ops Q Hq m g li C l H:=AH.qcC hQ (fun w hh _=>hh.cov gs e) li' f is cs nl hc h hg hb hcl hn hq he
end
end Go.A
end
section
set_option linter.unusedVariables false
set_option linter.unusedSimpArgs false
set_option maxRecDepth 20000
set_option maxHeartbeats 8000000
set_option synthInstance.maxSize 1000000
set_option synthInstance.maxHeartbeats 400000
namespace Go.Proofs.YtbljnlkhebiniaaGreatDoor
open Go.RowKit
def F.R17_CheckState_j1 (k1:Int→Option Int)(y2:Int)(y12:Bool):Option Int:=if(!y12)=true then(some 171)else(A.gd (Z.R64 (y2+1)) (k1 (y2+1)))
def F.R17_CheckState_j2 (k1:Int→Option Int)(a0:D25)(y2:Int)(x5:D46)(y11:Bool):Option Int:=if a0.2.1=11 then(F.R17_CheckState_j1 k1 y2 (bif bif bif y11 then decide (x5.2.2.1=(ByteArray.mk #[]))else false then decide ((0:Int)≤x5.2.2.2)else false then decide (x5.2.2.2≤1099511627776)else false))else(if(bif y11 then decide (x5.2.2.2=1)else false)=true then((F.R05_Check (x5.2.1,x5.2.2.1)).bind fun r14=>(F.R17_CheckState_j1 k1 y2 (decide (r14=0))))else(F.R17_CheckState_j1 k1 y2 false))
def F.R17_CheckState_l3 (a0:D25)(a1:(List D46)):Nat→Int→Option Int
 |0,_=>none
 |f+1,y2=>if y2<((a1).length:Int)then((A.ix a1 y2).bind fun x5=>((F.R17_Keeps a0.2.1).bind fun r17=>(if(bif r17 then decide (x5.1=a0.1)else false)=true then(if y2=0 then(F.R17_CheckState_j2 (F.R17_CheckState_l3 a0 a1 f) a0 y2 x5 true)else(A.gd (Z.R64 (y2-1)) ((A.ix a1 (y2-1)).bind fun x20=>((F.R17_ahead (x20.1,x20.2.1,x20.2.2.1,x20.2.2.2) (x5.1,x5.2.1,x5.2.2.1,x5.2.2.2)).bind fun r26=>(F.R17_CheckState_j2 (F.R17_CheckState_l3 a0 a1 f) a0 y2 x5 r26)))))else(F.R17_CheckState_j2 (F.R17_CheckState_l3 a0 a1 f) a0 y2 x5 false))))else(some 0)
def F.R17_CheckState (a0:D25)(a1:(List D46)):Option Int:=F.R17_CheckState_l3 a0 a1 A.FU 0
theorem R17_CheckState_ok (a0:D25)(a1:(List D46))(A2_:Option Addr)(c3_:Nat)(A10_:Option Addr)(c11_:Nat)(h0_:IntKind.i64.has a0.1)(h1_:IntKind.i64.has a0.2.1)(h4_:IntKind.i64.has a0.2.2.2.1.1)(h5_:IntKind.i64.has a0.2.2.2.1.2.1)(h6_:a0.2.2.2.1.2.2.size≤maxLen)(h7_:a0.2.2.2.2.1.size≤maxLen)(h8_:IntKind.i64.has a0.2.2.2.2.2.1)(h9_:IntKind.i64.has a0.2.2.2.2.2.2)(r:Int)(hF:F.R17_CheckState a0 a1=some r):
    A.Ct Tryz.prog 15 [.agg #[.int .i64 a0.1,.int .i64 a0.2.1,.slice A2_ ((a0.2.2.1).length) c3_,.int .i64 a0.2.2.2.1.1,.int .i64 a0.2.2.2.1.2.1,.string a0.2.2.2.1.2.2,.string a0.2.2.2.2.1,.int .i64 a0.2.2.2.2.2.1,.int .i64 a0.2.2.2.2.2.2],.slice A10_ ((a1).length) c11_] [(0,.sh (.slice (Z.Ty.int .i64)) [.slice A2_ (a0.2.2.1).length c3_] a0.2.2.1),(1,.ln T46 A10_ c11_ a1)] [] (fun v H'=>v=.int .i64 r∧H'=[]∧IntKind.i64.has r):=by
 refine A.Ct.enter Tryz.func15 rfl Tryz.ntmps15 rfl fun w0 F0=>?_
 rw[F.R17_CheckState]at hF
 refine A.xl 1 ?_
 refine A.AL.box 2 (cs:=[.int .i64 a0.1,.int .i64 a0.2.1,.slice A2_ ((a0.2.2.1).length) c3_,.int .i64 a0.2.2.2.1.1,.int .i64 a0.2.2.2.1.2.1,.string a0.2.2.2.1.2.2,.string a0.2.2.2.2.1,.int .i64 a0.2.2.2.2.2.1,.int .i64 a0.2.2.2.2.2.2]) fun g1=>?_
 refine A.q0 [] [] [.n] [] ?_
 refine A.dl 3 ?_
 refine A.q0 [] [] [.n] [(5,.int .i64 0)] ?_
 refine A.dx 2 ?_
 refine A.lp_ [1,2] [0,1,2] (fun f nl nh=>∃(y2:Int),nl=[(5,.int .i64 y2)]∧nh=[]∧IntKind.i64.has y2∧F.R17_CheckState_l3 a0 a1 f y2=some r) ⟨0,rfl,rfl,(A.hasl .i64 (0) rfl),hF⟩ ?_
 rintro f4 _ _ ⟨y2,rfl,rfl,hy3,hF⟩
 rcases f4 with _|f4
 ·exact A.no0 hF
 rw[F.R17_CheckState_l3]at hF
 refine A.xl 2 ?_
 refine A.q0 [] [] [.n,.n,.n,.n] [(11,.bool (decide (y2<((a1).length:Int))))] ?_
 refine A.dx 1 ?_
 refine A.AX.cnd rfl hF (fun hb hF=>?_) (fun hb hF=>?_)
 ·refine A.xl 5 ?_
  refine A.q0 [] [] [.n,.n] [(14,.slice A10_ ((a1).length) c11_),(15,.int .i64 y2)] ?_
  obtain⟨x5,hv6,hF⟩:=A.bd_some hF
  refine A.AL.ixl 1 249 hv6 fun ho7=>?_
  intro b8 o9
  refine A.q0 [] [249] [.e 0 0] [(17,.agg #[.int .i64 x5.1,.int .i64 x5.2.1,.string x5.2.2.1,.int .i64 x5.2.2.2])] ?_
  refine A.AL.alloc 250 (cs:=[.int .i64 0,.int .i64 0,.string (ByteArray.mk #[]),.int .i64 0]) Tryz.zeroValue47 fun g10=>?_
  refine A.sw 250 [] [.int .i64 x5.1,.int .i64 x5.2.1,.string x5.2.2.1,.int .i64 x5.2.2.2] ?_
  refine A.dx 1 ?_
  refine A.AX.join [1,2,5,6] [0,1,2,250] (fun nl nh=>∃(y11:Bool),nl=[(7,.bool y11)]∧nh=[]∧F.R17_CheckState_j2 (F.R17_CheckState_l3 a0 a1 f4) a0 y2 x5 y11=some r) ?_ ?_
  ·refine A.AX.dr mixed 24 24 (A.mb 24 0) ?_
   refine A.hq A.pb [] [0,1,2,249,250] [2] [] (A.mb 24 3) 22 [(0,.n),(1,.b 0 1)] [(19,.int .i64 a0.2.1)] ?_
   refine A.AH.one 2 ?_
   obtain⟨r17,hv18,hF⟩:=A.bd_some hF
   refine A.AL.call 251 [] (first:=[]) (cap:=[]) cf25 (R17_Keeps_ok a0.2.1 h1_ r17 hv18) .nil ?_
   rintro _ _ ⟨rfl,rfl⟩
   refine⟨by kernel_rfl,?_⟩
   refine A.AH.nx (A.mb 24 7) [0,1,2,249,250] ?_
   refine A.hq A.pb [0,1,2,249,250] [0,1,2,249,250] [250,2] [] (A.mb 24 2047) 13 [(3,.n),(4,.sy .n),(6,.sy .n),(5,.sy (.b 0 0)),(7,.sy (.b 1 0)),(8,.sy .n),(9,.pk),(10,.n)] [(28,.bool (bif r17 then decide (x5.1=a0.1)else false))] ?_
   refine A.AH.cnd (j:=28) rfl hF (fun hF=>?_) (fun hF=>?_)
   ·refine A.hq A.pb [0,1,2,249,250] [0,1,2,249,250] [] [] (A.mb 24 16383) 10 [(11,.on .n),(12,.on .n),(13,.on .n)] [(31,.bool (decide (y2=0)))] ?_
    refine A.AH.cnp (j:=31) rfl hF (fun hb hF=>?_) (fun hb hF=>?_)
    ·refine A.hq A.pb [0,1,2,249,250] [0,1,2,249,250] [] [] (A.mb 24 16777215) 0 [(14,.off),(15,.off),(19,.off),(16,.off),(17,.off),(18,.off),(20,.off),(21,.on .n),(22,.n),(23,.n)] [(7,.bool true)] ?_
     refine A.AH.done ?_
     exact A.j ⟨true,rfl,rfl,hF⟩
    obtain⟨hc19,hF⟩:=A.gd_some hF
    refine A.AH.q A.pb [0,1,2,249,250] [0,1,2,249,250] [250] [] (A.mb 24 655359) 6 [(14,.on .n),(15,.on .n),(19,.on (.b 0 0)),(16,.on .n)] [32,37,34] [Z.R64 (y2-1)] [(32,.slice A10_ ((a1).length) c11_),(37,.agg #[.int .i64 x5.1,.int .i64 x5.2.1,.string x5.2.2.1,.int .i64 x5.2.2.2]),(34,.int .i64 (y2-1))] hc19 ?_
    obtain⟨x20,hv21,hF⟩:=A.bd_some hF
    refine A.AH.pkl 1 291 hv21 fun ho22=>?_
    intro b24 o25 hA23
    refine A.AH.vg A.pb [0,1,2,249,250] [0,1,2,249,250,291] 17 (A.mb 24 786431) (dj:=31) rfl (fun a w hf hh=>A.r_ixa (t:=T46) hv21 hA23 hf) ?_
    refine A.hq A.pb [0,1,2,249,250,291] [0,1,2,249,250,291] [] [291] (A.mb 24 1048575) 4 [(18,.on (.e 0 0))] [(36,.agg #[.int .i64 x20.1,.int .i64 x20.2.1,.string x20.2.2.1,.int .i64 x20.2.2.2])] ?_
    refine A.AH.one 20 ?_
    refine A.AL.on (dj:=31) rfl rfl ?_
    obtain⟨r26,hv27,hF⟩:=A.bd_some hF
    refine A.AL.call 292 [] (first:=[]) (cap:=[]) cf44 (R17_ahead_ok (x20.1,x20.2.1,x20.2.2.1,x20.2.2.2) (x5.1,x5.2.1,x5.2.2.1,x5.2.2.2) ho22.1 ho22.2.1 ho22.2.2.1 ho22.2.2.2 ho7.1 ho7.2.1 ho7.2.2.1 ho7.2.2.2 r26 hv27) .nil ?_
    rintro _ _ ⟨rfl,rfl⟩
    refine⟨by kernel_rfl,?_⟩
    refine A.AH.nx (A.mb 24 2097151) [0,1,2,249,250,291] ?_
    refine A.hq A.pb [0,1,2,249,250,291] [0,1,2,249,250,291] [] [] (A.mb 24 16777215) 0 [(21,.on .n),(22,.n),(23,.n)] [(7,.bool r26)] ?_
    refine A.AH.done ?_
    exact A.j ⟨r26,rfl,rfl,hF⟩
   refine A.hq A.pb [0,1,2,249,250] [0,1,2,249,250] [] [] (A.mb 24 16777215) 0 [(11,.off),(12,.off),(13,.off),(14,.off),(15,.off),(19,.off),(16,.off),(17,.off),(18,.off),(20,.off),(21,.off),(22,.n),(23,.n)] [(7,.bool false)] ?_
   refine A.AH.done ?_
   exact A.j ⟨false,rfl,rfl,hF⟩
  rintro _ _ ⟨y11,rfl,rfl,hF⟩
  rw[F.R17_CheckState_j2]at hF
  refine A.AX.join [1,2,5] [0,1,2] (fun nl nh=>∃(y12:Bool),nl=[(7,.bool y12)]∧nh=[]∧F.R17_CheckState_j1 (F.R17_CheckState_l3 a0 a1 f4) y2 y12=some r) ?_ ?_
  ·refine A.xl 1 ?_
   refine A.q0 [2] [] [.n,.b 0 1,.n] [(43,.bool (decide (a0.2.1=11)))] ?_
   refine A.dx 1 ?_
   refine A.AX.cnd rfl hF (fun hb hF=>?_) (fun hb hF=>?_)
   ·refine A.xl 0 ?_
    refine A.q0 [250] [] [.n,.n,.sy .n,.sy (.b 0 2),.sy .n,.pk,.n,.sy .n,.sy (.b 0 3),.sy .n,.pk,.n,.sy .n,.sy (.b 0 3),.sy .n,.pk,.n] [(7,.bool (bif bif bif y11 then decide (x5.2.2.1=(ByteArray.mk #[]))else false then decide ((0:Int)≤x5.2.2.2)else false then decide (x5.2.2.2≤1099511627776)else false))] ?_
    refine A.AL.done ?_
    exact A.j ⟨(bif bif bif y11 then decide (x5.2.2.1=(ByteArray.mk #[]))else false then decide ((0:Int)≤x5.2.2.2)else false then decide (x5.2.2.2≤1099511627776)else false),rfl,rfl,hF⟩
   refine A.xl 0 ?_
   refine A.q0 [250] [] [.n,.n,.sy .n,.sy (.b 0 3),.sy .n,.pk,.n] [(66,.bool (bif y11 then decide (x5.2.2.2=1)else false))] ?_
   refine A.AL.cnd (j:=66) rfl hF (fun hF=>?_) (fun hF=>?_)
   ·refine A.q0 [250] [] [.on .n,.on (.b 0 1),.on .n,.on (.b 0 2),.on .n] [(71,.agg #[.int .i64 x5.2.1,.string x5.2.2.1])] ?_
    refine A.AL.on (dj:=66) rfl rfl ?_
    obtain⟨r14,hv15,hF⟩:=A.bd_some hF
    refine A.AL.call 332 [] (first:=[]) (cap:=[]) cf27 (R05_Check_ok (x5.2.1,x5.2.2.1) ho7.2.1 ho7.2.2.1 r14 hv15) .nil ?_
    rintro _ _ ⟨rfl,rfl,hr16⟩
    refine⟨by kernel_rfl,?_⟩
    refine A.q0 [] [] [.on .n,.n,.n] [(7,.bool (decide (r14=0)))] ?_
    refine A.AL.done ?_
    exact A.j ⟨(decide (r14=0)),rfl,rfl,hF⟩
   refine A.q0 [] [] [.off,.off,.off,.off,.off,.off,.off,.n,.n] [(7,.bool false)] ?_
   refine A.AL.done ?_
   exact A.j ⟨false,rfl,rfl,hF⟩
  rintro _ _ ⟨y12,rfl,rfl,hF⟩
  rw[F.R17_CheckState_j1]at hF
  refine A.xl 1 ?_
  refine A.q0 [] [] [.n,.n] [(76,.bool (!y12))] ?_
  refine A.dx 1 ?_
  refine A.AX.cnb rfl hF (fun hb hF=>?_) (fun hb hF=>?_)
  ·refine A.xl 1 ?_
   refine A.q0 [] [] [.n] [(4,.int .i64 171)] ?_
   refine A.dx 1 ?_
   obtain rfl:=Option.some.inj hF
   exact A.rt1 [] ⟨rfl,rfl,(A.hasl .i64 (171) rfl)⟩
  refine A.xl 3 ?_
  obtain⟨hc13,hF⟩:=A.gd_some hF
  refine A.q [] [] [.n,.n,.n] [Z.R64 (y2+1)] [(5,.int .i64 (y2+1))] hc13 ?_
  refine A.AL.done ?_
  exact A.j ⟨_,Nat.lt_succ_self _,⟨(y2+1),rfl,rfl,(Z.i64_has hc13),hF⟩⟩
 refine A.xl 3 ?_
 refine A.q0 [] [] [.n] [(4,.int .i64 0)] ?_
 refine A.dx 1 ?_
 obtain rfl:=Option.some.inj hF
 exact A.rt1 [] ⟨rfl,rfl,(A.hasl .i64 (0) rfl)⟩
def F.R17_Keys_j1 (k1:(List D55)→Int→Option (List D55))(y8:Int)(xs14:List D55):Option (List D55):=A.gd (Z.R64 (y8+1)) (k1 xs14 (y8+1))
def F.R17_Keys_j2 (k1:(List D55)→Int→Option (List D55))(a0:(List D69))(xs7:List D55)(y8:Int)(y16:Bool):Option (List D55):=if y16=true then(A.gd (Z.R64 (((xs7).length:Int)-1)) (A.gd (Z.R64 (((xs7).length:Int)-1)) ((A.ix xs7 (((xs7).length:Int)-1)).bind fun x19=>((A.ix a0 y8).bind fun x27=>(A.gd ((List.length (α:=D69) x19.2+List.length (α:=D69) [((x27.1.1,x27.1.2),x27.2)])*32≤140737488355328) ((A.ix xs7 (((xs7).length:Int)-1)).bind fun x37=>(F.R17_Keys_j1 k1 y8 (List.set xs7 (((xs7).length:Int)-1).toNat (x37.1,x19.2++[((x27.1.1,x27.1.2),x27.2)])))))))))else((A.ix a0 y8).bind fun x45=>((A.ix a0 y8).bind fun x51=>(A.gd ((List.length (α:=D55) xs7+List.length (α:=D55) [(x45.1.1,[((x51.1.1,x51.1.2),x51.2)])])*32≤140737488355328) (F.R17_Keys_j1 k1 y8 (xs7++[(x45.1.1,[((x51.1.1,x51.1.2),x51.2)])])))))
def F.R17_Keys_l3 (a0:(List D69)):Nat→(List D55)→Int→Option (List D55)
 |0,_,_=>none
 |f+1,xs7,y8=>if y8<((a0).length:Int)then(if(0:Int)<((xs7).length:Int)then(A.gd (Z.R64 (((xs7).length:Int)-1)) ((A.ix xs7 (((xs7).length:Int)-1)).bind fun x63=>((A.ix a0 y8).bind fun x71=>(F.R17_Keys_j2 (F.R17_Keys_l3 a0 f) a0 xs7 y8 (decide (x63.1=x71.1.1))))))else(F.R17_Keys_j2 (F.R17_Keys_l3 a0 f) a0 xs7 y8 false))else(some xs7)
def F.R17_Keys (a0:(List D69)):Option (List D55):=(F.R05_CheckBag a0).bind fun r1=>(if r1≠0 then(some [])else(F.R17_Keys_l3 a0 A.FU [] 0))
theorem R17_Keys_ok (a0:(List D69))(A0_:Option Addr)(c1_:Nat)(r:(List D55))(hF:F.R17_Keys a0=some r):
    A.Ct Tryz.prog 17 [.slice A0_ ((a0).length) c1_] [(0,.ln T69 A0_ c1_ a0)] [] (fun v H'=>∃(A0':Option Addr) (c1':Nat),v=.slice A0' ((r).length) c1'∧H'=[(0,.own T55 56 A0' c1' r)]):=by
 refine A.Ct.enter Tryz.func17 rfl Tryz.ntmps17 rfl fun w0 F0=>?_
 rw[F.R17_Keys]at hF
 refine A.xl 1 ?_
 refine A.q0 [] [] [.n] [] ?_
 refine A.dl 3 ?_
 refine A.q0 [] [] [.n] [(6,.slice A0_ ((a0).length) c1_)] ?_
 obtain⟨r1,hv2,hF⟩:=A.bd_some hF
 refine A.AL.call 1 [] (first:=[]) (cap:=[]) cf40 (R05_CheckBag_ok a0 A0_ c1_ r1 hv2) (.s 0 .nil) ?_
 rintro _ _ ⟨rfl,rfl,hr3⟩
 refine⟨by kernel_rfl,?_⟩
 refine A.q0 [] [] [.n] [(8,.bool (decide (r1≠0)))] ?_
 refine A.dx 1 ?_
 refine A.AX.cnd rfl hF (fun hb hF=>?_) (fun hb hF=>?_)
 ·refine A.xl 1 ?_
  refine A.q0 [] [] [.n] [(2,.slice none 0 0)] ?_
  refine A.dx 1 ?_
  obtain rfl:=Option.some.inj hF
  refine A.nil 41 T55 56 ?_
  exact A.rt1 [(0,41)] ⟨none,0,rfl,rfl⟩
 refine A.xl 3 ?_
 refine A.q0 [] [] [.n] [(3,.slice none 0 0)] ?_
 refine A.dl 3 ?_
 refine A.q0 [] [] [.n] [(4,.int .i64 0)] ?_
 refine A.dx 2 ?_
 refine A.nrz 53 (A.In1.snd (Z.Ty.int .i64) T69 rfl:A.In1 T55 T69) 56 70 ?_
 refine A.lp_ [0] [0] (fun f nl nh=>∃(xs7:List D55),∃(y8:Int),∃(A4:Option Addr),∃(c5:Nat),∃(As6:List (Option Addr×Nat)),nl=[(3,.slice A4 ((xs7).length) c5),(4,.int .i64 y8)]∧nh=[(53,A.nr (A.In1.snd (Z.Ty.int .i64) T69 rfl:A.In1 T55 T69) 56 70 A4 c5 xs7 As6 none)]∧IntKind.i64.has y8∧F.R17_Keys_l3 a0 f xs7 y8=some r) ⟨[],0,none,0,[],rfl,rfl,(A.hasl .i64 (0) rfl),hF⟩ ?_
 rintro f10 _ _ ⟨xs7,y8,A4,c5,As6,rfl,rfl,hy9,hF⟩
 rcases f10 with _|f10
 ·exact A.no0 hF
 rw[F.R17_Keys_l3]at hF
 refine A.xl 2 ?_
 refine A.q0 [] [] [.n,.n,.n,.n] [(12,.bool (decide (y8<((a0).length:Int))))] ?_
 refine A.dx 1 ?_
 refine A.AX.cnd rfl hF (fun hb hF=>?_) (fun hb hF=>?_)
 ·refine A.xx 2 ?_
  refine A.AX.join [0,4] [0] (fun nl nh=>∃(xs14:List D55),∃(A11:Option Addr),∃(c12:Nat),∃(As13:List (Option Addr×Nat)),nl=[(3,.slice A11 ((xs14).length) c12)]∧nh=[(53,A.nr (A.In1.snd (Z.Ty.int .i64) T69 rfl:A.In1 T55 T69) 56 70 A11 c12 xs14 As13 none)]∧F.R17_Keys_j1 (F.R17_Keys_l3 a0 f10) y8 xs14=some r) ?_ ?_
  ·refine A.xl 2 ?_
   refine A.q0 [] [] [.n,.n,.n] [(5,.int .i64 ((xs7).length:Int))] ?_
   refine A.dx 1 ?_
   refine A.AX.join [0,3,4,5] [0,53] (fun nl nh=>∃(y16:Bool),nl=[(33,.bool y16)]∧nh=[]∧F.R17_Keys_j2 (F.R17_Keys_l3 a0 f10) a0 xs7 y8 y16=some r) ?_ ?_
   ·refine A.AX.dr mixed 17 17 (A.mb 17 0) ?_
    refine A.hq A.pb [] [0,53] [] [] (A.mb 17 7) 14 [(0,.n),(1,.n),(2,.n)] [(19,.bool (decide ((0:Int)<((xs7).length:Int))))] ?_
    refine A.AH.cnp (j:=19) rfl hF (fun hb hF=>?_) (fun hb hF=>?_)
    ·obtain⟨hc62,hF⟩:=A.gd_some hF
     refine A.AH.q A.pb [0,53] [0,53] [] [] (A.mb 17 1599) 9 [(3,.on .n),(4,.on .n),(9,.on .n),(10,.on .n),(5,.on .n)] [20,26,27,22] [Z.R64 (((xs7).length:Int)-1)] [(20,.slice A4 ((xs7).length) c5),(26,.slice A0_ ((a0).length) c1_),(27,.int .i64 y8),(22,.int .i64 (((xs7).length:Int)-1))] hc62 ?_
     obtain⟨x63,hv64,hF⟩:=A.bd_some hF
     refine A.pkn 53 76 (A.In1.snd (Z.Ty.int .i64) T69 rfl:A.In1 T55 T69) hv64 fun ho65 A68 c69 g70 hA66 hs67=>?_
     refine A.AH.vg A.pb [0,53] [0,53,76] 6 (A.mb 17 1663) (dj:=19) rfl (fun a w hf hh=>A.r_ixo (t:=T55) hv64 hA66 hf) ?_
     refine A.hq A.pb [0,53,76] [0,53,76] [] [76] (A.mb 17 2047) 6 [(7,.on .n),(8,.on (.e 0 0))] [(25,.int .i64 x63.1)] ?_
     obtain⟨x71,hv72,hF⟩:=A.bd_some hF
     refine A.AH.pkl 0 77 hv72 fun ho73=>?_
     intro b75 o76 hA74
     refine A.AH.vg A.pb [0,53,76] [0,53,76,77] 11 (A.mb 17 4095) (dj:=19) rfl (fun a w hf hh=>A.r_ixa (t:=T69) hv72 hA74 hf) ?_
     refine A.hq A.pb [0,53,76,77] [0,53,76,77] [] [77] (A.mb 17 131071) 0 [(12,.on .n),(13,.on .n),(14,.on (.e 0 0)),(15,.on .n),(16,.n)] [(33,.bool (decide (x63.1=x71.1.1)))] ?_
     refine A.AH.done ?_
     exact A.j ⟨(decide (x63.1=x71.1.1)),rfl,rfl,hF⟩
    refine A.hq A.pb [0,53] [0,53] [] [] (A.mb 17 131071) 0 [(3,.off),(4,.off),(9,.off),(10,.off),(5,.off),(11,.off),(6,.off),(12,.off),(7,.off),(13,.off),(8,.off),(14,.off),(15,.off),(16,.n)] [(33,.bool false)] ?_
    refine A.AH.done ?_
    exact A.j ⟨false,rfl,rfl,hF⟩
   rintro _ _ ⟨y16,rfl,rfl,hF⟩
   rw[F.R17_Keys_j2]at hF
   refine A.AX.cnb rfl hF (fun hb hF=>?_) (fun hb hF=>?_)
   ·refine A.AX.dr mixed 14 18 (A.mb 18 0) ?_
    obtain⟨hc17,hF⟩:=A.gd_some hF
    refine A.AH.q A.pb [] [0,53] [] [] (A.mb 18 1592) 13 [(3,.n),(4,.n),(9,.n),(10,.n),(5,.n)] [37,43,44,39] [Z.R64 (((xs7).length:Int)-1)] [(37,.slice A4 ((xs7).length) c5),(43,.slice A0_ ((a0).length) c1_),(44,.int .i64 y8),(39,.int .i64 (((xs7).length:Int)-1))] hc17 ?_
    obtain⟨hc18,hF⟩:=A.gd_some hF
    refine A.AH.qpC A.pb [0,53] (A.mb 18 1599) 10 [(0,.n),(1,.n),(2,.n)] [Z.R64 (((xs7).length:Int)-1)] [(34,.slice A4 ((xs7).length) c5),(36,.int .i64 (((xs7).length:Int)-1))] hc18 ?_
    obtain⟨x19,hv20,hF⟩:=A.bd_some hF
    refine A.pkn 53 78 (A.In1.snd (Z.Ty.int .i64) T69 rfl:A.In1 T55 T69) hv20 fun ho21 A24 c25 g26 hA22 hs23=>?_
    refine A.AH.v A.pb [0,53] [0,53,78] 6 (A.mb 18 1663) rfl (fun a w hf hh=>A.r_ixo (t:=T55) hv20 hA22 hf) ?_
    refine A.hq A.pb [0,53,78] [0,53,78] [] [78] (A.mb 18 2047) 7 [(7,.n),(8,.e 0 1)] [(42,.slice A24 ((x19.2).length) c25)] ?_
    obtain⟨x27,hv28,hF⟩:=A.bd_some hF
    refine A.AH.pkl 0 79 hv28 fun ho29=>?_
    intro b31 o32 hA30
    refine A.AH.v A.pb [0,53,78] [0,53,78,79] 11 (A.mb 18 4095) rfl (fun a w hf hh=>A.r_ixa (t:=T69) hv28 hA30 hf) ?_
    refine A.hq A.pb [0,53,78,79] [0,53,78,79] [] [79] (A.mb 18 8191) 5 [(12,.e 0 0)] [(46,.agg #[.int .i64 x27.1.1,.string x27.1.2,.int .i64 x27.2])] ?_
    refine A.AH.one 13 ?_
    refine A.AL.bsl 80 (ty:=T69) (cs:=[.int .i64 x27.1.1,.string x27.1.2,.int .i64 x27.2]) [((x27.1.1,x27.1.2),x27.2)] ⟨⟨⟨⟨rfl,ho29.1.1⟩,⟨rfl,ho29.1.2⟩⟩,⟨rfl,ho29.2⟩⟩,rfl⟩ (fun g33=>?_) Tryz.zeroValue70 Tryz.sizeOf70
    refine A.AH.nx (A.mb 18 16383) [0,53,78,79] ?_
    refine A.AH.one 14 ?_
    refine A.nrt 53 81 [78] (A.In1.snd (Z.Ty.int .i64) T69 rfl:A.In1 T55 T69) hv20 hs23 ?_
    obtain⟨hl36,hF⟩:=A.gd_some hF
    refine A.AL.app (k:=81) [] (A.rowO (k:=80) rfl) inf70 hl36 fun A34 c35=>?_
    refine A.AH.nm (A.mb 18 32767) ?_
    refine A.AH.bh 17 ?_
    obtain⟨x37,hv38,hF⟩:=A.bd_some hF
    refine A.pkn 53 82 (A.In1.snd (Z.Ty.int .i64) T69 rfl:A.In1 T55 T69) hv38 fun ho39 A42 c43 g44 hA40 hs41=>?_
    refine A.AH.v A.pb [] [0,53,79,80,81,82] 15 (A.mb 18 65535) rfl (fun a w hf hh=>A.r_ixo (t:=T55) hv38 hA40 hf) ?_
    refine A.hq A.pb [0,53,79,80,81,82] [0,53,79,80,81,82] [] [] (A.mb 18 131071) 1 [(16,.n)] [(50,.pointer (some ⟨g44,(((xs7).length:Int)-1).toNat*(T55).size+1,none⟩))] ?_
    refine A.AH.one 17 ?_
    refine A.AL.stN 53 81 [82] (A.In1.snd (Z.Ty.int .i64) T69 rfl:A.In1 T55 T69) hv38 hA40 ?_
    refine A.AH.nm (A.mb 18 262143) ?_
    refine A.AH.done ?_
    refine A.ee 1 ?_
    refine A.cst 3 (Z.slice_n (show(xs7).length=(List.set xs7 (((xs7).length:Int)-1).toNat (x37.1,x19.2++[((x27.1.1,x27.1.2),x27.2)])).length from(by rw[List.length_set]))) ?_
    exact A.j ⟨(List.set xs7 (((xs7).length:Int)-1).toNat (x37.1,x19.2++[((x27.1.1,x27.1.2),x27.2)])),A4,c5,(List.set As6 (((xs7).length:Int)-1).toNat (A34,c35)),rfl,rfl,hF⟩
   refine A.AX.dr mixed 16 16 (A.mb 16 0) ?_
   refine A.hq A.pb [] [0] [] [] (A.mb 16 391) 11 [(0,.n),(1,.n),(2,.n),(7,.n),(8,.n)] [(51,.slice A4 ((xs7).length) c5),(52,.slice A0_ ((a0).length) c1_),(53,.int .i64 y8),(58,.slice A0_ ((a0).length) c1_),(59,.int .i64 y8)] ?_
   obtain⟨x45,hv46,hF⟩:=A.bd_some hF
   refine A.AH.pkl 0 83 hv46 fun ho47=>?_
   intro b49 o50 hA48
   refine A.AH.v A.pb [0] [0,83] 3 (A.mb 16 399) rfl (fun a w hf hh=>A.r_ixa (t:=T69) hv46 hA48 hf) ?_
   refine A.hq A.pb [0,83] [0,83] [] [83] (A.mb 16 511) 7 [(4,.n),(5,.n),(6,.e 0 0)] [(57,.int .i64 x45.1.1)] ?_
   obtain⟨x51,hv52,hF⟩:=A.bd_some hF
   refine A.AH.pkl 0 84 hv52 fun ho53=>?_
   intro b55 o56 hA54
   refine A.AH.v A.pb [0,83] [0,83,84] 9 (A.mb 16 1023) rfl (fun a w hf hh=>A.r_ixa (t:=T69) hv52 hA54 hf) ?_
   refine A.hq A.pb [0,83,84] [0,83,84] [] [84] (A.mb 16 2047) 5 [(10,.e 0 0)] [(61,.agg #[.int .i64 x51.1.1,.string x51.1.2,.int .i64 x51.2])] ?_
   refine A.AH.one 11 ?_
   refine A.AL.bsl 85 (ty:=T69) (cs:=[.int .i64 x51.1.1,.string x51.1.2,.int .i64 x51.2]) [((x51.1.1,x51.1.2),x51.2)] ⟨⟨⟨⟨rfl,ho53.1.1⟩,⟨rfl,ho53.1.2⟩⟩,⟨rfl,ho53.2⟩⟩,rfl⟩ (fun g57=>?_) Tryz.zeroValue70 Tryz.sizeOf70
   refine A.AH.nx (A.mb 16 4095) [0,83,84] ?_
   refine A.hq A.pb [0,83,84] [0,83,84] [] [] (A.mb 16 8191) 3 [(12,.n)] [(63,.agg #[.int .i64 x45.1.1,.slice (some ⟨g57,0,none⟩) 1 1])] ?_
   refine A.AH.one 13 ?_
   refine A.AL.bslN 85 86 [] (A.In1.snd (Z.Ty.int .i64) T69 rfl:A.In1 T55 T69) (cs:=[.int .i64 x45.1.1,.slice (some ⟨g57,0,none⟩) 1 1]) (x45.1.1,[((x51.1.1,x51.1.2),x51.2)]) ⟨⟨rfl,ho47.1.1⟩,.inr ⟨rfl,rfl⟩⟩ (fun g58=>?_) Tryz.zeroValue56 Tryz.sizeOf56
   refine A.AH.nx (A.mb 16 16383) [0,83,84] ?_
   refine A.AH.one 14 ?_
   obtain⟨hl61,hF⟩:=A.gd_some hF
   refine A.AL.appN 53 86 [] (A.In1.snd (Z.Ty.int .i64) T69 rfl:A.In1 T55 T69) inf56 hl61 fun A59 c60=>?_
   refine A.AH.nx (A.mb 16 32767) [0,83,84] ?_
   refine A.hq A.pb [0,83,84] [0,53,83,84] [] [] (A.mb 16 65535) 0 [(15,.n)] [(3,.slice A59 ((xs7++[(x45.1.1,[((x51.1.1,x51.1.2),x51.2)])]).length) c60)] ?_
   refine A.AH.done ?_
   refine A.ee 1 ?_
   exact A.j ⟨(xs7++[(x45.1.1,[((x51.1.1,x51.1.2),x51.2)])]),A59,c60,(As6++[((some ⟨g57,0,none⟩),1)]),rfl,rfl,hF⟩
  rintro _ _ ⟨xs14,A11,c12,As13,rfl,rfl,hF⟩
  rw[F.R17_Keys_j1]at hF
  refine A.xl 0 ?_
  obtain⟨hc15,hF⟩:=A.gd_some hF
  refine A.q [] [] [.n,.n,.n] [Z.R64 (y8+1)] [(4,.int .i64 (y8+1))] hc15 ?_
  refine A.AL.done ?_
  exact A.j ⟨_,Nat.lt_succ_self _,⟨xs14,(y8+1),A11,c12,As13,rfl,rfl,(Z.i64_has hc15),hF⟩⟩
 refine A.xl 3 ?_
 refine A.q0 [] [] [.n,.n] [(2,.slice A4 ((xs7).length) c5)] ?_
 refine A.dx 1 ?_
 obtain rfl:=Option.some.inj hF
 refine A.nrfz 53 [] (A.In1.snd (Z.Ty.int .i64) T69 rfl:A.In1 T55 T69) ?_
 exact A.rt1 [(0,53)] ⟨A4,c5,rfl,rfl⟩
def F.R17_Holds (a0:Int):Option Bool:=some (bif bif decide ((7:Int)≤a0)then decide (a0≤11)else false then true else decide (a0=16))
theorem R17_Holds_ok (a0:Int)(h0_:IntKind.i64.has a0)(r:Bool)(hF:F.R17_Holds a0=some r):
    A.Ct Tryz.prog 23 [.int .i64 a0] [] [] (fun v H'=>v=.bool r∧H'=[]):=by
 refine A.Ct.enter Tryz.func23 rfl Tryz.ntmps23 rfl fun w0 F0=>?_
 rw[F.R17_Holds]at hF
 refine A.xl 1 ?_
 refine A.q0 [] [] [.n] [] ?_
 refine A.dl 2 ?_
 refine A.q0 [] [] [.n,.n,.n,.sy .n,.sy .n,.pk,.n,.sy .n,.sy .n,.pk,.n] [(2,.bool (bif bif decide ((7:Int)≤a0)then decide (a0≤11)else false then true else decide (a0=16)))] ?_
 refine A.dx 1 ?_
 obtain rfl:=Option.some.inj hF
 exact A.rt1 [] ⟨rfl,rfl⟩
end Go.Proofs.YtbljnlkhebiniaaGreatDoor
end
section
set_option linter.unusedVariables false
set_option linter.unusedSimpArgs false
set_option maxRecDepth 20000
set_option maxHeartbeats 8000000
set_option synthInstance.maxSize 1000000
set_option synthInstance.maxHeartbeats 400000
namespace Go.Proofs.YtbljnlkhebiniaaGreatDoor
open Go.RowKit
def F.R17_Tell_l1 (a0:D25)(r23:(List D55))(r27:(List D55)):Nat→(List D46)→(List D43)→Int→Option ((List D43)×(List D46)×Int)
 |0,_,_,_=>none
 |f+1,xs33,xs36,y37=>if y37<((r23).length:Int)then((A.ix r23 y37).bind fun x40=>((F.R17_tells (a0.1,a0.2.1,a0.2.2.1,(a0.2.2.2.1.1,a0.2.2.2.1.2.1,a0.2.2.2.1.2.2),a0.2.2.2.2.1,a0.2.2.2.2.2.1,a0.2.2.2.2.2.2) (x40.1,x40.2) r27 xs33).bind fun r47=>(A.gd ((List.length (α:=D43) xs36+List.length (α:=D43) r47.1)*24≤140737488355328) (A.gd (Z.R64 (y37+1)) ((F.R17_Tell_l1 a0 r23 r27 f) r47.2 (xs36++r47.1) (y37+1))))))else(some (xs36,xs33,0))
def F.R17_Tell (a0:D25)(a1:D28)(a2:(List D69))(a3:(List D69))(a4:(List D46)):Option ((List D43)×(List D46)×Int):=(F.R17_Holds a0.2.1).bind fun r3=>(if(!r3)=true then(some ([],[],170))else((F.R06_Check a0.2.1 (a0.2.2.2.1.1,a0.2.2.2.1.2.1,a0.2.2.2.1.2.2)).bind fun r5=>(if r5≠0 then(some ([],[],r5))else((F.R01_Check (a1.1,a1.2.1,(a1.2.2.1,a1.2.2.2.1,a1.2.2.2.2.1,a1.2.2.2.2.2))).bind fun r8=>(if r8≠0 then(some ([],[],r8))else((F.R05_CheckBag a2).bind fun r11=>(if r11≠0 then(some ([],[],r11))else((F.R05_CheckBag a3).bind fun r14=>(if r14≠0 then(some ([],[],r14))else(if(bif decide ((0:Int)<((a3).length:Int))then decide (a0.2.1≠9)else false)=true then(some ([],[],1))else((F.R17_CheckState (a0.1,a0.2.1,a0.2.2.1,(a0.2.2.2.1.1,a0.2.2.2.1.2.1,a0.2.2.2.1.2.2),a0.2.2.2.2.1,a0.2.2.2.2.2.1,a0.2.2.2.2.2.2) a4).bind fun r17=>(if r17≠0 then(some ([],[],r17))else(A.gd ((List.length (α:=D46) []+List.length (α:=D46) a4)*40≤140737488355328) ((F.R17_Keys a2).bind fun r23=>((F.R17_Keys a3).bind fun r27=>(F.R17_Tell_l1 a0 r23 r27 A.FU ([]++a4) [] 0))))))))))))))))
theorem R17_Tell_ok (a0:D25)(a1:D28)(a2:(List D69))(a3:(List D69))(a4:(List D46))(A2_:Option Addr)(c3_:Nat)(A16_:Option Addr)(c17_:Nat)(A18_:Option Addr)(c19_:Nat)(A20_:Option Addr)(c21_:Nat)(h0_:IntKind.i64.has a0.1)(h1_:IntKind.i64.has a0.2.1)(h4_:IntKind.i64.has a0.2.2.2.1.1)(h5_:IntKind.i64.has a0.2.2.2.1.2.1)(h6_:a0.2.2.2.1.2.2.size≤maxLen)(h7_:a0.2.2.2.2.1.size≤maxLen)(h8_:IntKind.i64.has a0.2.2.2.2.2.1)(h9_:IntKind.i64.has a0.2.2.2.2.2.2)(h10_:IntKind.i64.has a1.1)(h11_:IntKind.i64.has a1.2.1)(h12_:IntKind.i64.has a1.2.2.1)(h13_:IntKind.i64.has a1.2.2.2.1)(h14_:IntKind.i64.has a1.2.2.2.2.1)(h15_:IntKind.i64.has a1.2.2.2.2.2)(r:(List D43)×(List D46)×Int)(hF:F.R17_Tell a0 a1 a2 a3 a4=some r):
    A.Ct Tryz.prog 11 [.agg #[.int .i64 a0.1,.int .i64 a0.2.1,.slice A2_ ((a0.2.2.1).length) c3_,.int .i64 a0.2.2.2.1.1,.int .i64 a0.2.2.2.1.2.1,.string a0.2.2.2.1.2.2,.string a0.2.2.2.2.1,.int .i64 a0.2.2.2.2.2.1,.int .i64 a0.2.2.2.2.2.2],.agg #[.int .i64 a1.1,.int .i64 a1.2.1,.int .i64 a1.2.2.1,.int .i64 a1.2.2.2.1,.int .i64 a1.2.2.2.2.1,.int .i64 a1.2.2.2.2.2],.slice A16_ ((a2).length) c17_,.slice A18_ ((a3).length) c19_,.slice A20_ ((a4).length) c21_] [(0,.sh (.slice (Z.Ty.int .i64)) [.slice A2_ (a0.2.2.1).length c3_] a0.2.2.1),(1,.ln T69 A16_ c17_ a2),(2,.ln T69 A18_ c19_ a3),(3,.ln T46 A20_ c21_ a4)] [] (fun v H'=>∃(A0':Option Addr) (c1':Nat) (A2':Option Addr) (c3':Nat),v=.tuple #[.slice A0' ((r.1).length) c1',.slice A2' ((r.2.1).length) c3',.int .i64 r.2.2]∧H'=[(0,.sh (.slice T43) [.slice A0' (r.1).length c1'] r.1),(1,.sh (.slice T46) [.slice A2' (r.2.1).length c3'] r.2.1)]∧IntKind.i64.has r.2.2):=by
 refine A.Ct.enter Tryz.func11 rfl Tryz.ntmps11 rfl fun w0 F0=>?_
 rw[F.R17_Tell]at hF
 refine A.xl 1 ?_
 refine A.AL.box 4 (cs:=[.int .i64 a0.1,.int .i64 a0.2.1,.slice A2_ ((a0.2.2.1).length) c3_,.int .i64 a0.2.2.2.1.1,.int .i64 a0.2.2.2.1.2.1,.string a0.2.2.2.1.2.2,.string a0.2.2.2.2.1,.int .i64 a0.2.2.2.2.2.1,.int .i64 a0.2.2.2.2.2.2]) fun g1=>?_
 refine A.AL.box 5 (cs:=[.int .i64 a1.1,.int .i64 a1.2.1,.int .i64 a1.2.2.1,.int .i64 a1.2.2.2.1,.int .i64 a1.2.2.2.2.1,.int .i64 a1.2.2.2.2.2]) fun g2=>?_
 refine A.q0 [] [] [.n,.n,.n] [] ?_
 refine A.dl 3 ?_
 refine A.q0 [4] [] [.n,.b 0 1] [(26,.int .i64 a0.2.1)] ?_
 obtain⟨r3,hv4,hF⟩:=A.bd_some hF
 refine A.AL.call 6 [] (first:=[]) (cap:=[]) cf23 (R17_Holds_ok a0.2.1 h1_ r3 hv4) .nil ?_
 rintro _ _ ⟨rfl,rfl⟩
 refine⟨by kernel_rfl,?_⟩
 refine A.q0 [] [] [.n] [(28,.bool (!r3))] ?_
 refine A.dx 1 ?_
 refine A.AX.cnb rfl hF (fun hb hF=>?_) (fun hb hF=>?_)
 ·refine A.xl 1 ?_
  refine A.q0 [] [] [.n,.n,.n] [(10,.slice none 0 0),(11,.slice none 0 0),(12,.int .i64 170)] ?_
  refine A.dx 1 ?_
  obtain rfl:=Option.some.inj hF
  refine A.snil 46 T43 ?_
  refine A.snil 47 T46 ?_
  exact A.AX.ret [(0,46),(1,47)] (.tuple #[.slice none 0 0,.slice none 0 0,.int .i64 170]) (fun a w hf hh=>Z.resv3 rfl (Z.rv_t hf rfl) (Z.rv_t hf rfl) (Z.rv_t hf rfl)) (⟨none,0,none,0,rfl,rfl,(A.hasl .i64 (170) rfl)⟩)
 refine A.xl 4 ?_
 refine A.q0 [4] [] [.n,.b 0 1,.n,.b 0 3] [(30,.int .i64 a0.2.1),(32,.agg #[.int .i64 a0.2.2.2.1.1,.int .i64 a0.2.2.2.1.2.1,.string a0.2.2.2.1.2.2])] ?_
 obtain⟨r5,hv6,hF⟩:=A.bd_some hF
 refine A.AL.call 48 [] (first:=[]) (cap:=[]) cf38 (R06_Check_ok a0.2.1 (a0.2.2.2.1.1,a0.2.2.2.1.2.1,a0.2.2.2.1.2.2) h1_ h4_ h5_ h6_ r5 hv6) .nil ?_
 rintro _ _ ⟨rfl,rfl,hr7⟩
 refine⟨by kernel_rfl,?_⟩
 refine A.q0 [] [] [.n] [(13,.int .i64 r5)] ?_
 refine A.dl 2 ?_
 refine A.q0 [] [] [.n,.n] [(35,.bool (decide (r5≠0)))] ?_
 refine A.dx 1 ?_
 refine A.AX.cnd rfl hF (fun hb hF=>?_) (fun hb hF=>?_)
 ·refine A.xl 1 ?_
  refine A.q0 [] [] [.n,.n,.n,.n] [(10,.slice none 0 0),(11,.slice none 0 0),(12,.int .i64 r5)] ?_
  refine A.dx 1 ?_
  obtain rfl:=Option.some.inj hF
  refine A.snil 88 T43 ?_
  refine A.snil 89 T46 ?_
  exact A.AX.ret [(0,88),(1,89)] (.tuple #[.slice none 0 0,.slice none 0 0,.int .i64 r5]) (fun a w hf hh=>Z.resv3 rfl (Z.rv_t hf rfl) (Z.rv_t hf rfl) (Z.rv_t hf rfl)) (⟨none,0,none,0,rfl,rfl,hr7⟩)
 refine A.xl 4 ?_
 refine A.q0 [5] [] [.b 0 0] [(37,.agg #[.int .i64 a1.1,.int .i64 a1.2.1,.int .i64 a1.2.2.1,.int .i64 a1.2.2.2.1,.int .i64 a1.2.2.2.2.1,.int .i64 a1.2.2.2.2.2])] ?_
 obtain⟨r8,hv9,hF⟩:=A.bd_some hF
 refine A.AL.call 90 [] (first:=[]) (cap:=[]) cf39 (R01_Check_ok (a1.1,a1.2.1,(a1.2.2.1,a1.2.2.2.1,a1.2.2.2.2.1,a1.2.2.2.2.2)) h10_ h11_ h12_ h13_ h14_ h15_ r8 hv9) .nil ?_
 rintro _ _ ⟨rfl,rfl,hr10⟩
 refine⟨by kernel_rfl,?_⟩
 refine A.q0 [] [] [.n] [(14,.int .i64 r8)] ?_
 refine A.dl 2 ?_
 refine A.q0 [] [] [.n,.n] [(40,.bool (decide (r8≠0)))] ?_
 refine A.dx 1 ?_
 refine A.AX.cnd rfl hF (fun hb hF=>?_) (fun hb hF=>?_)
 ·refine A.xl 1 ?_
  refine A.q0 [] [] [.n,.n,.n,.n] [(10,.slice none 0 0),(11,.slice none 0 0),(12,.int .i64 r8)] ?_
  refine A.dx 1 ?_
  obtain rfl:=Option.some.inj hF
  refine A.snil 130 T43 ?_
  refine A.snil 131 T46 ?_
  exact A.AX.ret [(0,130),(1,131)] (.tuple #[.slice none 0 0,.slice none 0 0,.int .i64 r8]) (fun a w hf hh=>Z.resv3 rfl (Z.rv_t hf rfl) (Z.rv_t hf rfl) (Z.rv_t hf rfl)) (⟨none,0,none,0,rfl,rfl,hr10⟩)
 refine A.xl 4 ?_
 refine A.q0 [] [] [.n] [(42,.slice A16_ ((a2).length) c17_)] ?_
 obtain⟨r11,hv12,hF⟩:=A.bd_some hF
 refine A.AL.call 132 [] (first:=[]) (cap:=[]) cf40 (R05_CheckBag_ok a2 A16_ c17_ r11 hv12) (.s 1 .nil) ?_
 rintro _ _ ⟨rfl,rfl,hr13⟩
 refine⟨by kernel_rfl,?_⟩
 refine A.q0 [] [] [.n] [(15,.int .i64 r11)] ?_
 refine A.dl 2 ?_
 refine A.q0 [] [] [.n,.n] [(45,.bool (decide (r11≠0)))] ?_
 refine A.dx 1 ?_
 refine A.AX.cnd rfl hF (fun hb hF=>?_) (fun hb hF=>?_)
 ·refine A.xl 1 ?_
  refine A.q0 [] [] [.n,.n,.n,.n] [(10,.slice none 0 0),(11,.slice none 0 0),(12,.int .i64 r11)] ?_
  refine A.dx 1 ?_
  obtain rfl:=Option.some.inj hF
  refine A.snil 172 T43 ?_
  refine A.snil 173 T46 ?_
  exact A.AX.ret [(0,172),(1,173)] (.tuple #[.slice none 0 0,.slice none 0 0,.int .i64 r11]) (fun a w hf hh=>Z.resv3 rfl (Z.rv_t hf rfl) (Z.rv_t hf rfl) (Z.rv_t hf rfl)) (⟨none,0,none,0,rfl,rfl,hr13⟩)
 refine A.xl 4 ?_
 refine A.q0 [] [] [.n] [(47,.slice A18_ ((a3).length) c19_)] ?_
 obtain⟨r14,hv15,hF⟩:=A.bd_some hF
 refine A.AL.call 174 [] (first:=[]) (cap:=[]) cf40 (R05_CheckBag_ok a3 A18_ c19_ r14 hv15) (.s 2 .nil) ?_
 rintro _ _ ⟨rfl,rfl,hr16⟩
 refine⟨by kernel_rfl,?_⟩
 refine A.q0 [] [] [.n] [(16,.int .i64 r14)] ?_
 refine A.dl 2 ?_
 refine A.q0 [] [] [.n,.n] [(50,.bool (decide (r14≠0)))] ?_
 refine A.dx 1 ?_
 refine A.AX.cnd rfl hF (fun hb hF=>?_) (fun hb hF=>?_)
 ·refine A.xl 1 ?_
  refine A.q0 [] [] [.n,.n,.n,.n] [(10,.slice none 0 0),(11,.slice none 0 0),(12,.int .i64 r14)] ?_
  refine A.dx 1 ?_
  obtain rfl:=Option.some.inj hF
  refine A.snil 214 T43 ?_
  refine A.snil 215 T46 ?_
  exact A.AX.ret [(0,214),(1,215)] (.tuple #[.slice none 0 0,.slice none 0 0,.int .i64 r14]) (fun a w hf hh=>Z.resv3 rfl (Z.rv_t hf rfl) (Z.rv_t hf rfl) (Z.rv_t hf rfl)) (⟨none,0,none,0,rfl,rfl,hr16⟩)
 refine A.xl 4 ?_
 refine A.q0 [4] [] [.n,.n,.n,.n,.sy .n,.sy (.b 0 1),.sy .n,.pk] [(59,.bool (bif decide ((0:Int)<((a3).length:Int))then decide (a0.2.1≠9)else false))] ?_
 refine A.dx 1 ?_
 refine A.AX.cnb rfl hF (fun hb hF=>?_) (fun hb hF=>?_)
 ·refine A.xl 1 ?_
  refine A.q0 [] [] [.n,.n,.n] [(10,.slice none 0 0),(11,.slice none 0 0),(12,.int .i64 1)] ?_
  refine A.dx 1 ?_
  obtain rfl:=Option.some.inj hF
  refine A.snil 216 T43 ?_
  refine A.snil 217 T46 ?_
  exact A.AX.ret [(0,216),(1,217)] (.tuple #[.slice none 0 0,.slice none 0 0,.int .i64 1]) (fun a w hf hh=>Z.resv3 rfl (Z.rv_t hf rfl) (Z.rv_t hf rfl) (Z.rv_t hf rfl)) (⟨none,0,none,0,rfl,rfl,(A.hasl .i64 (1) rfl)⟩)
 refine A.xl 4 ?_
 refine A.q0 [4] [] [.b 0 0,.n] [(60,.agg #[.int .i64 a0.1,.int .i64 a0.2.1,.slice A2_ ((a0.2.2.1).length) c3_,.int .i64 a0.2.2.2.1.1,.int .i64 a0.2.2.2.1.2.1,.string a0.2.2.2.1.2.2,.string a0.2.2.2.2.1,.int .i64 a0.2.2.2.2.2.1,.int .i64 a0.2.2.2.2.2.2]),(61,.slice A20_ ((a4).length) c21_)] ?_
 obtain⟨r17,hv18,hF⟩:=A.bd_some hF
 refine A.AL.call 218 [] (first:=[]) (cap:=[]) cf15 (R17_CheckState_ok (a0.1,a0.2.1,a0.2.2.1,(a0.2.2.2.1.1,a0.2.2.2.1.2.1,a0.2.2.2.1.2.2),a0.2.2.2.2.1,a0.2.2.2.2.2.1,a0.2.2.2.2.2.2) a4 A2_ c3_ A20_ c21_ h0_ h1_ h4_ h5_ h6_ h7_ h8_ h9_ r17 hv18) (.s 0 (.s 3 .nil)) ?_
 rintro _ _ ⟨rfl,rfl,hr19⟩
 refine⟨by kernel_rfl,?_⟩
 refine A.q0 [] [] [.n] [(17,.int .i64 r17)] ?_
 refine A.dl 2 ?_
 refine A.q0 [] [] [.n,.n] [(64,.bool (decide (r17≠0)))] ?_
 refine A.dx 1 ?_
 refine A.AX.cnd rfl hF (fun hb hF=>?_) (fun hb hF=>?_)
 ·refine A.xl 1 ?_
  refine A.q0 [] [] [.n,.n,.n,.n] [(10,.slice none 0 0),(11,.slice none 0 0),(12,.int .i64 r17)] ?_
  refine A.dx 1 ?_
  obtain rfl:=Option.some.inj hF
  refine A.snil 258 T43 ?_
  refine A.snil 259 T46 ?_
  exact A.AX.ret [(0,258),(1,259)] (.tuple #[.slice none 0 0,.slice none 0 0,.int .i64 r17]) (fun a w hf hh=>Z.resv3 rfl (Z.rv_t hf rfl) (Z.rv_t hf rfl) (Z.rv_t hf rfl)) (⟨none,0,none,0,rfl,rfl,hr19⟩)
 refine A.xl 3 ?_
 refine A.q0 [] [] [.n] [(18,.slice none 0 0)] ?_
 refine A.dl 2 ?_
 refine A.q0 [] [] [.n] [(66,.slice A20_ ((a4).length) c21_)] ?_
 refine A.nil 260 T46 47 ?_
 obtain⟨hl22,hF⟩:=A.gd_some hF
 refine A.AL.app (k:=260) [] (A.rowL (k:=3) rfl) inf47 hl22 fun A20 c21=>?_
 refine A.q0 [] [] [.n] [(19,.slice A20 (([]++a4).length) c21)] ?_
 refine A.dl 2 ?_
 refine A.q0 [] [] [.n] [(68,.slice A16_ ((a2).length) c17_)] ?_
 obtain⟨r23,hv24,hF⟩:=A.bd_some hF
 refine A.AL.call 261 [] (first:=[]) (cap:=[]) cf17 (R17_Keys_ok a2 A16_ c17_ r23 hv24) (.s 1 .nil) ?_
 rintro _ _ ⟨A25,c26,rfl,rfl⟩
 refine⟨by kernel_rfl,?_⟩
 refine A.q0 [] [] [.n] [(20,.slice A25 ((r23).length) c26)] ?_
 refine A.dl 2 ?_
 refine A.q0 [] [] [.n] [(70,.slice A18_ ((a3).length) c19_)] ?_
 obtain⟨r27,hv28,hF⟩:=A.bd_some hF
 refine A.AL.call 301 [] (first:=[]) (cap:=[]) cf17 (R17_Keys_ok a3 A18_ c19_ r27 hv28) (.s 2 .nil) ?_
 rintro _ _ ⟨A29,c30,rfl,rfl⟩
 refine⟨by kernel_rfl,?_⟩
 refine A.q0 [] [] [.n] [(21,.slice A29 ((r27).length) c30)] ?_
 refine A.dl 3 ?_
 refine A.q0 [] [] [.n] [(22,.int .i64 0)] ?_
 refine A.dx 2 ?_
 refine A.nil 385 T43 44 ?_
 refine A.frz 260 [] ?_
 refine A.lp_ [5,20,21] [0,4,261,301] (fun f nl nh=>∃(xs33:List D46),∃(xs36:List D43),∃(y37:Int),∃(A31:Option Addr),∃(c32:Nat),∃(A34:Option Addr),∃(c35:Nat),nl=[(18,.slice A34 ((xs36).length) c35),(19,.slice A31 ((xs33).length) c32),(22,.int .i64 y37)]∧nh=[(260,.sh (.slice T46) [.slice A31 (xs33).length c32] xs33),(385,.own T43 44 A34 c35 xs36)]∧IntKind.i64.has y37∧F.R17_Tell_l1 a0 r23 r27 f xs33 xs36 y37=some r) ⟨([]++a4),[],0,A20,c21,none,0,rfl,rfl,(A.hasl .i64 (0) rfl),hF⟩ ?_
 rintro f39 _ _ ⟨xs33,xs36,y37,A31,c32,A34,c35,rfl,rfl,hy38,hF⟩
 rcases f39 with _|f39
 ·exact A.no0 hF
 rw[F.R17_Tell_l1]at hF
 refine A.xl 2 ?_
 refine A.q0 [] [] [.n,.n,.n,.n] [(75,.bool (decide (y37<((r23).length:Int))))] ?_
 refine A.dx 1 ?_
 refine A.AX.cnd rfl hF (fun hb hF=>?_) (fun hb hF=>?_)
 ·refine A.xx 5 ?_
  refine A.AX.dr mixed 13 13 (A.mb 13 0) ?_
  refine A.hq A.pb [] [0,4,260,261,301,385] [4] [] (A.mb 13 103) 8 [(0,.b 0 0),(1,.n),(2,.n),(5,.n),(6,.n)] [(79,.agg #[.int .i64 a0.1,.int .i64 a0.2.1,.slice A2_ ((a0.2.2.1).length) c3_,.int .i64 a0.2.2.2.1.1,.int .i64 a0.2.2.2.1.2.1,.string a0.2.2.2.1.2.2,.string a0.2.2.2.2.1,.int .i64 a0.2.2.2.2.2.1,.int .i64 a0.2.2.2.2.2.2]),(80,.slice A25 ((r23).length) c26),(81,.int .i64 y37),(84,.slice A29 ((r27).length) c30),(85,.slice A31 ((xs33).length) c32)] ?_
  obtain⟨x40,hv41,hF⟩:=A.bd_some hF
  refine A.AH.pko 261 514 hv41 fun ho42=>?_
  intro A44 c45 g46 hA43
  refine A.AH.v A.pb [0,4,260,261,301,385] [0,4,260,261,301,385,514,515] 3 (A.mb 13 111) rfl (fun a w hf hh=>A.r_ixo (t:=T55) hv41 hA43 hf) ?_
  refine A.hq A.pb [0,4,260,261,301,385,514,515] [0,4,260,261,301,385,514,515] [] [514] (A.mb 13 127) 6 [(4,.e 0 0)] [(83,.agg #[.int .i64 x40.1,.slice A44 ((x40.2).length) c45])] ?_
  refine A.AH.one 7 ?_
  obtain⟨r47,hv48,hF⟩:=A.bd_some hF
  refine A.AL.call 516 [] (first:=[]) (cap:=[]) cf41 (R17_tells_ok (a0.1,a0.2.1,a0.2.2.1,(a0.2.2.2.1.1,a0.2.2.2.1.2.1,a0.2.2.2.1.2.2),a0.2.2.2.2.1,a0.2.2.2.2.2.1,a0.2.2.2.2.2.2) (x40.1,x40.2) r27 xs33 A2_ c3_ A44 c45 A29 c30 A31 c32 h0_ h1_ h4_ h5_ h6_ h7_ h8_ h9_ ho42.1 r47 hv48) (.s 0 (.s 515 (.o 301 (.s 260 .nil)))) ?_
  rintro _ _ ⟨A49,c50,A51,c52,rfl,rfl⟩
  refine⟨by kernel_rfl,?_⟩
  refine A.AH.nx (A.mb 13 255) [0,4,260,261,301,385,514,515] ?_
  refine A.hq A.pb [0,4,260,261,301,385,514,515] [0,4,260,261,301,385,514,515,516,517] [] [] (A.mb 13 8191) 0 [(8,.n),(9,.n),(10,.n),(11,.n),(12,.n)] [(23,.slice A49 ((r47.1).length) c50),(24,.slice A51 ((r47.2).length) c52)] ?_
  refine A.AH.done ?_
  refine A.el 2 ?_
  refine A.q0 [] [] [.n,.n] [(89,.slice A34 ((xs36).length) c35),(90,.slice A49 ((r47.1).length) c50)] ?_
  obtain⟨hl55,hF⟩:=A.gd_some hF
  refine A.AL.app (k:=385) [] (A.rowS (k:=516) rfl) inf44 hl55 fun A53 c54=>?_
  refine A.q0 [] [] [.n] [(18,.slice A53 ((xs36++r47.1).length) c54)] ?_
  refine A.dl 1 ?_
  refine A.q0 [] [] [.n,.n] [(19,.slice A51 ((r47.2).length) c52)] ?_
  refine A.dl 2 ?_
  obtain⟨hc56,hF⟩:=A.gd_some hF
  refine A.q [] [] [.n,.n,.n] [Z.R64 (y37+1)] [(22,.int .i64 (y37+1))] hc56 ?_
  refine A.AL.done ?_
  refine A.mv 260 556 [] ?_
  refine A.mvd 517 260 [] ?_
  exact A.j ⟨_,Nat.lt_succ_self _,⟨r47.2,(xs36++r47.1),(y37+1),A51,c52,A53,c54,rfl,rfl,(Z.i64_has hc56),hF⟩⟩
 refine A.xl 3 ?_
 refine A.q0 [] [] [.n,.n,.n,.n,.n] [(10,.slice A34 ((xs36).length) c35),(11,.slice A31 ((xs33).length) c32),(12,.int .i64 0)] ?_
 refine A.dx 1 ?_
 obtain rfl:=Option.some.inj hF
 refine A.frz 385 [] ?_
 exact A.AX.ret [(0,385),(1,260)] (.tuple #[.slice A34 ((xs36).length) c35,.slice A31 ((xs33).length) c32,.int .i64 0]) (fun a w hf hh=>Z.resv3 rfl (Z.rv_t hf rfl) (Z.rv_t hf rfl) (Z.rv_t hf rfl)) (⟨A34,c35,A31,c32,rfl,rfl,(A.hasl .i64 (0) rfl)⟩)
def F.R05_SameBag_l1 (a0:(List D69))(a1:(List D69)):Nat→Int→Option Bool
 |0,_=>none
 |f+1,y1=>if y1<((a0).length:Int)then((A.ix a0 y1).bind fun x4=>((A.ix a1 y1).bind fun x10=>(if((x4.1.1,x4.1.2),x4.2)≠((x10.1.1,x10.1.2),x10.2)then(some false)else(A.gd (Z.R64 (y1+1)) ((F.R05_SameBag_l1 a0 a1 f) (y1+1))))))else(some true)
def F.R05_SameBag (a0:(List D69))(a1:(List D69)):Option Bool:=if((a0).length:Int)≠((a1).length:Int)then(some false)else(F.R05_SameBag_l1 a0 a1 A.FU 0)
theorem R05_SameBag_ok (a0:(List D69))(a1:(List D69))(A0_:Option Addr)(c1_:Nat)(A2_:Option Addr)(c3_:Nat)(r:Bool)(hF:F.R05_SameBag a0 a1=some r):
    A.Ct Tryz.prog 18 [.slice A0_ ((a0).length) c1_,.slice A2_ ((a1).length) c3_] [(0,.ln T69 A0_ c1_ a0),(1,.ln T69 A2_ c3_ a1)] [] (fun v H'=>v=.bool r∧H'=[]):=by
 refine A.Ct.enter Tryz.func18 rfl Tryz.ntmps18 rfl fun w0 F0=>?_
 rw[F.R05_SameBag]at hF
 refine A.xl 1 ?_
 refine A.q0 [] [] [.n] [] ?_
 refine A.dl 3 ?_
 refine A.q0 [] [] [.n,.n,.n,.n,.n] [(10,.bool (decide (((a0).length:Int)≠((a1).length:Int))))] ?_
 refine A.dx 1 ?_
 refine A.AX.cnd rfl hF (fun hb hF=>?_) (fun hb hF=>?_)
 ·refine A.xl 1 ?_
  refine A.q0 [] [] [.n] [(4,.bool false)] ?_
  refine A.dx 1 ?_
  obtain rfl:=Option.some.inj hF
  exact A.rt1 [] ⟨rfl,rfl⟩
 refine A.xl 4 ?_
 refine A.q0 [] [] [.n] [(5,.int .i64 0)] ?_
 refine A.dx 2 ?_
 refine A.lp_ [0,1] [0,1] (fun f nl nh=>∃(y1:Int),nl=[(5,.int .i64 y1)]∧nh=[]∧IntKind.i64.has y1∧F.R05_SameBag_l1 a0 a1 f y1=some r) ⟨0,rfl,rfl,(A.hasl .i64 (0) rfl),hF⟩ ?_
 rintro f3 _ _ ⟨y1,rfl,rfl,hy2,hF⟩
 rcases f3 with _|f3
 ·exact A.no0 hF
 rw[F.R05_SameBag_l1]at hF
 refine A.xl 2 ?_
 refine A.q0 [] [] [.n,.n,.n,.n] [(14,.bool (decide (y1<((a0).length:Int))))] ?_
 refine A.dx 1 ?_
 refine A.AX.cnd rfl hF (fun hb hF=>?_) (fun hb hF=>?_)
 ·refine A.xx 5 ?_
  refine A.AX.dr mixed 9 9 (A.mb 9 0) ?_
  refine A.hq A.pb [] [0,1] [] [] (A.mb 9 51) 5 [(0,.n),(1,.n),(4,.n),(5,.n)] [(17,.slice A0_ ((a0).length) c1_),(18,.int .i64 y1),(21,.slice A2_ ((a1).length) c3_),(22,.int .i64 y1)] ?_
  obtain⟨x4,hv5,hF⟩:=A.bd_some hF
  refine A.AH.pkl 0 6 hv5 fun ho6=>?_
  intro b8 o9 hA7
  refine A.AH.v A.pb [0,1] [0,1,6] 2 (A.mb 9 55) rfl (fun a w hf hh=>A.r_ixa (t:=T69) hv5 hA7 hf) ?_
  refine A.hq A.pb [0,1,6] [0,1,6] [] [6] (A.mb 9 63) 3 [(3,.e 0 0)] [(20,.agg #[.int .i64 x4.1.1,.string x4.1.2,.int .i64 x4.2])] ?_
  obtain⟨x10,hv11,hF⟩:=A.bd_some hF
  refine A.AH.pkl 1 7 hv11 fun ho12=>?_
  intro b14 o15 hA13
  refine A.AH.v A.pb [0,1,6] [0,1,6,7] 6 (A.mb 9 127) rfl (fun a w hf hh=>A.r_ixa (t:=T69) hv11 hA13 hf) ?_
  refine A.hq A.pb [0,1,6,7] [0,1,6,7] [] [7] (A.mb 9 255) 1 [(7,.e 0 0)] [(24,.agg #[.int .i64 x10.1.1,.string x10.1.2,.int .i64 x10.2])] ?_
  refine A.AH.v A.pb [0,1,6,7] [0,1,6,7] 8 (A.mb 9 511) rfl (fun a w hf hh=>eqagg_neq70 (x:=((x4.1.1,x4.1.2),x4.2)) (y:=((x10.1.1,x10.1.2),x10.2)) (hf.eval rfl) (hf.eval rfl)) ?_
  refine A.AH.done ?_
  refine A.ex 1 ?_
  refine A.AX.cnd rfl hF (fun hb hF=>?_) (fun hb hF=>?_)
  ·refine A.xl 1 ?_
   refine A.q0 [] [] [.n] [(4,.bool false)] ?_
   refine A.dx 1 ?_
   obtain rfl:=Option.some.inj hF
   exact A.rt1 [] ⟨rfl,rfl⟩
  refine A.xl 3 ?_
  obtain⟨hc16,hF⟩:=A.gd_some hF
  refine A.q [] [] [.n,.n,.n] [Z.R64 (y1+1)] [(5,.int .i64 (y1+1))] hc16 ?_
  refine A.AL.done ?_
  exact A.j ⟨_,Nat.lt_succ_self _,⟨(y1+1),rfl,rfl,(Z.i64_has hc16),hF⟩⟩
 refine A.xl 3 ?_
 refine A.q0 [] [] [.n] [(4,.bool true)] ?_
 refine A.dx 1 ?_
 obtain rfl:=Option.some.inj hF
 exact A.rt1 [] ⟨rfl,rfl⟩
end Go.Proofs.YtbljnlkhebiniaaGreatDoor
end
section
set_option linter.unusedVariables false
set_option linter.unusedSimpArgs false
set_option maxRecDepth 20000
set_option maxHeartbeats 8000000
set_option synthInstance.maxSize 1000000
set_option synthInstance.maxHeartbeats 400000
namespace Go.Proofs.YtbljnlkhebiniaaGreatDoor
open Go.RowKit
def F.L17_OperTells_j1 (k1:Int→Option Bool)(y47:Int)(y49:Bool):Option Bool:=if y49=true then(some false)else(A.gd (Z.R64 (y47+1)) (k1 (y47+1)))
def F.L17_OperTells_l2 (r27:(List D55)):List (Int×(List D69))→Int→Option Bool
 | [],y47=>some (decide (y47=((r27).length:Int)))
 |y42::f,y47=>if((r27).length:Int)≤y47 then(F.L17_OperTells_j1 (F.L17_OperTells_l2 r27 f) y47 true)else((A.ix r27 y47).bind fun x51=>(if y42.1≠x51.1 then(F.L17_OperTells_j1 (F.L17_OperTells_l2 r27 f) y47 true)else((A.ix r27 y47).bind fun x58=>((F.R05_SameBag y42.2 x58.2).bind fun r65=>(F.L17_OperTells_j1 (F.L17_OperTells_l2 r27 f) y47 (!r65))))))
def F.L17_OperTells_j3 (a1:D32)(y21:Bool):Option Bool:=if y21=true then(some false)else((F.oper_Keys a1.2.1).bind fun r22=>((F.R17_Keys a1.2.1).bind fun r27=>((F.oper_Keys_1_it r22).bind fun xs33=>F.L17_OperTells_l2 r27 xs33 0)))
def F.L17_OperTells_j4 (a0:D25)(a1:D32)(y6:Bool):Option Bool:=if y6=true then(some true)else((F.oper_Tell (a0.1,a0.2.1,a0.2.2.1,(a0.2.2.2.1.1,a0.2.2.2.1.2.1,a0.2.2.2.1.2.2),a0.2.2.2.2.1,a0.2.2.2.2.2.1,a0.2.2.2.2.2.2) (a1.1.1,a1.1.2.1,(a1.1.2.2.1,a1.1.2.2.2.1,a1.1.2.2.2.2.1,a1.1.2.2.2.2.2)) a1.2.1 a1.2.2.1 a1.2.2.2).bind fun r7=>((F.R17_Tell (a0.1,a0.2.1,a0.2.2.1,(a0.2.2.2.1.1,a0.2.2.2.1.2.1,a0.2.2.2.1.2.2),a0.2.2.2.2.1,a0.2.2.2.2.2.1,a0.2.2.2.2.2.2) (a1.1.1,a1.1.2.1,(a1.1.2.2.1,a1.1.2.2.2.1,a1.1.2.2.2.2.1,a1.1.2.2.2.2.2)) a1.2.1 a1.2.2.1 a1.2.2.2).bind fun r14=>((F.slices_Equal_api_Rec_api_Rec r7.1 r14.1).bind fun r67=>(if(!r67)=true then(F.L17_OperTells_j3 a1 true)else((F.slices_Equal_api_Entry_api_Entry r7.2.1 r14.2.1).bind fun r69=>(if(bif !r69 then true else decide (r7.2.2≠r14.2.2))=true then(F.L17_OperTells_j3 a1 true)else((F.oper_CheckState (a0.1,a0.2.1,a0.2.2.1,(a0.2.2.2.1.1,a0.2.2.2.1.2.1,a0.2.2.2.1.2.2),a0.2.2.2.2.1,a0.2.2.2.2.2.1,a0.2.2.2.2.2.2) a1.2.2.2).bind fun r71=>((F.R17_CheckState (a0.1,a0.2.1,a0.2.2.1,(a0.2.2.2.1.1,a0.2.2.2.1.2.1,a0.2.2.2.1.2.2),a0.2.2.2.2.1,a0.2.2.2.2.2.1,a0.2.2.2.2.2.2) a1.2.2.2).bind fun r74=>(F.L17_OperTells_j3 a1 (decide (r71≠r74)))))))))))
def F.L17_OperTells (a0:D25)(a1:D32):Option Bool:=(F.L17_live).bind fun r4=>(if(!r4)=true then(some false)else((F.L17_rare [a1.2.1,a1.2.2.1]).bind fun r78=>(if(!r78)=true then(F.L17_OperTells_j4 a0 a1 true)else((F.L17_thin a1.2.2.2).bind fun r80=>(F.L17_OperTells_j4 a0 a1 (bif !r80 then true else decide ((300:Int)<(a0.2.2.2.1.2.2.size:Int))))))))
theorem L17_OperTells_ok (a0:D25)(a1:D32)(A2_:Option Addr)(c3_:Nat)(A16_:Option Addr)(c17_:Nat)(A18_:Option Addr)(c19_:Nat)(A20_:Option Addr)(c21_:Nat)(h0_:IntKind.i64.has a0.1)(h1_:IntKind.i64.has a0.2.1)(h4_:IntKind.i64.has a0.2.2.2.1.1)(h5_:IntKind.i64.has a0.2.2.2.1.2.1)(h6_:a0.2.2.2.1.2.2.size≤maxLen)(h7_:a0.2.2.2.2.1.size≤maxLen)(h8_:IntKind.i64.has a0.2.2.2.2.2.1)(h9_:IntKind.i64.has a0.2.2.2.2.2.2)(h10_:IntKind.i64.has a1.1.1)(h11_:IntKind.i64.has a1.1.2.1)(h12_:IntKind.i64.has a1.1.2.2.1)(h13_:IntKind.i64.has a1.1.2.2.2.1)(h14_:IntKind.i64.has a1.1.2.2.2.2.1)(h15_:IntKind.i64.has a1.1.2.2.2.2.2)(r:Bool)(hF:F.L17_OperTells a0 a1=some r):
    A.Ct Tryz.prog 3 [.agg #[.int .i64 a0.1,.int .i64 a0.2.1,.slice A2_ ((a0.2.2.1).length) c3_,.int .i64 a0.2.2.2.1.1,.int .i64 a0.2.2.2.1.2.1,.string a0.2.2.2.1.2.2,.string a0.2.2.2.2.1,.int .i64 a0.2.2.2.2.2.1,.int .i64 a0.2.2.2.2.2.2],.agg #[.int .i64 a1.1.1,.int .i64 a1.1.2.1,.int .i64 a1.1.2.2.1,.int .i64 a1.1.2.2.2.1,.int .i64 a1.1.2.2.2.2.1,.int .i64 a1.1.2.2.2.2.2,.slice A16_ ((a1.2.1).length) c17_,.slice A18_ ((a1.2.2.1).length) c19_,.slice A20_ ((a1.2.2.2).length) c21_]] [(0,.sh (.slice (Z.Ty.int .i64)) [.slice A2_ (a0.2.2.1).length c3_] a0.2.2.1),(1,.sh (.slice T69) [.slice A16_ (a1.2.1).length c17_] a1.2.1),(2,.sh (.slice T69) [.slice A18_ (a1.2.2.1).length c19_] a1.2.2.1),(3,.sh (.slice T46) [.slice A20_ (a1.2.2.2).length c21_] a1.2.2.2),(4,.el none 1 0 A.tabF),(5,.el none 2 0 A.tabA)] [] (fun v H'=>v=.bool r∧H'=[]):=by
 refine A.Ct.enterM Tryz.func3 rfl Tryz.ntmps3 rfl fun w0 F0=>?_
 rw[F.L17_OperTells]at hF
 refine A.xl 1 ?_
 refine A.AL.box 6 (cs:=[.int .i64 a0.1,.int .i64 a0.2.1,.slice A2_ ((a0.2.2.1).length) c3_,.int .i64 a0.2.2.2.1.1,.int .i64 a0.2.2.2.1.2.1,.string a0.2.2.2.1.2.2,.string a0.2.2.2.2.1,.int .i64 a0.2.2.2.2.2.1,.int .i64 a0.2.2.2.2.2.2]) fun g1=>?_
 refine A.AL.box 7 (cs:=[.int .i64 a1.1.1,.int .i64 a1.1.2.1,.int .i64 a1.1.2.2.1,.int .i64 a1.1.2.2.2.1,.int .i64 a1.1.2.2.2.2.1,.int .i64 a1.1.2.2.2.2.2,.slice A16_ ((a1.2.1).length) c17_,.slice A18_ ((a1.2.2.1).length) c19_,.slice A20_ ((a1.2.2.2).length) c21_]) fun g2=>?_
 refine A.AL.alloc 8 (cs:=[.bool false]) Tryz.zeroValue4 fun g3=>?_
 refine A.dl 3 ?_
 obtain⟨r4,hv5,hF⟩:=A.bd_some hF
 refine A.AL.call 9 [] (first:=[]) (cap:=[]) cf7 (L17_live_ok r4 hv5) (.s 4 (.s 5 .nil)) ?_
 rintro _ _ ⟨rfl,rfl⟩
 refine⟨by kernel_rfl,?_⟩
 refine A.q0 [] [] [.n] [(17,.bool (!r4))] ?_
 refine A.dx 1 ?_
 refine A.AX.cnb rfl hF (fun hb hF=>?_) (fun hb hF=>?_)
 ·refine A.xl 1 ?_
  refine A.sw 8 [] [.bool false] ?_
  refine A.dx 1 ?_
  obtain rfl:=Option.some.inj hF
  exact A.AX.rtM (Ds:=[]) [] [] (.bool false) (trivial) (fun a w hf hh=>Z.resv1 rfl (Z.rv_1 hf rfl Tryz.isAgg4 (A.Hp.blk hh 8))) (⟨rfl,rfl⟩)
 refine A.xx 3 ?_
 refine A.AX.join [2,3,4] [0,1,2,3,4,5,6,7,8] (fun nl nh=>∃(y6:Bool),nl=[(37,.bool y6)]∧nh=[]∧F.L17_OperTells_j4 a0 a1 y6=some r) ?_ ?_
 ·refine A.xl 0 ?_
  refine A.q0 [7] [] [.n,.b 0 6,.n,.b 0 7] [(19,.slice A16_ ((a1.2.1).length) c17_),(21,.slice A18_ ((a1.2.2.1).length) c19_)] ?_
  refine A.AL.bsl 49 (ty:=(Z.Ty.slice T69)) (cs:=[.slice A16_ ((a1.2.1).length) c17_,.slice A18_ ((a1.2.2.1).length) c19_]) [a1.2.1,a1.2.2.1] ⟨.inl ⟨1,rfl⟩,⟨.inl ⟨2,rfl⟩,rfl⟩⟩ (fun g77=>?_) Tryz.zeroValue30 Tryz.sizeOf30
  obtain⟨r78,hv79,hF⟩:=A.bd_some hF
  refine A.AL.call 50 [] (first:=[]) (cap:=[]) cf8 (L17_rare_ok [a1.2.1,a1.2.2.1] (some ⟨g77,0,none⟩) 2 r78 hv79) (.o 49 .nil) ?_
  rintro _ _ ⟨rfl,rfl⟩
  refine⟨by kernel_rfl,?_⟩
  refine A.q0 [] [] [.n,.n] [(25,.bool (!r78))] ?_
  refine A.AL.cnd (j:=25) rfl hF (fun hF=>?_) (fun hF=>?_)
  ·refine A.q0 [] [] [.off,.off,.off,.off,.n,.n,.off,.off,.off,.off,.off,.n] [(37,.bool true)] ?_
   refine A.AL.done ?_
   exact A.j ⟨true,rfl,rfl,hF⟩
  refine A.q0 [7] [] [.on .n,.on (.b 0 8)] [(27,.slice A20_ ((a1.2.2.2).length) c21_)] ?_
  refine A.AL.on (dj:=25) rfl rfl ?_
  obtain⟨r80,hv81,hF⟩:=A.bd_some hF
  refine A.AL.call 90 [] (first:=[]) (cap:=[]) cf9 (L17_thin_ok a1.2.2.2 A20_ c21_ r80 hv81) (.s 3 .nil) ?_
  rintro _ _ ⟨rfl,rfl⟩
  refine⟨by kernel_rfl,?_⟩
  refine A.q0 [6] [] [.on .n,.n,.n,.sy .n,.sy .n,.sy (.b 0 5),.sy .n,.sy .n,.pk] [(37,.bool (bif !r80 then true else decide ((300:Int)<(a0.2.2.2.1.2.2.size:Int))))] ?_
  refine A.AL.done ?_
  exact A.j ⟨(bif !r80 then true else decide ((300:Int)<(a0.2.2.2.1.2.2.size:Int))),rfl,rfl,hF⟩
 rintro _ _ ⟨y6,rfl,rfl,hF⟩
 rw[F.L17_OperTells_j4]at hF
 refine A.AX.cnb rfl hF (fun hb hF=>?_) (fun hb hF=>?_)
 ·refine A.xl 1 ?_
  refine A.sw 8 [] [.bool true] ?_
  refine A.dx 1 ?_
  obtain rfl:=Option.some.inj hF
  exact A.AX.rtM (Ds:=[]) [] [] (.bool true) (trivial) (fun a w hf hh=>Z.resv1 rfl (Z.rv_1 hf rfl Tryz.isAgg4 (A.Hp.blk hh 8))) (⟨rfl,rfl⟩)
 refine A.xl 3 ?_
 refine A.q0 [6,7] [] [.b 0 0,.n,.b 1 0,.n,.b 1 6,.n,.b 1 7,.n,.b 1 8] [(39,.agg #[.int .i64 a0.1,.int .i64 a0.2.1,.slice A2_ ((a0.2.2.1).length) c3_,.int .i64 a0.2.2.2.1.1,.int .i64 a0.2.2.2.1.2.1,.string a0.2.2.2.1.2.2,.string a0.2.2.2.2.1,.int .i64 a0.2.2.2.2.2.1,.int .i64 a0.2.2.2.2.2.2]),(41,.agg #[.int .i64 a1.1.1,.int .i64 a1.1.2.1,.int .i64 a1.1.2.2.1,.int .i64 a1.1.2.2.2.1,.int .i64 a1.1.2.2.2.2.1,.int .i64 a1.1.2.2.2.2.2]),(43,.slice A16_ ((a1.2.1).length) c17_),(45,.slice A18_ ((a1.2.2.1).length) c19_),(47,.slice A20_ ((a1.2.2.2).length) c21_)] ?_
 obtain⟨r7,hv8,hF⟩:=A.bd_some hF
 refine A.AL.call 130 [] (first:=[]) (cap:=[]) cf10 (oper_Tell_ok (a0.1,a0.2.1,a0.2.2.1,(a0.2.2.2.1.1,a0.2.2.2.1.2.1,a0.2.2.2.1.2.2),a0.2.2.2.2.1,a0.2.2.2.2.2.1,a0.2.2.2.2.2.2) (a1.1.1,a1.1.2.1,(a1.1.2.2.1,a1.1.2.2.2.1,a1.1.2.2.2.2.1,a1.1.2.2.2.2.2)) a1.2.1 a1.2.2.1 a1.2.2.2 A2_ c3_ A16_ c17_ A18_ c19_ A20_ c21_ h0_ h1_ h4_ h5_ h6_ h7_ h8_ h9_ h10_ h11_ h12_ h13_ h14_ h15_ r7 hv8) (.s 0 (.s 1 (.s 2 (.l 3 (.s 4 (.s 5 .nil)))))) ?_
 rintro _ _ ⟨A9,c10,A11,c12,rfl,rfl,hr13⟩
 refine⟨by kernel_rfl,?_⟩
 refine A.q0 [] [] [.n,.n,.n,.n,.n,.n,.n] [(5,.slice A9 ((r7.1).length) c10),(6,.slice A11 ((r7.2.1).length) c12),(7,.int .i64 r7.2.2)] ?_
 refine A.dl 2 ?_
 refine A.q0 [6,7] [] [.b 0 0,.n,.b 1 0,.n,.b 1 6,.n,.b 1 7,.n,.b 1 8] [(53,.agg #[.int .i64 a0.1,.int .i64 a0.2.1,.slice A2_ ((a0.2.2.1).length) c3_,.int .i64 a0.2.2.2.1.1,.int .i64 a0.2.2.2.1.2.1,.string a0.2.2.2.1.2.2,.string a0.2.2.2.2.1,.int .i64 a0.2.2.2.2.2.1,.int .i64 a0.2.2.2.2.2.2]),(55,.agg #[.int .i64 a1.1.1,.int .i64 a1.1.2.1,.int .i64 a1.1.2.2.1,.int .i64 a1.1.2.2.2.1,.int .i64 a1.1.2.2.2.2.1,.int .i64 a1.1.2.2.2.2.2]),(57,.slice A16_ ((a1.2.1).length) c17_),(59,.slice A18_ ((a1.2.2.1).length) c19_),(61,.slice A20_ ((a1.2.2.2).length) c21_)] ?_
 obtain⟨r14,hv15,hF⟩:=A.bd_some hF
 refine A.AL.call 170 [] (first:=[]) (cap:=[]) cf11 (R17_Tell_ok (a0.1,a0.2.1,a0.2.2.1,(a0.2.2.2.1.1,a0.2.2.2.1.2.1,a0.2.2.2.1.2.2),a0.2.2.2.2.1,a0.2.2.2.2.2.1,a0.2.2.2.2.2.2) (a1.1.1,a1.1.2.1,(a1.1.2.2.1,a1.1.2.2.2.1,a1.1.2.2.2.2.1,a1.1.2.2.2.2.2)) a1.2.1 a1.2.2.1 a1.2.2.2 A2_ c3_ A16_ c17_ A18_ c19_ A20_ c21_ h0_ h1_ h4_ h5_ h6_ h7_ h8_ h9_ h10_ h11_ h12_ h13_ h14_ h15_ r14 hv15) (.s 0 (.l 1 (.l 2 (.l 3 .nil)))) ?_
 rintro _ _ ⟨A16,c17,A18,c19,rfl,rfl,hr20⟩
 refine⟨by kernel_rfl,?_⟩
 refine A.q0 [] [] [.n,.n,.n,.n,.n,.n,.n] [(8,.slice A16 ((r14.1).length) c17),(9,.slice A18 ((r14.2.1).length) c19),(10,.int .i64 r14.2.2)] ?_
 refine A.dx 2 ?_
 refine A.AX.join [3,4] [1,2,3,4,5,7,8] (fun nl nh=>∃(y21:Bool),nl=[(91,.bool y21)]∧nh=[]∧F.L17_OperTells_j3 a1 y21=some r) ?_ ?_
 ·refine A.AX.dr mixed 26 26 (A.mb 26 0) ?_
  refine A.hq (A.pk_kont A.pqM) [] [0,1,2,3,4,5,6,7,8,130,131,170,171] [] [] (A.mb 26 3) 24 [(0,.n),(1,.n)] [(66,.slice A9 ((r7.1).length) c10),(67,.slice A16 ((r14.1).length) c17)] ?_
  refine A.AH.one 2 ?_
  obtain⟨r67,hv68,hF⟩:=A.bd_some hF
  refine A.AL.call 210 [] (first:=[]) (cap:=[]) cf12 (slices_Equal_api_Rec_api_Rec_ok r7.1 r14.1 A9 c10 A16 c17 r67 hv68) (.l 130 (.l 170 .nil)) ?_
  rintro _ _ ⟨rfl,rfl⟩
  refine⟨by kernel_rfl,?_⟩
  refine A.AH.nx (A.mb 26 7) [0,1,2,3,4,5,6,7,8,130,131,170,171] ?_
  refine A.hq (A.pk_kont A.pqM) [0,1,2,3,4,5,6,7,8,130,131,170,171] [0,1,2,3,4,5,6,7,8,130,131,170,171] [] [] (A.mb 26 31) 21 [(3,.n),(4,.n)] [(70,.bool (!r67))] ?_
  refine A.AH.cnd (j:=70) rfl hF (fun hF=>?_) (fun hF=>?_)
  ·refine A.hq (A.pk_kont A.pqM) [0,1,2,3,4,5,6,7,8,130,131,170,171] [0,1,2,3,4,5,6,7,8,130,131,170,171] [] [] (A.mb 26 67108863) 0 [(5,.off),(6,.off),(7,.off),(8,.off),(9,.n),(10,.n),(11,.off),(12,.off),(13,.off),(14,.n),(15,.n),(16,.off),(17,.off),(20,.off),(21,.off),(18,.off),(22,.off),(19,.off),(23,.off),(24,.off),(25,.n)] [(91,.bool true)] ?_
   refine A.AH.done ?_
   exact A.j ⟨true,rfl,rfl,hF⟩
  refine A.hq (A.pk_kont A.pqM) [0,1,2,3,4,5,6,7,8,130,131,170,171] [0,1,2,3,4,5,6,7,8,130,131,170,171] [] [] (A.mb 26 127) 19 [(5,.on .n),(6,.on .n)] [(71,.slice A11 ((r7.2.1).length) c12),(72,.slice A18 ((r14.2.1).length) c19)] ?_
  refine A.AH.one 7 ?_
  refine A.AL.on (dj:=70) rfl rfl ?_
  obtain⟨r69,hv70,hF⟩:=A.bd_some hF
  refine A.AL.call 250 [] (first:=[]) (cap:=[]) cf13 (slices_Equal_api_Entry_api_Entry_ok r7.2.1 r14.2.1 A11 c12 A18 c19 r69 hv70) (.l 131 (.l 171 .nil)) ?_
  rintro _ _ ⟨rfl,rfl⟩
  refine⟨by kernel_rfl,?_⟩
  refine A.AH.nx (A.mb 26 255) [0,1,2,3,4,5,6,7,8,130,131,170,171] ?_
  refine A.hq (A.pk_kont A.pqM) [0,1,2,3,4,5,6,7,8,130,131,170,171] [0,1,2,3,4,5,6,7,8,130,131,170,171] [] [] (A.mb 26 65535) 10 [(8,.on .n),(9,.n),(10,.n),(11,.sy .n),(12,.sy .n),(13,.sy .n),(14,.pk),(15,.n)] [(81,.bool (bif !r69 then true else decide (r7.2.2≠r14.2.2)))] ?_
  refine A.AH.cnd (j:=81) rfl hF (fun hF=>?_) (fun hF=>?_)
  ·refine A.hq (A.pk_kont A.pqM) [0,1,2,3,4,5,6,7,8,130,131,170,171] [0,1,2,3,4,5,6,7,8,130,131,170,171] [] [] (A.mb 26 67108863) 0 [(16,.off),(17,.off),(20,.off),(21,.off),(18,.off),(22,.off),(19,.off),(23,.off),(24,.off),(25,.n)] [(91,.bool true)] ?_
   refine A.AH.done ?_
   exact A.j ⟨true,rfl,rfl,hF⟩
  refine A.hq (A.pk_kont A.pqM) [0,1,2,3,4,5,6,7,8,130,131,170,171] [0,1,2,3,4,5,6,7,8,130,131,170,171] [6,7] [] (A.mb 26 7864319) 4 [(16,.on (.b 0 0)),(17,.on .n),(20,.on (.b 0 0)),(21,.on .n),(18,.on (.b 1 8)),(22,.on (.b 1 8))] [(82,.agg #[.int .i64 a0.1,.int .i64 a0.2.1,.slice A2_ ((a0.2.2.1).length) c3_,.int .i64 a0.2.2.2.1.1,.int .i64 a0.2.2.2.1.2.1,.string a0.2.2.2.1.2.2,.string a0.2.2.2.2.1,.int .i64 a0.2.2.2.2.2.1,.int .i64 a0.2.2.2.2.2.2]),(86,.agg #[.int .i64 a0.1,.int .i64 a0.2.1,.slice A2_ ((a0.2.2.1).length) c3_,.int .i64 a0.2.2.2.1.1,.int .i64 a0.2.2.2.1.2.1,.string a0.2.2.2.1.2.2,.string a0.2.2.2.2.1,.int .i64 a0.2.2.2.2.2.1,.int .i64 a0.2.2.2.2.2.2]),(84,.slice A20_ ((a1.2.2.2).length) c21_),(88,.slice A20_ ((a1.2.2.2).length) c21_)] ?_
  refine A.AH.one 19 ?_
  refine A.AL.on (dj:=81) rfl rfl ?_
  obtain⟨r71,hv72,hF⟩:=A.bd_some hF
  refine A.AL.call 290 [] (first:=[]) (cap:=[]) cf14 (oper_CheckState_ok (a0.1,a0.2.1,a0.2.2.1,(a0.2.2.2.1.1,a0.2.2.2.1.2.1,a0.2.2.2.1.2.2),a0.2.2.2.2.1,a0.2.2.2.2.2.1,a0.2.2.2.2.2.2) a1.2.2.2 A2_ c3_ A20_ c21_ h0_ h1_ h4_ h5_ h6_ h7_ h8_ h9_ r71 hv72) (.s 0 (.l 3 (.s 4 (.s 5 .nil)))) ?_
  rintro _ _ ⟨rfl,rfl,hr73⟩
  refine⟨by kernel_rfl,?_⟩
  refine A.AH.nx (A.mb 26 8388607) [0,1,2,3,4,5,6,7,8,130,131,170,171] ?_
  refine A.AH.one 23 ?_
  refine A.AL.on (dj:=81) rfl rfl ?_
  obtain⟨r74,hv75,hF⟩:=A.bd_some hF
  refine A.AL.call 330 [] (first:=[]) (cap:=[]) cf15 (R17_CheckState_ok (a0.1,a0.2.1,a0.2.2.1,(a0.2.2.2.1.1,a0.2.2.2.1.2.1,a0.2.2.2.1.2.2),a0.2.2.2.2.1,a0.2.2.2.2.2.1,a0.2.2.2.2.2.2) a1.2.2.2 A2_ c3_ A20_ c21_ h0_ h1_ h4_ h5_ h6_ h7_ h8_ h9_ r74 hv75) (.s 0 (.l 3 .nil)) ?_
  rintro _ _ ⟨rfl,rfl,hr76⟩
  refine⟨by kernel_rfl,?_⟩
  refine A.AH.nx (A.mb 26 16777215) [0,1,2,3,4,5,6,7,8,130,131,170,171] ?_
  refine A.hq (A.pk_kont A.pqM) [0,1,2,3,4,5,6,7,8,130,131,170,171] [0,1,2,3,4,5,6,7,8,130,131,170,171] [] [] (A.mb 26 67108863) 0 [(24,.on .n),(25,.n)] [(91,.bool (decide (r71≠r74)))] ?_
  refine A.AH.done ?_
  exact A.j ⟨(decide (r71≠r74)),rfl,rfl,hF⟩
 rintro _ _ ⟨y21,rfl,rfl,hF⟩
 rw[F.L17_OperTells_j3]at hF
 refine A.AX.cnb rfl hF (fun hb hF=>?_) (fun hb hF=>?_)
 ·refine A.xl 1 ?_
  refine A.sw 8 [] [.bool false] ?_
  refine A.dx 1 ?_
  obtain rfl:=Option.some.inj hF
  exact A.AX.rtM (Ds:=[]) [] [] (.bool false) (trivial) (fun a w hf hh=>Z.resv1 rfl (Z.rv_1 hf rfl Tryz.isAgg4 (A.Hp.blk hh 8))) (⟨rfl,rfl⟩)
 refine A.xl 3 ?_
 refine A.q0 [7] [] [.n,.b 0 6] [(93,.slice A16_ ((a1.2.1).length) c17_)] ?_
 obtain⟨r22,hv23,hF⟩:=A.bd_some hF
 refine A.AL.call 370 [] (first:=[]) (cap:=[]) cf16 (oper_Keys_ok a1.2.1 A16_ c17_ r22 hv23) (.s 1 (.s 4 (.s 5 .nil))) ?_
 rintro _ _ ⟨g24,A25,c26,rfl,rfl⟩
 refine⟨by kernel_rfl,?_⟩
 refine A.q0 [] [] [.n] [(11,.func (.func 47) #[] #[.pointer (some ⟨g24,0,none⟩)])] ?_
 refine A.dl 3 ?_
 refine A.q0 [] [] [.n] [(95,.func (.func 47) #[] #[.pointer (some ⟨g24,0,none⟩)])] ?_
 refine A.AL.val rfl (fun a w hf hh=>Z.r_eqfn rfl (hf.eval rfl)) ?_
 refine A.dx 1 ?_
 refine A.AX.cnf rfl ?_
 refine A.xl 3 ?_
 refine A.q0 [7] [] [.n,.b 0 6] [(98,.slice A16_ ((a1.2.1).length) c17_)] ?_
 obtain⟨r27,hv28,hF⟩:=A.bd_some hF
 refine A.AL.call 410 [] (first:=[]) (cap:=[]) cf17 (R17_Keys_ok a1.2.1 A16_ c17_ r27 hv28) (.l 1 .nil) ?_
 rintro _ _ ⟨A29,c30,rfl,rfl⟩
 refine⟨by kernel_rfl,?_⟩
 refine A.AL.alloc 450 (cs:=[.slice none 0 0]) Tryz.zeroValue53 fun g31=>?_
 refine A.sw 450 [] [.slice A29 ((r27).length) c30] ?_
 refine A.dl 2 ?_
 refine A.AL.alloc 451 (cs:=[.int .i64 0]) Tryz.zeroValue3 fun g32=>?_
 refine A.sw 451 [] [.int .i64 0] ?_
 refine A.dl 3 ?_
 refine A.q0 [] [] [.n] [(100,.func (.func 47) #[] #[.pointer (some ⟨g24,0,none⟩)])] ?_
 refine A.dx 2 ?_
 obtain⟨xs33,hv34,hF⟩:=A.bd_some hF
 refine A.AX.rgf 452 453 454 [4,5,8,370,371,410,450] [451,4,5,8,370,371,410,450] [453,452,451,4,5,8,370,371,410,450] (fun k nh=>∃(y47:Int),nh=[(451,.blk g32 3 [.int .i64 y47])]∧IntKind.i64.has y47∧F.L17_OperTells_l2 r27 (List.drop k xs33) y47=some r) [(451,.blk g32 3 [.int .i64 0])] cf47 (oper_Keys_1_it_sq r22 g24 A25 c26 xs33 hv34) (fun _=>rfl) ⟨0,rfl,(A.hasl .i64 (0) rfl),hF⟩ ?_ ?_ ?_
 ·rintro k41 _ D35 L36 ⟨y47,rfl,hy48,hF⟩
  exact⟨⟨_,(.b 370 (.s 371 .nil))⟩,rfl,fun o=>rfl⟩
 ·rintro k41 _ y42 D35 L36 w40 o37 ⟨y47,rfl,hy48,hF⟩ hx45 hxo46 hh39
  intro A43 c44
  rw[A.drop_at hx45,F.L17_OperTells_l2]at hF
  refine A.xl 1 ?_
  refine A.q0 [] [] [.n] [(14,.int .i64 y42.1)] ?_
  refine A.dl 1 ?_
  refine A.q0 [] [] [.n] [(15,.slice A43 ((y42.2).length) c44)] ?_
  refine A.AL.done ?_
  refine A.AE.flip 452 453 fun o38=>?_
  refine A.xx 2 ?_
  refine A.AX.join [4,12,13] [4,5,8,370,371,410,450,451,452,453] (fun nl nh=>∃(y49:Bool),nl=[(125,.bool y49)]∧nh=[]∧F.L17_OperTells_j1 (F.L17_OperTells_l2 r27 (List.drop (k41+1) xs33)) y47 y49=some r) ?_ ?_
  ·refine A.xl 0 ?_
   refine A.q0 [451,450] [] [.b 0 0,.b 1 0,.n,.n,.n] [(107,.bool (decide (((r27).length:Int)≤y47)))] ?_
   refine A.AL.cnp (j:=107) rfl hF (fun hb hF=>?_) (fun hb hF=>?_)
   ·refine A.q0 [] [] [.off,.off,.off,.off,.off,.off,.off,.n,.n,.off,.off,.off,.off,.off,.off,.off,.off,.n] [(125,.bool true)] ?_
    refine A.AL.done ?_
    exact A.j ⟨true,rfl,rfl,hF⟩
   refine A.q0 [450,451] [] [.on .n,.on (.b 0 0),.on (.b 1 0)] [(108,.int .i64 y42.1),(109,.slice A29 ((r27).length) c30),(110,.int .i64 y47)] ?_
   refine A.AL.on (dj:=107) rfl rfl ?_
   obtain⟨x51,hv52,hF⟩:=A.bd_some hF
   refine A.AL.ixo 410 543 hv52 fun ho53=>?_
   intro A54 c55 g56 hA57
   refine A.q0 [] [543] [.on .n,.on (.e 0 0),.on .n,.n,.n] [(116,.bool (decide (y42.1≠x51.1)))] ?_
   refine A.AL.cnp (j:=116) rfl hF (fun hb hF=>?_) (fun hb hF=>?_)
   ·refine A.q0 [] [] [.off,.off,.off,.off,.off,.off,.off,.off,.n] [(125,.bool true)] ?_
    refine A.AL.done ?_
    exact A.j ⟨true,rfl,rfl,hF⟩
   refine A.q0 [450,451] [] [.on .n,.on (.b 0 0),.on (.b 1 0)] [(117,.slice A43 ((y42.2).length) c44),(118,.slice A29 ((r27).length) c30),(119,.int .i64 y47)] ?_
   refine A.AL.on (dj:=116) rfl rfl ?_
   obtain⟨x58,hv59,hF⟩:=A.bd_some hF
   refine A.AL.ixo 410 545 hv59 fun ho60=>?_
   intro A61 c62 g63 hA64
   refine A.q0 [] [545] [.on .n,.on (.e 0 1)] [(122,.slice A61 ((x58.2).length) c62)] ?_
   refine A.AL.on (dj:=116) rfl rfl ?_
   obtain⟨r65,hv66,hF⟩:=A.bd_some hF
   refine A.AL.call 547 [] (first:=[]) (cap:=[]) cf18 (R05_SameBag_ok y42.2 x58.2 A43 c44 A61 c62 r65 hv66) (.l 454 (.l 546 .nil)) ?_
   rintro _ _ ⟨rfl,rfl⟩
   refine⟨by kernel_rfl,?_⟩
   refine A.q0 [] [] [.on .n,.n] [(125,.bool (!r65))] ?_
   refine A.AL.done ?_
   exact A.j ⟨(!r65),rfl,rfl,hF⟩
  rintro _ _ ⟨y49,rfl,rfl,hF⟩
  rw[F.L17_OperTells_j1]at hF
  refine A.AX.cnb rfl hF (fun hb hF=>?_) (fun hb hF=>?_)
  ·refine A.xl 1 ?_
   refine A.sw 8 [] [.bool false] ?_
   refine A.dx 1 ?_
   refine A.AX.bret hh39 [453,8,370,371,410,450,451,452] 100000 [(453,100453),(8,100008),(370,100370),(371,100371),(410,100410),(450,100450),(451,100451),(452,100452),(4,4),(5,5)] [(8,.blk g3 4 [.bool false]),(370,.blk g24 30 [.slice A25 ((r22).length) c26]),(371,.sh (.slice T69) [.slice A25 (r22).length c26] r22),(410,.own T55 56 A29 c30 r27),(450,.blk g31 53 [.slice A29 ((r27).length) c30]),(451,.blk g32 3 [.int .i64 y47]),(452,.ob D35 A.dfT),(4,.el none 1 0 A.tabF),(5,.el none 2 0 A.tabA)] ?_ rfl rfl
   obtain rfl:=Option.some.inj hF
   exact A.AE.rtM (Ds:=[D35]) [452] [] (.bool false) (⟨rfl,trivial⟩) (fun a w hf hh=>Z.resv1 rfl (Z.rv_1 hf rfl Tryz.isAgg4 (A.Hp.blk hh 8))) (⟨rfl,rfl⟩)
  refine A.xl 2 ?_
  obtain⟨hc50,hF⟩:=A.gd_some hF
  refine A.q [451] [] [.b 0 0,.n] [Z.R64 (y47+1)] [(127,.int .i64 (y47+1))] hc50 ?_
  refine A.sw 451 [] [.int .i64 (y47+1)] ?_
  refine A.de 1 ?_
  exact A.AE.bn hh39 [453,452,451,8,370,371,410,450] 100000 [(453,100453),(452,100452),(451,100451),(4,4),(5,5),(8,100008),(370,100370),(371,100371),(410,100410),(450,100450)] [(451,.blk g32 3 [.int .i64 (y47+1)])] ⟨(y47+1),rfl,(Z.i64_has hc50),hF⟩ rfl rfl
 rintro _ D35 L36 ⟨y47,rfl,hy48,hF⟩
 rw[List.drop_length,F.L17_OperTells_l2]at hF
 refine A.el 3 ?_
 refine A.q0 [451,450] [] [.b 0 0,.b 1 0,.n,.n] [(131,.bool (decide (y47=((r27).length:Int))))] ?_
 refine A.sw 8 [] [.bool (decide (y47=((r27).length:Int)))] ?_
 refine A.dx 1 ?_
 obtain rfl:=Option.some.inj hF
 exact A.AX.rtM (Ds:=[D35]) [452] [] (.bool (decide (y47=((r27).length:Int)))) (⟨rfl,trivial⟩) (fun a w hf hh=>Z.resv1 rfl (Z.rv_1 hf rfl Tryz.isAgg4 (A.Hp.blk hh 8))) (⟨rfl,rfl⟩)
end Go.Proofs.YtbljnlkhebiniaaGreatDoor
end
section
set_option linter.unusedVariables false
set_option linter.unusedSimpArgs false
set_option maxRecDepth 20000
set_option maxHeartbeats 8000000
set_option synthInstance.maxSize 1000000
set_option synthInstance.maxHeartbeats 400000
namespace Go.Proofs.YtbljnlkhebiniaaGreatDoor
open Go.RowKit
end Go.Proofs.YtbljnlkhebiniaaGreatDoor
end
section
set_option linter.unusedVariables false
set_option linter.unusedSimpArgs false
set_option maxRecDepth 20000
set_option maxHeartbeats 8000000
set_option synthInstance.maxSize 1000000
set_option synthInstance.maxHeartbeats 400000
namespace Go.Proofs.YtbljnlkhebiniaaGreatDoor
open Go.RowKit
end Go.Proofs.YtbljnlkhebiniaaGreatDoor
end
section
set_option linter.unusedVariables false
set_option linter.unusedSimpArgs false
set_option maxRecDepth 20000
set_option maxHeartbeats 8000000
set_option synthInstance.maxSize 1000000
set_option synthInstance.maxHeartbeats 400000
namespace Go.Proofs.YtbljnlkhebiniaaGreatDoor
open Go.RowKit
end Go.Proofs.YtbljnlkhebiniaaGreatDoor
end
section
set_option linter.unusedVariables false
set_option linter.unusedSimpArgs false
set_option maxRecDepth 20000
set_option maxHeartbeats 8000000
set_option synthInstance.maxSize 1000000
set_option synthInstance.maxHeartbeats 400000
namespace Go.Proofs.YtbljnlkhebiniaaGreatDoor
open Go.RowKit
end Go.Proofs.YtbljnlkhebiniaaGreatDoor
end
section
set_option linter.unusedVariables false
set_option linter.unusedSimpArgs false
set_option maxRecDepth 20000
set_option maxHeartbeats 8000000
set_option synthInstance.maxSize 1000000
set_option synthInstance.maxHeartbeats 400000
namespace Go.Proofs.YtbljnlkhebiniaaGreatDoor
open Go.RowKit
end Go.Proofs.YtbljnlkhebiniaaGreatDoor
end
section
set_option linter.unusedVariables false
set_option linter.unusedSimpArgs false
set_option maxRecDepth 20000
set_option maxHeartbeats 8000000
set_option synthInstance.maxSize 1000000
set_option synthInstance.maxHeartbeats 400000
namespace Go.Proofs.YtbljnlkhebiniaaGreatDoor
open Go.RowKit
end Go.Proofs.YtbljnlkhebiniaaGreatDoor
end
section
set_option linter.unusedVariables false
set_option linter.unusedSimpArgs false
set_option maxRecDepth 20000
set_option maxHeartbeats 8000000
set_option synthInstance.maxSize 1000000
set_option synthInstance.maxHeartbeats 400000
namespace Go.Proofs.YtbljnlkhebiniaaGreatDoor
open Go.RowKit
end Go.Proofs.YtbljnlkhebiniaaGreatDoor
end
section
set_option linter.unusedVariables false
set_option linter.unusedSimpArgs false
set_option maxRecDepth 20000
set_option maxHeartbeats 8000000
set_option synthInstance.maxSize 1000000
set_option synthInstance.maxHeartbeats 400000
namespace Go.Proofs.YtbljnlkhebiniaaGreatDoor
open Go.RowKit
end Go.Proofs.YtbljnlkhebiniaaGreatDoor
end
section
set_option linter.unusedVariables false
set_option linter.unusedSimpArgs false
set_option maxRecDepth 20000
set_option maxHeartbeats 8000000
set_option synthInstance.maxSize 1000000
set_option synthInstance.maxHeartbeats 400000
namespace Go.Proofs.YtbljnlkhebiniaaGreatDoor
open Go.RowKit
end Go.Proofs.YtbljnlkhebiniaaGreatDoor
end
section
set_option linter.unusedVariables false
set_option linter.unusedSimpArgs false
set_option maxRecDepth 20000
set_option maxHeartbeats 8000000
set_option synthInstance.maxSize 1000000
set_option synthInstance.maxHeartbeats 400000
namespace Go.Proofs.YtbljnlkhebiniaaGreatDoor
open Go.RowKit
end Go.Proofs.YtbljnlkhebiniaaGreatDoor
end
section
set_option linter.unusedVariables false
set_option linter.unusedSimpArgs false
set_option maxRecDepth 20000
set_option maxHeartbeats 8000000
set_option synthInstance.maxSize 1000000
set_option synthInstance.maxHeartbeats 400000
namespace Go.Proofs.YtbljnlkhebiniaaGreatDoor
open Go.RowKit
end Go.Proofs.YtbljnlkhebiniaaGreatDoor
end
section
set_option linter.unusedVariables false
set_option linter.unusedSimpArgs false
set_option maxRecDepth 20000
set_option maxHeartbeats 8000000
set_option synthInstance.maxSize 1000000
set_option synthInstance.maxHeartbeats 400000
namespace Go.Proofs.YtbljnlkhebiniaaGreatDoor
open Go.RowKit
end Go.Proofs.YtbljnlkhebiniaaGreatDoor
end
section
end
section
namespace Go.Graph
abbrev Fun:=Int×Int×ByteArray
abbrev Nd:=Int×Int×List Int×Fun×ByteArray×Int×Int
abbrev id (x:Nd):Int:=x.1
abbrev kind (x:Nd):Int:=x.2.1
abbrev ins (x:Nd):List Int:=x.2.2.1
abbrev fn (x:Nd):Fun:=x.2.2.2.1
abbrev name (x:Nd):ByteArray:=x.2.2.2.2.1
abbrev cap (x:Nd):Int:=x.2.2.2.2.2.1
def Few (g:List Nd):Prop:=g.length≤40∧∀x,x∈g→x.2.2.1.length≤5000∧x.2.2.2.2.1.size≤5000∧x.2.2.2.1.2.2.size≤5000
theorem Few.in {g:List Nd}{k:Nat}{x:Nd}(h:Few g)(hx:g[k]?=some x):x.2.2.1.length≤5000:=(h.2 x (List.mem_of_getElem? hx)).1
def insK (k:Int):Int:=if k<1∨16<k then-1 else if k=1 then 0 else if k=5∨k=9 then 2 else 1
def letter (c:UInt8):Bool:=decide ((97:Int)≤(c.toNat:Int)∧(c.toNat:Int)≤122∨(65:Int)≤(c.toNat:Int)∧(c.toNat:Int)≤90)
def digit (c:UInt8):Bool:=decide ((48:Int)≤(c.toNat:Int)∧(c.toNat:Int)≤57)
def wordy (l:List UInt8):Bool:=l.all fun c=>letter c||digit c
def named (s:ByteArray):Bool:=decide (s≠ByteArray.mk #[])&&decide ((s.size:Int)≤16)&&letter (Z.bat s 0)&&wordy s.data.toList
theorem drop_bat {s:ByteArray}{i:Nat}(h:i<s.size):s.data.toList.drop i=Z.bat s i::s.data.toList.drop (i+1):=by
 have h':i<s.data.toList.length:=by simpa using h
 rw[List.drop_eq_getElem_cons h']
 have h2:i<s.data.size:=h
 congr 1
 simp[Z.bat,Array.getElem?_eq_getElem h2]
theorem drop_end {s:ByteArray}{i:Nat}(h: ¬i<s.size):s.data.toList.drop i=[]:=
 List.drop_eq_nil_of_le (by have h1:s.data.toList.length=s.size:=rfl;omega)
theorem size_pos {s:ByteArray}(h:s≠ByteArray.mk #[]):0<s.size:=by
 rcases Nat.eq_zero_or_pos s.size with h0|h0
 ·have h1:s.data=#[]:=Array.eq_empty_of_size_eq_zero h0
  exact absurd (by cases s;simp_all) h
 ·exact h0
def idxF (id:Int):Nat→List Nd→Int
 |_,[]=> -1
 |k,x::r=>if x.1=id then(k:Int)else idxF id (k+1) r
def idx (g:List Nd)(id:Int):Int:=idxF id 0 g
def namedF (kd:Int)(s:ByteArray):List Nd→Int×Bool
 | []=>(0,false)
 |x::r=>if kind x=kd∧name x=s then(x.1,true)else namedF kd s r
def z0:Nd:=(0,0,[],(0,0,ByteArray.mk #[]),ByteArray.mk #[],0,0)
def at_ (g:List Nd)(i:Int):Nd:=(g[i.toNat]?).getD z0
def ownT (g:List Nd)(n:Nd):Bool:=if n.2.1≠1∧n.2.1≠15 then decide (n.2.2.2.2.1=ByteArray.mk #[])else named n.2.2.2.2.1&&decide ((namedF n.2.1 n.2.2.2.2.1 g).1=n.1)
def ownC (n:Nd):Prop:=n.2.1=14∧(n.2.2.2.2.2.1<1∨8<n.2.2.2.2.2.1∨n.2.2.2.2.2.2<1∨4<n.2.2.2.2.2.2)∨n.2.1≠14∧(n.2.2.2.2.2.1≠0∨n.2.2.2.2.2.2≠0)
instance (n:Nd):Decidable (ownC n):=by unfold ownC;infer_instance
def own (g:List Nd)(i:Int)(n:Nd):Bool:=
 if n.1<1∨255<n.1∨0<i∧n.1≤(at_ g (i-1)).1∨insK n.2.1<0∨(n.2.2.1.length:Int)≠insK n.2.1 then false else if ownC n then false else ownT g n
def bget (l:List Bool)(i:Int):Bool:=(l[i.toNat]?).getD false
def iget (l:List Int)(i:Int):Int:=(l[i.toNat]?).getD 0
def readyF (g:List Nd)(done:List Bool)(kd:Int):List Int→Bool
 | []=>true
 |k::r=>if kd≠14∧bget done (idx g k)=false then false else readyF g done kd r
def ready (g:List Nd)(done:List Bool)(n:Nd):Bool:=readyF g done n.2.1 n.2.2.1
def d0:List Int→Int
 | []=>0
 |a::_=>a
abbrev inD (g:List Nd) (d:List Int) (l:List Int):List Int:=l.map fun k=>iget d (idx g k)
def InB (d:List Int):Prop:=∀i,0≤iget d i∧iget d i≤4
theorem InB.rep (n:Nat):InB (List.replicate n 0):=fun i=>by
 unfold iget;rw[List.getElem?_replicate];split<;>simp
theorem InB.set {d:List Int}(h:InB d)(p:Nat){v:Int}(h0:0≤v)(h1:v≤4):InB (d.set p v):=fun i=>by
 unfold iget;rw[List.getElem?_set]
 have:=h i
 unfold iget at this
 split
 ·split<;>simp<;>omega
 ·exact this
theorem InB.d0 {d:List Int}(h:InB d)(g:List Nd)(l:List Int): -1≤Graph.d0 (inD g d l)∧Graph.d0 (inD g d l)≤4:=by
 cases l with
 |nil=>simp[Graph.d0]
 |cons k r=>have:=h (idx g k);simp only[inD,List.map_cons,Graph.d0];omega
theorem width_pos (s:ByteArray)(pos:Nat):1≤(Utf8.decode s pos).2:=by
 unfold Utf8.decode;simp only[];repeat' split
 all_goals first|exact Nat.le_refl 1|(simp;done)|omega
def numberF (f:Fun):Bool:=if f.1=3∨f.1=13 then decide (0≤f.2.1∧f.2.1≤64)else if f.1=6∨f.1=11 then decide (1≤f.2.1∧f.2.1≤1048576)else decide (f.2.1=0)
def tail5 (c:UInt8):Bool:=decide (128≤(c.toNat:Int)∧(c.toNat:Int)≤191)
def second (s:ByteArray)(i:Nat):UInt8:=if i+1<s.size then Z.bat s (i+1)else 0
end Go.Graph
end
section
set_option linter.unusedVariables false
set_option linter.unusedSimpArgs false
namespace Go.A
open Go.Z
theorem r64n {n:Nat}(h:n<4611686018427387904):R64 ((n:Int)+1):=⟨by omega,by omega⟩
theorem gd1 {α:Type}{p:Prop}[Decidable p](h:p)(x:Option α):gd p x=x:=if_pos h
theorem ixn {α:Type}{xs:List α}{k:Nat}{x:α}(h:xs[k]?=some x):ix xs (k:Int)=some x:=by rw[ix_nat];exact h
theorem dropx {α:Type}{xs:List α}{k:Nat}{x:α}(h:xs[k]?=some x):xs.drop k=x::xs.drop (k+1):=by
 obtain⟨h1,h2⟩:=List.getElem?_eq_some_iff.1 h
 rw[List.drop_eq_getElem_cons h1,h2]
theorem ba {p q:Prop}[Decidable p][Decidable q]:(bif decide p then decide q else false)=decide (p∧q):=by by_cases h:p<;>simp[h]
theorem bo {p q:Prop}[Decidable p][Decidable q]:(bif decide p then true else decide q)=decide (p∨q):=by by_cases h:p<;>simp[h]
theorem bn {p:Prop}[Decidable p]:(!decide p)=decide (¬p):=by by_cases h:p<;>simp[h]
theorem lp {α σ ρ:Type}(xs:List α)(L:Nat→σ→Int→Option ρ)(G:Nat→List α→σ→Option ρ)(P:Nat→σ→Prop)
  (h0: ∀f s,P xs.length s→L (f+1) s (xs.length:Int)=G xs.length [] s)
  (h1: ∀f s (k:Nat) x,xs[k]?=some x→k<xs.length→P k s→(∀s',P (k+1) s'→L f s' ((k:Int)+1)=G (k+1) (xs.drop (k+1)) s')→L (f+1) s k=G k (x::xs.drop (k+1)) s)
  (hl:xs.length<FU) (s:σ) (hs:P 0 s):L FU s 0=G 0 xs s:=by
 have main: ∀(n k f:Nat) (s:σ),k+n=xs.length→n<f→P k s→L f s (k:Int)=G k (xs.drop k) s:=by
  intro n
  induction n with
  |zero=>
   intro k f s hk hf hp
   obtain⟨f,rfl⟩: ∃f',f=f'+1:=⟨f-1,by omega⟩
   obtain rfl:k=xs.length:=by omega
   rw[List.drop_eq_nil_of_le (Nat.le_refl _)];exact h0 f s hp
  |succ n ih=>
   intro k f s hk hf hp
   obtain⟨f,rfl⟩: ∃f',f=f'+1:=⟨f-1,by omega⟩
   have hx:xs[k]?=some xs[k]:=List.getElem?_eq_getElem (by omega)
   rw[dropx hx]
   exact h1 f s k _ hx (by omega) hp fun s' hp'=>ih (k+1) f s' (by omega) (by omega) hp'
 have:=main xs.length 0 FU s (by omega) hl hs
 simpa using this
theorem lp0 {α ρ:Type}(xs:List α)(L:Nat→Int→Option ρ)(G:Nat→List α→Option ρ)
  (h0: ∀f,L (f+1) (xs.length:Int)=G xs.length [])
  (h1: ∀f (k:Nat) x,xs[k]?=some x→k<xs.length→L f ((k:Int)+1)=G (k+1) (xs.drop (k+1))→L (f+1) k=G k (x::xs.drop (k+1)))
  (hl:xs.length<FU):L FU 0=G 0 xs:=
 lp xs (fun f (_:Unit) y=>L f y) (fun k l _=>G k l) (fun _ _=>True) (fun f s _=>h0 f) (fun f s k x hx hk _ ih=>h1 f k x hx hk (ih () trivial)) hl () trivial
end Go.A
namespace Go.Proofs.YtbljnlkhebiniaaGreatDoor
open Go.RowKit Go.Graph
theorem FU_big:(18446744073709551616:Nat)<A.FU:=by decide
theorem ixb {s:ByteArray}{k:Nat}(h:k<s.size):A.ix s.data.toList (k:Int)=some (Z.bat s k):=by
 refine A.ixn ?_
 have:=drop_bat h
 rw[←List.head?_drop,this];rfl
theorem size_list (s:ByteArray):s.data.toList.length=s.size:=rfl
end Go.Proofs.YtbljnlkhebiniaaGreatDoor
end
section
set_option linter.unusedVariables false
set_option linter.unusedSimpArgs false
namespace Go.Proofs.YtbljnlkhebiniaaGreatDoor
open Go.RowKit Go.Graph
theorem bat_get (s:ByteArray)(i:Nat):(s.get! i)=Z.bat s i:=by
 cases s;simp[ByteArray.get!,Z.bat,getElem!_def,Option.getD]
 rfl
theorem dec_at (s:ByteArray)(i:Nat):Utf8.decode s i=Lib.decodeN (s.size-i) (Z.bat s i).toNat (Z.bat s (i+1)).toNat (Z.bat s (i+2)).toNat (Z.bat s (i+3)).toNat:=by
 rw[Lib.decode_at,bat_get,bat_get,bat_get,bat_get]
end Go.Proofs.YtbljnlkhebiniaaGreatDoor
end
section
set_option maxRecDepth 20000
set_option linter.unusedVariables false
set_option linter.unusedSimpArgs false
namespace Go.Proofs.YtbljnlkhebiniaaGreatDoor
open Go.RowKit Go.Graph
theorem tail_eq (c:UInt8):F.R05_tail c=some (tail5 c):=by
 unfold F.R05_tail tail5
 by_cases h1:(128:Int)≤(c.toNat:Int)<;>by_cases h2:(c.toNat:Int)≤191<;>simp[h1,h2]
theorem ixk (s:ByteArray)(p k:Nat):A.ix s.data.toList ((p:Int)+(k:Int))=if p+k<s.size then some (Z.bat s (p+k))else none:=by
 have e:(p:Int)+(k:Int)=((p+k:Nat):Int):=by omega
 rw[e]
 by_cases h:p+k<s.size
 ·rw[if_pos h];exact ixb h
 ·rw[if_neg h,A.ix_nat];exact List.getElem?_eq_none (by rw[size_list];omega)
def wid (s:ByteArray)(p:Nat):Nat:=if Utf8.decode s p=(65533,1)then 0 else(Utf8.decode s p).2
theorem wid_le {s:ByteArray}{p:Nat}(h:p<s.size):p+wid s p≤s.size:=by
 unfold wid
 split
 ·omega
 ·rw[dec_at]
  unfold Lib.decodeN
  repeat' split
  all_goals simp only[]
  all_goals omega
def widN (n a b c d:Nat):Nat:=
 if a<128 then 1
 else if(194≤a∧a≤223)∧2≤n∧(128≤b∧b≤191)then 2
 else if(224≤a∧a≤239)∧3≤n∧(128≤b∧b≤191)∧(128≤c∧c≤191)∧¬(a=224∧b<160)∧¬(a=237∧159<b)then 3
 else if(240≤a∧a≤244)∧4≤n∧(128≤b∧b≤191)∧(128≤c∧c≤191)∧(128≤d∧d≤191)∧¬(a=240∧b<144)∧¬(a=244∧143<b)then 4
 else 0
theorem pq (c:Prop)[Decidable c](x w:Nat)(hw:w≠1):(if(if c then(x,w)else(65533,1))=(65533,1)then 0 else(if c then(x,w)else(65533,1)).2)=if c then w else 0:=by
 by_cases h:c<;>simp[h,hw]
theorem widN_eq (n a b c d:Nat)(ha:a<256)(hb:b<256)(hc:c<256)(hd:d<256):(if Lib.decodeN n a b c d=(65533,1)then 0 else(Lib.decodeN n a b c d).2)=widN n a b c d:=by
 unfold Lib.decodeN widN
 by_cases h0:a<128
 ·simp only[h0,if_true,Prod.mk.injEq];rw[if_neg (by omega)]
 ·simp only[h0,if_false]
  by_cases h1:a / 32=6∧1<n∧b / 64=2
  ·simp only[if_pos h1]
   rw[pq _ _ _ (by decide)]
   repeat' split
   all_goals omega
  ·simp only[if_neg h1]
   by_cases h3:a / 16=14∧(1<n∧b / 64=2)∧2<n∧c / 64=2
   ·simp only[if_pos h3]
    rw[pq _ _ _ (by decide)]
    repeat' split
    all_goals omega
   ·simp only[if_neg h3]
    by_cases h5:a / 8=30∧(1<n∧b / 64=2)∧(2<n∧c / 64=2)∧3<n∧d / 64=2
    ·simp only[if_pos h5]
     rw[pq _ _ _ (by decide)]
     repeat' split
     all_goals omega
    ·simp only[if_neg h5,if_true]
     repeat' split
     all_goals omega
theorem wid_N (s:ByteArray)(p:Nat):wid s p=widN (s.size-p) (Z.bat s p).toNat (Z.bat s (p+1)).toNat (Z.bat s (p+2)).toNat (Z.bat s (p+3)).toNat:=by
 rw[←widN_eq _ _ _ _ _ (UInt8.toNat_lt _) (UInt8.toNat_lt _) (UInt8.toNat_lt _) (UInt8.toNat_lt _),←dec_at];rfl
theorem cnd {α:Type}{p:Prop}[Decidable p](x y:α):(bif decide p then x else y)=if p then x else y:=by by_cases h:p<;>simp[h]
set_option maxHeartbeats 4000000 in
theorem width_eq (s:ByteArray)(p:Nat)(hp:p<s.size)(hs:s.size≤5000):F.R05_width s p=some (wid s p:Int):=by
 have i1:A.ix s.data.toList ((p:Int)+1)=if p+1<s.size then some (Z.bat s (p+1))else none:=ixk s p 1
 have i2:A.ix s.data.toList ((p:Int)+2)=if p+2<s.size then some (Z.bat s (p+2))else none:=ixk s p 2
 have i3:A.ix s.data.toList ((p:Int)+3)=if p+3<s.size then some (Z.bat s (p+3))else none:=ixk s p 3
 have r1:Z.R64 ((p:Int)+1):=⟨by omega,by omega⟩
 have r2:Z.R64 ((p:Int)+2):=⟨by omega,by omega⟩
 have r3:Z.R64 ((p:Int)+3):=⟨by omega,by omega⟩
 unfold F.R05_width
 rw[A.gd1 ⟨by omega,by omega⟩,ixb hp,Option.bind_some,A.gd1 r1,i1,wid_N]
 generalize Z.bat s p=c0 at*
 generalize Z.bat s (p+1)=c1 at*
 generalize Z.bat s (p+2)=c2 at*
 generalize Z.bat s (p+3)=c3 at*
 have t (c:UInt8):tail5 c=decide (128≤c.toNat∧c.toNat≤191):=by unfold tail5;congr 1;exact propext ⟨fun h=>by omega,fun h=>by omega⟩
 by_cases h1:(1:Int)<(s.size:Int)-(p:Int)
 ·rw[if_pos h1,if_pos (by omega),Option.bind_some]
  simp only[F.R05_width_j4,F.R05_width_j3,F.R05_width_j2,F.R05_width_j1,tail_eq,Option.bind_some,t,A.gd1 r2,A.gd1 r3,i2,i3]
  unfold widN
  generalize hn:s.size-p=n
  have e2:((2:Int)≤(s.size:Int)-(p:Int))=(2≤n):=propext ⟨fun h=>by omega,fun h=>by omega⟩
  have e3:((3:Int)≤(s.size:Int)-(p:Int))=(3≤n):=propext ⟨fun h=>by omega,fun h=>by omega⟩
  have e4:((4:Int)≤(s.size:Int)-(p:Int))=(4≤n):=propext ⟨fun h=>by omega,fun h=>by omega⟩
  have f2:(p+2<s.size)=(3≤n):=propext ⟨fun h=>by omega,fun h=>by omega⟩
  have f3:(p+3<s.size)=(4≤n):=propext ⟨fun h=>by omega,fun h=>by omega⟩
  have hn2:2≤n:=by omega
  simp only[e2,e3,e4,f2,f3,A.ba,decide_eq_true_eq,hn2,and_true,true_and]
  have q0:((c0.toNat:Int)<128)=(c0.toNat<128):=propext ⟨fun h=>by omega,fun h=>by omega⟩
  have q1:((194:Int)≤(c0.toNat:Int)∧(c0.toNat:Int)≤223)=(194≤c0.toNat∧c0.toNat≤223):=propext ⟨fun h=>by omega,fun h=>by omega⟩
  have q2:((224:Int)≤(c0.toNat:Int)∧(c0.toNat:Int)≤239)=(224≤c0.toNat∧c0.toNat≤239):=propext ⟨fun h=>by omega,fun h=>by omega⟩
  have q3:((240:Int)≤(c0.toNat:Int)∧(c0.toNat:Int)≤244)=(240≤c0.toNat∧c0.toNat≤244):=propext ⟨fun h=>by omega,fun h=>by omega⟩
  have q4:((c0.toNat:Int)=224∧(c1.toNat:Int)<160)=(c0.toNat=224∧c1.toNat<160):=propext ⟨fun h=>by omega,fun h=>by omega⟩
  have q5:((c0.toNat:Int)=237∧(159:Int)<(c1.toNat:Int))=(c0.toNat=237∧159<c1.toNat):=propext ⟨fun h=>by omega,fun h=>by omega⟩
  have q6:((c0.toNat:Int)=240∧(c1.toNat:Int)<144)=(c0.toNat=240∧c1.toNat<144):=propext ⟨fun h=>by omega,fun h=>by omega⟩
  have q7:((c0.toNat:Int)=244∧(143:Int)<(c1.toNat:Int))=(c0.toNat=244∧143<c1.toNat):=propext ⟨fun h=>by omega,fun h=>by omega⟩
  simp only[q0,q1,q2,q3,q4,q5,q6,q7]
  have x1:240≤c0.toNat∧c0.toNat≤244→¬(224≤c0.toNat∧c0.toNat≤239):=fun h h2=>by omega
  have x2:240≤c0.toNat∧c0.toNat≤244→¬(194≤c0.toNat∧c0.toNat≤223):=fun h h2=>by omega
  have x3:224≤c0.toNat∧c0.toNat≤239→¬(194≤c0.toNat∧c0.toNat≤223):=fun h h2=>by omega
  by_cases K0:c0.toNat<128
  ·simp[K0]
  by_cases m1:128≤c1.toNat∧c1.toNat≤191
  ·by_cases K1:194≤c0.toNat∧c0.toNat≤223
   ·simp only[if_neg K0,if_pos K1,if_pos m1,K1,m1,and_self,if_true];rfl
   ·by_cases K2:224≤c0.toNat∧c0.toNat≤239
    ·have K3: ¬(240≤c0.toNat∧c0.toNat≤244):=fun h=>x1 h K2
     by_cases k3:3≤n
     ·by_cases m2:128≤c2.toNat∧c2.toNat≤191
      ·by_cases y1:c0.toNat=224∧c1.toNat<160
       ·simp only[if_neg K0,if_neg K1,if_pos (And.intro K2 k3),if_pos m1,if_pos k3,Option.bind_some,if_pos m2,eq_true y1,if_true,false_and,K1,K3,eq_true y1,not_true_eq_false,and_false,if_false];rfl
       ·by_cases y2:c0.toNat=237∧159<c1.toNat
        ·simp only[if_neg K0,if_neg K1,if_pos (And.intro K2 k3),if_pos m1,if_pos k3,Option.bind_some,if_pos m2,if_neg y1,eq_true y2,if_true,false_and,K1,K3,eq_true y2,not_true_eq_false,and_false,if_false];rfl
        ·simp only[if_neg K0,if_neg K1,if_pos (And.intro K2 k3),if_pos m1,if_pos k3,Option.bind_some,if_pos m2,if_neg y1,if_neg y2,false_and,K1,K2,k3,m1,m2,y1,y2,not_false_eq_true,and_self,if_true,if_false];rfl
      ·simp only[if_neg K0,if_neg K1,if_pos (And.intro K2 k3),if_pos m1,if_pos k3,Option.bind_some,if_neg m2,if_neg K3,false_and,K1,K3,m2,and_false,if_false,Bool.false_eq_true];rfl
     ·simp only[if_neg K0,if_neg K1,k3,and_false,if_neg K3,false_and,K1,K3,if_false];rfl
    ·by_cases K3:240≤c0.toNat∧c0.toNat≤244
     ·by_cases k4:4≤n
      ·have k3:3≤n:=by omega
       by_cases m2:128≤c2.toNat∧c2.toNat≤191
       ·by_cases m3:128≤c3.toNat∧c3.toNat≤191
        ·by_cases y1:c0.toNat=240∧c1.toNat<144
         ·simp only[if_neg K0,if_neg K1,if_neg K2,K2,false_and,if_pos (And.intro K3 k4),if_pos m1,if_pos k3,if_pos k4,Option.bind_some,if_pos m2,if_pos m3,eq_true y1,if_true,K1,eq_true y1,not_true_eq_false,and_false,if_false];rfl
         ·by_cases y2:c0.toNat=244∧143<c1.toNat
          ·simp only[if_neg K0,if_neg K1,if_neg K2,K2,false_and,if_pos (And.intro K3 k4),if_pos m1,if_pos k3,if_pos k4,Option.bind_some,if_pos m2,if_pos m3,if_neg y1,eq_true y2,if_true,K1,eq_true y2,not_true_eq_false,and_false,if_false];rfl
          ·simp only[if_neg K0,if_neg K1,if_neg K2,K2,false_and,if_pos (And.intro K3 k4),if_pos m1,if_pos k3,if_pos k4,Option.bind_some,if_pos m2,if_pos m3,if_neg y1,if_neg y2,K1,K3,k4,m1,m2,m3,y1,y2,not_false_eq_true,and_self,if_true,if_false];rfl
        ·simp only[if_neg K0,if_neg K1,if_neg K2,K2,false_and,if_pos (And.intro K3 k4),if_pos m1,if_pos k3,if_pos k4,Option.bind_some,if_pos m2,if_neg m3,K1,m3,and_false,if_false,Bool.false_eq_true];rfl
       ·simp only[if_neg K0,if_neg K1,if_neg K2,K2,false_and,if_pos (And.intro K3 k4),if_pos m1,if_pos k3,Option.bind_some,if_neg m2,K1,m2,and_false,if_false,Bool.false_eq_true];rfl
      ·simp only[if_neg K0,if_neg K1,if_neg K2,K2,false_and,k4,and_false,K1,if_false];rfl
     ·simp only[if_neg K0,if_neg K1,if_neg K2,if_neg K3,K1,K2,K3,false_and,if_false];rfl
  ·simp[K0,m1]
 ·rw[if_neg h1]
  simp only[F.R05_width_j4,F.R05_width_j3,F.R05_width_j2,F.R05_width_j1,A.ba,decide_eq_true_eq]
  unfold widN
  have w0:(c0.toNat:Int)<128↔c0.toNat<128:=⟨fun h=>by omega,fun h=>by omega⟩
  by_cases h2:c0.toNat<128
  ·rw[if_pos (w0.2 h2),if_pos h2];rfl
  ·have a1: ¬((194≤c0.toNat∧c0.toNat≤223)∧2≤s.size-p∧128≤c1.toNat∧c1.toNat≤191):=fun h=>by omega
   have a2: ¬((224≤c0.toNat∧c0.toNat≤239)∧3≤s.size-p∧(128≤c1.toNat∧c1.toNat≤191)∧(128≤c2.toNat∧c2.toNat≤191)∧¬(c0.toNat=224∧c1.toNat<160)∧¬(c0.toNat=237∧159<c1.toNat)):=fun h=>by omega
   have a3: ¬((240≤c0.toNat∧c0.toNat≤244)∧4≤s.size-p∧(128≤c1.toNat∧c1.toNat≤191)∧(128≤c2.toNat∧c2.toNat≤191)∧(128≤c3.toNat∧c3.toNat≤191)∧¬(c0.toNat=240∧c1.toNat<144)∧¬(c0.toNat=244∧143<c1.toNat)):=fun h=>by omega
   rw[if_neg (fun h=>h2 (w0.1 h)),if_neg h2,if_neg a1,if_neg a2,if_neg a3]
   simp only[Bool.false_eq_true,if_false]
   rw[if_neg (fun h=>by omega),if_neg (fun h=>by omega),if_neg (fun h=>by omega)];rfl
def vld (s:ByteArray):Nat→Nat→Bool
 |0,_=>true
 |n+1,p=>if p<s.size then(if wid s p=0 then false else vld s n (p+wid s p))else true
def cnt (s:ByteArray):Nat→Nat→Nat
 |0,_=>0
 |n+1,p=>if p<s.size then 1+cnt s n (p+(Utf8.decode s p).2)else 0
theorem wid_4 (s:ByteArray)(p:Nat):wid s p≤4:=by
 rw[wid_N];unfold widN;repeat' split
 all_goals omega
theorem wid_dec {s:ByteArray}{p:Nat}(h:wid s p≠0):(Utf8.decode s p).2=wid s p:=by
 unfold wid at h ⊢;split at h
 ·exact absurd rfl h
 ·rename_i h2;rw[if_neg h2]
theorem Valid_eq (s:ByteArray)(hs:s.size≤5000):F.R05_Valid s=some (vld s s.size 0):=by
 have loop: ∀(n p f:Nat),s.size-p≤n→n<f→p≤5010→F.R05_Valid_l1 s f (p:Int)=some (vld s n p):=by
  intro n
  induction n with
  |zero=>
   intro p f hp hf _
   obtain⟨f,rfl⟩: ∃f',f=f'+1:=⟨f-1,by omega⟩
   rw[F.R05_Valid_l1,if_neg (by omega)];rfl
  |succ n ih=>
   intro p f hp hf hp5
   obtain⟨f,rfl⟩: ∃f',f=f'+1:=⟨f-1,by omega⟩
   rw[F.R05_Valid_l1,vld]
   by_cases h:p<s.size
   ·rw[if_pos (by omega),if_pos h,width_eq s p h hs,Option.bind_some]
    have:=wid_le h
    by_cases hw:wid s p=0
    ·rw[if_pos (by omega),if_pos hw]
    ·rw[if_neg (by omega),if_neg hw,A.gd1 ⟨by omega,by omega⟩]
     have e:(p:Int)+(wid s p:Int)=((p+wid s p:Nat):Int):=by omega
     rw[e];exact ih _ f (by omega) (by omega) (by omega)
   ·rw[if_neg (by omega),if_neg h]
 exact loop s.size 0 A.FU (by omega) (by have:=FU_big;omega) (by omega)
theorem validD_eq (s:ByteArray):Lib.validD s.data.toList=vld s s.size 0:=by
 have loop: ∀(n p:Nat),Lib.validGoD n (s.data.toList.drop p)=vld s n p:=by
  intro n
  induction n with
  |zero=>intro p;rfl
  |succ n ih=>
   intro p
   rw[Lib.validGoD,vld]
   by_cases h:p<s.size
   ·have hne:s.data.toList.drop p≠[]:=by rw[drop_bat h];simp
    rw[if_neg hne,if_pos h,Lib.decodeL_drop,List.drop_drop]
    by_cases hw:Utf8.decode s p=(65533,1)
    ·rw[if_pos (by rw[hw];exact⟨rfl,rfl⟩),if_pos (by unfold wid;rw[if_pos hw])]
    ·have e:wid s p=(Utf8.decode s p).2:=by unfold wid;rw[if_neg hw]
     rw[if_neg (fun h2=>hw (Prod.ext h2.1 h2.2)),if_neg (by rw[e];have:=width_pos s p;omega),ih,e]
   ·rw[if_pos (drop_end h),if_neg h]
 have:=loop s.size 0
 rw[List.drop_zero]at this
 exact this
theorem Runes_eq (s:ByteArray)(hs:s.size≤5000)(hv:vld s s.size 0=true): ∃l,F.R05_Runes s=some l∧l.length=cnt s s.size 0:=by
 have loop: ∀(n p f:Nat) (xs:List (Int×Int)),s.size-p≤n→n<f→xs.length≤p→p≤5010→vld s n p=true→∃l,F.R05_Runes_l2 s f xs (p:Int)=some l∧l.length=xs.length+cnt s n p:=by
  intro n
  induction n with
  |zero=>
   intro p f xs hp hf _ _ _
   obtain⟨f,rfl⟩: ∃f',f=f'+1:=⟨f-1,by omega⟩
   rw[F.R05_Runes_l2,if_neg (by omega)];exact⟨_,rfl,rfl⟩
  |succ n ih=>
   intro p f xs hp hf hxs hp5 hv
   obtain⟨f,rfl⟩: ∃f',f=f'+1:=⟨f-1,by omega⟩
   rw[F.R05_Runes_l2]
   rw[vld]at hv
   rw[cnt]
   by_cases h:p<s.size
   ·rw[if_pos h]at hv
    have hl:=wid_le h
    have h4:=wid_4 s p
    by_cases hw:wid s p=0
    ·rw[if_pos hw]at hv;cases hv
    rw[if_neg hw]at hv
    have hj: ∀(w c:Int),w=(wid s p:Int)→∃l,F.R05_Runes_j1 (F.R05_Runes_l2 s f) xs (p:Int) w c=some l∧l.length=xs.length+(1+cnt s n (p+(Utf8.decode s p).2)):=fun w c hwc=>by
     subst hwc
     rw[F.R05_Runes_j1,A.gd1 (by simp only[List.length_cons,List.length_nil];omega),A.gd1 ⟨by omega,by omega⟩,wid_dec hw]
     have e:(p:Int)+(wid s p:Int)=((p+wid s p:Nat):Int):=by omega
     rw[e]
     obtain⟨l,h1,h2⟩:=ih (p+wid s p) f (xs++[((p:Int),c)]) (by omega) (by omega) (by simp only[List.length_append,List.length_cons,List.length_nil];omega) (by omega) hv
     exact⟨l,h1,by rw[h2,List.length_append];simp only[List.length_cons,List.length_nil];omega⟩
    have i0:=ixb (s:=s) h
    have i1:A.ix s.data.toList ((p:Int)+1)=if p+1<s.size then some (Z.bat s (p+1))else none:=ixk s p 1
    have i2:A.ix s.data.toList ((p:Int)+2)=if p+2<s.size then some (Z.bat s (p+2))else none:=ixk s p 2
    have i3:A.ix s.data.toList ((p:Int)+3)=if p+3<s.size then some (Z.bat s (p+3))else none:=ixk s p 3
    have r1:Z.R64 ((p:Int)+1):=⟨by omega,by omega⟩
    have r2:Z.R64 ((p:Int)+2):=⟨by omega,by omega⟩
    have r3:Z.R64 ((p:Int)+3):=⟨by omega,by omega⟩
    rw[if_pos (by omega),if_pos h,width_eq s p h hs,Option.bind_some]
    by_cases w1:wid s p=1
    ·rw[if_pos (by omega),i0,Option.bind_some];exact hj _ _ rfl
    rw[if_neg (by omega)]
    by_cases w2:wid s p=2
    ·rw[if_pos (by omega),A.gd1 r1,i0,Option.bind_some,A.gd1 (by decide),i1,if_pos (by omega),Option.bind_some,A.gd1 (by decide)];exact hj _ _ rfl
    rw[if_neg (by omega)]
    by_cases w3:wid s p=3
    ·rw[if_pos (by omega),A.gd1 ⟨r1,r2⟩,i0,Option.bind_some,A.gd1 (by decide),i1,if_pos (by omega),Option.bind_some,A.gd1 (by decide),i2,if_pos (by omega),Option.bind_some,A.gd1 (by decide)];exact hj _ _ rfl
    rw[if_neg (by omega),if_pos (by omega),A.gd1 ⟨r1,r2,r3⟩,i0,Option.bind_some,A.gd1 (by decide),i1,if_pos (by omega),Option.bind_some,A.gd1 (by decide),i2,if_pos (by omega),Option.bind_some,A.gd1 (by decide),i3,if_pos (by omega),Option.bind_some,A.gd1 (by decide)];exact hj _ _ rfl
   ·rw[if_neg (by omega),if_neg h];exact⟨_,rfl,rfl⟩
 obtain⟨l,h1,h2⟩:=loop s.size 0 A.FU [] (by omega) (by have:=FU_big;omega) (by simp) (by omega) hv
 exact⟨l,h1,by simpa using h2⟩
theorem single_eq (s:ByteArray)(hs:s.size≤9223372036854775807):F.fn_single s=some (if cnt s s.size 0=1 then vld s s.size 0 else false):=by
 have loop: ∀(n p f:Nat) (y:Int),s.size-p≤n→n<f→0≤y→y+n≤9223372036854775807→F.fn_single_l2 s f p y=some (if y+(cnt s n p:Int)=1 then vld s s.size 0 else false):=by
  intro n
  induction n with
  |zero=>
   intro p f y hp hf _ _
   obtain⟨f,rfl⟩: ∃f',f=f'+1:=⟨f-1,by omega⟩
   rw[F.fn_single_l2,if_neg (by omega),F.utf8_ValidString,validD_eq,Option.bind_some]
   simp only[F.fn_single_j1]
   have e:y+(cnt s 0 p:Int)=y:=by rw[cnt];omega
   by_cases h:y=1
   ·rw[if_pos h,if_pos (by omega)]
   ·rw[if_neg h,if_neg (by omega)]
  |succ n ih=>
   intro p f y hp hf h0 h2
   obtain⟨f,rfl⟩: ∃f',f=f'+1:=⟨f-1,by omega⟩
   rw[F.fn_single_l2,cnt]
   by_cases h:p<s.size
   ·rw[if_pos h,if_pos h,A.gd1 ⟨by omega,by omega⟩]
    have hw:=width_pos s p
    rw[ih _ f (y+1) (by omega) (by omega) (by omega) (by omega)]
    congr 2
    exact propext ⟨fun h=>by omega,fun h=>by omega⟩
   ·rw[if_neg h,if_neg h,F.utf8_ValidString,validD_eq,Option.bind_some]
    simp only[F.fn_single_j1]
    by_cases h:y=1
    ·rw[if_pos h,if_pos (by omega)]
    ·rw[if_neg h,if_neg (by omega)]
 unfold F.fn_single
 rw[loop s.size 0 A.FU 0 (by omega) (by have:=FU_big;omega) (by omega) (by omega)]
 congr 2
 exact propext ⟨fun h=>by omega,fun h=>by omega⟩
theorem one_small {s:ByteArray}(h1:cnt s s.size 0=1)(h2:vld s s.size 0=true):s.size≤4:=by
 generalize hn:s.size=n at h1 h2
 cases n with
 |zero=>omega
 |succ n=>
  rw[cnt,if_pos (by omega)]at h1
  rw[vld,if_pos (by omega)]at h2
  by_cases hw:wid s 0=0
  ·rw[if_pos hw]at h2;cases h2
  rw[wid_dec hw]at h1
  have:=wid_4 s 0
  cases n with
  |zero=>omega
  |succ n=>
   rw[cnt]at h1
   by_cases h3:0+wid s 0<s.size
   ·rw[if_pos h3]at h1;omega
   ·omega
end Go.Proofs.YtbljnlkhebiniaaGreatDoor
end
section
set_option linter.unusedVariables false
set_option linter.unusedSimpArgs false
namespace Go.Proofs.YtbljnlkhebiniaaGreatDoor
open Go.RowKit Go.Graph
def textP (f:Fun):Bool:=if f.1=5 then decide (f.2.2≠ByteArray.mk #[])&&decide ((f.2.2.size:Int)≤16)&&vld f.2.2 f.2.2.size 0 else if f.1=12∨f.1=22 then decide (cnt f.2.2 f.2.2.size 0=1)&&vld f.2.2 f.2.2.size 0 else decide (f.2.2=ByteArray.mk #[])
theorem number_eq (f:Fun):F.fn_number f=some (numberF f):=by
 unfold F.fn_number F.fn_number_j2 F.fn_number_j1 numberF
 simp only[A.ba,decide_eq_true_eq]
 by_cases h3:f.1=3
 ·simp[h3]
 ·by_cases h13:f.1=13
  ·simp[h13]
  ·by_cases h6:f.1=6
   ·simp[h6]
   ·by_cases h11:f.1=11<;>simp[h3,h13,h6,h11]
theorem R06_number_eq (f:Fun):F.R06_number f=some (numberF f):=number_eq f
theorem text_eq (f:Fun)(hs:f.2.2.size≤9223372036854775807):F.fn_text f=some (textP f):=by
 unfold F.fn_text textP
 simp only[F.fn_text_j1,F.fn_text_j2,A.ba,single_eq _ hs,F.utf8_ValidString,validD_eq,Option.bind_some,decide_eq_true_eq]
 by_cases h5:f.1=5
 ·simp only[h5,if_true]
  by_cases h1:f.2.2=ByteArray.mk #[]<;>by_cases h2:(f.2.2.size:Int)≤16<;>simp[h1,h2]
 ·by_cases h12:f.1=12
  ·simp[h12]
  ·by_cases h22:f.1=22<;>simp[h5,h12,h22]
theorem one_le {s:ByteArray}:(1:Int)≤(s.size:Int)↔s≠ByteArray.mk #[]:=by
 constructor
 ·intro h e;subst e;exact absurd h (by decide)
 ·intro h;have:=size_pos h;omega
theorem R06_text_eq (f:Fun)(hs:f.2.2.size≤5000):F.R06_text f=some (textP f):=by
 have hj: ∀y,F.R06_text_j3 f y=some (if y=true then decide (cnt f.2.2 f.2.2.size 0=1)&&vld f.2.2 f.2.2.size 0 else decide (f.2.2=ByteArray.mk #[])):=by
  intro y
  unfold F.R06_text_j3
  simp only[F.R06_text_j2,Valid_eq _ hs,Option.bind_some]
  cases y with
  |false=>simp
  |true=>
   simp only[if_true]
   by_cases h4:(f.2.2.size:Int)≤4
   ·rw[if_pos h4]
    cases hv:vld f.2.2 f.2.2.size 0 with
    |true=>
     obtain⟨l,h1,h2⟩:=Runes_eq f.2.2 hs hv
     rw[if_pos rfl,h1,Option.bind_some,Bool.and_true]
     congr 2
     rw[h2];exact propext ⟨fun h=>by omega,fun h=>by omega⟩
    |false=>simp
   ·rw[if_neg h4]
    congr 1
    cases hv:vld f.2.2 f.2.2.size 0 with
    |false=>simp
    |true=>
     by_cases h1:cnt f.2.2 f.2.2.size 0=1
     ·have:=one_small h1 hv;omega
     ·simp[h1]
 unfold F.R06_text textP
 simp only[F.R06_text_j1,hj,A.ba,Valid_eq _ hs,Option.bind_some,decide_eq_true_eq,one_le]
 by_cases h5:f.1=5
 ·simp only[h5,if_true]
  by_cases h1:f.2.2=ByteArray.mk #[]<;>by_cases h2:(f.2.2.size:Int)≤16<;>simp[h1,h2]
 ·by_cases h12:f.1=12
  ·simp[h12]
  ·by_cases h22:f.1=22<;>simp[h5,h12,h22]
def anyF (f:Fun)(l:List Int):Int:=if l.any (fun y=>decide (y=f.1)&&(numberF f&&textP f))=true then 0 else 60
def kinds (k:Int):List Int:=if k=2 then [1,2,3,4,5,6,7,8]else if k=3 then [11,12,13]else if k=4 then [21,22]else if k=8 then [31,32,33,34]else if k=11 then [41,42]else []
def chk (k:Int)(f:Fun):Int:=if kinds k=[]then(if f=(0,0,ByteArray.mk #[])then 0 else 60)else anyF f (kinds k)
theorem chk_l (f:Fun)(hs:f.2.2.size≤9223372036854775807): ∀l,F.fn_Check_l2 f l=some (anyF f l)
 | []=>rfl
 |y::l=>by
  have ih:=chk_l f hs l
  unfold F.fn_Check_l2
  simp only[F.fn_Check_j1,number_eq,text_eq _ hs,Option.bind_some,ih,anyF,List.any_cons]
  by_cases h:y=f.1
  ·subst h
   cases hn:numberF f<;>cases ht:textP f<;>simp
  ·simp[h]
theorem fn_Check_eq (k:Int)(f:Fun)(hs:f.2.2.size≤9223372036854775807):F.fn_Check k f=some (chk k f):=by
 have u2:F.fn_Uses_1_it 1 8=some [1,2,3,4,5,6,7,8]:=by kernel_rfl
 have u3:F.fn_Uses_1_it 11 13=some [11,12,13]:=by kernel_rfl
 have u4:F.fn_Uses_1_it 21 22=some [21,22]:=by kernel_rfl
 have u8:F.fn_Uses_1_it 31 34=some [31,32,33,34]:=by kernel_rfl
 have u11:F.fn_Uses_1_it 41 42=some [41,42]:=by kernel_rfl
 unfold F.fn_Check F.fn_Uses F.fn_uses chk kinds
 by_cases h2:k=2
 ·simp[h2,u2,chk_l f hs]
 ·by_cases h3:k=3
  ·simp[h3,u3,chk_l f hs]
  ·by_cases h4:k=4
   ·simp[h4,u4,chk_l f hs]
   ·by_cases h8:k=8
    ·simp[h8,u8,chk_l f hs]
    ·by_cases h11:k=11
     ·simp[h11,u11,chk_l f hs]
     ·simp only[h2,h3,h4,h8,h11,if_false,Option.bind_some]
      rw[if_pos (by decide),if_pos trivial]
      by_cases hz:f=(0,0,ByteArray.mk #[])
      ·rw[if_neg (fun h=>h hz),if_pos hz]
      ·rw[if_pos hz,if_neg hz]
theorem R06_l (f:Fun)(hs:f.2.2.size≤5000)(l:List Int)(hl:l.length≤100):F.R06_Check_l2 f l A.FU 0=some (anyF f l):=
 A.lp0 l (fun n y=>F.R06_Check_l2 f l n y) (fun _ t=>some (anyF f t))
  (fun n=>by rw[F.R06_Check_l2,if_neg (by omega)];rfl)
  (fun n k x hx hk ih=>by
   rw[F.R06_Check_l2,if_pos (by omega),A.ixn hx,Option.bind_some]
   simp only[F.R06_Check_j1,R06_number_eq,R06_text_eq _ hs,Option.bind_some,ih,A.gd1 (A.r64n (n:=k) (by omega)),anyF,List.any_cons]
   by_cases h:x=f.1
   ·subst h
    cases hn:numberF f<;>cases ht:textP f<;>simp
   ·simp[h])
  (by have:=FU_big;omega)
theorem R06_Check_eq (k:Int)(f:Fun)(hs:f.2.2.size≤5000):F.R06_Check k f=some (chk k f):=by
 have u2:F.R06_Uses 2=some [1,2,3,4,5,6,7,8]:=by kernel_rfl
 have u3:F.R06_Uses 3=some [11,12,13]:=by kernel_rfl
 have u4:F.R06_Uses 4=some [21,22]:=by kernel_rfl
 have u8:F.R06_Uses 8=some [31,32,33,34]:=by kernel_rfl
 have u11:F.R06_Uses 11=some [41,42]:=by kernel_rfl
 have u0:F.R06_Uses_j2 1 0=some []:=by kernel_rfl
 unfold F.R06_Check chk kinds
 by_cases h2:k=2
 ·subst h2;rw[u2,Option.bind_some,if_neg (by simp),F.R06_Check_j3,if_neg (by simp),R06_l f hs _ (by simp)];simp
 ·by_cases h3:k=3
  ·subst h3;rw[u3,Option.bind_some,if_neg (by simp),F.R06_Check_j3,if_neg (by simp),R06_l f hs _ (by simp)];simp
  ·by_cases h4:k=4
   ·subst h4;rw[u4,Option.bind_some,if_neg (by simp),F.R06_Check_j3,if_neg (by simp),R06_l f hs _ (by simp)];simp
   ·by_cases h8:k=8
    ·subst h8;rw[u8,Option.bind_some,if_neg (by simp),F.R06_Check_j3,if_neg (by simp),R06_l f hs _ (by simp)];simp
    ·by_cases h11:k=11
     ·subst h11;rw[u11,Option.bind_some,if_neg (by simp),F.R06_Check_j3,if_neg (by simp),R06_l f hs _ (by simp)];simp
     ·have u:F.R06_Uses k=some []:=by unfold F.R06_Uses;simp only[h2,h3,h4,h8,h11,if_false,u0]
      rw[u,Option.bind_some,if_pos (by simp),F.R06_Check_j3,R06_l f hs _ (by simp)]
      simp only[h2,h3,h4,h8,h11,if_false,if_true,decide_eq_true_eq,anyF,List.any_nil,Bool.false_eq_true]
      by_cases hz:f=(0,0,ByteArray.mk #[])
      ·rw[if_pos hz,if_pos hz]
      ·rw[if_neg hz,if_neg hz]
end Go.Proofs.YtbljnlkhebiniaaGreatDoor
end
