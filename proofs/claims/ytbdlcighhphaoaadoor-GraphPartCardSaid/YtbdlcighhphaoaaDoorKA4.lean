/- The law 'GraphPart' as it is given: whatever the input, the call returns true, and each argument reads behind it as it read before. No condition but that utf8's two tables hold what the library's text lays, which the card ties. -/
import Derived.Test.YtbdlcighhphaoaaDoorKA3
import Derived.Test.YtbdlcighhphaoaaDoorKA0
import Derived.OpenShut
import Derived.ShutString
import Derived.ChangeOld
import Derived.ChangeArms
import Derived.DataReads
import Derived.Test.YtbdlcighhphaoaaDoorRows
import Derived.Test.YtbdlcighhphaoaaDoorTie
import Derived.Test.YtbdlcighhphaoaaDoorCards
import Derived.WalkKit
import Derived.ProofKit
import Derived.Below
import Derived.LaidMore
import Derived.Stop.Joined
import Derived.SevenTiedAt
import Derived.Lib.LaidIn
import Derived.Lib.LaidU8T
import Derived.PinnedBridge
import Derived.SizedLaws
section
set_option linter.unusedVariables false
set_option linter.unusedSimpArgs false
set_option synthInstance.maxSize 1000000
set_option synthInstance.maxHeartbeats 400000
namespace Go.Proofs.YtbdlcighhphaoaaDoor
open Go.RowKit Go.Graph
theorem begunP:F.cd=some true:=by kernel_rfl
theorem cut_eq (g:List Nd)(hg:g.length≤100):F.g g=some (part g):=by
 unfold F.g F.k
 have hfil:part g=g.filter fun y=> !(decide (y.2.1=15)):=List.filter_congr fun n _=>by unfold nocap;by_cases h:n.2.1=15<;>simp[h]
 rcases A.fst g (fun n=>decide (n.2.1=15)) (fun f y=>F.c g f y) (fun f=>by rw[F.c,if_neg (by omega)])
  (fun f k x hx hk=>by
   rw[F.c,if_pos (by omega),A.ixn hx,Option.bind_some,F.aU,Option.bind_some]
   by_cases h:x.2.1=15
   ·rw[if_pos (decide_eq_true h),if_pos (decide_eq_true h)]
   ·rw[if_neg (by rw[decide_eq_true_iff];exact h),if_neg (by rw[decide_eq_true_iff];exact h),A.gd1 (A.r64n (by omega))])
  (by have:=FU_big;omega)with⟨h1,h2⟩|⟨k,x,h1,h2,h3,h4⟩
 ·rw[h1,Option.bind_some,if_pos rfl,hfil,List.filter_eq_self.2 (fun n hn=>by rw[h2 n hn];rfl)]
 ·have hk:=(List.getElem?_eq_some_iff.1 h1).1
  rw[h2,Option.bind_some,if_neg (by omega),A.gd1 (A.r64n (by omega)),hfil]
  exact A.del g (fun n=>decide (n.2.1=15)) (fun f xs i j=>F.b g f xs i j)
   (fun f xs i hlen hi=>by
    rw[F.b,if_neg (by omega),A.gd1 ⟨by omega,by omega⟩,A.gd1 ⟨by omega,by simp only[List.length_append,List.length_take,List.length_replicate];omega⟩,Int.toNat_natCast]
    congr 1
    rw[List.take_append_of_le_length (by rw[List.length_take];omega),List.take_take,Nat.min_self])
   (fun f xs i j x hx hij hj hlen=>by
    have hi:xs[i]?=some xs[i]:=List.getElem?_eq_getElem (by omega)
    rw[F.b,if_pos (by omega),A.ixn hx,Option.bind_some,F.aU,Option.bind_some]
    simp only[F.e]
    by_cases h:x.2.1=15
    ·rw[decide_eq_true h,Bool.not_true,if_neg Bool.false_ne_true,if_pos rfl,A.gd1 (A.r64n (by omega))]
    ·rw[decide_eq_false h,Bool.not_false,if_pos rfl,if_neg Bool.false_ne_true,A.ixn hi,Option.bind_some,A.gd1 (A.r64n (by omega)),A.gd1 (A.r64n (by omega)),Int.toNat_natCast])
   h1 h3 h4 (by have:=FU_big;omega)
theorem graphPart_plain {P:Prop}(g:List Nd)(_:P):F.bo g=some true:=by
 unfold F.bo
 obtain⟨b,hb,hf⟩:=few_eq g
 rw[begunP,Option.bind_some,if_neg (by simp),hb,Option.bind_some]
 cases b with
 |false=>rw[Bool.not_false,if_pos rfl,F.aq,if_pos rfl,begunP];rfl
 |true=>
  have F1:=hf rfl
  obtain⟨e,he⟩: ∃e,F.ay g=some e:=by
   unfold F.ay
   rcases whole_same g F1 with⟨e,_,h1,_⟩|⟨l,d,dm,h1,_,_⟩
   ·rw[h1];exact⟨_,rfl⟩
   ·rw[h1];exact⟨_,rfl⟩
  rw[if_neg (by simp),he,Option.bind_some,F.aq]
  by_cases h0:e=0
  ·subst h0
   rw[if_neg (by simp)]
   unfold F.ae
   rw[A.gd1 (by have:=F1.1;simp only[List.length_nil];omega),List.nil_append,Option.bind_some,cut_eq g (by have:=F1.1;omega),Option.bind_some,part_check F1 he,Option.bind_some];rfl
  ·rw[if_pos (decide_eq_true h0),begunP];rfl
end Go.Proofs.YtbdlcighhphaoaaDoor
end
section
namespace Go.Z
open Go.RowKit
def OpenT (P:Program)(T:TypeId)(t:Ty):Prop:=
 P.cellsOf T=t.size∧∀(H:Type) (enc:TypeId×Value→H) (w:World) (base:Nat) (spare:Nat→Bool) (held:Bool) (fuel:Nat) (cs:List Value) (x:DataW H×List MemPlace),
  DataW.trod enc P w base spare held fuel T cs=some x→∃y:t.den,t.rep w (nt []) cs y
section
variable {P:Program}{T e:TypeId}
theorem ot_int {k:IntKind}(hc:P.cellsOf T=1)(ht:P.underlying T=some (.int k)):OpenT P T (.int k):=⟨hc,fun H enc w base spare held fuel cs x h=>by
 obtain⟨n,rfl,_,hw⟩:=DataW.trod_int ht h
 refine⟨n,rfl,?_⟩
 simp only[Lit.wf,Bool.and_eq_true,decide_eq_true_eq]at hw
 exact hw⟩
theorem ot_str (hc:P.cellsOf T=1)(ht:P.underlying T=some .string):OpenT P T .str:=⟨hc,fun H enc w base spare held fuel cs x h=>by
 obtain⟨s,rfl,_,hs⟩:=DataW.trod_string ht h
 exact⟨s,rfl,hs⟩⟩
def OpenPs (P:Program):List (TypeId×Nat)→Nat→Ty→Prop
 | [],_,_=>False
 | [(T,o')],o,t=>o'=o∧OpenT P T t
 |(T,o')::p::ps,o,.pair a b=>o'=o∧OpenT P T a∧OpenPs P (p::ps) (o+a.size) b
 |_::_::_,_,_=>False
theorem open_ps {H:Type}{enc:TypeId×Value→H}{w:World}{base:Nat}{spare:Nat→Bool}{held:Bool}{fuel:Nat}{cs:List Value}:
  ∀(ps:List (TypeId×Nat)) (o:Nat) (t:Ty),OpenPs P ps o t→(∀p∈ps,∃x,DataW.trod enc P w base spare held fuel p.1 ((cs.drop p.2).take (P.cellsOf p.1))=some x)→∃y:t.den,t.rep w (nt []) ((cs.drop o).take t.size) y
 | [],_,_,h,_=>h.elim
 | [(T,o')],o,t,h,hx=>by
  obtain⟨rfl,⟨hc,ho⟩⟩:=h
  obtain⟨x,hx⟩:=hx (T,o') (List.mem_singleton.2 rfl)
  rw[←hc];exact ho _ _ _ _ _ _ _ _ _ hx
 |(T,o')::p::ps,o,.pair a b,h,hx=>by
  obtain⟨rfl,⟨hc,ho⟩,hr⟩:=h
  obtain⟨x,h1⟩:=hx (T,o') (List.mem_cons_self ..)
  obtain⟨ya,hya⟩:=ho _ _ _ _ _ _ _ _ _ h1
  obtain⟨yb,hyb⟩:=open_ps (p::ps) _ b hr fun q hq=>hx q (List.mem_cons_of_mem _ hq)
  refine⟨(ya,yb),_,_,?_,hya,hyb⟩
  show(cs.drop o').take (a.size+b.size)=_
  rw[hc,List.take_add,List.drop_drop]
 |_::_::_,_,.int _,h,_=>h.elim
 |_::_::_,_,.byte,h,_=>h.elim
 |_::_::_,_,.bool,h,_=>h.elim
 |_::_::_,_,.str,h,_=>h.elim
 |_::_::_,_,.slice _,h,_=>h.elim
theorem ot_struct {fs:List Field}{t:Ty}(hc:P.cellsOf T=t.size)(ht:P.underlying T=some (.struct fs.toArray))(h:OpenPs P (fs.map fun f=>(f.type,f.offset)) 0 t):OpenT P T t:=⟨hc,fun H enc w base spare held fuel cs x hx=>by
 obtain⟨xs,n,_,_,hl,hs,hf⟩:=DataW.trod_struct ht hx
 have hcs:cs=(cs.drop 0).take t.size:=by rw[List.drop_zero,List.take_of_length_le (by omega)]
 rw[hcs]
 refine open_ps (fuel:=n) (enc:=enc) (base:=base) (spare:=spare) (held:=held) _ 0 t h fun p hp=>?_
 obtain⟨f,hf1,rfl⟩:=List.mem_map.1 hp
 obtain⟨i,hi,he⟩:=List.getElem_of_mem hf1
 have h1:=hf i f (by rw[List.getElem?_toArray,List.getElem?_eq_getElem hi,he])
 rw[h1,List.getElem?_eq_getElem (by rw[hs];simpa using hi)]
 exact⟨_,rfl⟩⟩
theorem rows_of {t:Ty}{w:World}{g:Addr}: ∀(n:Nat),(∀i,i<n→∃(cs:List Value) (y:t.den),cs.length=t.size∧(∀j u,cs[j]?=some u→w.cell? (g.add (i*t.size+j))=some u)∧t.rep w (nt []) cs y)→
  ∃(cells:List Value) (ys:List t.den),ys.length=n∧cells.length=n*t.size∧(∀j u,cells[j]?=some u→w.cell? (g.add j)=some u)∧∀(i:Nat) (y:t.den),ys[i]?=some y→t.rep w (nt []) ((cells.drop (i*t.size)).take t.size) y
 |0,_=>⟨[],[],rfl,by simp,by simp,by simp⟩
 |n+1,h=>by
  obtain⟨cells,ys,h1,h2,h3,h4⟩:=rows_of n fun i hi=>h i (by omega)
  obtain⟨cs,y,c1,c2,c3⟩:=h n (by omega)
  refine⟨cells++cs,ys++[y],by simp[h1],by rw[List.length_append,h2,c1,Nat.succ_mul],fun j u hj=>?_,?_⟩
  ·by_cases hlt:j<cells.length
   ·rw[List.getElem?_append_left hlt]at hj;exact h3 j u hj
   ·rw[List.getElem?_append_right (by omega)]at hj
    have:=c2 _ u hj
    rwa[h2,show n*t.size+(j-n*t.size)=j by omega]at this
  ·refine rep_append (xs:=ys) (ys:=[y]) (by rw[h2,h1]) h4 fun i y' hi=>?_
   have:i=0:=by have:=(List.getElem?_eq_some_iff.1 hi).1;simp at this;omega
   subst this
   simp at hi;subst hi
   rw[Nat.zero_mul,List.drop_zero,List.take_of_length_le (by omega)];exact c3
theorem ot_slice {t:Ty}(hc:P.cellsOf T=1)(ht:P.underlying T=some (.slice e))(h:OpenT P e t):OpenT P T (.slice t):=⟨hc,fun H enc w base spare held fuel cs x hx=>by
 rcases DataW.trod_slice ht hx with⟨rfl,_⟩|⟨ad,len,cap,elems,rest,n,_,rfl,_,hb,hl,hm,hlen,hel,_,_⟩
 ·exact⟨[],rep_nil _⟩
 ·have each: ∀i,i<len→∃(cs:List Value) (y:t.den),cs.length=t.size∧(∀j u,cs[j]?=some u→w.cell? (ad.add (i*t.size+j))=some u)∧t.rep w (nt []) cs y:=fun i hi=>by
   have h1:=hel i hi
   rw[List.getElem?_eq_getElem (by omega),Option.bind_eq_some_iff]at h1
   obtain⟨cs',h2,h3⟩:=h1
   obtain⟨_,h4,h5⟩:=World.cells?_some h2
   obtain⟨y,hy⟩:=h.2 _ _ _ _ _ _ _ _ _ h3
   rw[h.1]at h4 h5
   refine⟨cs',y,h4,fun j u hj=>?_,hy⟩
   have hlt:=(List.getElem?_eq_some_iff.1 hj).1
   have:=h5 j (by omega)
   rw[add_add]at this
   rw[this,hj]
  obtain⟨cells,ys,h1,h2,h3,h4⟩:=rows_of len each
  by_cases hz:len=0
  ·subst hz
   have:ys=[]:=List.eq_nil_of_length_eq_zero h1
   subst this
   exact⟨[],some ad,cap,[],rfl,by simp,hm,by simp,.inl rfl,by simp⟩
  ·have hp:=pos_size t
   have hlt:0<cells.length:=by rw[h2];exact Nat.mul_pos (by omega) hp
   have h0:=h3 0 _ (List.getElem?_eq_getElem hlt)
   have hspot:=World.cell?_spot h0
   obtain⟨b,off,spot⟩:=ad
   simp only[Addr.add]at hspot
   subst hspot
   refine⟨ys,some ⟨b,off,none⟩,cap,cells,by rw[h1],by omega,hm,by rw[h1];exact h2,.inr ⟨b,off,rfl,by simp[nt],fun j u hj=>?_⟩,h4⟩
   have:=h3 j u hj
   rwa[Addr.add_lit]at this⟩
end
end Go.Z
end
section
namespace Go.Proofs.YtbdlcighhphaoaaDoor.graphPartDone
open Go.ChangeShapes Go.WideShapes Go.ChangeAt Go.RowKit
set_option linter.unusedVariables false
theorem own:ownKnob Tryd.prog.godebug=none:=by kernel_rfl
theorem laidOut:laidOutB Tryd.prog=true:=by kernel_rfl
theorem ot3:Z.OpenT Tryd.prog 3 A.ti:=Z.ot_int (by kernel_rfl) Tryd.underlying3
theorem ot30:Z.OpenT Tryd.prog 30 A.TI:=Z.ot_slice (by kernel_rfl) Tryd.underlying30 ot3
theorem ot2:Z.OpenT Tryd.prog 2 A.ti:=Z.ot_int (by kernel_rfl) Tryd.underlying2
theorem ot9:Z.OpenT Tryd.prog 9 Z.Ty.str:=Z.ot_str (by kernel_rfl) Tryd.underlying9
theorem ot32:Z.OpenT Tryd.prog 32 T31:=Z.ot_struct (by kernel_rfl) Tryd.underlying32 ⟨rfl,ot3,rfl,ot2,rfl,ot9⟩
theorem ot34:Z.OpenT Tryd.prog 34 T33:=Z.ot_struct (by kernel_rfl) Tryd.underlying34 ⟨rfl,ot3,rfl,ot3,rfl,ot30,rfl,ot32,rfl,ot9,rfl,ot2,rfl,ot3⟩
theorem ot22:Z.OpenT Tryd.prog 22 (Z.Ty.slice T33):=Z.ot_slice (by kernel_rfl) Tryd.underlying22 ot34
theorem ot24:Z.OpenT Tryd.prog 24 T23:=Z.ot_struct (by kernel_rfl) Tryd.underlying24 ⟨rfl,ot22⟩
set_option maxRecDepth 100000 in
theorem laid_met (os:Os)(args:Array Value):laidMetH Tryd.prog Rows.graphPartRow.laid (({World.holding Tryd.prog os ⟨#[],#[],[]⟩with heap:=((World.holding Tryd.prog os ⟨#[],#[],[]⟩).heap.modify 0 (A.putCells A.tabF)).modify 1 (A.putCells A.tabA)}:World).forCall (fun _ _=>0) ⟨#[],args,[]⟩).memory:=by
 rw[MakeChecks.laidMetH_plain _ _ _ (by kernel_rfl)]
 exact(LaidIn.of_run (l:=Rows.graphPartRow.laid) [1,0] 8 (by kernel_rfl) (by kernel_rfl) (by kernel_rfl) (by kernel_rfl)).met
theorem of_laid {W:World}(h:laidMetH Tryd.prog Rows.graphPartRow.laid W):Lib.Utf8Tabs 0 1 W:=by
 rw[MakeChecks.laidMetH_plain _ _ _ (by kernel_rfl)]at h
 have h1:=Lib.laidMet.reads h (.tail _ (.head _))
 rw[show Rows.laid_unicode_utf8_first=Lib.firstData from Pinned.utf8First_eq]at h1
 have h2:=Lib.laidMet.reads h (.head _)
 rw[show(Rows.laid_unicode_utf8_acceptRanges:DataW Unit)=Lib.acceptData by kernel_rfl]at h2
 exact utf8Tabs_of_readsT (U8Types.of196 Tryd.laysValid) ⟨by kernel_rfl,by kernel_rfl,by kernel_rfl,by kernel_rfl,by kernel_rfl,by kernel_rfl,by kernel_rfl⟩ h1 h2
set_option maxHeartbeats 1000000 in
set_option maxRecDepth 100000 in
theorem lifted (os:Os)(started:os.Started)(H:Type)(enc:TypeId×Value→H):
  ReturnsInHanded {} Tryd.checked os 3 .any (fun w args=>(Rows.graphPartSpec.pre enc Tryd.prog Tryd.f3 [] false w args∧laidMetH Tryd.prog Rows.graphPartRow.laid w)∧sizedMet enc Tryd.prog Tryd.f3 (OpenSpec.ofChange Rows.graphPartSpec) false w args) (Rows.graphPartSpec.post enc Tryd.prog Tryd.f3 false true false false):=by
 refine returnsInHanded_of_change_and (C:=Tryd.checked) (X:=fun w _=>laidMetH Tryd.prog Rows.graphPartRow.laid w) (fun _ _ _ hh h=>h.of_heap hh) own started (by kernel_rfl) Tryd.func3
  (ChangeSpec.witness_shaped (enc:=enc) (C:=Tryd.checked) (os:=os) (X:=fun w _=>laidMetH Tryd.prog Rows.graphPartRow.laid w) false ({World.holding Tryd.prog os ⟨#[],#[],[]⟩with heap:=((World.holding Tryd.prog os ⟨#[],#[],[]⟩).heap.modify 0 (A.putCells A.tabF)).modify 1 (A.putCells A.tabA)}) #[.agg #[.slice none 0 0]] 16 rfl (World.shaped_of_RefB (by kernel_rfl) (by kernel_rfl)) (by kernel_rfl) (by kernel_rfl) (by kernel_rfl) (laid_met os _)) ?_
 intro W base args ds gs before hval0 hW hcnd _ hL _
 have hval: ∀(j:Nat) t v,Tryd.f3.params[j]?=some t→args[j]?=some v→Value.okWide Tryd.prog W .any base t v:=hval0
 have hW':=hW
 obtain⟨p,q,hA0,hV,rfl,hfz,hnd⟩:=hW
 have hA:DataW.TrodAll enc Tryd.prog W 0 (fun _=>true) true Tryd.f3.params.toList args.toList ds p:=hA0
 rw[Tryd.params3]at hA hval
 obtain⟨v0,vs0,d0,ds0,p0,q0,hargs,rfl,rfl,h0,r0⟩:=trodAll_cons hA
 obtain⟨rfl,rfl,rfl⟩:=trodAll_nil r0
 obtain rfl:args=#[v0]:=by cases args;simp_all
 obtain⟨rfl,rfl⟩:=trodVars_none hV
 have k0:=h0
 have lt0: ∀x∈p0,x.block<W.heap.size:=by obtain⟨m,hm⟩:=k0;exact DataW.trod_lt m _ _ _ hm
 obtain⟨fu0,hf0⟩:=h0
 obtain⟨x0,hx0⟩:=ot24.2 _ _ _ _ _ _ _ _ _ hf0
 obtain⟨cs0,rfl,_⟩:=okWide_struct Tryd.underlying24 (hval 0 24 v0 rfl rfl)
 replace hx0:T23.rep W (Z.nt []) cs0.toList x0:=hx0
 have hok0:=Z.rep_ok _ hx0
 obtain⟨a0,c0,hc0⟩: ∃a c,cs0.toList=[.slice a x0.length c]:=by obtain⟨a,c,_,h,_⟩:=hx0;exact⟨a,c,h⟩
 obtain rfl:cs0=#[.slice a0 x0.length c0]:=by rw[←Array.toArray_toList (xs:=cs0),hc0]
 clear hA0 hval0
 have htab:=of_laid hL
 have hF:F.bo x0=some true:=graphPart_plain x0 hok0
 have hct:=o_ae a0 c0 x0 true hF
 refine(hct W (fun _=>True) (A.Hp.start ⟨A.Hall.sh hx0,A.Hall.tabs htab⟩)).mono ?_
 rintro e W' ⟨v,H',rfl,⟨rfl,rfl⟩,hh⟩
 have bel:=hh.ch.below
 exact⟨_,rfl,_,_,_,[],_,[],hW',trodAll_mk1 (shut_bool Tryd.underlying4 _),(trodAll_cons_mk (Below.trod laidOut (by kernel_rfl) (of_decide_eq_true (by kernel_rfl)) k0 bel lt0) trodAll_mk0),rfl,bel.frame _,fun h=>by cases h⟩
theorem over:Rows.graphPartRow.holds Tryd.pinned (OpenSpec.ofChange Rows.graphPartSpec):=
 OpenClaim.holds_of_wide 3 Tryd.f3 rfl rfl rfl rfl rfl rfl rfl ⟨rfl,rfl,rfl,rfl,rfl⟩ rfl rfl rfl rfl rfl (by kernel_rfl) Tryd.func3 (by kernel_rfl)
  (of_decide_eq_true (by kernel_rfl)) (by unfold Func.isWrapper;first|(rw[if_pos (by decide+kernel)];kernel_rfl)|(rw[if_neg (by decide+kernel)];exact⟨rfl,rfl⟩))
  (fun os started H enc _=>lifted os started H enc)
theorem proved:Rows.GraphPartCardSaid:=
 Claim7.holds_tied_plain_at .later [] [.data,.pinned] true (true,"457d12e9bc61cdb79bba3c0ce5e87f8b62100122b89a9273838a7a650f225db8") false
  over (fun _ h=>by cases h) (by kernel_rfl) (fun _ h=>by cases h) graphPart_row_tie rfl ⟨rfl,rfl⟩ (by kernel_rfl) rfl
  (fun f fn hf hfn=>by
   obtain rfl:f=3:=Option.some.inj ((show Tryd.prog.funcNamed Rows.graphPartRow.func=some 3 by kernel_rfl).symm.trans hf) |>.symm
   obtain rfl:fn=Tryd.f3:=(Option.some.inj (Tryd.func3.symm.trans hfn)).symm
   exact⟨by kernel_rfl,fun j t ht=>by
    rw[Tryd.params3]at ht
    have hm:t∈[24]:=by simpa using Array.mem_of_getElem? ht
    have hall:([24].all fun u=> !Tryd.prog.wantsStandIn u)=true:=by kernel_rfl
    exact(show Tryd.prog.wantsStandIn t=false by simpa using List.all_eq_true.1 hall t hm)⟩)
  (by kernel_rfl)
#print axioms proved
end Go.Proofs.YtbdlcighhphaoaaDoor.graphPartDone
end
