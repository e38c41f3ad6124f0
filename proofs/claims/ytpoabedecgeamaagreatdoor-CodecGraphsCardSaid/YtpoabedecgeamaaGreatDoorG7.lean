import Derived.Test.YtpoabedecgeamaaGreatDoorG6
import Derived.OpenShut
import Derived.ShutString
import Derived.ChangeOld
import Derived.ChangeArms
import Derived.DataReads
import Derived.Test.YtpoabedecgeamaaGreatDoorRows
import Derived.Test.YtpoabedecgeamaaGreatDoorTie
import Derived.Test.YtpoabedecgeamaaGreatDoorCards
import Derived.WalkKit
import Derived.ProofKit
import Derived.LaidMore
import Derived.Stop.Joined
import Derived.SevenTiedAt
import Derived.Lib.LaidIn
import Derived.Lib.LaidU8T
import Derived.PinnedBridge
import Derived.SizedLaws
set_option linter.defProp false
set_option linter.unusedVariables false
set_option linter.unusedSimpArgs false
set_option synthInstance.maxSize 1000000
set_option synthInstance.maxHeartbeats 400000
section
namespace Go.Proofs.YtpoabedecgeamaaGreatDoor
open Go.RowKit Go.Codec
def check_big {g:List Codec.Node}(h:32<g.length):F.aW g=some 80/\F.bv g=some 80:=by
 constructor;unfold F.aW F.b1;rw[Qc (by omega)];rfl;unfold F.bv F.di F.dE;rw[Qc (by omega),Qa,Qc (by decide)];rfl
def fm_mem {α:Type}(f:α->List UInt8): ∀(xs:List α) (x:α),x∈xs->(f x).length<=(xs.flatMap f).length
 | [],_,h=>by cases h
 |y::ys,x,h=>by
  rw[List.flatMap_cons,Qe];rcases Qn.1 h with rfl|h
  omega;have:=fm_mem f ys x h;omega
def fm_ge {α:Type}(f:α->List UInt8)(H: ∀x,1<=(f x).length): ∀xs:List α,xs.length<=(xs.flatMap f).length
 | []=>by simp
 |y::ys=>by
  rw[List.flatMap_cons,Qe,Qi];have:=fm_ge f H ys;have:=H y;omega
def text_ge (s:ByteArray):s.size<=(encText s).length:=by
 have H:s.data.toList.length=s.size:=rfl;unfold encText;rw[Qe,H];omega
def node_s {n:Codec.Node}(h:(Qae n).length<=3000):sNode n:=by
 unfold Qae at h;simp only[Qe]at h;have H:=fm_ge encInt (λx=>(encInt_length x).1) n.2.2.1;have J:(Qad encInt n.2.2.1).length=(encInt (n.2.2.1.length:Int)).length+(n.2.2.1.flatMap encInt).length:=by unfold Qad;rw[Qe]
 have L:=text_ge n.2.2.2.2.1;have N:=text_ge n.2.2.2.1.2.2;have O:(encText n.2.2.2.1.2.2).length<=(encFn n.2.2.2.1).length:=by unfold encFn;simp only[Qe];omega
 exact⟨by omega,by omega,by omega⟩
def parsed_few {bs:List UInt8}(H:bs.length<=3000)(J:(fin (pL pNd) [] bs).2=0): ∃e,F.aW (fin (pL pNd) [] bs).1=some e/\F.bv (fin (pL pNd) [] bs).1=some e:=by
 obtain⟨e,x,k,N,O⟩:=fin_IV (IV_L IV_Nd) (PF_L PF_Nd) J;by_cases h:32<(fin (pL pNd) [] bs).1.length;exact⟨80,check_big h⟩;refine Qeg _ (few_of ⟨by omega,λa L=>node_s ?_⟩);have q:=fm_mem Qae _ a L;have:(Qad Qae (fin (pL pNd) [] bs).1).length<=3000:=by rw[e];exact H
 unfold Qad at this;rw[Qe]at this;omega
def Qge (l:List Codec.Node)(L:okList okNode l)(h:l.length<=40/\∀a∈l,sNode a){e:Int}(N:F.bv l=some e):F.eb l=some (if e≠0 then([],e)else(Qad Qae l,0)):=by
 unfold F.eb;rw[N,Qa];by_cases H:e≠0;rw[Qc H,Qc H]
 ·rw[Qb H,Qb H]
  obtain⟨J,O⟩:=gnodes h;rw[rNodes [] l J.1 L.2 J.2 (by unfold BB;simp only[Q5];omega),Qa]
  (try dsimp only)
  rw[rDone,Qa];rfl
def Qci (bs:List UInt8)(J:bs.length<=70368744177664):F.bI bs=if(fin (pL pNd) [] bs).2=0 then(F.bv (fin (pL pNd) [] bs).1).bind λe=>some (if e≠0 then([],e)else((fin (pL pNd) [] bs).1,0))else some ([],(fin (pL pNd) [] bs).2):=by
 have L:=R_fin RA_Nn (PF_L PF_Nd) [] bs J;have e:F.bI bs=(some (fin (pL pNd) [] bs)).bind λr=>if r.2=0 then(F.bv r.1).bind λe=>some (if e≠0 then([],e)else(r.1,0))else some ([],r.2):=by
  rw[<-L];unfold F.bI;rw[Option.bind_assoc];congr 1;funext N;rw[Option.bind_assoc];congr 1;funext y;by_cases H:y≠0
  ·rw[Qc H,Qc H,Qa]
   (try dsimp only)
   rw[Qb H]
  ·rw[Qb H,Qb H,Qa]
   (try dsimp only)
   rw[Qc rfl];congr 1;funext e;split<;>rfl
 rw[e,Qa]
def codecGraphs_plain (g:List Codec.Node)(bs:List UInt8)(V:(Z.Ty.slice Z.tyNode).ok g)(h2:(Z.Ty.slice Z.Ty.byte).ok bs):F.co g bs=some true:=by
 have og:okList okNode g:=Z.ok_list (t:=Z.tyNode) V λ_ h=>Z.ok_node h;unfold F.co;rw[o_bX,Qa,Qb (by simp)];obtain⟨c,W,H⟩:=Qhx g;rw[W,Qa];have bad:F.aM g bs true=some true:=by
  unfold F.aM;rw[Qc rfl,o_bX];rfl
 by_cases L:c=true/\bs.length<=3000;have H:=H L.1;rw[L.1,Wk (show ¬(3000:Int)<bs.length by omega)];unfold F.aM;rw[Qb (by simp)];obtain⟨e,Y,N⟩:=Qeg g (few_of H);rw[Qed g og H Y,Qa,Qge g og H N,Qa];have hp: ∃r,F.bF bs=some r/\F.bI bs=some r/\(r.1.length<=65536/\∀n∈r.1,n.2.2.1.length<=65536):=by
  rw[Qbq bs (by omega),Qci bs (by omega)];by_cases J:(fin (pL pNd) [] bs).2=0;rw[Qc J,Qc J];obtain⟨f,f1,f2⟩:=parsed_few L.2 J;rw[f1,f2,Qa];refine⟨_,rfl,rfl,?_⟩;by_cases O:f≠0;rw[Qc O];exact⟨by simp,λn H=>by cases H⟩;rw[Qb O];exact fin_Q (Q:=λl:List Codec.Node=>l.length<=65536/\∀n∈l,n.2.2.1.length<=65536) ⟨by simp,λn H=>by cases H⟩ (PQ_L PQ_Nd) bs;rw[Qb J,Qb J];exact⟨_,rfl,rfl,by simp,λn H=>by cases H⟩
 obtain⟨r,r1,r2,r3,r4⟩:=hp;rw[r1,Qa,r2,Qa,Equal_eq,Qa,Qc (by simp),sameNodes r.1 r3 r4,Qa];unfold F.bS;simp;rw[show(bif !c then true else decide ((3000:Int)<(bs.length:Int)))=true by
   cases c with
   |false=>rfl
   |true=>
    have: ¬bs.length<=3000:=λh=>L ⟨rfl,h⟩;simp only[Xe,cond_false,Qt];omega,bad]
end Go.Proofs.YtpoabedecgeamaaGreatDoor
end
section
namespace Go.Z
open Go.RowKit
def OpenT (P:Program)(T:TypeId)(t:Ty):Prop:=
 P.cellsOf T=t.size/\∀(H:Type) (enc:TypeId×Value->H) (w:World) (base:Nat) (spare:Nat->Bool) (held:Bool) (fuel:Nat) (cs:List Value) (x:DataW H×List MemPlace),
  DataW.trod enc P w base spare held fuel T cs=some x->∃y:t.den,t.rep w (nt []) cs y
section
variable {P:Program}{T e:TypeId}
def ot_int {k:IntKind}(L:P.cellsOf T=1)(N:P.underlying T=some (.int k)):OpenT P T (.int k):=⟨L,λH enc w base spare held fuel cs x h=>by
 obtain⟨n,rfl,_,J⟩:=DataW.trod_int N h;refine⟨n,rfl,?_⟩;simp only[Lit.wf,Qp,Qt]at J;exact J⟩
def ot_byte (J:P.cellsOf T=1)(L:P.underlying T=some (.int .u8)):OpenT P T .byte:=⟨J,λH enc w base spare held fuel cs x h=>by
 obtain⟨n,rfl,_,N⟩:=DataW.trod_int L h;simp[Lit.wf,IntKind.min,IntKind.max,IntKind.signed,IntKind.bits]at N;exact⟨UInt8.ofNat n.toNat,Xb (λz=>[Value.int .u8 z]) (u8_of (by omega))⟩⟩
def ot_str (J:P.cellsOf T=1)(L:P.underlying T=some .string):OpenT P T .str:=⟨J,λH enc w base spare held fuel cs x h=>by
 obtain⟨s,rfl,_,N⟩:=DataW.trod_string L h;exact⟨s,rfl,N⟩⟩
def OpenPs (P:Program):List (TypeId×Nat)->Nat->Ty->Prop
 | [],_,_=>False
 | [(T,o')],o,t=>o'=o/\OpenT P T t
 |(T,o')::p::ps,o,.pair a b=>o'=o/\OpenT P T a/\OpenPs P (p::ps) (o+a.size) b
 |_::_::_,_,_=>False
def open_ps {H:Type}{enc:TypeId×Value->H}{w:World}{base:Nat}{spare:Nat->Bool}{held:Bool}{fuel:Nat}{cs:List Value}:
  ∀(ps:List (TypeId×Nat)) (o:Nat) (t:Ty),OpenPs P ps o t->(∀p∈ps,∃x,DataW.trod enc P w base spare held fuel p.1 ((cs.drop p.2).take (P.cellsOf p.1))=some x)->∃y:t.den,t.rep w (nt []) ((cs.drop o).take t.size) y
 | [],_,_,h,_=>h.elim
 | [(T,o')],o,t,h,J=>by
  obtain⟨rfl,⟨L,N⟩⟩:=h;obtain⟨x,J⟩:=J (T,o') (Qk.2 rfl);rw[<-L];exact N _ _ _ _ _ _ _ _ _ J
 |(T,o')::p::ps,o,.pair a b,h,J=>by
  obtain⟨rfl,⟨L,N⟩,W⟩:=h;obtain⟨x,Y⟩:=J (T,o') (Ql ..);obtain⟨ya,O⟩:=N _ _ _ _ _ _ _ _ _ Y;obtain⟨yb,V⟩:=open_ps (p::ps) _ b W λq hq=>J q (Qh _ hq);refine⟨(ya,yb),_,_,?_,O,V⟩;show(cs.drop o').take (a.size+b.size)=_;rw[L,List.take_add,Xi]
 |_::_::_,_,.int _,h,_=>h.elim
 |_::_::_,_,.byte,h,_=>h.elim
 |_::_::_,_,.bool,h,_=>h.elim
 |_::_::_,_,.str,h,_=>h.elim
 |_::_::_,_,.slice _,h,_=>h.elim
def ot_struct {fs:List Field}{t:Ty}(O:P.cellsOf T=t.size)(V:P.underlying T=some (.struct fs.toArray))(h:OpenPs P (fs.map λf=>(f.type,f.offset)) 0 t):OpenT P T t:=⟨O,λH enc w base spare held fuel cs x W=>by
 obtain⟨xs,n,_,_,hl,Y,hf⟩:=DataW.trod_struct V W;have J:cs=(cs.drop 0).take t.size:=by rw[Wu,Wf (by omega)]
 rw[J];refine open_ps (fuel:=n) (enc:=enc) (base:=base) (spare:=spare) (held:=held) _ 0 t h λp hp=>?_;obtain⟨f,L,rfl⟩:=Xf.1 hp;obtain⟨i,N,he⟩:=X6 L;have h1:=hf i f (by rw[Ws,Qf N,he]);rw[h1,Qf (by rw[Y];simpa using N)];exact⟨_,rfl⟩⟩
def rows_of {t:Ty}{w:World}{g:Addr}: ∀(n:Nat),(∀i,i<n->∃(cs:List Value) (y:t.den),cs.length=t.size/\(∀j u,cs[j]?=some u->w.cell? (g.add (i*t.size+j))=some u)/\t.rep w (nt []) cs y)->
  ∃(cells:List Value) (ys:List t.den),ys.length=n/\cells.length=n*t.size/\(∀j u,cells[j]?=some u->w.cell? (g.add j)=some u)/\∀(i:Nat) (y:t.den),ys[i]?=some y->t.rep w (nt []) ((cells.drop (i*t.size)).take t.size) y
 |0,_=>⟨[],[],rfl,by simp,by simp,by simp⟩
 |n+1,h=>by
  obtain⟨cells,ys,O,L,V,W⟩:=rows_of n λi H=>h i (by omega);obtain⟨cs,y,c1,c2,c3⟩:=h n (by omega);refine⟨cells++cs,ys++[y],by simp[O],by rw[Qe,L,c1,Nat.succ_mul],λj u J=>?_,?_⟩;by_cases N:j<cells.length;rw[Q9 N]at J;exact V j u J;rw[Wx (by omega)]at J;have:=c2 _ u J;rwa[L,show n*t.size+(j-n*t.size)=j by omega]at this;refine Qbj (xs:=ys) (ys:=[y]) (by rw[L,O]) W λi y' H=>?_;have:i=0:=by have:=(Qd.1 H).1;simp at this;omega
  subst this;simp at H;subst H;rw[Nat.zero_mul,Wu,Wf (by omega)];exact c3
def ot_slice {t:Ty}(hc:P.cellsOf T=1)(ht:P.underlying T=some (.slice e))(h:OpenT P e t):OpenT P T (.slice t):=⟨hc,λH enc w base spare held fuel cs x hx=>by
 rcases DataW.trod_slice ht hx with⟨rfl,_⟩|⟨ad,len,cap,elems,rest,n,_,rfl,_,hb,hl,hm,hlen,Y,_,_⟩
 exact⟨[],rep_nil _⟩;have each: ∀i,i<len->∃(cs:List Value) (y:t.den),cs.length=t.size/\(∀j u,cs[j]?=some u->w.cell? (ad.add (i*t.size+j))=some u)/\t.rep w (nt []) cs y:=λi hi=>by
  have J:=Y i hi;rw[Qf (by omega),Yw]at J;obtain⟨cs',N,O⟩:=J;obtain⟨_,V,h5⟩:=World.cells?_some N;obtain⟨y,hy⟩:=h.2 _ _ _ _ _ _ _ _ _ O;rw[h.1]at V h5;refine⟨cs',y,V,λj u W=>?_,hy⟩;have L:=(Qd.1 W).1;have:=h5 j (by omega);rw[add_add]at this;rw[this,W]
 obtain⟨cells,ys,J,N,O,V⟩:=rows_of len each;by_cases hz:len=0;subst hz;have:ys=[]:=Qz J;subst this;exact⟨[],some ad,cap,[],rfl,by simp,hm,by simp,.inl rfl,by simp⟩;have hp:=Qal t;have L:0<cells.length:=by rw[N];exact Nat.mul_pos (by omega) hp
 have h0:=O 0 _ (Qf L);have hspot:=World.cell?_spot h0;obtain⟨b,off,spot⟩:=ad;simp only[Addr.add]at hspot;subst hspot;refine⟨ys,some ⟨b,off,none⟩,cap,cells,by rw[J],by omega,hm,by rw[J];exact N,.inr ⟨b,off,rfl,by simp[nt],λj u W=>?_⟩,V⟩;have:=O j u W;rwa[Addr.add_lit]at this⟩
end
end Go.Z
end
section
namespace Go.Proofs.YtpoabedecgeamaaGreatDoor.codecGraphsDone
open Go.ChangeShapes Go.WideShapes Go.ChangeAt Go.RowKit
def own:ownKnob Tryz.prog.godebug=none:=by kernel_rfl
def laidOut:laidOutB Tryz.prog=true:=by kernel_rfl
def ot3:Z.OpenT Tryz.prog 3 A.ti:=Z.ot_int (by kernel_rfl) Tryz.underlying3
def ot43:Z.OpenT Tryz.prog 43 A.TI:=Z.ot_slice (by kernel_rfl) Tryz.underlying43 ot3
def ot2:Z.OpenT Tryz.prog 2 A.ti:=Z.ot_int (by kernel_rfl) Tryz.underlying2
def ot9:Z.OpenT Tryz.prog 9 Z.Ty.str:=Z.ot_str (by kernel_rfl) Tryz.underlying9
def ot63:Z.OpenT Tryz.prog 63 T62:=Z.ot_struct (by kernel_rfl) Tryz.underlying63 ⟨rfl,ot3,rfl,ot2,rfl,ot9⟩
def ot65:Z.OpenT Tryz.prog 65 T64:=Z.ot_struct (by kernel_rfl) Tryz.underlying65 ⟨rfl,ot3,rfl,ot3,rfl,ot43,rfl,ot63,rfl,ot9,rfl,ot2,rfl,ot3⟩
def ot22:Z.OpenT Tryz.prog 22 (Z.Ty.slice T64):=Z.ot_slice (by kernel_rfl) Tryz.underlying22 ot65
def ot24:Z.OpenT Tryz.prog 24 T23:=Z.ot_struct (by kernel_rfl) Tryz.underlying24 ⟨rfl,ot22⟩
def ot5:Z.OpenT Tryz.prog 5 Z.Ty.byte:=Z.ot_byte (by kernel_rfl) Tryz.underlying5
def ot25:Z.OpenT Tryz.prog 25 (Z.Ty.slice Z.Ty.byte):=Z.ot_slice (by kernel_rfl) Tryz.underlying25 ot5
set_option maxRecDepth 100000 in
def laid_met (os:Os)(args:Array Value):laidMetH Tryz.prog Rows.codecGraphsRow.laid (({World.holding Tryz.prog os ⟨#[],#[],[]⟩with heap:=((World.holding Tryz.prog os ⟨#[],#[],[]⟩).heap.modify 1 (A.putCells A.tabF)).modify 2 (A.putCells A.tabA)}:World).forCall (λ_ _=>0) ⟨#[],args,[]⟩).memory:=by
 rw[MakeChecks.laidMetH_plain _ _ _ (by kernel_rfl)];exact(LaidIn.of_run (l:=Rows.codecGraphsRow.laid) [2,1] 8 (by kernel_rfl) (by kernel_rfl) (by kernel_rfl) (by kernel_rfl)).met
def of_laid {W:World}(h:laidMetH Tryz.prog Rows.codecGraphsRow.laid W):Lib.Utf8Tabs 1 2 W:=by
 rw[MakeChecks.laidMetH_plain _ _ _ (by kernel_rfl)]at h;have H:=Lib.laidMet.reads h (.tail _ (.head _));rw[show Rows.laid_unicode_utf8_first=Lib.firstData from Pinned.utf8First_eq]at H;have J:=Lib.laidMet.reads h (.head _);rw[show(Rows.laid_unicode_utf8_acceptRanges:DataW Unit)=Lib.acceptData by kernel_rfl]at J;exact utf8Tabs_of_readsT (U8Types.of196 Tryz.laysValid) ⟨by kernel_rfl,by kernel_rfl,by kernel_rfl,by kernel_rfl,by kernel_rfl,by kernel_rfl,by kernel_rfl⟩ H J
set_option maxHeartbeats 1000000 in
set_option maxRecDepth 100000 in
def lifted (os:Os)(started:os.Started)(H:Type)(enc:TypeId×Value->H):
  ReturnsInHanded {} Tryz.checked os 3 .any (λw args=>(Rows.codecGraphsSpec.pre enc Tryz.prog Tryz.f3 [] false w args/\laidMetH Tryz.prog Rows.codecGraphsRow.laid w)/\sizedMet enc Tryz.prog Tryz.f3 (OpenSpec.ofChange Rows.codecGraphsSpec) false w args) (Rows.codecGraphsSpec.post enc Tryz.prog Tryz.f3 false true false false):=by
 refine returnsInHanded_of_change_and (C:=Tryz.checked) (X:=λw _=>laidMetH Tryz.prog Rows.codecGraphsRow.laid w) (λ_ _ _ Y h=>h.of_heap Y) own started (by kernel_rfl) Tryz.func3
  (ChangeSpec.witness_shaped (enc:=enc) (C:=Tryz.checked) (os:=os) (X:=λw _=>laidMetH Tryz.prog Rows.codecGraphsRow.laid w) false ({World.holding Tryz.prog os ⟨#[],#[],[]⟩with heap:=((World.holding Tryz.prog os ⟨#[],#[],[]⟩).heap.modify 1 (A.putCells A.tabF)).modify 2 (A.putCells A.tabA)}) #[.agg #[.slice none 0 0],.slice none 0 0] 16 rfl (World.shaped_of_RefB (by kernel_rfl) (by kernel_rfl)) (by kernel_rfl) (by kernel_rfl) (by kernel_rfl) (laid_met os _)) ?_
 intro W base args ds gs before hval0 hW hcnd hsz0 hL _;have hval: ∀(j:Nat) t v,Tryz.f3.params[j]?=some t->args[j]?=some v->Value.okWide Tryz.prog W .any base t v:=hval0;have hW':=hW;obtain⟨p,q,O,hV,rfl,hfz,hnd⟩:=hW;have hA:DataW.TrodAll enc Tryz.prog W 0 (λ_=>true) true Tryz.f3.params.toList args.toList ds p:=O;rw[Tryz.params3]at hA hval;obtain⟨v0,vs0,d0,ds0,p0,q0,hargs,rfl,rfl,h0,r0⟩:=trodAll_cons hA;obtain⟨v1,vs1,d1,ds1,p1,q1,rfl,rfl,rfl,h1,r1⟩:=trodAll_cons r0;obtain⟨rfl,rfl,rfl⟩:=trodAll_nil r1;obtain rfl:args=#[v0,v1]:=by cases args;simp_all
 obtain⟨rfl,rfl⟩:=trodVars_none hV;have k0:=h0;have lt0: ∀x∈p0,x.block<W.heap.size:=by obtain⟨m,hm⟩:=k0;exact DataW.trod_lt m _ _ _ hm
 obtain⟨fu0,hf0⟩:=h0;obtain⟨N,J⟩:=ot24.2 _ _ _ _ _ _ _ _ _ hf0;obtain⟨cs0,rfl,_⟩:=okWide_struct Tryz.underlying24 (hval 0 24 v0 rfl rfl);replace J:T23.rep W (Z.nt []) cs0.toList N:=J;have hok0:=Z.rep_ok _ J;obtain⟨a0,c0,hc0⟩: ∃a c,cs0.toList=[.slice a N.length c]:=by obtain⟨a,c,_,h,_⟩:=J;exact⟨a,c,h⟩
 obtain rfl:cs0=#[.slice a0 N.length c0]:=by rw[<-Wy (xs:=cs0),hc0]
 have k1:=h1;have lt1: ∀x∈p1,x.block<W.heap.size:=by obtain⟨m,hm⟩:=k1;exact DataW.trod_lt m _ _ _ hm
 obtain⟨fu1,hf1⟩:=h1;obtain⟨V,L⟩:=ot25.2 _ _ _ _ _ _ _ _ _ hf1;obtain⟨a1,n1,c1,rfl⟩:=okWide_slice Tryz.underlying25 (hval 1 25 v1 rfl rfl);replace L:(Z.Ty.slice Z.Ty.byte).rep W (Z.nt []) [.slice a1 n1 c1] V:=L;have hn1:=(Z.rep_slice_len L).1;subst hn1;clear O hval0;have htab:=of_laid hL;have hF:F.co N V=some true:=codecGraphs_plain N V hok0 (Z.rep_ok _ L);have hct:=o_a0 a0 a1 c0 c1 N V true hF;refine(hct W (λ_=>True) (A.Hp.start ⟨A.Hall.sh J,A.Hall.sh L,A.Hall.tabs htab⟩)).mono ?_;rintro e W' ⟨v,H',rfl,⟨rfl,rfl⟩,Y⟩;have bel:=Y.ch.below;exact⟨_,rfl,_,_,_,[],_,[],hW',trodAll_mk1 (shut_bool Tryz.underlying4 _),(trodAll_cons_mk (Below.trod laidOut (by kernel_rfl) (W6 (by kernel_rfl)) k0 bel lt0) (trodAll_cons_mk (Below.trod laidOut (by kernel_rfl) (W6 (by kernel_rfl)) k1 bel lt1) trodAll_mk0)),rfl,bel.frame _,λh=>by cases h⟩
def over:Rows.codecGraphsRow.holds Tryz.pinned (OpenSpec.ofChange Rows.codecGraphsSpec):=
 OpenClaim.holds_of_wide 3 Tryz.f3 rfl rfl rfl rfl rfl rfl rfl ⟨rfl,rfl,rfl,rfl,rfl⟩ rfl rfl rfl rfl rfl (by kernel_rfl) Tryz.func3 (by kernel_rfl)
  (W6 (by kernel_rfl)) (by unfold Func.isWrapper;first|(rw[Qc (by decide+kernel)];kernel_rfl)|(rw[Qb (by decide+kernel)];exact⟨rfl,rfl⟩))
  (λos started H enc _=>lifted os started H enc)
def proved:Rows.CodecGraphsCardSaid:=
 Claim7.holds_tied_plain_at .later [] [.data,.pinned] true (true,"63dc9520e23bc9c4a6851dc9f56b4445578876200157983b6b2780ced0dcce14") true
  over (λ_ h=>by cases h) (by kernel_rfl) (λ_ h=>by cases h) codecGraphs_row_tie rfl ⟨rfl,rfl⟩ (by kernel_rfl) rfl
  (λf fn L H=>by
   obtain rfl:f=3:=Xm ((show Tryz.prog.funcNamed Rows.codecGraphsRow.func=some 3 by kernel_rfl).symm.trans L) |>.symm;obtain rfl:fn=Tryz.f3:=(Xm (Tryz.func3.symm.trans H)).symm;exact⟨by kernel_rfl,λj t J=>by
    rw[Tryz.params3]at J;have N:t∈[24,25]:=by simpa using Array.mem_of_getElem? J
    have hall:([24,25].all λu=> !Tryz.prog.wantsStandIn u)=true:=by kernel_rfl
    exact(show Tryz.prog.wantsStandIn t=false by simpa using Wv.1 hall t N)⟩)
  (by kernel_rfl)
#print axioms proved
end Go.Proofs.YtpoabedecgeamaaGreatDoor.codecGraphsDone
end
