/- The law 'GraphOn' as it is given: whatever the input, the call returns true, and each argument reads behind it as it read before. No condition but that utf8's two tables hold what the library's text lays, which the card ties. -/
import Derived.Test.YtpdhaldfdeamdaaDoorRows
import Derived.Test.YtpdhaldfdeamdaaDoorTie
import Derived.Test.YtpdhaldfdeamdaaDoorCards
import Derived.Test.YtpdhaldfdeamdaaDoorO3
import Derived.Test.YtpdhaldfdeamdaaDoorO4
import Derived.WalkKit
import Derived.ProofKit
import Derived.OpenShut
import Derived.ChangeOld
import Derived.Below
import Derived.LaidMore
import Derived.Stop.Joined
import Derived.SevenTiedAt
import Derived.Lib.LaidIn
import Derived.Lib.LaidU8T
import Derived.PinnedBridge
import Derived.SizedLaws
section
namespace Go.Proofs.YtpdhaldfdeamdaaDoor.graphOnDone
open Go.ChangeShapes Go.WideShapes Go.ChangeAt Go.RowKit
set_option linter.unusedVariables false
theorem own:ownKnob Tryd.prog.godebug=none:=by kernel_rfl
theorem laidOut:laidOutB Tryd.prog=true:=by kernel_rfl
theorem ot3:Z.OpenT Tryd.prog 3 (Z.Ty.int .i64):=Z.ot_int (by kernel_rfl) Tryd.underlying3
theorem ot29:Z.OpenT Tryd.prog 29 (Z.Ty.slice (Z.Ty.int .i64)):=Z.ot_slice (by kernel_rfl) Tryd.underlying29 ot3
theorem ot2:Z.OpenT Tryd.prog 2 (Z.Ty.int .i64):=Z.ot_int (by kernel_rfl) Tryd.underlying2
theorem ot9:Z.OpenT Tryd.prog 9 Z.Ty.str:=Z.ot_str (by kernel_rfl) Tryd.underlying9
theorem ot31:Z.OpenT Tryd.prog 31 T30:=Z.ot_struct (by kernel_rfl) Tryd.underlying31 ⟨rfl,ot3,rfl,ot2,rfl,ot9⟩
theorem ot33:Z.OpenT Tryd.prog 33 T32:=Z.ot_struct (by kernel_rfl) Tryd.underlying33 ⟨rfl,ot3,rfl,ot3,rfl,ot29,rfl,ot31,rfl,ot9,rfl,ot2,rfl,ot3⟩
theorem ot22:Z.OpenT Tryd.prog 22 (Z.Ty.slice T32):=Z.ot_slice (by kernel_rfl) Tryd.underlying22 ot33
theorem ot24:Z.OpenT Tryd.prog 24 T23:=Z.ot_struct (by kernel_rfl) Tryd.underlying24 ⟨rfl,ot22⟩
theorem ot5:Z.OpenT Tryd.prog 5 Z.Ty.byte:=Z.ot_byte (by kernel_rfl) Tryd.underlying5
theorem ot34:Z.OpenT Tryd.prog 34 (Z.Ty.slice Z.Ty.byte):=Z.ot_slice (by kernel_rfl) Tryd.underlying34 ot5
theorem ot35:Z.OpenT Tryd.prog 35 T35:=Z.ot_array (c:=1) (by kernel_rfl) Tryd.underlying35 (by kernel_rfl) (show Z.OpenPs _ [(2,0),(2,1),(2,2),(2,3)] 0 _ from⟨rfl,ot2,rfl,ot2,rfl,ot2,rfl,ot2⟩)
theorem ot37:Z.OpenT Tryd.prog 37 T36:=Z.ot_struct (by kernel_rfl) Tryd.underlying37 ⟨rfl,ot2,rfl,ot3,rfl,ot35⟩
set_option maxRecDepth 100000 in
theorem laid_met (os:Os)(args:Array Value):laidMetH Tryd.prog Rows.graphOnRow.laid (({World.holding Tryd.prog os ⟨#[],#[],[]⟩with heap:=((World.holding Tryd.prog os ⟨#[],#[],[]⟩).heap.modify 0 (A.putCells A.tabF)).modify 1 (A.putCells A.tabA)}:World).forCall (fun _ _=>0) ⟨#[],args,[]⟩).memory:=by
 rw[MakeChecks.laidMetH_plain _ _ _ (by kernel_rfl)]
 exact(LaidIn.of_run (l:=Rows.graphOnRow.laid) [1,0] 8 (by kernel_rfl) (by kernel_rfl) (by kernel_rfl) (by kernel_rfl)).met
theorem of_laid {W:World}(h:laidMetH Tryd.prog Rows.graphOnRow.laid W):Lib.Utf8Tabs 0 1 W:=by
 rw[MakeChecks.laidMetH_plain _ _ _ (by kernel_rfl)]at h
 have h1:=Lib.laidMet.reads h (.tail _ (.head _))
 rw[show Rows.laid_unicode_utf8_first=Lib.firstData from Pinned.utf8First_eq]at h1
 have h2:=Lib.laidMet.reads h (.head _)
 rw[show(Rows.laid_unicode_utf8_acceptRanges:DataW Unit)=Lib.acceptData by kernel_rfl]at h2
 exact utf8Tabs_of_readsT (U8Types.of196 Tryd.laysValid) ⟨by kernel_rfl,by kernel_rfl,by kernel_rfl,by kernel_rfl,by kernel_rfl,by kernel_rfl,by kernel_rfl⟩ h1 h2
set_option maxHeartbeats 1000000 in
set_option maxRecDepth 100000 in
theorem lifted (os:Os)(started:os.Started)(H:Type)(enc:TypeId×Value→H):
  ReturnsInHanded {} Tryd.checked os 4 .any (fun w args=>(Rows.graphOnSpec.pre enc Tryd.prog Tryd.f4 [] false w args∧laidMetH Tryd.prog Rows.graphOnRow.laid w)∧sizedMet enc Tryd.prog Tryd.f4 (OpenSpec.ofChange Rows.graphOnSpec) false w args) (Rows.graphOnSpec.post enc Tryd.prog Tryd.f4 false true false false):=by
 refine returnsInHanded_of_change_and (C:=Tryd.checked) (X:=fun w _=>laidMetH Tryd.prog Rows.graphOnRow.laid w) (fun _ _ _ hh h=>h.of_heap hh) own started (by kernel_rfl) Tryd.func4
  (ChangeSpec.witness_shaped (enc:=enc) (C:=Tryd.checked) (os:=os) (X:=fun w _=>laidMetH Tryd.prog Rows.graphOnRow.laid w) false ({World.holding Tryd.prog os ⟨#[],#[],[]⟩with heap:=((World.holding Tryd.prog os ⟨#[],#[],[]⟩).heap.modify 0 (A.putCells A.tabF)).modify 1 (A.putCells A.tabA)}) #[.agg #[.slice none 0 0],.slice none 0 0,.agg #[.int .i64 0,.int .i64 0,.int .i64 0,.int .i64 0,.int .i64 0,.int .i64 0]] 16 rfl (World.shaped_of_RefB (by kernel_rfl) (by kernel_rfl)) (by kernel_rfl) (by kernel_rfl) (by kernel_rfl) (laid_met os _)) ?_
 intro W base args ds gs before hval0 hW hcnd hsz0 hL _
 have hval: ∀(j:Nat) t v,Tryd.f4.params[j]?=some t→args[j]?=some v→Value.okWide Tryd.prog W .any base t v:=hval0
 have hW':=hW
 obtain⟨p,q,hA0,hV,rfl,hfz,hnd⟩:=hW
 have hA:DataW.TrodAll enc Tryd.prog W 0 (fun _=>true) true Tryd.f4.params.toList args.toList ds p:=hA0
 rw[Tryd.params4]at hA hval
 obtain⟨v0,vs0,d0,ds0,p0,q0,hargs,rfl,rfl,h0,r0⟩:=trodAll_cons hA
 obtain⟨v1,vs1,d1,ds1,p1,q1,rfl,rfl,rfl,h1,r1⟩:=trodAll_cons r0
 obtain⟨v2,vs2,d2,ds2,p2,q2,rfl,rfl,rfl,h2,r2⟩:=trodAll_cons r1
 obtain⟨rfl,rfl,rfl⟩:=trodAll_nil r2
 obtain rfl:args=#[v0,v1,v2]:=by cases args;simp_all
 obtain⟨rfl,rfl⟩:=trodVars_none hV
 have k0:=h0
 have lt0: ∀x∈p0,x.block<W.heap.size:=by obtain⟨m,hm⟩:=k0;exact DataW.trod_lt m _ _ _ hm
 obtain⟨fu0,hf0⟩:=h0
 obtain⟨x0,hx0⟩:=ot24.2 _ _ _ _ _ _ _ _ _ hf0
 obtain⟨cs0,rfl,_⟩:=okWide_struct Tryd.underlying24 (hval 0 24 v0 rfl rfl)
 replace hx0:T23.rep W (Z.nt []) cs0.toList x0:=hx0
 have hok0:=Z.rep_ok _ hx0
 obtain⟨a0,c0,hc0⟩: ∃a c,cs0.toList=[.slice a x0.length c]:=by obtain⟨a,c,_,h,_⟩:=hx0;exact⟨a,c,h⟩
 obtain rfl:cs0=#[.slice a0 x0.length c0]:=by rw[←Array.toArray_toList (xs:=cs0),hc0]
 have k1:=h1
 have lt1: ∀x∈p1,x.block<W.heap.size:=by obtain⟨m,hm⟩:=k1;exact DataW.trod_lt m _ _ _ hm
 obtain⟨fu1,hf1⟩:=h1
 obtain⟨x1,hx1⟩:=ot34.2 _ _ _ _ _ _ _ _ _ hf1
 obtain⟨a1,n1,c1,rfl⟩:=okWide_slice Tryd.underlying34 (hval 1 34 v1 rfl rfl)
 replace hx1:(Z.Ty.slice Z.Ty.byte).rep W (Z.nt []) [.slice a1 n1 c1] x1:=hx1
 have hn1:=(Z.rep_slice_len hx1).1
 subst hn1
 have k2:=h2
 have lt2: ∀x∈p2,x.block<W.heap.size:=by obtain⟨m,hm⟩:=k2;exact DataW.trod_lt m _ _ _ hm
 obtain⟨fu2,hf2⟩:=h2
 obtain⟨x2,hx2⟩:=ot37.2 _ _ _ _ _ _ _ _ _ hf2
 obtain⟨cs2,rfl,_⟩:=okWide_struct Tryd.underlying37 (hval 2 37 v2 rfl rfl)
 replace hx2:T36.rep W (Z.nt []) cs2.toList x2:=hx2
 have hok2:=Z.rep_ok _ hx2
 obtain⟨ca1,cb2,he3,hr4,hr5⟩:=hx2
 have he6:=hr4.1
 obtain⟨ca7,cb8,he9,hr10,hr11⟩:=hr5
 have he12:=hr10.1
 obtain⟨ca13,cb14,he15,hr16,hr17⟩:=hr11
 have he18:=hr16.1
 obtain⟨ca19,cb20,he21,hr22,hr23⟩:=hr17
 have he24:=hr22.1
 obtain⟨ca25,cb26,he27,hr28,hr29⟩:=hr23
 have he30:=hr28.1
 have he31:=hr29.1
 have he2:cs2.toList=[.int .i64 x2.1,.int .i64 x2.2.1,.int .i64 x2.2.2.1,.int .i64 x2.2.2.2.1,.int .i64 x2.2.2.2.2.1,.int .i64 x2.2.2.2.2.2]:=by simp only[he3,he6,he9,he12,he15,he18,he21,he24,he27,he30,he31,List.cons_append,List.nil_append]
 obtain rfl:cs2=#[.int .i64 x2.1,.int .i64 x2.2.1,.int .i64 x2.2.2.1,.int .i64 x2.2.2.2.1,.int .i64 x2.2.2.2.2.1,.int .i64 x2.2.2.2.2.2]:=by rw[←Array.toArray_toList (xs:=cs2),he2]
 clear hA0 hval0
 have htab:=of_laid hL
 have hF:F.L08_GraphOn x0 x1 x2=some true:=graphOn_plain x0 x1 x2 hok0 (Z.rep_ok _ hx1) hok2
 have hct:=L08_GraphOn_ok x0 x1 x2 a0 c0 a1 c1 hok2.1 hok2.2.1 hok2.2.2.1 hok2.2.2.2.1 hok2.2.2.2.2.1 hok2.2.2.2.2.2 true hF
 refine(hct W (fun _=>True) (A.Hp.start ⟨A.Hall.sh hx0,A.Hall.sh hx1,A.Hall.tabs htab⟩)).mono ?_
 rintro e W' ⟨v,H',rfl,⟨rfl,rfl⟩,hh⟩
 have bel:=hh.ch.below
 exact⟨_,rfl,_,_,_,[],_,[],hW',trodAll_mk1 (shut_bool Tryd.underlying4 _),(trodAll_cons_mk (Below.trod laidOut (by kernel_rfl) (of_decide_eq_true (by kernel_rfl)) k0 bel lt0) (trodAll_cons_mk (Below.trod laidOut (by kernel_rfl) (of_decide_eq_true (by kernel_rfl)) k1 bel lt1) (trodAll_cons_mk (Below.trod laidOut (by kernel_rfl) (of_decide_eq_true (by kernel_rfl)) k2 bel lt2) trodAll_mk0))),rfl,bel.frame _,fun h=>by cases h⟩
theorem over:Rows.graphOnRow.holds Tryd.pinned (OpenSpec.ofChange Rows.graphOnSpec):=
 OpenClaim.holds_of_wide 4 Tryd.f4 rfl rfl rfl rfl rfl rfl rfl ⟨rfl,rfl,rfl,rfl,rfl⟩ rfl rfl rfl rfl rfl (by kernel_rfl) Tryd.func4 (by kernel_rfl)
  (of_decide_eq_true (by kernel_rfl)) (by unfold Func.isWrapper;first|(rw[if_pos (by decide+kernel)];kernel_rfl)|(rw[if_neg (by decide+kernel)];exact⟨rfl,rfl⟩))
  (fun os started H enc _=>lifted os started H enc)
theorem proved:Rows.GraphOnCardSaid:=
 Claim7.holds_tied_plain_at .later [] [.data,.pinned] true (true,"db8a74ffce48f34201fd6f4548a35a6b14d07ad1e760183990a86c244aefa0a8") false
  over (fun _ h=>by cases h) (by kernel_rfl) (fun _ h=>by cases h) graphOn_row_tie rfl ⟨rfl,rfl⟩ (by kernel_rfl) rfl
  (fun f fn hf hfn=>by
   obtain rfl:f=4:=Option.some.inj ((show Tryd.prog.funcNamed Rows.graphOnRow.func=some 4 by kernel_rfl).symm.trans hf) |>.symm
   obtain rfl:fn=Tryd.f4:=(Option.some.inj (Tryd.func4.symm.trans hfn)).symm
   exact⟨by kernel_rfl,fun j t ht=>by
    rw[Tryd.params4]at ht
    have hm:t∈[24,34,37]:=by simpa using Array.mem_of_getElem? ht
    have hall:([24,34,37].all fun u=> !Tryd.prog.wantsStandIn u)=true:=by kernel_rfl
    exact(show Tryd.prog.wantsStandIn t=false by simpa using List.all_eq_true.1 hall t hm)⟩)
  (by kernel_rfl)
#print axioms proved
end Go.Proofs.YtpdhaldfdeamdaaDoor.graphOnDone
end
