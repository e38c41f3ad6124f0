/- The law 'PathsAsks' as it is given: whatever the input, the call returns true, and each argument reads behind it as it read before. No condition but that utf8's two tables hold what the library's text lays, which the card ties. -/
import Derived.Test.YtlbnpmfggfbdoaaGreatDoorRows
import Derived.Test.YtlbnpmfggfbdoaaGreatDoorTie
import Derived.Test.YtlbnpmfggfbdoaaGreatDoorCards
import Derived.Test.YtlbnpmfggfbdoaaGreatDoorA5
import Derived.WalkKit
import Derived.ProofKit
import Derived.OpenShut
import Derived.ChangeOld
import Derived.Below
import Derived.LaidMore
import Derived.Stop.Joined
import Derived.SevenTiedAt
import Derived.Lib.LaidIn
import Derived.Lib.LaidU8T
import Derived.PinnedBridge
import Derived.SizedLaws
section
namespace Go.Proofs.YtlbnpmfggfbdoaaGreatDoor.pathsAsksDone
open Go.ChangeShapes Go.WideShapes Go.ChangeAt Go.RowKit
set_option linter.unusedVariables false
theorem own:ownKnob Tryz.prog.godebug=none:=by kernel_rfl
theorem laidOut:laidOutB Tryz.prog=true:=by kernel_rfl
theorem ot3:Z.OpenT Tryz.prog 3 (Z.Ty.int .i64):=Z.ot_int (by kernel_rfl) Tryz.underlying3
theorem ot40:Z.OpenT Tryz.prog 40 T39:=Z.ot_struct (by kernel_rfl) Tryz.underlying40 ⟨rfl,ot3,rfl,ot3⟩
theorem ot2:Z.OpenT Tryz.prog 2 (Z.Ty.int .i64):=Z.ot_int (by kernel_rfl) Tryz.underlying2
theorem ot43:Z.OpenT Tryz.prog 43 T43:=Z.ot_array (c:=1) (by kernel_rfl) Tryz.underlying43 (by kernel_rfl) (show Z.OpenPs _ [(2,0),(2,1),(2,2),(2,3)] 0 _ from⟨rfl,ot2,rfl,ot2,rfl,ot2,rfl,ot2⟩)
theorem ot45:Z.OpenT Tryz.prog 45 T44:=Z.ot_struct (by kernel_rfl) Tryz.underlying45 ⟨rfl,ot3,rfl,ot3,rfl,ot2,rfl,ot3,rfl,ot43⟩
theorem ot49:Z.OpenT Tryz.prog 49 (Z.Ty.slice T44):=Z.ot_slice (by kernel_rfl) Tryz.underlying49 ot45
theorem ot58:Z.OpenT Tryz.prog 58 T57:=Z.ot_struct (by kernel_rfl) Tryz.underlying58 ⟨rfl,ot40,rfl,ot40,rfl,ot49⟩
theorem ot27:Z.OpenT Tryz.prog 27 (Z.Ty.slice T57):=Z.ot_slice (by kernel_rfl) Tryz.underlying27 ot58
theorem ot63:Z.OpenT Tryz.prog 63 T62:=Z.ot_struct (by kernel_rfl) Tryz.underlying63 ⟨rfl,ot2,rfl,ot3,rfl,ot43⟩
theorem ot5:Z.OpenT Tryz.prog 5 Z.Ty.byte:=Z.ot_byte (by kernel_rfl) Tryz.underlying5
set_option maxRecDepth 100000 in
theorem laid_met (os:Os)(args:Array Value):laidMetH Tryz.prog Rows.pathsAsksRow.laid (({World.holding Tryz.prog os ⟨#[],#[],[]⟩with heap:=((World.holding Tryz.prog os ⟨#[],#[],[]⟩).heap.modify 0 (A.putCells A.tabF)).modify 1 (A.putCells A.tabA)}:World).forCall (fun _ _=>0) ⟨#[],args,[]⟩).memory:=by
 rw[MakeChecks.laidMetH_plain _ _ _ (by kernel_rfl)]
 exact(LaidIn.of_run (l:=Rows.pathsAsksRow.laid) [1,0] 8 (by kernel_rfl) (by kernel_rfl) (by kernel_rfl) (by kernel_rfl)).met
theorem of_laid {W:World}(h:laidMetH Tryz.prog Rows.pathsAsksRow.laid W):Lib.Utf8Tabs 0 1 W:=by
 rw[MakeChecks.laidMetH_plain _ _ _ (by kernel_rfl)]at h
 have h1:=Lib.laidMet.reads h (.tail _ (.head _))
 rw[show Rows.laid_unicode_utf8_first=Lib.firstData from Pinned.utf8First_eq]at h1
 have h2:=Lib.laidMet.reads h (.head _)
 rw[show(Rows.laid_unicode_utf8_acceptRanges:DataW Unit)=Lib.acceptData by kernel_rfl]at h2
 exact utf8Tabs_of_readsT (U8Types.of196 Tryz.laysValid) ⟨by kernel_rfl,by kernel_rfl,by kernel_rfl,by kernel_rfl,by kernel_rfl,by kernel_rfl,by kernel_rfl⟩ h1 h2
set_option maxHeartbeats 1000000 in
set_option maxRecDepth 100000 in
theorem lifted (os:Os)(started:os.Started)(H:Type)(enc:TypeId×Value→H):
  ReturnsInHanded {} Tryz.checked os 7 .any (fun w args=>(Rows.pathsAsksSpec.pre enc Tryz.prog Tryz.f7 [] false w args∧laidMetH Tryz.prog Rows.pathsAsksRow.laid w)∧sizedMet enc Tryz.prog Tryz.f7 (OpenSpec.ofChange Rows.pathsAsksSpec) false w args) (Rows.pathsAsksSpec.post enc Tryz.prog Tryz.f7 false true false false):=by
 refine returnsInHanded_of_change_and (C:=Tryz.checked) (X:=fun w _=>laidMetH Tryz.prog Rows.pathsAsksRow.laid w) (fun _ _ _ hh h=>h.of_heap hh) own started (by kernel_rfl) Tryz.func7
  (ChangeSpec.witness_shaped (enc:=enc) (C:=Tryz.checked) (os:=os) (X:=fun w _=>laidMetH Tryz.prog Rows.pathsAsksRow.laid w) false ({World.holding Tryz.prog os ⟨#[],#[],[]⟩with heap:=((World.holding Tryz.prog os ⟨#[],#[],[]⟩).heap.modify 0 (A.putCells A.tabF)).modify 1 (A.putCells A.tabA)}) #[.slice none 0 0,.slice none 0 0,.agg #[.int .i64 0,.int .i64 0],.agg #[.int .i64 0,.int .i64 0],.agg #[.int .i64 0,.int .i64 0,.int .i64 0,.int .i64 0,.int .i64 0,.int .i64 0],.agg #[.int .i64 0,.int .i64 0,.int .i64 0,.int .i64 0,.int .i64 0,.int .i64 0],.int .u8 0] 16 rfl (World.shaped_of_RefB (by kernel_rfl) (by kernel_rfl)) (by kernel_rfl) (by kernel_rfl) (by kernel_rfl) (laid_met os _)) ?_
 intro W base args ds gs before hval0 hW hcnd hsz0 hL _
 have hval: ∀(j:Nat) t v,Tryz.f7.params[j]?=some t→args[j]?=some v→Value.okWide Tryz.prog W .any base t v:=hval0
 have hW':=hW
 obtain⟨p,q,hA0,hV,rfl,hfz,hnd⟩:=hW
 have hA:DataW.TrodAll enc Tryz.prog W 0 (fun _=>true) true Tryz.f7.params.toList args.toList ds p:=hA0
 rw[Tryz.params7]at hA hval
 obtain⟨v0,vs0,d0,ds0,p0,q0,hargs,rfl,rfl,h0,r0⟩:=trodAll_cons hA
 obtain⟨v1,vs1,d1,ds1,p1,q1,rfl,rfl,rfl,h1,r1⟩:=trodAll_cons r0
 obtain⟨v2,vs2,d2,ds2,p2,q2,rfl,rfl,rfl,h2,r2⟩:=trodAll_cons r1
 obtain⟨v3,vs3,d3,ds3,p3,q3,rfl,rfl,rfl,h3,r3⟩:=trodAll_cons r2
 obtain⟨v4,vs4,d4,ds4,p4,q4,rfl,rfl,rfl,h4,r4⟩:=trodAll_cons r3
 obtain⟨v5,vs5,d5,ds5,p5,q5,rfl,rfl,rfl,h5,r5⟩:=trodAll_cons r4
 obtain⟨v6,vs6,d6,ds6,p6,q6,rfl,rfl,rfl,h6,r6⟩:=trodAll_cons r5
 obtain⟨rfl,rfl,rfl⟩:=trodAll_nil r6
 obtain rfl:args=#[v0,v1,v2,v3,v4,v5,v6]:=by cases args;simp_all
 obtain⟨rfl,rfl⟩:=trodVars_none hV
 have k0:=h0
 have lt0: ∀x∈p0,x.block<W.heap.size:=by obtain⟨m,hm⟩:=k0;exact DataW.trod_lt m _ _ _ hm
 obtain⟨fu0,hf0⟩:=h0
 obtain⟨x0,hx0⟩:=ot27.2 _ _ _ _ _ _ _ _ _ hf0
 obtain⟨a0,n0,c0,rfl⟩:=okWide_slice Tryz.underlying27 (hval 0 27 v0 rfl rfl)
 replace hx0:(Z.Ty.slice T57).rep W (Z.nt []) [.slice a0 n0 c0] x0:=hx0
 have hn0:=(Z.rep_slice_len hx0).1
 subst hn0
 have k1:=h1
 have lt1: ∀x∈p1,x.block<W.heap.size:=by obtain⟨m,hm⟩:=k1;exact DataW.trod_lt m _ _ _ hm
 obtain⟨fu1,hf1⟩:=h1
 obtain⟨x1,hx1⟩:=ot27.2 _ _ _ _ _ _ _ _ _ hf1
 obtain⟨a1,n1,c1,rfl⟩:=okWide_slice Tryz.underlying27 (hval 1 27 v1 rfl rfl)
 replace hx1:(Z.Ty.slice T57).rep W (Z.nt []) [.slice a1 n1 c1] x1:=hx1
 have hn1:=(Z.rep_slice_len hx1).1
 subst hn1
 have k2:=h2
 have lt2: ∀x∈p2,x.block<W.heap.size:=by obtain⟨m,hm⟩:=k2;exact DataW.trod_lt m _ _ _ hm
 obtain⟨fu2,hf2⟩:=h2
 obtain⟨x2,hx2⟩:=ot40.2 _ _ _ _ _ _ _ _ _ hf2
 obtain⟨cs2,rfl,_⟩:=okWide_struct Tryz.underlying40 (hval 2 40 v2 rfl rfl)
 replace hx2:T39.rep W (Z.nt []) cs2.toList x2:=hx2
 have hok2:=Z.rep_ok _ hx2
 obtain⟨ca1,cb2,he3,hr4,hr5⟩:=hx2
 have he6:=hr4.1
 have he7:=hr5.1
 have he2:cs2.toList=[.int .i64 x2.1,.int .i64 x2.2]:=by simp only[he3,he6,he7,List.cons_append,List.nil_append]
 obtain rfl:cs2=#[.int .i64 x2.1,.int .i64 x2.2]:=by rw[←Array.toArray_toList (xs:=cs2),he2]
 have k3:=h3
 have lt3: ∀x∈p3,x.block<W.heap.size:=by obtain⟨m,hm⟩:=k3;exact DataW.trod_lt m _ _ _ hm
 obtain⟨fu3,hf3⟩:=h3
 obtain⟨x3,hx3⟩:=ot40.2 _ _ _ _ _ _ _ _ _ hf3
 obtain⟨cs3,rfl,_⟩:=okWide_struct Tryz.underlying40 (hval 3 40 v3 rfl rfl)
 replace hx3:T39.rep W (Z.nt []) cs3.toList x3:=hx3
 have hok3:=Z.rep_ok _ hx3
 obtain⟨ca8,cb9,he10,hr11,hr12⟩:=hx3
 have he13:=hr11.1
 have he14:=hr12.1
 have he3:cs3.toList=[.int .i64 x3.1,.int .i64 x3.2]:=by simp only[he10,he13,he14,List.cons_append,List.nil_append]
 obtain rfl:cs3=#[.int .i64 x3.1,.int .i64 x3.2]:=by rw[←Array.toArray_toList (xs:=cs3),he3]
 have k4:=h4
 have lt4: ∀x∈p4,x.block<W.heap.size:=by obtain⟨m,hm⟩:=k4;exact DataW.trod_lt m _ _ _ hm
 obtain⟨fu4,hf4⟩:=h4
 obtain⟨x4,hx4⟩:=ot63.2 _ _ _ _ _ _ _ _ _ hf4
 obtain⟨cs4,rfl,_⟩:=okWide_struct Tryz.underlying63 (hval 4 63 v4 rfl rfl)
 replace hx4:T62.rep W (Z.nt []) cs4.toList x4:=hx4
 have hok4:=Z.rep_ok _ hx4
 obtain⟨ca15,cb16,he17,hr18,hr19⟩:=hx4
 have he20:=hr18.1
 obtain⟨ca21,cb22,he23,hr24,hr25⟩:=hr19
 have he26:=hr24.1
 obtain⟨ca27,cb28,he29,hr30,hr31⟩:=hr25
 have he32:=hr30.1
 obtain⟨ca33,cb34,he35,hr36,hr37⟩:=hr31
 have he38:=hr36.1
 obtain⟨ca39,cb40,he41,hr42,hr43⟩:=hr37
 have he44:=hr42.1
 have he45:=hr43.1
 have he4:cs4.toList=[.int .i64 x4.1,.int .i64 x4.2.1,.int .i64 x4.2.2.1,.int .i64 x4.2.2.2.1,.int .i64 x4.2.2.2.2.1,.int .i64 x4.2.2.2.2.2]:=by simp only[he17,he20,he23,he26,he29,he32,he35,he38,he41,he44,he45,List.cons_append,List.nil_append]
 obtain rfl:cs4=#[.int .i64 x4.1,.int .i64 x4.2.1,.int .i64 x4.2.2.1,.int .i64 x4.2.2.2.1,.int .i64 x4.2.2.2.2.1,.int .i64 x4.2.2.2.2.2]:=by rw[←Array.toArray_toList (xs:=cs4),he4]
 have k5:=h5
 have lt5: ∀x∈p5,x.block<W.heap.size:=by obtain⟨m,hm⟩:=k5;exact DataW.trod_lt m _ _ _ hm
 obtain⟨fu5,hf5⟩:=h5
 obtain⟨x5,hx5⟩:=ot63.2 _ _ _ _ _ _ _ _ _ hf5
 obtain⟨cs5,rfl,_⟩:=okWide_struct Tryz.underlying63 (hval 5 63 v5 rfl rfl)
 replace hx5:T62.rep W (Z.nt []) cs5.toList x5:=hx5
 have hok5:=Z.rep_ok _ hx5
 obtain⟨ca46,cb47,he48,hr49,hr50⟩:=hx5
 have he51:=hr49.1
 obtain⟨ca52,cb53,he54,hr55,hr56⟩:=hr50
 have he57:=hr55.1
 obtain⟨ca58,cb59,he60,hr61,hr62⟩:=hr56
 have he63:=hr61.1
 obtain⟨ca64,cb65,he66,hr67,hr68⟩:=hr62
 have he69:=hr67.1
 obtain⟨ca70,cb71,he72,hr73,hr74⟩:=hr68
 have he75:=hr73.1
 have he76:=hr74.1
 have he5:cs5.toList=[.int .i64 x5.1,.int .i64 x5.2.1,.int .i64 x5.2.2.1,.int .i64 x5.2.2.2.1,.int .i64 x5.2.2.2.2.1,.int .i64 x5.2.2.2.2.2]:=by simp only[he48,he51,he54,he57,he60,he63,he66,he69,he72,he75,he76,List.cons_append,List.nil_append]
 obtain rfl:cs5=#[.int .i64 x5.1,.int .i64 x5.2.1,.int .i64 x5.2.2.1,.int .i64 x5.2.2.2.1,.int .i64 x5.2.2.2.2.1,.int .i64 x5.2.2.2.2.2]:=by rw[←Array.toArray_toList (xs:=cs5),he5]
 have k6:=h6
 have lt6: ∀x∈p6,x.block<W.heap.size:=by obtain⟨m,hm⟩:=k6;exact DataW.trod_lt m _ _ _ hm
 obtain⟨fu6,hf6⟩:=h6
 obtain⟨x6,hx6⟩:=ot5.2 _ _ _ _ _ _ _ _ _ hf6
 obtain⟨u6,rfl⟩:=okWide_int Tryz.underlying5 (hval 6 5 v6 rfl rfl)
 have he6:=hx6
 replace he6:u6=(x6.toNat:Int):=by simpa[Value.cells,Z.Ty.rep] using he6
 subst he6
 clear hA0 hval0
 have htab:=of_laid hL
 have hF:F.L10_PathsAsks x0 x1 x2 x3 x4 x5 x6=some true:=pathsAsks_plain x0 x1 x2 x3 x4 x5 x6 (Z.rep_ok _ hx0) (Z.rep_ok _ hx1) hok2 hok3 hok4 hok5 trivial
 have hct:=L10_PathsAsks_ok x0 x1 x2 x3 x4 x5 x6 a0 c0 a1 c1 hok2.1 hok2.2 hok3.1 hok3.2 hok4.1 hok4.2.1 hok4.2.2.1 hok4.2.2.2.1 hok4.2.2.2.2.1 hok4.2.2.2.2.2 hok5.1 hok5.2.1 hok5.2.2.1 hok5.2.2.2.1 hok5.2.2.2.2.1 hok5.2.2.2.2.2 true hF
 refine(hct W (fun _=>True) (A.Hp.start ⟨A.Hall.sh hx0,A.Hall.sh hx1,A.Hall.tabs htab⟩)).mono ?_
 rintro e W' ⟨v,H',rfl,⟨rfl,rfl⟩,hh⟩
 have bel:=hh.ch.below
 exact⟨_,rfl,_,_,_,[],_,[],hW',trodAll_mk1 (shut_bool Tryz.underlying4 _),(trodAll_cons_mk (Below.trod laidOut (by kernel_rfl) (of_decide_eq_true (by kernel_rfl)) k0 bel lt0) (trodAll_cons_mk (Below.trod laidOut (by kernel_rfl) (of_decide_eq_true (by kernel_rfl)) k1 bel lt1) (trodAll_cons_mk (Below.trod laidOut (by kernel_rfl) (of_decide_eq_true (by kernel_rfl)) k2 bel lt2) (trodAll_cons_mk (Below.trod laidOut (by kernel_rfl) (of_decide_eq_true (by kernel_rfl)) k3 bel lt3) (trodAll_cons_mk (Below.trod laidOut (by kernel_rfl) (of_decide_eq_true (by kernel_rfl)) k4 bel lt4) (trodAll_cons_mk (Below.trod laidOut (by kernel_rfl) (of_decide_eq_true (by kernel_rfl)) k5 bel lt5) (trodAll_cons_mk (Below.trod laidOut (by kernel_rfl) (of_decide_eq_true (by kernel_rfl)) k6 bel lt6) trodAll_mk0))))))),rfl,bel.frame _,fun h=>by cases h⟩
theorem over:Rows.pathsAsksRow.holds Tryz.pinned (OpenSpec.ofChange Rows.pathsAsksSpec):=
 OpenClaim.holds_of_wide 7 Tryz.f7 rfl rfl rfl rfl rfl rfl rfl ⟨rfl,rfl,rfl,rfl,rfl⟩ rfl rfl rfl rfl rfl (by kernel_rfl) Tryz.func7 (by kernel_rfl)
  (of_decide_eq_true (by kernel_rfl)) (by unfold Func.isWrapper;first|(rw[if_pos (by decide+kernel)];kernel_rfl)|(rw[if_neg (by decide+kernel)];exact⟨rfl,rfl⟩))
  (fun os started H enc _=>lifted os started H enc)
theorem proved:Rows.PathsAsksCardSaid:=
 Claim7.holds_tied_plain_at .later [] [.data,.pinned] true (true,"0af9d568bb84d7a8a7896f1e0d35c96323cc734ed9264ae90a39a3d574a26123") false
  over (fun _ h=>by cases h) (by kernel_rfl) (fun _ h=>by cases h) pathsAsks_row_tie rfl ⟨rfl,rfl⟩ (by kernel_rfl) rfl
  (fun f fn hf hfn=>by
   obtain rfl:f=7:=Option.some.inj ((show Tryz.prog.funcNamed Rows.pathsAsksRow.func=some 7 by kernel_rfl).symm.trans hf) |>.symm
   obtain rfl:fn=Tryz.f7:=(Option.some.inj (Tryz.func7.symm.trans hfn)).symm
   exact⟨by kernel_rfl,fun j t ht=>by
    rw[Tryz.params7]at ht
    have hm:t∈[27,27,40,40,63,63,5]:=by simpa using Array.mem_of_getElem? ht
    have hall:([27,27,40,40,63,63,5].all fun u=> !Tryz.prog.wantsStandIn u)=true:=by kernel_rfl
    exact(show Tryz.prog.wantsStandIn t=false by simpa using List.all_eq_true.1 hall t hm)⟩)
  (by kernel_rfl)
#print axioms proved
end Go.Proofs.YtlbnpmfggfbdoaaGreatDoor.pathsAsksDone
end
