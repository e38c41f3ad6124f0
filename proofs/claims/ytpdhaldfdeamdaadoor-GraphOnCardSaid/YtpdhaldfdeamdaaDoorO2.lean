/- Functions on data, and that the code computes them. -/
import Derived.Test.YtpdhaldfdeamdaaDoorO0
import Derived.Test.YtpdhaldfdeamdaaDoorO1
section
set_option linter.unusedVariables false
set_option linter.unusedSimpArgs false
set_option maxRecDepth 20000
set_option maxHeartbeats 8000000
set_option synthInstance.maxSize 1000000
set_option synthInstance.maxHeartbeats 400000
namespace Go.Proofs.YtpdhaldfdeamdaaDoor
open Go.RowKit
def F.graph_plan_out_j1 (y12:Int):Option (Int×Bool):=some (y12,bif decide ((0:Int)≤y12)then decide (y12≤4)else false)
def F.graph_plan_out_j2 (x8:Int):Option (Int×Bool):=some (x8,decide (x8=0))
def F.graph_plan_out_j3 (a1:D32)(x8:Int)(y11:Bool):Option (Int×Bool):=if y11=true then(some (0,false))else(if a1.2.1=12 then(A.gd (Z.R64 (x8+1)) (F.graph_plan_out_j1 (x8+1)))else(if a1.2.1=13 then(A.gd (Z.R64 (x8-1)) (F.graph_plan_out_j1 (x8-1)))else(if a1.2.1=11 then(F.graph_plan_out_j2 x8)else(if a1.2.1=16 then(F.graph_plan_out_j2 x8)else(if a1.2.1=15 then(F.graph_plan_out_j2 x8)else(F.graph_plan_out_j1 x8))))))
def F.graph_plan_out (a0:((List (Int×D32))×(List Int)×(List (Int×Int))))(a1:D32):Option (Int×Bool):=if a1.2.1=1 then(some (0,true))else(if a1.2.1=14 then(some (a1.2.2.2.2.2.2,true))else((A.ix a1.2.2.1 0).bind fun x2=>(A.lt (Z.mget (0:Int) a0.2.2 x2) fun x8=>(if(1:Int)<((a1.2.2.1).length:Int)then((A.ix a1.2.2.1 1).bind fun x16=>(A.lt (Z.mget (0:Int) a0.2.2 x16) fun x22=>(F.graph_plan_out_j3 a1 x8 (decide (x22≠x8)))))else(F.graph_plan_out_j3 a1 x8 false)))))
theorem graph_plan_out_ok (a0:((List (Int×D32))×(List Int)×(List (Int×Int))))(a1:D32)(g0_:Nat)(b1_:Nat)(A2_:Option Addr)(c3_:Nat)(b4_:Nat)(A7_:Option Addr)(c8_:Nat)(h5_:IntKind.i64.has a1.1)(h6_:IntKind.i64.has a1.2.1)(h9_:IntKind.i64.has a1.2.2.2.1.1)(h10_:IntKind.i64.has a1.2.2.2.1.2.1)(h11_:a1.2.2.2.1.2.2.size≤maxLen)(h12_:a1.2.2.2.2.1.size≤maxLen)(h13_:IntKind.i64.has a1.2.2.2.2.2.1)(h14_:IntKind.i64.has a1.2.2.2.2.2.2)(r:Int×Bool)(hF:F.graph_plan_out a0 a1=some r):
    A.Ct Tryd.prog 73 [.pointer (some ⟨g0_,0,none⟩),.agg #[.int .i64 a1.1,.int .i64 a1.2.1,.slice A7_ ((a1.2.2.1).length) c8_,.int .i64 a1.2.2.2.1.1,.int .i64 a1.2.2.2.1.2.1,.string a1.2.2.2.1.2.2,.string a1.2.2.2.2.1,.int .i64 a1.2.2.2.2.2.1,.int .i64 a1.2.2.2.2.2.2]] [(0,.blk g0_ 95 [.map (some b1_),.slice A2_ ((a0.2.1).length) c3_,.map (some b4_)]),(1,.mp Int (fun i:Int=>.int .i64 i) T32 true b1_ a0.1),(2,.own (Z.Ty.int .i64) 3 A2_ c3_ a0.2.1),(3,.mp Int (fun i:Int=>.int .i64 i) (Z.Ty.int .i64) false b4_ a0.2.2),(4,.sh (.slice (Z.Ty.int .i64)) [.slice A7_ (a1.2.2.1).length c8_] a1.2.2.1)] ([g0_]++([b1_]++(Z.obl A2_++([b4_]++[])))) (fun v H'=>v=.tuple #[.int .i64 r.1,.bool r.2]∧H'=[(0,.blk g0_ 95 [.map (some b1_),.slice A2_ ((a0.2.1).length) c3_,.map (some b4_)]),(1,.mp Int (fun i:Int=>.int .i64 i) T32 true b1_ a0.1),(2,.own (Z.Ty.int .i64) 3 A2_ c3_ a0.2.1),(3,.mp Int (fun i:Int=>.int .i64 i) (Z.Ty.int .i64) false b4_ a0.2.2)]∧IntKind.i64.has r.1):=by
 refine A.Ct.enter Tryd.func73 rfl Tryd.ntmps73 rfl fun w0 F0=>?_
 rw[F.graph_plan_out]at hF
 refine A.xl 1 ?_
 refine A.AL.box 5 (cs:=[.int .i64 a1.1,.int .i64 a1.2.1,.slice A7_ ((a1.2.2.1).length) c8_,.int .i64 a1.2.2.2.1.1,.int .i64 a1.2.2.2.1.2.1,.string a1.2.2.2.1.2.2,.string a1.2.2.2.2.1,.int .i64 a1.2.2.2.2.2.1,.int .i64 a1.2.2.2.2.2.2]) fun g1=>?_
 refine A.q0 [] [] [.n,.n] [] ?_
 refine A.dl 3 ?_
 refine A.q0 [5] [] [.n,.b 0 1] [(8,.int .i64 a1.2.1)] ?_
 refine A.dl 3 ?_
 refine A.q0 [] [] [.n,.n] [(9,.bool (decide (a1.2.1=1)))] ?_
 refine A.dx 1 ?_
 refine A.AX.cnd rfl hF (fun hb hF=>?_) (fun hb hF=>?_)
 ·refine A.xl 1 ?_
  refine A.q0 [] [] [.n,.n] [(4,.int .i64 0),(5,.bool true)] ?_
  refine A.dx 1 ?_
  obtain rfl:=Option.some.inj hF
  exact A.rt2 [(0,0),(1,1),(2,2),(3,3)] ⟨rfl,rfl,(A.hasl .i64 (0) rfl)⟩
 refine A.xl 1 ?_
 refine A.q0 [] [] [.n,.n] [(11,.bool (decide (a1.2.1=14)))] ?_
 refine A.dx 1 ?_
 refine A.AX.cnd rfl hF (fun hb hF=>?_) (fun hb hF=>?_)
 ·refine A.xl 1 ?_
  refine A.q0 [5] [] [.n,.b 0 8,.n,.n] [(4,.int .i64 a1.2.2.2.2.2.2),(5,.bool true)] ?_
  refine A.dx 1 ?_
  obtain rfl:=Option.some.inj hF
  exact A.rt2 [(0,0),(1,1),(2,2),(3,3)] ⟨rfl,rfl,h14_⟩
 refine A.xx 4 ?_
 refine A.AX.dr mixed 10 10 (A.mb 10 0) ?_
 refine A.hq A.pb [] [0,1,2,3,4,5] [5,0] [] (A.mb 10 63) 4 [(0,.n),(4,.n),(1,.n),(5,.b 0 2),(2,.n),(3,.b 1 2)] [(20,.slice A7_ ((a1.2.2.1).length) c8_),(18,.map (some b4_))] ?_
 obtain⟨x2,hv3,hF⟩:=A.bd_some hF
 refine A.AH.pks 4 6 hv3 fun ho4=>?_
 intro b6 o7 hA5
 refine A.AH.v A.pb [0,1,2,3,4,5] [0,1,2,3,4,5,6] 6 (A.mb 10 127) rfl (fun a w hf hh=>A.r_ixa (t:=(Z.Ty.int .i64)) hv3 hA5 hf) ?_
 refine A.hq A.pb [0,1,2,3,4,5,6] [0,1,2,3,4,5,6] [] [6] (A.mb 10 255) 2 [(7,.e 0 0)] [(22,.int .i64 x2)] ?_
 obtain⟨x8,hv9,hF⟩:=A.lt_some hF
 refine A.okm (t:=(Z.Ty.int .i64)) 3 x2 (z:=(0:Int)) (zs:=[.int .i64 0]) ⟨rfl,by decide⟩ hv9 fun ho10=>?_
 refine A.AH.v A.pb [0,1,2,3,4,5,6] [0,1,2,3,4,5,6] 8 (A.mb 10 511) rfl (fun a w hf hh=>A.r_lkf (t:=(Z.Ty.int .i64)) (ok:=false) (z:=(0:Int)) (zs:=[.int .i64 0]) 3 ky3 x2 Tryd.zeroValue3 ⟨rfl,by decide⟩ hv9 rfl hf hh) ?_
 refine A.hq A.pb [0,1,2,3,4,5,6] [0,1,2,3,4,5,6] [] [] (A.mb 10 1023) 0 [(9,.n)] [(6,.int .i64 x8)] ?_
 refine A.AH.done ?_
 refine A.ex 2 ?_
 refine A.AX.join [3,6] [0,1,2,3,4,5] (fun nl nh=>∃(y11:Bool),nl=[(40,.bool y11)]∧nh=[]∧F.graph_plan_out_j3 a1 x8 y11=some r) ?_ ?_
 ·refine A.AX.dr mixed 17 17 (A.mb 17 0) ?_
  refine A.hq A.pb [] [0,1,2,3,4,5,6] [5] [] (A.mb 17 31) 12 [(0,.n),(1,.b 0 2),(2,.n),(3,.n),(4,.n)] [(28,.bool (decide ((1:Int)<((a1.2.2.1).length:Int))))] ?_
  refine A.AH.cnp (j:=28) rfl hF (fun hb hF=>?_) (fun hb hF=>?_)
  ·refine A.hq A.pb [0,1,2,3,4,5,6] [0,1,2,3,4,5,6] [5,0] [] (A.mb 17 18431) 5 [(5,.on .n),(9,.on .n),(14,.on .n),(6,.on .n),(10,.on (.b 0 2)),(7,.on .n),(8,.on (.b 1 2))] [(38,.int .i64 x8),(34,.slice A7_ ((a1.2.2.1).length) c8_),(32,.map (some b4_))] ?_
   obtain⟨x16,hv17,hF⟩:=A.bd_some hF
   refine A.AH.pks 4 7 hv17 fun ho18=>?_
   intro b20 o21 hA19
   refine A.AH.vg A.pb [0,1,2,3,4,5,6] [0,1,2,3,4,5,6,7] 11 (A.mb 17 20479) (dj:=28) rfl (fun a w hf hh=>A.r_ixa (t:=(Z.Ty.int .i64)) hv17 hA19 hf) ?_
   refine A.hq A.pb [0,1,2,3,4,5,6,7] [0,1,2,3,4,5,6,7] [] [7] (A.mb 17 24575) 3 [(12,.on (.e 0 0))] [(36,.int .i64 x16)] ?_
   obtain⟨x22,hv23,hF⟩:=A.lt_some hF
   refine A.okm (t:=(Z.Ty.int .i64)) 3 x16 (z:=(0:Int)) (zs:=[.int .i64 0]) ⟨rfl,by decide⟩ hv23 fun ho24=>?_
   refine A.AH.vg A.pb [0,1,2,3,4,5,6,7] [0,1,2,3,4,5,6,7] 13 (A.mb 17 32767) (dj:=28) rfl (fun a w hf hh=>A.r_lkf (t:=(Z.Ty.int .i64)) (ok:=false) (z:=(0:Int)) (zs:=[.int .i64 0]) 3 ky3 x16 Tryd.zeroValue3 ⟨rfl,by decide⟩ hv23 rfl hf hh) ?_
   refine A.hq A.pb [0,1,2,3,4,5,6,7] [0,1,2,3,4,5,6,7] [] [] (A.mb 17 131071) 0 [(15,.on .n),(16,.n)] [(40,.bool (decide (x22≠x8)))] ?_
   refine A.AH.done ?_
   exact A.j ⟨(decide (x22≠x8)),rfl,rfl,hF⟩
  refine A.hq A.pb [0,1,2,3,4,5,6] [0,1,2,3,4,5,6] [] [] (A.mb 17 131071) 0 [(5,.off),(9,.off),(14,.off),(6,.off),(10,.off),(7,.off),(11,.off),(8,.off),(12,.off),(13,.off),(15,.off),(16,.n)] [(40,.bool false)] ?_
  refine A.AH.done ?_
  exact A.j ⟨false,rfl,rfl,hF⟩
 rintro _ _ ⟨y11,rfl,rfl,hF⟩
 rw[F.graph_plan_out_j3]at hF
 refine A.AX.cnb rfl hF (fun hb hF=>?_) (fun hb hF=>?_)
 ·refine A.xl 1 ?_
  refine A.q0 [] [] [.n,.n] [(4,.int .i64 0),(5,.bool false)] ?_
  refine A.dx 1 ?_
  obtain rfl:=Option.some.inj hF
  exact A.rt2 [(0,0),(1,1),(2,2),(3,3)] ⟨rfl,rfl,(A.hasl .i64 (0) rfl)⟩
 refine A.xx 2 ?_
 refine A.AX.join [] [0,1,2,3] (fun nl nh=>∃(y12:Int),nl=[(6,.int .i64 y12)]∧nh=[]∧IntKind.i64.has y12∧F.graph_plan_out_j1 y12=some r) ?_ ?_
 ·refine A.xl 1 ?_
  refine A.q0 [5] [] [.n,.b 0 1] [(42,.int .i64 a1.2.1)] ?_
  refine A.dx 2 ?_
  refine A.AX.join [6] [0,1,2,3] (fun nl nh=>nl=[]∧nh=[]∧F.graph_plan_out_j2 x8=some r) ?_ ?_
  ·refine A.xl 10 ?_
   refine A.q0 [] [] [.n,.n] [(43,.bool (decide (a1.2.1=12)))] ?_
   refine A.dx 1 ?_
   refine A.AX.cnd rfl hF (fun hb hF=>?_) (fun hb hF=>?_)
   ·refine A.xl 3 ?_
    obtain⟨hc14,hF⟩:=A.gd_some hF
    refine A.q [] [] [.n,.n,.n] [Z.R64 (x8+1)] [(6,.int .i64 (x8+1))] hc14 ?_
    refine A.de 2 ?_
    exact A.j ⟨(x8+1),rfl,rfl,(Z.i64_has hc14),hF⟩
   refine A.xl 4 ?_
   refine A.q0 [] [] [.n,.n] [(45,.bool (decide (a1.2.1=13)))] ?_
   refine A.dx 1 ?_
   refine A.AX.cnd rfl hF (fun hb hF=>?_) (fun hb hF=>?_)
   ·refine A.xl 3 ?_
    obtain⟨hc15,hF⟩:=A.gd_some hF
    refine A.q [] [] [.n,.n,.n] [Z.R64 (x8-1)] [(6,.int .i64 (x8-1))] hc15 ?_
    refine A.de 2 ?_
    exact A.j ⟨(x8-1),rfl,rfl,(Z.i64_has hc15),hF⟩
   refine A.xl 4 ?_
   refine A.q0 [] [] [.n,.n] [(47,.bool (decide (a1.2.1=11)))] ?_
   refine A.dx 1 ?_
   refine A.AX.cnd rfl hF (fun hb hF=>?_) (fun hb hF=>?_)
   ·refine A.xe 3 ?_
    exact A.j ⟨rfl,rfl,hF⟩
   refine A.xl 4 ?_
   refine A.q0 [] [] [.n,.n] [(49,.bool (decide (a1.2.1=16)))] ?_
   refine A.dx 1 ?_
   refine A.AX.cnd rfl hF (fun hb hF=>?_) (fun hb hF=>?_)
   ·refine A.xe 2 ?_
    exact A.j ⟨rfl,rfl,hF⟩
   refine A.xl 3 ?_
   refine A.q0 [] [] [.n,.n] [(51,.bool (decide (a1.2.1=15)))] ?_
   refine A.dx 1 ?_
   refine A.AX.cnd rfl hF (fun hb hF=>?_) (fun hb hF=>?_)
   ·refine A.xe 1 ?_
    exact A.j ⟨rfl,rfl,hF⟩
   refine A.xe 3 ?_
   exact A.j ⟨x8,rfl,rfl,ho10,hF⟩
  rintro _ _ ⟨rfl,rfl,hF⟩
  rw[F.graph_plan_out_j2]at hF
  refine A.xl 2 ?_
  refine A.q0 [] [] [.n,.n,.n,.n,.n] [(4,.int .i64 x8),(5,.bool (decide (x8=0)))] ?_
  refine A.dx 1 ?_
  obtain rfl:=Option.some.inj hF
  exact A.rt2 [(0,0),(1,1),(2,2),(3,3)] ⟨rfl,rfl,ho10⟩
 rintro _ _ ⟨y12,rfl,rfl,hy13,hF⟩
 rw[F.graph_plan_out_j1]at hF
 refine A.xl 1 ?_
 refine A.q0 [] [] [.n,.n,.n,.n,.sy .n,.sy .n,.pk,.n,.n] [(4,.int .i64 y12),(5,.bool (bif decide ((0:Int)≤y12)then decide (y12≤4)else false))] ?_
 refine A.dx 1 ?_
 obtain rfl:=Option.some.inj hF
 exact A.rt2 [(0,0),(1,1),(2,2),(3,3)] ⟨rfl,rfl,hy13⟩
def F.graph_plan_depths_j1 (a0:((List (Int×D32))×(List Int)×(List (Int×Int))))(m1:List (Int×Int))(y32:Bool):Option (Option (Bool×((List (Int×D32))×(List Int)×(List (Int×Int))))):=if y32=true then(some (some (false,(a0.1,a0.2.1,m1))))else(some none)
def F.graph_plan_depths_b2 (a0:((List (Int×D32))×(List Int)×(List (Int×Int))))(m1:List (Int×Int))(p23:Int×D32):Option (Option (Bool×((List (Int×D32))×(List Int)×(List (Int×Int))))):=if p23.2.2.1=14 then((A.ix p23.2.2.2.1 0).bind fun x33=>(A.lt (Z.mget (0:Int) m1 x33) fun x39=>(F.graph_plan_depths_j1 a0 m1 (decide (x39≠p23.2.2.2.2.2.2.2)))))else(F.graph_plan_depths_j1 a0 m1 false)
def F.graph_plan_depths_l3 (a0:((List (Int×D32))×(List Int)×(List (Int×Int)))):Nat→(List (Int×Int))→Int→Option (Bool×((List (Int×D32))×(List Int)×(List (Int×Int))))
 |0,_,_=>none
 |f+1,m1,y2=>if y2<((a0.2.1).length:Int)then((A.ix a0.2.1 y2).bind fun x5=>(A.lt (Z.mget ((0,0,[],(0,0,(ByteArray.mk #[])),(ByteArray.mk #[]),0,0):D32) a0.1 x5) fun x10=>((F.graph_plan_out (a0.1,a0.2.1,m1) (x10.1,x10.2.1,x10.2.2.1,(x10.2.2.2.1.1,x10.2.2.2.1.2.1,x10.2.2.2.1.2.2),x10.2.2.2.2.1,x10.2.2.2.2.2.1,x10.2.2.2.2.2.2)).bind fun r15=>(if(!r15.2)=true then(some (false,(a0.1,a0.2.1,m1)))else(A.gd (Z.R64 (y2+1)) ((F.graph_plan_depths_l3 a0 f) (Z.mins m1 x5 r15.1) (y2+1)))))))else(A.mrg (F.graph_plan_depths_b2 a0 m1) (some (true,(a0.1,a0.2.1,m1))) a0.1)
def F.graph_plan_depths (a0:((List (Int×D32))×(List Int)×(List (Int×Int)))):Option (Bool×((List (Int×D32))×(List Int)×(List (Int×Int)))):=F.graph_plan_depths_l3 a0 A.FU a0.2.2 0
theorem graph_plan_depths_ok (a0:((List (Int×D32))×(List Int)×(List (Int×Int))))(g0_:Nat)(b1_:Nat)(A2_:Option Addr)(c3_:Nat)(b4_:Nat)(r:Bool×((List (Int×D32))×(List Int)×(List (Int×Int))))(hF:F.graph_plan_depths a0=some r):
    A.Ct Tryd.prog 52 [.pointer (some ⟨g0_,0,none⟩)] [(0,.blk g0_ 95 [.map (some b1_),.slice A2_ ((a0.2.1).length) c3_,.map (some b4_)]),(1,.mp Int (fun i:Int=>.int .i64 i) T32 true b1_ a0.1),(2,.own (Z.Ty.int .i64) 3 A2_ c3_ a0.2.1),(3,.mp Int (fun i:Int=>.int .i64 i) (Z.Ty.int .i64) false b4_ a0.2.2)] ([g0_]++([b1_]++(Z.obl A2_++([b4_]++[])))) (fun v H'=>∃(b0':Nat) (A1':Option Addr) (c2':Nat) (b3':Nat),v=.bool r.1∧H'=[(0,.blk g0_ 95 [.map (some b0'),.slice A1' ((r.2.2.1).length) c2',.map (some b3')]),(1,.mp Int (fun i:Int=>.int .i64 i) T32 true b0' r.2.1),(2,.own (Z.Ty.int .i64) 3 A1' c2' r.2.2.1),(3,.mp Int (fun i:Int=>.int .i64 i) (Z.Ty.int .i64) false b3' r.2.2.2)]):=by
 refine A.Ct.enter Tryd.func52 rfl Tryd.ntmps52 rfl fun w0 F0=>?_
 rw[F.graph_plan_depths]at hF
 refine A.xl 1 ?_
 refine A.q0 [] [] [.n] [] ?_
 refine A.dl 3 ?_
 refine A.q0 [0] [] [.n,.n,.n,.b 0 1,.n,.n] [(12,.slice A2_ ((a0.2.1).length) c3_),(13,.int .i64 ((a0.2.1).length:Int)),(14,.int .i64 0)] ?_
 refine A.dx 2 ?_
 refine A.lp_ [0,12,13] [0,1,2] (fun f nl nh=>∃(m1:List (Int×Int)),∃(y2:Int),nl=[(14,.int .i64 y2)]∧nh=[(3,.mp Int (fun i:Int=>.int .i64 i) (Z.Ty.int .i64) false b4_ m1)]∧IntKind.i64.has y2∧F.graph_plan_depths_l3 a0 f m1 y2=some r) ⟨a0.2.2,0,rfl,rfl,(A.hasl .i64 (0) rfl),hF⟩ ?_
 rintro f4 _ _ ⟨m1,y2,rfl,rfl,hy3,hF⟩
 rcases f4 with _|f4
 ·exact A.no0 hF
 rw[F.graph_plan_depths_l3]at hF
 refine A.xl 1 ?_
 refine A.q0 [] [] [.n] [(15,.bool (decide (y2<((a0.2.1).length:Int))))] ?_
 refine A.dx 2 ?_
 refine A.AX.cnd rfl hF (fun hb hF=>?_) (fun hb hF=>?_)
 ·refine A.xl 5 ?_
  obtain⟨x5,hv6,hF⟩:=A.bd_some hF
  refine A.AL.ixo 2 96 hv6 fun ho7=>?_
  intro g8 hA9
  refine A.q0 [] [96] [.e 0 0,.n] [(4,.int .i64 x5)] ?_
  refine A.dl 2 ?_
  refine A.q0 [0] [] [.n,.n,.n,.n,.b 0 0,.n] [(19,.pointer (some ⟨g0_,0,none⟩)),(23,.map (some b1_)),(24,.int .i64 x5)] ?_
  obtain⟨x10,hv11,hF⟩:=A.lt_some hF
  refine A.AL.lku (t:=T32) 1 97 (z:=((0,0,[],(0,0,(ByteArray.mk #[])),(ByteArray.mk #[]),0,0):D32)) (zs:=[.int .i64 0,.int .i64 0,.slice none 0 0,.int .i64 0,.int .i64 0,.string (ByteArray.mk #[]),.string (ByteArray.mk #[]),.int .i64 0,.int .i64 0]) ky3 x5 Tryd.zeroValue33 ⟨⟨rfl,by decide⟩,⟨rfl,by decide⟩,(.inr ⟨rfl,rfl⟩),⟨⟨rfl,by decide⟩,⟨rfl,by decide⟩,⟨rfl,by decide⟩⟩,⟨rfl,by decide⟩,⟨rfl,by decide⟩,⟨rfl,by decide⟩⟩ hv11 fun ho12=>?_
  intro A13 c14
  obtain⟨r15,hv16,hF⟩:=A.bd_some hF
  refine A.AL.call 98 [96] (first:=[]) (cap:=[]) cf73 (graph_plan_out_ok (a0.1,a0.2.1,m1) (x10.1,x10.2.1,x10.2.2.1,(x10.2.2.2.1.1,x10.2.2.2.1.2.1,x10.2.2.2.1.2.2),x10.2.2.2.2.1,x10.2.2.2.2.2.1,x10.2.2.2.2.2.2) g0_ b1_ A2_ c3_ b4_ A13 c14 ho12.1 ho12.2.1 ho12.2.2.2.1.1 ho12.2.2.2.1.2.1 ho12.2.2.2.1.2.2 ho12.2.2.2.2.1 ho12.2.2.2.2.2.1 ho12.2.2.2.2.2.2 r15 hv16) (.m 0 (.m 1 (.m 2 (.m 3 (.s 97 .nil))))) ?_
  rintro _ _ ⟨rfl,rfl,hr17⟩
  refine⟨by kernel_rfl,?_⟩
  refine A.mvd 98 0 [] ?_
  refine A.mvd 99 1 [] ?_
  refine A.mvd 100 2 [] ?_
  refine A.mvd 101 3 [] ?_
  refine A.q0 [] [] [.n,.n,.n,.n,.n] [(5,.int .i64 r15.1),(6,.bool r15.2)] ?_
  refine A.dl 3 ?_
  refine A.q0 [] [] [.n,.n] [(30,.bool (!r15.2))] ?_
  refine A.dx 1 ?_
  refine A.AX.cnb rfl hF (fun hb hF=>?_) (fun hb hF=>?_)
  ·refine A.xl 1 ?_
   refine A.q0 [] [] [.n] [(2,.bool false)] ?_
   refine A.dx 1 ?_
   obtain rfl:=Option.some.inj hF
   exact A.rt1 [(0,0),(1,1),(2,2),(3,3)] ⟨b1_,A2_,c3_,b4_,rfl,rfl⟩
  refine A.xl 2 ?_
  refine A.q0 [0] [] [.n,.n,.n,.b 0 2,.n,.n] [(34,.map (some b4_)),(35,.int .i64 x5),(36,.int .i64 r15.1)] ?_
  refine A.AL.mup (t:=(Z.Ty.int .i64)) 3 [] (cs:=[.int .i64 r15.1]) (u:=r15.1) ky3 x5 ⟨rfl,hr17⟩ ?_
  refine A.dl 2 ?_
  obtain⟨hc18,hF⟩:=A.gd_some hF
  refine A.q [] [] [.n,.n] [Z.R64 (y2+1)] [(14,.int .i64 (y2+1))] hc18 ?_
  refine A.AL.done ?_
  exact A.j ⟨_,Nat.lt_succ_self _,⟨(Z.mins m1 x5 r15.1),(y2+1),rfl,rfl,(Z.i64_has hc18),hF⟩⟩
 refine A.xl 4 ?_
 refine A.q0 [0] [] [.n,.n,.n,.b 0 0] [(41,.map (some b1_))] ?_
 refine A.AL.rgm 1 138 fun g19=>?_
 refine A.dx 2 ?_
 obtain⟨hev,hend⟩:=A.mrg_all hF
 refine A.AX.loop [0,42] [0,1,2,3] [138,0,1,2,3] (fun f nl nh=>∃(sn:List Nat) (la:Option (Value×Value)),nl=[]∧nh=[(138,.mit 1 g19 b1_ (a0.1).length sn la)]∧sn.Nodup∧(∀i∈sn,i<(a0.1).length)∧(∀i∈sn,∀p,(a0.1)[i]?=some p→F.graph_plan_depths_b2 a0 m1 p=some none)∧f+sn.length=(a0.1).length+1) ((a0.1).length+1) [] [(138,.mit 1 g19 b1_ (a0.1).length [] none)] ⟨[],none,rfl,rfl,List.nodup_nil,by simp,by simp,rfl⟩ ?_
 rintro f22 _ _ ⟨sn20,la21,rfl,rfl,hnd,hbd,hse,hff⟩
 refine A.xl 1 ?_
 refine A.AL.nxm 1 138 139 (fun hall=>?_) (fun i24 p23 hp25 hs26 ho27=>?_)
 ·replace hF:=hend (A.seen_all hse hall)
  refine A.q0 [] [] [.n] [(44,.bool false)] ?_
  refine A.dx 2 ?_
  refine A.AX.cnf rfl ?_
  refine A.xl 3 ?_
  refine A.q0 [] [] [.n] [(2,.bool true)] ?_
  refine A.dx 1 ?_
  obtain rfl:=Option.some.inj hF
  exact A.rt1 [(0,0),(1,1),(2,2),(3,3)] ⟨b1_,A2_,c3_,b4_,rfl,rfl⟩
 intro A28 c29
 obtain⟨q,hB,hq⟩:=hev p23 (List.mem_of_getElem? hp25)
 have hF:=hB
 rw[F.graph_plan_depths_b2]at hF
 refine A.q0 [] [] [.n] [(44,.bool true)] ?_
 refine A.dx 2 ?_
 refine A.AX.cnt rfl ?_
 refine A.xl 4 ?_
 refine A.AL.ent 138 ?_
 refine A.q0 [] [] [.n] [(46,.agg #[.int .i64 p23.2.1,.int .i64 p23.2.2.1,.slice A28 ((p23.2.2.2.1).length) c29,.int .i64 p23.2.2.2.2.1.1,.int .i64 p23.2.2.2.2.1.2.1,.string p23.2.2.2.2.1.2.2,.string p23.2.2.2.2.2.1,.int .i64 p23.2.2.2.2.2.2.1,.int .i64 p23.2.2.2.2.2.2.2])] ?_
 refine A.AL.alloc 140 (cs:=[.int .i64 0,.int .i64 0,.slice none 0 0,.int .i64 0,.int .i64 0,.string (ByteArray.mk #[]),.string (ByteArray.mk #[]),.int .i64 0,.int .i64 0]) Tryd.zeroValue33 fun g31=>?_
 refine A.sw 140 [] [.int .i64 p23.2.1,.int .i64 p23.2.2.1,.slice A28 ((p23.2.2.2.1).length) c29,.int .i64 p23.2.2.2.2.1.1,.int .i64 p23.2.2.2.2.1.2.1,.string p23.2.2.2.2.1.2.2,.string p23.2.2.2.2.2.1,.int .i64 p23.2.2.2.2.2.2.1,.int .i64 p23.2.2.2.2.2.2.2] ?_
 refine A.dx 1 ?_
 refine A.AX.join [0,42] [0,1,2,3,138] (fun nl nh=>∃(y32:Bool),nl=[(63,.bool y32)]∧nh=[]∧F.graph_plan_depths_j1 a0 m1 y32=some q) ?_ ?_
 ·refine A.AX.dr mixed 17 17 (A.mb 17 0) ?_
  refine A.hq A.pb [] [0,1,2,3,138,139,140] [140] [] (A.mb 17 15) 13 [(0,.n),(1,.b 0 1),(2,.n),(3,.n)] [(50,.bool (decide (p23.2.2.1=14)))] ?_
  refine A.AH.cnp (j:=50) rfl hF (fun hb hF=>?_) (fun hb hF=>?_)
  ·refine A.hq A.pb [0,1,2,3,138,139,140] [0,1,2,3,138,139,140] [140,0] [] (A.mb 17 25599) 5 [(4,.on .n),(8,.on .n),(13,.on .n),(5,.on .n),(9,.on (.b 0 2)),(14,.on (.b 0 8)),(6,.on .n),(7,.on (.b 1 2))] [(56,.slice A28 ((p23.2.2.2.1).length) c29),(61,.int .i64 p23.2.2.2.2.2.2.2),(54,.map (some b4_))] ?_
   obtain⟨x33,hv34,hF⟩:=A.bd_some hF
   refine A.AH.pks 139 141 hv34 fun ho35=>?_
   intro b37 o38 hA36
   refine A.AH.vg A.pb [0,1,2,3,138,139,140] [0,1,2,3,138,139,140,141] 10 (A.mb 17 26623) (dj:=50) rfl (fun a w hf hh=>A.r_ixa (t:=(Z.Ty.int .i64)) hv34 hA36 hf) ?_
   refine A.hq A.pb [0,1,2,3,138,139,140,141] [0,1,2,3,138,139,140,141] [] [141] (A.mb 17 28671) 3 [(11,.on (.e 0 0))] [(58,.int .i64 x33)] ?_
   obtain⟨x39,hv40,hF⟩:=A.lt_some hF
   refine A.okm (t:=(Z.Ty.int .i64)) 3 x33 (z:=(0:Int)) (zs:=[.int .i64 0]) ⟨rfl,by decide⟩ hv40 fun ho41=>?_
   refine A.AH.vg A.pb [0,1,2,3,138,139,140,141] [0,1,2,3,138,139,140,141] 12 (A.mb 17 32767) (dj:=50) rfl (fun a w hf hh=>A.r_lkf (t:=(Z.Ty.int .i64)) (ok:=false) (z:=(0:Int)) (zs:=[.int .i64 0]) 3 ky3 x33 Tryd.zeroValue3 ⟨rfl,by decide⟩ hv40 rfl hf hh) ?_
   refine A.hq A.pb [0,1,2,3,138,139,140,141] [0,1,2,3,138,139,140,141] [] [] (A.mb 17 131071) 0 [(15,.on .n),(16,.n)] [(63,.bool (decide (x39≠p23.2.2.2.2.2.2.2)))] ?_
   refine A.AH.done ?_
   exact A.j ⟨(decide (x39≠p23.2.2.2.2.2.2.2)),rfl,rfl,hF⟩
  refine A.hq A.pb [0,1,2,3,138,139,140] [0,1,2,3,138,139,140] [] [] (A.mb 17 131071) 0 [(4,.off),(8,.off),(13,.off),(5,.off),(9,.off),(14,.off),(6,.off),(10,.off),(7,.off),(11,.off),(12,.off),(15,.off),(16,.n)] [(63,.bool false)] ?_
  refine A.AH.done ?_
  exact A.j ⟨false,rfl,rfl,hF⟩
 rintro _ _ ⟨y32,rfl,rfl,hF⟩
 rw[F.graph_plan_depths_j1]at hF
 refine A.AX.cnb rfl hF (fun hb hF=>?_) (fun hb hF=>?_)
 ·refine A.xl 1 ?_
  refine A.q0 [] [] [.n] [(2,.bool false)] ?_
  refine A.dx 1 ?_
  obtain rfl:=Option.some.inj hF
  obtain rfl:=Option.some.inj (hq.resolve_left (by intro h;cases h))
  exact A.rt1 [(0,0),(1,1),(2,2),(3,3)] ⟨b1_,A2_,c3_,b4_,rfl,rfl⟩
 refine A.xe 2 ?_
 obtain rfl:=Option.some.inj hF
 exact A.AE.j [138,0,1,2,3] [] [(138,.mit 1 g19 b1_ (a0.1).length (i24::sn20) (some (.int .i64 p23.1,.agg #[.int .i64 p23.2.1,.int .i64 p23.2.2.1,.slice A28 ((p23.2.2.2.1).length) c29,.int .i64 p23.2.2.2.2.1.1,.int .i64 p23.2.2.2.2.1.2.1,.string p23.2.2.2.2.1.2.2,.string p23.2.2.2.2.2.1,.int .i64 p23.2.2.2.2.2.2.1,.int .i64 p23.2.2.2.2.2.2.2])))] ⟨_,(A.seen_f hnd (A.seen_bd hbd hp25) hs26 hff).1,_,_,rfl,rfl,List.nodup_cons.2 ⟨hs26,hnd⟩,A.seen_bd hbd hp25,A.seen_cons hse hp25 hB,(A.seen_f hnd (A.seen_bd hbd hp25) hs26 hff).2⟩
def F.slices_Values_api_Node_api_Node (a0:(List D32)):Option ((List D32)):=some a0
theorem slices_Values_api_Node_api_Node_ok (a0:(List D32))(A0_:Option Addr)(c1_:Nat)(r:((List D32)))(hF:F.slices_Values_api_Node_api_Node a0=some r):
    A.Ct Tryd.prog 79 [.slice A0_ ((a0).length) c1_] [(0,.sh (.slice T32) [.slice A0_ (a0).length c1_] a0)] [] (fun v H'=>∃(g0':Nat) (A1':Option Addr) (c2':Nat),v=.func (.func 95) #[] #[.pointer (some ⟨g0',0,none⟩)]∧H'=[(0,.blk g0' 22 [.slice A1' ((r).length) c2']),(1,.sh (.slice T32) [.slice A1' (r).length c2'] r)]):=by
 refine A.Ct.enter Tryd.func79 rfl Tryd.ntmps79 rfl fun w0 F0=>?_
 rw[F.slices_Values_api_Node_api_Node]at hF
 refine A.xl 1 ?_
 refine A.AL.box 1 (cs:=[.slice A0_ ((a0).length) c1_]) fun g1=>?_
 refine A.q0 [] [] [.n] [] ?_
 refine A.dl 2 ?_
 refine A.q0 [] [] [.n,.n] [(2,.func (.func 95) #[] #[.pointer (some ⟨g1,0,none⟩)])] ?_
 refine A.dx 1 ?_
 obtain rfl:=Option.some.inj hF
 exact A.rt1 [(0,1),(1,0)] ⟨g1,A0_,c1_,rfl,rfl⟩
end Go.Proofs.YtpdhaldfdeamdaaDoor
end
section
set_option linter.unusedVariables false
set_option linter.unusedSimpArgs false
set_option maxRecDepth 20000
set_option maxHeartbeats 8000000
set_option synthInstance.maxSize 1000000
set_option synthInstance.maxHeartbeats 400000
namespace Go.Proofs.YtpdhaldfdeamdaaDoor
open Go.RowKit
def F.slices_Values_api_Node_api_Node_1_it_l1 (b0:(List D32)):Nat→Int→Option (List D32)
 |0,_=>none
 |f+1,y1=>if y1<((b0).length:Int)then((A.ix b0 y1).bind fun x9=>(A.cns (x9.1,x9.2.1,x9.2.2.1,(x9.2.2.2.1.1,x9.2.2.2.1.2.1,x9.2.2.2.1.2.2),x9.2.2.2.2.1,x9.2.2.2.2.2.1,x9.2.2.2.2.2.2) (A.gd (Z.R64 (y1+1)) ((F.slices_Values_api_Node_api_Node_1_it_l1 b0 f) (y1+1)))))else(some [])
def F.slices_Values_api_Node_api_Node_1_it (b0:(List D32)):Option (List D32):=F.slices_Values_api_Node_api_Node_1_it_l1 b0 A.FU 0
theorem slices_Values_api_Node_api_Node_1_it_sq (b0:(List D32))(g0_:Nat)(A1_:Option Addr)(c2_:Nat)(xs:List D32)(hF:F.slices_Values_api_Node_api_Node_1_it b0=some xs):
    A.Sq Tryd.prog 95 [.pointer (some ⟨g0_,0,none⟩)] [(0,.el none g0_ 0 [.slice A1_ ((b0).length) c2_]),(1,.sh (.slice T32) [.slice A1_ (b0).length c2_] b0)] T32 (fun cs=>[Z.vof true cs]) xs:=by
 refine A.Sq.enter Tryd.func95 rfl Tryd.ntmps95 rfl fun lid w0 J Jx Φ hY hJ0=>?_
 obtain⟨rs0,hrs⟩: ∃rs0,rs0=xs:=⟨_,rfl⟩
 have hR0:A.Rem xs 0 rs0:=hrs▸A.Rem.zero xs
 rw[F.slices_Values_api_Node_api_Node_1_it,←hrs]at hF
 clear hrs
 refine A.xl 1 ?_
 refine A.q0 [] [0] [.e 0 0,.n,.n] [(5,.slice A1_ ((b0).length) c2_),(6,.int .i64 ((b0).length:Int)),(7,.int .i64 0)] ?_
 refine A.dx 2 ?_
 refine A.AX.loopC (A.CY 16 Φ) (0,w0) [0,5,6] [1] [1] (fun f i nl nh=>∃(y1:Int),∃(rs:List D32),nl=[(7,.int .i64 y1)]∧nh=[]∧IntKind.i64.has y1∧J i.1 i.2∧A.Rem xs i.1 rs∧F.slices_Values_api_Node_api_Node_1_it_l1 b0 f y1=some rs) A.FU [(7,.int .i64 0)] [] ⟨0,_,rfl,rfl,(A.hasl .i64 (0) rfl),hJ0,hR0,hF⟩ ?_
 rintro f3 ⟨k4,w5⟩ _ _ ⟨y1,rs8,rfl,rfl,hy2,hJ6,hR7,hF⟩
 rcases f3 with _|f3
 ·exact A.no0 hF
 rw[F.slices_Values_api_Node_api_Node_1_it_l1]at hF
 refine A.xl 1 ?_
 refine A.q0 [] [] [.n] [(8,.bool (decide (y1<((b0).length:Int))))] ?_
 refine A.dx 2 ?_
 refine A.AX.cnd rfl hF (fun hb hF=>?_) (fun hb hF=>?_)
 ·refine A.xl 5 ?_
  obtain⟨x9,hv10,hF⟩:=A.bd_some hF
  refine A.AL.ixs 1 8 hv10 fun ho11=>?_
  intro A12 c13 b14 o15
  refine A.q0 [] [8] [.e 0 0] [(10,.agg #[.int .i64 x9.1,.int .i64 x9.2.1,.slice A12 ((x9.2.2.1).length) c13,.int .i64 x9.2.2.2.1.1,.int .i64 x9.2.2.2.1.2.1,.string x9.2.2.2.1.2.2,.string x9.2.2.2.2.1,.int .i64 x9.2.2.2.2.2.1,.int .i64 x9.2.2.2.2.2.2])] ?_
  refine A.AL.alloc 10 (cs:=[.int .i64 0,.int .i64 0,.slice none 0 0,.int .i64 0,.int .i64 0,.string (ByteArray.mk #[]),.string (ByteArray.mk #[]),.int .i64 0,.int .i64 0]) Tryd.zeroValue33 fun g16=>?_
  refine A.sw 10 [] [.int .i64 x9.1,.int .i64 x9.2.1,.slice A12 ((x9.2.2.1).length) c13,.int .i64 x9.2.2.2.1.1,.int .i64 x9.2.2.2.1.2.1,.string x9.2.2.2.1.2.2,.string x9.2.2.2.2.1,.int .i64 x9.2.2.2.2.2.1,.int .i64 x9.2.2.2.2.2.2] ?_
  refine A.dl 2 ?_
  refine A.q0 [10] [] [.n,.b 0 0] [(11,.func (.yield lid) #[] #[]),(12,.agg #[.int .i64 x9.1,.int .i64 x9.2.1,.slice A12 ((x9.2.2.1).length) c13,.int .i64 x9.2.2.2.1.1,.int .i64 x9.2.2.2.1.2.1,.string x9.2.2.2.1.2.2,.string x9.2.2.2.2.1,.int .i64 x9.2.2.2.2.2.1,.int .i64 x9.2.2.2.2.2.2])] ?_
  obtain⟨rs17,hqrs17,hF⟩:=A.cns_some hF
  refine A.AL.yield hY hJ6 (hqrs17▸hR7) [.int .i64 x9.1,.int .i64 x9.2.1,.slice A12 ((x9.2.2.1).length) c13,.int .i64 x9.2.2.2.1.1,.int .i64 x9.2.2.2.1.2.1,.string x9.2.2.2.1.2.2,.string x9.2.2.2.2.1,.int .i64 x9.2.2.2.2.2.1,.int .i64 x9.2.2.2.2.2.2] ⟨⟨rfl,ho11.1⟩,⟨rfl,ho11.2.1⟩,.inl ⟨9,rfl⟩,⟨⟨rfl,ho11.2.2.2.1.1⟩,⟨rfl,ho11.2.2.2.1.2.1⟩,⟨rfl,ho11.2.2.2.1.2.2⟩⟩,⟨rfl,ho11.2.2.2.2.1⟩,⟨rfl,ho11.2.2.2.2.2.1⟩,⟨rfl,ho11.2.2.2.2.2.2⟩⟩ (fun w18 hJ19 hR20=>?_) (fun w18 hX21=>?_)
  ·refine A.q0 [] [] [.n] [(14,.bool false)] ?_
   refine A.dx 1 ?_
   refine A.AX.cnf rfl ?_
   refine A.xl 3 ?_
   obtain⟨hc22,hF⟩:=A.gd_some hF
   refine A.q [] [] [.n,.n] [Z.R64 (y1+1)] [(7,.int .i64 (y1+1))] hc22 ?_
   refine A.AL.done ?_
   exact A.AE.jC (k4+1,w18) [1] [(7,.int .i64 (y1+1))] [] ⟨_,Nat.lt_succ_self _,⟨(y1+1),_,rfl,rfl,(Z.i64_has hc22),hJ19,hR20,hF⟩⟩
  refine A.q0 [] [] [.n] [(14,.bool true)] ?_
  refine A.dx 1 ?_
  refine A.AX.cnt rfl ?_
  exact A.AX.rtX hY hX21
 refine A.xe 1 ?_
 obtain rfl:=Option.some.inj hF
 exact A.AE.rtY hY hJ6 hR7
def F.graph_users_j1 (k5:(List D42)→Int→Option (List D42))(y44:Int)(xs49:List D42):Option (List D42):=A.gd (Z.R64 (y44+1)) (k5 xs49 (y44+1))
def F.graph_users_l2 (k4:(List D42)→Option (List D42))(a1:Int)(y32:D32):Nat→(List D42)→Int→Option (List D42)
 |0,_,_=>none
 |f+1,xs43,y44=>if y44<((y32.2.2.1).length:Int)then((A.ix y32.2.2.1 y44).bind fun x51=>(if x51=a1 then(A.gd ((List.length (α:=D42) xs43+List.length (α:=D42) [(y32.1,y44)])*16≤140737488355328) (F.graph_users_j1 (F.graph_users_l2 k4 a1 y32 f) y44 (xs43++[(y32.1,y44)])))else(F.graph_users_j1 (F.graph_users_l2 k4 a1 y32 f) y44 xs43)))else(k4 xs43)
def F.graph_users_l3 (a1:Int):List D32→(List D42)→Option (List D42)
 | [],xs39=>some xs39
 |y32::f,xs39=>F.graph_users_l2 (F.graph_users_l3 a1 f) a1 y32 A.FU xs39 0
def F.graph_users (a0:D23)(a1:Int):Option (List D42):=(F.slices_Values_api_Node_api_Node a0).bind fun r4=>((F.slices_Values_api_Node_api_Node_1_it r4).bind fun xs23=>F.graph_users_l3 a1 xs23 [])
theorem graph_users_ok (a0:D23)(a1:Int)(A0_:Option Addr)(c1_:Nat)(h2_:IntKind.i64.has a1)(r:(List D42))(hF:F.graph_users a0 a1=some r):
    A.Ct Tryd.prog 56 [.agg #[.slice A0_ ((a0).length) c1_],.int .i64 a1] [(0,.sh (.slice T32) [.slice A0_ (a0).length c1_] a0)] [] (fun v H'=>∃(A0':Option Addr) (c1':Nat),v=.slice A0' ((r).length) c1'∧H'=[(0,.own T42 43 A0' c1' r)]):=by
 refine A.Ct.enterM Tryd.func56 rfl Tryd.ntmps56 rfl fun w0 F0=>?_
 rw[F.graph_users]at hF
 refine A.xl 1 ?_
 refine A.AL.box 1 (cs:=[.slice A0_ ((a0).length) c1_]) fun g1=>?_
 refine A.AL.box 2 (cs:=[.int .i64 a1]) fun g2=>?_
 refine A.q0 [] [] [.n] [] ?_
 refine A.dl 2 ?_
 refine A.AL.alloc 3 (cs:=[.slice none 0 0]) Tryd.zeroValue102 fun g3=>?_
 refine A.dl 3 ?_
 refine A.q0 [1] [] [.n,.b 0 0] [(10,.slice A0_ ((a0).length) c1_)] ?_
 obtain⟨r4,hv5,hF⟩:=A.bd_some hF
 refine A.AL.call 4 [] (first:=[]) (cap:=[]) cf79 (slices_Values_api_Node_api_Node_ok a0 A0_ c1_ r4 hv5) (.s 0 .nil) ?_
 rintro _ _ ⟨g6,A7,c8,rfl,rfl⟩
 refine⟨by kernel_rfl,?_⟩
 refine A.dx 2 ?_
 refine A.nil 61 T42 43 ?_
 obtain⟨xs23,hv24,hF⟩:=A.bd_some hF
 refine A.AX.rgf 62 63 64 [2,4,5] [3,61,2,4,5] [63,62,3,61,2,4,5] (fun k nh=>∃(xs39:List D42),∃(A37:Option Addr),∃(c38:Nat),nh=[(3,.blk g3 102 [.slice A37 ((xs39).length) c38]),(61,.own T42 43 A37 c38 xs39)]∧F.graph_users_l3 a1 (List.drop k xs23) xs39=some r) [(3,.blk g3 102 [.slice none 0 0]),(61,.own T42 43 none 0 [])] cf95 (slices_Values_api_Node_api_Node_1_it_sq r4 g6 A7 c8 xs23 hv24) (fun _=>rfl) ⟨[],none,0,rfl,hF⟩ ?_ ?_ ?_
 ·rintro k31 _ D25 L26 ⟨xs39,A37,c38,rfl,hF⟩
  exact⟨⟨_,(.b 4 (.s 5 .nil))⟩,rfl,fun o=>rfl⟩
 ·rintro k31 _ y32 D25 L26 w30 o27 ⟨xs39,A37,c38,rfl,hF⟩ hx35 hxo36 hh29
  intro A33 c34
  rw[A.drop_at hx35,F.graph_users_l3]at hF
  refine A.xl 0 ?_
  refine A.AL.alloc 79 (cs:=[.int .i64 0,.int .i64 0,.slice none 0 0,.int .i64 0,.int .i64 0,.string (ByteArray.mk #[]),.string (ByteArray.mk #[]),.int .i64 0,.int .i64 0]) Tryd.zeroValue33 fun g40=>?_
  refine A.sw 79 [] [.int .i64 y32.1,.int .i64 y32.2.1,.slice A33 ((y32.2.2.1).length) c34,.int .i64 y32.2.2.2.1.1,.int .i64 y32.2.2.2.1.2.1,.string y32.2.2.2.1.2.2,.string y32.2.2.2.2.1,.int .i64 y32.2.2.2.2.2.1,.int .i64 y32.2.2.2.2.2.2] ?_
  refine A.AL.done ?_
  refine A.AE.flip 62 63 fun o28=>?_
  refine A.xl 2 ?_
  refine A.q0 [79] [] [.n,.b 0 2,.n,.n] [(14,.slice A33 ((y32.2.2.1).length) c34),(15,.int .i64 ((y32.2.2.1).length:Int)),(16,.int .i64 0)] ?_
  refine A.dx 2 ?_
  refine A.lp_ [3,5,6,14,15] [2,4,5,62,63,64,79] (fun f nl nh=>∃(xs43:List D42),∃(y44:Int),∃(A41:Option Addr),∃(c42:Nat),nl=[(16,.int .i64 y44)]∧nh=[(3,.blk g3 102 [.slice A41 ((xs43).length) c42]),(61,.own T42 43 A41 c42 xs43)]∧IntKind.i64.has y44∧F.graph_users_l2 (F.graph_users_l3 a1 (List.drop (k31+1) xs23)) a1 y32 f xs43 y44=some r) ⟨xs39,0,A37,c38,rfl,rfl,(A.hasl .i64 (0) rfl),hF⟩ ?_
  rintro f46 _ _ ⟨xs43,y44,A41,c42,rfl,rfl,hy45,hF⟩
  rcases f46 with _|f46
  ·exact A.no0 hF
  rw[F.graph_users_l2]at hF
  refine A.xl 1 ?_
  refine A.q0 [] [] [.n] [(17,.bool (decide (y44<((y32.2.2.1).length:Int))))] ?_
  refine A.dx 2 ?_
  refine A.AX.cnd rfl hF (fun hb hF=>?_) (fun hb hF=>?_)
  ·refine A.xx 2 ?_
   refine A.AX.join [3,5,6,14,15,16] [2,4,5,62,63,64,79] (fun nl nh=>∃(xs49:List D42),∃(A47:Option Addr),∃(c48:Nat),nl=[]∧nh=[(3,.blk g3 102 [.slice A47 ((xs49).length) c48]),(61,.own T42 43 A47 c48 xs49)]∧F.graph_users_j1 (F.graph_users_l2 (F.graph_users_l3 a1 (List.drop (k31+1) xs23)) a1 y32 f46) y44 xs49=some r) ?_ ?_
   ·refine A.xl 2 ?_
    refine A.q0 [] [] [.n] [(18,.int .i64 y44)] ?_
    obtain⟨x51,hv52,hF⟩:=A.bd_some hF
    refine A.AL.ixs 64 84 hv52 fun ho53=>?_
    intro b54 o55
    refine A.q0 [] [84] [.e 0 0,.n,.n] [(7,.int .i64 y44),(8,.int .i64 x51)] ?_
    refine A.dl 2 ?_
    refine A.q0 [2] [] [.n,.b 0 0,.n] [(23,.bool (decide (x51=a1)))] ?_
    refine A.dx 1 ?_
    refine A.AX.cnd rfl hF (fun hb hF=>?_) (fun hb hF=>?_)
    ·refine A.xl 0 ?_
     refine A.q0 [3,79] [] [.b 0 0,.n,.b 1 0,.n,.n] [(24,.slice A41 ((xs43).length) c42),(28,.agg #[.int .i64 y32.1,.int .i64 y44])] ?_
     refine A.AL.bsl 85 (ty:=T42) (cs:=[.int .i64 y32.1,.int .i64 y44]) [(y32.1,y44)] ⟨⟨⟨rfl,hxo36.1⟩,⟨rfl,hy45⟩⟩,rfl⟩ (fun g56=>?_) Tryd.zeroValue43 Tryd.sizeOf43
     obtain⟨hl59,hF⟩:=A.gd_some hF
     refine A.AL.app (k:=61) [] (A.rowO (k:=85) rfl) inf43 hl59 fun A57 c58=>?_
     refine A.sw 3 [] [.slice A57 ((xs43++[(y32.1,y44)]).length) c58] ?_
     refine A.de 1 ?_
     exact A.j ⟨(xs43++[(y32.1,y44)]),A57,c58,rfl,rfl,hF⟩
    refine A.xe 2 ?_
    exact A.j ⟨xs43,A41,c42,rfl,rfl,hF⟩
   rintro _ _ ⟨xs49,A47,c48,rfl,rfl,hF⟩
   rw[F.graph_users_j1]at hF
   refine A.xl 0 ?_
   obtain⟨hc50,hF⟩:=A.gd_some hF
   refine A.q [] [] [.n,.n] [Z.R64 (y44+1)] [(16,.int .i64 (y44+1))] hc50 ?_
   refine A.AL.done ?_
   exact A.j ⟨_,Nat.lt_succ_self _,⟨xs49,(y44+1),A47,c48,rfl,rfl,(Z.i64_has hc50),hF⟩⟩
  refine A.xe 2 ?_
  exact A.AE.bn hh29 [63,62,3,61,2,4,5] 100000 [(63,100063),(62,100062),(3,100003),(61,100061),(2,100002),(4,100004),(5,100005)] [(3,.blk g3 102 [.slice A41 ((xs43).length) c42]),(61,.own T42 43 A41 c42 xs43)] ⟨xs43,A41,c42,rfl,hF⟩ rfl rfl
 rintro _ D25 L26 ⟨xs39,A37,c38,rfl,hF⟩
 rw[List.drop_length,F.graph_users_l3]at hF
 refine A.el 3 ?_
 refine A.q0 [3] [] [.b 0 0,.n] [(4,.slice A37 ((xs39).length) c38)] ?_
 refine A.dx 1 ?_
 obtain rfl:=Option.some.inj hF
 exact A.AX.rtM (Ds:=[D25]) [62] [(0,61)] (.slice A37 ((xs39).length) c38) (⟨rfl,trivial⟩) (fun a w hf hh=>Z.resv1 rfl (Z.rv_t hf rfl)) (⟨A37,c38,rfl,rfl⟩)
def F.summ_step (a0:Int)(a1:Int)(a2:Int)(a3:D44):Option (D44×Int):=if(bif decide (a0<a1)then true else decide (a2<a0))=true then(some ((0,0,0,0,(0,0,0,0)),11))else(some ((a0,a3.2.1,a3.2.2.1,a3.2.2.2.1,(a3.2.2.2.2.1,a3.2.2.2.2.2.1,a3.2.2.2.2.2.2.1,a3.2.2.2.2.2.2.2)),0))
theorem summ_step_ok (a0:Int)(a1:Int)(a2:Int)(a3:D44)(h0_:IntKind.i64.has a0)(h1_:IntKind.i64.has a1)(h2_:IntKind.i64.has a2)(h3_:IntKind.i64.has a3.1)(h4_:IntKind.i64.has a3.2.1)(h5_:IntKind.i64.has a3.2.2.1)(h6_:IntKind.i64.has a3.2.2.2.1)(h7_:IntKind.i64.has a3.2.2.2.2.1)(h8_:IntKind.i64.has a3.2.2.2.2.2.1)(h9_:IntKind.i64.has a3.2.2.2.2.2.2.1)(h10_:IntKind.i64.has a3.2.2.2.2.2.2.2)(r:D44×Int)(hF:F.summ_step a0 a1 a2 a3=some r):
    A.Ct Tryd.prog 78 [.int .i64 a0,.int .i64 a1,.int .i64 a2,.agg #[.int .i64 a3.1,.int .i64 a3.2.1,.int .i64 a3.2.2.1,.int .i64 a3.2.2.2.1,.int .i64 a3.2.2.2.2.1,.int .i64 a3.2.2.2.2.2.1,.int .i64 a3.2.2.2.2.2.2.1,.int .i64 a3.2.2.2.2.2.2.2]] [] [] (fun v H'=>v=.tuple #[.agg #[.int .i64 r.1.1,.int .i64 r.1.2.1,.int .i64 r.1.2.2.1,.int .i64 r.1.2.2.2.1,.int .i64 r.1.2.2.2.2.1,.int .i64 r.1.2.2.2.2.2.1,.int .i64 r.1.2.2.2.2.2.2.1,.int .i64 r.1.2.2.2.2.2.2.2],.int .i64 r.2]∧H'=[]∧IntKind.i64.has r.1.1∧IntKind.i64.has r.1.2.1∧IntKind.i64.has r.1.2.2.1∧IntKind.i64.has r.1.2.2.2.1∧IntKind.i64.has r.1.2.2.2.2.1∧IntKind.i64.has r.1.2.2.2.2.2.1∧IntKind.i64.has r.1.2.2.2.2.2.2.1∧IntKind.i64.has r.1.2.2.2.2.2.2.2∧IntKind.i64.has r.2):=by
 refine A.Ct.enter Tryd.func78 rfl Tryd.ntmps78 rfl fun w0 F0=>?_
 rw[F.summ_step]at hF
 refine A.xl 1 ?_
 refine A.AL.box 0 (cs:=[.int .i64 a3.1,.int .i64 a3.2.1,.int .i64 a3.2.2.1,.int .i64 a3.2.2.2.1,.int .i64 a3.2.2.2.2.1,.int .i64 a3.2.2.2.2.2.1,.int .i64 a3.2.2.2.2.2.2.1,.int .i64 a3.2.2.2.2.2.2.2]) fun g1=>?_
 refine A.AL.alloc 1 (cs:=[.int .i64 0,.int .i64 0,.int .i64 0,.int .i64 0,.int .i64 0,.int .i64 0,.int .i64 0,.int .i64 0]) Tryd.zeroValue45 fun g2=>?_
 refine A.q0 [] [] [.n] [] ?_
 refine A.dl 3 ?_
 refine A.q0 [] [] [.n,.n,.n,.n,.sy .n,.sy .n,.sy .n,.pk] [(17,.bool (bif decide (a0<a1)then true else decide (a2<a0)))] ?_
 refine A.dx 1 ?_
 refine A.AX.cnb rfl hF (fun hb hF=>?_) (fun hb hF=>?_)
 ·refine A.xl 1 ?_
  refine A.q0 [] [] [.n] [(18,.agg #[.int .i64 0,.int .i64 0,.int .i64 0,.int .i64 0,.int .i64 0,.int .i64 0,.int .i64 0,.int .i64 0])] ?_
  refine A.sw 1 [] [.int .i64 0,.int .i64 0,.int .i64 0,.int .i64 0,.int .i64 0,.int .i64 0,.int .i64 0,.int .i64 0] ?_
  refine A.q0 [] [] [.n] [(9,.int .i64 11)] ?_
  refine A.dx 1 ?_
  obtain rfl:=Option.some.inj hF
  exact A.AX.ret [] (.tuple #[.agg #[.int .i64 0,.int .i64 0,.int .i64 0,.int .i64 0,.int .i64 0,.int .i64 0,.int .i64 0,.int .i64 0],.int .i64 11]) (fun a w hf hh=>Z.resv2 rfl (Z.rv_n hf rfl Tryd.isAgg45 Tryd.sizeOf45 (A.Hp.blk hh 1) rfl) (Z.rv_t hf rfl)) (⟨rfl,rfl,(A.hasl .i64 (0) rfl),(A.hasl .i64 (0) rfl),(A.hasl .i64 (0) rfl),(A.hasl .i64 (0) rfl),(A.hasl .i64 (0) rfl),(A.hasl .i64 (0) rfl),(A.hasl .i64 (0) rfl),(A.hasl .i64 (0) rfl),(A.hasl .i64 (11) rfl)⟩)
 refine A.xl 3 ?_
 refine A.q0 [] [] [.n,.n] [(19,.int .i64 a0),(20,.pointer (some ⟨g1,0,none⟩))] ?_
 refine A.AL.store 0 [] (new:=[.int .i64 a0]) (cs':=[.int .i64 a0,.int .i64 a3.2.1,.int .i64 a3.2.2.1,.int .i64 a3.2.2.2.1,.int .i64 a3.2.2.2.2.1,.int .i64 a3.2.2.2.2.2.1,.int .i64 a3.2.2.2.2.2.2.1,.int .i64 a3.2.2.2.2.2.2.2]) ?_
 refine A.dl 2 ?_
 refine A.q0 [0] [] [.b 0 0] [(21,.agg #[.int .i64 a0,.int .i64 a3.2.1,.int .i64 a3.2.2.1,.int .i64 a3.2.2.2.1,.int .i64 a3.2.2.2.2.1,.int .i64 a3.2.2.2.2.2.1,.int .i64 a3.2.2.2.2.2.2.1,.int .i64 a3.2.2.2.2.2.2.2])] ?_
 refine A.sw 1 [] [.int .i64 a0,.int .i64 a3.2.1,.int .i64 a3.2.2.1,.int .i64 a3.2.2.2.1,.int .i64 a3.2.2.2.2.1,.int .i64 a3.2.2.2.2.2.1,.int .i64 a3.2.2.2.2.2.2.1,.int .i64 a3.2.2.2.2.2.2.2] ?_
 refine A.q0 [] [] [.n] [(9,.int .i64 0)] ?_
 refine A.dx 1 ?_
 obtain rfl:=Option.some.inj hF
 exact A.AX.ret [] (.tuple #[.agg #[.int .i64 a0,.int .i64 a3.2.1,.int .i64 a3.2.2.1,.int .i64 a3.2.2.2.1,.int .i64 a3.2.2.2.2.1,.int .i64 a3.2.2.2.2.2.1,.int .i64 a3.2.2.2.2.2.2.1,.int .i64 a3.2.2.2.2.2.2.2],.int .i64 0]) (fun a w hf hh=>Z.resv2 rfl (Z.rv_n hf rfl Tryd.isAgg45 Tryd.sizeOf45 (A.Hp.blk hh 1) rfl) (Z.rv_t hf rfl)) (⟨rfl,rfl,h0_,h4_,h5_,h6_,h7_,h8_,h9_,h10_,(A.hasl .i64 (0) rfl)⟩)
def F.summ_Enter (a0:Int):Option (D44×Int):=(F.summ_step a0 0 3 (0,a0,0,1,(0,0,0,0))).bind fun r2=>(some ((r2.1.1,r2.1.2.1,r2.1.2.2.1,r2.1.2.2.2.1,(r2.1.2.2.2.2.1,r2.1.2.2.2.2.2.1,r2.1.2.2.2.2.2.2.1,r2.1.2.2.2.2.2.2.2)),r2.2))
theorem summ_Enter_ok (a0:Int)(h0_:IntKind.i64.has a0)(r:D44×Int)(hF:F.summ_Enter a0=some r):
    A.Ct Tryd.prog 75 [.int .i64 a0] [] [] (fun v H'=>v=.tuple #[.agg #[.int .i64 r.1.1,.int .i64 r.1.2.1,.int .i64 r.1.2.2.1,.int .i64 r.1.2.2.2.1,.int .i64 r.1.2.2.2.2.1,.int .i64 r.1.2.2.2.2.2.1,.int .i64 r.1.2.2.2.2.2.2.1,.int .i64 r.1.2.2.2.2.2.2.2],.int .i64 r.2]∧H'=[]∧IntKind.i64.has r.1.1∧IntKind.i64.has r.1.2.1∧IntKind.i64.has r.1.2.2.1∧IntKind.i64.has r.1.2.2.2.1∧IntKind.i64.has r.1.2.2.2.2.1∧IntKind.i64.has r.1.2.2.2.2.2.1∧IntKind.i64.has r.1.2.2.2.2.2.2.1∧IntKind.i64.has r.1.2.2.2.2.2.2.2∧IntKind.i64.has r.2):=by
 refine A.Ct.enter Tryd.func75 rfl Tryd.ntmps75 rfl fun w0 F0=>?_
 rw[F.summ_Enter]at hF
 refine A.xl 1 ?_
 refine A.AL.alloc 0 (cs:=[.int .i64 0,.int .i64 0,.int .i64 0,.int .i64 0,.int .i64 0,.int .i64 0,.int .i64 0,.int .i64 0]) Tryd.zeroValue45 fun g1=>?_
 refine A.q0 [] [] [.n] [] ?_
 refine A.dl 2 ?_
 refine A.q0 [] [] [.n,.n,.n] [(4,.int .i64 a0),(6,.agg #[.int .i64 0,.int .i64 a0,.int .i64 0,.int .i64 1,.int .i64 0,.int .i64 0,.int .i64 0,.int .i64 0])] ?_
 obtain⟨r2,hv3,hF⟩:=A.bd_some hF
 refine A.AL.call 1 [] (first:=[]) (cap:=[]) cf78 (summ_step_ok a0 0 3 (0,a0,0,1,(0,0,0,0)) h0_ (A.hasl .i64 (0) rfl) (A.hasl .i64 (3) rfl) (A.hasl .i64 (0) rfl) h0_ (A.hasl .i64 (0) rfl) (A.hasl .i64 (1) rfl) (A.hasl .i64 (0) rfl) (A.hasl .i64 (0) rfl) (A.hasl .i64 (0) rfl) (A.hasl .i64 (0) rfl) r2 hv3) .nil ?_
 rintro _ _ ⟨rfl,rfl,hr4,hr5,hr6,hr7,hr8,hr9,hr10,hr11,hr12⟩
 refine⟨by kernel_rfl,?_⟩
 refine A.q0 [] [] [.n,.n] [(8,.agg #[.int .i64 r2.1.1,.int .i64 r2.1.2.1,.int .i64 r2.1.2.2.1,.int .i64 r2.1.2.2.2.1,.int .i64 r2.1.2.2.2.2.1,.int .i64 r2.1.2.2.2.2.2.1,.int .i64 r2.1.2.2.2.2.2.2.1,.int .i64 r2.1.2.2.2.2.2.2.2]),(9,.int .i64 r2.2)] ?_
 refine A.sw 0 [] [.int .i64 r2.1.1,.int .i64 r2.1.2.1,.int .i64 r2.1.2.2.1,.int .i64 r2.1.2.2.2.1,.int .i64 r2.1.2.2.2.2.1,.int .i64 r2.1.2.2.2.2.2.1,.int .i64 r2.1.2.2.2.2.2.2.1,.int .i64 r2.1.2.2.2.2.2.2.2] ?_
 refine A.q0 [] [] [.n] [(3,.int .i64 r2.2)] ?_
 refine A.dx 1 ?_
 obtain rfl:=Option.some.inj hF
 exact A.AX.ret [] (.tuple #[.agg #[.int .i64 r2.1.1,.int .i64 r2.1.2.1,.int .i64 r2.1.2.2.1,.int .i64 r2.1.2.2.2.1,.int .i64 r2.1.2.2.2.2.1,.int .i64 r2.1.2.2.2.2.2.1,.int .i64 r2.1.2.2.2.2.2.2.1,.int .i64 r2.1.2.2.2.2.2.2.2],.int .i64 r2.2]) (fun a w hf hh=>Z.resv2 rfl (Z.rv_n hf rfl Tryd.isAgg45 Tryd.sizeOf45 (A.Hp.blk hh 0) rfl) (Z.rv_t hf rfl)) (⟨rfl,rfl,hr4,hr5,hr6,hr7,hr8,hr9,hr10,hr11,hr12⟩)
def F.summ_Leave (a0:Int):Option (D44×Int):=A.gd (Z.R64 (a0-1)) ((F.summ_step a0 1 4 (0,a0-1,0,0,(0,0,0,0))).bind fun r3=>(some ((r3.1.1,r3.1.2.1,r3.1.2.2.1,r3.1.2.2.2.1,(r3.1.2.2.2.2.1,r3.1.2.2.2.2.2.1,r3.1.2.2.2.2.2.2.1,r3.1.2.2.2.2.2.2.2)),r3.2)))
theorem summ_Leave_ok (a0:Int)(h0_:IntKind.i64.has a0)(r:D44×Int)(hF:F.summ_Leave a0=some r):
    A.Ct Tryd.prog 76 [.int .i64 a0] [] [] (fun v H'=>v=.tuple #[.agg #[.int .i64 r.1.1,.int .i64 r.1.2.1,.int .i64 r.1.2.2.1,.int .i64 r.1.2.2.2.1,.int .i64 r.1.2.2.2.2.1,.int .i64 r.1.2.2.2.2.2.1,.int .i64 r.1.2.2.2.2.2.2.1,.int .i64 r.1.2.2.2.2.2.2.2],.int .i64 r.2]∧H'=[]∧IntKind.i64.has r.1.1∧IntKind.i64.has r.1.2.1∧IntKind.i64.has r.1.2.2.1∧IntKind.i64.has r.1.2.2.2.1∧IntKind.i64.has r.1.2.2.2.2.1∧IntKind.i64.has r.1.2.2.2.2.2.1∧IntKind.i64.has r.1.2.2.2.2.2.2.1∧IntKind.i64.has r.1.2.2.2.2.2.2.2∧IntKind.i64.has r.2):=by
 refine A.Ct.enter Tryd.func76 rfl Tryd.ntmps76 rfl fun w0 F0=>?_
 rw[F.summ_Leave]at hF
 refine A.xl 1 ?_
 refine A.AL.alloc 0 (cs:=[.int .i64 0,.int .i64 0,.int .i64 0,.int .i64 0,.int .i64 0,.int .i64 0,.int .i64 0,.int .i64 0]) Tryd.zeroValue45 fun g1=>?_
 refine A.q0 [] [] [.n] [] ?_
 refine A.dl 2 ?_
 obtain⟨hc2,hF⟩:=A.gd_some hF
 refine A.q [] [] [.n,.n,.n,.n] [Z.R64 (a0-1)] [(4,.int .i64 a0),(7,.agg #[.int .i64 0,.int .i64 (a0-1),.int .i64 0,.int .i64 0,.int .i64 0,.int .i64 0,.int .i64 0,.int .i64 0])] hc2 ?_
 obtain⟨r3,hv4,hF⟩:=A.bd_some hF
 refine A.AL.call 1 [] (first:=[]) (cap:=[]) cf78 (summ_step_ok a0 1 4 (0,a0-1,0,0,(0,0,0,0)) h0_ (A.hasl .i64 (1) rfl) (A.hasl .i64 (4) rfl) (A.hasl .i64 (0) rfl) (Z.i64_has hc2) (A.hasl .i64 (0) rfl) (A.hasl .i64 (0) rfl) (A.hasl .i64 (0) rfl) (A.hasl .i64 (0) rfl) (A.hasl .i64 (0) rfl) (A.hasl .i64 (0) rfl) r3 hv4) .nil ?_
 rintro _ _ ⟨rfl,rfl,hr5,hr6,hr7,hr8,hr9,hr10,hr11,hr12,hr13⟩
 refine⟨by kernel_rfl,?_⟩
 refine A.q0 [] [] [.n,.n] [(9,.agg #[.int .i64 r3.1.1,.int .i64 r3.1.2.1,.int .i64 r3.1.2.2.1,.int .i64 r3.1.2.2.2.1,.int .i64 r3.1.2.2.2.2.1,.int .i64 r3.1.2.2.2.2.2.1,.int .i64 r3.1.2.2.2.2.2.2.1,.int .i64 r3.1.2.2.2.2.2.2.2]),(10,.int .i64 r3.2)] ?_
 refine A.sw 0 [] [.int .i64 r3.1.1,.int .i64 r3.1.2.1,.int .i64 r3.1.2.2.1,.int .i64 r3.1.2.2.2.1,.int .i64 r3.1.2.2.2.2.1,.int .i64 r3.1.2.2.2.2.2.1,.int .i64 r3.1.2.2.2.2.2.2.1,.int .i64 r3.1.2.2.2.2.2.2.2] ?_
 refine A.q0 [] [] [.n] [(3,.int .i64 r3.2)] ?_
 refine A.dx 1 ?_
 obtain rfl:=Option.some.inj hF
 exact A.AX.ret [] (.tuple #[.agg #[.int .i64 r3.1.1,.int .i64 r3.1.2.1,.int .i64 r3.1.2.2.1,.int .i64 r3.1.2.2.2.1,.int .i64 r3.1.2.2.2.2.1,.int .i64 r3.1.2.2.2.2.2.1,.int .i64 r3.1.2.2.2.2.2.2.1,.int .i64 r3.1.2.2.2.2.2.2.2],.int .i64 r3.2]) (fun a w hf hh=>Z.resv2 rfl (Z.rv_n hf rfl Tryd.isAgg45 Tryd.sizeOf45 (A.Hp.blk hh 0) rfl) (Z.rv_t hf rfl)) (⟨rfl,rfl,hr5,hr6,hr7,hr8,hr9,hr10,hr11,hr12,hr13⟩)
def F.summ_Next (a0:Int):Option (D44×Int):=(F.summ_step a0 1 4 (0,a0,1,0,(0,0,0,0))).bind fun r2=>(some ((r2.1.1,r2.1.2.1,r2.1.2.2.1,r2.1.2.2.2.1,(r2.1.2.2.2.2.1,r2.1.2.2.2.2.2.1,r2.1.2.2.2.2.2.2.1,r2.1.2.2.2.2.2.2.2)),r2.2))
theorem summ_Next_ok (a0:Int)(h0_:IntKind.i64.has a0)(r:D44×Int)(hF:F.summ_Next a0=some r):
    A.Ct Tryd.prog 77 [.int .i64 a0] [] [] (fun v H'=>v=.tuple #[.agg #[.int .i64 r.1.1,.int .i64 r.1.2.1,.int .i64 r.1.2.2.1,.int .i64 r.1.2.2.2.1,.int .i64 r.1.2.2.2.2.1,.int .i64 r.1.2.2.2.2.2.1,.int .i64 r.1.2.2.2.2.2.2.1,.int .i64 r.1.2.2.2.2.2.2.2],.int .i64 r.2]∧H'=[]∧IntKind.i64.has r.1.1∧IntKind.i64.has r.1.2.1∧IntKind.i64.has r.1.2.2.1∧IntKind.i64.has r.1.2.2.2.1∧IntKind.i64.has r.1.2.2.2.2.1∧IntKind.i64.has r.1.2.2.2.2.2.1∧IntKind.i64.has r.1.2.2.2.2.2.2.1∧IntKind.i64.has r.1.2.2.2.2.2.2.2∧IntKind.i64.has r.2):=by
 refine A.Ct.enter Tryd.func77 rfl Tryd.ntmps77 rfl fun w0 F0=>?_
 rw[F.summ_Next]at hF
 refine A.xl 1 ?_
 refine A.AL.alloc 0 (cs:=[.int .i64 0,.int .i64 0,.int .i64 0,.int .i64 0,.int .i64 0,.int .i64 0,.int .i64 0,.int .i64 0]) Tryd.zeroValue45 fun g1=>?_
 refine A.q0 [] [] [.n] [] ?_
 refine A.dl 2 ?_
 refine A.q0 [] [] [.n,.n,.n] [(4,.int .i64 a0),(6,.agg #[.int .i64 0,.int .i64 a0,.int .i64 1,.int .i64 0,.int .i64 0,.int .i64 0,.int .i64 0,.int .i64 0])] ?_
 obtain⟨r2,hv3,hF⟩:=A.bd_some hF
 refine A.AL.call 1 [] (first:=[]) (cap:=[]) cf78 (summ_step_ok a0 1 4 (0,a0,1,0,(0,0,0,0)) h0_ (A.hasl .i64 (1) rfl) (A.hasl .i64 (4) rfl) (A.hasl .i64 (0) rfl) h0_ (A.hasl .i64 (1) rfl) (A.hasl .i64 (0) rfl) (A.hasl .i64 (0) rfl) (A.hasl .i64 (0) rfl) (A.hasl .i64 (0) rfl) (A.hasl .i64 (0) rfl) r2 hv3) .nil ?_
 rintro _ _ ⟨rfl,rfl,hr4,hr5,hr6,hr7,hr8,hr9,hr10,hr11,hr12⟩
 refine⟨by kernel_rfl,?_⟩
 refine A.q0 [] [] [.n,.n] [(8,.agg #[.int .i64 r2.1.1,.int .i64 r2.1.2.1,.int .i64 r2.1.2.2.1,.int .i64 r2.1.2.2.2.1,.int .i64 r2.1.2.2.2.2.1,.int .i64 r2.1.2.2.2.2.2.1,.int .i64 r2.1.2.2.2.2.2.2.1,.int .i64 r2.1.2.2.2.2.2.2.2]),(9,.int .i64 r2.2)] ?_
 refine A.sw 0 [] [.int .i64 r2.1.1,.int .i64 r2.1.2.1,.int .i64 r2.1.2.2.1,.int .i64 r2.1.2.2.2.1,.int .i64 r2.1.2.2.2.2.1,.int .i64 r2.1.2.2.2.2.2.1,.int .i64 r2.1.2.2.2.2.2.2.1,.int .i64 r2.1.2.2.2.2.2.2.2] ?_
 refine A.q0 [] [] [.n] [(3,.int .i64 r2.2)] ?_
 refine A.dx 1 ?_
 obtain rfl:=Option.some.inj hF
 exact A.AX.ret [] (.tuple #[.agg #[.int .i64 r2.1.1,.int .i64 r2.1.2.1,.int .i64 r2.1.2.2.1,.int .i64 r2.1.2.2.2.1,.int .i64 r2.1.2.2.2.2.1,.int .i64 r2.1.2.2.2.2.2.1,.int .i64 r2.1.2.2.2.2.2.2.1,.int .i64 r2.1.2.2.2.2.2.2.2],.int .i64 r2.2]) (fun a w hf hh=>Z.resv2 rfl (Z.rv_n hf rfl Tryd.isAgg45 Tryd.sizeOf45 (A.Hp.blk hh 0) rfl) (Z.rv_t hf rfl)) (⟨rfl,rfl,hr4,hr5,hr6,hr7,hr8,hr9,hr10,hr11,hr12⟩)
def F.summ_Id (a0:Int):Option (D44×Int):=(F.summ_step a0 0 4 (0,a0,0,0,(0,0,0,0))).bind fun r2=>(some ((r2.1.1,r2.1.2.1,r2.1.2.2.1,r2.1.2.2.2.1,(r2.1.2.2.2.2.1,r2.1.2.2.2.2.2.1,r2.1.2.2.2.2.2.2.1,r2.1.2.2.2.2.2.2.2)),r2.2))
theorem summ_Id_ok (a0:Int)(h0_:IntKind.i64.has a0)(r:D44×Int)(hF:F.summ_Id a0=some r):
    A.Ct Tryd.prog 55 [.int .i64 a0] [] [] (fun v H'=>v=.tuple #[.agg #[.int .i64 r.1.1,.int .i64 r.1.2.1,.int .i64 r.1.2.2.1,.int .i64 r.1.2.2.2.1,.int .i64 r.1.2.2.2.2.1,.int .i64 r.1.2.2.2.2.2.1,.int .i64 r.1.2.2.2.2.2.2.1,.int .i64 r.1.2.2.2.2.2.2.2],.int .i64 r.2]∧H'=[]∧IntKind.i64.has r.1.1∧IntKind.i64.has r.1.2.1∧IntKind.i64.has r.1.2.2.1∧IntKind.i64.has r.1.2.2.2.1∧IntKind.i64.has r.1.2.2.2.2.1∧IntKind.i64.has r.1.2.2.2.2.2.1∧IntKind.i64.has r.1.2.2.2.2.2.2.1∧IntKind.i64.has r.1.2.2.2.2.2.2.2∧IntKind.i64.has r.2):=by
 refine A.Ct.enter Tryd.func55 rfl Tryd.ntmps55 rfl fun w0 F0=>?_
 rw[F.summ_Id]at hF
 refine A.xl 1 ?_
 refine A.AL.alloc 0 (cs:=[.int .i64 0,.int .i64 0,.int .i64 0,.int .i64 0,.int .i64 0,.int .i64 0,.int .i64 0,.int .i64 0]) Tryd.zeroValue45 fun g1=>?_
 refine A.q0 [] [] [.n] [] ?_
 refine A.dl 2 ?_
 refine A.q0 [] [] [.n,.n,.n] [(4,.int .i64 a0),(6,.agg #[.int .i64 0,.int .i64 a0,.int .i64 0,.int .i64 0,.int .i64 0,.int .i64 0,.int .i64 0,.int .i64 0])] ?_
 obtain⟨r2,hv3,hF⟩:=A.bd_some hF
 refine A.AL.call 1 [] (first:=[]) (cap:=[]) cf78 (summ_step_ok a0 0 4 (0,a0,0,0,(0,0,0,0)) h0_ (A.hasl .i64 (0) rfl) (A.hasl .i64 (4) rfl) (A.hasl .i64 (0) rfl) h0_ (A.hasl .i64 (0) rfl) (A.hasl .i64 (0) rfl) (A.hasl .i64 (0) rfl) (A.hasl .i64 (0) rfl) (A.hasl .i64 (0) rfl) (A.hasl .i64 (0) rfl) r2 hv3) .nil ?_
 rintro _ _ ⟨rfl,rfl,hr4,hr5,hr6,hr7,hr8,hr9,hr10,hr11,hr12⟩
 refine⟨by kernel_rfl,?_⟩
 refine A.q0 [] [] [.n,.n] [(8,.agg #[.int .i64 r2.1.1,.int .i64 r2.1.2.1,.int .i64 r2.1.2.2.1,.int .i64 r2.1.2.2.2.1,.int .i64 r2.1.2.2.2.2.1,.int .i64 r2.1.2.2.2.2.2.1,.int .i64 r2.1.2.2.2.2.2.2.1,.int .i64 r2.1.2.2.2.2.2.2.2]),(9,.int .i64 r2.2)] ?_
 refine A.sw 0 [] [.int .i64 r2.1.1,.int .i64 r2.1.2.1,.int .i64 r2.1.2.2.1,.int .i64 r2.1.2.2.2.1,.int .i64 r2.1.2.2.2.2.1,.int .i64 r2.1.2.2.2.2.2.1,.int .i64 r2.1.2.2.2.2.2.2.1,.int .i64 r2.1.2.2.2.2.2.2.2] ?_
 refine A.q0 [] [] [.n] [(3,.int .i64 r2.2)] ?_
 refine A.dx 1 ?_
 obtain rfl:=Option.some.inj hF
 exact A.AX.ret [] (.tuple #[.agg #[.int .i64 r2.1.1,.int .i64 r2.1.2.1,.int .i64 r2.1.2.2.1,.int .i64 r2.1.2.2.2.1,.int .i64 r2.1.2.2.2.2.1,.int .i64 r2.1.2.2.2.2.2.1,.int .i64 r2.1.2.2.2.2.2.2.1,.int .i64 r2.1.2.2.2.2.2.2.2],.int .i64 r2.2]) (fun a w hf hh=>Z.resv2 rfl (Z.rv_n hf rfl Tryd.isAgg45 Tryd.sizeOf45 (A.Hp.blk hh 0) rfl) (Z.rv_t hf rfl)) (⟨rfl,rfl,hr4,hr5,hr6,hr7,hr8,hr9,hr10,hr11,hr12⟩)
end Go.Proofs.YtpdhaldfdeamdaaDoor
end
section
set_option linter.unusedVariables false
set_option linter.unusedSimpArgs false
set_option maxRecDepth 20000
set_option maxHeartbeats 8000000
set_option synthInstance.maxSize 1000000
set_option synthInstance.maxHeartbeats 400000
namespace Go.Proofs.YtpdhaldfdeamdaaDoor
open Go.RowKit
def F.graph_within_j1 (y4:Int)(y6:Int)(y8:Int)(y10:Int)(y12:Int)(y14:Int)(y16:Int)(y18:Int):Option D44:=some (y4,y6,y8,y10,(y12,y14,y16,y18))
def F.graph_within (a0:D32)(a1:Int):Option D44:=if a0.2.1=12 then((F.summ_Enter a1).bind fun r20=>(F.graph_within_j1 r20.1.1 r20.1.2.1 r20.1.2.2.1 r20.1.2.2.2.1 r20.1.2.2.2.2.1 r20.1.2.2.2.2.2.1 r20.1.2.2.2.2.2.2.1 r20.1.2.2.2.2.2.2.2))else(if a0.2.1=13 then((F.summ_Leave a1).bind fun r31=>(F.graph_within_j1 r31.1.1 r31.1.2.1 r31.1.2.2.1 r31.1.2.2.2.1 r31.1.2.2.2.2.1 r31.1.2.2.2.2.2.1 r31.1.2.2.2.2.2.2.1 r31.1.2.2.2.2.2.2.2))else(if a0.2.1=14 then((F.summ_Next a1).bind fun r42=>(F.graph_within_j1 r42.1.1 r42.1.2.1 r42.1.2.2.1 r42.1.2.2.2.1 r42.1.2.2.2.2.1 r42.1.2.2.2.2.2.1 r42.1.2.2.2.2.2.2.1 r42.1.2.2.2.2.2.2.2))else((F.summ_Id a1).bind fun r53=>(F.graph_within_j1 r53.1.1 r53.1.2.1 r53.1.2.2.1 r53.1.2.2.2.1 r53.1.2.2.2.2.1 r53.1.2.2.2.2.2.1 r53.1.2.2.2.2.2.2.1 r53.1.2.2.2.2.2.2.2))))
theorem graph_within_ok (a0:D32)(a1:Int)(A2_:Option Addr)(c3_:Nat)(h0_:IntKind.i64.has a0.1)(h1_:IntKind.i64.has a0.2.1)(h4_:IntKind.i64.has a0.2.2.2.1.1)(h5_:IntKind.i64.has a0.2.2.2.1.2.1)(h6_:a0.2.2.2.1.2.2.size≤maxLen)(h7_:a0.2.2.2.2.1.size≤maxLen)(h8_:IntKind.i64.has a0.2.2.2.2.2.1)(h9_:IntKind.i64.has a0.2.2.2.2.2.2)(h10_:IntKind.i64.has a1)(r:D44)(hF:F.graph_within a0 a1=some r):
    A.Ct Tryd.prog 54 [.agg #[.int .i64 a0.1,.int .i64 a0.2.1,.slice A2_ ((a0.2.2.1).length) c3_,.int .i64 a0.2.2.2.1.1,.int .i64 a0.2.2.2.1.2.1,.string a0.2.2.2.1.2.2,.string a0.2.2.2.2.1,.int .i64 a0.2.2.2.2.2.1,.int .i64 a0.2.2.2.2.2.2],.int .i64 a1] [(0,.sh (.slice (Z.Ty.int .i64)) [.slice A2_ (a0.2.2.1).length c3_] a0.2.2.1)] [] (fun v H'=>v=.agg #[.int .i64 r.1,.int .i64 r.2.1,.int .i64 r.2.2.1,.int .i64 r.2.2.2.1,.int .i64 r.2.2.2.2.1,.int .i64 r.2.2.2.2.2.1,.int .i64 r.2.2.2.2.2.2.1,.int .i64 r.2.2.2.2.2.2.2]∧H'=[]∧IntKind.i64.has r.1∧IntKind.i64.has r.2.1∧IntKind.i64.has r.2.2.1∧IntKind.i64.has r.2.2.2.1∧IntKind.i64.has r.2.2.2.2.1∧IntKind.i64.has r.2.2.2.2.2.1∧IntKind.i64.has r.2.2.2.2.2.2.1∧IntKind.i64.has r.2.2.2.2.2.2.2):=by
 refine A.Ct.enter Tryd.func54 rfl Tryd.ntmps54 rfl fun w0 F0=>?_
 rw[F.graph_within]at hF
 refine A.xl 1 ?_
 refine A.AL.box 1 (cs:=[.int .i64 a0.1,.int .i64 a0.2.1,.slice A2_ ((a0.2.2.1).length) c3_,.int .i64 a0.2.2.2.1.1,.int .i64 a0.2.2.2.1.2.1,.string a0.2.2.2.1.2.2,.string a0.2.2.2.2.1,.int .i64 a0.2.2.2.2.2.1,.int .i64 a0.2.2.2.2.2.2]) fun g1=>?_
 refine A.AL.alloc 2 (cs:=[.int .i64 0,.int .i64 0,.int .i64 0,.int .i64 0,.int .i64 0,.int .i64 0,.int .i64 0,.int .i64 0]) Tryd.zeroValue45 fun g2=>?_
 refine A.dl 2 ?_
 refine A.AL.alloc 3 (cs:=[.int .i64 0,.int .i64 0,.int .i64 0,.int .i64 0,.int .i64 0,.int .i64 0,.int .i64 0,.int .i64 0]) Tryd.zeroValue45 fun g3=>?_
 refine A.dx 1 ?_
 refine A.AX.join [4,5] [2] (fun nl nh=>∃(y4:Int),∃(y6:Int),∃(y8:Int),∃(y10:Int),∃(y12:Int),∃(y14:Int),∃(y16:Int),∃(y18:Int),nl=[]∧nh=[(3,.blk g3 45 [.int .i64 y4,.int .i64 y6,.int .i64 y8,.int .i64 y10,.int .i64 y12,.int .i64 y14,.int .i64 y16,.int .i64 y18])]∧IntKind.i64.has y4∧IntKind.i64.has y6∧IntKind.i64.has y8∧IntKind.i64.has y10∧IntKind.i64.has y12∧IntKind.i64.has y14∧IntKind.i64.has y16∧IntKind.i64.has y18∧F.graph_within_j1 y4 y6 y8 y10 y12 y14 y16 y18=some r) ?_ ?_
 ·refine A.xl 1 ?_
  refine A.q0 [1] [] [.n,.b 0 1] [(7,.int .i64 a0.2.1)] ?_
  refine A.dl 3 ?_
  refine A.q0 [] [] [.n,.n] [(13,.bool (decide (a0.2.1=12)))] ?_
  refine A.dx 1 ?_
  refine A.AX.cnd rfl hF (fun hb hF=>?_) (fun hb hF=>?_)
  ·refine A.xl 0 ?_
   refine A.q0 [] [] [.n] [(16,.int .i64 a1)] ?_
   obtain⟨r20,hv21,hF⟩:=A.bd_some hF
   refine A.AL.call 4 [] (first:=[]) (cap:=[]) cf75 (summ_Enter_ok a1 h10_ r20 hv21) .nil ?_
   rintro _ _ ⟨rfl,rfl,hr22,hr23,hr24,hr25,hr26,hr27,hr28,hr29,hr30⟩
   refine⟨by kernel_rfl,?_⟩
   refine A.q0 [] [] [.n,.n,.n] [(18,.agg #[.int .i64 r20.1.1,.int .i64 r20.1.2.1,.int .i64 r20.1.2.2.1,.int .i64 r20.1.2.2.2.1,.int .i64 r20.1.2.2.2.2.1,.int .i64 r20.1.2.2.2.2.2.1,.int .i64 r20.1.2.2.2.2.2.2.1,.int .i64 r20.1.2.2.2.2.2.2.2])] ?_
   refine A.sw 3 [] [.int .i64 r20.1.1,.int .i64 r20.1.2.1,.int .i64 r20.1.2.2.1,.int .i64 r20.1.2.2.2.1,.int .i64 r20.1.2.2.2.2.1,.int .i64 r20.1.2.2.2.2.2.1,.int .i64 r20.1.2.2.2.2.2.2.1,.int .i64 r20.1.2.2.2.2.2.2.2] ?_
   refine A.de 1 ?_
   exact A.j ⟨r20.1.1,r20.1.2.1,r20.1.2.2.1,r20.1.2.2.2.1,r20.1.2.2.2.2.1,r20.1.2.2.2.2.2.1,r20.1.2.2.2.2.2.2.1,r20.1.2.2.2.2.2.2.2,rfl,rfl,hr22,hr23,hr24,hr25,hr26,hr27,hr28,hr29,hF⟩
  refine A.xl 1 ?_
  refine A.q0 [] [] [.n,.n] [(20,.bool (decide (a0.2.1=13)))] ?_
  refine A.dx 1 ?_
  refine A.AX.cnd rfl hF (fun hb hF=>?_) (fun hb hF=>?_)
  ·refine A.xl 0 ?_
   refine A.q0 [] [] [.n] [(23,.int .i64 a1)] ?_
   obtain⟨r31,hv32,hF⟩:=A.bd_some hF
   refine A.AL.call 44 [] (first:=[]) (cap:=[]) cf76 (summ_Leave_ok a1 h10_ r31 hv32) .nil ?_
   rintro _ _ ⟨rfl,rfl,hr33,hr34,hr35,hr36,hr37,hr38,hr39,hr40,hr41⟩
   refine⟨by kernel_rfl,?_⟩
   refine A.q0 [] [] [.n,.n,.n] [(25,.agg #[.int .i64 r31.1.1,.int .i64 r31.1.2.1,.int .i64 r31.1.2.2.1,.int .i64 r31.1.2.2.2.1,.int .i64 r31.1.2.2.2.2.1,.int .i64 r31.1.2.2.2.2.2.1,.int .i64 r31.1.2.2.2.2.2.2.1,.int .i64 r31.1.2.2.2.2.2.2.2])] ?_
   refine A.sw 3 [] [.int .i64 r31.1.1,.int .i64 r31.1.2.1,.int .i64 r31.1.2.2.1,.int .i64 r31.1.2.2.2.1,.int .i64 r31.1.2.2.2.2.1,.int .i64 r31.1.2.2.2.2.2.1,.int .i64 r31.1.2.2.2.2.2.2.1,.int .i64 r31.1.2.2.2.2.2.2.2] ?_
   refine A.de 1 ?_
   exact A.j ⟨r31.1.1,r31.1.2.1,r31.1.2.2.1,r31.1.2.2.2.1,r31.1.2.2.2.2.1,r31.1.2.2.2.2.2.1,r31.1.2.2.2.2.2.2.1,r31.1.2.2.2.2.2.2.2,rfl,rfl,hr33,hr34,hr35,hr36,hr37,hr38,hr39,hr40,hF⟩
  refine A.xl 1 ?_
  refine A.q0 [] [] [.n,.n] [(27,.bool (decide (a0.2.1=14)))] ?_
  refine A.dx 1 ?_
  refine A.AX.cnd rfl hF (fun hb hF=>?_) (fun hb hF=>?_)
  ·refine A.xl 0 ?_
   refine A.q0 [] [] [.n] [(30,.int .i64 a1)] ?_
   obtain⟨r42,hv43,hF⟩:=A.bd_some hF
   refine A.AL.call 84 [] (first:=[]) (cap:=[]) cf77 (summ_Next_ok a1 h10_ r42 hv43) .nil ?_
   rintro _ _ ⟨rfl,rfl,hr44,hr45,hr46,hr47,hr48,hr49,hr50,hr51,hr52⟩
   refine⟨by kernel_rfl,?_⟩
   refine A.q0 [] [] [.n,.n,.n] [(32,.agg #[.int .i64 r42.1.1,.int .i64 r42.1.2.1,.int .i64 r42.1.2.2.1,.int .i64 r42.1.2.2.2.1,.int .i64 r42.1.2.2.2.2.1,.int .i64 r42.1.2.2.2.2.2.1,.int .i64 r42.1.2.2.2.2.2.2.1,.int .i64 r42.1.2.2.2.2.2.2.2])] ?_
   refine A.sw 3 [] [.int .i64 r42.1.1,.int .i64 r42.1.2.1,.int .i64 r42.1.2.2.1,.int .i64 r42.1.2.2.2.1,.int .i64 r42.1.2.2.2.2.1,.int .i64 r42.1.2.2.2.2.2.1,.int .i64 r42.1.2.2.2.2.2.2.1,.int .i64 r42.1.2.2.2.2.2.2.2] ?_
   refine A.de 1 ?_
   exact A.j ⟨r42.1.1,r42.1.2.1,r42.1.2.2.1,r42.1.2.2.2.1,r42.1.2.2.2.2.1,r42.1.2.2.2.2.2.1,r42.1.2.2.2.2.2.2.1,r42.1.2.2.2.2.2.2.2,rfl,rfl,hr44,hr45,hr46,hr47,hr48,hr49,hr50,hr51,hF⟩
  refine A.xl 0 ?_
  refine A.q0 [] [] [.n] [(9,.int .i64 a1)] ?_
  obtain⟨r53,hv54,hF⟩:=A.bd_some hF
  refine A.AL.call 124 [] (first:=[]) (cap:=[]) cf55 (summ_Id_ok a1 h10_ r53 hv54) .nil ?_
  rintro _ _ ⟨rfl,rfl,hr55,hr56,hr57,hr58,hr59,hr60,hr61,hr62,hr63⟩
  refine⟨by kernel_rfl,?_⟩
  refine A.q0 [] [] [.n,.n,.n] [(11,.agg #[.int .i64 r53.1.1,.int .i64 r53.1.2.1,.int .i64 r53.1.2.2.1,.int .i64 r53.1.2.2.2.1,.int .i64 r53.1.2.2.2.2.1,.int .i64 r53.1.2.2.2.2.2.1,.int .i64 r53.1.2.2.2.2.2.2.1,.int .i64 r53.1.2.2.2.2.2.2.2])] ?_
  refine A.sw 3 [] [.int .i64 r53.1.1,.int .i64 r53.1.2.1,.int .i64 r53.1.2.2.1,.int .i64 r53.1.2.2.2.1,.int .i64 r53.1.2.2.2.2.1,.int .i64 r53.1.2.2.2.2.2.1,.int .i64 r53.1.2.2.2.2.2.2.1,.int .i64 r53.1.2.2.2.2.2.2.2] ?_
  refine A.de 1 ?_
  exact A.j ⟨r53.1.1,r53.1.2.1,r53.1.2.2.1,r53.1.2.2.2.1,r53.1.2.2.2.2.1,r53.1.2.2.2.2.2.1,r53.1.2.2.2.2.2.2.1,r53.1.2.2.2.2.2.2.2,rfl,rfl,hr55,hr56,hr57,hr58,hr59,hr60,hr61,hr62,hF⟩
 rintro _ _ ⟨y4,y6,y8,y10,y12,y14,y16,y18,rfl,rfl,hy5,hy7,hy9,hy11,hy13,hy15,hy17,hy19,hF⟩
 rw[F.graph_within_j1]at hF
 refine A.xl 1 ?_
 refine A.q0 [3] [] [.b 0 0] [(34,.agg #[.int .i64 y4,.int .i64 y6,.int .i64 y8,.int .i64 y10,.int .i64 y12,.int .i64 y14,.int .i64 y16,.int .i64 y18])] ?_
 refine A.sw 2 [] [.int .i64 y4,.int .i64 y6,.int .i64 y8,.int .i64 y10,.int .i64 y12,.int .i64 y14,.int .i64 y16,.int .i64 y18] ?_
 refine A.dx 1 ?_
 obtain rfl:=Option.some.inj hF
 exact A.AX.ret [] (.agg #[.int .i64 y4,.int .i64 y6,.int .i64 y8,.int .i64 y10,.int .i64 y12,.int .i64 y14,.int .i64 y16,.int .i64 y18]) (fun a w hf hh=>Z.resv1 rfl (Z.rv_n hf rfl Tryd.isAgg45 Tryd.sizeOf45 (A.Hp.blk hh 2) rfl)) (⟨rfl,rfl,hy5,hy7,hy9,hy11,hy13,hy15,hy17,hy19⟩)
end Go.Proofs.YtpdhaldfdeamdaaDoor
end
section
set_option linter.unusedVariables false
set_option linter.unusedSimpArgs false
set_option maxRecDepth 20000
set_option maxHeartbeats 8000000
set_option synthInstance.maxSize 1000000
set_option synthInstance.maxHeartbeats 400000
namespace Go.Proofs.YtpdhaldfdeamdaaDoor
open Go.RowKit
def F.graph_plan_edges_j1 (k30:(List D46)→Int→Option (List D46))(y5:Int)(xs10:List D46):Option (List D46):=A.gd (Z.R64 (y5+1)) (k30 xs10 (y5+1))
def F.graph_plan_edges_l2 (k30:(List D46)→Int→Option (List D46))(y5:Int)(x12:D32)(y50:Int)(y52:Int)(y54:Int)(y56:Int)(y58:Int)(y60:Int)(y62:Int)(y64:Int)(r67:(List D42)):Nat→(List D46)→Int→Option (List D46)
 |0,_,_=>none
 |f+1,xs73,y74=>if y74<((r67).length:Int)then((A.ix r67 y74).bind fun x77=>(A.gd ((List.length (α:=D46) xs73+List.length (α:=D46) [((x12.1,2),(x77.1,x77.2),(y50,y52,y54,y56,(y58,y60,y62,y64)))])*96≤140737488355328) (A.gd (Z.R64 (y74+1)) ((F.graph_plan_edges_l2 k30 y5 x12 y50 y52 y54 y56 y58 y60 y62 y64 r67 f) (xs73++[((x12.1,2),(x77.1,x77.2),(y50,y52,y54,y56,(y58,y60,y62,y64)))]) (y74+1)))))else(F.graph_plan_edges_j1 k30 y5 xs73)
def F.graph_plan_edges_j3 (k30:(List D46)→Int→Option (List D46))(a1:D23)(y5:Int)(x12:D32)(xs23:List D46)(y50:Int)(y52:Int)(y54:Int)(y56:Int)(y58:Int)(y60:Int)(y62:Int)(y64:Int):Option (List D46):=(F.graph_users a1 x12.1).bind fun r67=>(F.graph_plan_edges_l2 k30 y5 x12 y50 y52 y54 y56 y58 y60 y62 y64 r67 A.FU xs23 0)
def F.graph_plan_edges_l4 (k30:(List D46)→Int→Option (List D46))(a0:((List (Int×D32))×(List Int)×(List (Int×Int))))(a1:D23)(y5:Int)(x12:D32):Nat→(List D46)→Int→Option (List D46)
 |0,_,_=>none
 |f+1,xs23,y24=>if y24<((x12.2.2.1).length:Int)then((A.ix x12.2.2.1 y24).bind fun x27=>(A.lt (Z.mget (0:Int) a0.2.2 x27) fun x32=>((F.graph_within (x12.1,x12.2.1,x12.2.2.1,(x12.2.2.2.1.1,x12.2.2.2.1.2.1,x12.2.2.2.1.2.2),x12.2.2.2.2.1,x12.2.2.2.2.2.1,x12.2.2.2.2.2.2) x32).bind fun r35=>(A.gd ((List.length (α:=D46) xs23+List.length (α:=D46) [((x12.1,y24),(x12.1,2),(r35.1,r35.2.1,r35.2.2.1,r35.2.2.2.1,(r35.2.2.2.2.1,r35.2.2.2.2.2.1,r35.2.2.2.2.2.2.1,r35.2.2.2.2.2.2.2)))])*96≤140737488355328) (A.gd (Z.R64 (y24+1)) ((F.graph_plan_edges_l4 k30 a0 a1 y5 x12 f) (xs23++[((x12.1,y24),(x12.1,2),(r35.1,r35.2.1,r35.2.2.1,r35.2.2.2.1,(r35.2.2.2.2.1,r35.2.2.2.2.2.1,r35.2.2.2.2.2.2.1,r35.2.2.2.2.2.2.2)))]) (y24+1)))))))else(A.lt (Z.mget (0:Int) a0.2.2 x12.1) fun x88=>((F.summ_Id x88).bind fun r511=>(F.graph_plan_edges_j3 k30 a1 y5 x12 xs23 r511.1.1 r511.1.2.1 r511.1.2.2.1 r511.1.2.2.2.1 r511.1.2.2.2.2.1 r511.1.2.2.2.2.2.1 r511.1.2.2.2.2.2.2.1 r511.1.2.2.2.2.2.2.2)))
def F.graph_plan_edges_l5 (a0:((List (Int×D32))×(List Int)×(List (Int×Int))))(a1:D23):Nat→(List D46)→Int→Option (List D46)
 |0,_,_=>none
 |f+1,xs4,y5=>if y5<((a1).length:Int)then((A.ix a1 y5).bind fun x12=>(if x12.2.1=15 then(F.graph_plan_edges_j1 (F.graph_plan_edges_l5 a0 a1 f) y5 xs4)else(F.graph_plan_edges_l4 (F.graph_plan_edges_l5 a0 a1 f) a0 a1 y5 x12 A.FU xs4 0)))else(some xs4)
def F.graph_plan_edges (a0:((List (Int×D32))×(List Int)×(List (Int×Int))))(a1:D23):Option (List D46):=F.graph_plan_edges_l5 a0 a1 A.FU [] 0
theorem graph_plan_edges_ok (a0:((List (Int×D32))×(List Int)×(List (Int×Int))))(a1:D23)(g0_:Nat)(b1_:Nat)(A2_:Option Addr)(c3_:Nat)(b4_:Nat)(A5_:Option Addr)(c6_:Nat)(r:(List D46))(hF:F.graph_plan_edges a0 a1=some r):
    A.Ct Tryd.prog 33 [.pointer (some ⟨g0_,0,none⟩),.agg #[.slice A5_ ((a1).length) c6_]] [(0,.blk g0_ 95 [.map (some b1_),.slice A2_ ((a0.2.1).length) c3_,.map (some b4_)]),(1,.mp Int (fun i:Int=>.int .i64 i) T32 true b1_ a0.1),(2,.own (Z.Ty.int .i64) 3 A2_ c3_ a0.2.1),(3,.mp Int (fun i:Int=>.int .i64 i) (Z.Ty.int .i64) false b4_ a0.2.2),(4,.sh (.slice T32) [.slice A5_ (a1).length c6_] a1)] ([g0_]++([b1_]++(Z.obl A2_++([b4_]++[])))) (fun v H'=>∃(A0':Option Addr) (c1':Nat),v=.slice A0' ((r).length) c1'∧H'=[(0,.own T46 47 A0' c1' r),(1,.blk g0_ 95 [.map (some b1_),.slice A2_ ((a0.2.1).length) c3_,.map (some b4_)]),(2,.mp Int (fun i:Int=>.int .i64 i) T32 true b1_ a0.1),(3,.own (Z.Ty.int .i64) 3 A2_ c3_ a0.2.1),(4,.mp Int (fun i:Int=>.int .i64 i) (Z.Ty.int .i64) false b4_ a0.2.2)]):=by
 refine A.Ct.enter Tryd.func33 rfl Tryd.ntmps33 rfl fun w0 F0=>?_
 rw[F.graph_plan_edges]at hF
 refine A.xl 1 ?_
 refine A.AL.box 5 (cs:=[.slice A5_ ((a1).length) c6_]) fun g1=>?_
 refine A.q0 [] [] [.n] [] ?_
 refine A.dl 2 ?_
 refine A.q0 [] [] [.n] [(5,.slice none 0 0)] ?_
 refine A.dl 3 ?_
 refine A.q0 [5] [] [.n,.b 0 0,.n,.n] [(16,.slice A5_ ((a1).length) c6_),(17,.int .i64 ((a1).length:Int)),(18,.int .i64 0)] ?_
 refine A.dx 2 ?_
 refine A.nil 3600 T46 47 ?_
 refine A.lp_ [0,3,16,17] [0,1,2,3,4,5] (fun f nl nh=>∃(xs4:List D46),∃(y5:Int),∃(A2:Option Addr),∃(c3:Nat),nl=[(5,.slice A2 ((xs4).length) c3),(18,.int .i64 y5)]∧nh=[(3600,.own T46 47 A2 c3 xs4)]∧IntKind.i64.has y5∧F.graph_plan_edges_l5 a0 a1 f xs4 y5=some r) ⟨[],0,none,0,rfl,rfl,(A.hasl .i64 (0) rfl),hF⟩ ?_
 rintro f7 _ _ ⟨xs4,y5,A2,c3,rfl,rfl,hy6,hF⟩
 rcases f7 with _|f7
 ·exact A.no0 hF
 rw[F.graph_plan_edges_l5]at hF
 refine A.xl 1 ?_
 refine A.q0 [] [] [.n] [(19,.bool (decide (y5<((a1).length:Int))))] ?_
 refine A.dx 2 ?_
 refine A.AX.cnd rfl hF (fun hb hF=>?_) (fun hb hF=>?_)
 ·refine A.xx 2 ?_
  refine A.AX.join [0,3,16,17,18] [0,1,2,3,4,5] (fun nl nh=>∃(xs10:List D46),∃(A8:Option Addr),∃(c9:Nat),nl=[(5,.slice A8 ((xs10).length) c9)]∧nh=[(3600,.own T46 47 A8 c9 xs10)]∧F.graph_plan_edges_j1 (F.graph_plan_edges_l5 a0 a1 f7) y5 xs10=some r) ?_ ?_
  ·refine A.xl 2 ?_
   obtain⟨x12,hv13,hF⟩:=A.bd_some hF
   refine A.AL.ixs 4 6675 hv13 fun ho14=>?_
   intro A15 c16 b17 o18
   refine A.q0 [] [6675] [.e 0 0] [(21,.agg #[.int .i64 x12.1,.int .i64 x12.2.1,.slice A15 ((x12.2.2.1).length) c16,.int .i64 x12.2.2.2.1.1,.int .i64 x12.2.2.2.1.2.1,.string x12.2.2.2.1.2.2,.string x12.2.2.2.2.1,.int .i64 x12.2.2.2.2.2.1,.int .i64 x12.2.2.2.2.2.2])] ?_
   refine A.AL.alloc 6677 (cs:=[.int .i64 0,.int .i64 0,.slice none 0 0,.int .i64 0,.int .i64 0,.string (ByteArray.mk #[]),.string (ByteArray.mk #[]),.int .i64 0,.int .i64 0]) Tryd.zeroValue33 fun g19=>?_
   refine A.sw 6677 [] [.int .i64 x12.1,.int .i64 x12.2.1,.slice A15 ((x12.2.2.1).length) c16,.int .i64 x12.2.2.2.1.1,.int .i64 x12.2.2.2.1.2.1,.string x12.2.2.2.1.2.2,.string x12.2.2.2.2.1,.int .i64 x12.2.2.2.2.2.1,.int .i64 x12.2.2.2.2.2.2] ?_
   refine A.dl 3 ?_
   refine A.q0 [6677] [] [.n,.b 0 1,.n] [(24,.bool (decide (x12.2.1=15)))] ?_
   refine A.dx 1 ?_
   refine A.AX.cnd rfl hF (fun hb hF=>?_) (fun hb hF=>?_)
   ·refine A.xe 1 ?_
    exact A.j ⟨xs4,A2,c3,rfl,rfl,hF⟩
   refine A.xl 3 ?_
   refine A.q0 [6677] [] [.n,.b 0 0,.n] [(27,.agg #[.int .i64 x12.1,.int .i64 2])] ?_
   refine A.AL.alloc 6678 (cs:=[.int .i64 0,.int .i64 0]) Tryd.zeroValue43 fun g20=>?_
   refine A.sw 6678 [] [.int .i64 x12.1,.int .i64 2] ?_
   refine A.dl 3 ?_
   refine A.q0 [6677] [] [.n,.b 0 2,.n,.n] [(29,.slice A15 ((x12.2.2.1).length) c16),(30,.int .i64 ((x12.2.2.1).length:Int)),(31,.int .i64 0)] ?_
   refine A.dx 2 ?_
   refine A.lp_ [0,3,7,8,16,17,18,29,30] [0,1,2,3,4,5,6676,6677,6678] (fun f nl nh=>∃(xs23:List D46),∃(y24:Int),∃(A21:Option Addr),∃(c22:Nat),nl=[(5,.slice A21 ((xs23).length) c22),(31,.int .i64 y24)]∧nh=[(3600,.own T46 47 A21 c22 xs23)]∧IntKind.i64.has y24∧F.graph_plan_edges_l4 (F.graph_plan_edges_l5 a0 a1 f7) a0 a1 y5 x12 f xs23 y24=some r) ⟨xs4,0,A2,c3,rfl,rfl,(A.hasl .i64 (0) rfl),hF⟩ ?_
   rintro f26 _ _ ⟨xs23,y24,A21,c22,rfl,rfl,hy25,hF⟩
   rcases f26 with _|f26
   ·exact A.no0 hF
   rw[F.graph_plan_edges_l4]at hF
   refine A.xl 1 ?_
   refine A.q0 [] [] [.n] [(32,.bool (decide (y24<((x12.2.2.1).length:Int))))] ?_
   refine A.dx 2 ?_
   refine A.AX.cnd rfl hF (fun hb hF=>?_) (fun hb hF=>?_)
   ·refine A.xl 5 ?_
    refine A.q0 [] [] [.n] [(33,.int .i64 y24)] ?_
    obtain⟨x27,hv28,hF⟩:=A.bd_some hF
    refine A.AL.ixs 6676 7701 hv28 fun ho29=>?_
    intro b30 o31
    refine A.q0 [] [7701] [.e 0 0,.n,.n] [(9,.int .i64 y24),(10,.int .i64 x27)] ?_
    refine A.dx 1 ?_
    refine A.AX.dr mixed 18 18 (A.mb 18 0) ?_
    refine A.hq A.pb [] [0,1,2,3,4,5,6676,6677,6678,7701] [6678,6677,0] [] (A.mb 18 4095) 6 [(0,.n),(1,.n),(3,.n),(5,.b 0 0),(6,.b 1 0),(7,.n),(11,.n),(2,.b 1 0),(8,.n),(4,.n),(9,.n),(10,.b 2 2)] [(36,.slice A21 ((xs23).length) c22),(41,.agg #[.int .i64 x12.1,.int .i64 2]),(42,.agg #[.int .i64 x12.1,.int .i64 x12.2.1,.slice A15 ((x12.2.2.1).length) c16,.int .i64 x12.2.2.2.1.1,.int .i64 x12.2.2.2.1.2.1,.string x12.2.2.2.1.2.2,.string x12.2.2.2.2.1,.int .i64 x12.2.2.2.2.2.1,.int .i64 x12.2.2.2.2.2.2]),(47,.int .i64 x27),(40,.agg #[.int .i64 x12.1,.int .i64 y24]),(46,.map (some b4_))] ?_
    obtain⟨x32,hv33,hF⟩:=A.lt_some hF
    refine A.okm (t:=(Z.Ty.int .i64)) 3 x27 (z:=(0:Int)) (zs:=[.int .i64 0]) ⟨rfl,by decide⟩ hv33 fun ho34=>?_
    refine A.AH.v A.pb [0,1,2,3,4,5,6676,6677,6678,7701] [0,1,2,3,4,5,6676,6677,6678,7701] 12 (A.mb 18 8191) rfl (fun a w hf hh=>A.r_lkf (t:=(Z.Ty.int .i64)) (ok:=false) (z:=(0:Int)) (zs:=[.int .i64 0]) 3 ky3 x27 Tryd.zeroValue3 ⟨rfl,by decide⟩ hv33 rfl hf hh) ?_
    refine A.AH.one 13 ?_
    obtain⟨r35,hv36,hF⟩:=A.bd_some hF
    refine A.AL.call 7702 [] (first:=[]) (cap:=[]) cf54 (graph_within_ok (x12.1,x12.2.1,x12.2.2.1,(x12.2.2.2.1.1,x12.2.2.2.1.2.1,x12.2.2.2.1.2.2),x12.2.2.2.2.1,x12.2.2.2.2.2.1,x12.2.2.2.2.2.2) x32 A15 c16 ho14.1 ho14.2.1 ho14.2.2.2.1.1 ho14.2.2.2.1.2.1 ho14.2.2.2.1.2.2 ho14.2.2.2.2.1 ho14.2.2.2.2.2.1 ho14.2.2.2.2.2.2 ho34 r35 hv36) (.s 6676 .nil) ?_
    rintro _ _ ⟨rfl,rfl,hr37,hr38,hr39,hr40,hr41,hr42,hr43,hr44⟩
    refine⟨by kernel_rfl,?_⟩
    refine A.AH.nx (A.mb 18 16383) [0,1,2,3,4,5,6676,6677,6678,7701] ?_
    refine A.hq A.pb [0,1,2,3,4,5,6676,6677,6678,7701] [0,1,2,3,4,5,6676,6677,6678,7701] [] [] (A.mb 18 32767) 3 [(14,.n)] [(50,.agg #[.int .i64 x12.1,.int .i64 y24,.int .i64 x12.1,.int .i64 2,.int .i64 r35.1,.int .i64 r35.2.1,.int .i64 r35.2.2.1,.int .i64 r35.2.2.2.1,.int .i64 r35.2.2.2.2.1,.int .i64 r35.2.2.2.2.2.1,.int .i64 r35.2.2.2.2.2.2.1,.int .i64 r35.2.2.2.2.2.2.2])] ?_
    refine A.AH.one 15 ?_
    refine A.AL.bsl 7742 (ty:=T46) (cs:=[.int .i64 x12.1,.int .i64 y24,.int .i64 x12.1,.int .i64 2,.int .i64 r35.1,.int .i64 r35.2.1,.int .i64 r35.2.2.1,.int .i64 r35.2.2.2.1,.int .i64 r35.2.2.2.2.1,.int .i64 r35.2.2.2.2.2.1,.int .i64 r35.2.2.2.2.2.2.1,.int .i64 r35.2.2.2.2.2.2.2]) [((x12.1,y24),(x12.1,2),(r35.1,r35.2.1,r35.2.2.1,r35.2.2.2.1,(r35.2.2.2.2.1,r35.2.2.2.2.2.1,r35.2.2.2.2.2.2.1,r35.2.2.2.2.2.2.2)))] ⟨⟨⟨⟨rfl,ho14.1⟩,⟨rfl,hy25⟩⟩,⟨⟨rfl,ho14.1⟩,⟨rfl,(A.hasl .i64 (2) rfl)⟩⟩,⟨⟨rfl,hr37⟩,⟨rfl,hr38⟩,⟨rfl,hr39⟩,⟨rfl,hr40⟩,⟨⟨rfl,hr41⟩,⟨rfl,hr42⟩,⟨rfl,hr43⟩,⟨rfl,hr44⟩⟩⟩⟩,rfl⟩ (fun g45=>?_) Tryd.zeroValue47 Tryd.sizeOf47
    refine A.AH.nx (A.mb 18 65535) [0,1,2,3,4,5,6676,6677,6678,7701] ?_
    refine A.AH.one 16 ?_
    obtain⟨hl48,hF⟩:=A.gd_some hF
    refine A.AL.app (k:=3600) [] (A.rowO (k:=7742) rfl) inf47 hl48 fun A46 c47=>?_
    refine A.AH.nx (A.mb 18 131071) [0,1,2,3,4,5,6676,6677,6678,7701] ?_
    refine A.hq A.pb [0,1,2,3,4,5,6676,6677,6678,7701] [0,1,2,3,4,5,3600,6676,6677,6678,7701,7742] [] [] (A.mb 18 262143) 0 [(17,.n)] [(5,.slice A46 ((xs23++[((x12.1,y24),(x12.1,2),(r35.1,r35.2.1,r35.2.2.1,r35.2.2.2.1,(r35.2.2.2.2.1,r35.2.2.2.2.2.1,r35.2.2.2.2.2.2.1,r35.2.2.2.2.2.2.2)))]).length) c47)] ?_
    refine A.AH.done ?_
    refine A.el 2 ?_
    obtain⟨hc49,hF⟩:=A.gd_some hF
    refine A.q [] [] [.n,.n] [Z.R64 (y24+1)] [(31,.int .i64 (y24+1))] hc49 ?_
    refine A.AL.done ?_
    exact A.j ⟨_,Nat.lt_succ_self _,⟨(xs23++[((x12.1,y24),(x12.1,2),(r35.1,r35.2.1,r35.2.2.1,r35.2.2.2.1,(r35.2.2.2.2.1,r35.2.2.2.2.2.1,r35.2.2.2.2.2.2.1,r35.2.2.2.2.2.2.2)))]),(y24+1),A46,c47,rfl,rfl,(Z.i64_has hc49),hF⟩⟩
   refine A.xx 2 ?_
   refine A.AX.join [0,3,5,7,8,16,17,18] [0,1,2,3,4,5,3600,6676,6677,6678] (fun nl nh=>∃(y50:Int),∃(y52:Int),∃(y54:Int),∃(y56:Int),∃(y58:Int),∃(y60:Int),∃(y62:Int),∃(y64:Int),∃(g66:Nat),nl=[(11,.pointer (some ⟨g66,0,none⟩))]∧nh=[(8073,.blk g66 45 [.int .i64 y50,.int .i64 y52,.int .i64 y54,.int .i64 y56,.int .i64 y58,.int .i64 y60,.int .i64 y62,.int .i64 y64])]∧IntKind.i64.has y50∧IntKind.i64.has y52∧IntKind.i64.has y54∧IntKind.i64.has y56∧IntKind.i64.has y58∧IntKind.i64.has y60∧IntKind.i64.has y62∧IntKind.i64.has y64∧F.graph_plan_edges_j3 (F.graph_plan_edges_l5 a0 a1 f7) a1 y5 x12 xs23 y50 y52 y54 y56 y58 y60 y62 y64=some r) ?_ ?_
   ·refine A.AX.dr mixed 14 14 (A.mb 14 0) ?_
    refine A.hq A.pb [] [0,1,2,3,4,5,3600,6676,6677,6678] [6677,0] [] (A.mb 14 63) 8 [(0,.n),(4,.n),(1,.n),(5,.b 0 0),(2,.n),(3,.b 1 2)] [(60,.int .i64 x12.1),(58,.map (some b4_))] ?_
    obtain⟨x88,hv89,hF⟩:=A.lt_some hF
    refine A.okm (t:=(Z.Ty.int .i64)) 3 x12.1 (z:=(0:Int)) (zs:=[.int .i64 0]) ⟨rfl,by decide⟩ hv89 fun ho90=>?_
    refine A.AH.v A.pb [0,1,2,3,4,5,3600,6676,6677,6678] [0,1,2,3,4,5,3600,6676,6677,6678] 6 (A.mb 14 127) rfl (fun a w hf hh=>A.r_lkf (t:=(Z.Ty.int .i64)) (ok:=false) (z:=(0:Int)) (zs:=[.int .i64 0]) 3 ky3 x12.1 Tryd.zeroValue3 ⟨rfl,by decide⟩ hv89 rfl hf hh) ?_
    refine A.AH.two 7 11 ?_ ?_
    ·obtain⟨r511,hv512,hF⟩:=A.bd_some hF
     refine A.AL.call 7953 [] (first:=[]) (cap:=[]) cf55 (summ_Id_ok x88 ho90 r511 hv512) .nil ?_
     rintro _ _ ⟨rfl,rfl,hr513,hr514,hr515,hr516,hr517,hr518,hr519,hr520,hr521⟩
     refine⟨by kernel_rfl,?_⟩
     refine A.AH.nx (A.mb 14 255) [0,1,2,3,4,5,3600,6676,6677,6678] ?_
     refine A.hq A.pb [0,1,2,3,4,5,3600,6676,6677,6678] [0,1,2,3,4,5,3600,6676,6677,6678] [] [] (A.mb 14 2047) 3 [(8,.n),(9,.n),(10,.n)] [(63,.agg #[.int .i64 r511.1.1,.int .i64 r511.1.2.1,.int .i64 r511.1.2.2.1,.int .i64 r511.1.2.2.2.1,.int .i64 r511.1.2.2.2.2.1,.int .i64 r511.1.2.2.2.2.2.1,.int .i64 r511.1.2.2.2.2.2.2.1,.int .i64 r511.1.2.2.2.2.2.2.2]),(64,.int .i64 r511.2)] ?_
     refine A.AH.one 11 ?_
     refine A.AL.alloc 8073 (cs:=[.int .i64 0,.int .i64 0,.int .i64 0,.int .i64 0,.int .i64 0,.int .i64 0,.int .i64 0,.int .i64 0]) Tryd.zeroValue45 fun g751=>?_
     refine A.AH.nx (A.mb 14 4095) [0,1,2,3,4,5,3600,6676,6677,6678] ?_
     refine A.AH.one 12 ?_
     refine A.sw 8073 [] [.int .i64 r511.1.1,.int .i64 r511.1.2.1,.int .i64 r511.1.2.2.1,.int .i64 r511.1.2.2.2.1,.int .i64 r511.1.2.2.2.2.1,.int .i64 r511.1.2.2.2.2.2.1,.int .i64 r511.1.2.2.2.2.2.2.1,.int .i64 r511.1.2.2.2.2.2.2.2] ?_
     refine A.AH.nx (A.mb 14 8191) [0,1,2,3,4,5,3600,6676,6677,6678] ?_
     refine A.hq A.pb [0,1,2,3,4,5,3600,6676,6677,6678] [0,1,2,3,4,5,3600,6676,6677,6678,8073] [] [] (A.mb 14 16383) 0 [(13,.n)] [] ?_
     refine A.AH.done ?_
     exact A.j ⟨r511.1.1,r511.1.2.1,r511.1.2.2.1,r511.1.2.2.2.1,r511.1.2.2.2.2.1,r511.1.2.2.2.2.2.1,r511.1.2.2.2.2.2.2.1,r511.1.2.2.2.2.2.2.2,g751,rfl,rfl,hr513,hr514,hr515,hr516,hr517,hr518,hr519,hr520,hF⟩
    refine A.AL.alloc 8073 (cs:=[.int .i64 0,.int .i64 0,.int .i64 0,.int .i64 0,.int .i64 0,.int .i64 0,.int .i64 0,.int .i64 0]) Tryd.zeroValue45 fun g751=>?_
    refine A.AH.nx (A.mb 14 2175) [0,1,2,3,4,5,3600,6676,6677,6678] ?_
    refine A.AH.one 7 ?_
    obtain⟨r511,hv512,hF⟩:=A.bd_some hF
    refine A.AL.call 7953 [] (first:=[]) (cap:=[]) cf55 (summ_Id_ok x88 ho90 r511 hv512) .nil ?_
    rintro _ _ ⟨rfl,rfl,hr513,hr514,hr515,hr516,hr517,hr518,hr519,hr520,hr521⟩
    refine⟨by kernel_rfl,?_⟩
    refine A.AH.nx (A.mb 14 2303) [0,1,2,3,4,5,3600,6676,6677,6678] ?_
    refine A.hq A.pb [0,1,2,3,4,5,3600,6676,6677,6678] [0,1,2,3,4,5,3600,6676,6677,6678] [] [] (A.mb 14 4095) 2 [(8,.n),(9,.n),(10,.n)] [(63,.agg #[.int .i64 r511.1.1,.int .i64 r511.1.2.1,.int .i64 r511.1.2.2.1,.int .i64 r511.1.2.2.2.1,.int .i64 r511.1.2.2.2.2.1,.int .i64 r511.1.2.2.2.2.2.1,.int .i64 r511.1.2.2.2.2.2.2.1,.int .i64 r511.1.2.2.2.2.2.2.2]),(64,.int .i64 r511.2)] ?_
    refine A.AH.one 12 ?_
    refine A.sw 8073 [] [.int .i64 r511.1.1,.int .i64 r511.1.2.1,.int .i64 r511.1.2.2.1,.int .i64 r511.1.2.2.2.1,.int .i64 r511.1.2.2.2.2.1,.int .i64 r511.1.2.2.2.2.2.1,.int .i64 r511.1.2.2.2.2.2.2.1,.int .i64 r511.1.2.2.2.2.2.2.2] ?_
    refine A.AH.nx (A.mb 14 8191) [0,1,2,3,4,5,3600,6676,6677,6678] ?_
    refine A.hq A.pb [0,1,2,3,4,5,3600,6676,6677,6678] [0,1,2,3,4,5,3600,6676,6677,6678,8073] [] [] (A.mb 14 16383) 0 [(13,.n)] [] ?_
    refine A.AH.done ?_
    exact A.j ⟨r511.1.1,r511.1.2.1,r511.1.2.2.1,r511.1.2.2.2.1,r511.1.2.2.2.2.1,r511.1.2.2.2.2.2.1,r511.1.2.2.2.2.2.2.1,r511.1.2.2.2.2.2.2.2,g751,rfl,rfl,hr513,hr514,hr515,hr516,hr517,hr518,hr519,hr520,hF⟩
   rintro _ _ ⟨y50,y52,y54,y56,y58,y60,y62,y64,g66,rfl,rfl,hy51,hy53,hy55,hy57,hy59,hy61,hy63,hy65,hF⟩
   rw[F.graph_plan_edges_j3]at hF
   refine A.xl 1 ?_
   refine A.q0 [5,6677] [] [.b 0 0,.n,.b 1 0] [(65,.agg #[.slice A5_ ((a1).length) c6_]),(67,.int .i64 x12.1)] ?_
   obtain⟨r67,hv68,hF⟩:=A.bd_some hF
   refine A.AL.call 8163 [] (first:=[]) (cap:=[]) cf56 (graph_users_ok a1 x12.1 A5_ c6_ ho14.1 r67 hv68) (.s 4 .nil) ?_
   rintro _ _ ⟨A69,c70,rfl,rfl⟩
   refine⟨by kernel_rfl,?_⟩
   refine A.q0 [] [] [.n,.n] [(69,.int .i64 ((r67).length:Int)),(70,.int .i64 0)] ?_
   refine A.dx 2 ?_
   refine A.lp_ [0,3,8,11,16,17,18,68,69] [0,1,2,3,4,5,6678,8073,8163] (fun f nl nh=>∃(xs73:List D46),∃(y74:Int),∃(A71:Option Addr),∃(c72:Nat),nl=[(5,.slice A71 ((xs73).length) c72),(70,.int .i64 y74)]∧nh=[(3600,.own T46 47 A71 c72 xs73)]∧IntKind.i64.has y74∧F.graph_plan_edges_l2 (F.graph_plan_edges_l5 a0 a1 f7) y5 x12 y50 y52 y54 y56 y58 y60 y62 y64 r67 f xs73 y74=some r) ⟨xs23,0,A21,c22,rfl,rfl,(A.hasl .i64 (0) rfl),hF⟩ ?_
   rintro f76 _ _ ⟨xs73,y74,A71,c72,rfl,rfl,hy75,hF⟩
   rcases f76 with _|f76
   ·exact A.no0 hF
   rw[F.graph_plan_edges_l2]at hF
   refine A.xl 1 ?_
   refine A.q0 [] [] [.n] [(71,.bool (decide (y74<((r67).length:Int))))] ?_
   refine A.dx 2 ?_
   refine A.AX.cnd rfl hF (fun hb hF=>?_) (fun hb hF=>?_)
   ·refine A.xl 5 ?_
    obtain⟨x77,hv78,hF⟩:=A.bd_some hF
    refine A.AL.ixo 8163 8209 hv78 fun ho79=>?_
    intro g80 hA81
    refine A.q0 [] [8209] [.e 0 0] [(73,.agg #[.int .i64 x77.1,.int .i64 x77.2])] ?_
    refine A.AL.alloc 8210 (cs:=[.int .i64 0,.int .i64 0]) Tryd.zeroValue43 fun g82=>?_
    refine A.sw 8210 [] [.int .i64 x77.1,.int .i64 x77.2] ?_
    refine A.dl 1 ?_
    refine A.q0 [6678,8210,8073] [] [.n,.b 0 0,.b 1 0,.b 2 0,.n] [(74,.slice A71 ((xs73).length) c72),(78,.agg #[.int .i64 x12.1,.int .i64 2,.int .i64 x77.1,.int .i64 x77.2,.int .i64 y50,.int .i64 y52,.int .i64 y54,.int .i64 y56,.int .i64 y58,.int .i64 y60,.int .i64 y62,.int .i64 y64])] ?_
    refine A.AL.bsl 8211 (ty:=T46) (cs:=[.int .i64 x12.1,.int .i64 2,.int .i64 x77.1,.int .i64 x77.2,.int .i64 y50,.int .i64 y52,.int .i64 y54,.int .i64 y56,.int .i64 y58,.int .i64 y60,.int .i64 y62,.int .i64 y64]) [((x12.1,2),(x77.1,x77.2),(y50,y52,y54,y56,(y58,y60,y62,y64)))] ⟨⟨⟨⟨rfl,ho14.1⟩,⟨rfl,(A.hasl .i64 (2) rfl)⟩⟩,⟨⟨rfl,ho79.1⟩,⟨rfl,ho79.2⟩⟩,⟨⟨rfl,hy51⟩,⟨rfl,hy53⟩,⟨rfl,hy55⟩,⟨rfl,hy57⟩,⟨⟨rfl,hy59⟩,⟨rfl,hy61⟩,⟨rfl,hy63⟩,⟨rfl,hy65⟩⟩⟩⟩,rfl⟩ (fun g83=>?_) Tryd.zeroValue47 Tryd.sizeOf47
    obtain⟨hl86,hF⟩:=A.gd_some hF
    refine A.AL.app (k:=3600) [] (A.rowO (k:=8211) rfl) inf47 hl86 fun A84 c85=>?_
    refine A.q0 [] [] [.n] [(5,.slice A84 ((xs73++[((x12.1,2),(x77.1,x77.2),(y50,y52,y54,y56,(y58,y60,y62,y64)))]).length) c85)] ?_
    refine A.dl 2 ?_
    obtain⟨hc87,hF⟩:=A.gd_some hF
    refine A.q [] [] [.n,.n] [Z.R64 (y74+1)] [(70,.int .i64 (y74+1))] hc87 ?_
    refine A.AL.done ?_
    exact A.j ⟨_,Nat.lt_succ_self _,⟨(xs73++[((x12.1,2),(x77.1,x77.2),(y50,y52,y54,y56,(y58,y60,y62,y64)))]),(y74+1),A84,c85,rfl,rfl,(Z.i64_has hc87),hF⟩⟩
   refine A.xe 2 ?_
   exact A.j ⟨xs73,A71,c72,rfl,rfl,hF⟩
  rintro _ _ ⟨xs10,A8,c9,rfl,rfl,hF⟩
  rw[F.graph_plan_edges_j1]at hF
  refine A.xl 0 ?_
  obtain⟨hc11,hF⟩:=A.gd_some hF
  refine A.q [] [] [.n,.n] [Z.R64 (y5+1)] [(18,.int .i64 (y5+1))] hc11 ?_
  refine A.AL.done ?_
  exact A.j ⟨_,Nat.lt_succ_self _,⟨xs10,(y5+1),A8,c9,rfl,rfl,(Z.i64_has hc11),hF⟩⟩
 refine A.xl 3 ?_
 refine A.q0 [] [] [.n,.n] [(4,.slice A2 ((xs4).length) c3)] ?_
 refine A.dx 1 ?_
 obtain rfl:=Option.some.inj hF
 exact A.rt1 [(0,3600),(1,0),(2,1),(3,2),(4,3)] ⟨A2,c3,rfl,rfl⟩
end Go.Proofs.YtpdhaldfdeamdaaDoor
end
section
set_option linter.unusedVariables false
set_option linter.unusedSimpArgs false
set_option maxRecDepth 20000
set_option maxHeartbeats 8000000
set_option synthInstance.maxSize 1000000
set_option synthInstance.maxHeartbeats 400000
namespace Go.Proofs.YtpdhaldfdeamdaaDoor
open Go.RowKit
def F.graph_plan_spots_j1 (k8:(List D60)→Int→Option (List D60))(y5:Int)(xs10:List D60):Option (List D60):=A.gd (Z.R64 (y5+1)) (k8 xs10 (y5+1))
def F.graph_plan_spots_l2 (k8:(List D60)→Int→Option (List D60))(a0:((List (Int×D32))×(List Int)×(List (Int×Int))))(y5:Int)(x12:D32):Nat→(List D60)→Int→Option (List D60)
 |0,_,_=>none
 |f+1,xs22,y23=>if y23<((x12.2.2.1).length:Int)then((A.ix x12.2.2.1 y23).bind fun x26=>(A.lt (Z.mget (0:Int) a0.2.2 x26) fun x31=>(A.gd ((List.length (α:=D60) xs22+List.length (α:=D60) [((x12.1,y23),x31)])*24≤140737488355328) (A.gd (Z.R64 (y23+1)) ((F.graph_plan_spots_l2 k8 a0 y5 x12 f) (xs22++[((x12.1,y23),x31)]) (y23+1))))))else(if x12.2.1≠15 then(A.lt (Z.mget (0:Int) a0.2.2 x12.1) fun x39=>(A.gd ((List.length (α:=D60) xs22+List.length (α:=D60) [((x12.1,2),x39)])*24≤140737488355328) (F.graph_plan_spots_j1 k8 y5 (xs22++[((x12.1,2),x39)]))))else(F.graph_plan_spots_j1 k8 y5 xs22))
def F.graph_plan_spots_l3 (a0:((List (Int×D32))×(List Int)×(List (Int×Int))))(a1:D23):Nat→(List D60)→Int→Option (List D60)
 |0,_,_=>none
 |f+1,xs4,y5=>if y5<((a1).length:Int)then((A.ix a1 y5).bind fun x12=>(F.graph_plan_spots_l2 (F.graph_plan_spots_l3 a0 a1 f) a0 y5 x12 A.FU xs4 0))else(some xs4)
def F.graph_plan_spots (a0:((List (Int×D32))×(List Int)×(List (Int×Int))))(a1:D23):Option (List D60):=F.graph_plan_spots_l3 a0 a1 A.FU [] 0
theorem graph_plan_spots_ok (a0:((List (Int×D32))×(List Int)×(List (Int×Int))))(a1:D23)(g0_:Nat)(b1_:Nat)(A2_:Option Addr)(c3_:Nat)(b4_:Nat)(A5_:Option Addr)(c6_:Nat)(r:(List D60))(hF:F.graph_plan_spots a0 a1=some r):
    A.Ct Tryd.prog 42 [.pointer (some ⟨g0_,0,none⟩),.agg #[.slice A5_ ((a1).length) c6_]] [(0,.blk g0_ 95 [.map (some b1_),.slice A2_ ((a0.2.1).length) c3_,.map (some b4_)]),(1,.mp Int (fun i:Int=>.int .i64 i) T32 true b1_ a0.1),(2,.own (Z.Ty.int .i64) 3 A2_ c3_ a0.2.1),(3,.mp Int (fun i:Int=>.int .i64 i) (Z.Ty.int .i64) false b4_ a0.2.2),(4,.sh (.slice T32) [.slice A5_ (a1).length c6_] a1)] ([g0_]++([b1_]++(Z.obl A2_++([b4_]++[])))) (fun v H'=>∃(A0':Option Addr) (c1':Nat),v=.slice A0' ((r).length) c1'∧H'=[(0,.own T60 61 A0' c1' r),(1,.blk g0_ 95 [.map (some b1_),.slice A2_ ((a0.2.1).length) c3_,.map (some b4_)]),(2,.mp Int (fun i:Int=>.int .i64 i) T32 true b1_ a0.1),(3,.own (Z.Ty.int .i64) 3 A2_ c3_ a0.2.1),(4,.mp Int (fun i:Int=>.int .i64 i) (Z.Ty.int .i64) false b4_ a0.2.2)]):=by
 refine A.Ct.enter Tryd.func42 rfl Tryd.ntmps42 rfl fun w0 F0=>?_
 rw[F.graph_plan_spots]at hF
 refine A.xl 1 ?_
 refine A.AL.box 5 (cs:=[.slice A5_ ((a1).length) c6_]) fun g1=>?_
 refine A.q0 [] [] [.n] [] ?_
 refine A.dl 2 ?_
 refine A.q0 [] [] [.n] [(5,.slice none 0 0)] ?_
 refine A.dl 3 ?_
 refine A.q0 [5] [] [.n,.b 0 0,.n,.n] [(11,.slice A5_ ((a1).length) c6_),(12,.int .i64 ((a1).length:Int)),(13,.int .i64 0)] ?_
 refine A.dx 2 ?_
 refine A.nil 38 T60 61 ?_
 refine A.lp_ [0,11,12] [0,1,2,3,4] (fun f nl nh=>∃(xs4:List D60),∃(y5:Int),∃(A2:Option Addr),∃(c3:Nat),nl=[(5,.slice A2 ((xs4).length) c3),(13,.int .i64 y5)]∧nh=[(38,.own T60 61 A2 c3 xs4)]∧IntKind.i64.has y5∧F.graph_plan_spots_l3 a0 a1 f xs4 y5=some r) ⟨[],0,none,0,rfl,rfl,(A.hasl .i64 (0) rfl),hF⟩ ?_
 rintro f7 _ _ ⟨xs4,y5,A2,c3,rfl,rfl,hy6,hF⟩
 rcases f7 with _|f7
 ·exact A.no0 hF
 rw[F.graph_plan_spots_l3]at hF
 refine A.xl 1 ?_
 refine A.q0 [] [] [.n] [(14,.bool (decide (y5<((a1).length:Int))))] ?_
 refine A.dx 2 ?_
 refine A.AX.cnd rfl hF (fun hb hF=>?_) (fun hb hF=>?_)
 ·refine A.xx 2 ?_
  refine A.AX.join [0,11,12,13] [0,1,2,3,4] (fun nl nh=>∃(xs10:List D60),∃(A8:Option Addr),∃(c9:Nat),nl=[(5,.slice A8 ((xs10).length) c9)]∧nh=[(38,.own T60 61 A8 c9 xs10)]∧F.graph_plan_spots_j1 (F.graph_plan_spots_l3 a0 a1 f7) y5 xs10=some r) ?_ ?_
  ·refine A.xl 2 ?_
   obtain⟨x12,hv13,hF⟩:=A.bd_some hF
   refine A.AL.ixs 4 63 hv13 fun ho14=>?_
   intro A15 c16 b17 o18
   refine A.q0 [] [63] [.e 0 0] [(16,.agg #[.int .i64 x12.1,.int .i64 x12.2.1,.slice A15 ((x12.2.2.1).length) c16,.int .i64 x12.2.2.2.1.1,.int .i64 x12.2.2.2.1.2.1,.string x12.2.2.2.1.2.2,.string x12.2.2.2.2.1,.int .i64 x12.2.2.2.2.2.1,.int .i64 x12.2.2.2.2.2.2])] ?_
   refine A.AL.alloc 65 (cs:=[.int .i64 0,.int .i64 0,.slice none 0 0,.int .i64 0,.int .i64 0,.string (ByteArray.mk #[]),.string (ByteArray.mk #[]),.int .i64 0,.int .i64 0]) Tryd.zeroValue33 fun g19=>?_
   refine A.sw 65 [] [.int .i64 x12.1,.int .i64 x12.2.1,.slice A15 ((x12.2.2.1).length) c16,.int .i64 x12.2.2.2.1.1,.int .i64 x12.2.2.2.1.2.1,.string x12.2.2.2.1.2.2,.string x12.2.2.2.2.1,.int .i64 x12.2.2.2.2.2.1,.int .i64 x12.2.2.2.2.2.2] ?_
   refine A.dl 3 ?_
   refine A.q0 [65] [] [.n,.b 0 2,.n,.n] [(18,.slice A15 ((x12.2.2.1).length) c16),(19,.int .i64 ((x12.2.2.1).length:Int)),(20,.int .i64 0)] ?_
   refine A.dx 2 ?_
   refine A.lp_ [0,7,11,12,13,18,19] [0,1,2,3,4,64,65] (fun f nl nh=>∃(xs22:List D60),∃(y23:Int),∃(A20:Option Addr),∃(c21:Nat),nl=[(5,.slice A20 ((xs22).length) c21),(20,.int .i64 y23)]∧nh=[(38,.own T60 61 A20 c21 xs22)]∧IntKind.i64.has y23∧F.graph_plan_spots_l2 (F.graph_plan_spots_l3 a0 a1 f7) a0 y5 x12 f xs22 y23=some r) ⟨xs4,0,A2,c3,rfl,rfl,(A.hasl .i64 (0) rfl),hF⟩ ?_
   rintro f25 _ _ ⟨xs22,y23,A20,c21,rfl,rfl,hy24,hF⟩
   rcases f25 with _|f25
   ·exact A.no0 hF
   rw[F.graph_plan_spots_l2]at hF
   refine A.xl 1 ?_
   refine A.q0 [] [] [.n] [(21,.bool (decide (y23<((x12.2.2.1).length:Int))))] ?_
   refine A.dx 2 ?_
   refine A.AX.cnd rfl hF (fun hb hF=>?_) (fun hb hF=>?_)
   ·refine A.xl 5 ?_
    refine A.q0 [] [] [.n] [(22,.int .i64 y23)] ?_
    obtain⟨x26,hv27,hF⟩:=A.bd_some hF
    refine A.AL.ixs 64 72 hv27 fun ho28=>?_
    intro b29 o30
    refine A.q0 [] [72] [.e 0 0,.n,.n] [(8,.int .i64 y23),(9,.int .i64 x26)] ?_
    refine A.dx 1 ?_
    refine A.AX.dr mixed 15 15 (A.mb 15 0) ?_
    refine A.hq A.pb [] [0,1,2,3,4,64,65,72] [65,0] [] (A.mb 15 1023) 5 [(0,.n),(1,.n),(3,.n),(5,.n),(9,.n),(2,.b 0 0),(6,.n),(4,.n),(7,.n),(8,.b 1 2)] [(25,.slice A20 ((xs22).length) c21),(34,.int .i64 x26),(29,.agg #[.int .i64 x12.1,.int .i64 y23]),(33,.map (some b4_))] ?_
    obtain⟨x31,hv32,hF⟩:=A.lt_some hF
    refine A.okm (t:=(Z.Ty.int .i64)) 3 x26 (z:=(0:Int)) (zs:=[.int .i64 0]) ⟨rfl,by decide⟩ hv32 fun ho33=>?_
    refine A.AH.v A.pb [0,1,2,3,4,64,65,72] [0,1,2,3,4,64,65,72] 10 (A.mb 15 2047) rfl (fun a w hf hh=>A.r_lkf (t:=(Z.Ty.int .i64)) (ok:=false) (z:=(0:Int)) (zs:=[.int .i64 0]) 3 ky3 x26 Tryd.zeroValue3 ⟨rfl,by decide⟩ hv32 rfl hf hh) ?_
    refine A.hq A.pb [0,1,2,3,4,64,65,72] [0,1,2,3,4,64,65,72] [] [] (A.mb 15 4095) 3 [(11,.n)] [(36,.agg #[.int .i64 x12.1,.int .i64 y23,.int .i64 x31])] ?_
    refine A.AH.one 12 ?_
    refine A.AL.bsl 73 (ty:=T60) (cs:=[.int .i64 x12.1,.int .i64 y23,.int .i64 x31]) [((x12.1,y23),x31)] ⟨⟨⟨⟨rfl,ho14.1⟩,⟨rfl,hy24⟩⟩,⟨rfl,ho33⟩⟩,rfl⟩ (fun g34=>?_) Tryd.zeroValue61 Tryd.sizeOf61
    refine A.AH.nx (A.mb 15 8191) [0,1,2,3,4,64,65,72] ?_
    refine A.AH.one 13 ?_
    obtain⟨hl37,hF⟩:=A.gd_some hF
    refine A.AL.app (k:=38) [] (A.rowO (k:=73) rfl) inf61 hl37 fun A35 c36=>?_
    refine A.AH.nx (A.mb 15 16383) [0,1,2,3,4,64,65,72] ?_
    refine A.hq A.pb [0,1,2,3,4,64,65,72] [0,1,2,3,4,38,64,65,72,73] [] [] (A.mb 15 32767) 0 [(14,.n)] [(5,.slice A35 ((xs22++[((x12.1,y23),x31)]).length) c36)] ?_
    refine A.AH.done ?_
    refine A.el 2 ?_
    obtain⟨hc38,hF⟩:=A.gd_some hF
    refine A.q [] [] [.n,.n] [Z.R64 (y23+1)] [(20,.int .i64 (y23+1))] hc38 ?_
    refine A.AL.done ?_
    exact A.j ⟨_,Nat.lt_succ_self _,⟨(xs22++[((x12.1,y23),x31)]),(y23+1),A35,c36,rfl,rfl,(Z.i64_has hc38),hF⟩⟩
   refine A.xl 3 ?_
   refine A.q0 [65] [] [.n,.b 0 1,.n] [(42,.bool (decide (x12.2.1≠15)))] ?_
   refine A.dx 1 ?_
   refine A.AX.cnd rfl hF (fun hb hF=>?_) (fun hb hF=>?_)
   ·refine A.AX.dr mixed 15 15 (A.mb 15 0) ?_
    refine A.hq A.pb [] [0,1,2,3,4,64,65] [65,0] [] (A.mb 15 1023) 5 [(0,.n),(1,.n),(4,.n),(8,.n),(2,.b 0 0),(5,.n),(9,.b 0 0),(3,.n),(6,.n),(7,.b 1 2)] [(43,.slice A20 ((xs22).length) c21),(52,.int .i64 x12.1),(46,.agg #[.int .i64 x12.1,.int .i64 2]),(50,.map (some b4_))] ?_
    obtain⟨x39,hv40,hF⟩:=A.lt_some hF
    refine A.okm (t:=(Z.Ty.int .i64)) 3 x12.1 (z:=(0:Int)) (zs:=[.int .i64 0]) ⟨rfl,by decide⟩ hv40 fun ho41=>?_
    refine A.AH.v A.pb [0,1,2,3,4,64,65] [0,1,2,3,4,64,65] 10 (A.mb 15 2047) rfl (fun a w hf hh=>A.r_lkf (t:=(Z.Ty.int .i64)) (ok:=false) (z:=(0:Int)) (zs:=[.int .i64 0]) 3 ky3 x12.1 Tryd.zeroValue3 ⟨rfl,by decide⟩ hv40 rfl hf hh) ?_
    refine A.hq A.pb [0,1,2,3,4,64,65] [0,1,2,3,4,64,65] [] [] (A.mb 15 4095) 3 [(11,.n)] [(54,.agg #[.int .i64 x12.1,.int .i64 2,.int .i64 x39])] ?_
    refine A.AH.one 12 ?_
    refine A.AL.bsl 74 (ty:=T60) (cs:=[.int .i64 x12.1,.int .i64 2,.int .i64 x39]) [((x12.1,2),x39)] ⟨⟨⟨⟨rfl,ho14.1⟩,⟨rfl,(A.hasl .i64 (2) rfl)⟩⟩,⟨rfl,ho41⟩⟩,rfl⟩ (fun g42=>?_) Tryd.zeroValue61 Tryd.sizeOf61
    refine A.AH.nx (A.mb 15 8191) [0,1,2,3,4,64,65] ?_
    refine A.AH.one 13 ?_
    obtain⟨hl45,hF⟩:=A.gd_some hF
    refine A.AL.app (k:=38) [] (A.rowO (k:=74) rfl) inf61 hl45 fun A43 c44=>?_
    refine A.AH.nx (A.mb 15 16383) [0,1,2,3,4,64,65] ?_
    refine A.hq A.pb [0,1,2,3,4,64,65] [0,1,2,3,4,38,64,65,74] [] [] (A.mb 15 32767) 0 [(14,.n)] [(5,.slice A43 ((xs22++[((x12.1,2),x39)]).length) c44)] ?_
    refine A.AH.done ?_
    refine A.ee 1 ?_
    exact A.j ⟨(xs22++[((x12.1,2),x39)]),A43,c44,rfl,rfl,hF⟩
   refine A.xe 2 ?_
   exact A.j ⟨xs22,A20,c21,rfl,rfl,hF⟩
  rintro _ _ ⟨xs10,A8,c9,rfl,rfl,hF⟩
  rw[F.graph_plan_spots_j1]at hF
  refine A.xl 0 ?_
  obtain⟨hc11,hF⟩:=A.gd_some hF
  refine A.q [] [] [.n,.n] [Z.R64 (y5+1)] [(13,.int .i64 (y5+1))] hc11 ?_
  refine A.AL.done ?_
  exact A.j ⟨_,Nat.lt_succ_self _,⟨xs10,(y5+1),A8,c9,rfl,rfl,(Z.i64_has hc11),hF⟩⟩
 refine A.xl 3 ?_
 refine A.q0 [] [] [.n,.n] [(4,.slice A2 ((xs4).length) c3)] ?_
 refine A.dx 1 ?_
 obtain rfl:=Option.some.inj hF
 exact A.rt1 [(0,38),(1,0),(2,1),(3,2),(4,3)] ⟨A2,c3,rfl,rfl⟩
def F.graph_plan_reaches_j1 (k4:(List (D42×Bool))→(List D42)→Int→Option Bool)(y49:Int)(m53:List (D42×Bool))(xs56:List D42):Option Bool:=A.gd (Z.R64 (y49+1)) (k4 m53 xs56 (y49+1))
def F.graph_plan_reaches_j2 (k4:(List (D42×Bool))→(List D42)→Int→Option Bool)(m45:List (D42×Bool))(xs48:List D42)(y49:Int)(x58:D42)(y64:Bool):Option Bool:=if y64=true then(A.gd ((List.length (α:=D42) xs48+List.length (α:=D42) [(x58.1,x58.2)])*16≤140737488355328) (F.graph_plan_reaches_j1 k4 y49 (Z.mins m45 (x58.1,x58.2) true) (xs48++[(x58.1,x58.2)])))else(F.graph_plan_reaches_j1 k4 y49 m45 xs48)
def F.graph_plan_reaches_l3 (k3:(List (D42×Bool))→(List D42)→Option Bool)(a2:(List (D42×Int)))(a3:D42)(a4:Int)(x40:(List D42)):Nat→(List (D42×Bool))→(List D42)→Int→Option Bool
 |0,_,_,_=>none
 |f+1,m45,xs48,y49=>if y49<((x40).length:Int)then((A.ix x40 y49).bind fun x58=>(if(x58.1,x58.2)=(a3.1,a3.2)then(some true)else(A.lt (Z.mget (0:Int) a2 (x58.1,x58.2)) fun x69=>(if a4≤x69 then(A.lt (Z.mget (false:Bool) m45 (x58.1,x58.2)) fun x72=>(F.graph_plan_reaches_j2 (F.graph_plan_reaches_l3 k3 a2 a3 a4 x40 f) m45 xs48 y49 x58 (!x72)))else(F.graph_plan_reaches_j2 (F.graph_plan_reaches_l3 k3 a2 a3 a4 x40 f) m45 xs48 y49 x58 false)))))else(k3 m45 xs48)
def F.graph_plan_reaches_j4 (k3:(List (D42×Bool))→(List D42)→Option Bool)(a1:(List (D42×(List D42))))(a2:(List (D42×Int)))(a3:D42)(a4:Int)(m4:List (D42×Bool))(xs7:List D42)(x10:D42)(xs22:List Int)(y23:Int)(y25:Int)(y27:Int)(y29:Int)(y31:ByteArray)(y33:ByteArray)(y35:Int)(y37:Int):Option Bool:=if(bif decide (y25=14)then decide (y37=a4)else false)=true then(k3 m4 (List.take ((((xs7).length:Int)-1).toNat) xs7))else(A.lt (Z.mget ([]:(List D42)) a1 (x10.1,x10.2)) fun x40=>(F.graph_plan_reaches_l3 k3 a2 a3 a4 x40 A.FU m4 (List.take ((((xs7).length:Int)-1).toNat) xs7) 0))
def F.graph_plan_reaches_l5 (a0:((List (Int×D32))×(List Int)×(List (Int×Int))))(a1:(List (D42×(List D42))))(a2:(List (D42×Int)))(a3:D42)(a4:Int):Nat→(List (D42×Bool))→(List D42)→Option Bool
 |0,_,_=>none
 |f+1,m4,xs7=>if(0:Int)<((xs7).length:Int)then(A.gd (Z.R64 (((xs7).length:Int)-1)) ((A.ix xs7 (((xs7).length:Int)-1)).bind fun x10=>(A.gd (Z.R64 (((xs7).length:Int)-1)) (A.gd (0≤((xs7).length:Int)-1∧(((xs7).length:Int)-1).toNat≤(xs7).length) (A.lt (Z.mget ((0,0,[],(0,0,(ByteArray.mk #[])),(ByteArray.mk #[]),0,0):D32) a0.1 x10.1) fun x435=>(F.graph_plan_reaches_j4 (F.graph_plan_reaches_l5 a0 a1 a2 a3 a4 f) a1 a2 a3 a4 m4 xs7 x10 x435.2.2.1 x435.1 x435.2.1 x435.2.2.2.1.1 x435.2.2.2.1.2.1 x435.2.2.2.1.2.2 x435.2.2.2.2.1 x435.2.2.2.2.2.1 x435.2.2.2.2.2.2))))))else(some false)
def F.graph_plan_reaches (a0:((List (Int×D32))×(List Int)×(List (Int×Int))))(a1:(List (D42×(List D42))))(a2:(List (D42×Int)))(a3:D42)(a4:Int):Option Bool:=F.graph_plan_reaches_l5 a0 a1 a2 a3 a4 A.FU [] [(a3.1,a3.2)]
theorem graph_plan_reaches_ok (a0:((List (Int×D32))×(List Int)×(List (Int×Int))))(a1:(List (D42×(List D42))))(a2:(List (D42×Int)))(a3:D42)(a4:Int)(g0_:Nat)(b1_:Nat)(A2_:Option Addr)(c3_:Nat)(b4_:Nat)(b5_:Nat)(b6_:Nat)(h7_:IntKind.i64.has a3.1)(h8_:IntKind.i64.has a3.2)(h9_:IntKind.i64.has a4)(r:Bool)(hF:F.graph_plan_reaches a0 a1 a2 a3 a4=some r):
    A.Ct Tryd.prog 74 [.pointer (some ⟨g0_,0,none⟩),.map (some b5_),.map (some b6_),.agg #[.int .i64 a3.1,.int .i64 a3.2],.int .i64 a4] [(0,.blk g0_ 95 [.map (some b1_),.slice A2_ ((a0.2.1).length) c3_,.map (some b4_)]),(1,.mp Int (fun i:Int=>.int .i64 i) T32 true b1_ a0.1),(2,.own (Z.Ty.int .i64) 3 A2_ c3_ a0.2.1),(3,.mp Int (fun i:Int=>.int .i64 i) (Z.Ty.int .i64) false b4_ a0.2.2),(4,.lmp D42 (fun x:D42=>.agg #[.int .i64 x.1,.int .i64 x.2]) (Z.Ty.slice T42) false b5_ a1),(5,.lmp D42 (fun x:D42=>.agg #[.int .i64 x.1,.int .i64 x.2]) (Z.Ty.int .i64) false b6_ a2)] ([g0_]++([b1_]++(Z.obl A2_++([b4_]++[])))) (fun v H'=>v=.bool r∧H'=[(0,.blk g0_ 95 [.map (some b1_),.slice A2_ ((a0.2.1).length) c3_,.map (some b4_)]),(1,.mp Int (fun i:Int=>.int .i64 i) T32 true b1_ a0.1),(2,.own (Z.Ty.int .i64) 3 A2_ c3_ a0.2.1),(3,.mp Int (fun i:Int=>.int .i64 i) (Z.Ty.int .i64) false b4_ a0.2.2)]):=by
 refine A.Ct.enter Tryd.func74 rfl Tryd.ntmps74 rfl fun w0 F0=>?_
 rw[F.graph_plan_reaches]at hF
 refine A.xl 1 ?_
 refine A.AL.box 6 (cs:=[.int .i64 a3.1,.int .i64 a3.2]) fun g1=>?_
 refine A.q0 [] [] [.n] [] ?_
 refine A.dl 2 ?_
 refine A.AL.mkm 7 D42 (fun x:D42=>.agg #[.int .i64 x.1,.int .i64 x.2]) Z.Ty.bool false fun b2=>?_
 refine A.q0 [] [] [.n] [(11,.map (some b2))] ?_
 refine A.dl 2 ?_
 refine A.q0 [6] [] [.b 0 0] [(18,.agg #[.int .i64 a3.1,.int .i64 a3.2])] ?_
 refine A.AL.bsl 8 (ty:=T42) (cs:=[.int .i64 a3.1,.int .i64 a3.2]) [(a3.1,a3.2)] ⟨⟨⟨rfl,h7_⟩,⟨rfl,h8_⟩⟩,rfl⟩ (fun g3=>?_) Tryd.zeroValue43 Tryd.sizeOf43
 refine A.q0 [] [] [.n] [(12,.slice (some ⟨g3,0,none⟩) 1 1)] ?_
 refine A.dx 3 ?_
 refine A.lp_ [0,1,2,4,8,11] [0,1,2,3,4,5,6] (fun f nl nh=>∃(m4:List (D42×Bool)),∃(xs7:List D42),∃(A5:Option Addr),∃(c6:Nat),nl=[(12,.slice A5 ((xs7).length) c6)]∧nh=[(7,.mp D42 (fun x:D42=>.agg #[.int .i64 x.1,.int .i64 x.2]) Z.Ty.bool false b2 m4),(8,.own T42 43 A5 c6 xs7)]∧F.graph_plan_reaches_l5 a0 a1 a2 a3 a4 f m4 xs7=some r) ⟨[],[(a3.1,a3.2)],(some ⟨g3,0,none⟩),1,rfl,rfl,hF⟩ ?_
 rintro f8 _ _ ⟨m4,xs7,A5,c6,rfl,rfl,hF⟩
 rcases f8 with _|f8
 ·exact A.no0 hF
 rw[F.graph_plan_reaches_l5]at hF
 refine A.xl 2 ?_
 refine A.q0 [] [] [.n,.n,.n] [(22,.bool (decide ((0:Int)<((xs7).length:Int))))] ?_
 refine A.dx 1 ?_
 refine A.AX.cnd rfl hF (fun hb hF=>?_) (fun hb hF=>?_)
 ·refine A.xl 4 ?_
  obtain⟨hc9,hF⟩:=A.gd_some hF
  refine A.q [] [] [.n,.n,.n,.n] [Z.R64 (((xs7).length:Int)-1)] [(23,.slice A5 ((xs7).length) c6),(26,.int .i64 (((xs7).length:Int)-1))] hc9 ?_
  obtain⟨x10,hv11,hF⟩:=A.bd_some hF
  refine A.AL.ixo 8 587 hv11 fun ho12=>?_
  intro g13 hA14
  refine A.q0 [] [587] [.e 0 0] [(28,.agg #[.int .i64 x10.1,.int .i64 x10.2])] ?_
  refine A.AL.alloc 588 (cs:=[.int .i64 0,.int .i64 0]) Tryd.zeroValue43 fun g15=>?_
  refine A.sw 588 [] [.int .i64 x10.1,.int .i64 x10.2] ?_
  refine A.dl 2 ?_
  obtain⟨hc16,hF⟩:=A.gd_some hF
  refine A.q [] [] [.n,.n,.n,.n] [Z.R64 (((xs7).length:Int)-1)] [(29,.slice A5 ((xs7).length) c6),(32,.int .i64 (((xs7).length:Int)-1))] hc16 ?_
  obtain⟨hc17,hF⟩:=A.gd_some hF
  refine A.AL.cuto 8 [587] (v:=(((xs7).length:Int)-1).toNat) (Int.toNat_of_nonneg hc17.1).symm hc17.2 ?_
  refine A.q0 [] [] [.n] [(12,.slice A5 ((List.take ((((xs7).length:Int)-1).toNat) xs7).length) c6)] ?_
  refine A.dx 2 ?_
  refine A.AX.join [0,1,2,4,8,11,12,13] [0,1,2,3,4,5,6,7,8,588] (fun nl nh=>∃(xs22:List Int),∃(y23:Int),∃(y25:Int),∃(y27:Int),∃(y29:Int),∃(y31:ByteArray),∃(y33:ByteArray),∃(y35:Int),∃(y37:Int),∃(A20:Option Addr),∃(c21:Nat),∃(g39:Nat),nl=[(14,.pointer (some ⟨g39,0,none⟩))]∧nh=[(770,.sh (.slice (Z.Ty.int .i64)) [.slice A20 (xs22).length c21] xs22),(800,.blk g39 33 [.int .i64 y23,.int .i64 y25,.slice A20 ((xs22).length) c21,.int .i64 y27,.int .i64 y29,.string y31,.string y33,.int .i64 y35,.int .i64 y37])]∧IntKind.i64.has y23∧IntKind.i64.has y25∧IntKind.i64.has y27∧IntKind.i64.has y29∧y31.size≤maxLen∧y33.size≤maxLen∧IntKind.i64.has y35∧IntKind.i64.has y37∧F.graph_plan_reaches_j4 (F.graph_plan_reaches_l5 a0 a1 a2 a3 a4 f8) a1 a2 a3 a4 m4 xs7 x10 xs22 y23 y25 y27 y29 y31 y33 y35 y37=some r) ?_ ?_
  ·refine A.AX.dr mixed 8 9 (A.mb 9 0) ?_
   refine A.hq A.pb [] [0,1,2,3,4,5,6,7,8,588] [588,0] [] (A.mb 9 63) 3 [(0,.n),(4,.n),(1,.n),(5,.b 0 0),(2,.n),(3,.b 1 0)] [(39,.int .i64 x10.1),(37,.map (some b1_))] ?_
   refine A.AH.two 6 7 ?_ ?_
   ·obtain⟨x435,hv436,hF⟩:=A.lt_some hF
    refine A.AL.lku (t:=T32) 1 770 (z:=((0,0,[],(0,0,(ByteArray.mk #[])),(ByteArray.mk #[]),0,0):D32)) (zs:=[.int .i64 0,.int .i64 0,.slice none 0 0,.int .i64 0,.int .i64 0,.string (ByteArray.mk #[]),.string (ByteArray.mk #[]),.int .i64 0,.int .i64 0]) ky3 x10.1 Tryd.zeroValue33 ⟨⟨rfl,by decide⟩,⟨rfl,by decide⟩,(.inr ⟨rfl,rfl⟩),⟨⟨rfl,by decide⟩,⟨rfl,by decide⟩,⟨rfl,by decide⟩⟩,⟨rfl,by decide⟩,⟨rfl,by decide⟩,⟨rfl,by decide⟩⟩ hv436 fun ho437=>?_
    intro A438 c439
    refine A.AH.nx (A.mb 9 127) [0,1,2,3,4,5,6,7,8,588] ?_
    refine A.AH.one 7 ?_
    refine A.AL.alloc 800 (cs:=[.int .i64 0,.int .i64 0,.slice none 0 0,.int .i64 0,.int .i64 0,.string (ByteArray.mk #[]),.string (ByteArray.mk #[]),.int .i64 0,.int .i64 0]) Tryd.zeroValue33 fun g495=>?_
    refine A.AH.nx (A.mb 9 255) [0,1,2,3,4,5,6,7,8,588] ?_
    refine A.AH.one 8 ?_
    refine A.sw 800 [] [.int .i64 x435.1,.int .i64 x435.2.1,.slice A438 ((x435.2.2.1).length) c439,.int .i64 x435.2.2.2.1.1,.int .i64 x435.2.2.2.1.2.1,.string x435.2.2.2.1.2.2,.string x435.2.2.2.2.1,.int .i64 x435.2.2.2.2.2.1,.int .i64 x435.2.2.2.2.2.2] ?_
    refine A.AH.nm (A.mb 9 511) ?_
    refine A.AH.done ?_
    exact A.j ⟨x435.2.2.1,x435.1,x435.2.1,x435.2.2.2.1.1,x435.2.2.2.1.2.1,x435.2.2.2.1.2.2,x435.2.2.2.2.1,x435.2.2.2.2.2.1,x435.2.2.2.2.2.2,A438,c439,g495,rfl,rfl,ho437.1,ho437.2.1,ho437.2.2.2.1.1,ho437.2.2.2.1.2.1,ho437.2.2.2.1.2.2,ho437.2.2.2.2.1,ho437.2.2.2.2.2.1,ho437.2.2.2.2.2.2,hF⟩
   refine A.AL.alloc 800 (cs:=[.int .i64 0,.int .i64 0,.slice none 0 0,.int .i64 0,.int .i64 0,.string (ByteArray.mk #[]),.string (ByteArray.mk #[]),.int .i64 0,.int .i64 0]) Tryd.zeroValue33 fun g495=>?_
   refine A.AH.nx (A.mb 9 191) [0,1,2,3,4,5,6,7,8,588] ?_
   refine A.AH.one 6 ?_
   obtain⟨x435,hv436,hF⟩:=A.lt_some hF
   refine A.AL.lku (t:=T32) 1 770 (z:=((0,0,[],(0,0,(ByteArray.mk #[])),(ByteArray.mk #[]),0,0):D32)) (zs:=[.int .i64 0,.int .i64 0,.slice none 0 0,.int .i64 0,.int .i64 0,.string (ByteArray.mk #[]),.string (ByteArray.mk #[]),.int .i64 0,.int .i64 0]) ky3 x10.1 Tryd.zeroValue33 ⟨⟨rfl,by decide⟩,⟨rfl,by decide⟩,(.inr ⟨rfl,rfl⟩),⟨⟨rfl,by decide⟩,⟨rfl,by decide⟩,⟨rfl,by decide⟩⟩,⟨rfl,by decide⟩,⟨rfl,by decide⟩,⟨rfl,by decide⟩⟩ hv436 fun ho437=>?_
   intro A438 c439
   refine A.AH.nx (A.mb 9 255) [0,1,2,3,4,5,6,7,8,588] ?_
   refine A.AH.one 8 ?_
   refine A.sw 800 [] [.int .i64 x435.1,.int .i64 x435.2.1,.slice A438 ((x435.2.2.1).length) c439,.int .i64 x435.2.2.2.1.1,.int .i64 x435.2.2.2.1.2.1,.string x435.2.2.2.1.2.2,.string x435.2.2.2.2.1,.int .i64 x435.2.2.2.2.2.1,.int .i64 x435.2.2.2.2.2.2] ?_
   refine A.AH.nm (A.mb 9 511) ?_
   refine A.AH.done ?_
   exact A.j ⟨x435.2.2.1,x435.1,x435.2.1,x435.2.2.2.1.1,x435.2.2.2.1.2.1,x435.2.2.2.1.2.2,x435.2.2.2.2.1,x435.2.2.2.2.2.1,x435.2.2.2.2.2.2,A438,c439,g495,rfl,rfl,ho437.1,ho437.2.1,ho437.2.2.2.1.1,ho437.2.2.2.1.2.1,ho437.2.2.2.1.2.2,ho437.2.2.2.2.1,ho437.2.2.2.2.2.1,ho437.2.2.2.2.2.2,hF⟩
  rintro _ _ ⟨xs22,y23,y25,y27,y29,y31,y33,y35,y37,A20,c21,g39,rfl,rfl,hy24,hy26,hy28,hy30,hy32,hy34,hy36,hy38,hF⟩
  rw[F.graph_plan_reaches_j4]at hF
  refine A.xl 1 ?_
  refine A.q0 [800] [] [.n,.b 0 1,.n,.n,.sy .n,.sy (.b 0 8),.sy .n,.sy .n,.pk] [(49,.bool (bif decide (y25=14)then decide (y37=a4)else false))] ?_
  refine A.dx 1 ?_
  refine A.AX.cnb rfl hF (fun hb hF=>?_) (fun hb hF=>?_)
  ·refine A.xe 1 ?_
   exact A.j ⟨_,Nat.lt_succ_self _,⟨m4,(List.take ((((xs7).length:Int)-1).toNat) xs7),A5,c6,rfl,rfl,hF⟩⟩
  refine A.xl 3 ?_
  refine A.q0 [588] [] [.n,.b 0 0] [(50,.map (some b5_)),(51,.agg #[.int .i64 x10.1,.int .i64 x10.2])] ?_
  obtain⟨x40,hv41,hF⟩:=A.lt_some hF
  refine A.AL.lku (t:=(Z.Ty.slice T42)) 4 860 (z:=([]:(List D42))) (zs:=[.slice none 0 0]) ky43 (x10.1,x10.2) Tryd.zeroValue102 (.inr ⟨rfl,rfl⟩) hv41 fun ho42=>?_
  intro A43 c44
  refine A.q0 [] [] [.n,.n] [(53,.int .i64 ((x40).length:Int)),(54,.int .i64 0)] ?_
  refine A.dx 2 ?_
  refine A.lp_ [0,1,2,4,8,11,52,53] [0,1,2,3,4,5,6,860] (fun f nl nh=>∃(m45:List (D42×Bool)),∃(xs48:List D42),∃(y49:Int),∃(A46:Option Addr),∃(c47:Nat),nl=[(12,.slice A46 ((xs48).length) c47),(54,.int .i64 y49)]∧nh=[(7,.mp D42 (fun x:D42=>.agg #[.int .i64 x.1,.int .i64 x.2]) Z.Ty.bool false b2 m45),(8,.own T42 43 A46 c47 xs48)]∧IntKind.i64.has y49∧F.graph_plan_reaches_l3 (F.graph_plan_reaches_l5 a0 a1 a2 a3 a4 f8) a2 a3 a4 x40 f m45 xs48 y49=some r) ⟨m4,(List.take ((((xs7).length:Int)-1).toNat) xs7),0,A5,c6,rfl,rfl,(A.hasl .i64 (0) rfl),hF⟩ ?_
  rintro f51 _ _ ⟨m45,xs48,y49,A46,c47,rfl,rfl,hy50,hF⟩
  rcases f51 with _|f51
  ·exact A.no0 hF
  rw[F.graph_plan_reaches_l3]at hF
  refine A.xl 1 ?_
  refine A.q0 [] [] [.n] [(55,.bool (decide (y49<((x40).length:Int))))] ?_
  refine A.dx 2 ?_
  refine A.AX.cnd rfl hF (fun hb hF=>?_) (fun hb hF=>?_)
  ·refine A.xx 2 ?_
   refine A.AX.join [0,1,2,4,8,11,52,53,54] [0,1,2,3,4,5,6,860] (fun nl nh=>∃(m53:List (D42×Bool)),∃(xs56:List D42),∃(A54:Option Addr),∃(c55:Nat),nl=[(12,.slice A54 ((xs56).length) c55)]∧nh=[(7,.mp D42 (fun x:D42=>.agg #[.int .i64 x.1,.int .i64 x.2]) Z.Ty.bool false b2 m53),(8,.own T42 43 A54 c55 xs56)]∧F.graph_plan_reaches_j1 (F.graph_plan_reaches_l3 (F.graph_plan_reaches_l5 a0 a1 a2 a3 a4 f8) a2 a3 a4 x40 f51) y49 m53 xs56=some r) ?_ ?_
   ·refine A.xl 2 ?_
    obtain⟨x58,hv59,hF⟩:=A.bd_some hF
    refine A.AL.ixs 860 871 hv59 fun ho60=>?_
    intro b61 o62
    refine A.q0 [] [871] [.e 0 0] [(57,.agg #[.int .i64 x58.1,.int .i64 x58.2])] ?_
    refine A.AL.alloc 872 (cs:=[.int .i64 0,.int .i64 0]) Tryd.zeroValue43 fun g63=>?_
    refine A.sw 872 [] [.int .i64 x58.1,.int .i64 x58.2] ?_
    refine A.dl 3 ?_
    refine A.q0 [872,6] [] [.b 0 0,.b 1 0] [(58,.agg #[.int .i64 x58.1,.int .i64 x58.2]),(59,.agg #[.int .i64 a3.1,.int .i64 a3.2])] ?_
    refine A.AL.val rfl (fun a w hf hh=>eqagg_eql43 (x:=(x58.1,x58.2)) (y:=(a3.1,a3.2)) (hf.eval rfl) (hf.eval rfl)) ?_
    refine A.dx 1 ?_
    refine A.AX.cnd rfl hF (fun hb hF=>?_) (fun hb hF=>?_)
    ·refine A.xl 1 ?_
     refine A.q0 [] [] [.n] [(10,.bool true)] ?_
     refine A.dx 1 ?_
     obtain rfl:=Option.some.inj hF
     exact A.rt1 [(0,0),(1,1),(2,2),(3,3)] ⟨rfl,rfl⟩
    refine A.xx 2 ?_
    refine A.AX.join [0,1,2,4,8,11,12,16,52,53,54] [0,1,2,3,4,5,6,7,8,860,872] (fun nl nh=>∃(y64:Bool),nl=[(71,.bool y64)]∧nh=[]∧F.graph_plan_reaches_j2 (F.graph_plan_reaches_l3 (F.graph_plan_reaches_l5 a0 a1 a2 a3 a4 f8) a2 a3 a4 x40 f51) m45 xs48 y49 x58 y64=some r) ?_ ?_
    ·refine A.xl 0 ?_
     refine A.q0 [872] [] [.n,.b 0 0] [(61,.map (some b6_)),(62,.agg #[.int .i64 x58.1,.int .i64 x58.2])] ?_
     obtain⟨x69,hv70,hF⟩:=A.lt_some hF
     refine A.AL.lku (t:=(Z.Ty.int .i64)) 5 873 (z:=(0:Int)) (zs:=[.int .i64 0]) ky43 (x58.1,x58.2) Tryd.zeroValue3 ⟨rfl,by decide⟩ hv70 fun ho71=>?_
     refine A.q0 [] [] [.n,.n,.n] [(66,.bool (decide (a4≤x69)))] ?_
     refine A.AL.cnp (j:=66) rfl hF (fun hb hF=>?_) (fun hb hF=>?_)
     ·refine A.q0 [872] [] [.on .n,.on (.b 0 0)] [(67,.map (some b2)),(68,.agg #[.int .i64 x58.1,.int .i64 x58.2])] ?_
      refine A.AL.on (dj:=66) rfl rfl ?_
      obtain⟨x72,hv73,hF⟩:=A.lt_some hF
      refine A.AL.lku (t:=Z.Ty.bool) 7 874 (z:=(false:Bool)) (zs:=[.bool false]) ky43 (x58.1,x58.2) Tryd.zeroValue4 rfl hv73 fun ho74=>?_
      refine A.q0 [] [] [.on .n,.n] [(71,.bool (!x72))] ?_
      refine A.AL.done ?_
      exact A.j ⟨(!x72),rfl,rfl,hF⟩
     refine A.q0 [] [] [.off,.off,.off,.off,.n] [(71,.bool false)] ?_
     refine A.AL.done ?_
     exact A.j ⟨false,rfl,rfl,hF⟩
    rintro _ _ ⟨y64,rfl,rfl,hF⟩
    rw[F.graph_plan_reaches_j2]at hF
    refine A.AX.cnb rfl hF (fun hb hF=>?_) (fun hb hF=>?_)
    ·refine A.xl 1 ?_
     refine A.q0 [872] [] [.n,.b 0 0] [(72,.map (some b2)),(73,.agg #[.int .i64 x58.1,.int .i64 x58.2])] ?_
     refine A.AL.mup (t:=Z.Ty.bool) 7 [] (cs:=[.bool true]) (u:=true) ky43 (x58.1,x58.2) rfl ?_
     refine A.dl 1 ?_
     refine A.q0 [872] [] [.n,.b 0 0] [(74,.slice A46 ((xs48).length) c47),(75,.agg #[.int .i64 x58.1,.int .i64 x58.2])] ?_
     refine A.AL.bsl 875 (ty:=T42) (cs:=[.int .i64 x58.1,.int .i64 x58.2]) [(x58.1,x58.2)] ⟨⟨⟨rfl,ho60.1⟩,⟨rfl,ho60.2⟩⟩,rfl⟩ (fun g65=>?_) Tryd.zeroValue43 Tryd.sizeOf43
     obtain⟨hl68,hF⟩:=A.gd_some hF
     refine A.AL.app (k:=8) [] (A.rowO (k:=875) rfl) inf43 hl68 fun A66 c67=>?_
     refine A.q0 [] [] [.n] [(12,.slice A66 ((xs48++[(x58.1,x58.2)]).length) c67)] ?_
     refine A.de 1 ?_
     exact A.j ⟨(Z.mins m45 (x58.1,x58.2) true),(xs48++[(x58.1,x58.2)]),A66,c67,rfl,rfl,hF⟩
    refine A.xe 2 ?_
    exact A.j ⟨m45,xs48,A46,c47,rfl,rfl,hF⟩
   rintro _ _ ⟨m53,xs56,A54,c55,rfl,rfl,hF⟩
   rw[F.graph_plan_reaches_j1]at hF
   refine A.xl 0 ?_
   obtain⟨hc57,hF⟩:=A.gd_some hF
   refine A.q [] [] [.n,.n] [Z.R64 (y49+1)] [(54,.int .i64 (y49+1))] hc57 ?_
   refine A.AL.done ?_
   exact A.j ⟨_,Nat.lt_succ_self _,⟨m53,xs56,(y49+1),A54,c55,rfl,rfl,(Z.i64_has hc57),hF⟩⟩
  refine A.xe 2 ?_
  exact A.j ⟨_,Nat.lt_succ_self _,⟨m45,xs48,A46,c47,rfl,rfl,hF⟩⟩
 refine A.xl 3 ?_
 refine A.q0 [] [] [.n] [(10,.bool false)] ?_
 refine A.dx 1 ?_
 obtain rfl:=Option.some.inj hF
 exact A.rt1 [(0,0),(1,1),(2,2),(3,3)] ⟨rfl,rfl⟩
end Go.Proofs.YtpdhaldfdeamdaaDoor
end
section
set_option linter.unusedVariables false
set_option linter.unusedSimpArgs false
set_option maxRecDepth 20000
set_option maxHeartbeats 8000000
set_option synthInstance.maxSize 1000000
set_option synthInstance.maxHeartbeats 400000
namespace Go.Proofs.YtpdhaldfdeamdaaDoor
open Go.RowKit
def F.graph_plan_turns_b1 (a0:((List (Int×D32))×(List Int)×(List (Int×Int))))(m7:List (D42×Int))(m24:List (D42×(List D42)))(p46:D42×Int):Option (Option Bool):=A.gd (decide (IntKind.i64.has p46.1.1)=true∧decide (IntKind.i64.has p46.1.2)=true) ((F.graph_plan_reaches (a0.1,a0.2.1,a0.2.2) m24 m7 (p46.1.1,p46.1.2) p46.2).bind fun r53=>(if r53=true then(some (some true))else(some none)))
def F.graph_plan_turns_l2 (a0:((List (Int×D32))×(List Int)×(List (Int×Int))))(m7:List (D42×Int))(r19:(List D46)):Nat→(List (D42×(List D42)))→Int→Option Bool
 |0,_,_=>none
 |f+1,m24,y25=>if y25<((r19).length:Int)then((A.ix r19 y25).bind fun x28=>(A.gd (((Z.mget ([]:List D42) m24 (x28.1.1,x28.1.2)).length+List.length (α:=D42) [(x28.2.1.1,x28.2.1.2)])*16≤140737488355328) (A.gd (Z.R64 (y25+1)) ((F.graph_plan_turns_l2 a0 m7 r19 f) (Z.mins m24 (x28.1.1,x28.1.2) (Z.mget ([]:List D42) m24 (x28.1.1,x28.1.2)++[(x28.2.1.1,x28.2.1.2)])) (y25+1)))))else(A.mrg (F.graph_plan_turns_b1 a0 m7 m24) (some false) m7)
def F.graph_plan_turns_l3 (a0:((List (Int×D32))×(List Int)×(List (Int×Int))))(a1:D23)(r3:(List D60)):Nat→(List (D42×Int))→Int→Option Bool
 |0,_,_=>none
 |f+1,m7,y8=>if y8<((r3).length:Int)then((A.ix r3 y8).bind fun x11=>(A.gd (Z.R64 (y8+1)) ((F.graph_plan_turns_l3 a0 a1 r3 f) (Z.mins m7 (x11.1.1,x11.1.2) x11.2) (y8+1))))else((F.graph_plan_edges (a0.1,a0.2.1,a0.2.2) a1).bind fun r19=>(F.graph_plan_turns_l2 a0 m7 r19 A.FU [] 0))
def F.graph_plan_turns (a0:((List (Int×D32))×(List Int)×(List (Int×Int))))(a1:D23):Option Bool:=(F.graph_plan_spots (a0.1,a0.2.1,a0.2.2) a1).bind fun r3=>(F.graph_plan_turns_l3 a0 a1 r3 A.FU [] 0)
theorem graph_plan_turns_ok (a0:((List (Int×D32))×(List Int)×(List (Int×Int))))(a1:D23)(g0_:Nat)(b1_:Nat)(A2_:Option Addr)(c3_:Nat)(b4_:Nat)(A5_:Option Addr)(c6_:Nat)(r:Bool)(hF:F.graph_plan_turns a0 a1=some r):
    A.Ct Tryd.prog 53 [.pointer (some ⟨g0_,0,none⟩),.agg #[.slice A5_ ((a1).length) c6_]] [(0,.blk g0_ 95 [.map (some b1_),.slice A2_ ((a0.2.1).length) c3_,.map (some b4_)]),(1,.mp Int (fun i:Int=>.int .i64 i) T32 true b1_ a0.1),(2,.own (Z.Ty.int .i64) 3 A2_ c3_ a0.2.1),(3,.mp Int (fun i:Int=>.int .i64 i) (Z.Ty.int .i64) false b4_ a0.2.2),(4,.sh (.slice T32) [.slice A5_ (a1).length c6_] a1)] ([g0_]++([b1_]++(Z.obl A2_++([b4_]++[])))) (fun v H'=>v=.bool r∧H'=[(0,.blk g0_ 95 [.map (some b1_),.slice A2_ ((a0.2.1).length) c3_,.map (some b4_)]),(1,.mp Int (fun i:Int=>.int .i64 i) T32 true b1_ a0.1),(2,.own (Z.Ty.int .i64) 3 A2_ c3_ a0.2.1),(3,.mp Int (fun i:Int=>.int .i64 i) (Z.Ty.int .i64) false b4_ a0.2.2)]):=by
 refine A.Ct.enter Tryd.func53 rfl Tryd.ntmps53 rfl fun w0 F0=>?_
 rw[F.graph_plan_turns]at hF
 refine A.xl 1 ?_
 refine A.AL.box 5 (cs:=[.slice A5_ ((a1).length) c6_]) fun g1=>?_
 refine A.q0 [] [] [.n] [] ?_
 refine A.dl 2 ?_
 refine A.AL.mkm 6 D42 (fun x:D42=>.agg #[.int .i64 x.1,.int .i64 x.2]) (Z.Ty.int .i64) false fun b2=>?_
 refine A.q0 [] [] [.n] [(5,.map (some b2))] ?_
 refine A.dl 3 ?_
 refine A.q0 [5] [] [.n,.b 0 0] [(14,.pointer (some ⟨g0_,0,none⟩)),(15,.agg #[.slice A5_ ((a1).length) c6_])] ?_
 obtain⟨r3,hv4,hF⟩:=A.bd_some hF
 refine A.AL.call 7 [] (first:=[]) (cap:=[]) cf42 (graph_plan_spots_ok (a0.1,a0.2.1,a0.2.2) a1 g0_ b1_ A2_ c3_ b4_ A5_ c6_ r3 hv4) (.m 0 (.m 1 (.m 2 (.m 3 (.s 4 .nil))))) ?_
 rintro _ _ ⟨A5,c6,rfl,rfl⟩
 refine⟨by kernel_rfl,?_⟩
 refine A.mvd 8 0 [] ?_
 refine A.mvd 9 1 [] ?_
 refine A.mvd 10 2 [] ?_
 refine A.mvd 11 3 [] ?_
 refine A.q0 [] [] [.n,.n] [(17,.int .i64 ((r3).length:Int)),(18,.int .i64 0)] ?_
 refine A.dx 2 ?_
 refine A.lp_ [0,3,5,16,17] [0,1,2,3,4,5,7] (fun f nl nh=>∃(m7:List (D42×Int)),∃(y8:Int),nl=[(18,.int .i64 y8)]∧nh=[(6,.mp D42 (fun x:D42=>.agg #[.int .i64 x.1,.int .i64 x.2]) (Z.Ty.int .i64) false b2 m7)]∧IntKind.i64.has y8∧F.graph_plan_turns_l3 a0 a1 r3 f m7 y8=some r) ⟨[],0,rfl,rfl,(A.hasl .i64 (0) rfl),hF⟩ ?_
 rintro f10 _ _ ⟨m7,y8,rfl,rfl,hy9,hF⟩
 rcases f10 with _|f10
 ·exact A.no0 hF
 rw[F.graph_plan_turns_l3]at hF
 refine A.xl 1 ?_
 refine A.q0 [] [] [.n] [(19,.bool (decide (y8<((r3).length:Int))))] ?_
 refine A.dx 2 ?_
 refine A.AX.cnd rfl hF (fun hb hF=>?_) (fun hb hF=>?_)
 ·refine A.xl 5 ?_
  obtain⟨x11,hv12,hF⟩:=A.bd_some hF
  refine A.AL.ixo 7 409 hv12 fun ho13=>?_
  intro g14 hA15
  refine A.q0 [] [409] [.e 0 0] [(21,.agg #[.int .i64 x11.1.1,.int .i64 x11.1.2,.int .i64 x11.2])] ?_
  refine A.AL.alloc 410 (cs:=[.int .i64 0,.int .i64 0,.int .i64 0]) Tryd.zeroValue61 fun g16=>?_
  refine A.sw 410 [] [.int .i64 x11.1.1,.int .i64 x11.1.2,.int .i64 x11.2] ?_
  refine A.dl 1 ?_
  refine A.q0 [410] [] [.n,.n,.b 0 0,.n,.b 0 2] [(22,.map (some b2)),(24,.agg #[.int .i64 x11.1.1,.int .i64 x11.1.2]),(26,.int .i64 x11.2)] ?_
  refine A.AL.mup (t:=(Z.Ty.int .i64)) 6 [] (cs:=[.int .i64 x11.2]) (u:=x11.2) ky43 (x11.1.1,x11.1.2) ⟨rfl,ho13.2⟩ ?_
  refine A.dl 2 ?_
  obtain⟨hc17,hF⟩:=A.gd_some hF
  refine A.q [] [] [.n,.n] [Z.R64 (y8+1)] [(18,.int .i64 (y8+1))] hc17 ?_
  refine A.AL.done ?_
  exact A.j ⟨_,Nat.lt_succ_self _,⟨(Z.mins m7 (x11.1.1,x11.1.2) x11.2),(y8+1),rfl,rfl,(Z.i64_has hc17),hF⟩⟩
 refine A.xl 3 ?_
 refine A.AL.mkmr 411 D42 (fun x:D42=>.agg #[.int .i64 x.1,.int .i64 x.2]) T42 43 fun b18=>?_
 refine A.q0 [] [] [.n] [(8,.map (some b18))] ?_
 refine A.dl 3 ?_
 refine A.q0 [5] [] [.n,.b 0 0] [(29,.pointer (some ⟨g0_,0,none⟩)),(30,.agg #[.slice A5_ ((a1).length) c6_])] ?_
 obtain⟨r19,hv20,hF⟩:=A.bd_some hF
 refine A.AL.call 412 [] (first:=[]) (cap:=[]) cf33 (graph_plan_edges_ok (a0.1,a0.2.1,a0.2.2) a1 g0_ b1_ A2_ c3_ b4_ A5_ c6_ r19 hv20) (.m 0 (.m 1 (.m 2 (.m 3 (.s 4 .nil))))) ?_
 rintro _ _ ⟨A21,c22,rfl,rfl⟩
 refine⟨by kernel_rfl,?_⟩
 refine A.mvd 413 0 [] ?_
 refine A.mvd 414 1 [] ?_
 refine A.mvd 415 2 [] ?_
 refine A.mvd 416 3 [] ?_
 refine A.q0 [] [] [.n,.n] [(32,.int .i64 ((r19).length:Int)),(33,.int .i64 0)] ?_
 refine A.dx 2 ?_
 refine A.lp_ [0,5,8,31,32] [0,1,2,3,6,412] (fun f nl nh=>∃(m24:List (D42×(List D42))),∃(y25:Int),∃(As23:List (Option Addr×Nat)),nl=[(33,.int .i64 y25)]∧nh=[(411,.mr D42 (fun x:D42=>.agg #[.int .i64 x.1,.int .i64 x.2]) T42 43 b18 As23 m24)]∧IntKind.i64.has y25∧F.graph_plan_turns_l2 a0 m7 r19 f m24 y25=some r) ⟨[],0,[],rfl,rfl,(A.hasl .i64 (0) rfl),hF⟩ ?_
 rintro f27 _ _ ⟨m24,y25,As23,rfl,rfl,hy26,hF⟩
 rcases f27 with _|f27
 ·exact A.no0 hF
 rw[F.graph_plan_turns_l2]at hF
 refine A.xl 1 ?_
 refine A.q0 [] [] [.n] [(34,.bool (decide (y25<((r19).length:Int))))] ?_
 refine A.dx 2 ?_
 refine A.AX.cnd rfl hF (fun hb hF=>?_) (fun hb hF=>?_)
 ·refine A.xl 5 ?_
  obtain⟨x28,hv29,hF⟩:=A.bd_some hF
  refine A.AL.ixo 412 544 hv29 fun ho30=>?_
  intro g31 hA32
  refine A.q0 [] [544] [.e 0 0] [(36,.agg #[.int .i64 x28.1.1,.int .i64 x28.1.2,.int .i64 x28.2.1.1,.int .i64 x28.2.1.2,.int .i64 x28.2.2.1,.int .i64 x28.2.2.2.1,.int .i64 x28.2.2.2.2.1,.int .i64 x28.2.2.2.2.2.1,.int .i64 x28.2.2.2.2.2.2.1,.int .i64 x28.2.2.2.2.2.2.2.1,.int .i64 x28.2.2.2.2.2.2.2.2.1,.int .i64 x28.2.2.2.2.2.2.2.2.2])] ?_
  refine A.AL.alloc 545 (cs:=[.int .i64 0,.int .i64 0,.int .i64 0,.int .i64 0,.int .i64 0,.int .i64 0,.int .i64 0,.int .i64 0,.int .i64 0,.int .i64 0,.int .i64 0,.int .i64 0]) Tryd.zeroValue47 fun g33=>?_
  refine A.sw 545 [] [.int .i64 x28.1.1,.int .i64 x28.1.2,.int .i64 x28.2.1.1,.int .i64 x28.2.1.2,.int .i64 x28.2.2.1,.int .i64 x28.2.2.2.1,.int .i64 x28.2.2.2.2.1,.int .i64 x28.2.2.2.2.2.1,.int .i64 x28.2.2.2.2.2.2.1,.int .i64 x28.2.2.2.2.2.2.2.1,.int .i64 x28.2.2.2.2.2.2.2.2.1,.int .i64 x28.2.2.2.2.2.2.2.2.2] ?_
  refine A.dl 1 ?_
  refine A.q0 [545] [] [.n,.n,.b 0 0,.n,.b 0 2] [(37,.map (some b18)),(39,.agg #[.int .i64 x28.1.1,.int .i64 x28.1.2]),(42,.agg #[.int .i64 x28.2.1.1,.int .i64 x28.2.1.2])] ?_
  refine A.AL.bsl 546 (ty:=T42) (cs:=[.int .i64 x28.2.1.1,.int .i64 x28.2.1.2]) [(x28.2.1.1,x28.2.1.2)] ⟨⟨⟨rfl,ho30.2.1.1⟩,⟨rfl,ho30.2.1.2⟩⟩,rfl⟩ (fun g34=>?_) Tryd.zeroValue43 Tryd.sizeOf43
  obtain⟨hl35,hF⟩:=A.gd_some hF
  refine A.AL.mapp (t:=T42) (ys:=[(x28.2.1.1,x28.2.1.2)]) 411 546 [] ky43 (x28.1.1,x28.1.2) Tryd.zeroValue102 inf43 hl35 fun As36 v37 v38 v39 v40=>?_
  refine A.dl 2 ?_
  obtain⟨hc41,hF⟩:=A.gd_some hF
  refine A.q [] [] [.n,.n] [Z.R64 (y25+1)] [(33,.int .i64 (y25+1))] hc41 ?_
  refine A.AL.done ?_
  exact A.j ⟨_,Nat.lt_succ_self _,⟨(Z.mins m24 (x28.1.1,x28.1.2) (Z.mget ([]:List D42) m24 (x28.1.1,x28.1.2)++[(x28.2.1.1,x28.2.1.2)])),(y25+1),As36,rfl,rfl,(Z.i64_has hc41),hF⟩⟩
 refine A.xl 4 ?_
 refine A.q0 [] [] [.n] [(48,.map (some b2))] ?_
 refine A.AL.rgm 6 547 fun g42=>?_
 refine A.dx 2 ?_
 refine A.frzM 411 [] ?_
 obtain⟨hev,hend⟩:=A.mrg_all hF
 refine A.AX.loop [0,5,8,49] [0,1,2,3,6,411] [547,0,1,2,3,6,411] (fun f nl nh=>∃(sn:List Nat) (la:Option (Value×Value)),nl=[]∧nh=[(547,.mit 6 g42 b2 (m7).length sn la)]∧sn.Nodup∧(∀i∈sn,i<(m7).length)∧(∀i∈sn,∀p,(m7)[i]?=some p→F.graph_plan_turns_b1 a0 m7 m24 p=some none)∧f+sn.length=(m7).length+1) ((m7).length+1) [] [(547,.mit 6 g42 b2 (m7).length [] none)] ⟨[],none,rfl,rfl,List.nodup_nil,by simp,by simp,rfl⟩ ?_
 rintro f45 _ _ ⟨sn43,la44,rfl,rfl,hnd,hbd,hse,hff⟩
 refine A.xl 1 ?_
 refine A.AL.nxm 6 547 548 (fun hall=>?_) (fun i47 p46 hp48 hs49 ho50=>?_)
 ·replace hF:=hend (A.seen_all hse hall)
  refine A.q0 [] [] [.n] [(51,.bool false)] ?_
  refine A.dx 2 ?_
  refine A.AX.cnf rfl ?_
  refine A.xl 3 ?_
  refine A.q0 [] [] [.n] [(4,.bool false)] ?_
  refine A.dx 1 ?_
  obtain rfl:=Option.some.inj hF
  exact A.rt1 [(0,0),(1,1),(2,2),(3,3)] ⟨rfl,rfl⟩
 obtain⟨q,hB,hq⟩:=hev p46 (List.mem_of_getElem? hp48)
 have hF:=hB
 rw[F.graph_plan_turns_b1]at hF
 obtain⟨hkc51,hF⟩:=A.gd_some hF
 refine A.q0 [] [] [.n] [(51,.bool true)] ?_
 refine A.dx 2 ?_
 refine A.AX.cnt rfl ?_
 refine A.xl 4 ?_
 refine A.AL.ent 547 ?_
 refine A.q0 [] [] [.n,.n] [(53,.agg #[.int .i64 p46.1.1,.int .i64 p46.1.2]),(54,.int .i64 p46.2)] ?_
 refine A.AL.alloc 549 (cs:=[.int .i64 0,.int .i64 0]) Tryd.zeroValue43 fun g52=>?_
 refine A.sw 549 [] [.int .i64 p46.1.1,.int .i64 p46.1.2] ?_
 refine A.q0 [] [] [.n] [(12,.int .i64 p46.2)] ?_
 refine A.dl 2 ?_
 refine A.q0 [549] [] [.n,.n,.n,.b 0 0,.n] [(55,.pointer (some ⟨g0_,0,none⟩)),(56,.map (some b18)),(57,.map (some b2)),(58,.agg #[.int .i64 p46.1.1,.int .i64 p46.1.2]),(59,.int .i64 p46.2)] ?_
 obtain⟨r53,hv54,hF⟩:=A.bd_some hF
 refine A.AL.call 550 [] (first:=[]) (cap:=[]) cf74 (graph_plan_reaches_ok (a0.1,a0.2.1,a0.2.2) m24 m7 (p46.1.1,p46.1.2) p46.2 g0_ b1_ A2_ c3_ b4_ b18 b2 (of_decide_eq_true hkc51.1) (of_decide_eq_true hkc51.2) ho50 r53 hv54) (.m 0 (.m 1 (.m 2 (.m 3 (.lm 411 (.lm 6 .nil)))))) ?_
 rintro _ _ ⟨rfl,rfl⟩
 refine⟨by kernel_rfl,?_⟩
 refine A.mvd 550 0 [] ?_
 refine A.mvd 551 1 [] ?_
 refine A.mvd 552 2 [] ?_
 refine A.mvd 553 3 [] ?_
 refine A.dx 1 ?_
 refine A.AX.cnb rfl hF (fun hb hF=>?_) (fun hb hF=>?_)
 ·refine A.xl 1 ?_
  refine A.q0 [] [] [.n] [(4,.bool true)] ?_
  refine A.dx 1 ?_
  obtain rfl:=Option.some.inj hF
  obtain rfl:=Option.some.inj (hq.resolve_left (by intro h;cases h))
  exact A.rt1 [(0,0),(1,1),(2,2),(3,3)] ⟨rfl,rfl⟩
 refine A.xe 2 ?_
 obtain rfl:=Option.some.inj hF
 exact A.AE.j [547,0,1,2,3,6,411] [] [(547,.mit 6 g42 b2 (m7).length (i47::sn43) (some (.agg #[.int .i64 p46.1.1,.int .i64 p46.1.2],.int .i64 p46.2)))] ⟨_,(A.seen_f hnd (A.seen_bd hbd hp48) hs49 hff).1,_,_,rfl,rfl,List.nodup_cons.2 ⟨hs49,hnd⟩,A.seen_bd hbd hp48,A.seen_cons hse hp48 hB,(A.seen_f hnd (A.seen_bd hbd hp48) hs49 hff).2⟩
end Go.Proofs.YtpdhaldfdeamdaaDoor
end
section
set_option linter.unusedVariables false
set_option linter.unusedSimpArgs false
set_option maxRecDepth 20000
set_option maxHeartbeats 8000000
set_option synthInstance.maxSize 1000000
set_option synthInstance.maxHeartbeats 400000
namespace Go.Proofs.YtpdhaldfdeamdaaDoor
open Go.RowKit
def F.graph_whole_1 (a0:D32)(b0:D32):Option Bool:=some (bif decide (a0.2.1=b0.2.1)then decide (a0.2.2.2.2.1=b0.2.2.2.2.1)else false)
theorem graph_whole_1_ok (a0:D32)(b0:D32)(A2_:Option Addr)(c3_:Nat)(g10_:Nat)(A13_:Option Addr)(c14_:Nat)(h0_:IntKind.i64.has a0.1)(h1_:IntKind.i64.has a0.2.1)(h4_:IntKind.i64.has a0.2.2.2.1.1)(h5_:IntKind.i64.has a0.2.2.2.1.2.1)(h6_:a0.2.2.2.1.2.2.size≤maxLen)(h7_:a0.2.2.2.2.1.size≤maxLen)(h8_:IntKind.i64.has a0.2.2.2.2.2.1)(h9_:IntKind.i64.has a0.2.2.2.2.2.2)(h11_:IntKind.i64.has b0.1)(h12_:IntKind.i64.has b0.2.1)(h15_:IntKind.i64.has b0.2.2.2.1.1)(h16_:IntKind.i64.has b0.2.2.2.1.2.1)(h17_:b0.2.2.2.1.2.2.size≤maxLen)(h18_:b0.2.2.2.2.1.size≤maxLen)(h19_:IntKind.i64.has b0.2.2.2.2.2.1)(h20_:IntKind.i64.has b0.2.2.2.2.2.2)(r:Bool)(hF:F.graph_whole_1 a0 b0=some r):
    A.Ct Tryd.prog 48 [.agg #[.int .i64 a0.1,.int .i64 a0.2.1,.slice A2_ ((a0.2.2.1).length) c3_,.int .i64 a0.2.2.2.1.1,.int .i64 a0.2.2.2.1.2.1,.string a0.2.2.2.1.2.2,.string a0.2.2.2.2.1,.int .i64 a0.2.2.2.2.2.1,.int .i64 a0.2.2.2.2.2.2],.pointer (some ⟨g10_,0,none⟩)] [(0,.sh (.slice (Z.Ty.int .i64)) [.slice A2_ (a0.2.2.1).length c3_] a0.2.2.1),(1,.el none g10_ 0 [.int .i64 b0.1,.int .i64 b0.2.1,.slice A13_ ((b0.2.2.1).length) c14_,.int .i64 b0.2.2.2.1.1,.int .i64 b0.2.2.2.1.2.1,.string b0.2.2.2.1.2.2,.string b0.2.2.2.2.1,.int .i64 b0.2.2.2.2.2.1,.int .i64 b0.2.2.2.2.2.2]),(2,.sh (.slice (Z.Ty.int .i64)) [.slice A13_ (b0.2.2.1).length c14_] b0.2.2.1)] [] (fun v H'=>v=.bool r∧H'=[]):=by
 refine A.Ct.enter Tryd.func48 rfl Tryd.ntmps48 rfl fun w0 F0=>?_
 rw[F.graph_whole_1]at hF
 refine A.xl 1 ?_
 refine A.AL.box 3 (cs:=[.int .i64 a0.1,.int .i64 a0.2.1,.slice A2_ ((a0.2.2.1).length) c3_,.int .i64 a0.2.2.2.1.1,.int .i64 a0.2.2.2.1.2.1,.string a0.2.2.2.1.2.2,.string a0.2.2.2.2.1,.int .i64 a0.2.2.2.2.2.1,.int .i64 a0.2.2.2.2.2.2]) fun g1=>?_
 refine A.q0 [] [] [.n] [] ?_
 refine A.dl 2 ?_
 refine A.q0 [3] [1] [.n,.b 0 1,.n,.e 0 1,.n,.n,.sy .n,.sy (.b 0 6),.sy .n,.sy (.e 0 6),.sy .n,.pk,.n] [(3,.bool (bif decide (a0.2.1=b0.2.1)then decide (a0.2.2.2.2.1=b0.2.2.2.2.1)else false))] ?_
 refine A.dx 1 ?_
 obtain rfl:=Option.some.inj hF
 exact A.rt1 [] ⟨rfl,rfl⟩
def F.slices_IndexFunc_api_Node_api_Node_graph_whole_1_l1 (a0:(List D32))(a1_0:D32):Nat→Int→Option Int
 |0,_=>none
 |f+1,y1=>if y1<((a0).length:Int)then((A.ix a0 y1).bind fun x4=>((F.graph_whole_1 (x4.1,x4.2.1,x4.2.2.1,(x4.2.2.2.1.1,x4.2.2.2.1.2.1,x4.2.2.2.1.2.2),x4.2.2.2.2.1,x4.2.2.2.2.2.1,x4.2.2.2.2.2.2) (a1_0.1,a1_0.2.1,a1_0.2.2.1,(a1_0.2.2.2.1.1,a1_0.2.2.2.1.2.1,a1_0.2.2.2.1.2.2),a1_0.2.2.2.2.1,a1_0.2.2.2.2.2.1,a1_0.2.2.2.2.2.2)).bind fun r11=>(if r11=true then(some y1)else(A.gd (Z.R64 (y1+1)) ((F.slices_IndexFunc_api_Node_api_Node_graph_whole_1_l1 a0 a1_0 f) (y1+1))))))else(some (-1))
def F.slices_IndexFunc_api_Node_api_Node_graph_whole_1 (a0:(List D32))(a1_0:D32):Option Int:=F.slices_IndexFunc_api_Node_api_Node_graph_whole_1_l1 a0 a1_0 A.FU 0
theorem slices_IndexFunc_api_Node_api_Node_graph_whole_1_ok (a0:(List D32))(a1_0:D32)(A0_:Option Addr)(c1_:Nat)(g2_:Nat)(A5_:Option Addr)(c6_:Nat)(h3_:IntKind.i64.has a1_0.1)(h4_:IntKind.i64.has a1_0.2.1)(h7_:IntKind.i64.has a1_0.2.2.2.1.1)(h8_:IntKind.i64.has a1_0.2.2.2.1.2.1)(h9_:a1_0.2.2.2.1.2.2.size≤maxLen)(h10_:a1_0.2.2.2.2.1.size≤maxLen)(h11_:IntKind.i64.has a1_0.2.2.2.2.2.1)(h12_:IntKind.i64.has a1_0.2.2.2.2.2.2)(r:Int)(hF:F.slices_IndexFunc_api_Node_api_Node_graph_whole_1 a0 a1_0=some r):
    A.Ct Tryd.prog 66 [.slice A0_ ((a0).length) c1_,.func (.func 48) #[] #[.pointer (some ⟨g2_,0,none⟩)]] [(0,.ln T32 A0_ c1_ a0),(1,.el none g2_ 0 [.int .i64 a1_0.1,.int .i64 a1_0.2.1,.slice A5_ ((a1_0.2.2.1).length) c6_,.int .i64 a1_0.2.2.2.1.1,.int .i64 a1_0.2.2.2.1.2.1,.string a1_0.2.2.2.1.2.2,.string a1_0.2.2.2.2.1,.int .i64 a1_0.2.2.2.2.2.1,.int .i64 a1_0.2.2.2.2.2.2]),(2,.sh (.slice (Z.Ty.int .i64)) [.slice A5_ (a1_0.2.2.1).length c6_] a1_0.2.2.1)] [] (fun v H'=>v=.int .i64 r∧H'=[]∧IntKind.i64.has r):=by
 refine A.Ct.enter Tryd.func66 rfl Tryd.ntmps66 rfl fun w0 F0=>?_
 rw[F.slices_IndexFunc_api_Node_api_Node_graph_whole_1]at hF
 refine A.xl 1 ?_
 refine A.q0 [] [] [.n] [] ?_
 refine A.dl 3 ?_
 refine A.q0 [] [] [.n,.n,.n] [(7,.int .i64 ((a0).length:Int)),(8,.int .i64 0)] ?_
 refine A.dx 2 ?_
 refine A.lp_ [0,1,7] [0,1,2] (fun f nl nh=>∃(y1:Int),nl=[(8,.int .i64 y1)]∧nh=[]∧IntKind.i64.has y1∧F.slices_IndexFunc_api_Node_api_Node_graph_whole_1_l1 a0 a1_0 f y1=some r) ⟨0,rfl,rfl,(A.hasl .i64 (0) rfl),hF⟩ ?_
 rintro f3 _ _ ⟨y1,rfl,rfl,hy2,hF⟩
 rcases f3 with _|f3
 ·exact A.no0 hF
 rw[F.slices_IndexFunc_api_Node_api_Node_graph_whole_1_l1]at hF
 refine A.xl 1 ?_
 refine A.q0 [] [] [.n] [(9,.bool (decide (y1<((a0).length:Int))))] ?_
 refine A.dx 2 ?_
 refine A.AX.cnd rfl hF (fun hb hF=>?_) (fun hb hF=>?_)
 ·refine A.xl 5 ?_
  refine A.q0 [] [] [.n,.n] [(5,.int .i64 y1)] ?_
  refine A.dl 2 ?_
  refine A.q0 [] [] [.n,.n,.n] [(11,.func (.func 48) #[] #[.pointer (some ⟨g2_,0,none⟩)]),(12,.slice A0_ ((a0).length) c1_),(13,.int .i64 y1)] ?_
  obtain⟨x4,hv5,hF⟩:=A.bd_some hF
  refine A.AL.ixl 0 87 hv5 fun ho6=>?_
  intro A7 c8 b9 o10
  refine A.q0 [] [87] [.e 0 0] [(15,.agg #[.int .i64 x4.1,.int .i64 x4.2.1,.slice A7 ((x4.2.2.1).length) c8,.int .i64 x4.2.2.2.1.1,.int .i64 x4.2.2.2.1.2.1,.string x4.2.2.2.1.2.2,.string x4.2.2.2.2.1,.int .i64 x4.2.2.2.2.2.1,.int .i64 x4.2.2.2.2.2.2])] ?_
  obtain⟨r11,hv12,hF⟩:=A.bd_some hF
  refine A.AL.call 89 [] (first:=[]) (cap:=[.pointer (some ⟨g2_,0,none⟩)]) cf48 (graph_whole_1_ok (x4.1,x4.2.1,x4.2.2.1,(x4.2.2.2.1.1,x4.2.2.2.1.2.1,x4.2.2.2.1.2.2),x4.2.2.2.2.1,x4.2.2.2.2.2.1,x4.2.2.2.2.2.2) (a1_0.1,a1_0.2.1,a1_0.2.2.1,(a1_0.2.2.2.1.1,a1_0.2.2.2.1.2.1,a1_0.2.2.2.1.2.2),a1_0.2.2.2.2.1,a1_0.2.2.2.2.2.1,a1_0.2.2.2.2.2.2) A7 c8 g2_ A5_ c6_ ho6.1 ho6.2.1 ho6.2.2.2.1.1 ho6.2.2.2.1.2.1 ho6.2.2.2.1.2.2 ho6.2.2.2.2.1 ho6.2.2.2.2.2.1 ho6.2.2.2.2.2.2 h3_ h4_ h7_ h8_ h9_ h10_ h11_ h12_ r11 hv12) (.s 88 (.s 1 (.s 2 .nil))) ?_
  rintro _ _ ⟨rfl,rfl⟩
  refine⟨by kernel_rfl,?_⟩
  refine A.dx 1 ?_
  refine A.AX.cnb rfl hF (fun hb hF=>?_) (fun hb hF=>?_)
  ·refine A.xl 1 ?_
   refine A.q0 [] [] [.n,.n] [(4,.int .i64 y1)] ?_
   refine A.dx 1 ?_
   obtain rfl:=Option.some.inj hF
   exact A.rt1 [] ⟨rfl,rfl,hy2⟩
  refine A.xl 3 ?_
  obtain⟨hc13,hF⟩:=A.gd_some hF
  refine A.q [] [] [.n,.n] [Z.R64 (y1+1)] [(8,.int .i64 (y1+1))] hc13 ?_
  refine A.AL.done ?_
  exact A.j ⟨_,Nat.lt_succ_self _,⟨(y1+1),rfl,rfl,(Z.i64_has hc13),hF⟩⟩
 refine A.xl 3 ?_
 refine A.q0 [] [] [.n] [(4,.int .i64 (-1))] ?_
 refine A.dx 1 ?_
 obtain rfl:=Option.some.inj hF
 exact A.rt1 [] ⟨rfl,rfl,(A.hasl .i64 (-1) rfl)⟩
def F.slices_ContainsFunc_api_Node_api_Node_graph_whole_1 (a0:(List D32))(a1_0:D32):Option Bool:=(F.slices_IndexFunc_api_Node_api_Node_graph_whole_1 a0 (a1_0.1,a1_0.2.1,a1_0.2.2.1,(a1_0.2.2.2.1.1,a1_0.2.2.2.1.2.1,a1_0.2.2.2.1.2.2),a1_0.2.2.2.2.1,a1_0.2.2.2.2.2.1,a1_0.2.2.2.2.2.2)).bind fun r1=>(some (decide ((0:Int)≤r1)))
theorem slices_ContainsFunc_api_Node_api_Node_graph_whole_1_ok (a0:(List D32))(a1_0:D32)(A0_:Option Addr)(c1_:Nat)(g2_:Nat)(A5_:Option Addr)(c6_:Nat)(h3_:IntKind.i64.has a1_0.1)(h4_:IntKind.i64.has a1_0.2.1)(h7_:IntKind.i64.has a1_0.2.2.2.1.1)(h8_:IntKind.i64.has a1_0.2.2.2.1.2.1)(h9_:a1_0.2.2.2.1.2.2.size≤maxLen)(h10_:a1_0.2.2.2.2.1.size≤maxLen)(h11_:IntKind.i64.has a1_0.2.2.2.2.2.1)(h12_:IntKind.i64.has a1_0.2.2.2.2.2.2)(r:Bool)(hF:F.slices_ContainsFunc_api_Node_api_Node_graph_whole_1 a0 a1_0=some r):
    A.Ct Tryd.prog 47 [.slice A0_ ((a0).length) c1_,.func (.func 48) #[] #[.pointer (some ⟨g2_,0,none⟩)]] [(0,.ln T32 A0_ c1_ a0),(1,.el none g2_ 0 [.int .i64 a1_0.1,.int .i64 a1_0.2.1,.slice A5_ ((a1_0.2.2.1).length) c6_,.int .i64 a1_0.2.2.2.1.1,.int .i64 a1_0.2.2.2.1.2.1,.string a1_0.2.2.2.1.2.2,.string a1_0.2.2.2.2.1,.int .i64 a1_0.2.2.2.2.2.1,.int .i64 a1_0.2.2.2.2.2.2]),(2,.sh (.slice (Z.Ty.int .i64)) [.slice A5_ (a1_0.2.2.1).length c6_] a1_0.2.2.1)] [] (fun v H'=>v=.bool r∧H'=[]):=by
 refine A.Ct.enter Tryd.func47 rfl Tryd.ntmps47 rfl fun w0 F0=>?_
 rw[F.slices_ContainsFunc_api_Node_api_Node_graph_whole_1]at hF
 refine A.xl 1 ?_
 refine A.q0 [] [] [.n] [] ?_
 refine A.dl 2 ?_
 refine A.q0 [] [] [.n,.n] [(5,.slice A0_ ((a0).length) c1_),(6,.func (.func 48) #[] #[.pointer (some ⟨g2_,0,none⟩)])] ?_
 obtain⟨r1,hv2,hF⟩:=A.bd_some hF
 refine A.AL.call 3 [] (first:=[]) (cap:=[]) cf66 (slices_IndexFunc_api_Node_api_Node_graph_whole_1_ok a0 (a1_0.1,a1_0.2.1,a1_0.2.2.1,(a1_0.2.2.2.1.1,a1_0.2.2.2.1.2.1,a1_0.2.2.2.1.2.2),a1_0.2.2.2.2.1,a1_0.2.2.2.2.2.1,a1_0.2.2.2.2.2.2) A0_ c1_ g2_ A5_ c6_ h3_ h4_ h7_ h8_ h9_ h10_ h11_ h12_ r1 hv2) (.s 0 (.s 1 (.s 2 .nil))) ?_
 rintro _ _ ⟨rfl,rfl,hr3⟩
 refine⟨by kernel_rfl,?_⟩
 refine A.q0 [] [] [.n,.n] [(4,.bool (decide ((0:Int)≤r1)))] ?_
 refine A.dx 1 ?_
 obtain rfl:=Option.some.inj hF
 exact A.rt1 [] ⟨rfl,rfl⟩
def F.graph_whole_j1 (k27:(List (Int×D32))→Int→Int→Option ((Option ((List (Int×D32))×(List Int)×(List (Int×Int))))×Int))(m5:List (Int×D32))(y8:Int)(x11:D32)(y20:Bool):Option ((Option ((List (Int×D32))×(List Int)×(List (Int×Int))))×Int):=if y20=true then(some (none,80))else(A.gd (Z.R64 (y8+1)) (k27 (Z.mins m5 x11.1 (x11.1,x11.2.1,x11.2.2.1,(x11.2.2.2.1.1,x11.2.2.2.1.2.1,x11.2.2.2.1.2.2),x11.2.2.2.2.1,x11.2.2.2.2.2.1,x11.2.2.2.2.2.2)) x11.1 (y8+1)))
def F.graph_whole_j2 (k27:(List (Int×D32))→Int→Int→Option ((Option ((List (Int×D32))×(List Int)×(List (Int×Int))))×Int))(m5:List (Int×D32))(y6:Int)(y8:Int)(x11:D32)(y19:Bool):Option ((Option ((List (Int×D32))×(List Int)×(List (Int×Int))))×Int):=if x11.1≤y6 then(F.graph_whole_j1 k27 m5 y8 x11 true)else((F.graph_own (x11.1,x11.2.1,x11.2.2.1,(x11.2.2.2.1.1,x11.2.2.2.1.2.1,x11.2.2.2.1.2.2),x11.2.2.2.2.1,x11.2.2.2.2.2.1,x11.2.2.2.2.2.2)).bind fun r22=>(F.graph_whole_j1 k27 m5 y8 x11 (bif !r22 then true else y19)))
def F.graph_whole_l3 (k39:Int→Option ((Option ((List (Int×D32))×(List Int)×(List (Int×Int))))×Int))(m5:List (Int×D32))(y46:Int)(x49:D32):Nat→Int→Option ((Option ((List (Int×D32))×(List Int)×(List (Int×Int))))×Int)
 |0,_=>none
 |f+1,y57=>if y57<((x49.2.2.1).length:Int)then((A.ix x49.2.2.1 y57).bind fun x60=>(A.lt (Z.mget ((0,0,[],(0,0,(ByteArray.mk #[])),(ByteArray.mk #[]),0,0):D32) m5 x60) fun x65=>(if(bif !(Z.mhas m5 x60)then true else decide (x65.2.1=15))=true then(some (none,80))else(A.gd (Z.R64 (y57+1)) ((F.graph_whole_l3 k39 m5 y46 x49 f) (y57+1))))))else(A.gd (Z.R64 (y46+1)) (k39 (y46+1)))
def F.graph_whole_l4 (a0:D23)(m5:List (Int×D32)):Nat→Int→Option ((Option ((List (Int×D32))×(List Int)×(List (Int×Int))))×Int)
 |0,_=>none
 |f+1,y46=>if y46<((a0).length:Int)then((A.ix a0 y46).bind fun x49=>(F.graph_whole_l3 (F.graph_whole_l4 a0 m5 f) m5 y46 x49 A.FU 0))else((F.graph_plan_sort (m5,[],[]) a0).bind fun r73=>(if(!r73.1)=true then(some (none,81))else((F.graph_plan_depths (r73.2.1,r73.2.2.1,r73.2.2.2)).bind fun r79=>(if(!r79.1)=true then(some (none,80))else((F.graph_plan_turns (r79.2.1,r79.2.2.1,r79.2.2.2) a0).bind fun r85=>(if r85=true then(some (none,81))else(some (some (r79.2.1,r79.2.2.1,r79.2.2.2),0))))))))
def F.graph_whole_l5 (a0:D23)(m5:List (Int×D32)):Nat→Int→Option ((Option ((List (Int×D32))×(List Int)×(List (Int×Int))))×Int)
 |0,_=>none
 |f+1,y31=>if y31<((a0).length:Int)then((A.ix a0 y31).bind fun x34=>((F.fn_Check x34.2.1 (x34.2.2.2.1.1,x34.2.2.2.1.2.1,x34.2.2.2.1.2.2)).bind fun r42=>(if r42≠0 then(some (none,r42))else(A.gd (Z.R64 (y31+1)) ((F.graph_whole_l5 a0 m5 f) (y31+1))))))else(F.graph_whole_l4 a0 m5 A.FU 0)
def F.graph_whole_l6 (a0:D23):Nat→(List (Int×D32))→Int→Int→Option ((Option ((List (Int×D32))×(List Int)×(List (Int×Int))))×Int)
 |0,_,_,_=>none
 |f+1,m5,y6,y8=>if y8<((a0).length:Int)then((A.ix a0 y8).bind fun x11=>((F.graph_outside x11.2.1).bind fun r24=>(if r24=true then(A.gd (0≤y8∧y8.toNat≤(a0).length) ((F.slices_ContainsFunc_api_Node_api_Node_graph_whole_1 (List.take y8.toNat a0) (x11.1,x11.2.1,x11.2.2.1,(x11.2.2.2.1.1,x11.2.2.2.1.2.1,x11.2.2.2.1.2.2),x11.2.2.2.2.1,x11.2.2.2.2.2.1,x11.2.2.2.2.2.2)).bind fun r29=>(F.graph_whole_j2 (F.graph_whole_l6 a0 f) m5 y6 y8 x11 r29)))else(F.graph_whole_j2 (F.graph_whole_l6 a0 f) m5 y6 y8 x11 false))))else(F.graph_whole_l5 a0 m5 A.FU 0)
def F.graph_whole (a0:D23):Option ((Option ((List (Int×D32))×(List Int)×(List (Int×Int))))×Int):=if(32:Int)<((a0).length:Int)then(some (none,80))else(F.graph_whole_l6 a0 A.FU [] 0 0)
theorem graph_whole_ok (a0:D23)(A0_:Option Addr)(c1_:Nat)(r:(Option ((List (Int×D32))×(List Int)×(List (Int×Int))))×Int)(hF:F.graph_whole a0=some r):
    A.Ct Tryd.prog 32 [.agg #[.slice A0_ ((a0).length) c1_]] [(0,.sh (.slice T32) [.slice A0_ (a0).length c1_] a0),(1,.el none 0 0 A.tabF),(2,.el none 1 0 A.tabA)] [] (fun v H'=>(r.1=none∧v=.tuple #[.pointer none,.int .i64 r.2]∧H'=[]∧IntKind.i64.has r.2)∨(∃(p0:((List (Int×D32))×(List Int)×(List (Int×Int)))),r.1=some p0∧∃(g0':Nat) (b1':Nat) (A2':Option Addr) (c3':Nat) (b4':Nat),v=.tuple #[.pointer (some ⟨g0',0,none⟩),.int .i64 r.2]∧H'=[(0,.blk g0' 95 [.map (some b1'),.slice A2' ((p0.2.1).length) c3',.map (some b4')]),(1,.mp Int (fun i:Int=>.int .i64 i) T32 true b1' p0.1),(2,.own (Z.Ty.int .i64) 3 A2' c3' p0.2.1),(3,.mp Int (fun i:Int=>.int .i64 i) (Z.Ty.int .i64) false b4' p0.2.2)]∧IntKind.i64.has r.2)):=by
 refine A.Ct.enter Tryd.func32 rfl Tryd.ntmps32 rfl fun w0 F0=>?_
 rw[F.graph_whole]at hF
 refine A.xl 1 ?_
 refine A.AL.box 3 (cs:=[.slice A0_ ((a0).length) c1_]) fun g1=>?_
 refine A.q0 [] [] [.n,.n] [] ?_
 refine A.dl 3 ?_
 refine A.q0 [3] [] [.n,.b 0 0,.n,.n] [(21,.bool (decide ((32:Int)<((a0).length:Int))))] ?_
 refine A.dx 1 ?_
 refine A.AX.cnd rfl hF (fun hb hF=>?_) (fun hb hF=>?_)
 ·refine A.xl 1 ?_
  refine A.q0 [] [] [.n,.n] [(2,.pointer none),(3,.int .i64 80)] ?_
  refine A.dx 1 ?_
  obtain rfl:=Option.some.inj hF
  exact A.rt2 [] (.inl ⟨rfl,⟨rfl,rfl,(A.hasl .i64 (80) rfl)⟩⟩)
 refine A.xl 3 ?_
 refine A.AL.mkm 4 Int (fun i:Int=>.int .i64 i) T32 true fun b2=>?_
 refine A.AL.mkm 5 Int (fun i:Int=>.int .i64 i) (Z.Ty.int .i64) false fun b3=>?_
 refine A.q0 [] [] [.n] [(24,.agg #[.map (some b2),.slice none 0 0,.map (some b3)])] ?_
 refine A.AL.box 6 (cs:=[.map (some b2),.slice none 0 0,.map (some b3)]) fun g4=>?_
 refine A.q0 [] [] [.n] [(4,.pointer (some ⟨g4,0,none⟩))] ?_
 refine A.dl 2 ?_
 refine A.q0 [] [] [.n] [(5,.int .i64 0)] ?_
 refine A.dl 3 ?_
 refine A.q0 [3] [] [.n,.b 0 0,.n,.n] [(27,.slice A0_ ((a0).length) c1_),(28,.int .i64 ((a0).length:Int)),(29,.int .i64 0)] ?_
 refine A.dx 2 ?_
 refine A.lp_ [1,4,27,28] [0,1,2,3,5,6] (fun f nl nh=>∃(m5:List (Int×D32)),∃(y6:Int),∃(y8:Int),nl=[(5,.int .i64 y6),(29,.int .i64 y8)]∧nh=[(4,.mp Int (fun i:Int=>.int .i64 i) T32 true b2 m5)]∧IntKind.i64.has y6∧IntKind.i64.has y8∧F.graph_whole_l6 a0 f m5 y6 y8=some r) ⟨[],0,0,rfl,rfl,(A.hasl .i64 (0) rfl),(A.hasl .i64 (0) rfl),hF⟩ ?_
 rintro f10 _ _ ⟨m5,y6,y8,rfl,rfl,hy7,hy9,hF⟩
 rcases f10 with _|f10
 ·exact A.no0 hF
 rw[F.graph_whole_l6]at hF
 refine A.xl 1 ?_
 refine A.q0 [] [] [.n] [(30,.bool (decide (y8<((a0).length:Int))))] ?_
 refine A.dx 2 ?_
 refine A.AX.cnd rfl hF (fun hb hF=>?_) (fun hb hF=>?_)
 ·refine A.xl 5 ?_
  refine A.q0 [] [] [.n] [(31,.int .i64 y8)] ?_
  obtain⟨x11,hv12,hF⟩:=A.bd_some hF
  refine A.AL.ixs 0 2907 hv12 fun ho13=>?_
  intro A14 c15 b16 o17
  refine A.q0 [] [2907] [.e 0 0] [(33,.agg #[.int .i64 x11.1,.int .i64 x11.2.1,.slice A14 ((x11.2.2.1).length) c15,.int .i64 x11.2.2.2.1.1,.int .i64 x11.2.2.2.1.2.1,.string x11.2.2.2.1.2.2,.string x11.2.2.2.2.1,.int .i64 x11.2.2.2.2.2.1,.int .i64 x11.2.2.2.2.2.2])] ?_
  refine A.AL.alloc 2909 (cs:=[.int .i64 0,.int .i64 0,.slice none 0 0,.int .i64 0,.int .i64 0,.string (ByteArray.mk #[]),.string (ByteArray.mk #[]),.int .i64 0,.int .i64 0]) Tryd.zeroValue33 fun g18=>?_
  refine A.q0 [] [] [.n] [(6,.int .i64 y8)] ?_
  refine A.sw 2909 [] [.int .i64 x11.1,.int .i64 x11.2.1,.slice A14 ((x11.2.2.1).length) c15,.int .i64 x11.2.2.2.1.1,.int .i64 x11.2.2.2.1.2.1,.string x11.2.2.2.1.2.2,.string x11.2.2.2.2.1,.int .i64 x11.2.2.2.2.2.1,.int .i64 x11.2.2.2.2.2.2] ?_
  refine A.dx 1 ?_
  refine A.AX.join [1,4,5,7,27,28,29] [0,1,2,3,4,5,6,2908,2909] (fun nl nh=>∃(y19:Bool),nl=[(8,.bool y19)]∧nh=[]∧F.graph_whole_j2 (F.graph_whole_l6 a0 f10) m5 y6 y8 x11 y19=some r) ?_ ?_
  ·refine A.xl 0 ?_
   refine A.q0 [2909] [] [.n,.b 0 1] [(35,.int .i64 x11.2.1)] ?_
   obtain⟨r24,hv25,hF⟩:=A.bd_some hF
   refine A.AL.call 2910 [] (first:=[]) (cap:=[]) cf46 (graph_outside_ok x11.2.1 ho13.2.1 r24 hv25) .nil ?_
   rintro _ _ ⟨rfl,rfl⟩
   refine⟨by kernel_rfl,?_⟩
   refine A.q0 [] [] [.n] [(37,.bool r24)] ?_
   refine A.AL.cnd (j:=37) rfl hF (fun hF=>?_) (fun hF=>?_)
   ·refine A.q0 [3] [] [.on .n,.on (.b 0 0),.on .n] [(39,.slice A0_ ((a0).length) c1_),(40,.int .i64 y8)] ?_
    refine A.AL.on (dj:=37) rfl rfl ?_
    obtain⟨hc26,hF⟩:=A.gd_some hF
    refine A.AL.cuth 0 2950 (v:=y8.toNat) (Int.toNat_of_nonneg hc26.1).symm hc26.2 fun c28=>?_
    refine A.q0 [] [] [.on .n] [(42,.func (.func 48) #[] #[.pointer (some ⟨g18,0,none⟩)])] ?_
    refine A.AL.on (dj:=37) rfl rfl ?_
    obtain⟨r29,hv30,hF⟩:=A.bd_some hF
    refine A.AL.call 2951 [] (first:=[]) (cap:=[]) cf47 (slices_ContainsFunc_api_Node_api_Node_graph_whole_1_ok (List.take y8.toNat a0) (x11.1,x11.2.1,x11.2.2.1,(x11.2.2.2.1.1,x11.2.2.2.1.2.1,x11.2.2.2.1.2.2),x11.2.2.2.2.1,x11.2.2.2.2.2.1,x11.2.2.2.2.2.2) A0_ c28 g18 A14 c15 ho13.1 ho13.2.1 ho13.2.2.2.1.1 ho13.2.2.2.1.2.1 ho13.2.2.2.1.2.2 ho13.2.2.2.2.1 ho13.2.2.2.2.2.1 ho13.2.2.2.2.2.2 r29 hv30) (.l 2950 (.b 2909 (.s 2908 .nil))) ?_
    rintro _ _ ⟨rfl,rfl⟩
    refine⟨by kernel_rfl,?_⟩
    refine A.q0 [] [] [.n,.n] [(8,.bool r29)] ?_
    refine A.AL.done ?_
    exact A.j ⟨r29,rfl,rfl,hF⟩
   refine A.q0 [] [] [.off,.off,.off,.off,.off,.off,.n,.n] [(8,.bool false)] ?_
   refine A.AL.done ?_
   exact A.j ⟨false,rfl,rfl,hF⟩
  rintro _ _ ⟨y19,rfl,rfl,hF⟩
  rw[F.graph_whole_j2]at hF
  refine A.xx 1 ?_
  refine A.AX.join [1,4,7,27,28,29] [0,1,2,3,4,5,6,2908,2909] (fun nl nh=>∃(y20:Bool),nl=[(56,.bool y20)]∧nh=[]∧F.graph_whole_j1 (F.graph_whole_l6 a0 f10) m5 y8 x11 y20=some r) ?_ ?_
  ·refine A.xl 0 ?_
   refine A.q0 [2909] [] [.n,.b 0 0,.n,.n,.n] [(49,.bool (decide (x11.1≤y6)))] ?_
   refine A.AL.cnp (j:=49) rfl hF (fun hb hF=>?_) (fun hb hF=>?_)
   ·refine A.q0 [] [] [.off,.off,.off,.n,.n,.off,.n] [(56,.bool true)] ?_
    refine A.AL.done ?_
    exact A.j ⟨true,rfl,rfl,hF⟩
   refine A.q0 [2909] [] [.on (.b 0 0)] [(50,.agg #[.int .i64 x11.1,.int .i64 x11.2.1,.slice A14 ((x11.2.2.1).length) c15,.int .i64 x11.2.2.2.1.1,.int .i64 x11.2.2.2.1.2.1,.string x11.2.2.2.1.2.2,.string x11.2.2.2.2.1,.int .i64 x11.2.2.2.2.2.1,.int .i64 x11.2.2.2.2.2.2])] ?_
   refine A.AL.on (dj:=49) rfl rfl ?_
   obtain⟨r22,hv23,hF⟩:=A.bd_some hF
   refine A.AL.call 2991 [] (first:=[]) (cap:=[]) cf49 (graph_own_ok (x11.1,x11.2.1,x11.2.2.1,(x11.2.2.2.1.1,x11.2.2.2.1.2.1,x11.2.2.2.1.2.2),x11.2.2.2.2.1,x11.2.2.2.2.2.1,x11.2.2.2.2.2.2) A14 c15 ho13.1 ho13.2.1 ho13.2.2.2.1.1 ho13.2.2.2.1.2.1 ho13.2.2.2.1.2.2 ho13.2.2.2.2.1 ho13.2.2.2.2.2.1 ho13.2.2.2.2.2.2 r22 hv23) (.s 2908 .nil) ?_
   rintro _ _ ⟨rfl,rfl⟩
   refine⟨by kernel_rfl,?_⟩
   refine A.q0 [] [] [.on .n,.n,.n,.sy .n,.pk] [(56,.bool (bif !r22 then true else y19))] ?_
   refine A.AL.done ?_
   exact A.j ⟨(bif !r22 then true else y19),rfl,rfl,hF⟩
  rintro _ _ ⟨y20,rfl,rfl,hF⟩
  rw[F.graph_whole_j1]at hF
  refine A.AX.cnb rfl hF (fun hb hF=>?_) (fun hb hF=>?_)
  ·refine A.xl 1 ?_
   refine A.q0 [] [] [.n,.n] [(2,.pointer none),(3,.int .i64 80)] ?_
   refine A.dx 1 ?_
   obtain rfl:=Option.some.inj hF
   exact A.rt2 [] (.inl ⟨rfl,⟨rfl,rfl,(A.hasl .i64 (80) rfl)⟩⟩)
  refine A.xl 3 ?_
  refine A.q0 [2909] [] [.n,.b 0 0,.n] [(5,.int .i64 x11.1)] ?_
  refine A.dx 1 ?_
  refine A.AX.dr mixed 7 8 (A.mb 8 0) ?_
  refine A.hq A.pb [] [0,1,2,3,4,5,6,2908,2909] [2909,6] [] (A.mb 8 127) 1 [(0,.n),(4,.n),(6,.b 0 0),(1,.n),(5,.b 0 0),(2,.n),(3,.b 1 0)] [(65,.agg #[.int .i64 x11.1,.int .i64 x11.2.1,.slice A14 ((x11.2.2.1).length) c15,.int .i64 x11.2.2.2.1.1,.int .i64 x11.2.2.2.1.2.1,.string x11.2.2.2.1.2.2,.string x11.2.2.2.2.1,.int .i64 x11.2.2.2.2.2.1,.int .i64 x11.2.2.2.2.2.2]),(64,.int .i64 x11.1),(62,.map (some b2))] ?_
  refine A.AH.one 7 ?_
  refine A.AL.mup (t:=T32) 4 [] (cs:=[.int .i64 x11.1,.int .i64 x11.2.1,.slice A14 ((x11.2.2.1).length) c15,.int .i64 x11.2.2.2.1.1,.int .i64 x11.2.2.2.1.2.1,.string x11.2.2.2.1.2.2,.string x11.2.2.2.2.1,.int .i64 x11.2.2.2.2.2.1,.int .i64 x11.2.2.2.2.2.2]) (u:=(x11.1,x11.2.1,x11.2.2.1,(x11.2.2.2.1.1,x11.2.2.2.1.2.1,x11.2.2.2.1.2.2),x11.2.2.2.2.1,x11.2.2.2.2.2.1,x11.2.2.2.2.2.2)) ky3 x11.1 ⟨⟨rfl,ho13.1⟩,⟨rfl,ho13.2.1⟩,.inl ⟨2908,rfl⟩,⟨⟨rfl,ho13.2.2.2.1.1⟩,⟨rfl,ho13.2.2.2.1.2.1⟩,⟨rfl,ho13.2.2.2.1.2.2⟩⟩,⟨rfl,ho13.2.2.2.2.1⟩,⟨rfl,ho13.2.2.2.2.2.1⟩,⟨rfl,ho13.2.2.2.2.2.2⟩⟩ ?_
  refine A.AH.nm (A.mb 8 255) ?_
  refine A.AH.done ?_
  refine A.el 2 ?_
  obtain⟨hc21,hF⟩:=A.gd_some hF
  refine A.q [] [] [.n,.n] [Z.R64 (y8+1)] [(29,.int .i64 (y8+1))] hc21 ?_
  refine A.AL.done ?_
  exact A.j ⟨_,Nat.lt_succ_self _,⟨(Z.mins m5 x11.1 (x11.1,x11.2.1,x11.2.2.1,(x11.2.2.2.1.1,x11.2.2.2.1.2.1,x11.2.2.2.1.2.2),x11.2.2.2.2.1,x11.2.2.2.2.2.1,x11.2.2.2.2.2.2)),x11.1,(y8+1),rfl,rfl,ho13.1,(Z.i64_has hc21),hF⟩⟩
 refine A.xl 4 ?_
 refine A.q0 [3] [] [.n,.b 0 0,.n,.n] [(68,.slice A0_ ((a0).length) c1_),(69,.int .i64 ((a0).length:Int)),(70,.int .i64 0)] ?_
 refine A.dx 2 ?_
 refine A.lp_ [1,4,68,69] [0,1,2,3,4,5,6] (fun f nl nh=>∃(y31:Int),nl=[(70,.int .i64 y31)]∧nh=[]∧IntKind.i64.has y31∧F.graph_whole_l5 a0 m5 f y31=some r) ⟨0,rfl,rfl,(A.hasl .i64 (0) rfl),hF⟩ ?_
 rintro f33 _ _ ⟨y31,rfl,rfl,hy32,hF⟩
 rcases f33 with _|f33
 ·exact A.no0 hF
 rw[F.graph_whole_l5]at hF
 refine A.xl 1 ?_
 refine A.q0 [] [] [.n] [(71,.bool (decide (y31<((a0).length:Int))))] ?_
 refine A.dx 2 ?_
 refine A.AX.cnd rfl hF (fun hb hF=>?_) (fun hb hF=>?_)
 ·refine A.xl 5 ?_
  obtain⟨x34,hv35,hF⟩:=A.bd_some hF
  refine A.AL.ixs 0 3915 hv35 fun ho36=>?_
  intro A37 c38 b39 o40
  refine A.q0 [] [3915] [.e 0 0] [(73,.agg #[.int .i64 x34.1,.int .i64 x34.2.1,.slice A37 ((x34.2.2.1).length) c38,.int .i64 x34.2.2.2.1.1,.int .i64 x34.2.2.2.1.2.1,.string x34.2.2.2.1.2.2,.string x34.2.2.2.2.1,.int .i64 x34.2.2.2.2.2.1,.int .i64 x34.2.2.2.2.2.2])] ?_
  refine A.AL.alloc 3917 (cs:=[.int .i64 0,.int .i64 0,.slice none 0 0,.int .i64 0,.int .i64 0,.string (ByteArray.mk #[]),.string (ByteArray.mk #[]),.int .i64 0,.int .i64 0]) Tryd.zeroValue33 fun g41=>?_
  refine A.sw 3917 [] [.int .i64 x34.1,.int .i64 x34.2.1,.slice A37 ((x34.2.2.1).length) c38,.int .i64 x34.2.2.2.1.1,.int .i64 x34.2.2.2.1.2.1,.string x34.2.2.2.1.2.2,.string x34.2.2.2.2.1,.int .i64 x34.2.2.2.2.2.1,.int .i64 x34.2.2.2.2.2.2] ?_
  refine A.dl 2 ?_
  refine A.q0 [3917] [] [.n,.b 0 1,.n,.b 0 3] [(75,.int .i64 x34.2.1),(77,.agg #[.int .i64 x34.2.2.2.1.1,.int .i64 x34.2.2.2.1.2.1,.string x34.2.2.2.1.2.2])] ?_
  obtain⟨r42,hv43,hF⟩:=A.bd_some hF
  refine A.AL.call 3918 [] (first:=[]) (cap:=[]) cf50 (fn_Check_ok x34.2.1 (x34.2.2.2.1.1,x34.2.2.2.1.2.1,x34.2.2.2.1.2.2) ho36.2.1 ho36.2.2.2.1.1 ho36.2.2.2.1.2.1 ho36.2.2.2.1.2.2 r42 hv43) (.s 1 (.s 2 .nil)) ?_
  rintro _ _ ⟨rfl,rfl,hr44⟩
  refine⟨by kernel_rfl,?_⟩
  refine A.q0 [] [] [.n] [(11,.int .i64 r42)] ?_
  refine A.dl 2 ?_
  refine A.q0 [] [] [.n,.n] [(80,.bool (decide (r42≠0)))] ?_
  refine A.dx 1 ?_
  refine A.AX.cnd rfl hF (fun hb hF=>?_) (fun hb hF=>?_)
  ·refine A.xl 1 ?_
   refine A.q0 [] [] [.n,.n,.n] [(2,.pointer none),(3,.int .i64 r42)] ?_
   refine A.dx 1 ?_
   obtain rfl:=Option.some.inj hF
   exact A.rt2 [] (.inl ⟨rfl,⟨rfl,rfl,hr44⟩⟩)
  refine A.xl 3 ?_
  obtain⟨hc45,hF⟩:=A.gd_some hF
  refine A.q [] [] [.n,.n] [Z.R64 (y31+1)] [(70,.int .i64 (y31+1))] hc45 ?_
  refine A.AL.done ?_
  exact A.j ⟨_,Nat.lt_succ_self _,⟨(y31+1),rfl,rfl,(Z.i64_has hc45),hF⟩⟩
 refine A.xl 4 ?_
 refine A.q0 [3] [] [.n,.b 0 0,.n,.n] [(84,.slice A0_ ((a0).length) c1_),(85,.int .i64 ((a0).length:Int)),(86,.int .i64 0)] ?_
 refine A.dx 2 ?_
 refine A.lp_ [1,4,84,85] [0,1,2,3,4,5,6] (fun f nl nh=>∃(y46:Int),nl=[(86,.int .i64 y46)]∧nh=[]∧IntKind.i64.has y46∧F.graph_whole_l4 a0 m5 f y46=some r) ⟨0,rfl,rfl,(A.hasl .i64 (0) rfl),hF⟩ ?_
 rintro f48 _ _ ⟨y46,rfl,rfl,hy47,hF⟩
 rcases f48 with _|f48
 ·exact A.no0 hF
 rw[F.graph_whole_l4]at hF
 refine A.xl 1 ?_
 refine A.q0 [] [] [.n] [(87,.bool (decide (y46<((a0).length:Int))))] ?_
 refine A.dx 2 ?_
 refine A.AX.cnd rfl hF (fun hb hF=>?_) (fun hb hF=>?_)
 ·refine A.xl 5 ?_
  obtain⟨x49,hv50,hF⟩:=A.bd_some hF
  refine A.AL.ixs 0 4224 hv50 fun ho51=>?_
  intro A52 c53 b54 o55
  refine A.q0 [] [4224] [.e 0 0] [(89,.agg #[.int .i64 x49.1,.int .i64 x49.2.1,.slice A52 ((x49.2.2.1).length) c53,.int .i64 x49.2.2.2.1.1,.int .i64 x49.2.2.2.1.2.1,.string x49.2.2.2.1.2.2,.string x49.2.2.2.2.1,.int .i64 x49.2.2.2.2.2.1,.int .i64 x49.2.2.2.2.2.2])] ?_
  refine A.AL.alloc 4226 (cs:=[.int .i64 0,.int .i64 0,.slice none 0 0,.int .i64 0,.int .i64 0,.string (ByteArray.mk #[]),.string (ByteArray.mk #[]),.int .i64 0,.int .i64 0]) Tryd.zeroValue33 fun g56=>?_
  refine A.sw 4226 [] [.int .i64 x49.1,.int .i64 x49.2.1,.slice A52 ((x49.2.2.1).length) c53,.int .i64 x49.2.2.2.1.1,.int .i64 x49.2.2.2.1.2.1,.string x49.2.2.2.1.2.2,.string x49.2.2.2.2.1,.int .i64 x49.2.2.2.2.2.1,.int .i64 x49.2.2.2.2.2.2] ?_
  refine A.dl 2 ?_
  refine A.q0 [4226] [] [.n,.b 0 2,.n,.n] [(91,.slice A52 ((x49.2.2.1).length) c53),(92,.int .i64 ((x49.2.2.1).length:Int)),(93,.int .i64 0)] ?_
  refine A.dx 2 ?_
  refine A.lp_ [1,4,84,85,86,91,92] [0,1,2,3,4,5,6,4225] (fun f nl nh=>∃(y57:Int),nl=[(93,.int .i64 y57)]∧nh=[]∧IntKind.i64.has y57∧F.graph_whole_l3 (F.graph_whole_l4 a0 m5 f48) m5 y46 x49 f y57=some r) ⟨0,rfl,rfl,(A.hasl .i64 (0) rfl),hF⟩ ?_
  rintro f59 _ _ ⟨y57,rfl,rfl,hy58,hF⟩
  rcases f59 with _|f59
  ·exact A.no0 hF
  rw[F.graph_whole_l3]at hF
  refine A.xl 1 ?_
  refine A.q0 [] [] [.n] [(94,.bool (decide (y57<((x49.2.2.1).length:Int))))] ?_
  refine A.dx 2 ?_
  refine A.AX.cnd rfl hF (fun hb hF=>?_) (fun hb hF=>?_)
  ·refine A.xl 5 ?_
   obtain⟨x60,hv61,hF⟩:=A.bd_some hF
   refine A.AL.ixs 4225 4233 hv61 fun ho62=>?_
   intro b63 o64
   refine A.q0 [] [4233] [.e 0 0,.n] [(15,.int .i64 x60)] ?_
   refine A.dl 2 ?_
   refine A.q0 [6] [] [.n,.n,.n,.b 0 0,.n] [(101,.map (some b2)),(102,.int .i64 x60)] ?_
   obtain⟨x65,hv66,hF⟩:=A.lt_some hF
   refine A.AL.lk2 (t:=T32) 4 4234 (z:=((0,0,[],(0,0,(ByteArray.mk #[])),(ByteArray.mk #[]),0,0):D32)) (zs:=[.int .i64 0,.int .i64 0,.slice none 0 0,.int .i64 0,.int .i64 0,.string (ByteArray.mk #[]),.string (ByteArray.mk #[]),.int .i64 0,.int .i64 0]) ky3 x60 Tryd.zeroValue33 ⟨⟨rfl,by decide⟩,⟨rfl,by decide⟩,(.inr ⟨rfl,rfl⟩),⟨⟨rfl,by decide⟩,⟨rfl,by decide⟩,⟨rfl,by decide⟩⟩,⟨rfl,by decide⟩,⟨rfl,by decide⟩,⟨rfl,by decide⟩⟩ hv66 fun ho67=>?_
   intro A68 c69
   refine A.q0 [] [] [.n,.n,.n] [(104,.agg #[.int .i64 x65.1,.int .i64 x65.2.1,.slice A68 ((x65.2.2.1).length) c69,.int .i64 x65.2.2.2.1.1,.int .i64 x65.2.2.2.1.2.1,.string x65.2.2.2.1.2.2,.string x65.2.2.2.2.1,.int .i64 x65.2.2.2.2.2.1,.int .i64 x65.2.2.2.2.2.2]),(105,.bool (Z.mhas m5 x60))] ?_
   refine A.AL.alloc 4235 (cs:=[.int .i64 0,.int .i64 0,.slice none 0 0,.int .i64 0,.int .i64 0,.string (ByteArray.mk #[]),.string (ByteArray.mk #[]),.int .i64 0,.int .i64 0]) Tryd.zeroValue33 fun g70=>?_
   refine A.sw 4235 [] [.int .i64 x65.1,.int .i64 x65.2.1,.slice A68 ((x65.2.2.1).length) c69,.int .i64 x65.2.2.2.1.1,.int .i64 x65.2.2.2.1.2.1,.string x65.2.2.2.1.2.2,.string x65.2.2.2.2.1,.int .i64 x65.2.2.2.2.2.1,.int .i64 x65.2.2.2.2.2.2] ?_
   refine A.q0 [] [] [.n] [(17,.bool (Z.mhas m5 x60))] ?_
   refine A.dl 2 ?_
   refine A.q0 [4235] [] [.n,.n,.n,.sy .n,.sy (.b 0 1),.sy .n,.pk] [(112,.bool (bif !(Z.mhas m5 x60)then true else decide (x65.2.1=15)))] ?_
   refine A.dx 1 ?_
   refine A.AX.cnb rfl hF (fun hb hF=>?_) (fun hb hF=>?_)
   ·refine A.xl 1 ?_
    refine A.q0 [] [] [.n,.n] [(2,.pointer none),(3,.int .i64 80)] ?_
    refine A.dx 1 ?_
    obtain rfl:=Option.some.inj hF
    exact A.rt2 [] (.inl ⟨rfl,⟨rfl,rfl,(A.hasl .i64 (80) rfl)⟩⟩)
   refine A.xl 3 ?_
   obtain⟨hc71,hF⟩:=A.gd_some hF
   refine A.q [] [] [.n,.n] [Z.R64 (y57+1)] [(93,.int .i64 (y57+1))] hc71 ?_
   refine A.AL.done ?_
   exact A.j ⟨_,Nat.lt_succ_self _,⟨(y57+1),rfl,rfl,(Z.i64_has hc71),hF⟩⟩
  refine A.xl 3 ?_
  obtain⟨hc72,hF⟩:=A.gd_some hF
  refine A.q [] [] [.n,.n] [Z.R64 (y46+1)] [(86,.int .i64 (y46+1))] hc72 ?_
  refine A.AL.done ?_
  exact A.j ⟨_,Nat.lt_succ_self _,⟨(y46+1),rfl,rfl,(Z.i64_has hc72),hF⟩⟩
 refine A.xl 5 ?_
 refine A.q0 [3] [] [.n,.b 0 0] [(116,.pointer (some ⟨g4,0,none⟩)),(117,.agg #[.slice A0_ ((a0).length) c1_])] ?_
 refine A.nil 4236 (Z.Ty.int .i64) 3 ?_
 obtain⟨r73,hv74,hF⟩:=A.bd_some hF
 refine A.AL.call 4237 [] (first:=[]) (cap:=[]) cf51 (graph_plan_sort_ok (m5,[],[]) a0 g4 b2 none 0 b3 A0_ c1_ r73 hv74) (.m 6 (.m 4 (.m 4236 (.m 5 (.s 0 .nil))))) ?_
 rintro _ _ ⟨b75,A76,c77,b78,rfl,rfl⟩
 refine⟨by kernel_rfl,?_⟩
 refine A.mvd 4237 6 [] ?_
 refine A.mvd 4238 4 [] ?_
 refine A.mvd 4239 4236 [] ?_
 refine A.mvd 4240 5 [] ?_
 refine A.q0 [] [] [.n,.n] [(115,.bool (!r73.1))] ?_
 refine A.dx 1 ?_
 refine A.AX.cnb rfl hF (fun hb hF=>?_) (fun hb hF=>?_)
 ·refine A.xl 1 ?_
  refine A.q0 [] [] [.n,.n] [(2,.pointer none),(3,.int .i64 81)] ?_
  refine A.dx 1 ?_
  obtain rfl:=Option.some.inj hF
  exact A.rt2 [] (.inl ⟨rfl,⟨rfl,rfl,(A.hasl .i64 (81) rfl)⟩⟩)
 refine A.xl 1 ?_
 refine A.q0 [] [] [.n] [(121,.pointer (some ⟨g4,0,none⟩))] ?_
 obtain⟨r79,hv80,hF⟩:=A.bd_some hF
 refine A.AL.call 4277 [] (first:=[]) (cap:=[]) cf52 (graph_plan_depths_ok (r73.2.1,r73.2.2.1,r73.2.2.2) g4 b75 A76 c77 b78 r79 hv80) (.m 6 (.m 4 (.m 4236 (.m 5 .nil)))) ?_
 rintro _ _ ⟨b81,A82,c83,b84,rfl,rfl⟩
 refine⟨by kernel_rfl,?_⟩
 refine A.mvd 4277 6 [] ?_
 refine A.mvd 4278 4 [] ?_
 refine A.mvd 4279 4236 [] ?_
 refine A.mvd 4280 5 [] ?_
 refine A.q0 [] [] [.n,.n] [(120,.bool (!r79.1))] ?_
 refine A.dx 1 ?_
 refine A.AX.cnb rfl hF (fun hb hF=>?_) (fun hb hF=>?_)
 ·refine A.xl 1 ?_
  refine A.q0 [] [] [.n,.n] [(2,.pointer none),(3,.int .i64 80)] ?_
  refine A.dx 1 ?_
  obtain rfl:=Option.some.inj hF
  exact A.rt2 [] (.inl ⟨rfl,⟨rfl,rfl,(A.hasl .i64 (80) rfl)⟩⟩)
 refine A.xl 1 ?_
 refine A.q0 [3] [] [.n,.b 0 0] [(125,.pointer (some ⟨g4,0,none⟩)),(126,.agg #[.slice A0_ ((a0).length) c1_])] ?_
 obtain⟨r85,hv86,hF⟩:=A.bd_some hF
 refine A.AL.call 4317 [] (first:=[]) (cap:=[]) cf53 (graph_plan_turns_ok (r79.2.1,r79.2.2.1,r79.2.2.2) a0 g4 b81 A82 c83 b84 A0_ c1_ r85 hv86) (.m 6 (.m 4 (.m 4236 (.m 5 (.s 0 .nil))))) ?_
 rintro _ _ ⟨rfl,rfl⟩
 refine⟨by kernel_rfl,?_⟩
 refine A.mvd 4317 6 [] ?_
 refine A.mvd 4318 4 [] ?_
 refine A.mvd 4319 4236 [] ?_
 refine A.mvd 4320 5 [] ?_
 refine A.q0 [] [] [.n] [(124,.bool r85)] ?_
 refine A.dx 1 ?_
 refine A.AX.cnb rfl hF (fun hb hF=>?_) (fun hb hF=>?_)
 ·refine A.xl 1 ?_
  refine A.q0 [] [] [.n,.n] [(2,.pointer none),(3,.int .i64 81)] ?_
  refine A.dx 1 ?_
  obtain rfl:=Option.some.inj hF
  exact A.rt2 [] (.inl ⟨rfl,⟨rfl,rfl,(A.hasl .i64 (81) rfl)⟩⟩)
 refine A.xl 4 ?_
 refine A.q0 [] [] [.n,.n,.n] [(2,.pointer (some ⟨g4,0,none⟩)),(3,.int .i64 0)] ?_
 refine A.dx 1 ?_
 obtain rfl:=Option.some.inj hF
 exact A.rt2 [(0,6),(1,4),(2,4236),(3,5)] (.inr ⟨(r79.2.1,r79.2.2.1,r79.2.2.2),rfl,⟨g4,b81,A82,c83,b84,rfl,rfl,(A.hasl .i64 (0) rfl)⟩⟩)
end Go.Proofs.YtpdhaldfdeamdaaDoor
end
section
set_option linter.unusedVariables false
set_option linter.unusedSimpArgs false
set_option maxRecDepth 20000
set_option maxHeartbeats 8000000
set_option synthInstance.maxSize 1000000
set_option synthInstance.maxHeartbeats 400000
namespace Go.Proofs.YtpdhaldfdeamdaaDoor
open Go.RowKit
def F.graph_Depth (a0:D23)(a1:Int):Option (Int×Int):=(F.graph_whole a0).bind fun r2=>A.om r2.1 (if r2.2≠0 then(some (0,r2.2))else(none)) fun p5=>(if r2.2≠0 then(some (0,r2.2))else(A.lt (Z.mget (0:Int) p5.2.2 a1) fun x12=>(if(!(Z.mhas p5.2.2 a1))=true then(some (0,4))else(some (x12,0)))))
theorem graph_Depth_ok (a0:D23)(a1:Int)(A0_:Option Addr)(c1_:Nat)(h2_:IntKind.i64.has a1)(r:Int×Int)(hF:F.graph_Depth a0 a1=some r):
    A.Ct Tryd.prog 23 [.agg #[.slice A0_ ((a0).length) c1_],.int .i64 a1] [(0,.sh (.slice T32) [.slice A0_ (a0).length c1_] a0),(1,.el none 0 0 A.tabF),(2,.el none 1 0 A.tabA)] [] (fun v H'=>v=.tuple #[.int .i64 r.1,.int .i64 r.2]∧H'=[]∧IntKind.i64.has r.1∧IntKind.i64.has r.2):=by
 refine A.Ct.enter Tryd.func23 rfl Tryd.ntmps23 rfl fun w0 F0=>?_
 rw[F.graph_Depth]at hF
 refine A.xl 1 ?_
 refine A.AL.box 3 (cs:=[.slice A0_ ((a0).length) c1_]) fun g1=>?_
 refine A.q0 [] [] [.n,.n] [] ?_
 refine A.dl 2 ?_
 refine A.q0 [3] [] [.b 0 0] [(11,.agg #[.slice A0_ ((a0).length) c1_])] ?_
 obtain⟨r2,hv3,hF⟩:=A.bd_some hF
 refine A.AL.call 4 [] (first:=[]) (cap:=[]) cf32 (graph_whole_ok a0 A0_ c1_ r2 hv3) (.s 0 (.s 1 (.s 2 .nil))) ?_
 rintro _ _ (⟨hp15,rfl,rfl,hr4⟩|⟨p5,hp15,g6,b7,A8,c9,b10,rfl,rfl,hr11⟩)
 ·refine⟨by kernel_rfl,?_⟩
  rw[A.om_n hp15]at hF
  refine A.q0 [] [] [.n,.n,.n,.n,.n] [(6,.pointer none),(7,.int .i64 r2.2)] ?_
  refine A.dl 3 ?_
  refine A.q0 [] [] [.n,.n] [(16,.bool (decide (r2.2≠0)))] ?_
  refine A.dx 1 ?_
  refine A.AX.cnd rfl hF (fun hb hF=>?_) (fun hb hF=>?_)
  ·refine A.xl 1 ?_
   refine A.q0 [] [] [.n,.n,.n] [(4,.int .i64 0),(5,.int .i64 r2.2)] ?_
   refine A.dx 1 ?_
   obtain rfl:=Option.some.inj hF
   exact A.rt2 [] ⟨rfl,rfl,(A.hasl .i64 (0) rfl),hr4⟩
  refine A.xl 3 ?_
  refine A.q0 [] [] [.n] [(19,.pointer none)] ?_
  exact A.no0 hF
 refine⟨by kernel_rfl,?_⟩
 rw[A.om_s hp15]at hF
 refine A.q0 [] [] [.n,.n,.n,.n,.n] [(6,.pointer (some ⟨g6,0,none⟩)),(7,.int .i64 r2.2)] ?_
 refine A.dl 3 ?_
 refine A.q0 [] [] [.n,.n] [(16,.bool (decide (r2.2≠0)))] ?_
 refine A.dx 1 ?_
 refine A.AX.cnd rfl hF (fun hb hF=>?_) (fun hb hF=>?_)
 ·refine A.xl 1 ?_
  refine A.q0 [] [] [.n,.n,.n] [(4,.int .i64 0),(5,.int .i64 r2.2)] ?_
  refine A.dx 1 ?_
  obtain rfl:=Option.some.inj hF
  exact A.rt2 [] ⟨rfl,rfl,(A.hasl .i64 (0) rfl),hr11⟩
 refine A.xl 3 ?_
 refine A.q0 [4] [] [.n,.n,.n,.b 0 2,.n] [(22,.map (some b10)),(23,.int .i64 a1)] ?_
 obtain⟨x12,hv13,hF⟩:=A.lt_some hF
 refine A.AL.lk2 (t:=(Z.Ty.int .i64)) 7 44 (z:=(0:Int)) (zs:=[.int .i64 0]) ky3 a1 Tryd.zeroValue3 ⟨rfl,by decide⟩ hv13 fun ho14=>?_
 refine A.q0 [] [] [.n,.n,.n,.n,.n] [(8,.int .i64 x12),(9,.bool (Z.mhas p5.2.2 a1))] ?_
 refine A.dl 3 ?_
 refine A.q0 [] [] [.n,.n] [(28,.bool (!(Z.mhas p5.2.2 a1)))] ?_
 refine A.dx 1 ?_
 refine A.AX.cnb rfl hF (fun hb hF=>?_) (fun hb hF=>?_)
 ·refine A.xl 1 ?_
  refine A.q0 [] [] [.n,.n] [(4,.int .i64 0),(5,.int .i64 4)] ?_
  refine A.dx 1 ?_
  obtain rfl:=Option.some.inj hF
  exact A.rt2 [] ⟨rfl,rfl,(A.hasl .i64 (0) rfl),(A.hasl .i64 (4) rfl)⟩
 refine A.xl 3 ?_
 refine A.q0 [] [] [.n,.n,.n] [(4,.int .i64 x12),(5,.int .i64 0)] ?_
 refine A.dx 1 ?_
 obtain rfl:=Option.some.inj hF
 exact A.rt2 [] ⟨rfl,rfl,ho14,(A.hasl .i64 (0) rfl)⟩
def F.L08_loop (a0:Int):Option D23:=some [(1,1,[],(0,0,ByteArray.mk #[]),ByteArray.mk #[97],0,0),(2,12,[1],(0,0,ByteArray.mk #[]),ByteArray.mk #[],0,0),(3,14,[a0],(0,0,ByteArray.mk #[]),ByteArray.mk #[],3,1),(4,5,[2,3],(0,0,ByteArray.mk #[]),ByteArray.mk #[],0,0),(5,2,[4],(1,0,ByteArray.mk #[]),ByteArray.mk #[],0,0),(6,13,[5],(0,0,ByteArray.mk #[]),ByteArray.mk #[],0,0),(7,15,[6],(0,0,ByteArray.mk #[]),ByteArray.mk #[98],0,0),(8,12,[6],(0,0,ByteArray.mk #[]),ByteArray.mk #[],0,0)]
theorem L08_loop_ok (a0:Int)(h0_:IntKind.i64.has a0)(r:D23)(hF:F.L08_loop a0=some r):
    A.Ct Tryd.prog 24 [.int .i64 a0] [] [] (fun v H'=>∃(A0':Option Addr) (c1':Nat),v=.agg #[.slice A0' ((r).length) c1']∧H'=[(0,.sh (.slice T32) [.slice A0' (r).length c1'] r)]):=by
 refine A.Ct.enter Tryd.func24 rfl Tryd.ntmps24 rfl fun w0 F0=>?_
 rw[F.L08_loop]at hF
 refine A.xl 1 ?_
 refine A.AL.alloc 0 (cs:=[.slice none 0 0]) Tryd.zeroValue24 fun g1=>?_
 refine A.dl 2 ?_
 refine A.q0 [] [] [.n] [(3,.agg #[.int .i64 1,.int .i64 1,.slice none 0 0,.int .i64 0,.int .i64 0,.string (ByteArray.mk #[]),.string (ByteArray.mk #[97]),.int .i64 0,.int .i64 0])] ?_
 refine A.AL.bsl 1 (ty:=(Z.Ty.int .i64)) (cs:=[.int .i64 1]) [1] ⟨⟨rfl,(A.hasl .i64 (1) rfl)⟩,rfl⟩ (fun g2=>?_) Tryd.zeroValue3 Tryd.sizeOf3
 refine A.q0 [] [] [.n,.n] [(5,.agg #[.int .i64 2,.int .i64 12,.slice (some ⟨g2,0,none⟩) 1 1,.int .i64 0,.int .i64 0,.string (ByteArray.mk #[]),.string (ByteArray.mk #[]),.int .i64 0,.int .i64 0]),(6,.int .i64 a0)] ?_
 refine A.AL.bsl 2 (ty:=(Z.Ty.int .i64)) (cs:=[.int .i64 a0]) [a0] ⟨⟨rfl,h0_⟩,rfl⟩ (fun g3=>?_) Tryd.zeroValue3 Tryd.sizeOf3
 refine A.q0 [] [] [.n] [(8,.agg #[.int .i64 3,.int .i64 14,.slice (some ⟨g3,0,none⟩) 1 1,.int .i64 0,.int .i64 0,.string (ByteArray.mk #[]),.string (ByteArray.mk #[]),.int .i64 3,.int .i64 1])] ?_
 refine A.AL.bsl 3 (ty:=(Z.Ty.int .i64)) (cs:=[.int .i64 2,.int .i64 3]) [2,3] ⟨⟨rfl,(A.hasl .i64 (2) rfl)⟩,⟨⟨rfl,(A.hasl .i64 (3) rfl)⟩,rfl⟩⟩ (fun g4=>?_) Tryd.zeroValue3 Tryd.sizeOf3
 refine A.q0 [] [] [.n] [(10,.agg #[.int .i64 4,.int .i64 5,.slice (some ⟨g4,0,none⟩) 2 2,.int .i64 0,.int .i64 0,.string (ByteArray.mk #[]),.string (ByteArray.mk #[]),.int .i64 0,.int .i64 0])] ?_
 refine A.AL.bsl 4 (ty:=(Z.Ty.int .i64)) (cs:=[.int .i64 4]) [4] ⟨⟨rfl,(A.hasl .i64 (4) rfl)⟩,rfl⟩ (fun g5=>?_) Tryd.zeroValue3 Tryd.sizeOf3
 refine A.q0 [] [] [.n,.n] [(13,.agg #[.int .i64 5,.int .i64 2,.slice (some ⟨g5,0,none⟩) 1 1,.int .i64 1,.int .i64 0,.string (ByteArray.mk #[]),.string (ByteArray.mk #[]),.int .i64 0,.int .i64 0])] ?_
 refine A.AL.bsl 5 (ty:=(Z.Ty.int .i64)) (cs:=[.int .i64 5]) [5] ⟨⟨rfl,(A.hasl .i64 (5) rfl)⟩,rfl⟩ (fun g6=>?_) Tryd.zeroValue3 Tryd.sizeOf3
 refine A.q0 [] [] [.n] [(15,.agg #[.int .i64 6,.int .i64 13,.slice (some ⟨g6,0,none⟩) 1 1,.int .i64 0,.int .i64 0,.string (ByteArray.mk #[]),.string (ByteArray.mk #[]),.int .i64 0,.int .i64 0])] ?_
 refine A.AL.bsl 6 (ty:=(Z.Ty.int .i64)) (cs:=[.int .i64 6]) [6] ⟨⟨rfl,(A.hasl .i64 (6) rfl)⟩,rfl⟩ (fun g7=>?_) Tryd.zeroValue3 Tryd.sizeOf3
 refine A.q0 [] [] [.n] [(17,.agg #[.int .i64 7,.int .i64 15,.slice (some ⟨g7,0,none⟩) 1 1,.int .i64 0,.int .i64 0,.string (ByteArray.mk #[]),.string (ByteArray.mk #[98]),.int .i64 0,.int .i64 0])] ?_
 refine A.AL.bsl 7 (ty:=(Z.Ty.int .i64)) (cs:=[.int .i64 6]) [6] ⟨⟨rfl,(A.hasl .i64 (6) rfl)⟩,rfl⟩ (fun g8=>?_) Tryd.zeroValue3 Tryd.sizeOf3
 refine A.q0 [] [] [.n] [(19,.agg #[.int .i64 8,.int .i64 12,.slice (some ⟨g8,0,none⟩) 1 1,.int .i64 0,.int .i64 0,.string (ByteArray.mk #[]),.string (ByteArray.mk #[]),.int .i64 0,.int .i64 0])] ?_
 refine A.frz 1 [] ?_
 refine A.frz 2 [] ?_
 refine A.frz 3 [] ?_
 refine A.frz 4 [] ?_
 refine A.frz 5 [] ?_
 refine A.frz 6 [] ?_
 refine A.frz 7 [] ?_
 refine A.AL.bsl 8 (ty:=T32) (cs:=[.int .i64 1,.int .i64 1,.slice none 0 0,.int .i64 0,.int .i64 0,.string (ByteArray.mk #[]),.string (ByteArray.mk #[97]),.int .i64 0,.int .i64 0,.int .i64 2,.int .i64 12,.slice (some ⟨g2,0,none⟩) 1 1,.int .i64 0,.int .i64 0,.string (ByteArray.mk #[]),.string (ByteArray.mk #[]),.int .i64 0,.int .i64 0,.int .i64 3,.int .i64 14,.slice (some ⟨g3,0,none⟩) 1 1,.int .i64 0,.int .i64 0,.string (ByteArray.mk #[]),.string (ByteArray.mk #[]),.int .i64 3,.int .i64 1,.int .i64 4,.int .i64 5,.slice (some ⟨g4,0,none⟩) 2 2,.int .i64 0,.int .i64 0,.string (ByteArray.mk #[]),.string (ByteArray.mk #[]),.int .i64 0,.int .i64 0,.int .i64 5,.int .i64 2,.slice (some ⟨g5,0,none⟩) 1 1,.int .i64 1,.int .i64 0,.string (ByteArray.mk #[]),.string (ByteArray.mk #[]),.int .i64 0,.int .i64 0,.int .i64 6,.int .i64 13,.slice (some ⟨g6,0,none⟩) 1 1,.int .i64 0,.int .i64 0,.string (ByteArray.mk #[]),.string (ByteArray.mk #[]),.int .i64 0,.int .i64 0,.int .i64 7,.int .i64 15,.slice (some ⟨g7,0,none⟩) 1 1,.int .i64 0,.int .i64 0,.string (ByteArray.mk #[]),.string (ByteArray.mk #[98]),.int .i64 0,.int .i64 0,.int .i64 8,.int .i64 12,.slice (some ⟨g8,0,none⟩) 1 1,.int .i64 0,.int .i64 0,.string (ByteArray.mk #[]),.string (ByteArray.mk #[]),.int .i64 0,.int .i64 0]) [(1,1,[],(0,0,ByteArray.mk #[]),ByteArray.mk #[97],0,0),(2,12,[1],(0,0,ByteArray.mk #[]),ByteArray.mk #[],0,0),(3,14,[a0],(0,0,ByteArray.mk #[]),ByteArray.mk #[],3,1),(4,5,[2,3],(0,0,ByteArray.mk #[]),ByteArray.mk #[],0,0),(5,2,[4],(1,0,ByteArray.mk #[]),ByteArray.mk #[],0,0),(6,13,[5],(0,0,ByteArray.mk #[]),ByteArray.mk #[],0,0),(7,15,[6],(0,0,ByteArray.mk #[]),ByteArray.mk #[98],0,0),(8,12,[6],(0,0,ByteArray.mk #[]),ByteArray.mk #[],0,0)] ⟨⟨⟨rfl,(A.hasl .i64 (1) rfl)⟩,⟨rfl,(A.hasl .i64 (1) rfl)⟩,.inr ⟨rfl,rfl⟩,⟨⟨rfl,(A.hasl .i64 (0) rfl)⟩,⟨rfl,(A.hasl .i64 (0) rfl)⟩,⟨rfl,(A.szl (ByteArray.mk #[]) rfl)⟩⟩,⟨rfl,(A.szl (ByteArray.mk #[97]) rfl)⟩,⟨rfl,(A.hasl .i64 (0) rfl)⟩,⟨rfl,(A.hasl .i64 (0) rfl)⟩⟩,⟨⟨⟨rfl,(A.hasl .i64 (2) rfl)⟩,⟨rfl,(A.hasl .i64 (12) rfl)⟩,.inl ⟨1,rfl⟩,⟨⟨rfl,(A.hasl .i64 (0) rfl)⟩,⟨rfl,(A.hasl .i64 (0) rfl)⟩,⟨rfl,(A.szl (ByteArray.mk #[]) rfl)⟩⟩,⟨rfl,(A.szl (ByteArray.mk #[]) rfl)⟩,⟨rfl,(A.hasl .i64 (0) rfl)⟩,⟨rfl,(A.hasl .i64 (0) rfl)⟩⟩,⟨⟨⟨rfl,(A.hasl .i64 (3) rfl)⟩,⟨rfl,(A.hasl .i64 (14) rfl)⟩,.inl ⟨2,rfl⟩,⟨⟨rfl,(A.hasl .i64 (0) rfl)⟩,⟨rfl,(A.hasl .i64 (0) rfl)⟩,⟨rfl,(A.szl (ByteArray.mk #[]) rfl)⟩⟩,⟨rfl,(A.szl (ByteArray.mk #[]) rfl)⟩,⟨rfl,(A.hasl .i64 (3) rfl)⟩,⟨rfl,(A.hasl .i64 (1) rfl)⟩⟩,⟨⟨⟨rfl,(A.hasl .i64 (4) rfl)⟩,⟨rfl,(A.hasl .i64 (5) rfl)⟩,.inl ⟨3,rfl⟩,⟨⟨rfl,(A.hasl .i64 (0) rfl)⟩,⟨rfl,(A.hasl .i64 (0) rfl)⟩,⟨rfl,(A.szl (ByteArray.mk #[]) rfl)⟩⟩,⟨rfl,(A.szl (ByteArray.mk #[]) rfl)⟩,⟨rfl,(A.hasl .i64 (0) rfl)⟩,⟨rfl,(A.hasl .i64 (0) rfl)⟩⟩,⟨⟨⟨rfl,(A.hasl .i64 (5) rfl)⟩,⟨rfl,(A.hasl .i64 (2) rfl)⟩,.inl ⟨4,rfl⟩,⟨⟨rfl,(A.hasl .i64 (1) rfl)⟩,⟨rfl,(A.hasl .i64 (0) rfl)⟩,⟨rfl,(A.szl (ByteArray.mk #[]) rfl)⟩⟩,⟨rfl,(A.szl (ByteArray.mk #[]) rfl)⟩,⟨rfl,(A.hasl .i64 (0) rfl)⟩,⟨rfl,(A.hasl .i64 (0) rfl)⟩⟩,⟨⟨⟨rfl,(A.hasl .i64 (6) rfl)⟩,⟨rfl,(A.hasl .i64 (13) rfl)⟩,.inl ⟨5,rfl⟩,⟨⟨rfl,(A.hasl .i64 (0) rfl)⟩,⟨rfl,(A.hasl .i64 (0) rfl)⟩,⟨rfl,(A.szl (ByteArray.mk #[]) rfl)⟩⟩,⟨rfl,(A.szl (ByteArray.mk #[]) rfl)⟩,⟨rfl,(A.hasl .i64 (0) rfl)⟩,⟨rfl,(A.hasl .i64 (0) rfl)⟩⟩,⟨⟨⟨rfl,(A.hasl .i64 (7) rfl)⟩,⟨rfl,(A.hasl .i64 (15) rfl)⟩,.inl ⟨6,rfl⟩,⟨⟨rfl,(A.hasl .i64 (0) rfl)⟩,⟨rfl,(A.hasl .i64 (0) rfl)⟩,⟨rfl,(A.szl (ByteArray.mk #[]) rfl)⟩⟩,⟨rfl,(A.szl (ByteArray.mk #[98]) rfl)⟩,⟨rfl,(A.hasl .i64 (0) rfl)⟩,⟨rfl,(A.hasl .i64 (0) rfl)⟩⟩,⟨⟨⟨rfl,(A.hasl .i64 (8) rfl)⟩,⟨rfl,(A.hasl .i64 (12) rfl)⟩,.inl ⟨7,rfl⟩,⟨⟨rfl,(A.hasl .i64 (0) rfl)⟩,⟨rfl,(A.hasl .i64 (0) rfl)⟩,⟨rfl,(A.szl (ByteArray.mk #[]) rfl)⟩⟩,⟨rfl,(A.szl (ByteArray.mk #[]) rfl)⟩,⟨rfl,(A.hasl .i64 (0) rfl)⟩,⟨rfl,(A.hasl .i64 (0) rfl)⟩⟩,rfl⟩⟩⟩⟩⟩⟩⟩⟩ (fun g9=>?_) Tryd.zeroValue33 Tryd.sizeOf33
 refine A.q0 [] [] [.n] [(21,.agg #[.slice (some ⟨g9,0,none⟩) 8 8])] ?_
 refine A.sw 0 [] [.slice (some ⟨g9,0,none⟩) 8 8] ?_
 refine A.dx 1 ?_
 obtain rfl:=Option.some.inj hF
 refine A.frz 8 [] ?_
 exact A.AX.ret [(0,8)] (.agg #[.slice (some ⟨g9,0,none⟩) 8 8]) (fun a w hf hh=>Z.resv1 rfl (Z.rv_n hf rfl Tryd.isAgg24 Tryd.sizeOf24 (A.Hp.blk hh 0) rfl)) (⟨(some ⟨g9,0,none⟩),8,rfl,rfl⟩)
def F.graph_Order (a0:D23):Option ((List Int)×Int):=(F.graph_whole a0).bind fun r2=>A.om r2.1 (if r2.2≠0 then(some ([],r2.2))else(none)) fun p5=>(if r2.2≠0 then(some ([],r2.2))else(some (p5.2.1,0)))
theorem graph_Order_ok (a0:D23)(A0_:Option Addr)(c1_:Nat)(r:(List Int)×Int)(hF:F.graph_Order a0=some r):
    A.Ct Tryd.prog 25 [.agg #[.slice A0_ ((a0).length) c1_]] [(0,.sh (.slice T32) [.slice A0_ (a0).length c1_] a0),(1,.el none 0 0 A.tabF),(2,.el none 1 0 A.tabA)] [] (fun v H'=>∃(A0':Option Addr) (c1':Nat),v=.tuple #[.slice A0' ((r.1).length) c1',.int .i64 r.2]∧H'=[(0,.own (Z.Ty.int .i64) 3 A0' c1' r.1)]∧IntKind.i64.has r.2):=by
 refine A.Ct.enter Tryd.func25 rfl Tryd.ntmps25 rfl fun w0 F0=>?_
 rw[F.graph_Order]at hF
 refine A.xl 1 ?_
 refine A.AL.box 3 (cs:=[.slice A0_ ((a0).length) c1_]) fun g1=>?_
 refine A.q0 [] [] [.n,.n] [] ?_
 refine A.dl 2 ?_
 refine A.q0 [3] [] [.b 0 0] [(7,.agg #[.slice A0_ ((a0).length) c1_])] ?_
 obtain⟨r2,hv3,hF⟩:=A.bd_some hF
 refine A.AL.call 4 [] (first:=[]) (cap:=[]) cf32 (graph_whole_ok a0 A0_ c1_ r2 hv3) (.s 0 (.s 1 (.s 2 .nil))) ?_
 rintro _ _ (⟨hp12,rfl,rfl,hr4⟩|⟨p5,hp12,g6,b7,A8,c9,b10,rfl,rfl,hr11⟩)
 ·refine⟨by kernel_rfl,?_⟩
  rw[A.om_n hp12]at hF
  refine A.q0 [] [] [.n,.n,.n,.n,.n] [(4,.pointer none),(5,.int .i64 r2.2)] ?_
  refine A.dl 3 ?_
  refine A.q0 [] [] [.n,.n] [(12,.bool (decide (r2.2≠0)))] ?_
  refine A.dx 1 ?_
  refine A.AX.cnd rfl hF (fun hb hF=>?_) (fun hb hF=>?_)
  ·refine A.xl 1 ?_
   refine A.q0 [] [] [.n,.n,.n] [(2,.slice none 0 0),(3,.int .i64 r2.2)] ?_
   refine A.dx 1 ?_
   obtain rfl:=Option.some.inj hF
   refine A.nil 44 (Z.Ty.int .i64) 3 ?_
   exact A.rt2 [(0,44)] ⟨none,0,rfl,rfl,hr4⟩
  refine A.xl 3 ?_
  refine A.q0 [] [] [.n] [(14,.pointer none)] ?_
  exact A.no0 hF
 refine⟨by kernel_rfl,?_⟩
 rw[A.om_s hp12]at hF
 refine A.q0 [] [] [.n,.n,.n,.n,.n] [(4,.pointer (some ⟨g6,0,none⟩)),(5,.int .i64 r2.2)] ?_
 refine A.dl 3 ?_
 refine A.q0 [] [] [.n,.n] [(12,.bool (decide (r2.2≠0)))] ?_
 refine A.dx 1 ?_
 refine A.AX.cnd rfl hF (fun hb hF=>?_) (fun hb hF=>?_)
 ·refine A.xl 1 ?_
  refine A.q0 [] [] [.n,.n,.n] [(2,.slice none 0 0),(3,.int .i64 r2.2)] ?_
  refine A.dx 1 ?_
  obtain rfl:=Option.some.inj hF
  refine A.nil 45 (Z.Ty.int .i64) 3 ?_
  exact A.rt2 [(0,45)] ⟨none,0,rfl,rfl,hr11⟩
 refine A.xl 3 ?_
 refine A.q0 [4] [] [.n,.n,.n,.b 0 1,.n,.n] [(2,.slice A8 ((p5.2.1).length) c9),(3,.int .i64 0)] ?_
 refine A.dx 1 ?_
 obtain rfl:=Option.some.inj hF
 exact A.rt2 [(0,6)] ⟨A8,c9,rfl,rfl,(A.hasl .i64 (0) rfl)⟩
def F.slices_Equal_int_int_l1 (a0:(List Int))(a1:(List Int)):Nat→Int→Option Bool
 |0,_=>none
 |f+1,y1=>if y1<((a0).length:Int)then((A.ix a0 y1).bind fun x4=>((A.ix a1 y1).bind fun x10=>(if x4≠x10 then(some false)else(A.gd (Z.R64 (y1+1)) ((F.slices_Equal_int_int_l1 a0 a1 f) (y1+1))))))else(some true)
def F.slices_Equal_int_int (a0:(List Int))(a1:(List Int)):Option Bool:=if((a0).length:Int)≠((a1).length:Int)then(some false)else(F.slices_Equal_int_int_l1 a0 a1 A.FU 0)
theorem slices_Equal_int_int_ok (a0:(List Int))(a1:(List Int))(A0_:Option Addr)(c1_:Nat)(A2_:Option Addr)(c3_:Nat)(r:Bool)(hF:F.slices_Equal_int_int a0 a1=some r):
    A.Ct Tryd.prog 26 [.slice A0_ ((a0).length) c1_,.slice A2_ ((a1).length) c3_] [(0,.ln (Z.Ty.int .i64) A0_ c1_ a0),(1,.ln (Z.Ty.int .i64) A2_ c3_ a1)] [] (fun v H'=>v=.bool r∧H'=[]):=by
 refine A.Ct.enter Tryd.func26 rfl Tryd.ntmps26 rfl fun w0 F0=>?_
 rw[F.slices_Equal_int_int]at hF
 refine A.xl 1 ?_
 refine A.q0 [] [] [.n] [] ?_
 refine A.dl 3 ?_
 refine A.q0 [] [] [.n,.n,.n,.n,.n] [(10,.bool (decide (((a0).length:Int)≠((a1).length:Int))))] ?_
 refine A.dx 1 ?_
 refine A.AX.cnd rfl hF (fun hb hF=>?_) (fun hb hF=>?_)
 ·refine A.xl 1 ?_
  refine A.q0 [] [] [.n] [(4,.bool false)] ?_
  refine A.dx 1 ?_
  obtain rfl:=Option.some.inj hF
  exact A.rt1 [] ⟨rfl,rfl⟩
 refine A.xl 4 ?_
 refine A.q0 [] [] [.n,.n,.n] [(12,.int .i64 ((a0).length:Int)),(13,.int .i64 0)] ?_
 refine A.dx 2 ?_
 refine A.lp_ [0,1,12] [0,1] (fun f nl nh=>∃(y1:Int),nl=[(13,.int .i64 y1)]∧nh=[]∧IntKind.i64.has y1∧F.slices_Equal_int_int_l1 a0 a1 f y1=some r) ⟨0,rfl,rfl,(A.hasl .i64 (0) rfl),hF⟩ ?_
 rintro f3 _ _ ⟨y1,rfl,rfl,hy2,hF⟩
 rcases f3 with _|f3
 ·exact A.no0 hF
 rw[F.slices_Equal_int_int_l1]at hF
 refine A.xl 1 ?_
 refine A.q0 [] [] [.n] [(14,.bool (decide (y1<((a0).length:Int))))] ?_
 refine A.dx 2 ?_
 refine A.AX.cnd rfl hF (fun hb hF=>?_) (fun hb hF=>?_)
 ·refine A.xl 5 ?_
  refine A.q0 [] [] [.n,.n] [(5,.int .i64 y1)] ?_
  refine A.dx 2 ?_
  refine A.AX.dr mixed 9 9 (A.mb 9 0) ?_
  refine A.hq A.pb [] [0,1] [] [] (A.mb 9 51) 5 [(0,.n),(1,.n),(4,.n),(5,.n)] [(16,.slice A0_ ((a0).length) c1_),(17,.int .i64 y1),(20,.slice A2_ ((a1).length) c3_),(21,.int .i64 y1)] ?_
  obtain⟨x4,hv5,hF⟩:=A.bd_some hF
  refine A.AH.pkl 0 6 hv5 fun ho6=>?_
  intro b8 o9 hA7
  refine A.AH.v A.pb [0,1] [0,1,6] 2 (A.mb 9 55) rfl (fun a w hf hh=>A.r_ixa (t:=(Z.Ty.int .i64)) hv5 hA7 hf) ?_
  refine A.hq A.pb [0,1,6] [0,1,6] [] [6] (A.mb 9 63) 3 [(3,.e 0 0)] [(19,.int .i64 x4)] ?_
  obtain⟨x10,hv11,hF⟩:=A.bd_some hF
  refine A.AH.pkl 1 7 hv11 fun ho12=>?_
  intro b14 o15 hA13
  refine A.AH.v A.pb [0,1,6] [0,1,6,7] 6 (A.mb 9 127) rfl (fun a w hf hh=>A.r_ixa (t:=(Z.Ty.int .i64)) hv11 hA13 hf) ?_
  refine A.hq A.pb [0,1,6,7] [0,1,6,7] [] [7] (A.mb 9 511) 0 [(7,.e 0 0),(8,.n)] [(24,.bool (decide (x4≠x10)))] ?_
  refine A.AH.done ?_
  refine A.ex 1 ?_
  refine A.AX.cnd rfl hF (fun hb hF=>?_) (fun hb hF=>?_)
  ·refine A.xl 1 ?_
   refine A.q0 [] [] [.n] [(4,.bool false)] ?_
   refine A.dx 1 ?_
   obtain rfl:=Option.some.inj hF
   exact A.rt1 [] ⟨rfl,rfl⟩
  refine A.xl 3 ?_
  obtain⟨hc16,hF⟩:=A.gd_some hF
  refine A.q [] [] [.n,.n] [Z.R64 (y1+1)] [(13,.int .i64 (y1+1))] hc16 ?_
  refine A.AL.done ?_
  exact A.j ⟨_,Nat.lt_succ_self _,⟨(y1+1),rfl,rfl,(Z.i64_has hc16),hF⟩⟩
 refine A.xl 3 ?_
 refine A.q0 [] [] [.n] [(4,.bool true)] ?_
 refine A.dx 1 ?_
 obtain rfl:=Option.some.inj hF
 exact A.rt1 [] ⟨rfl,rfl⟩
def F.graph_Check (a0:D23):Option Int:=(F.graph_whole a0).bind fun r2=>A.om r2.1 (some r2.2) fun p5=>(some r2.2)
theorem graph_Check_ok (a0:D23)(A0_:Option Addr)(c1_:Nat)(r:Int)(hF:F.graph_Check a0=some r):
    A.Ct Tryd.prog 27 [.agg #[.slice A0_ ((a0).length) c1_]] [(0,.sh (.slice T32) [.slice A0_ (a0).length c1_] a0),(1,.el none 0 0 A.tabF),(2,.el none 1 0 A.tabA)] [] (fun v H'=>v=.int .i64 r∧H'=[]∧IntKind.i64.has r):=by
 refine A.Ct.enter Tryd.func27 rfl Tryd.ntmps27 rfl fun w0 F0=>?_
 rw[F.graph_Check]at hF
 refine A.xl 1 ?_
 refine A.AL.box 3 (cs:=[.slice A0_ ((a0).length) c1_]) fun g1=>?_
 refine A.q0 [] [] [.n] [] ?_
 refine A.dl 2 ?_
 refine A.q0 [3] [] [.b 0 0] [(6,.agg #[.slice A0_ ((a0).length) c1_])] ?_
 obtain⟨r2,hv3,hF⟩:=A.bd_some hF
 refine A.AL.call 4 [] (first:=[]) (cap:=[]) cf32 (graph_whole_ok a0 A0_ c1_ r2 hv3) (.s 0 (.s 1 (.s 2 .nil))) ?_
 rintro _ _ (⟨hp12,rfl,rfl,hr4⟩|⟨p5,hp12,g6,b7,A8,c9,b10,rfl,rfl,hr11⟩)
 ·refine⟨by kernel_rfl,?_⟩
  rw[A.om_n hp12]at hF
  refine A.q0 [] [] [.n,.n,.n,.n,.n] [(4,.int .i64 r2.2)] ?_
  refine A.dl 2 ?_
  refine A.q0 [] [] [.n,.n] [(2,.int .i64 r2.2)] ?_
  refine A.dx 1 ?_
  obtain rfl:=Option.some.inj hF
  exact A.rt1 [] ⟨rfl,rfl,hr4⟩
 refine⟨by kernel_rfl,?_⟩
 rw[A.om_s hp12]at hF
 refine A.q0 [] [] [.n,.n,.n,.n,.n] [(4,.int .i64 r2.2)] ?_
 refine A.dl 2 ?_
 refine A.q0 [] [] [.n,.n] [(2,.int .i64 r2.2)] ?_
 refine A.dx 1 ?_
 obtain rfl:=Option.some.inj hF
 exact A.rt1 [] ⟨rfl,rfl,hr11⟩
def F.L08_begun_j1 (y18:Bool):Option Bool:=some y18
def F.L08_begun:Option Bool:=(F.L08_loop 5).bind fun r1=>((F.graph_Depth r1 4).bind fun r5=>((F.L08_loop 5).bind fun r9=>((F.graph_Order r9).bind fun r13=>(if(bif bif decide (r5.2=0)then decide (r5.1=1)else false then decide (r13.2=0)else false)=true then((F.slices_Equal_int_int r13.1 [1,2,3,4,5,6,7,8]).bind fun r20=>(if r20=true then((F.L08_loop 8).bind fun r22=>((F.graph_Check r22).bind fun r26=>(F.L08_begun_j1 (decide (r26=81)))))else(F.L08_begun_j1 false)))else(F.L08_begun_j1 false)))))
theorem L08_begun_ok (r:Bool)(hF:F.L08_begun=some r):
    A.Ct Tryd.prog 6 [] [(0,.el none 0 0 A.tabF),(1,.el none 1 0 A.tabA)] [] (fun v H'=>v=.bool r∧H'=[]):=by
 refine A.Ct.enter Tryd.func6 rfl Tryd.ntmps6 rfl fun w0 F0=>?_
 rw[F.L08_begun]at hF
 refine A.xl 1 ?_
 refine A.q0 [] [] [.n] [] ?_
 refine A.dl 2 ?_
 obtain⟨r1,hv2,hF⟩:=A.bd_some hF
 refine A.AL.call 2 [] (first:=[]) (cap:=[]) cf24 (L08_loop_ok 5 (A.hasl .i64 (5) rfl) r1 hv2) .nil ?_
 rintro _ _ ⟨A3,c4,rfl,rfl⟩
 refine⟨by kernel_rfl,?_⟩
 obtain⟨r5,hv6,hF⟩:=A.bd_some hF
 refine A.AL.call 42 [] (first:=[]) (cap:=[]) cf23 (graph_Depth_ok r1 4 A3 c4 (A.hasl .i64 (4) rfl) r5 hv6) (.s 2 (.s 0 (.s 1 .nil))) ?_
 rintro _ _ ⟨rfl,rfl,hr7,hr8⟩
 refine⟨by kernel_rfl,?_⟩
 refine A.q0 [] [] [.n,.n,.n,.n,.n] [(1,.int .i64 r5.1),(2,.int .i64 r5.2)] ?_
 refine A.dl 2 ?_
 obtain⟨r9,hv10,hF⟩:=A.bd_some hF
 refine A.AL.call 82 [] (first:=[]) (cap:=[]) cf24 (L08_loop_ok 5 (A.hasl .i64 (5) rfl) r9 hv10) .nil ?_
 rintro _ _ ⟨A11,c12,rfl,rfl⟩
 refine⟨by kernel_rfl,?_⟩
 obtain⟨r13,hv14,hF⟩:=A.bd_some hF
 refine A.AL.call 122 [] (first:=[]) (cap:=[]) cf25 (graph_Order_ok r9 A11 c12 r13 hv14) (.s 82 (.s 0 (.s 1 .nil))) ?_
 rintro _ _ ⟨A15,c16,rfl,rfl,hr17⟩
 refine⟨by kernel_rfl,?_⟩
 refine A.q0 [] [] [.n,.n,.n,.n,.n] [(3,.slice A15 ((r13.1).length) c16),(4,.int .i64 r13.2)] ?_
 refine A.dx 1 ?_
 refine A.AX.join [] [0,1] (fun nl nh=>∃(y18:Bool),nl=[(0,.bool y18)]∧nh=[]∧F.L08_begun_j1 y18=some r) ?_ ?_
 ·refine A.xl 0 ?_
  refine A.q0 [] [] [.n,.n,.n,.sy .n,.sy .n,.pk,.n,.sy .n,.sy .n,.pk,.n] [(25,.bool (bif bif decide (r5.2=0)then decide (r5.1=1)else false then decide (r13.2=0)else false))] ?_
  refine A.AL.cnd (j:=25) rfl hF (fun hF=>?_) (fun hF=>?_)
  ·refine A.q0 [] [] [.on .n] [(26,.slice A15 ((r13.1).length) c16)] ?_
   refine A.AL.on (dj:=25) rfl rfl ?_
   refine A.AL.bsl 162 (ty:=(Z.Ty.int .i64)) (cs:=[.int .i64 1,.int .i64 2,.int .i64 3,.int .i64 4,.int .i64 5,.int .i64 6,.int .i64 7,.int .i64 8]) [1,2,3,4,5,6,7,8] ⟨⟨rfl,(A.hasl .i64 (1) rfl)⟩,⟨⟨rfl,(A.hasl .i64 (2) rfl)⟩,⟨⟨rfl,(A.hasl .i64 (3) rfl)⟩,⟨⟨rfl,(A.hasl .i64 (4) rfl)⟩,⟨⟨rfl,(A.hasl .i64 (5) rfl)⟩,⟨⟨rfl,(A.hasl .i64 (6) rfl)⟩,⟨⟨rfl,(A.hasl .i64 (7) rfl)⟩,⟨⟨rfl,(A.hasl .i64 (8) rfl)⟩,rfl⟩⟩⟩⟩⟩⟩⟩⟩ (fun g19=>?_) Tryd.zeroValue3 Tryd.sizeOf3
   refine A.AL.on (dj:=25) rfl rfl ?_
   obtain⟨r20,hv21,hF⟩:=A.bd_some hF
   refine A.AL.call 163 [] (first:=[]) (cap:=[]) cf26 (slices_Equal_int_int_ok r13.1 [1,2,3,4,5,6,7,8] A15 c16 (some ⟨g19,0,none⟩) 8 r20 hv21) (.o 122 (.o 162 .nil)) ?_
   rintro _ _ ⟨rfl,rfl⟩
   refine⟨by kernel_rfl,?_⟩
   refine A.q0 [] [] [.n,.n] [(30,.bool r20)] ?_
   refine A.AL.cnd (j:=30) rfl hF (fun hF=>?_) (fun hF=>?_)
   ·refine A.AL.on (dj:=30) rfl rfl ?_
    obtain⟨r22,hv23,hF⟩:=A.bd_some hF
    refine A.AL.call 203 [] (first:=[]) (cap:=[]) cf24 (L08_loop_ok 8 (A.hasl .i64 (8) rfl) r22 hv23) .nil ?_
    rintro _ _ ⟨A24,c25,rfl,rfl⟩
    refine⟨by kernel_rfl,?_⟩
    refine A.AL.on (dj:=30) rfl rfl ?_
    obtain⟨r26,hv27,hF⟩:=A.bd_some hF
    refine A.AL.call 243 [] (first:=[]) (cap:=[]) cf27 (graph_Check_ok r22 A24 c25 r26 hv27) (.s 203 (.s 0 (.s 1 .nil))) ?_
    rintro _ _ ⟨rfl,rfl,hr28⟩
    refine⟨by kernel_rfl,?_⟩
    refine A.q0 [] [] [.on .n,.n,.n] [(0,.bool (decide (r26=81)))] ?_
    refine A.AL.done ?_
    exact A.j ⟨(decide (r26=81)),rfl,rfl,hF⟩
   refine A.q0 [] [] [.off,.off,.off,.n,.n] [(0,.bool false)] ?_
   refine A.AL.done ?_
   exact A.j ⟨false,rfl,rfl,hF⟩
  refine A.q0 [] [] [.off,.off,.off,.n,.n,.off,.off,.off,.n,.n] [(0,.bool false)] ?_
  refine A.AL.done ?_
  exact A.j ⟨false,rfl,rfl,hF⟩
 rintro _ _ ⟨y18,rfl,rfl,hF⟩
 rw[F.L08_begun_j1]at hF
 obtain rfl:=Option.some.inj hF
 exact A.rt1 [] ⟨rfl,rfl⟩
def F.L08_few_l1 (a0:D23):Nat→Int→Int→Option Bool
 |0,_,_=>none
 |f+1,y5,y7=>if y7<((List.take ((min ((a0).length:Int) 99).toNat) a0).length:Int)then((A.ix (List.take ((min ((a0).length:Int) 99).toNat) a0) y7).bind fun x10=>(A.gd (Z.R64 (y5+(min ((x10.2.2.1).length:Int) 1048576))∧Z.R64 ((y5+(min ((x10.2.2.1).length:Int) 1048576))+(min (x10.2.2.2.2.1.size:Int) 1048576))∧Z.R64 (((y5+(min ((x10.2.2.1).length:Int) 1048576))+(min (x10.2.2.2.2.1.size:Int) 1048576))+(min (x10.2.2.2.1.2.2.size:Int) 1048576))) (A.gd (Z.R64 (y7+1)) ((F.L08_few_l1 a0 f) (min (((y5+(min ((x10.2.2.1).length:Int) 1048576))+(min (x10.2.2.2.2.1.size:Int) 1048576))+(min (x10.2.2.2.1.2.2.size:Int) 1048576)) 1048576) (y7+1)))))else(some (bif decide (((a0).length:Int)≤40)then decide (y5≤5000)else false))
def F.L08_few (a0:D23):Option Bool:=A.gd (0≤min ((a0).length:Int) 99∧(min ((a0).length:Int) 99).toNat≤(a0).length) (F.L08_few_l1 a0 A.FU 0 0)
theorem L08_few_ok (a0:D23)(A0_:Option Addr)(c1_:Nat)(r:Bool)(hF:F.L08_few a0=some r):
    A.Ct Tryd.prog 7 [.agg #[.slice A0_ ((a0).length) c1_]] [(0,.sh (.slice T32) [.slice A0_ (a0).length c1_] a0)] [] (fun v H'=>v=.bool r∧H'=[]):=by
 refine A.Ct.enter Tryd.func7 rfl Tryd.ntmps7 rfl fun w0 F0=>?_
 rw[F.L08_few]at hF
 refine A.xl 1 ?_
 refine A.AL.box 1 (cs:=[.slice A0_ ((a0).length) c1_]) fun g1=>?_
 refine A.q0 [] [] [.n] [] ?_
 refine A.dl 2 ?_
 refine A.q0 [] [] [.n] [(3,.int .i64 0)] ?_
 refine A.dl 3 ?_
 refine A.q0 [1] [] [.n,.b 0 0,.n,.b 0 0,.n,.n] [(7,.slice A0_ ((a0).length) c1_),(11,.int .i64 (min ((a0).length:Int) 99))] ?_
 obtain⟨hc2,hF⟩:=A.gd_some hF
 refine A.AL.cuth 0 2 (v:=(min ((a0).length:Int) 99).toNat) (Int.toNat_of_nonneg hc2.1).symm hc2.2 fun c4=>?_
 refine A.q0 [] [] [.n,.n] [(13,.int .i64 ((List.take ((min ((a0).length:Int) 99).toNat) a0).length:Int)),(14,.int .i64 0)] ?_
 refine A.dx 2 ?_
 refine A.lp_ [1,12,13] [0,1,2] (fun f nl nh=>∃(y5:Int),∃(y7:Int),nl=[(3,.int .i64 y5),(14,.int .i64 y7)]∧nh=[]∧IntKind.i64.has y5∧IntKind.i64.has y7∧F.L08_few_l1 a0 f y5 y7=some r) ⟨0,0,rfl,rfl,(A.hasl .i64 (0) rfl),(A.hasl .i64 (0) rfl),hF⟩ ?_
 rintro f9 _ _ ⟨y5,y7,rfl,rfl,hy6,hy8,hF⟩
 rcases f9 with _|f9
 ·exact A.no0 hF
 rw[F.L08_few_l1]at hF
 refine A.xl 1 ?_
 refine A.q0 [] [] [.n] [(15,.bool (decide (y7<((List.take ((min ((a0).length:Int) 99).toNat) a0).length:Int))))] ?_
 refine A.dx 2 ?_
 refine A.AX.cnd rfl hF (fun hb hF=>?_) (fun hb hF=>?_)
 ·refine A.xl 5 ?_
  obtain⟨x10,hv11,hF⟩:=A.bd_some hF
  refine A.AL.ixs 2 9 hv11 fun ho12=>?_
  intro A13 c14 b15 o16
  refine A.q0 [] [9] [.e 0 0] [(17,.agg #[.int .i64 x10.1,.int .i64 x10.2.1,.slice A13 ((x10.2.2.1).length) c14,.int .i64 x10.2.2.2.1.1,.int .i64 x10.2.2.2.1.2.1,.string x10.2.2.2.1.2.2,.string x10.2.2.2.2.1,.int .i64 x10.2.2.2.2.2.1,.int .i64 x10.2.2.2.2.2.2])] ?_
  refine A.AL.alloc 11 (cs:=[.int .i64 0,.int .i64 0,.slice none 0 0,.int .i64 0,.int .i64 0,.string (ByteArray.mk #[]),.string (ByteArray.mk #[]),.int .i64 0,.int .i64 0]) Tryd.zeroValue33 fun g17=>?_
  refine A.sw 11 [] [.int .i64 x10.1,.int .i64 x10.2.1,.slice A13 ((x10.2.2.1).length) c14,.int .i64 x10.2.2.2.1.1,.int .i64 x10.2.2.2.1.2.1,.string x10.2.2.2.1.2.2,.string x10.2.2.2.2.1,.int .i64 x10.2.2.2.2.2.1,.int .i64 x10.2.2.2.2.2.2] ?_
  refine A.dl 1 ?_
  obtain⟨hc18,hF⟩:=A.gd_some hF
  refine A.q [11] [] [.n,.n,.b 0 2,.n,.n,.n,.n,.b 0 6,.n,.n,.n,.n,.n,.b 0 5,.n,.n,.n,.n,.n] [Z.R64 (y5+(min ((x10.2.2.1).length:Int) 1048576)),Z.R64 ((y5+(min ((x10.2.2.1).length:Int) 1048576))+(min (x10.2.2.2.2.1.size:Int) 1048576)),Z.R64 (((y5+(min ((x10.2.2.1).length:Int) 1048576))+(min (x10.2.2.2.2.1.size:Int) 1048576))+(min (x10.2.2.2.1.2.2.size:Int) 1048576))] [(3,.int .i64 (min (((y5+(min ((x10.2.2.1).length:Int) 1048576))+(min (x10.2.2.2.2.1.size:Int) 1048576))+(min (x10.2.2.2.1.2.2.size:Int) 1048576)) 1048576))] hc18 ?_
  refine A.dl 2 ?_
  obtain⟨hc19,hF⟩:=A.gd_some hF
  refine A.q [] [] [.n,.n] [Z.R64 (y7+1)] [(14,.int .i64 (y7+1))] hc19 ?_
  refine A.AL.done ?_
  exact A.j ⟨_,Nat.lt_succ_self _,⟨(min (((y5+(min ((x10.2.2.1).length:Int) 1048576))+(min (x10.2.2.2.2.1.size:Int) 1048576))+(min (x10.2.2.2.1.2.2.size:Int) 1048576)) 1048576),(y7+1),rfl,rfl,(A.has_min (Z.i64_has hc18.2.2) (A.hasl .i64 (1048576) rfl)),(Z.i64_has hc19),hF⟩⟩
 refine A.xl 3 ?_
 refine A.q0 [1] [] [.n,.b 0 0,.n,.n,.n,.sy .n,.sy .n,.pk,.n] [(2,.bool (bif decide (((a0).length:Int)≤40)then decide (y5≤5000)else false))] ?_
 refine A.dx 1 ?_
 obtain rfl:=Option.some.inj hF
 exact A.rt1 [] ⟨rfl,rfl⟩
end Go.Proofs.YtpdhaldfdeamdaaDoor
end
section
set_option linter.unusedVariables false
set_option linter.unusedSimpArgs false
set_option maxRecDepth 20000
set_option maxHeartbeats 8000000
set_option synthInstance.maxSize 1000000
set_option synthInstance.maxHeartbeats 400000
namespace Go.Proofs.YtpdhaldfdeamdaaDoor
open Go.RowKit
def F.cmp_Or_int_l1 (a0:(List Int)):Nat→Int→Option Int
 |0,_=>none
 |f+1,y1=>if y1<((a0).length:Int)then((A.ix a0 y1).bind fun x4=>(if x4≠0 then(some x4)else(A.gd (Z.R64 (y1+1)) ((F.cmp_Or_int_l1 a0 f) (y1+1)))))else(some 0)
def F.cmp_Or_int (a0:(List Int)):Option Int:=F.cmp_Or_int_l1 a0 A.FU 0
theorem cmp_Or_int_ok (a0:(List Int))(A0_:Option Addr)(c1_:Nat)(r:Int)(hF:F.cmp_Or_int a0=some r):
    A.Ct Tryd.prog 36 [.slice A0_ ((a0).length) c1_] [(0,.ln (Z.Ty.int .i64) A0_ c1_ a0)] [] (fun v H'=>v=.int .i64 r∧H'=[]∧IntKind.i64.has r):=by
 refine A.Ct.enter Tryd.func36 rfl Tryd.ntmps36 rfl fun w0 F0=>?_
 rw[F.cmp_Or_int]at hF
 refine A.xl 1 ?_
 refine A.q0 [] [] [.n] [] ?_
 refine A.dl 2 ?_
 refine A.q0 [] [] [.n] [(3,.int .i64 0)] ?_
 refine A.dl 3 ?_
 refine A.q0 [] [] [.n,.n,.n] [(6,.slice A0_ ((a0).length) c1_),(7,.int .i64 ((a0).length:Int)),(8,.int .i64 0)] ?_
 refine A.dx 2 ?_
 refine A.lp_ [3,6,7] [0] (fun f nl nh=>∃(y1:Int),nl=[(8,.int .i64 y1)]∧nh=[]∧IntKind.i64.has y1∧F.cmp_Or_int_l1 a0 f y1=some r) ⟨0,rfl,rfl,(A.hasl .i64 (0) rfl),hF⟩ ?_
 rintro f3 _ _ ⟨y1,rfl,rfl,hy2,hF⟩
 rcases f3 with _|f3
 ·exact A.no0 hF
 rw[F.cmp_Or_int_l1]at hF
 refine A.xl 1 ?_
 refine A.q0 [] [] [.n] [(9,.bool (decide (y1<((a0).length:Int))))] ?_
 refine A.dx 2 ?_
 refine A.AX.cnd rfl hF (fun hb hF=>?_) (fun hb hF=>?_)
 ·refine A.xl 5 ?_
  obtain⟨x4,hv5,hF⟩:=A.bd_some hF
  refine A.AL.ixl 0 3 hv5 fun ho6=>?_
  intro b7 o8
  refine A.q0 [] [3] [.e 0 0,.n] [(5,.int .i64 x4)] ?_
  refine A.dl 2 ?_
  refine A.q0 [] [] [.n,.n,.n] [(14,.bool (decide (x4≠0)))] ?_
  refine A.dx 1 ?_
  refine A.AX.cnd rfl hF (fun hb hF=>?_) (fun hb hF=>?_)
  ·refine A.xl 1 ?_
   refine A.q0 [] [] [.n,.n] [(2,.int .i64 x4)] ?_
   refine A.dx 1 ?_
   obtain rfl:=Option.some.inj hF
   exact A.rt1 [] ⟨rfl,rfl,ho6⟩
  refine A.xl 3 ?_
  obtain⟨hc9,hF⟩:=A.gd_some hF
  refine A.q [] [] [.n,.n] [Z.R64 (y1+1)] [(8,.int .i64 (y1+1))] hc9 ?_
  refine A.AL.done ?_
  exact A.j ⟨_,Nat.lt_succ_self _,⟨(y1+1),rfl,rfl,(Z.i64_has hc9),hF⟩⟩
 refine A.xl 3 ?_
 refine A.q0 [] [] [.n,.n] [(2,.int .i64 0)] ?_
 refine A.dx 1 ?_
 obtain rfl:=Option.some.inj hF
 exact A.rt1 [] ⟨rfl,rfl,(A.hasl .i64 (0) rfl)⟩
def F.cmp_isNaN_int (a0:Int):Option Bool:=some (decide (a0≠a0))
theorem cmp_isNaN_int_ok (a0:Int)(h0_:IntKind.i64.has a0)(r:Bool)(hF:F.cmp_isNaN_int a0=some r):
    A.Ct Tryd.prog 82 [.int .i64 a0] [] [] (fun v H'=>v=.bool r∧H'=[]):=by
 refine A.Ct.enter Tryd.func82 rfl Tryd.ntmps82 rfl fun w0 F0=>?_
 rw[F.cmp_isNaN_int]at hF
 refine A.xl 1 ?_
 refine A.q0 [] [] [.n] [] ?_
 refine A.dl 2 ?_
 refine A.q0 [] [] [.n,.n,.n,.n] [(2,.bool (decide (a0≠a0)))] ?_
 refine A.dx 1 ?_
 obtain rfl:=Option.some.inj hF
 exact A.rt1 [] ⟨rfl,rfl⟩
def F.cmp_Compare_int (a0:Int)(a1:Int):Option Int:=(F.cmp_isNaN_int a0).bind fun r1=>((F.cmp_isNaN_int a1).bind fun r3=>(if r1=true then(if r3=true then(some 0)else(some (-1)))else(if r3=true then(some 1)else(if a0<a1 then(some (-1))else(if a1<a0 then(some 1)else(some 0))))))
theorem cmp_Compare_int_ok (a0:Int)(a1:Int)(h0_:IntKind.i64.has a0)(h1_:IntKind.i64.has a1)(r:Int)(hF:F.cmp_Compare_int a0 a1=some r):
    A.Ct Tryd.prog 58 [.int .i64 a0,.int .i64 a1] [] [] (fun v H'=>v=.int .i64 r∧H'=[]∧IntKind.i64.has r):=by
 refine A.Ct.enter Tryd.func58 rfl Tryd.ntmps58 rfl fun w0 F0=>?_
 rw[F.cmp_Compare_int]at hF
 refine A.xl 1 ?_
 refine A.q0 [] [] [.n] [] ?_
 refine A.dl 2 ?_
 refine A.q0 [] [] [.n] [(7,.int .i64 a0)] ?_
 obtain⟨r1,hv2,hF⟩:=A.bd_some hF
 refine A.AL.call 0 [] (first:=[]) (cap:=[]) cf82 (cmp_isNaN_int_ok a0 h0_ r1 hv2) .nil ?_
 rintro _ _ ⟨rfl,rfl⟩
 refine⟨by kernel_rfl,?_⟩
 refine A.q0 [] [] [.n] [(5,.bool r1)] ?_
 refine A.dl 2 ?_
 refine A.q0 [] [] [.n] [(9,.int .i64 a1)] ?_
 obtain⟨r3,hv4,hF⟩:=A.bd_some hF
 refine A.AL.call 40 [] (first:=[]) (cap:=[]) cf82 (cmp_isNaN_int_ok a1 h1_ r3 hv4) .nil ?_
 rintro _ _ ⟨rfl,rfl⟩
 refine⟨by kernel_rfl,?_⟩
 refine A.q0 [] [] [.n] [(6,.bool r3)] ?_
 refine A.dl 3 ?_
 refine A.q0 [] [] [.n] [(11,.bool r1)] ?_
 refine A.dx 1 ?_
 refine A.AX.cnb rfl hF (fun hb hF=>?_) (fun hb hF=>?_)
 ·refine A.xl 2 ?_
  refine A.q0 [] [] [.n] [(12,.bool r3)] ?_
  refine A.dx 1 ?_
  refine A.AX.cnb rfl hF (fun hb hF=>?_) (fun hb hF=>?_)
  ·refine A.xl 1 ?_
   refine A.q0 [] [] [.n] [(4,.int .i64 0)] ?_
   refine A.dx 1 ?_
   obtain rfl:=Option.some.inj hF
   exact A.rt1 [] ⟨rfl,rfl,(A.hasl .i64 (0) rfl)⟩
  refine A.xl 3 ?_
  refine A.q0 [] [] [.n] [(4,.int .i64 (-1))] ?_
  refine A.dx 1 ?_
  obtain rfl:=Option.some.inj hF
  exact A.rt1 [] ⟨rfl,rfl,(A.hasl .i64 (-1) rfl)⟩
 refine A.xl 4 ?_
 refine A.q0 [] [] [.n] [(13,.bool r3)] ?_
 refine A.dx 1 ?_
 refine A.AX.cnb rfl hF (fun hb hF=>?_) (fun hb hF=>?_)
 ·refine A.xl 1 ?_
  refine A.q0 [] [] [.n] [(4,.int .i64 1)] ?_
  refine A.dx 1 ?_
  obtain rfl:=Option.some.inj hF
  exact A.rt1 [] ⟨rfl,rfl,(A.hasl .i64 (1) rfl)⟩
 refine A.xl 4 ?_
 refine A.q0 [] [] [.n,.n,.n] [(16,.bool (decide (a0<a1)))] ?_
 refine A.dx 1 ?_
 refine A.AX.cnd rfl hF (fun hb hF=>?_) (fun hb hF=>?_)
 ·refine A.xl 1 ?_
  refine A.q0 [] [] [.n] [(4,.int .i64 (-1))] ?_
  refine A.dx 1 ?_
  obtain rfl:=Option.some.inj hF
  exact A.rt1 [] ⟨rfl,rfl,(A.hasl .i64 (-1) rfl)⟩
 refine A.xl 4 ?_
 refine A.q0 [] [] [.n,.n,.n] [(19,.bool (decide (a1<a0)))] ?_
 refine A.dx 1 ?_
 refine A.AX.cnd rfl hF (fun hb hF=>?_) (fun hb hF=>?_)
 ·refine A.xl 1 ?_
  refine A.q0 [] [] [.n] [(4,.int .i64 1)] ?_
  refine A.dx 1 ?_
  obtain rfl:=Option.some.inj hF
  exact A.rt1 [] ⟨rfl,rfl,(A.hasl .i64 (1) rfl)⟩
 refine A.xl 3 ?_
 refine A.q0 [] [] [.n] [(4,.int .i64 0)] ?_
 refine A.dx 1 ?_
 obtain rfl:=Option.some.inj hF
 exact A.rt1 [] ⟨rfl,rfl,(A.hasl .i64 (0) rfl)⟩
def F.graph_place (a0:D42)(a1:D42):Option Int:=(F.cmp_Compare_int a0.1 a1.1).bind fun r3=>((F.cmp_Compare_int a0.2 a1.2).bind fun r6=>((F.cmp_Or_int [r3,r6]).bind fun r10=>(some r10)))
theorem graph_place_ok (a0:D42)(a1:D42)(h0_:IntKind.i64.has a0.1)(h1_:IntKind.i64.has a0.2)(h2_:IntKind.i64.has a1.1)(h3_:IntKind.i64.has a1.2)(r:Int)(hF:F.graph_place a0 a1=some r):
    A.Ct Tryd.prog 37 [.agg #[.int .i64 a0.1,.int .i64 a0.2],.agg #[.int .i64 a1.1,.int .i64 a1.2]] [] [] (fun v H'=>v=.int .i64 r∧H'=[]∧IntKind.i64.has r):=by
 refine A.Ct.enter Tryd.func37 rfl Tryd.ntmps37 rfl fun w0 F0=>?_
 rw[F.graph_place]at hF
 refine A.xl 1 ?_
 refine A.AL.box 0 (cs:=[.int .i64 a0.1,.int .i64 a0.2]) fun g1=>?_
 refine A.AL.box 1 (cs:=[.int .i64 a1.1,.int .i64 a1.2]) fun g2=>?_
 refine A.q0 [] [] [.n] [] ?_
 refine A.dx 2 ?_
 refine A.AX.dr mixed 13 13 (A.mb 13 0) ?_
 refine A.hq A.pb [] [0,1] [0,1] [] (A.mb 13 495) 5 [(0,.n),(2,.n),(5,.n),(7,.n),(1,.b 0 0),(3,.b 1 0),(6,.b 0 1),(8,.b 1 1)] [(6,.int .i64 a0.1),(8,.int .i64 a1.1),(11,.int .i64 a0.2),(13,.int .i64 a1.2)] ?_
 refine A.AH.one 4 ?_
 obtain⟨r3,hv4,hF⟩:=A.bd_some hF
 refine A.AL.call 2 [] (first:=[]) (cap:=[]) cf58 (cmp_Compare_int_ok a0.1 a1.1 h0_ h2_ r3 hv4) .nil ?_
 rintro _ _ ⟨rfl,rfl,hr5⟩
 refine⟨by kernel_rfl,?_⟩
 refine A.AH.nx (A.mb 13 511) [0,1] ?_
 refine A.AH.one 9 ?_
 obtain⟨r6,hv7,hF⟩:=A.bd_some hF
 refine A.AL.call 42 [] (first:=[]) (cap:=[]) cf58 (cmp_Compare_int_ok a0.2 a1.2 h1_ h3_ r6 hv7) .nil ?_
 rintro _ _ ⟨rfl,rfl,hr8⟩
 refine⟨by kernel_rfl,?_⟩
 refine A.AH.nx (A.mb 13 1023) [0,1] ?_
 refine A.AH.one 10 ?_
 refine A.AL.bsl 82 (ty:=(Z.Ty.int .i64)) (cs:=[.int .i64 r3,.int .i64 r6]) [r3,r6] ⟨⟨rfl,hr5⟩,⟨⟨rfl,hr8⟩,rfl⟩⟩ (fun g9=>?_) Tryd.zeroValue3 Tryd.sizeOf3
 refine A.AH.nx (A.mb 13 2047) [0,1] ?_
 refine A.AH.one 11 ?_
 obtain⟨r10,hv11,hF⟩:=A.bd_some hF
 refine A.AL.call 83 [] (first:=[]) (cap:=[]) cf36 (cmp_Or_int_ok [r3,r6] (some ⟨g9,0,none⟩) 2 r10 hv11) (.o 82 .nil) ?_
 rintro _ _ ⟨rfl,rfl,hr12⟩
 refine⟨by kernel_rfl,?_⟩
 refine A.AH.nx (A.mb 13 4095) [0,1] ?_
 refine A.hq A.pb [0,1] [0,1,82] [] [] (A.mb 13 8191) 0 [(12,.n)] [(4,.int .i64 r10)] ?_
 refine A.AH.done ?_
 refine A.ex 1 ?_
 obtain rfl:=Option.some.inj hF
 exact A.rt1 [] ⟨rfl,rfl,hr12⟩
def F.graph_Edges_1 (a0:D46)(a1:D46):Option Int:=(F.graph_place (a0.1.1,a0.1.2) (a1.1.1,a1.1.2)).bind fun r3=>((F.graph_place (a0.2.1.1,a0.2.1.2) (a1.2.1.1,a1.2.1.2)).bind fun r6=>((F.cmp_Or_int [r3,r6]).bind fun r10=>(some r10)))
theorem graph_Edges_1_ok (a0:D46)(a1:D46)(h0_:IntKind.i64.has a0.1.1)(h1_:IntKind.i64.has a0.1.2)(h2_:IntKind.i64.has a0.2.1.1)(h3_:IntKind.i64.has a0.2.1.2)(h4_:IntKind.i64.has a0.2.2.1)(h5_:IntKind.i64.has a0.2.2.2.1)(h6_:IntKind.i64.has a0.2.2.2.2.1)(h7_:IntKind.i64.has a0.2.2.2.2.2.1)(h8_:IntKind.i64.has a0.2.2.2.2.2.2.1)(h9_:IntKind.i64.has a0.2.2.2.2.2.2.2.1)(h10_:IntKind.i64.has a0.2.2.2.2.2.2.2.2.1)(h11_:IntKind.i64.has a0.2.2.2.2.2.2.2.2.2)(h12_:IntKind.i64.has a1.1.1)(h13_:IntKind.i64.has a1.1.2)(h14_:IntKind.i64.has a1.2.1.1)(h15_:IntKind.i64.has a1.2.1.2)(h16_:IntKind.i64.has a1.2.2.1)(h17_:IntKind.i64.has a1.2.2.2.1)(h18_:IntKind.i64.has a1.2.2.2.2.1)(h19_:IntKind.i64.has a1.2.2.2.2.2.1)(h20_:IntKind.i64.has a1.2.2.2.2.2.2.1)(h21_:IntKind.i64.has a1.2.2.2.2.2.2.2.1)(h22_:IntKind.i64.has a1.2.2.2.2.2.2.2.2.1)(h23_:IntKind.i64.has a1.2.2.2.2.2.2.2.2.2)(r:Int)(hF:F.graph_Edges_1 a0 a1=some r):
    A.Ct Tryd.prog 35 [.agg #[.int .i64 a0.1.1,.int .i64 a0.1.2,.int .i64 a0.2.1.1,.int .i64 a0.2.1.2,.int .i64 a0.2.2.1,.int .i64 a0.2.2.2.1,.int .i64 a0.2.2.2.2.1,.int .i64 a0.2.2.2.2.2.1,.int .i64 a0.2.2.2.2.2.2.1,.int .i64 a0.2.2.2.2.2.2.2.1,.int .i64 a0.2.2.2.2.2.2.2.2.1,.int .i64 a0.2.2.2.2.2.2.2.2.2],.agg #[.int .i64 a1.1.1,.int .i64 a1.1.2,.int .i64 a1.2.1.1,.int .i64 a1.2.1.2,.int .i64 a1.2.2.1,.int .i64 a1.2.2.2.1,.int .i64 a1.2.2.2.2.1,.int .i64 a1.2.2.2.2.2.1,.int .i64 a1.2.2.2.2.2.2.1,.int .i64 a1.2.2.2.2.2.2.2.1,.int .i64 a1.2.2.2.2.2.2.2.2.1,.int .i64 a1.2.2.2.2.2.2.2.2.2]] [] [] (fun v H'=>v=.int .i64 r∧H'=[]∧IntKind.i64.has r):=by
 refine A.Ct.enter Tryd.func35 rfl Tryd.ntmps35 rfl fun w0 F0=>?_
 rw[F.graph_Edges_1]at hF
 refine A.xl 1 ?_
 refine A.AL.box 0 (cs:=[.int .i64 a0.1.1,.int .i64 a0.1.2,.int .i64 a0.2.1.1,.int .i64 a0.2.1.2,.int .i64 a0.2.2.1,.int .i64 a0.2.2.2.1,.int .i64 a0.2.2.2.2.1,.int .i64 a0.2.2.2.2.2.1,.int .i64 a0.2.2.2.2.2.2.1,.int .i64 a0.2.2.2.2.2.2.2.1,.int .i64 a0.2.2.2.2.2.2.2.2.1,.int .i64 a0.2.2.2.2.2.2.2.2.2]) fun g1=>?_
 refine A.AL.box 1 (cs:=[.int .i64 a1.1.1,.int .i64 a1.1.2,.int .i64 a1.2.1.1,.int .i64 a1.2.1.2,.int .i64 a1.2.2.1,.int .i64 a1.2.2.2.1,.int .i64 a1.2.2.2.2.1,.int .i64 a1.2.2.2.2.2.1,.int .i64 a1.2.2.2.2.2.2.1,.int .i64 a1.2.2.2.2.2.2.2.1,.int .i64 a1.2.2.2.2.2.2.2.2.1,.int .i64 a1.2.2.2.2.2.2.2.2.2]) fun g2=>?_
 refine A.q0 [] [] [.n] [] ?_
 refine A.dx 2 ?_
 refine A.AX.dr mixed 13 13 (A.mb 13 0) ?_
 refine A.hq A.pb [] [0,1] [0,1] [] (A.mb 13 495) 5 [(0,.n),(2,.n),(5,.n),(7,.n),(1,.b 0 0),(3,.b 1 0),(6,.b 0 2),(8,.b 1 2)] [(6,.agg #[.int .i64 a0.1.1,.int .i64 a0.1.2]),(8,.agg #[.int .i64 a1.1.1,.int .i64 a1.1.2]),(11,.agg #[.int .i64 a0.2.1.1,.int .i64 a0.2.1.2]),(13,.agg #[.int .i64 a1.2.1.1,.int .i64 a1.2.1.2])] ?_
 refine A.AH.one 4 ?_
 obtain⟨r3,hv4,hF⟩:=A.bd_some hF
 refine A.AL.call 2 [] (first:=[]) (cap:=[]) cf37 (graph_place_ok (a0.1.1,a0.1.2) (a1.1.1,a1.1.2) h0_ h1_ h12_ h13_ r3 hv4) .nil ?_
 rintro _ _ ⟨rfl,rfl,hr5⟩
 refine⟨by kernel_rfl,?_⟩
 refine A.AH.nx (A.mb 13 511) [0,1] ?_
 refine A.AH.one 9 ?_
 obtain⟨r6,hv7,hF⟩:=A.bd_some hF
 refine A.AL.call 42 [] (first:=[]) (cap:=[]) cf37 (graph_place_ok (a0.2.1.1,a0.2.1.2) (a1.2.1.1,a1.2.1.2) h2_ h3_ h14_ h15_ r6 hv7) .nil ?_
 rintro _ _ ⟨rfl,rfl,hr8⟩
 refine⟨by kernel_rfl,?_⟩
 refine A.AH.nx (A.mb 13 1023) [0,1] ?_
 refine A.AH.one 10 ?_
 refine A.AL.bsl 82 (ty:=(Z.Ty.int .i64)) (cs:=[.int .i64 r3,.int .i64 r6]) [r3,r6] ⟨⟨rfl,hr5⟩,⟨⟨rfl,hr8⟩,rfl⟩⟩ (fun g9=>?_) Tryd.zeroValue3 Tryd.sizeOf3
 refine A.AH.nx (A.mb 13 2047) [0,1] ?_
 refine A.AH.one 11 ?_
 obtain⟨r10,hv11,hF⟩:=A.bd_some hF
 refine A.AL.call 83 [] (first:=[]) (cap:=[]) cf36 (cmp_Or_int_ok [r3,r6] (some ⟨g9,0,none⟩) 2 r10 hv11) (.o 82 .nil) ?_
 rintro _ _ ⟨rfl,rfl,hr12⟩
 refine⟨by kernel_rfl,?_⟩
 refine A.AH.nx (A.mb 13 4095) [0,1] ?_
 refine A.hq A.pb [0,1] [0,1,82] [] [] (A.mb 13 8191) 0 [(12,.n)] [(4,.int .i64 r10)] ?_
 refine A.AH.done ?_
 refine A.ex 1 ?_
 obtain rfl:=Option.some.inj hF
 exact A.rt1 [] ⟨rfl,rfl,hr12⟩
end Go.Proofs.YtpdhaldfdeamdaaDoor
end
section
set_option linter.unusedVariables false
set_option linter.unusedSimpArgs false
set_option maxRecDepth 20000
set_option maxHeartbeats 8000000
set_option synthInstance.maxSize 1000000
set_option synthInstance.maxHeartbeats 400000
namespace Go.Proofs.YtpdhaldfdeamdaaDoor
open Go.RowKit
def F.slices_insertionSortCmpFunc_api_Edge_graph_Edges_1_j1 (k3:Int→Option Unit)(a0:(List D46))(y2:Int)(y6:Bool):Option Unit:=if y6=true then(A.gd (Z.R64 (y2-1)∧Z.R64 (y2-1)) ((A.ix a0 (y2-1)).bind fun x9=>((A.ix a0 y2).bind fun x15=>((A.ix a0 y2).bind fun x21=>(none)))))else(A.gd (Z.R64 (y2+1)) (k3 (y2+1)))
def F.slices_insertionSortCmpFunc_api_Edge_graph_Edges_1_l2 (k3:Int→Option Unit)(a0:(List D46))(a1:Int)(y2:Int):Nat→Option Unit
 |0=>none
 |f+1=>if a1<y2 then(A.gd (Z.R64 (y2-1)) ((A.ix a0 y2).bind fun x29=>((A.ix a0 (y2-1)).bind fun x35=>((F.graph_Edges_1 ((x29.1.1,x29.1.2),(x29.2.1.1,x29.2.1.2),(x29.2.2.1,x29.2.2.2.1,x29.2.2.2.2.1,x29.2.2.2.2.2.1,(x29.2.2.2.2.2.2.1,x29.2.2.2.2.2.2.2.1,x29.2.2.2.2.2.2.2.2.1,x29.2.2.2.2.2.2.2.2.2))) ((x35.1.1,x35.1.2),(x35.2.1.1,x35.2.1.2),(x35.2.2.1,x35.2.2.2.1,x35.2.2.2.2.1,x35.2.2.2.2.2.1,(x35.2.2.2.2.2.2.1,x35.2.2.2.2.2.2.2.1,x35.2.2.2.2.2.2.2.2.1,x35.2.2.2.2.2.2.2.2.2)))).bind fun r41=>(F.slices_insertionSortCmpFunc_api_Edge_graph_Edges_1_j1 k3 a0 y2 (decide (r41<0)))))))else(F.slices_insertionSortCmpFunc_api_Edge_graph_Edges_1_j1 k3 a0 y2 false)
def F.slices_insertionSortCmpFunc_api_Edge_graph_Edges_1_l3 (a0:(List D46))(a1:Int)(a2:Int):Nat→Int→Option Unit
 |0,_=>none
 |f+1,y2=>if y2<a2 then(F.slices_insertionSortCmpFunc_api_Edge_graph_Edges_1_l2 (F.slices_insertionSortCmpFunc_api_Edge_graph_Edges_1_l3 a0 a1 a2 f) a0 a1 y2 A.FU)else(some ())
def F.slices_insertionSortCmpFunc_api_Edge_graph_Edges_1 (a0:(List D46))(a1:Int)(a2:Int):Option Unit:=A.gd (Z.R64 (a1+1)) (F.slices_insertionSortCmpFunc_api_Edge_graph_Edges_1_l3 a0 a1 a2 A.FU (a1+1))
theorem slices_insertionSortCmpFunc_api_Edge_graph_Edges_1_ok (a0:(List D46))(a1:Int)(a2:Int)(A0_:Option Addr)(c1_:Nat)(h2_:IntKind.i64.has a1)(h3_:IntKind.i64.has a2)(r:Unit)(hF:F.slices_insertionSortCmpFunc_api_Edge_graph_Edges_1 a0 a1 a2=some r):
    A.Ct Tryd.prog 80 [.slice A0_ ((a0).length) c1_,.int .i64 a1,.int .i64 a2,.func (.func 35) #[] #[]] [(0,.ln T46 A0_ c1_ a0)] [] (fun v H'=>v=.tuple #[]∧H'=[]):=by
 refine A.Ct.enter Tryd.func80 rfl Tryd.ntmps80 rfl fun w0 F0=>?_
 rw[F.slices_insertionSortCmpFunc_api_Edge_graph_Edges_1]at hF
 refine A.xl 1 ?_
 obtain⟨hc1,hF⟩:=A.gd_some hF
 refine A.q [] [] [.n,.n,.n] [Z.R64 (a1+1)] [(8,.int .i64 (a1+1))] hc1 ?_
 refine A.dx 2 ?_
 refine A.lp_ [0,1,2,3] [0] (fun f nl nh=>∃(y2:Int),nl=[(8,.int .i64 y2)]∧nh=[]∧IntKind.i64.has y2∧F.slices_insertionSortCmpFunc_api_Edge_graph_Edges_1_l3 a0 a1 a2 f y2=some r) ⟨(a1+1),rfl,rfl,(Z.i64_has hc1),hF⟩ ?_
 rintro f4 _ _ ⟨y2,rfl,rfl,hy3,hF⟩
 rcases f4 with _|f4
 ·exact A.no0 hF
 rw[F.slices_insertionSortCmpFunc_api_Edge_graph_Edges_1_l3]at hF
 refine A.xl 2 ?_
 refine A.q0 [] [] [.n,.n,.n] [(14,.bool (decide (y2<a2)))] ?_
 refine A.dx 1 ?_
 refine A.AX.cnd rfl hF (fun hb hF=>?_) (fun hb hF=>?_)
 ·refine A.xl 5 ?_
  refine A.q0 [] [] [.n,.n] [(9,.int .i64 y2)] ?_
  refine A.dx 2 ?_
  refine A.lp_ [0,1,2,3,8,9] [0] (fun f nl nh=>nl=[]∧nh=[]∧F.slices_insertionSortCmpFunc_api_Edge_graph_Edges_1_l2 (F.slices_insertionSortCmpFunc_api_Edge_graph_Edges_1_l3 a0 a1 a2 f4) a0 a1 y2 f=some r) ⟨rfl,rfl,hF⟩ ?_
  rintro f5 _ _ ⟨rfl,rfl,hF⟩
  rcases f5 with _|f5
  ·exact A.no0 hF
  rw[F.slices_insertionSortCmpFunc_api_Edge_graph_Edges_1_l2]at hF
  refine A.xx 1 ?_
  refine A.AX.join [0,1,2,3,8,9] [0] (fun nl nh=>∃(y6:Bool),nl=[(34,.bool y6)]∧nh=[]∧F.slices_insertionSortCmpFunc_api_Edge_graph_Edges_1_j1 (F.slices_insertionSortCmpFunc_api_Edge_graph_Edges_1_l3 a0 a1 a2 f4) a0 y2 y6=some r) ?_ ?_
  ·refine A.AX.dr mixed 17 17 (A.mb 17 0) ?_
   refine A.hq A.pb [] [0] [] [] (A.mb 17 15) 13 [(0,.n),(1,.n),(2,.n),(3,.n)] [(21,.bool (decide (a1<y2)))] ?_
   refine A.AH.cnp (j:=21) rfl hF (fun hb hF=>?_) (fun hb hF=>?_)
   ·obtain⟨hc28,hF⟩:=A.gd_some hF
    refine A.AH.q A.pb [0] [0] [] [] (A.mb 17 3711) 7 [(4,.on .n),(5,.on .n),(6,.on .n),(9,.on .n),(10,.on .n),(11,.on .n)] [22,23,24,27,29] [Z.R64 (y2-1)] [(22,.func (.func 35) #[] #[]),(23,.slice A0_ ((a0).length) c1_),(24,.int .i64 y2),(27,.slice A0_ ((a0).length) c1_),(29,.int .i64 (y2-1))] hc28 ?_
    obtain⟨x29,hv30,hF⟩:=A.bd_some hF
    refine A.AH.pkl 0 226 hv30 fun ho31=>?_
    intro b33 o34 hA32
    refine A.AH.vg A.pb [0] [0,226] 7 (A.mb 17 3839) (dj:=21) rfl (fun a w hf hh=>A.r_ixa (t:=T46) hv30 hA32 hf) ?_
    refine A.hq A.pb [0,226] [0,226] [] [226] (A.mb 17 4095) 5 [(8,.on (.e 0 0))] [(26,.agg #[.int .i64 x29.1.1,.int .i64 x29.1.2,.int .i64 x29.2.1.1,.int .i64 x29.2.1.2,.int .i64 x29.2.2.1,.int .i64 x29.2.2.2.1,.int .i64 x29.2.2.2.2.1,.int .i64 x29.2.2.2.2.2.1,.int .i64 x29.2.2.2.2.2.2.1,.int .i64 x29.2.2.2.2.2.2.2.1,.int .i64 x29.2.2.2.2.2.2.2.2.1,.int .i64 x29.2.2.2.2.2.2.2.2.2])] ?_
    obtain⟨x35,hv36,hF⟩:=A.bd_some hF
    refine A.AH.pkl 0 227 hv36 fun ho37=>?_
    intro b39 o40 hA38
    refine A.AH.vg A.pb [0,226] [0,226,227] 12 (A.mb 17 8191) (dj:=21) rfl (fun a w hf hh=>A.r_ixa (t:=T46) hv36 hA38 hf) ?_
    refine A.hq A.pb [0,226,227] [0,226,227] [] [227] (A.mb 17 16383) 3 [(13,.on (.e 0 0))] [(31,.agg #[.int .i64 x35.1.1,.int .i64 x35.1.2,.int .i64 x35.2.1.1,.int .i64 x35.2.1.2,.int .i64 x35.2.2.1,.int .i64 x35.2.2.2.1,.int .i64 x35.2.2.2.2.1,.int .i64 x35.2.2.2.2.2.1,.int .i64 x35.2.2.2.2.2.2.1,.int .i64 x35.2.2.2.2.2.2.2.1,.int .i64 x35.2.2.2.2.2.2.2.2.1,.int .i64 x35.2.2.2.2.2.2.2.2.2])] ?_
    refine A.AH.one 14 ?_
    refine A.AL.on (dj:=21) rfl rfl ?_
    obtain⟨r41,hv42,hF⟩:=A.bd_some hF
    refine A.AL.call 228 [] (first:=[]) (cap:=[]) cf35 (graph_Edges_1_ok ((x29.1.1,x29.1.2),(x29.2.1.1,x29.2.1.2),(x29.2.2.1,x29.2.2.2.1,x29.2.2.2.2.1,x29.2.2.2.2.2.1,(x29.2.2.2.2.2.2.1,x29.2.2.2.2.2.2.2.1,x29.2.2.2.2.2.2.2.2.1,x29.2.2.2.2.2.2.2.2.2))) ((x35.1.1,x35.1.2),(x35.2.1.1,x35.2.1.2),(x35.2.2.1,x35.2.2.2.1,x35.2.2.2.2.1,x35.2.2.2.2.2.1,(x35.2.2.2.2.2.2.1,x35.2.2.2.2.2.2.2.1,x35.2.2.2.2.2.2.2.2.1,x35.2.2.2.2.2.2.2.2.2))) ho31.1.1 ho31.1.2 ho31.2.1.1 ho31.2.1.2 ho31.2.2.1 ho31.2.2.2.1 ho31.2.2.2.2.1 ho31.2.2.2.2.2.1 ho31.2.2.2.2.2.2.1 ho31.2.2.2.2.2.2.2.1 ho31.2.2.2.2.2.2.2.2.1 ho31.2.2.2.2.2.2.2.2.2 ho37.1.1 ho37.1.2 ho37.2.1.1 ho37.2.1.2 ho37.2.2.1 ho37.2.2.2.1 ho37.2.2.2.2.1 ho37.2.2.2.2.2.1 ho37.2.2.2.2.2.2.1 ho37.2.2.2.2.2.2.2.1 ho37.2.2.2.2.2.2.2.2.1 ho37.2.2.2.2.2.2.2.2.2 r41 hv42) .nil ?_
    rintro _ _ ⟨rfl,rfl,hr43⟩
    refine⟨by kernel_rfl,?_⟩
    refine A.AH.nx (A.mb 17 32767) [0,226,227] ?_
    refine A.hq A.pb [0,226,227] [0,226,227] [] [] (A.mb 17 131071) 0 [(15,.on .n),(16,.n)] [(34,.bool (decide (r41<0)))] ?_
    refine A.AH.done ?_
    exact A.j ⟨(decide (r41<0)),rfl,rfl,hF⟩
   refine A.hq A.pb [0] [0] [] [] (A.mb 17 131071) 0 [(4,.off),(5,.off),(6,.off),(9,.off),(10,.off),(7,.off),(11,.off),(8,.off),(12,.off),(13,.off),(14,.off),(15,.off),(16,.n)] [(34,.bool false)] ?_
   refine A.AH.done ?_
   exact A.j ⟨false,rfl,rfl,hF⟩
  rintro _ _ ⟨y6,rfl,rfl,hF⟩
  rw[F.slices_insertionSortCmpFunc_api_Edge_graph_Edges_1_j1]at hF
  refine A.AX.cnb rfl hF (fun hb hF=>?_) (fun hb hF=>?_)
  ·refine A.xx 4 ?_
   refine A.AX.dr mixed 17 18 (A.mb 18 0) ?_
   obtain⟨hc8,hF⟩:=A.gd_some hF
   refine A.AH.q A.pb [] [] [] [] (A.mb 18 3327) 8 [(0,.n),(1,.n),(2,.n),(3,.n),(5,.n),(6,.n),(10,.n),(11,.n),(4,.n),(7,.n)] [37,38,39,42,47,48,41,44] [Z.R64 (y2-1),Z.R64 (y2-1)] [(37,.slice A0_ ((a0).length) c1_),(38,.int .i64 y2),(39,.slice A0_ ((a0).length) c1_),(42,.slice A0_ ((a0).length) c1_),(47,.slice A0_ ((a0).length) c1_),(48,.int .i64 y2),(41,.int .i64 (y2-1)),(44,.int .i64 (y2-1))] hc8 ?_
   obtain⟨x9,hv10,hF⟩:=A.bd_some hF
   refine A.AH.pkl 0 268 hv10 fun ho11=>?_
   intro b13 o14 hA12
   refine A.AH.v A.pb [] [268] 8 (A.mb 18 3583) rfl (fun a w hf hh=>A.r_ixa (t:=T46) hv10 hA12 hf) ?_
   refine A.hq A.pb [268] [268] [] [268] (A.mb 18 4095) 6 [(9,.e 0 0)] [(46,.agg #[.int .i64 x9.1.1,.int .i64 x9.1.2,.int .i64 x9.2.1.1,.int .i64 x9.2.1.2,.int .i64 x9.2.2.1,.int .i64 x9.2.2.2.1,.int .i64 x9.2.2.2.2.1,.int .i64 x9.2.2.2.2.2.1,.int .i64 x9.2.2.2.2.2.2.1,.int .i64 x9.2.2.2.2.2.2.2.1,.int .i64 x9.2.2.2.2.2.2.2.2.1,.int .i64 x9.2.2.2.2.2.2.2.2.2])] ?_
   obtain⟨x15,hv16,hF⟩:=A.bd_some hF
   refine A.AH.pkl 0 269 hv16 fun ho17=>?_
   intro b19 o20 hA18
   refine A.AH.v A.pb [268] [268,269] 12 (A.mb 18 8191) rfl (fun a w hf hh=>A.r_ixa (t:=T46) hv16 hA18 hf) ?_
   refine A.hq A.pb [268,269] [268,269] [] [269] (A.mb 18 16383) 4 [(13,.e 0 0)] [(50,.agg #[.int .i64 x15.1.1,.int .i64 x15.1.2,.int .i64 x15.2.1.1,.int .i64 x15.2.1.2,.int .i64 x15.2.2.1,.int .i64 x15.2.2.2.1,.int .i64 x15.2.2.2.2.1,.int .i64 x15.2.2.2.2.2.1,.int .i64 x15.2.2.2.2.2.2.1,.int .i64 x15.2.2.2.2.2.2.2.1,.int .i64 x15.2.2.2.2.2.2.2.2.1,.int .i64 x15.2.2.2.2.2.2.2.2.2])] ?_
   obtain⟨x21,hv22,hF⟩:=A.bd_some hF
   refine A.AH.pkl 0 270 hv22 fun ho23=>?_
   intro b25 o26 hA24
   refine A.AH.v A.pb [268,269] [0,268,269] 14 (A.mb 18 32767) rfl (fun a w hf hh=>A.r_ixa (t:=T46) hv22 hA24 hf) ?_
   refine A.AH.one 15 ?_
   exact A.no0 hF
  refine A.xl 3 ?_
  obtain⟨hc27,hF⟩:=A.gd_some hF
  refine A.q [] [] [.n,.n,.n] [Z.R64 (y2+1)] [(8,.int .i64 (y2+1))] hc27 ?_
  refine A.AL.done ?_
  exact A.j ⟨_,Nat.lt_succ_self _,⟨(y2+1),rfl,rfl,(Z.i64_has hc27),hF⟩⟩
 refine A.xe 1 ?_
 obtain rfl:=Option.some.inj hF
 exact A.AE.ret [] (.tuple #[]) (fun a w hf hh=>Z.res0 rfl w) (⟨rfl,rfl⟩)
def F.slices_symMergeCmpFunc_api_Edge_graph_Edges_1_l1 (a0:(List D46))(a1:Int)(y2:Int):Nat→Option Unit
 |0=>none
 |f+1=>A.gd (Z.R64 (y2-1)) (if a1<y2-1 then(A.gd (Z.R64 (a1+1)∧Z.R64 (a1+1)) ((A.ix a0 (a1+1)).bind fun x28=>((A.ix a0 a1).bind fun x34=>((A.ix a0 a1).bind fun x40=>(none)))))else(some ()))
def F.slices_symMergeCmpFunc_api_Edge_graph_Edges_1_l2 (a0:(List D46))(a1:Int):Nat→Int→Int→Option Unit
 |0,_,_=>none
 |f+1,y2,y4=>if y2<y4 then(A.gd (Z.R64 (y2+y4)∧(0≤(1:Int)∧(1:Int)≤64)∧Z.R64 ((IntKind.u64.wrap (y2+y4)) / 2^((1:Int)).toNat)) ((A.ix a0 ((IntKind.u64.wrap (y2+y4)) / 2^((1:Int)).toNat)).bind fun x8=>((A.ix a0 a1).bind fun x14=>((F.graph_Edges_1 ((x8.1.1,x8.1.2),(x8.2.1.1,x8.2.1.2),(x8.2.2.1,x8.2.2.2.1,x8.2.2.2.2.1,x8.2.2.2.2.2.1,(x8.2.2.2.2.2.2.1,x8.2.2.2.2.2.2.2.1,x8.2.2.2.2.2.2.2.2.1,x8.2.2.2.2.2.2.2.2.2))) ((x14.1.1,x14.1.2),(x14.2.1.1,x14.2.1.2),(x14.2.2.1,x14.2.2.2.1,x14.2.2.2.2.1,x14.2.2.2.2.2.1,(x14.2.2.2.2.2.2.1,x14.2.2.2.2.2.2.2.1,x14.2.2.2.2.2.2.2.2.1,x14.2.2.2.2.2.2.2.2.2)))).bind fun r20=>(if r20<0 then(A.gd (Z.R64 (((IntKind.u64.wrap (y2+y4)) / 2^((1:Int)).toNat)+1)) ((F.slices_symMergeCmpFunc_api_Edge_graph_Edges_1_l2 a0 a1 f) (((IntKind.u64.wrap (y2+y4)) / 2^((1:Int)).toNat)+1) y4))else((F.slices_symMergeCmpFunc_api_Edge_graph_Edges_1_l2 a0 a1 f) y2 ((IntKind.u64.wrap (y2+y4)) / 2^((1:Int)).toNat)))))))else(F.slices_symMergeCmpFunc_api_Edge_graph_Edges_1_l1 a0 a1 y2 A.FU)
def F.slices_symMergeCmpFunc_api_Edge_graph_Edges_1_l3 (a0:(List D46))(a2:Int)(y47:Int):Nat→Option Unit
 |0=>none
 |f+1=>if y47<a2 then(A.gd (Z.R64 (a2-1)∧Z.R64 (a2-1)) ((A.ix a0 (a2-1)).bind fun x72=>((A.ix a0 a2).bind fun x78=>((A.ix a0 a2).bind fun x84=>(none)))))else(some ())
def F.slices_symMergeCmpFunc_api_Edge_graph_Edges_1_l4 (a0:(List D46))(a2:Int):Nat→Int→Int→Option Unit
 |0,_,_=>none
 |f+1,y47,y49=>if y47<y49 then(A.gd (Z.R64 (y47+y49)∧(0≤(1:Int)∧(1:Int)≤64)∧Z.R64 ((IntKind.u64.wrap (y47+y49)) / 2^((1:Int)).toNat)) ((A.ix a0 a2).bind fun x53=>((A.ix a0 ((IntKind.u64.wrap (y47+y49)) / 2^((1:Int)).toNat)).bind fun x59=>((F.graph_Edges_1 ((x53.1.1,x53.1.2),(x53.2.1.1,x53.2.1.2),(x53.2.2.1,x53.2.2.2.1,x53.2.2.2.2.1,x53.2.2.2.2.2.1,(x53.2.2.2.2.2.2.1,x53.2.2.2.2.2.2.2.1,x53.2.2.2.2.2.2.2.2.1,x53.2.2.2.2.2.2.2.2.2))) ((x59.1.1,x59.1.2),(x59.2.1.1,x59.2.1.2),(x59.2.2.1,x59.2.2.2.1,x59.2.2.2.2.1,x59.2.2.2.2.2.1,(x59.2.2.2.2.2.2.1,x59.2.2.2.2.2.2.2.1,x59.2.2.2.2.2.2.2.2.1,x59.2.2.2.2.2.2.2.2.2)))).bind fun r65=>(if(!(decide (r65<0)))=true then(A.gd (Z.R64 (((IntKind.u64.wrap (y47+y49)) / 2^((1:Int)).toNat)+1)) ((F.slices_symMergeCmpFunc_api_Edge_graph_Edges_1_l4 a0 a2 f) (((IntKind.u64.wrap (y47+y49)) / 2^((1:Int)).toNat)+1) y49))else((F.slices_symMergeCmpFunc_api_Edge_graph_Edges_1_l4 a0 a2 f) y47 ((IntKind.u64.wrap (y47+y49)) / 2^((1:Int)).toNat)))))))else(F.slices_symMergeCmpFunc_api_Edge_graph_Edges_1_l3 a0 a2 y47 A.FU)
def F.slices_symMergeCmpFunc_api_Edge_graph_Edges_1_j5 (a0:(List D46))(a1:Int)(a2:Int)(a3:Int)(rc:(List D46)→Int→Int→Int→Option Unit)(y97:Int):Option Unit:=if(bif decide ((IntKind.u64.wrap (a1+a3)) / 2^((1:Int)).toNat <(((IntKind.u64.wrap (a1+a3)) / 2^((1:Int)).toNat)+a2)-y97)then decide ((((IntKind.u64.wrap (a1+a3)) / 2^((1:Int)).toNat)+a2)-y97<a3)else false)=true then((rc a0 ((IntKind.u64.wrap (a1+a3)) / 2^((1:Int)).toNat) ((((IntKind.u64.wrap (a1+a3)) / 2^((1:Int)).toNat)+a2)-y97) a3).bind fun r121=>(some ()))else(some ())
def F.slices_symMergeCmpFunc_api_Edge_graph_Edges_1_l6 (a0:(List D46))(a1:Int)(a2:Int)(a3:Int)(rc:(List D46)→Int→Int→Int→Option Unit):Nat→Int→Int→Option Unit
 |0,_,_=>none
 |f+1,y97,y99=>if y97<y99 then(A.gd (Z.R64 (y97+y99)∧(0≤(1:Int)∧(1:Int)≤64)∧Z.R64 ((IntKind.u64.wrap (y97+y99)) / 2^((1:Int)).toNat)) (A.gd (Z.R64 (((((IntKind.u64.wrap (a1+a3)) / 2^((1:Int)).toNat)+a2)-1)-((IntKind.u64.wrap (y97+y99)) / 2^((1:Int)).toNat))) ((A.ix a0 (((((IntKind.u64.wrap (a1+a3)) / 2^((1:Int)).toNat)+a2)-1)-((IntKind.u64.wrap (y97+y99)) / 2^((1:Int)).toNat))).bind fun x104=>((A.ix a0 ((IntKind.u64.wrap (y97+y99)) / 2^((1:Int)).toNat)).bind fun x110=>((F.graph_Edges_1 ((x104.1.1,x104.1.2),(x104.2.1.1,x104.2.1.2),(x104.2.2.1,x104.2.2.2.1,x104.2.2.2.2.1,x104.2.2.2.2.2.1,(x104.2.2.2.2.2.2.1,x104.2.2.2.2.2.2.2.1,x104.2.2.2.2.2.2.2.2.1,x104.2.2.2.2.2.2.2.2.2))) ((x110.1.1,x110.1.2),(x110.2.1.1,x110.2.1.2),(x110.2.2.1,x110.2.2.2.1,x110.2.2.2.2.1,x110.2.2.2.2.2.1,(x110.2.2.2.2.2.2.1,x110.2.2.2.2.2.2.2.1,x110.2.2.2.2.2.2.2.2.1,x110.2.2.2.2.2.2.2.2.2)))).bind fun r116=>(if(!(decide (r116<0)))=true then(A.gd (Z.R64 (((IntKind.u64.wrap (y97+y99)) / 2^((1:Int)).toNat)+1)) ((F.slices_symMergeCmpFunc_api_Edge_graph_Edges_1_l6 a0 a1 a2 a3 rc f) (((IntKind.u64.wrap (y97+y99)) / 2^((1:Int)).toNat)+1) y99))else((F.slices_symMergeCmpFunc_api_Edge_graph_Edges_1_l6 a0 a1 a2 a3 rc f) y97 ((IntKind.u64.wrap (y97+y99)) / 2^((1:Int)).toNat))))))))else(A.gd (Z.R64 ((((IntKind.u64.wrap (a1+a3)) / 2^((1:Int)).toNat)+a2)-y97)) (if(bif decide (y97<a2)then decide (a2<(((IntKind.u64.wrap (a1+a3)) / 2^((1:Int)).toNat)+a2)-y97)else false)=true then(none)else(if(bif decide (a1<y97)then decide (y97<(IntKind.u64.wrap (a1+a3)) / 2^((1:Int)).toNat)else false)=true then((rc a0 a1 y97 ((IntKind.u64.wrap (a1+a3)) / 2^((1:Int)).toNat)).bind fun r123=>(F.slices_symMergeCmpFunc_api_Edge_graph_Edges_1_j5 a0 a1 a2 a3 rc y97))else(F.slices_symMergeCmpFunc_api_Edge_graph_Edges_1_j5 a0 a1 a2 a3 rc y97))))
def F.slices_symMergeCmpFunc_api_Edge_graph_Edges_1_j7 (a0:(List D46))(a1:Int)(a2:Int)(a3:Int)(rc:(List D46)→Int→Int→Int→Option Unit)(y92:Int)(y94:Int):Option Unit:=A.gd (Z.R64 ((((IntKind.u64.wrap (a1+a3)) / 2^((1:Int)).toNat)+a2)-1)) (F.slices_symMergeCmpFunc_api_Edge_graph_Edges_1_l6 a0 a1 a2 a3 rc A.FU y92 y94)
def F.slices_symMergeCmpFunc_api_Edge_graph_Edges_1 (rc:(List D46)→Int→Int→Int→Option Unit)(a0:(List D46))(a1:Int)(a2:Int)(a3:Int):Option Unit:=A.gd (Z.R64 (a2-a1)) (if a2-a1=1 then(F.slices_symMergeCmpFunc_api_Edge_graph_Edges_1_l2 a0 a1 A.FU a2 a3)else(A.gd (Z.R64 (a3-a2)) (if a3-a2=1 then(F.slices_symMergeCmpFunc_api_Edge_graph_Edges_1_l4 a0 a2 A.FU a1 a2)else(A.gd (Z.R64 (a1+a3)∧(0≤(1:Int)∧(1:Int)≤64)∧Z.R64 ((IntKind.u64.wrap (a1+a3)) / 2^((1:Int)).toNat)) (A.gd (Z.R64 (((IntKind.u64.wrap (a1+a3)) / 2^((1:Int)).toNat)+a2)) (if(IntKind.u64.wrap (a1+a3)) / 2^((1:Int)).toNat <a2 then(A.gd (Z.R64 ((((IntKind.u64.wrap (a1+a3)) / 2^((1:Int)).toNat)+a2)-a3)) (F.slices_symMergeCmpFunc_api_Edge_graph_Edges_1_j7 a0 a1 a2 a3 rc ((((IntKind.u64.wrap (a1+a3)) / 2^((1:Int)).toNat)+a2)-a3) ((IntKind.u64.wrap (a1+a3)) / 2^((1:Int)).toNat)))else(F.slices_symMergeCmpFunc_api_Edge_graph_Edges_1_j7 a0 a1 a2 a3 rc a1 a2)))))))
theorem slices_symMergeCmpFunc_api_Edge_graph_Edges_1_ok (rc:(List D46)→Int→Int→Int→Option Unit)(a0:(List D46))(a1:Int)(a2:Int)(a3:Int)(A0_:Option Addr)(c1_:Nat)(h2_:IntKind.i64.has a1)(h3_:IntKind.i64.has a2)(h4_:IntKind.i64.has a3)(ihr: ∀(a0:(List D46)) (a1:Int) (a2:Int) (a3:Int) (A0_:Option Addr) (c1_:Nat) (h2_:IntKind.i64.has a1) (h3_:IntKind.i64.has a2) (h4_:IntKind.i64.has a3) (r:Unit),rc a0 a1 a2 a3=some r→A.Ct Tryd.prog 81 [.slice A0_ ((a0).length) c1_,.int .i64 a1,.int .i64 a2,.int .i64 a3,.func (.func 35) #[] #[]] [(0,.ln T46 A0_ c1_ a0)] [] (fun v H'=>v=.tuple #[]∧H'=[]))(r:Unit)(hF:F.slices_symMergeCmpFunc_api_Edge_graph_Edges_1 rc a0 a1 a2 a3=some r):
    A.Ct Tryd.prog 81 [.slice A0_ ((a0).length) c1_,.int .i64 a1,.int .i64 a2,.int .i64 a3,.func (.func 35) #[] #[]] [(0,.ln T46 A0_ c1_ a0)] [] (fun v H'=>v=.tuple #[]∧H'=[]):=by
 refine A.Ct.enter Tryd.func81 rfl Tryd.ntmps81 rfl fun w0 F0=>?_
 rw[F.slices_symMergeCmpFunc_api_Edge_graph_Edges_1]at hF
 refine A.xl 2 ?_
 obtain⟨hc1,hF⟩:=A.gd_some hF
 refine A.q [] [] [.n,.n,.n,.n] [Z.R64 (a2-a1)] [(28,.bool (decide (a2-a1=1)))] hc1 ?_
 refine A.dx 1 ?_
 refine A.AX.cnd rfl hF (fun hb hF=>?_) (fun hb hF=>?_)
 ·refine A.xl 1 ?_
  refine A.q0 [] [] [.n,.n] [(10,.int .i64 a2)] ?_
  refine A.dl 2 ?_
  refine A.q0 [] [] [.n,.n] [(11,.int .i64 a3)] ?_
  refine A.dx 3 ?_
  refine A.lp_ [0,1,4] [0] (fun f nl nh=>∃(y2:Int),∃(y4:Int),nl=[(10,.int .i64 y2),(11,.int .i64 y4)]∧nh=[]∧IntKind.i64.has y2∧IntKind.i64.has y4∧F.slices_symMergeCmpFunc_api_Edge_graph_Edges_1_l2 a0 a1 f y2 y4=some r) ⟨a2,a3,rfl,rfl,h3_,h4_,hF⟩ ?_
  rintro f6 _ _ ⟨y2,y4,rfl,rfl,hy3,hy5,hF⟩
  rcases f6 with _|f6
  ·exact A.no0 hF
  rw[F.slices_symMergeCmpFunc_api_Edge_graph_Edges_1_l2]at hF
  refine A.xl 2 ?_
  refine A.q0 [] [] [.n,.n,.n] [(33,.bool (decide (y2<y4)))] ?_
  refine A.dx 1 ?_
  refine A.AX.cnd rfl hF (fun hb hF=>?_) (fun hb hF=>?_)
  ·refine A.xl 4 ?_
   obtain⟨hc7,hF⟩:=A.gd_some hF
   refine A.q [] [] [.n,.n,.n,.n,.n,.n,.n] [Z.R64 (y2+y4),(0≤(1:Int)∧(1:Int)≤64),Z.R64 ((IntKind.u64.wrap (y2+y4)) / 2^((1:Int)).toNat)] [(12,.int .i64 ((IntKind.u64.wrap (y2+y4)) / 2^((1:Int)).toNat))] hc7 ?_
   refine A.dx 2 ?_
   refine A.AX.dr mixed 11 11 (A.mb 11 0) ?_
   refine A.hq A.pb [] [0] [] [] (A.mb 11 103) 6 [(0,.n),(1,.n),(2,.n),(5,.n),(6,.n)] [(40,.func (.func 35) #[] #[]),(41,.slice A0_ ((a0).length) c1_),(42,.int .i64 ((IntKind.u64.wrap (y2+y4)) / 2^((1:Int)).toNat)),(45,.slice A0_ ((a0).length) c1_),(46,.int .i64 a1)] ?_
   obtain⟨x8,hv9,hF⟩:=A.bd_some hF
   refine A.AH.pkl 0 97 hv9 fun ho10=>?_
   intro b12 o13 hA11
   refine A.AH.v A.pb [0] [0,97] 3 (A.mb 11 111) rfl (fun a w hf hh=>A.r_ixa (t:=T46) hv9 hA11 hf) ?_
   refine A.hq A.pb [0,97] [0,97] [] [97] (A.mb 11 127) 4 [(4,.e 0 0)] [(44,.agg #[.int .i64 x8.1.1,.int .i64 x8.1.2,.int .i64 x8.2.1.1,.int .i64 x8.2.1.2,.int .i64 x8.2.2.1,.int .i64 x8.2.2.2.1,.int .i64 x8.2.2.2.2.1,.int .i64 x8.2.2.2.2.2.1,.int .i64 x8.2.2.2.2.2.2.1,.int .i64 x8.2.2.2.2.2.2.2.1,.int .i64 x8.2.2.2.2.2.2.2.2.1,.int .i64 x8.2.2.2.2.2.2.2.2.2])] ?_
   obtain⟨x14,hv15,hF⟩:=A.bd_some hF
   refine A.AH.pkl 0 98 hv15 fun ho16=>?_
   intro b18 o19 hA17
   refine A.AH.v A.pb [0,97] [0,97,98] 7 (A.mb 11 255) rfl (fun a w hf hh=>A.r_ixa (t:=T46) hv15 hA17 hf) ?_
   refine A.hq A.pb [0,97,98] [0,97,98] [] [98] (A.mb 11 511) 2 [(8,.e 0 0)] [(48,.agg #[.int .i64 x14.1.1,.int .i64 x14.1.2,.int .i64 x14.2.1.1,.int .i64 x14.2.1.2,.int .i64 x14.2.2.1,.int .i64 x14.2.2.2.1,.int .i64 x14.2.2.2.2.1,.int .i64 x14.2.2.2.2.2.1,.int .i64 x14.2.2.2.2.2.2.1,.int .i64 x14.2.2.2.2.2.2.2.1,.int .i64 x14.2.2.2.2.2.2.2.2.1,.int .i64 x14.2.2.2.2.2.2.2.2.2])] ?_
   refine A.AH.one 9 ?_
   obtain⟨r20,hv21,hF⟩:=A.bd_some hF
   refine A.AL.call 99 [] (first:=[]) (cap:=[]) cf35 (graph_Edges_1_ok ((x8.1.1,x8.1.2),(x8.2.1.1,x8.2.1.2),(x8.2.2.1,x8.2.2.2.1,x8.2.2.2.2.1,x8.2.2.2.2.2.1,(x8.2.2.2.2.2.2.1,x8.2.2.2.2.2.2.2.1,x8.2.2.2.2.2.2.2.2.1,x8.2.2.2.2.2.2.2.2.2))) ((x14.1.1,x14.1.2),(x14.2.1.1,x14.2.1.2),(x14.2.2.1,x14.2.2.2.1,x14.2.2.2.2.1,x14.2.2.2.2.2.1,(x14.2.2.2.2.2.2.1,x14.2.2.2.2.2.2.2.1,x14.2.2.2.2.2.2.2.2.1,x14.2.2.2.2.2.2.2.2.2))) ho10.1.1 ho10.1.2 ho10.2.1.1 ho10.2.1.2 ho10.2.2.1 ho10.2.2.2.1 ho10.2.2.2.2.1 ho10.2.2.2.2.2.1 ho10.2.2.2.2.2.2.1 ho10.2.2.2.2.2.2.2.1 ho10.2.2.2.2.2.2.2.2.1 ho10.2.2.2.2.2.2.2.2.2 ho16.1.1 ho16.1.2 ho16.2.1.1 ho16.2.1.2 ho16.2.2.1 ho16.2.2.2.1 ho16.2.2.2.2.1 ho16.2.2.2.2.2.1 ho16.2.2.2.2.2.2.1 ho16.2.2.2.2.2.2.2.1 ho16.2.2.2.2.2.2.2.2.1 ho16.2.2.2.2.2.2.2.2.2 r20 hv21) .nil ?_
   rintro _ _ ⟨rfl,rfl,hr22⟩
   refine⟨by kernel_rfl,?_⟩
   refine A.AH.nx (A.mb 11 1023) [0,97,98] ?_
   refine A.hq A.pb [0,97,98] [0,97,98] [] [] (A.mb 11 2047) 0 [(10,.n)] [(50,.bool (decide (r20<0)))] ?_
   refine A.AH.done ?_
   refine A.ex 1 ?_
   refine A.AX.cnd rfl hF (fun hb hF=>?_) (fun hb hF=>?_)
   ·refine A.xl 0 ?_
    obtain⟨hc23,hF⟩:=A.gd_some hF
    refine A.q [] [] [.n,.n,.n] [Z.R64 (((IntKind.u64.wrap (y2+y4)) / 2^((1:Int)).toNat)+1)] [(10,.int .i64 (((IntKind.u64.wrap (y2+y4)) / 2^((1:Int)).toNat)+1))] hc23 ?_
    refine A.de 1 ?_
    exact A.j ⟨_,Nat.lt_succ_self _,⟨(((IntKind.u64.wrap (y2+y4)) / 2^((1:Int)).toNat)+1),y4,rfl,rfl,(Z.i64_has hc23),hy5,hF⟩⟩
   refine A.xl 0 ?_
   refine A.q0 [] [] [.n,.n] [(11,.int .i64 ((IntKind.u64.wrap (y2+y4)) / 2^((1:Int)).toNat))] ?_
   refine A.de 1 ?_
   exact A.j ⟨_,Nat.lt_succ_self _,⟨y2,((IntKind.u64.wrap (y2+y4)) / 2^((1:Int)).toNat),rfl,rfl,hy3,(Z.i64_has hc7.2.2),hF⟩⟩
  refine A.xl 4 ?_
  refine A.q0 [] [] [.n,.n] [(13,.int .i64 a1)] ?_
  refine A.dx 2 ?_
  refine A.lp_ [0,10,13] [0] (fun f nl nh=>nl=[]∧nh=[]∧F.slices_symMergeCmpFunc_api_Edge_graph_Edges_1_l1 a0 a1 y2 f=some r) ⟨rfl,rfl,hF⟩ ?_
  rintro f24 _ _ ⟨rfl,rfl,hF⟩
  rcases f24 with _|f24
  ·exact A.no0 hF
  rw[F.slices_symMergeCmpFunc_api_Edge_graph_Edges_1_l1]at hF
  refine A.xl 2 ?_
  obtain⟨hc25,hF⟩:=A.gd_some hF
  refine A.q [] [] [.n,.n,.n,.n] [Z.R64 (y2-1)] [(58,.bool (decide (a1<y2-1)))] hc25 ?_
  refine A.dx 1 ?_
  refine A.AX.cnd rfl hF (fun hb hF=>?_) (fun hb hF=>?_)
  ·refine A.xx 4 ?_
   refine A.AX.dr mixed 17 18 (A.mb 18 0) ?_
   obtain⟨hc27,hF⟩:=A.gd_some hF
   refine A.AH.q A.pb [] [] [] [] (A.mb 18 3327) 8 [(0,.n),(1,.n),(2,.n),(3,.n),(5,.n),(6,.n),(10,.n),(11,.n),(4,.n),(7,.n)] [61,62,63,66,71,72,65,68] [Z.R64 (a1+1),Z.R64 (a1+1)] [(61,.slice A0_ ((a0).length) c1_),(62,.int .i64 a1),(63,.slice A0_ ((a0).length) c1_),(66,.slice A0_ ((a0).length) c1_),(71,.slice A0_ ((a0).length) c1_),(72,.int .i64 a1),(65,.int .i64 (a1+1)),(68,.int .i64 (a1+1))] hc27 ?_
   obtain⟨x28,hv29,hF⟩:=A.bd_some hF
   refine A.AH.pkl 0 142 hv29 fun ho30=>?_
   intro b32 o33 hA31
   refine A.AH.v A.pb [] [142] 8 (A.mb 18 3583) rfl (fun a w hf hh=>A.r_ixa (t:=T46) hv29 hA31 hf) ?_
   refine A.hq A.pb [142] [142] [] [142] (A.mb 18 4095) 6 [(9,.e 0 0)] [(70,.agg #[.int .i64 x28.1.1,.int .i64 x28.1.2,.int .i64 x28.2.1.1,.int .i64 x28.2.1.2,.int .i64 x28.2.2.1,.int .i64 x28.2.2.2.1,.int .i64 x28.2.2.2.2.1,.int .i64 x28.2.2.2.2.2.1,.int .i64 x28.2.2.2.2.2.2.1,.int .i64 x28.2.2.2.2.2.2.2.1,.int .i64 x28.2.2.2.2.2.2.2.2.1,.int .i64 x28.2.2.2.2.2.2.2.2.2])] ?_
   obtain⟨x34,hv35,hF⟩:=A.bd_some hF
   refine A.AH.pkl 0 143 hv35 fun ho36=>?_
   intro b38 o39 hA37
   refine A.AH.v A.pb [142] [142,143] 12 (A.mb 18 8191) rfl (fun a w hf hh=>A.r_ixa (t:=T46) hv35 hA37 hf) ?_
   refine A.hq A.pb [142,143] [142,143] [] [143] (A.mb 18 16383) 4 [(13,.e 0 0)] [(74,.agg #[.int .i64 x34.1.1,.int .i64 x34.1.2,.int .i64 x34.2.1.1,.int .i64 x34.2.1.2,.int .i64 x34.2.2.1,.int .i64 x34.2.2.2.1,.int .i64 x34.2.2.2.2.1,.int .i64 x34.2.2.2.2.2.1,.int .i64 x34.2.2.2.2.2.2.1,.int .i64 x34.2.2.2.2.2.2.2.1,.int .i64 x34.2.2.2.2.2.2.2.2.1,.int .i64 x34.2.2.2.2.2.2.2.2.2])] ?_
   obtain⟨x40,hv41,hF⟩:=A.bd_some hF
   refine A.AH.pkl 0 144 hv41 fun ho42=>?_
   intro b44 o45 hA43
   refine A.AH.v A.pb [142,143] [0,142,143] 14 (A.mb 18 32767) rfl (fun a w hf hh=>A.r_ixa (t:=T46) hv41 hA43 hf) ?_
   refine A.AH.one 15 ?_
   exact A.no0 hF
  refine A.xx 2 ?_
  obtain rfl:=Option.some.inj hF
  exact A.AX.ret [] (.tuple #[]) (fun a w hf hh=>Z.res0 rfl w) (⟨rfl,rfl⟩)
 refine A.xl 4 ?_
 obtain⟨hc46,hF⟩:=A.gd_some hF
 refine A.q [] [] [.n,.n,.n,.n] [Z.R64 (a3-a2)] [(80,.bool (decide (a3-a2=1)))] hc46 ?_
 refine A.dx 1 ?_
 refine A.AX.cnd rfl hF (fun hb hF=>?_) (fun hb hF=>?_)
 ·refine A.xl 1 ?_
  refine A.q0 [] [] [.n,.n] [(14,.int .i64 a1)] ?_
  refine A.dl 2 ?_
  refine A.q0 [] [] [.n,.n] [(15,.int .i64 a2)] ?_
  refine A.dx 3 ?_
  refine A.lp_ [0,2,4] [0] (fun f nl nh=>∃(y47:Int),∃(y49:Int),nl=[(14,.int .i64 y47),(15,.int .i64 y49)]∧nh=[]∧IntKind.i64.has y47∧IntKind.i64.has y49∧F.slices_symMergeCmpFunc_api_Edge_graph_Edges_1_l4 a0 a2 f y47 y49=some r) ⟨a1,a2,rfl,rfl,h2_,h3_,hF⟩ ?_
  rintro f51 _ _ ⟨y47,y49,rfl,rfl,hy48,hy50,hF⟩
  rcases f51 with _|f51
  ·exact A.no0 hF
  rw[F.slices_symMergeCmpFunc_api_Edge_graph_Edges_1_l4]at hF
  refine A.xl 2 ?_
  refine A.q0 [] [] [.n,.n,.n] [(85,.bool (decide (y47<y49)))] ?_
  refine A.dx 1 ?_
  refine A.AX.cnd rfl hF (fun hb hF=>?_) (fun hb hF=>?_)
  ·refine A.xl 4 ?_
   obtain⟨hc52,hF⟩:=A.gd_some hF
   refine A.q [] [] [.n,.n,.n,.n,.n,.n,.n] [Z.R64 (y47+y49),(0≤(1:Int)∧(1:Int)≤64),Z.R64 ((IntKind.u64.wrap (y47+y49)) / 2^((1:Int)).toNat)] [(16,.int .i64 ((IntKind.u64.wrap (y47+y49)) / 2^((1:Int)).toNat))] hc52 ?_
   refine A.dx 2 ?_
   refine A.AX.dr mixed 12 12 (A.mb 12 0) ?_
   refine A.hq A.pb [] [0] [] [] (A.mb 12 103) 7 [(0,.n),(1,.n),(2,.n),(5,.n),(6,.n)] [(92,.func (.func 35) #[] #[]),(93,.slice A0_ ((a0).length) c1_),(94,.int .i64 a2),(97,.slice A0_ ((a0).length) c1_),(98,.int .i64 ((IntKind.u64.wrap (y47+y49)) / 2^((1:Int)).toNat))] ?_
   obtain⟨x53,hv54,hF⟩:=A.bd_some hF
   refine A.AH.pkl 0 241 hv54 fun ho55=>?_
   intro b57 o58 hA56
   refine A.AH.v A.pb [0] [0,241] 3 (A.mb 12 111) rfl (fun a w hf hh=>A.r_ixa (t:=T46) hv54 hA56 hf) ?_
   refine A.hq A.pb [0,241] [0,241] [] [241] (A.mb 12 127) 5 [(4,.e 0 0)] [(96,.agg #[.int .i64 x53.1.1,.int .i64 x53.1.2,.int .i64 x53.2.1.1,.int .i64 x53.2.1.2,.int .i64 x53.2.2.1,.int .i64 x53.2.2.2.1,.int .i64 x53.2.2.2.2.1,.int .i64 x53.2.2.2.2.2.1,.int .i64 x53.2.2.2.2.2.2.1,.int .i64 x53.2.2.2.2.2.2.2.1,.int .i64 x53.2.2.2.2.2.2.2.2.1,.int .i64 x53.2.2.2.2.2.2.2.2.2])] ?_
   obtain⟨x59,hv60,hF⟩:=A.bd_some hF
   refine A.AH.pkl 0 242 hv60 fun ho61=>?_
   intro b63 o64 hA62
   refine A.AH.v A.pb [0,241] [0,241,242] 7 (A.mb 12 255) rfl (fun a w hf hh=>A.r_ixa (t:=T46) hv60 hA62 hf) ?_
   refine A.hq A.pb [0,241,242] [0,241,242] [] [242] (A.mb 12 511) 3 [(8,.e 0 0)] [(100,.agg #[.int .i64 x59.1.1,.int .i64 x59.1.2,.int .i64 x59.2.1.1,.int .i64 x59.2.1.2,.int .i64 x59.2.2.1,.int .i64 x59.2.2.2.1,.int .i64 x59.2.2.2.2.1,.int .i64 x59.2.2.2.2.2.1,.int .i64 x59.2.2.2.2.2.2.1,.int .i64 x59.2.2.2.2.2.2.2.1,.int .i64 x59.2.2.2.2.2.2.2.2.1,.int .i64 x59.2.2.2.2.2.2.2.2.2])] ?_
   refine A.AH.one 9 ?_
   obtain⟨r65,hv66,hF⟩:=A.bd_some hF
   refine A.AL.call 243 [] (first:=[]) (cap:=[]) cf35 (graph_Edges_1_ok ((x53.1.1,x53.1.2),(x53.2.1.1,x53.2.1.2),(x53.2.2.1,x53.2.2.2.1,x53.2.2.2.2.1,x53.2.2.2.2.2.1,(x53.2.2.2.2.2.2.1,x53.2.2.2.2.2.2.2.1,x53.2.2.2.2.2.2.2.2.1,x53.2.2.2.2.2.2.2.2.2))) ((x59.1.1,x59.1.2),(x59.2.1.1,x59.2.1.2),(x59.2.2.1,x59.2.2.2.1,x59.2.2.2.2.1,x59.2.2.2.2.2.1,(x59.2.2.2.2.2.2.1,x59.2.2.2.2.2.2.2.1,x59.2.2.2.2.2.2.2.2.1,x59.2.2.2.2.2.2.2.2.2))) ho55.1.1 ho55.1.2 ho55.2.1.1 ho55.2.1.2 ho55.2.2.1 ho55.2.2.2.1 ho55.2.2.2.2.1 ho55.2.2.2.2.2.1 ho55.2.2.2.2.2.2.1 ho55.2.2.2.2.2.2.2.1 ho55.2.2.2.2.2.2.2.2.1 ho55.2.2.2.2.2.2.2.2.2 ho61.1.1 ho61.1.2 ho61.2.1.1 ho61.2.1.2 ho61.2.2.1 ho61.2.2.2.1 ho61.2.2.2.2.1 ho61.2.2.2.2.2.1 ho61.2.2.2.2.2.2.1 ho61.2.2.2.2.2.2.2.1 ho61.2.2.2.2.2.2.2.2.1 ho61.2.2.2.2.2.2.2.2.2 r65 hv66) .nil ?_
   rintro _ _ ⟨rfl,rfl,hr67⟩
   refine⟨by kernel_rfl,?_⟩
   refine A.AH.nx (A.mb 12 1023) [0,241,242] ?_
   refine A.hq A.pb [0,241,242] [0,241,242] [] [] (A.mb 12 4095) 0 [(10,.n),(11,.n)] [(103,.bool (!(decide (r65<0))))] ?_
   refine A.AH.done ?_
   refine A.ex 1 ?_
   refine A.AX.cnb rfl hF (fun hb hF=>?_) (fun hb hF=>?_)
   ·refine A.xl 0 ?_
    obtain⟨hc68,hF⟩:=A.gd_some hF
    refine A.q [] [] [.n,.n,.n] [Z.R64 (((IntKind.u64.wrap (y47+y49)) / 2^((1:Int)).toNat)+1)] [(14,.int .i64 (((IntKind.u64.wrap (y47+y49)) / 2^((1:Int)).toNat)+1))] hc68 ?_
    refine A.de 1 ?_
    exact A.j ⟨_,Nat.lt_succ_self _,⟨(((IntKind.u64.wrap (y47+y49)) / 2^((1:Int)).toNat)+1),y49,rfl,rfl,(Z.i64_has hc68),hy50,hF⟩⟩
   refine A.xl 0 ?_
   refine A.q0 [] [] [.n,.n] [(15,.int .i64 ((IntKind.u64.wrap (y47+y49)) / 2^((1:Int)).toNat))] ?_
   refine A.de 1 ?_
   exact A.j ⟨_,Nat.lt_succ_self _,⟨y47,((IntKind.u64.wrap (y47+y49)) / 2^((1:Int)).toNat),rfl,rfl,hy48,(Z.i64_has hc52.2.2),hF⟩⟩
  refine A.xl 4 ?_
  refine A.q0 [] [] [.n,.n] [(17,.int .i64 a2)] ?_
  refine A.dx 2 ?_
  refine A.lp_ [0,14,17] [0] (fun f nl nh=>nl=[]∧nh=[]∧F.slices_symMergeCmpFunc_api_Edge_graph_Edges_1_l3 a0 a2 y47 f=some r) ⟨rfl,rfl,hF⟩ ?_
  rintro f69 _ _ ⟨rfl,rfl,hF⟩
  rcases f69 with _|f69
  ·exact A.no0 hF
  rw[F.slices_symMergeCmpFunc_api_Edge_graph_Edges_1_l3]at hF
  refine A.xl 2 ?_
  refine A.q0 [] [] [.n,.n,.n] [(110,.bool (decide (y47<a2)))] ?_
  refine A.dx 1 ?_
  refine A.AX.cnd rfl hF (fun hb hF=>?_) (fun hb hF=>?_)
  ·refine A.xx 4 ?_
   refine A.AX.dr mixed 17 18 (A.mb 18 0) ?_
   obtain⟨hc71,hF⟩:=A.gd_some hF
   refine A.AH.q A.pb [] [] [] [] (A.mb 18 3327) 8 [(0,.n),(1,.n),(2,.n),(3,.n),(5,.n),(6,.n),(10,.n),(11,.n),(4,.n),(7,.n)] [113,114,115,118,123,124,117,120] [Z.R64 (a2-1),Z.R64 (a2-1)] [(113,.slice A0_ ((a0).length) c1_),(114,.int .i64 a2),(115,.slice A0_ ((a0).length) c1_),(118,.slice A0_ ((a0).length) c1_),(123,.slice A0_ ((a0).length) c1_),(124,.int .i64 a2),(117,.int .i64 (a2-1)),(120,.int .i64 (a2-1))] hc71 ?_
   obtain⟨x72,hv73,hF⟩:=A.bd_some hF
   refine A.AH.pkl 0 286 hv73 fun ho74=>?_
   intro b76 o77 hA75
   refine A.AH.v A.pb [] [286] 8 (A.mb 18 3583) rfl (fun a w hf hh=>A.r_ixa (t:=T46) hv73 hA75 hf) ?_
   refine A.hq A.pb [286] [286] [] [286] (A.mb 18 4095) 6 [(9,.e 0 0)] [(122,.agg #[.int .i64 x72.1.1,.int .i64 x72.1.2,.int .i64 x72.2.1.1,.int .i64 x72.2.1.2,.int .i64 x72.2.2.1,.int .i64 x72.2.2.2.1,.int .i64 x72.2.2.2.2.1,.int .i64 x72.2.2.2.2.2.1,.int .i64 x72.2.2.2.2.2.2.1,.int .i64 x72.2.2.2.2.2.2.2.1,.int .i64 x72.2.2.2.2.2.2.2.2.1,.int .i64 x72.2.2.2.2.2.2.2.2.2])] ?_
   obtain⟨x78,hv79,hF⟩:=A.bd_some hF
   refine A.AH.pkl 0 287 hv79 fun ho80=>?_
   intro b82 o83 hA81
   refine A.AH.v A.pb [286] [286,287] 12 (A.mb 18 8191) rfl (fun a w hf hh=>A.r_ixa (t:=T46) hv79 hA81 hf) ?_
   refine A.hq A.pb [286,287] [286,287] [] [287] (A.mb 18 16383) 4 [(13,.e 0 0)] [(126,.agg #[.int .i64 x78.1.1,.int .i64 x78.1.2,.int .i64 x78.2.1.1,.int .i64 x78.2.1.2,.int .i64 x78.2.2.1,.int .i64 x78.2.2.2.1,.int .i64 x78.2.2.2.2.1,.int .i64 x78.2.2.2.2.2.1,.int .i64 x78.2.2.2.2.2.2.1,.int .i64 x78.2.2.2.2.2.2.2.1,.int .i64 x78.2.2.2.2.2.2.2.2.1,.int .i64 x78.2.2.2.2.2.2.2.2.2])] ?_
   obtain⟨x84,hv85,hF⟩:=A.bd_some hF
   refine A.AH.pkl 0 288 hv85 fun ho86=>?_
   intro b88 o89 hA87
   refine A.AH.v A.pb [286,287] [0,286,287] 14 (A.mb 18 32767) rfl (fun a w hf hh=>A.r_ixa (t:=T46) hv85 hA87 hf) ?_
   refine A.AH.one 15 ?_
   exact A.no0 hF
  refine A.xx 2 ?_
  obtain rfl:=Option.some.inj hF
  exact A.AX.ret [] (.tuple #[]) (fun a w hf hh=>Z.res0 rfl w) (⟨rfl,rfl⟩)
 refine A.xl 3 ?_
 obtain⟨hc90,hF⟩:=A.gd_some hF
 refine A.q [] [] [.n,.n,.n,.n,.n,.n,.n] [Z.R64 (a1+a3),(0≤(1:Int)∧(1:Int)≤64),Z.R64 ((IntKind.u64.wrap (a1+a3)) / 2^((1:Int)).toNat)] [(18,.int .i64 ((IntKind.u64.wrap (a1+a3)) / 2^((1:Int)).toNat))] hc90 ?_
 refine A.dl 2 ?_
 obtain⟨hc91,hF⟩:=A.gd_some hF
 refine A.q [] [] [.n,.n,.n,.n] [Z.R64 (((IntKind.u64.wrap (a1+a3)) / 2^((1:Int)).toNat)+a2)] [(19,.int .i64 (((IntKind.u64.wrap (a1+a3)) / 2^((1:Int)).toNat)+a2))] hc91 ?_
 refine A.dl 2 ?_
 refine A.q0 [] [] [.n,.n] [] ?_
 refine A.dx 1 ?_
 refine A.AX.join [0,1,2,3,4,18,19] [0] (fun nl nh=>∃(y92:Int),∃(y94:Int),nl=[(20,.int .i64 y92),(21,.int .i64 y94)]∧nh=[]∧IntKind.i64.has y92∧IntKind.i64.has y94∧F.slices_symMergeCmpFunc_api_Edge_graph_Edges_1_j7 a0 a1 a2 a3 rc y92 y94=some r) ?_ ?_
 ·refine A.xl 1 ?_
  refine A.q0 [] [] [.n,.n,.n] [(140,.bool (decide ((IntKind.u64.wrap (a1+a3)) / 2^((1:Int)).toNat <a2)))] ?_
  refine A.dx 1 ?_
  refine A.AX.cnd rfl hF (fun hb hF=>?_) (fun hb hF=>?_)
  ·refine A.xl 1 ?_
   obtain⟨hc125,hF⟩:=A.gd_some hF
   refine A.q [] [] [.n,.n,.n,.n] [Z.R64 ((((IntKind.u64.wrap (a1+a3)) / 2^((1:Int)).toNat)+a2)-a3)] [(20,.int .i64 ((((IntKind.u64.wrap (a1+a3)) / 2^((1:Int)).toNat)+a2)-a3))] hc125 ?_
   refine A.dl 1 ?_
   refine A.q0 [] [] [.n,.n] [(21,.int .i64 ((IntKind.u64.wrap (a1+a3)) / 2^((1:Int)).toNat))] ?_
   refine A.AL.done ?_
   exact A.j ⟨((((IntKind.u64.wrap (a1+a3)) / 2^((1:Int)).toNat)+a2)-a3),((IntKind.u64.wrap (a1+a3)) / 2^((1:Int)).toNat),rfl,rfl,(Z.i64_has hc125),(Z.i64_has hc90.2.2),hF⟩
  refine A.xl 1 ?_
  refine A.q0 [] [] [.n,.n] [(20,.int .i64 a1)] ?_
  refine A.dl 1 ?_
  refine A.q0 [] [] [.n,.n] [(21,.int .i64 a2)] ?_
  refine A.AL.done ?_
  exact A.j ⟨a1,a2,rfl,rfl,h2_,h3_,hF⟩
 rintro _ _ ⟨y92,y94,rfl,rfl,hy93,hy95,hF⟩
 rw[F.slices_symMergeCmpFunc_api_Edge_graph_Edges_1_j7]at hF
 refine A.xl 1 ?_
 obtain⟨hc96,hF⟩:=A.gd_some hF
 refine A.q [] [] [.n,.n,.n] [Z.R64 ((((IntKind.u64.wrap (a1+a3)) / 2^((1:Int)).toNat)+a2)-1)] [(22,.int .i64 ((((IntKind.u64.wrap (a1+a3)) / 2^((1:Int)).toNat)+a2)-1))] hc96 ?_
 refine A.dx 3 ?_
 refine A.lp_ [0,1,2,3,4,18,19,22] [0] (fun f nl nh=>∃(y97:Int),∃(y99:Int),nl=[(20,.int .i64 y97),(21,.int .i64 y99)]∧nh=[]∧IntKind.i64.has y97∧IntKind.i64.has y99∧F.slices_symMergeCmpFunc_api_Edge_graph_Edges_1_l6 a0 a1 a2 a3 rc f y97 y99=some r) ⟨y92,y94,rfl,rfl,hy93,hy95,hF⟩ ?_
 rintro f101 _ _ ⟨y97,y99,rfl,rfl,hy98,hy100,hF⟩
 rcases f101 with _|f101
 ·exact A.no0 hF
 rw[F.slices_symMergeCmpFunc_api_Edge_graph_Edges_1_l6]at hF
 refine A.xl 2 ?_
 refine A.q0 [] [] [.n,.n,.n] [(151,.bool (decide (y97<y99)))] ?_
 refine A.dx 1 ?_
 refine A.AX.cnd rfl hF (fun hb hF=>?_) (fun hb hF=>?_)
 ·refine A.xl 4 ?_
  obtain⟨hc102,hF⟩:=A.gd_some hF
  refine A.q [] [] [.n,.n,.n,.n,.n,.n,.n] [Z.R64 (y97+y99),(0≤(1:Int)∧(1:Int)≤64),Z.R64 ((IntKind.u64.wrap (y97+y99)) / 2^((1:Int)).toNat)] [(23,.int .i64 ((IntKind.u64.wrap (y97+y99)) / 2^((1:Int)).toNat))] hc102 ?_
  refine A.dx 2 ?_
  refine A.AX.dr mixed 14 14 (A.mb 14 0) ?_
  obtain⟨hc103,hF⟩:=A.gd_some hF
  refine A.AH.q A.pb [] [0] [] [] (A.mb 14 415) 7 [(0,.n),(1,.n),(2,.n),(3,.n),(7,.n),(8,.n),(4,.n)] [158,159,165,166,162] [Z.R64 (((((IntKind.u64.wrap (a1+a3)) / 2^((1:Int)).toNat)+a2)-1)-((IntKind.u64.wrap (y97+y99)) / 2^((1:Int)).toNat))] [(158,.func (.func 35) #[] #[]),(159,.slice A0_ ((a0).length) c1_),(165,.slice A0_ ((a0).length) c1_),(166,.int .i64 ((IntKind.u64.wrap (y97+y99)) / 2^((1:Int)).toNat)),(162,.int .i64 (((((IntKind.u64.wrap (a1+a3)) / 2^((1:Int)).toNat)+a2)-1)-((IntKind.u64.wrap (y97+y99)) / 2^((1:Int)).toNat)))] hc103 ?_
  obtain⟨x104,hv105,hF⟩:=A.bd_some hF
  refine A.AH.pkl 0 533 hv105 fun ho106=>?_
  intro b108 o109 hA107
  refine A.AH.v A.pb [0] [0,533] 5 (A.mb 14 447) rfl (fun a w hf hh=>A.r_ixa (t:=T46) hv105 hA107 hf) ?_
  refine A.hq A.pb [0,533] [0,533] [] [533] (A.mb 14 511) 5 [(6,.e 0 0)] [(164,.agg #[.int .i64 x104.1.1,.int .i64 x104.1.2,.int .i64 x104.2.1.1,.int .i64 x104.2.1.2,.int .i64 x104.2.2.1,.int .i64 x104.2.2.2.1,.int .i64 x104.2.2.2.2.1,.int .i64 x104.2.2.2.2.2.1,.int .i64 x104.2.2.2.2.2.2.1,.int .i64 x104.2.2.2.2.2.2.2.1,.int .i64 x104.2.2.2.2.2.2.2.2.1,.int .i64 x104.2.2.2.2.2.2.2.2.2])] ?_
  obtain⟨x110,hv111,hF⟩:=A.bd_some hF
  refine A.AH.pkl 0 534 hv111 fun ho112=>?_
  intro b114 o115 hA113
  refine A.AH.v A.pb [0,533] [0,533,534] 9 (A.mb 14 1023) rfl (fun a w hf hh=>A.r_ixa (t:=T46) hv111 hA113 hf) ?_
  refine A.hq A.pb [0,533,534] [0,533,534] [] [534] (A.mb 14 2047) 3 [(10,.e 0 0)] [(168,.agg #[.int .i64 x110.1.1,.int .i64 x110.1.2,.int .i64 x110.2.1.1,.int .i64 x110.2.1.2,.int .i64 x110.2.2.1,.int .i64 x110.2.2.2.1,.int .i64 x110.2.2.2.2.1,.int .i64 x110.2.2.2.2.2.1,.int .i64 x110.2.2.2.2.2.2.1,.int .i64 x110.2.2.2.2.2.2.2.1,.int .i64 x110.2.2.2.2.2.2.2.2.1,.int .i64 x110.2.2.2.2.2.2.2.2.2])] ?_
  refine A.AH.one 11 ?_
  obtain⟨r116,hv117,hF⟩:=A.bd_some hF
  refine A.AL.call 535 [] (first:=[]) (cap:=[]) cf35 (graph_Edges_1_ok ((x104.1.1,x104.1.2),(x104.2.1.1,x104.2.1.2),(x104.2.2.1,x104.2.2.2.1,x104.2.2.2.2.1,x104.2.2.2.2.2.1,(x104.2.2.2.2.2.2.1,x104.2.2.2.2.2.2.2.1,x104.2.2.2.2.2.2.2.2.1,x104.2.2.2.2.2.2.2.2.2))) ((x110.1.1,x110.1.2),(x110.2.1.1,x110.2.1.2),(x110.2.2.1,x110.2.2.2.1,x110.2.2.2.2.1,x110.2.2.2.2.2.1,(x110.2.2.2.2.2.2.1,x110.2.2.2.2.2.2.2.1,x110.2.2.2.2.2.2.2.2.1,x110.2.2.2.2.2.2.2.2.2))) ho106.1.1 ho106.1.2 ho106.2.1.1 ho106.2.1.2 ho106.2.2.1 ho106.2.2.2.1 ho106.2.2.2.2.1 ho106.2.2.2.2.2.1 ho106.2.2.2.2.2.2.1 ho106.2.2.2.2.2.2.2.1 ho106.2.2.2.2.2.2.2.2.1 ho106.2.2.2.2.2.2.2.2.2 ho112.1.1 ho112.1.2 ho112.2.1.1 ho112.2.1.2 ho112.2.2.1 ho112.2.2.2.1 ho112.2.2.2.2.1 ho112.2.2.2.2.2.1 ho112.2.2.2.2.2.2.1 ho112.2.2.2.2.2.2.2.1 ho112.2.2.2.2.2.2.2.2.1 ho112.2.2.2.2.2.2.2.2.2 r116 hv117) .nil ?_
  rintro _ _ ⟨rfl,rfl,hr118⟩
  refine⟨by kernel_rfl,?_⟩
  refine A.AH.nx (A.mb 14 4095) [0,533,534] ?_
  refine A.hq A.pb [0,533,534] [0,533,534] [] [] (A.mb 14 16383) 0 [(12,.n),(13,.n)] [(171,.bool (!(decide (r116<0))))] ?_
  refine A.AH.done ?_
  refine A.ex 1 ?_
  refine A.AX.cnb rfl hF (fun hb hF=>?_) (fun hb hF=>?_)
  ·refine A.xl 0 ?_
   obtain⟨hc119,hF⟩:=A.gd_some hF
   refine A.q [] [] [.n,.n,.n] [Z.R64 (((IntKind.u64.wrap (y97+y99)) / 2^((1:Int)).toNat)+1)] [(20,.int .i64 (((IntKind.u64.wrap (y97+y99)) / 2^((1:Int)).toNat)+1))] hc119 ?_
   refine A.de 1 ?_
   exact A.j ⟨_,Nat.lt_succ_self _,⟨(((IntKind.u64.wrap (y97+y99)) / 2^((1:Int)).toNat)+1),y99,rfl,rfl,(Z.i64_has hc119),hy100,hF⟩⟩
  refine A.xl 0 ?_
  refine A.q0 [] [] [.n,.n] [(21,.int .i64 ((IntKind.u64.wrap (y97+y99)) / 2^((1:Int)).toNat))] ?_
  refine A.de 1 ?_
  exact A.j ⟨_,Nat.lt_succ_self _,⟨y97,((IntKind.u64.wrap (y97+y99)) / 2^((1:Int)).toNat),rfl,rfl,hy98,(Z.i64_has hc102.2.2),hF⟩⟩
 refine A.xl 3 ?_
 obtain⟨hc120,hF⟩:=A.gd_some hF
 refine A.q [] [] [.n,.n,.n,.n] [Z.R64 ((((IntKind.u64.wrap (a1+a3)) / 2^((1:Int)).toNat)+a2)-y97)] [(24,.int .i64 ((((IntKind.u64.wrap (a1+a3)) / 2^((1:Int)).toNat)+a2)-y97))] hc120 ?_
 refine A.dl 3 ?_
 refine A.q0 [] [] [.n,.n,.n,.n,.sy .n,.sy .n,.sy .n,.pk] [(185,.bool (bif decide (y97<a2)then decide (a2<(((IntKind.u64.wrap (a1+a3)) / 2^((1:Int)).toNat)+a2)-y97)else false))] ?_
 refine A.dx 1 ?_
 refine A.AX.cnb rfl hF (fun hb hF=>?_) (fun hb hF=>?_)
 ·refine A.xl 0 ?_
  refine A.q0 [] [] [.n,.n,.n,.n,.n] [(186,.slice A0_ ((a0).length) c1_),(187,.int .i64 y97),(188,.int .i64 a2),(189,.int .i64 ((((IntKind.u64.wrap (a1+a3)) / 2^((1:Int)).toNat)+a2)-y97)),(190,.func (.func 35) #[] #[])] ?_
  exact A.no0 hF
 refine A.xx 2 ?_
 refine A.AX.join [0,3,4,18,24] [0] (fun nl nh=>nl=[]∧nh=[]∧F.slices_symMergeCmpFunc_api_Edge_graph_Edges_1_j5 a0 a1 a2 a3 rc y97=some r) ?_ ?_
 ·refine A.xl 1 ?_
  refine A.q0 [] [] [.n,.n,.n,.n,.sy .n,.sy .n,.sy .n,.pk] [(199,.bool (bif decide (a1<y97)then decide (y97<(IntKind.u64.wrap (a1+a3)) / 2^((1:Int)).toNat)else false))] ?_
  refine A.dx 1 ?_
  refine A.AX.cnb rfl hF (fun hb hF=>?_) (fun hb hF=>?_)
  ·refine A.xl 0 ?_
   refine A.q0 [] [] [.n,.n,.n,.n,.n] [(200,.slice A0_ ((a0).length) c1_),(201,.int .i64 a1),(202,.int .i64 y97),(203,.int .i64 ((IntKind.u64.wrap (a1+a3)) / 2^((1:Int)).toNat)),(204,.func (.func 35) #[] #[])] ?_
   obtain⟨r123,hv124,hF⟩:=A.bd_some hF
   refine A.AL.call 575 [] (first:=[]) (cap:=[]) cf81 (ihr a0 a1 y97 ((IntKind.u64.wrap (a1+a3)) / 2^((1:Int)).toNat) A0_ c1_ h2_ hy98 (Z.i64_has hc90.2.2) r123 hv124) (.s 0 .nil) ?_
   rintro _ _ ⟨rfl,rfl⟩
   refine⟨by kernel_rfl,?_⟩
   refine A.AL.done ?_
   exact A.j ⟨rfl,rfl,hF⟩
  refine A.xe 1 ?_
  exact A.j ⟨rfl,rfl,hF⟩
 rintro _ _ ⟨rfl,rfl,hF⟩
 rw[F.slices_symMergeCmpFunc_api_Edge_graph_Edges_1_j5]at hF
 refine A.xl 1 ?_
 refine A.q0 [] [] [.n,.n,.n,.n,.sy .n,.sy .n,.sy .n,.pk] [(213,.bool (bif decide ((IntKind.u64.wrap (a1+a3)) / 2^((1:Int)).toNat <(((IntKind.u64.wrap (a1+a3)) / 2^((1:Int)).toNat)+a2)-y97)then decide ((((IntKind.u64.wrap (a1+a3)) / 2^((1:Int)).toNat)+a2)-y97<a3)else false))] ?_
 refine A.dx 1 ?_
 refine A.AX.cnb rfl hF (fun hb hF=>?_) (fun hb hF=>?_)
 ·refine A.xl 0 ?_
  refine A.q0 [] [] [.n,.n,.n,.n,.n] [(214,.slice A0_ ((a0).length) c1_),(215,.int .i64 ((IntKind.u64.wrap (a1+a3)) / 2^((1:Int)).toNat)),(216,.int .i64 ((((IntKind.u64.wrap (a1+a3)) / 2^((1:Int)).toNat)+a2)-y97)),(217,.int .i64 a3),(218,.func (.func 35) #[] #[])] ?_
  obtain⟨r121,hv122,hF⟩:=A.bd_some hF
  refine A.AL.call 615 [] (first:=[]) (cap:=[]) cf81 (ihr a0 ((IntKind.u64.wrap (a1+a3)) / 2^((1:Int)).toNat) ((((IntKind.u64.wrap (a1+a3)) / 2^((1:Int)).toNat)+a2)-y97) a3 A0_ c1_ (Z.i64_has hc90.2.2) (Z.i64_has hc120) h4_ r121 hv122) (.s 0 .nil) ?_
  rintro _ _ ⟨rfl,rfl⟩
  refine⟨by kernel_rfl,?_⟩
  refine A.AL.done ?_
  obtain rfl:=Option.some.inj hF
  exact A.AE.ret [] (.tuple #[]) (fun a w hf hh=>Z.res0 rfl w) (⟨rfl,rfl⟩)
 refine A.xe 1 ?_
 obtain rfl:=Option.some.inj hF
 exact A.AE.ret [] (.tuple #[]) (fun a w hf hh=>Z.res0 rfl w) (⟨rfl,rfl⟩)
def F.slices_symMergeCmpFunc_api_Edge_graph_Edges_1_r:Nat→(List D46)→Int→Int→Int→Option Unit
 |0,_,_,_,_=>none
 |f+1,a0,a1,a2,a3=>F.slices_symMergeCmpFunc_api_Edge_graph_Edges_1 (F.slices_symMergeCmpFunc_api_Edge_graph_Edges_1_r f) a0 a1 a2 a3
theorem slices_symMergeCmpFunc_api_Edge_graph_Edges_1_r_ok: ∀f,∀(a0:(List D46)) (a1:Int) (a2:Int) (a3:Int) (A0_:Option Addr) (c1_:Nat) (h2_:IntKind.i64.has a1) (h3_:IntKind.i64.has a2) (h4_:IntKind.i64.has a3) (r:Unit),F.slices_symMergeCmpFunc_api_Edge_graph_Edges_1_r f a0 a1 a2 a3=some r→A.Ct Tryd.prog 81 [.slice A0_ ((a0).length) c1_,.int .i64 a1,.int .i64 a2,.int .i64 a3,.func (.func 35) #[] #[]] [(0,.ln T46 A0_ c1_ a0)] [] (fun v H'=>v=.tuple #[]∧H'=[])
 |0=>fun _ _ _ _ _ _ _ _ _ r hF=>A.no0 hF
 |f+1=>fun a0 a1 a2 a3 A0_ c1_ h2_ h3_ h4_ r hF=>slices_symMergeCmpFunc_api_Edge_graph_Edges_1_ok (F.slices_symMergeCmpFunc_api_Edge_graph_Edges_1_r f) a0 a1 a2 a3 A0_ c1_ h2_ h3_ h4_ (slices_symMergeCmpFunc_api_Edge_graph_Edges_1_r_ok f) r hF
def F.slices_stableCmpFunc_api_Edge_graph_Edges_1_j1 (k12:Int→Option Unit)(y11:Int):Option Unit:=A.gd (Z.R64 (y11*2)) (k12 (y11*2))
def F.slices_stableCmpFunc_api_Edge_graph_Edges_1_l2 (k12:Int→Option Unit)(a0:(List D46))(a1:Int)(y11:Int):Nat→Int→Int→Option Unit
 |0,_,_=>none
 |f+1,y15,y17=>if y17≤a1 then(A.gd (Z.R64 (y15+y11)) ((F.slices_symMergeCmpFunc_api_Edge_graph_Edges_1_r A.FU a0 y15 (y15+y11) y17).bind fun r21=>(A.gd (Z.R64 (2*y11)∧Z.R64 (y17+(2*y11))) ((F.slices_stableCmpFunc_api_Edge_graph_Edges_1_l2 k12 a0 a1 y11 f) y17 (y17+(2*y11))))))else(A.gd (Z.R64 (y15+y11)) (if y15+y11<a1 then((F.slices_symMergeCmpFunc_api_Edge_graph_Edges_1_r A.FU a0 y15 (y15+y11) a1).bind fun r26=>(F.slices_stableCmpFunc_api_Edge_graph_Edges_1_j1 k12 y11))else(F.slices_stableCmpFunc_api_Edge_graph_Edges_1_j1 k12 y11)))
def F.slices_stableCmpFunc_api_Edge_graph_Edges_1_l3 (a0:(List D46))(a1:Int):Nat→Int→Option Unit
 |0,_=>none
 |f+1,y11=>if y11<a1 then(A.gd (Z.R64 (2*y11)) (F.slices_stableCmpFunc_api_Edge_graph_Edges_1_l2 (F.slices_stableCmpFunc_api_Edge_graph_Edges_1_l3 a0 a1 f) a0 a1 y11 A.FU 0 (2*y11)))else(some ())
def F.slices_stableCmpFunc_api_Edge_graph_Edges_1_l4 (a0:(List D46))(a1:Int):Nat→Int→Int→Option Unit
 |0,_,_=>none
 |f+1,y1,y3=>if y3≤a1 then((F.slices_insertionSortCmpFunc_api_Edge_graph_Edges_1 a0 y1 y3).bind fun r6=>(A.gd (Z.R64 (y3+20)) ((F.slices_stableCmpFunc_api_Edge_graph_Edges_1_l4 a0 a1 f) y3 (y3+20))))else((F.slices_insertionSortCmpFunc_api_Edge_graph_Edges_1 a0 y1 a1).bind fun r9=>(F.slices_stableCmpFunc_api_Edge_graph_Edges_1_l3 a0 a1 A.FU 20))
def F.slices_stableCmpFunc_api_Edge_graph_Edges_1 (a0:(List D46))(a1:Int):Option Unit:=F.slices_stableCmpFunc_api_Edge_graph_Edges_1_l4 a0 a1 A.FU 0 20
theorem slices_stableCmpFunc_api_Edge_graph_Edges_1_ok (a0:(List D46))(a1:Int)(A0_:Option Addr)(c1_:Nat)(h2_:IntKind.i64.has a1)(r:Unit)(hF:F.slices_stableCmpFunc_api_Edge_graph_Edges_1 a0 a1=some r):
    A.Ct Tryd.prog 57 [.slice A0_ ((a0).length) c1_,.int .i64 a1,.func (.func 35) #[] #[]] [(0,.ln T46 A0_ c1_ a0)] [] (fun v H'=>v=.tuple #[]∧H'=[]):=by
 refine A.Ct.enter Tryd.func57 rfl Tryd.ntmps57 rfl fun w0 F0=>?_
 rw[F.slices_stableCmpFunc_api_Edge_graph_Edges_1]at hF
 refine A.xl 1 ?_
 refine A.q0 [] [] [.n] [(6,.int .i64 20)] ?_
 refine A.dl 2 ?_
 refine A.q0 [] [] [.n,.n,.n] [(7,.int .i64 0),(8,.int .i64 20)] ?_
 refine A.dx 3 ?_
 refine A.lp_ [0,1,2,6] [0] (fun f nl nh=>∃(y1:Int),∃(y3:Int),nl=[(7,.int .i64 y1),(8,.int .i64 y3)]∧nh=[]∧IntKind.i64.has y1∧IntKind.i64.has y3∧F.slices_stableCmpFunc_api_Edge_graph_Edges_1_l4 a0 a1 f y1 y3=some r) ⟨0,20,rfl,rfl,(A.hasl .i64 (0) rfl),(A.hasl .i64 (20) rfl),hF⟩ ?_
 rintro f5 _ _ ⟨y1,y3,rfl,rfl,hy2,hy4,hF⟩
 rcases f5 with _|f5
 ·exact A.no0 hF
 rw[F.slices_stableCmpFunc_api_Edge_graph_Edges_1_l4]at hF
 refine A.xl 2 ?_
 refine A.q0 [] [] [.n,.n,.n] [(13,.bool (decide (y3≤a1)))] ?_
 refine A.dx 1 ?_
 refine A.AX.cnd rfl hF (fun hb hF=>?_) (fun hb hF=>?_)
 ·refine A.xl 4 ?_
  refine A.q0 [] [] [.n,.n,.n,.n] [(14,.slice A0_ ((a0).length) c1_),(15,.int .i64 y1),(16,.int .i64 y3),(17,.func (.func 35) #[] #[])] ?_
  obtain⟨r6,hv7,hF⟩:=A.bd_some hF
  refine A.AL.call 1601 [] (first:=[]) (cap:=[]) cf80 (slices_insertionSortCmpFunc_api_Edge_graph_Edges_1_ok a0 y1 y3 A0_ c1_ hy2 hy4 r6 hv7) (.s 0 .nil) ?_
  rintro _ _ ⟨rfl,rfl⟩
  refine⟨by kernel_rfl,?_⟩
  refine A.dl 2 ?_
  refine A.q0 [] [] [.n,.n] [(7,.int .i64 y3)] ?_
  refine A.dl 1 ?_
  obtain⟨hc8,hF⟩:=A.gd_some hF
  refine A.q [] [] [.n,.n,.n,.n] [Z.R64 (y3+20)] [(8,.int .i64 (y3+20))] hc8 ?_
  refine A.de 1 ?_
  exact A.j ⟨_,Nat.lt_succ_self _,⟨y3,(y3+20),rfl,rfl,hy4,(Z.i64_has hc8),hF⟩⟩
 refine A.xl 3 ?_
 refine A.q0 [] [] [.n,.n,.n,.n] [(23,.slice A0_ ((a0).length) c1_),(24,.int .i64 y1),(25,.int .i64 a1),(26,.func (.func 35) #[] #[])] ?_
 obtain⟨r9,hv10,hF⟩:=A.bd_some hF
 refine A.AL.call 1641 [] (first:=[]) (cap:=[]) cf80 (slices_insertionSortCmpFunc_api_Edge_graph_Edges_1_ok a0 y1 a1 A0_ c1_ hy2 h2_ r9 hv10) (.s 0 .nil) ?_
 rintro _ _ ⟨rfl,rfl⟩
 refine⟨by kernel_rfl,?_⟩
 refine A.dx 2 ?_
 refine A.lp_ [0,1,2] [0] (fun f nl nh=>∃(y11:Int),nl=[(6,.int .i64 y11)]∧nh=[]∧IntKind.i64.has y11∧F.slices_stableCmpFunc_api_Edge_graph_Edges_1_l3 a0 a1 f y11=some r) ⟨20,rfl,rfl,(A.hasl .i64 (20) rfl),hF⟩ ?_
 rintro f13 _ _ ⟨y11,rfl,rfl,hy12,hF⟩
 rcases f13 with _|f13
 ·exact A.no0 hF
 rw[F.slices_stableCmpFunc_api_Edge_graph_Edges_1_l3]at hF
 refine A.xl 2 ?_
 refine A.q0 [] [] [.n,.n,.n] [(30,.bool (decide (y11<a1)))] ?_
 refine A.dx 1 ?_
 refine A.AX.cnd rfl hF (fun hb hF=>?_) (fun hb hF=>?_)
 ·refine A.xl 4 ?_
  obtain⟨hc14,hF⟩:=A.gd_some hF
  refine A.q [] [] [.n,.n,.n,.n] [Z.R64 (2*y11)] [(7,.int .i64 0),(8,.int .i64 (2*y11))] hc14 ?_
  refine A.dx 3 ?_
  refine A.lp_ [0,1,2,6] [0] (fun f nl nh=>∃(y15:Int),∃(y17:Int),nl=[(7,.int .i64 y15),(8,.int .i64 y17)]∧nh=[]∧IntKind.i64.has y15∧IntKind.i64.has y17∧F.slices_stableCmpFunc_api_Edge_graph_Edges_1_l2 (F.slices_stableCmpFunc_api_Edge_graph_Edges_1_l3 a0 a1 f13) a0 a1 y11 f y15 y17=some r) ⟨0,(2*y11),rfl,rfl,(A.hasl .i64 (0) rfl),(Z.i64_has hc14),hF⟩ ?_
  rintro f19 _ _ ⟨y15,y17,rfl,rfl,hy16,hy18,hF⟩
  rcases f19 with _|f19
  ·exact A.no0 hF
  rw[F.slices_stableCmpFunc_api_Edge_graph_Edges_1_l2]at hF
  refine A.xl 2 ?_
  refine A.q0 [] [] [.n,.n,.n] [(35,.bool (decide (y17≤a1)))] ?_
  refine A.dx 1 ?_
  refine A.AX.cnd rfl hF (fun hb hF=>?_) (fun hb hF=>?_)
  ·refine A.xl 4 ?_
   obtain⟨hc20,hF⟩:=A.gd_some hF
   refine A.q [] [] [.n,.n,.n,.n,.n,.n,.n] [Z.R64 (y15+y11)] [(36,.slice A0_ ((a0).length) c1_),(37,.int .i64 y15),(40,.int .i64 (y15+y11)),(41,.int .i64 y17),(42,.func (.func 35) #[] #[])] hc20 ?_
   obtain⟨r21,hv22,hF⟩:=A.bd_some hF
   refine A.AL.call 2321 [] (first:=[]) (cap:=[]) cf81 (slices_symMergeCmpFunc_api_Edge_graph_Edges_1_r_ok A.FU a0 y15 (y15+y11) y17 A0_ c1_ hy16 (Z.i64_has hc20) hy18 r21 hv22) (.s 0 .nil) ?_
   rintro _ _ ⟨rfl,rfl⟩
   refine⟨by kernel_rfl,?_⟩
   refine A.dl 2 ?_
   refine A.q0 [] [] [.n,.n] [(7,.int .i64 y17)] ?_
   refine A.dl 1 ?_
   obtain⟨hc23,hF⟩:=A.gd_some hF
   refine A.q [] [] [.n,.n,.n,.n,.n] [Z.R64 (2*y11),Z.R64 (y17+(2*y11))] [(8,.int .i64 (y17+(2*y11)))] hc23 ?_
   refine A.de 1 ?_
   exact A.j ⟨_,Nat.lt_succ_self _,⟨y17,(y17+(2*y11)),rfl,rfl,hy18,(Z.i64_has hc23.2),hF⟩⟩
  refine A.xx 2 ?_
  refine A.AX.join [0,1,2,6] [0] (fun nl nh=>nl=[]∧nh=[]∧F.slices_stableCmpFunc_api_Edge_graph_Edges_1_j1 (F.slices_stableCmpFunc_api_Edge_graph_Edges_1_l3 a0 a1 f13) y11=some r) ?_ ?_
  ·refine A.xl 1 ?_
   obtain⟨hc25,hF⟩:=A.gd_some hF
   refine A.q [] [] [.n,.n,.n,.n] [Z.R64 (y15+y11)] [(9,.int .i64 (y15+y11))] hc25 ?_
   refine A.dl 2 ?_
   refine A.q0 [] [] [.n,.n,.n] [(54,.bool (decide (y15+y11<a1)))] ?_
   refine A.dx 1 ?_
   refine A.AX.cnd rfl hF (fun hb hF=>?_) (fun hb hF=>?_)
   ·refine A.xl 0 ?_
    refine A.q0 [] [] [.n,.n,.n,.n,.n] [(55,.slice A0_ ((a0).length) c1_),(56,.int .i64 y15),(57,.int .i64 (y15+y11)),(58,.int .i64 a1),(59,.func (.func 35) #[] #[])] ?_
    obtain⟨r26,hv27,hF⟩:=A.bd_some hF
    refine A.AL.call 2361 [] (first:=[]) (cap:=[]) cf81 (slices_symMergeCmpFunc_api_Edge_graph_Edges_1_r_ok A.FU a0 y15 (y15+y11) a1 A0_ c1_ hy16 (Z.i64_has hc25) h2_ r26 hv27) (.s 0 .nil) ?_
    rintro _ _ ⟨rfl,rfl⟩
    refine⟨by kernel_rfl,?_⟩
    refine A.AL.done ?_
    exact A.j ⟨rfl,rfl,hF⟩
   refine A.xe 1 ?_
   exact A.j ⟨rfl,rfl,hF⟩
  rintro _ _ ⟨rfl,rfl,hF⟩
  rw[F.slices_stableCmpFunc_api_Edge_graph_Edges_1_j1]at hF
  refine A.xl 0 ?_
  obtain⟨hc24,hF⟩:=A.gd_some hF
  refine A.q [] [] [.n,.n,.n] [Z.R64 (y11*2)] [(6,.int .i64 (y11*2))] hc24 ?_
  refine A.de 1 ?_
  exact A.j ⟨_,Nat.lt_succ_self _,⟨(y11*2),rfl,rfl,(Z.i64_has hc24),hF⟩⟩
 refine A.xe 1 ?_
 obtain rfl:=Option.some.inj hF
 exact A.AE.ret [] (.tuple #[]) (fun a w hf hh=>Z.res0 rfl w) (⟨rfl,rfl⟩)
def F.slices_SortStableFunc_api_Edge_api_Edge_graph_Edges_1 (a0:(List D46)):Option Unit:=(F.slices_stableCmpFunc_api_Edge_graph_Edges_1 a0 ((a0).length:Int)).bind fun r2=>(some ())
theorem slices_SortStableFunc_api_Edge_api_Edge_graph_Edges_1_ok (a0:(List D46))(A0_:Option Addr)(c1_:Nat)(r:Unit)(hF:F.slices_SortStableFunc_api_Edge_api_Edge_graph_Edges_1 a0=some r):
    A.Ct Tryd.prog 34 [.slice A0_ ((a0).length) c1_,.func (.func 35) #[] #[]] [(0,.ln T46 A0_ c1_ a0)] [] (fun v H'=>v=.tuple #[]∧H'=[]):=by
 refine A.Ct.enter Tryd.func34 rfl Tryd.ntmps34 rfl fun w0 F0=>?_
 rw[F.slices_SortStableFunc_api_Edge_api_Edge_graph_Edges_1]at hF
 refine A.xl 0 ?_
 refine A.q0 [] [] [.n,.n,.n,.n] [(4,.slice A0_ ((a0).length) c1_),(6,.int .i64 ((a0).length:Int)),(7,.func (.func 35) #[] #[])] ?_
 refine A.okl 0 fun hl1=>?_
 obtain⟨r2,hv3,hF⟩:=A.bd_some hF
 refine A.AL.call 1 [] (first:=[]) (cap:=[]) cf57 (slices_stableCmpFunc_api_Edge_graph_Edges_1_ok a0 ((a0).length:Int) A0_ c1_ (A.has_len hl1.1) r2 hv3) (.s 0 .nil) ?_
 rintro _ _ ⟨rfl,rfl⟩
 refine⟨by kernel_rfl,?_⟩
 refine A.AL.done ?_
 obtain rfl:=Option.some.inj hF
 exact A.AE.ret [] (.tuple #[]) (fun a w hf hh=>Z.res0 rfl w) (⟨rfl,rfl⟩)
def F.graph_Edges (a0:D23):Option ((List D46)×Int):=(F.graph_whole a0).bind fun r2=>A.om r2.1 (if r2.2≠0 then(some ([],r2.2))else(none)) fun p5=>(if r2.2≠0 then(some ([],r2.2))else((F.graph_plan_edges (p5.1,p5.2.1,p5.2.2) a0).bind fun r12=>((F.slices_SortStableFunc_api_Edge_api_Edge_graph_Edges_1 r12).bind fun r16=>(some (r12,0)))))
theorem graph_Edges_ok (a0:D23)(A0_:Option Addr)(c1_:Nat)(r:(List D46)×Int)(hF:F.graph_Edges a0=some r):
    A.Ct Tryd.prog 12 [.agg #[.slice A0_ ((a0).length) c1_]] [(0,.sh (.slice T32) [.slice A0_ (a0).length c1_] a0),(1,.el none 0 0 A.tabF),(2,.el none 1 0 A.tabA)] [] (fun v H'=>∃(A0':Option Addr) (c1':Nat),v=.tuple #[.slice A0' ((r.1).length) c1',.int .i64 r.2]∧H'=[(0,.own T46 47 A0' c1' r.1)]∧IntKind.i64.has r.2):=by
 refine A.Ct.enter Tryd.func12 rfl Tryd.ntmps12 rfl fun w0 F0=>?_
 rw[F.graph_Edges]at hF
 refine A.xl 1 ?_
 refine A.AL.box 3 (cs:=[.slice A0_ ((a0).length) c1_]) fun g1=>?_
 refine A.q0 [] [] [.n,.n] [] ?_
 refine A.dl 2 ?_
 refine A.q0 [3] [] [.b 0 0] [(8,.agg #[.slice A0_ ((a0).length) c1_])] ?_
 obtain⟨r2,hv3,hF⟩:=A.bd_some hF
 refine A.AL.call 4 [] (first:=[]) (cap:=[]) cf32 (graph_whole_ok a0 A0_ c1_ r2 hv3) (.s 0 (.s 1 (.s 2 .nil))) ?_
 rintro _ _ (⟨hp18,rfl,rfl,hr4⟩|⟨p5,hp18,g6,b7,A8,c9,b10,rfl,rfl,hr11⟩)
 ·refine⟨by kernel_rfl,?_⟩
  rw[A.om_n hp18]at hF
  refine A.q0 [] [] [.n,.n,.n,.n,.n] [(4,.pointer none),(5,.int .i64 r2.2)] ?_
  refine A.dl 3 ?_
  refine A.q0 [] [] [.n,.n] [(13,.bool (decide (r2.2≠0)))] ?_
  refine A.dx 1 ?_
  refine A.AX.cnd rfl hF (fun hb hF=>?_) (fun hb hF=>?_)
  ·refine A.xl 1 ?_
   refine A.q0 [] [] [.n,.n,.n] [(2,.slice none 0 0),(3,.int .i64 r2.2)] ?_
   refine A.dx 1 ?_
   obtain rfl:=Option.some.inj hF
   refine A.nil 44 T46 47 ?_
   exact A.rt2 [(0,44)] ⟨none,0,rfl,rfl,hr4⟩
  refine A.xl 3 ?_
  refine A.q0 [3] [] [.n,.b 0 0] [(15,.pointer none),(16,.agg #[.slice A0_ ((a0).length) c1_])] ?_
  exact A.no0 hF
 refine⟨by kernel_rfl,?_⟩
 rw[A.om_s hp18]at hF
 refine A.q0 [] [] [.n,.n,.n,.n,.n] [(4,.pointer (some ⟨g6,0,none⟩)),(5,.int .i64 r2.2)] ?_
 refine A.dl 3 ?_
 refine A.q0 [] [] [.n,.n] [(13,.bool (decide (r2.2≠0)))] ?_
 refine A.dx 1 ?_
 refine A.AX.cnd rfl hF (fun hb hF=>?_) (fun hb hF=>?_)
 ·refine A.xl 1 ?_
  refine A.q0 [] [] [.n,.n,.n] [(2,.slice none 0 0),(3,.int .i64 r2.2)] ?_
  refine A.dx 1 ?_
  obtain rfl:=Option.some.inj hF
  refine A.nil 45 T46 47 ?_
  exact A.rt2 [(0,45)] ⟨none,0,rfl,rfl,hr11⟩
 refine A.xl 3 ?_
 refine A.q0 [3] [] [.n,.b 0 0] [(15,.pointer (some ⟨g6,0,none⟩)),(16,.agg #[.slice A0_ ((a0).length) c1_])] ?_
 obtain⟨r12,hv13,hF⟩:=A.bd_some hF
 refine A.AL.call 46 [] (first:=[]) (cap:=[]) cf33 (graph_plan_edges_ok (p5.1,p5.2.1,p5.2.2) a0 g6 b7 A8 c9 b10 A0_ c1_ r12 hv13) (.m 4 (.m 5 (.m 6 (.m 7 (.s 0 .nil))))) ?_
 rintro _ _ ⟨A14,c15,rfl,rfl⟩
 refine⟨by kernel_rfl,?_⟩
 refine A.mvd 47 4 [] ?_
 refine A.mvd 48 5 [] ?_
 refine A.mvd 49 6 [] ?_
 refine A.mvd 50 7 [] ?_
 refine A.q0 [] [] [.n] [(6,.slice A14 ((r12).length) c15)] ?_
 refine A.dl 2 ?_
 refine A.q0 [] [] [.n] [(18,.slice A14 ((r12).length) c15)] ?_
 obtain⟨r16,hv17,hF⟩:=A.bd_some hF
 refine A.AL.call 86 [] (first:=[]) (cap:=[]) cf34 (slices_SortStableFunc_api_Edge_api_Edge_graph_Edges_1_ok r12 A14 c15 r16 hv17) (.o 46 .nil) ?_
 rintro _ _ ⟨rfl,rfl⟩
 refine⟨by kernel_rfl,?_⟩
 refine A.dl 2 ?_
 refine A.q0 [] [] [.n,.n,.n] [(2,.slice A14 ((r12).length) c15),(3,.int .i64 0)] ?_
 refine A.dx 1 ?_
 obtain rfl:=Option.some.inj hF
 exact A.rt2 [(0,46)] ⟨A14,c15,rfl,rfl,(A.hasl .i64 (0) rfl)⟩
end Go.Proofs.YtpdhaldfdeamdaaDoor
end
