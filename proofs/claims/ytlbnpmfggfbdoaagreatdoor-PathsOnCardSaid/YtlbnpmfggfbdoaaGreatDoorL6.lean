/- Functions on data, what they tell, and that the code computes them. -/
import Derived.Test.YtlbnpmfggfbdoaaGreatDoorL0
import Derived.Test.YtlbnpmfggfbdoaaGreatDoorL1
import Derived.Test.YtlbnpmfggfbdoaaGreatDoorL2
import Derived.Test.YtlbnpmfggfbdoaaGreatDoorL3
import Derived.Test.YtlbnpmfggfbdoaaGreatDoorL4
import Derived.Test.YtlbnpmfggfbdoaaGreatDoorL5
import Derived.Lib.TrimUEq
set_option linter.unusedVariables false
set_option linter.unusedSimpArgs false
set_option maxRecDepth 20000
set_option maxHeartbeats 8000000
set_option synthInstance.maxSize 1000000
set_option synthInstance.maxHeartbeats 400000
section
namespace Go.Proofs.YtlbnpmfggfbdoaaGreatDoor
open Go.RowKit
abbrev l6a:List Value:=[A.i 0,A.i 0,A.i 0]
variable(A0_ A1_ A2_ A4_ A5_ A7_ A10_ A12_ A13_:Option Addr)(b0_ g0_ b1_ c1_ c2_ g2_ c3_ b4_ b5_ c5_ b6_ c6_ c8_ g8_ g9_ g10_ c11_ c13_ c14_ g15_:Nat)
def F.cM (e:Int→Option Bool)(a:Int)(h:Bool):Option Bool:=if h=true then(some false)else(A.gd (Z.R64 (a+1)) (e (a+1)))
def F.a8 (a:D62)(e:(List D44)):Nat→Int→Option Bool
 |0,_=>none
 |f+1,h=>if h<(e.length:Int)then((A.ix e h).bind fun o=>((F.af o a).bind fun k=>(if k.2=0 then((F.dm k.1 a).bind fun p=>(F.cM (F.a8 a e f) h p))else(F.cM (F.a8 a e f) h false))))else(some true)
def F.bj (a:D62)(e:(List D57)×Int)(h:Int)(k:Int)(o:Bool):Option Bool:=if o=true then(some false)else((F.dl e.1 (h,k)).bind fun p=>(F.a8 a p A.FU 0))
def F.d5 (a:D62)(o:D62)(p:D62)(e:(List D57)×Int)(h:Int)(k:Int)(J:Int)(s:Int)(t:Int)(L:Int)(u:Int)(w:Int)(N:Int):Option Bool:=(F.br a).bind fun x=>(if(!x)=true then((F.br o).bind fun y=>(if(!y)=true then((F.br p).bind fun z=>(if(!z)=true then((F.cJ e.1 (h,k) a (s,t) o).bind fun B=>(if B=true then((F.cJ e.1 (s,t) o (u,w) p).bind fun E=>(if E=true then((F.cJ e.1 (h,k) a (u,w) p).bind fun I=>(F.bj a e h k (!I)))else(F.bj a e h k false)))else(F.bj a e h k false)))else(F.bj a e h k false)))else(F.bj a e h k false)))else(F.bj a e h k false))
def F.ck (t:D23)(o:UInt8)(p:UInt8)(s:UInt8)(u:D62)(w:D62)(x:D62)(y:(List D57)×Int)(z:Bool):Option Bool:=if z=true then((F.eh).bind fun B=>(some B))else((F.dp t).bind fun a=>(if(a.1.length:Int)=0 then(some true)else(A.gd (Z.R64 ((o.toNat:Int))∧Z.R64 ((p.toNat:Int))∧Z.R64 ((s.toNat:Int))∧(a.1.length:Int)≠0∧(a.1.length:Int)≠0∧(a.1.length:Int)≠0) ((A.ix a.1 (Int.tmod (o.toNat:Int) (a.1.length:Int))).bind fun e=>((A.ix a.1 (Int.tmod (p.toNat:Int) (a.1.length:Int))).bind fun h=>((A.ix a.1 (Int.tmod (s.toNat:Int) (a.1.length:Int))).bind fun k=>(F.d5 u w x y e.1.1 e.1.2 e.2 h.1.1 h.1.2 h.2 k.1.1 k.1.2 k.2)))))))
def F.d9 (a:D23)(h:UInt8)(k:UInt8)(o:UInt8)(p:D62)(s:D62)(t:D62):Option Bool:=(F.a9 a).bind fun e=>((F.eh).bind fun u=>(if(!u)=true then(F.ck a h k o p s t e true)else((F.eS a).bind fun w=>(F.ck a h k o p s t e (bif !w then true else decide (e.2≠0))))))
theorem o_bb(L:D23)(a1:UInt8)(a2:UInt8)(a3:UInt8)(x:D62)(E:D62)(I:D62)(af:A.h6 x.1)(ag:A.h6 x.2.1)(ah:A.h6 x.2.2.1)(ai:A.h6 x.2.2.2.1)(aj:A.h6 x.2.2.2.2.1)(ak:A.h6 x.2.2.2.2.2)(av:A.h6 E.1)(aw:A.h6 E.2.1)(ax:A.h6 E.2.2.1)(ay:A.h6 E.2.2.2.1)(az:A.h6 E.2.2.2.2.1)(b0:A.h6 E.2.2.2.2.2)(b1:A.h6 I.1)(b2:A.h6 I.2.1)(b3:A.h6 I.2.2.1)(b4:A.h6 I.2.2.2.1)(b5:A.h6 I.2.2.2.2.1)(b6:A.h6 I.2.2.2.2.2)(r:Bool)(h:F.d9 L a1 a2 a3 x E I=some r):
    A.Ct Tryz.prog 6 [.agg #[.slice A0_ L.length c1_],.int .u8 (a1.toNat:Int),.int .u8 (a2.toNat:Int),.int .u8 (a3.toNat:Int),(A.rah x),(A.rah E),(A.rah I)] [(0,.sh (.slice T83) [.slice A0_ L.length c1_] L),(1,.el none 0 0 A.tabF),(2,.el none 1 0 A.tabA)] [] (fun v H'=>v=.bool r∧H'=[]):=by
 refine J1 Tryz.func6 rfl Tryz.ntmps6 rfl fun w0 F0=>?_;rw[F.d9]at h;refine Jw 1 ?_;refine Va 3 (cs:=[.slice A0_ L.length c1_]) fun g1=>?_;refine Va 4 (cs:=(A.rab x)) fun g2=>?_;refine Va 5 (cs:=(A.rab E)) fun g3=>?_;refine Va 6 (cs:=(A.rab I)) fun g4=>?_;refine J3 1 [] (Vb 2 ?_);refine J2 [3] [] [.b 0 0] [(28,.agg #[.slice A0_ L.length c1_])] ?_;refine Vv 7 [] h (o_aI A0_ c1_ L) (.s 0 (.s 1 (.s 2 .nil))) ?_;rintro J - h _ _ ⟨Y,c8,rfl,rfl,hr9⟩;refine Vf ?_;refine J3 5 [(15,.slice Y J.1.length c8),(16,A.i J.2)] (Jy 2 ?_);refine J7 [1,2,3,7,11,12,13,15] [0,1,2,3,4,5,6,7] (fun nl nh=>∃(b7:Bool),nl=[(42,.bool b7)]∧nh=[]∧F.ck L a1 a2 a3 x E I J b7=some r) ?_ ?_
 ·refine Jw 0 ?_;refine Vv 47 [] h o_aP (.s 1 (.s 2 .nil)) ?_;rintro bx - h _ _ ⟨rfl,rfl⟩;refine Vf ?_;refine J3 2 [(34,.bool (!bx))] ?_;refine Vs (j:=34) rfl h (fun h=>?_) (fun h=>?_)
  ·refine J2 [] [] [.off,.off,.off,.n,.n,.off,.off,.n] [(42,.bool true)] (Jz ?_);exact Vk ⟨true,rfl,rfl,h⟩
  refine J2 [3] [] [.on (.b 0 0)] [(35,.agg #[.slice A0_ L.length c1_])] ?_;refine Vi (dj:=34) rfl rfl ?_;refine Vv 87 [] h (o_bY A0_ c1_ L) (.s 0 .nil) ?_;rintro bk - h _ _ ⟨rfl,rfl⟩;refine Vf ?_;refine J2 [] [] [.on .n,.n,.n,.sy .n,.sy .n,.pk] [(42,.bool (bif !bk then true else decide (J.2≠0)))] (Jz ?_);exact Vk ⟨(bif !bk then true else decide (J.2≠0)),rfl,rfl,h⟩
 rintro _ _ ⟨b7,rfl,rfl,h⟩;rw[F.ck]at h;refine Ue h ?_ ?_<;>intro hb h
 ·refine Jw 1 ?_;refine Vv 127 [] h o_aP (.s 1 (.s 2 .nil)) ?_;rintro bz - h _ _ ⟨rfl,rfl⟩;refine Vf ?_;refine J3 1 [(14,.bool bz)] (Jy 1 ?_);obtain rfl:=J8 h;exact J9 [] ⟨rfl,rfl⟩
 refine Jw 3 ?_;refine J2 [3] [] [.b 0 0] [(45,.agg #[.slice A0_ L.length c1_])] ?_;refine Vv 167 [] h (o_bL A0_ c1_ L) (.s 0 .nil) ?_;rintro N - h _ _ ⟨al,am,rfl,rfl,hr17⟩;refine Vf ?_;refine J3 5 [(17,.slice al N.1.length am)] (Vb 3 ?_);refine J3 3 [(51,.bool (decide ((N.1.length:Int)=0)))] (Jy 1 ?_);refine Vu h ?_ ?_<;>intro hb h
 ·refine Jw 1 ?_;refine J3 1 [(14,.bool true)] (Jy 1 ?_);obtain rfl:=J8 h;exact J9 [] ⟨rfl,rfl⟩
 refine V6 2 ?_;refine J7 [11,12,13,15] [1,2,4,5,6,7] (fun nl nh=>∃(O:Int),∃(U:Int),∃(an:Int),∃(a9:Int),∃(aa:Int),∃(ao:Int),∃(ab:Int),∃(ac:Int),∃(aq:Int),∃(b9:Nat),∃(bb:Nat),∃(bc:Nat),nl=[(19,.pointer (some ⟨b9,0,none⟩)),(20,.pointer (some ⟨bb,0,none⟩)),(21,.pointer (some ⟨bc,0,none⟩))]∧nh=[(930,.blk b9 42 [A.i O,A.i U,A.i an]),(960,.blk bb 42 [A.i a9,A.i aa,A.i ao]),(990,.blk bc 42 [A.i ab,A.i ac,A.i aq])]∧A.h6 O∧A.h6 U∧A.h6 an∧A.h6 a9∧A.h6 aa∧A.h6 ao∧A.h6 ab∧A.h6 ac∧A.h6 aq∧F.d5 x E I J O U an a9 aa ao ab ac aq=some r) ?_ ?_
 ·refine A.AX.drF mixed 29 30 [0,0,2,0,8,20,33,64,0,0,512,0,2048,5120,8448,16384,0,0,131072,0,524288,1310720,2162688,4194304,0,0,0,117440767,251723775,536870911] [0,0,2,0,8,20,33,64,0,0,512,0,2048,5120,8448,16384,0,0,131072,0,524288,1310720,2162688,4194304,0,0,0,16777344,33587200,75497472] fun hT79=>?_;have⟨c0,h⟩:=Vt h;refine A.AH.qF hT79 J6 [] [0,1,2,3,4,5,6,7,167] [] [] 0 4144959 12 [(0,.n),(1,.n),(3,.n),(8,.n),(9,.n),(11,.n),(16,.n),(17,.n),(19,.n),(2,.n),(4,.n),(10,.n),(12,.n),(18,.n),(20,.n),(5,.n),(13,.n),(21,.n)] [52,60,68,57,65,73] [Z.R64 ((a1.toNat:Int)),Z.R64 ((a2.toNat:Int)),Z.R64 ((a3.toNat:Int)),(N.1.length:Int)≠0,(N.1.length:Int)≠0,(N.1.length:Int)≠0] [(52,.slice al N.1.length am),(60,.slice al N.1.length am),(68,.slice al N.1.length am),(57,A.i (Int.tmod (a1.toNat:Int) (N.1.length:Int))),(65,A.i (Int.tmod (a2.toNat:Int) (N.1.length:Int))),(73,A.i (Int.tmod (a3.toNat:Int) (N.1.length:Int)))] c0 ?_;have⟨k,bl,h⟩:=Vy h;refine Up 167 207 bl fun y=>?_;intro cb c1;refine Vh J6 [0,1,2,3,4,5,6,7,167] [0,1,2,3,4,5,6,7,167,207] 6 (A.mb 30 4145023) rfl (fun a w hf hh=>Uy (t:=T41) bl c1 hf) ?_;refine A.AH.qF hT79 J6 [0,1,2,3,4,5,6,7,167,207] [0,1,2,3,4,5,6,7,167,207] [] [207] 4145023 4145151 10 [(7,.e 0 0)] [59] [] [(59,(A.raj k))] trivial ?_;have⟨p,bm,h⟩:=Vy h;refine Up 167 208 bm fun z=>?_;intro cc c2;refine Vh J6 [0,1,2,3,4,5,6,7,167,207] [0,1,2,3,4,5,6,7,167,207,208] 14 (A.mb 30 4161535) rfl (fun a w hf hh=>Uy (t:=T41) bm c2 hf) ?_;refine A.AH.qF hT79 J6 [0,1,2,3,4,5,6,7,167,207,208] [0,1,2,3,4,5,6,7,167,207,208] [] [208] 4161535 4194303 8 [(15,.e 0 0)] [67] [] [(67,(A.raj p))] trivial ?_;have⟨u,bp,h⟩:=Vy h;refine Up 167 209 bp fun B=>?_;intro cd c3;refine Vh J6 [0,1,2,3,4,5,6,7,167,207,208] [0,1,2,3,4,5,6,7,167,207,208,209] 22 (A.mb 30 8388607) rfl (fun a w hf hh=>Uy (t:=T41) bp c3 hf) ?_;refine A.AH.qF hT79 J6 [0,1,2,3,4,5,6,7,167,207,208,209] [0,1,2,3,4,5,6,7,167,207,208,209] [] [209] 8388607 16777215 6 [(23,.e 0 0)] [75] [] [(75,(A.raj u))] trivial ?_;refine A.AH.thr 24 25 26 ?_ ?_ ?_
  ·refine J5 930 (cs:=l6a) Tryz.zeroValue42 fun V=>?_;refine A.AH.nxF 33554431 [0,1,2,3,4,5,6,7,167,207,208,209] ?_;refine A.AH.twoF hT79 25 26 ?_ ?_
   ·refine J5 960 (cs:=l6a) Tryz.zeroValue42 fun W=>?_;refine A.AH.nxF 67108863 [0,1,2,3,4,5,6,7,167,207,208,209] ?_;refine A.AH.oneF hT79 26 ?_;refine J5 990 (cs:=l6a) Tryz.zeroValue42 fun X=>?_;refine A.AH.nxF 134217727 [0,1,2,3,4,5,6,7,167,207,208,209] ?_;refine A.AH.oneF hT79 27 ?_;refine Vp 930 [] (A.rad k) ?_;refine A.AH.nxF 268435455 [0,1,2,3,4,5,6,7,167,207,208,209] ?_;refine A.AH.oneF hT79 28 ?_;refine Vp 960 [] (A.rad p) ?_;refine A.AH.nxF 536870911 [0,1,2,3,4,5,6,7,167,207,208,209] ?_;refine A.AH.oneF hT79 29 ?_;refine Vp 990 [] (A.rad u) ?_;refine A.AH.nmF 1073741823 ?_;refine A.AH.doneF hT79 ?_;exact Vk ⟨k.1.1,k.1.2,k.2,p.1.1,p.1.2,p.2,u.1.1,u.1.2,u.2,V,W,X,rfl,rfl,y.1.1,y.1.2,y.2,z.1.1,z.1.2,z.2,B.1.1,B.1.2,B.2,h⟩
   refine J5 990 (cs:=l6a) Tryz.zeroValue42 fun X=>?_;refine A.AH.nxF 100663295 [0,1,2,3,4,5,6,7,167,207,208,209] ?_;refine A.AH.oneF hT79 25 ?_;refine J5 960 (cs:=l6a) Tryz.zeroValue42 fun W=>?_;refine A.AH.nxF 134217727 [0,1,2,3,4,5,6,7,167,207,208,209] ?_;refine A.AH.oneF hT79 27 ?_;refine Vp 930 [] (A.rad k) ?_;refine A.AH.nxF 268435455 [0,1,2,3,4,5,6,7,167,207,208,209] ?_;refine A.AH.oneF hT79 28 ?_;refine Vp 960 [] (A.rad p) ?_;refine A.AH.nxF 536870911 [0,1,2,3,4,5,6,7,167,207,208,209] ?_;refine A.AH.oneF hT79 29 ?_;refine Vp 990 [] (A.rad u) ?_;refine A.AH.nmF 1073741823 ?_;refine A.AH.doneF hT79 ?_;exact Vk ⟨k.1.1,k.1.2,k.2,p.1.1,p.1.2,p.2,u.1.1,u.1.2,u.2,V,W,X,rfl,rfl,y.1.1,y.1.2,y.2,z.1.1,z.1.2,z.2,B.1.1,B.1.2,B.2,h⟩
  ·refine J5 960 (cs:=l6a) Tryz.zeroValue42 fun W=>?_;refine A.AH.nxF 50331647 [0,1,2,3,4,5,6,7,167,207,208,209] ?_;refine A.AH.twoF hT79 24 26 ?_ ?_
   ·refine J5 930 (cs:=l6a) Tryz.zeroValue42 fun V=>?_;refine A.AH.nxF 67108863 [0,1,2,3,4,5,6,7,167,207,208,209] ?_;refine A.AH.oneF hT79 26 ?_;refine J5 990 (cs:=l6a) Tryz.zeroValue42 fun X=>?_;refine A.AH.nxF 134217727 [0,1,2,3,4,5,6,7,167,207,208,209] ?_;refine A.AH.oneF hT79 27 ?_;refine Vp 930 [] (A.rad k) ?_;refine A.AH.nxF 268435455 [0,1,2,3,4,5,6,7,167,207,208,209] ?_;refine A.AH.oneF hT79 28 ?_;refine Vp 960 [] (A.rad p) ?_;refine A.AH.nxF 536870911 [0,1,2,3,4,5,6,7,167,207,208,209] ?_;refine A.AH.oneF hT79 29 ?_;refine Vp 990 [] (A.rad u) ?_;refine A.AH.nmF 1073741823 ?_;refine A.AH.doneF hT79 ?_;exact Vk ⟨k.1.1,k.1.2,k.2,p.1.1,p.1.2,p.2,u.1.1,u.1.2,u.2,V,W,X,rfl,rfl,y.1.1,y.1.2,y.2,z.1.1,z.1.2,z.2,B.1.1,B.1.2,B.2,h⟩
   refine J5 990 (cs:=l6a) Tryz.zeroValue42 fun X=>?_;refine A.AH.nxF 117440511 [0,1,2,3,4,5,6,7,167,207,208,209] ?_;refine A.AH.oneF hT79 24 ?_;refine J5 930 (cs:=l6a) Tryz.zeroValue42 fun V=>?_;refine A.AH.nxF 134217727 [0,1,2,3,4,5,6,7,167,207,208,209] ?_;refine A.AH.oneF hT79 27 ?_;refine Vp 930 [] (A.rad k) ?_;refine A.AH.nxF 268435455 [0,1,2,3,4,5,6,7,167,207,208,209] ?_;refine A.AH.oneF hT79 28 ?_;refine Vp 960 [] (A.rad p) ?_;refine A.AH.nxF 536870911 [0,1,2,3,4,5,6,7,167,207,208,209] ?_;refine A.AH.oneF hT79 29 ?_;refine Vp 990 [] (A.rad u) ?_;refine A.AH.nmF 1073741823 ?_;refine A.AH.doneF hT79 ?_;exact Vk ⟨k.1.1,k.1.2,k.2,p.1.1,p.1.2,p.2,u.1.1,u.1.2,u.2,V,W,X,rfl,rfl,y.1.1,y.1.2,y.2,z.1.1,z.1.2,z.2,B.1.1,B.1.2,B.2,h⟩
  refine J5 990 (cs:=l6a) Tryz.zeroValue42 fun X=>?_;refine A.AH.nxF 83886079 [0,1,2,3,4,5,6,7,167,207,208,209] ?_;refine A.AH.twoF hT79 24 25 ?_ ?_
  ·refine J5 930 (cs:=l6a) Tryz.zeroValue42 fun V=>?_;refine A.AH.nxF 100663295 [0,1,2,3,4,5,6,7,167,207,208,209] ?_;refine A.AH.oneF hT79 25 ?_;refine J5 960 (cs:=l6a) Tryz.zeroValue42 fun W=>?_;refine A.AH.nxF 134217727 [0,1,2,3,4,5,6,7,167,207,208,209] ?_;refine A.AH.oneF hT79 27 ?_;refine Vp 930 [] (A.rad k) ?_;refine A.AH.nxF 268435455 [0,1,2,3,4,5,6,7,167,207,208,209] ?_;refine A.AH.oneF hT79 28 ?_;refine Vp 960 [] (A.rad p) ?_;refine A.AH.nxF 536870911 [0,1,2,3,4,5,6,7,167,207,208,209] ?_;refine A.AH.oneF hT79 29 ?_;refine Vp 990 [] (A.rad u) ?_;refine A.AH.nmF 1073741823 ?_;refine A.AH.doneF hT79 ?_;exact Vk ⟨k.1.1,k.1.2,k.2,p.1.1,p.1.2,p.2,u.1.1,u.1.2,u.2,V,W,X,rfl,rfl,y.1.1,y.1.2,y.2,z.1.1,z.1.2,z.2,B.1.1,B.1.2,B.2,h⟩
  refine J5 960 (cs:=l6a) Tryz.zeroValue42 fun W=>?_;refine A.AH.nxF 117440511 [0,1,2,3,4,5,6,7,167,207,208,209] ?_;refine A.AH.oneF hT79 24 ?_;refine J5 930 (cs:=l6a) Tryz.zeroValue42 fun V=>?_;refine A.AH.nxF 134217727 [0,1,2,3,4,5,6,7,167,207,208,209] ?_;refine A.AH.oneF hT79 27 ?_;refine Vp 930 [] (A.rad k) ?_;refine A.AH.nxF 268435455 [0,1,2,3,4,5,6,7,167,207,208,209] ?_;refine A.AH.oneF hT79 28 ?_;refine Vp 960 [] (A.rad p) ?_;refine A.AH.nxF 536870911 [0,1,2,3,4,5,6,7,167,207,208,209] ?_;refine A.AH.oneF hT79 29 ?_;refine Vp 990 [] (A.rad u) ?_;refine A.AH.nmF 1073741823 ?_;refine A.AH.doneF hT79 ?_;exact Vk ⟨k.1.1,k.1.2,k.2,p.1.1,p.1.2,p.2,u.1.1,u.1.2,u.2,V,W,X,rfl,rfl,y.1.1,y.1.2,y.2,z.1.1,z.1.2,z.2,B.1.1,B.1.2,B.2,h⟩
 rintro _ _ ⟨O,U,an,a9,aa,ao,ab,ac,aq,b9,bb,bc,rfl,rfl,bd,be,ce,bq,br,cf,bs,bt,ch,h⟩;rw[F.d5]at h;refine Jw 1 ?_;refine J3 1 [(22,.func (.func 23) #[] #[])] (Jy 2 ?_);refine J7 [11,15,19] [1,2,4,7,930] (fun nl nh=>∃(bg:Bool),nl=[(122,.bool bg)]∧nh=[]∧F.bj x J O U bg=some r) ?_ ?_
 ·refine Jw 0 ?_;refine J2 [4] [] [.n,.b 0 0] [(76,.func (.func 23) #[] #[]),(77,(A.rah x))] ?_;refine Vv 1110 [] h (o_af x af ag ah ai aj ak) .nil ?_;rintro c4 - h _ _ ⟨rfl,rfl⟩;refine Vf ?_;refine J3 2 [(80,.bool (!c4))] ?_;refine Vs (j:=80) rfl h (fun h=>?_) (fun h=>?_)
  ·refine J2 [5] [] [.on .n,.on (.b 0 0)] [(81,.func (.func 23) #[] #[]),(82,(A.rah E))] ?_;refine Vi (dj:=80) rfl rfl ?_;refine Vv 1150 [] h (o_af E av aw ax ay az b0) .nil ?_;rintro c5 - h _ _ ⟨rfl,rfl⟩;refine Vf ?_;refine J2 [] [] [.on .n,.n,.n] [(86,.bool (!c5))] ?_;refine Vs (j:=86) rfl h (fun h=>?_) (fun h=>?_)
   ·refine J2 [6] [] [.on .n,.on (.b 0 0)] [(87,.func (.func 23) #[] #[]),(88,(A.rah I))] ?_;refine Vi (dj:=86) rfl rfl ?_;refine Vv 1190 [] h (o_af I b1 b2 b3 b4 b5 b6) .nil ?_;rintro c6 - h _ _ ⟨rfl,rfl⟩;refine Vf ?_;refine J2 [] [] [.on .n,.n,.n] [(92,.bool (!c6))] ?_;refine Vs (j:=92) rfl h (fun h=>?_) (fun h=>?_)
    ·refine J2 [930,4,960,5] [] [.on .n,.on .n,.on (.b 0 0),.on (.b 1 0),.on .n,.on (.b 2 0),.on (.b 3 0)] [(93,.slice Y J.1.length c8),(95,.agg #[A.i O,A.i U]),(96,(A.rah x)),(98,.agg #[A.i a9,A.i aa]),(99,(A.rah E))] ?_;refine Vi (dj:=92) rfl rfl ?_;refine Vv 1230 [] h (o_ap Y c8 J.1 (O,U) x (a9,aa) E bd be af ag ah ai aj ak bq br av aw ax ay az b0) (.o 7 .nil) ?_;rintro c7 - h _ _ ⟨rfl,rfl⟩;refine Vf ?_;refine J3 2 [(102,.bool c7)] ?_;refine Vs (j:=102) rfl h (fun h=>?_) (fun h=>?_)
     ·refine J2 [960,5,990,6] [] [.on .n,.on .n,.on (.b 0 0),.on (.b 1 0),.on .n,.on (.b 2 0),.on (.b 3 0)] [(103,.slice Y J.1.length c8),(105,.agg #[A.i a9,A.i aa]),(106,(A.rah E)),(108,.agg #[A.i ab,A.i ac]),(109,(A.rah I))] ?_;refine Vi (dj:=102) rfl rfl ?_;refine Vv 1270 [] h (o_ap Y c8 J.1 (a9,aa) E (ab,ac) I bq br av aw ax ay az b0 bs bt b1 b2 b3 b4 b5 b6) (.o 7 .nil) ?_;rintro c9 - h _ _ ⟨rfl,rfl⟩;refine Vf ?_;refine J3 2 [(112,.bool c9)] ?_;refine Vs (j:=112) rfl h (fun h=>?_) (fun h=>?_)
      ·refine J2 [930,4,990,6] [] [.on .n,.on .n,.on (.b 0 0),.on (.b 1 0),.on .n,.on (.b 2 0),.on (.b 3 0)] [(113,.slice Y J.1.length c8),(115,.agg #[A.i O,A.i U]),(116,(A.rah x)),(118,.agg #[A.i ab,A.i ac]),(119,(A.rah I))] ?_;refine Vi (dj:=112) rfl rfl ?_;refine Vv 1310 [] h (o_ap Y c8 J.1 (O,U) x (ab,ac) I bd be af ag ah ai aj ak bs bt b1 b2 b3 b4 b5 b6) (.o 7 .nil) ?_;rintro bu - h _ _ ⟨rfl,rfl⟩;refine Vf ?_;refine J2 [] [] [.on .n,.n] [(122,.bool (!bu))] (Jz ?_);exact Vk ⟨(!bu),rfl,rfl,h⟩
      refine J2 [] [] [.off,.off,.off,.off,.off,.off,.off,.off,.off,.n] [(122,.bool false)] (Jz ?_);exact Vk ⟨false,rfl,rfl,h⟩
     refine J2 [] [] [.off,.off,.off,.off,.off,.off,.off,.off,.n,.n,.off,.off,.off,.off,.off,.off,.off,.off,.off,.n] [(122,.bool false)] (Jz ?_);exact Vk ⟨false,rfl,rfl,h⟩
    refine J2 [] [] [.off,.off,.off,.off,.off,.off,.off,.off,.n,.n,.off,.off,.off,.off,.off,.off,.off,.off,.n,.n,.off,.off,.off,.off,.off,.off,.off,.off,.off,.n] [(122,.bool false)] (Jz ?_);exact Vk ⟨false,rfl,rfl,h⟩
   refine J2 [] [] [.off,.off,.off,.off,.n,.n,.off,.off,.off,.off,.off,.off,.off,.off,.n,.n,.off,.off,.off,.off,.off,.off,.off,.off,.n,.n,.off,.off,.off,.off,.off,.off,.off,.off,.off,.n] [(122,.bool false)] (Jz ?_);exact Vk ⟨false,rfl,rfl,h⟩
  refine J2 [] [] [.off,.off,.off,.off,.n,.n,.off,.off,.off,.off,.n,.n,.off,.off,.off,.off,.off,.off,.off,.off,.n,.n,.off,.off,.off,.off,.off,.off,.off,.off,.n,.n,.off,.off,.off,.off,.off,.off,.off,.off,.off,.n] [(122,.bool false)] (Jz ?_);exact Vk ⟨false,rfl,rfl,h⟩
 rintro _ _ ⟨bg,rfl,rfl,h⟩;rw[F.bj]at h;refine Ue h ?_ ?_<;>intro hb h
 ·refine Jw 1 ?_;refine J3 1 [(14,.bool false)] (Jy 1 ?_);obtain rfl:=J8 h;exact J9 [] ⟨rfl,rfl⟩
 refine Jw 4 ?_;refine J2 [930] [] [.n,.n,.b 0 0] [(123,.slice Y J.1.length c8),(125,.agg #[A.i O,A.i U])] ?_;refine Vv 1350 [] h (o_a7 Y c8 J.1 (O,U) bd be) (.o 7 .nil) ?_;rintro ar - h _ _ ⟨ci,cj,rfl,rfl⟩;refine Vf ?_;refine J3 2 [(127,A.i (ar.length:Int)),(128,A.i 0)] (Jy 2 ?_);refine Vo [11,126,127] [1,2,4,1350] (fun f nl nh=>∃(a7:Int),nl=[(128,A.i a7)]∧nh=[]∧A.h6 a7∧F.a8 x ar f a7=some r) ⟨0,rfl,rfl,J0,h⟩ ?_;rintro bh _ _ ⟨a7,rfl,rfl,cm,h⟩;rcases bh with _|bh
 ·exact Vm h
 rw[F.a8]at h;refine Jw 1 ?_;refine J3 1 [(129,.bool (decide (a7<(ar.length:Int))))] (Jy 2 ?_);refine Vu h ?_ ?_<;>intro hb h
 ·refine Jw 5 ?_;have⟨au,ca,h⟩:=Vy h;refine V0 1350 1556 ca fun ad=>?_;intro cn co;refine J2 [] [1556] [.e 0 0] [(131,(A.rai au))] ?_;refine J5 1557 (cs:=A.zz8) Tryz.zeroValue45 fun cp=>?_;refine Vp 1557 [] (A.rac au) ?_;refine Vb 2 ?_;refine J2 [1557,4] [] [.b 0 0,.b 1 0] [(133,(A.rai au)),(134,(A.rah x))] ?_;refine Vv 1558 [] h (o_bM au x ad.1 ad.2.1 ad.2.2.1 ad.2.2.2.1 ad.2.2.2.2.1 ad.2.2.2.2.2.1 ad.2.2.2.2.2.2.1 ad.2.2.2.2.2.2.2 af ag ah ai aj ak) .nil ?_;rintro ae - h _ _ ⟨rfl,rfl,hr55,hr56,hr57,hr58,hr59,hr60,hr61⟩;refine Vf ?_;refine J3 3 [(136,(A.rah ae.1)),(137,A.i ae.2)] ?_;refine J5 1598 (cs:=A.zz6) Tryz.zeroValue63 fun cq=>?_;refine Vp 1598 [] (A.rab ae.1) ?_;refine J3 1 [(26,A.i ae.2)] (Jy 1 ?_);refine J7 [11,126,127,128] [1,2,4,1350] (fun nl nh=>∃(bi:Bool),nl=[(144,.bool bi)]∧nh=[]∧F.cM (F.a8 x ar bh) a7 bi=some r) ?_ ?_
  ·refine Jw 0 ?_;refine J3 3 [(140,.bool (decide (ae.2=0)))] ?_;refine V2 (j:=140) rfl h ?_ ?_<;>intro hb h
   ·refine J2 [1598,4] [] [.on (.b 0 0),.on (.b 1 0)] [(141,(A.rah ae.1)),(142,(A.rah x))] ?_;refine Vi (dj:=140) rfl rfl ?_;refine Vv 1599 [] h (o_b0 ae.1 x hr55 hr56 hr57 hr58 hr59 hr60 af ag ah ai aj ak) .nil ?_;rintro bv - h _ _ ⟨rfl,rfl⟩;refine Vf ?_;refine J3 1 [(144,.bool bv)] (Jz ?_);exact Vk ⟨bv,rfl,rfl,h⟩
   refine J2 [] [] [.off,.off,.off,.n] [(144,.bool false)] (Jz ?_);exact Vk ⟨false,rfl,rfl,h⟩
  rintro _ _ ⟨bi,rfl,rfl,h⟩;rw[F.cM]at h;refine Ue h ?_ ?_<;>intro hb h
  ·refine Jw 1 ?_;refine J3 1 [(14,.bool false)] (Jy 1 ?_);obtain rfl:=J8 h;exact J9 [] ⟨rfl,rfl⟩
  refine Jw 3 ?_;have⟨bw,h⟩:=Vt h;refine Uc 2 [Z.R64 (a7+1)] [(128,A.i (a7+1))] bw (Jz ?_);exact Vk ⟨_,Qi _,⟨(a7+1),rfl,rfl,(J4 bw),h⟩⟩
 refine Jw 3 ?_;refine J3 1 [(14,.bool true)] (Jy 1 ?_);obtain rfl:=J8 h;exact J9 [] ⟨rfl,rfl⟩
end Go.Proofs.YtlbnpmfggfbdoaaGreatDoor
end
section
namespace Go.Proofs.YtlbnpmfggfbdoaaGreatDoor
open Go.RowKit
end Go.Proofs.YtlbnpmfggfbdoaaGreatDoor
end
section
namespace Go.A
open Go.RowKit Go.Z
section
variable {r:Option Nat}{P:Program}{ops:Array Oper}{Q:Exit→Act→World→Prop}{C:Cx}{l:List (Nat×Value)}{H Hq:List (Nat×Res)}{m f:Nat}{li:List Bool}
end
end Go.A
end
section
namespace Go.Proofs.YtlbnpmfggfbdoaaGreatDoor
open Go.RowKit
end Go.Proofs.YtlbnpmfggfbdoaaGreatDoor
end
section
end
section
namespace Go.A
open Go.RowKit Go.Z Go.Shelf Go.Proofs Go.Lib
def Hall (W:World):List (Nat×Res)→Prop
 | []=>True
 |p::H=>(p.2.bl=[]∧p.2.ref=none∧p.2.holds W (fun _=>True) (fun _ _=>False))∧Hall W H
theorem Hall.at {W:World}: ∀{H:List (Nat×Res)} {k:Nat} {r:Res},Hall W H→hk H k=some r→r.bl=[]∧r.ref=none∧r.holds W (fun _=>True) (fun _ _=>False)
 | [],_,_,_,h=>by cases h
 |(d,u)::H,k,r,I,h=>by
  rw[Qaa]at h
  split at h
  ·injection h with h;subst h;exact I.1
  ·exact I.2.at h
theorem Hp.start {W:World}{H:List (Nat×Res)}(h:Hall W H):Hp ⟨0,[],W,[],fun _=>True⟩ H W:=by
 have I: ∀k b,¬Bk H k b:=fun k b ⟨r,Y,N⟩=>by rw[(h.at Y).1]at N;cases N
 refine⟨Ch.refl W,fun k r hk=>?_,fun k b J=>(I k b J).elim,fun k k' b J=>(I k b J).elim,fun k r j hk O=>?_⟩
 ·exact Res.to (S:=[]) (h.at hk).2.2 (Ch.refl W) (fun b _ _=>⟨by simp,fun k=>I k b,.inl trivial⟩) (fun b _ _=>⟨by simp,fun k=>I k b⟩) (fun i b _ hf=>hf.elim) (by simp)
 ·rw[(h.at hk).2.1]at O;cases O
theorem Hall.sh {W:World}{t:Ty}{cs:List Value}{x:t.den}{F:Nat→Prop}(h:t.rep W F cs x):(Res.sh t cs x).bl=[]∧(Res.sh t cs x).ref=none∧(Res.sh t cs x).holds W (fun _=>True) (fun _ _=>False):=
 ⟨rfl,rfl,Qcz h fun _ _ _=>trivial⟩
def putCells (cs:List Value):Obj→Obj
 | .cells _ t frozen=>.cells cs.toArray t frozen
 |o=>o
theorem tab_cells {w:World}{O W:Nat}(h:Lib.Utf8Tabs O W w):Cells w ⟨O,0,none⟩ tabF∧Cells w ⟨W,0,none⟩ tabA:=by
 constructor
 ·intro j u I
  rw[Addr.add_lit,Wh]
  have N:j<256:=by have:=(Qc.1 I).1;simpa[tabF] using this
  have e:tabF[j]?=some (.int .u8 (firstT j)):=by simp[tabF,N]
  rw[e]at I;injection I with I;subst I
  exact h.1 j N
 ·intro j u I
  rw[Addr.add_lit,Wh]
  have N:j<32:=by have:=(Qc.1 I).1;simpa[tabA] using this
  have e:tabA[j]?=some (.int .u8 (if j%2=0 then accLo (j / 2)else accHi (j / 2))):=by simp[tabA,N]
  rw[e]at I;injection I with I;subst I
  have:=h.2 (j / 2) (by omega)
  by_cases Y:j%2=0
  ·rw[if_pos Y]
   have J:j=2*(j / 2):=by omega
   rw[J];simpa using this.1
  ·rw[if_neg Y]
   have J:j=2*(j / 2)+1:=by omega
   have h3:(2*(j / 2)+1) / 2=j / 2:=by omega
   rw[J,h3];exact this.2
theorem Hall.tabs {w:World}{I J i j:Nat}(h:Lib.Utf8Tabs I J w):Hall w [(i,.el none I 0 tabF),(j,.el none J 0 tabA)]:=by
 obtain⟨N,O⟩:=tab_cells h
 exact⟨⟨rfl,rfl,N,World.block_lt_of_cell? w _ (N 0 (.int .u8 (firstT 0)) (by simp[tabF])),fun _ h=>h⟩,⟨rfl,rfl,O,World.block_lt_of_cell? w _ (O 0 (.int .u8 (accLo 0)) (by simp[tabA])),fun _ h=>h⟩,trivial⟩
end Go.A
end
section
namespace Go.Graph
abbrev Fun:=Int×Int×ByteArray
abbrev Nd:=Int×Int×List Int×Fun×ByteArray×Int×Int
abbrev Pl:=Int×Int
abbrev Sp:=Pl×Int
abbrev id (x:Nd):Int:=x.1
abbrev kind (x:Nd):Int:=x.2.1
abbrev ins (x:Nd):List Int:=x.2.2.1
abbrev fn (x:Nd):Fun:=x.2.2.2.1
abbrev name (x:Nd):ByteArray:=x.2.2.2.2.1
abbrev cap (x:Nd):Int:=x.2.2.2.2.2.1
abbrev dep (x:Nd):Int:=x.2.2.2.2.2.2
def Few (g:List Nd):Prop:=g.length≤40∧∀x,x∈g→x.2.2.1.length≤5000∧x.2.2.2.2.1.size≤5000∧x.2.2.2.1.2.2.size≤5000
theorem Few.in {g:List Nd}{k:Nat}{x:Nd}(h:Few g)(I:g[k]?=some x):x.2.2.1.length≤5000:=(h.2 x (Qg I)).1
theorem dropc {α:Type}{xs:List α}{k:Nat}{x:α}(h:xs[k]?=some x):xs.drop k=x::xs.drop (k+1):=by
 obtain⟨I,J⟩:=Qc.1 h
 rw[X1 I,J]
def insK (k:Int):Int:=if k<1∨16<k then-1 else if k=1 then 0 else if k=5∨k=9 then 2 else 1
def Qav (c:UInt8):Bool:=decide ((97:Int)≤(c.toNat:Int)∧(c.toNat:Int)≤122∨(65:Int)≤(c.toNat:Int)∧(c.toNat:Int)≤90)
def Qgm (c:UInt8):Bool:=decide ((48:Int)≤(c.toNat:Int)∧(c.toNat:Int)≤57)
def Qcu (l:List UInt8):Bool:=l.all fun c=>Qav c||Qgm c
def named (s:ByteArray):Bool:=decide (s≠ByteArray.mk #[])&&decide ((s.size:Int)≤16)&&Qav (Z.bat s 0)&&Qcu s.data.toList
theorem Qfl {s:ByteArray}{i:Nat}(h:i<s.size):s.data.toList.drop i=Z.bat s i::s.data.toList.drop (i+1):=by
 have h':i<s.data.toList.length:=by simpa using h
 rw[X1 h']
 have I:i<s.data.size:=h
 congr 1
 simp[Z.bat,Wi I]
theorem Qfr {s:ByteArray}{i:Nat}(h: ¬i<s.size):s.data.toList.drop i=[]:=
 Q2 (by have I:s.data.toList.length=s.size:=rfl;omega)
theorem Qfp {s:ByteArray}(h:s≠ByteArray.mk #[]):0<s.size:=by
 rcases Nat.eq_zero_or_pos s.size with I|I
 ·have J:s.data=#[]:=Array.eq_empty_of_size_eq_zero I
  exact absurd (by cases s;simp_all) h
 ·exact I
def idxF (id:Int):Nat→List Nd→Int
 |_,[]=> -1
 |k,x::r=>if x.1=id then(k:Int)else idxF id (k+1) r
def idx (g:List Nd)(id:Int):Int:=idxF id 0 g
def Qck (kd:Int)(s:ByteArray):List Nd→Int×Bool
 | []=>(0,false)
 |x::r=>if kind x=kd∧name x=s then(x.1,true)else Qck kd s r
def z0:Nd:=(0,0,[],(0,0,ByteArray.mk #[]),ByteArray.mk #[],0,0)
def at_ (g:List Nd)(i:Int):Nd:=(g[i.toNat]?).getD z0
def find (g:List Nd)(id:Int):Nd×Bool:=if idx g id<0 then(z0,false)else(at_ g (idx g id),true)
theorem idxF_le (id:Int): ∀(k:Nat) (g:List Nd),-1≤idxF id k g∧idxF id k g<k+g.length
 |k,[]=>by simp[idxF];omega
 |k,x::r=>by
  unfold idxF
  have:=idxF_le id (k+1) r
  by_cases h:x.1=id
  ·rw[if_pos h];simp only[Qh];omega
  ·rw[if_neg h];simp only[Qh];omega
theorem idx_le (g:List Nd)(id:Int): -1≤idx g id∧idx g id<g.length:=by
 have:=idxF_le id 0 g
 unfold idx;omega
theorem Qax {g:List Nd}{i:Int}{x:Nd}{k:Nat}(hk:i=(k:Int))(h:g[k]?=some x):at_ g i=x:=by
 subst hk;simp[at_,h]
def ownT (g:List Nd)(n:Nd):Bool:=if n.2.1≠1∧n.2.1≠15 then decide (n.2.2.2.2.1=ByteArray.mk #[])else named n.2.2.2.2.1&&decide ((Qck n.2.1 n.2.2.2.2.1 g).1=n.1)
def ownC (n:Nd):Prop:=n.2.1=14∧(n.2.2.2.2.2.1<1∨8<n.2.2.2.2.2.1∨n.2.2.2.2.2.2<1∨4<n.2.2.2.2.2.2)∨n.2.1≠14∧(n.2.2.2.2.2.1≠0∨n.2.2.2.2.2.2≠0)
instance (n:Nd):Decidable (ownC n):=by unfold ownC;infer_instance
def own (g:List Nd)(i:Int)(n:Nd):Bool:=
 if n.1<1∨255<n.1∨0<i∧n.1≤(at_ g (i-1)).1∨insK n.2.1<0∨(n.2.2.1.length:Int)≠insK n.2.1 then false else if ownC n then false else ownT g n
def bget (l:List Bool)(i:Int):Bool:=(l[i.toNat]?).getD false
def iget (l:List Int)(i:Int):Int:=(l[i.toNat]?).getD 0
def Fed (g:List Nd):Prop:=∀x,x∈g→∀k,k∈x.2.2.1→0≤idx g k
def Qeh (g:List Nd)(done:List Bool)(kd:Int):List Int→Bool
 | []=>true
 |k::r=>if kd≠14∧bget done (idx g k)=false then false else Qeh g done kd r
def ready (g:List Nd)(done:List Bool)(n:Nd):Bool:=Qeh g done n.2.1 n.2.2.1
def Qaf (g:List Nd)(done:List Bool):Nat→List Nd→Int→Int
 |_,[],a=>a
 |i,x::r,a=>Qaf g done (i+1) r (if(a<0∧bget done i=false)∧ready g done x=true then i else a)
def Qar (g:List Nd):Nat→List Bool→List Int→Option (List Int)
 |0,_,l=>some l
 |f+1,done,l=>if Qaf g done 0 g (-1)<0 then none else Qar g f (done.set (Qaf g done 0 g (-1)).toNat true) (l++[Qaf g done 0 g (-1)])
def d0:List Int→Int
 | []=>0
 |a::_=>a
def capd (d:Int):Int:=if 4<d then-1 else d
def Qcw (n:Nd)(l:List Int):Int:=if n.2.1=14 then n.2.2.2.2.2.2 else if n.2.1=12 then d0 l+1 else if n.2.1=13 then d0 l-1 else
 if n.2.1=5∨n.2.1=9 then(if iget l 0≠iget l 1 then-1 else d0 l)else if n.2.1=11∨n.2.1=16∨n.2.1=15 then(if d0 l≠0 then-1 else d0 l)else d0 l
def depthOf (n:Nd)(l:List Int):Int:=capd (Qcw n l)
theorem Qix {l:List Int}:iget l 0=d0 l:=by cases l<;>rfl
theorem d0_nil {l:List Int}(h:l.length=0):0=d0 l:=by cases l with
 |nil=>rfl
 |cons a r=>simp at h
def Qam (g:List Nd):List Int→List Int→Option (List Int)
 | [],d=>some d
 |p::r,d=>if depthOf (at_ g p) ((at_ g p).2.2.1.map fun k=>iget d (idx g k))<0 then none else Qam g r (d.set p.toNat (depthOf (at_ g p) ((at_ g p).2.2.1.map fun k=>iget d (idx g k))))
def Qbk (g:List Nd)(d:List Int):List Nd→Bool
 | []=>true
 |x::r=>if x.2.1=14∧iget d (idx g (iget x.2.2.1 0))≠x.2.2.2.2.2.2 then false else Qbk g d r
theorem Qdy (g:List Nd)(done:List Bool): ∀(i:Nat) (l:List Nd) (a:Int),-1≤a→a<i+l.length→ -1≤Qaf g done i l a∧Qaf g done i l a<i+l.length
 |i,[],a,J,I=>by simp[Qaf]at*;omega
 |i,x::r,a,J,I=>by
  unfold Qaf
  simp only[Qh]at I ⊢
  have:=Qdy g done (i+1) r (if(a<0∧bget done i=false)∧ready g done x=true then i else a) (by split<;>omega) (by split<;>omega)
  omega
theorem firstF_x {g:List Nd}{done:List Bool}{k:Nat}{a:Int}{x:Nd}(I:g[k]?=some x):Qaf g done k (g.drop k) a=Qaf g done (k+1) (g.drop (k+1)) (if(a<0∧bget done k=false)∧ready g done x=true then k else a):=by
 rw[dropc I];simp only[Qaf]
def depths (g:List Nd)(l:List Int):List Int×Bool:=match Qam g l (List.replicate g.length 0)with
 |some d=>if Qbk g d g then(d,true)else([],false)
 |none=>([],false)
abbrev inD (g:List Nd) (d:List Int) (l:List Int):List Int:=l.map fun k=>iget d (idx g k)
def InB (d:List Int):Prop:=∀i,0≤iget d i∧iget d i≤4
theorem InB.rep (n:Nat):InB (List.replicate n 0):=fun i=>by
 unfold iget;rw[Xc];split<;>simp
theorem Qfh (n:Nd)(l:List Int):depthOf n l≤4:=by unfold depthOf capd;split<;>omega
theorem InB.set {d:List Int}(h:InB d)(p:Nat){v:Int}(I:0≤v)(J:v≤4):InB (d.set p v):=fun i=>by
 unfold iget;rw[Y0]
 have:=h i
 unfold iget at this
 split
 ·split<;>simp<;>omega
 ·exact this
theorem InB.d0 {d:List Int}(h:InB d)(g:List Nd)(l:List Int): -1≤Graph.d0 (inD g d l)∧Graph.d0 (inD g d l)≤4:=by
 cases l with
 |nil=>simp[Graph.d0]
 |cons k r=>have:=h (idx g k);simp only[inD,Q3,Graph.d0];omega
theorem inD_take {g:List Nd}{d l:List Int}{k:Nat}{x:Int}(h:l[k]?=some x):inD g d (l.take k)++[iget d (idx g x)]=inD g d (l.take (k+1)):=by
 have I:=(Qc.1 h)
 rw[Xw,h];simp[inD]
theorem depthsF_x {g:List Nd}{l d:List Int}{k:Nat}{p:Int}{n:Nd}(hp:l[k]?=some p)(I:at_ g p=n):Qam g (l.drop k) d=if depthOf n (inD g d n.2.2.1)<0 then none else Qam g (l.drop (k+1)) (d.set p.toNat (depthOf n (inD g d n.2.2.1))):=by
 rw[dropc hp];simp only[Qam,I,inD]
def insS (g:List Nd)(d:List Int)(id:Int):Nat→List Int→List Sp
 |_,[]=>[]
 |k,x::r=>((id,(k:Int)),iget d (idx g x))::insS g d id (k+1) r
def outS (n:Nd)(v:Int):List Sp:=if n.2.1≠15 then [((n.1,2),v)]else []
def spotsF (g:List Nd)(d:List Int):Nat→List Nd→List Sp
 |_,[]=>[]
 |i,n::r=>insS g d n.1 0 n.2.2.1++(outS n (iget d i)++spotsF g d (i+1) r)
def spots (g:List Nd)(d:List Int):List Sp:=spotsF g d 0 g
def atS (p:Pl):List Sp→Int
 | []=> -1
 |x::r=>if x.1=p then x.2 else atS p r
abbrev Sm:=Int×Int×Int×Int×(Int×Int×Int×Int)
def z8:Sm:=(0,0,0,0,(0,0,0,0))
def Qbo (d a b:Int)(s:Sm):Sm×Int:=if d<a∨b<d then(z8,11)else((d,s.2),0)
def idP (d:Int):Sm×Int:=Qbo d 0 4 (0,d,0,0,(0,0,0,0))
def Qas (d:Int):Sm×Int:=Qbo d 0 3 (0,d,0,1,(0,0,0,0))
def Qau (d:Int):Sm×Int:=Qbo d 1 4 (0,d-1,0,0,(0,0,0,0))
def Qct (d:Int):Sm×Int:=Qbo d 1 4 (0,d,1,0,(0,0,0,0))
def Qak (n:Nd)(d:Int):Sm:=if n.2.1=12 then(Qas d).1 else if n.2.1=13 then(Qau d).1 else if n.2.1=14 then(Qct d).1 else(idP d).1
theorem Qho (s:ByteArray)(pos:Nat):1≤(Utf8.decode s pos).2:=by
 unfold Utf8.decode;simp only[];repeat' split
 all_goals first|exact Q0 1|(simp;done)|omega
def Qcp (f:Fun):Bool:=if f.1=3∨f.1=13 then decide (0≤f.2.1∧f.2.1≤64)else if f.1=6∨f.1=11 then decide (1≤f.2.1∧f.2.1≤1048576)else decide (f.2.1=0)
def tail5 (c:UInt8):Bool:=decide (128≤(c.toNat:Int)∧(c.toNat:Int)≤191)
def second (s:ByteArray)(i:Nat):UInt8:=if i+1<s.size then Z.bat s (i+1)else 0
end Go.Graph
end
section
namespace Go.A
open Go.Z
theorem r64n {n:Nat}(h:n<4611686018427387904):R64 ((n:Int)+1):=⟨by omega,by omega⟩
theorem gd1 {α:Type}{p:Prop}[Decidable p](h:p)(x:Option α):gd p x=x:=if_pos h
theorem ixn {α:Type}{xs:List α}{k:Nat}{x:α}(h:xs[k]?=some x):ix xs (k:Int)=some x:=by rw[ix_nat];exact h
theorem ixg {α:Type}{xs:List α}{i:Int}{x:α}(I:0≤i)(h:xs[i.toNat]?=some x):ix xs i=some x:=by unfold ix;rw[if_neg (by omega)];exact h
theorem dropx {α:Type}{xs:List α}{k:Nat}{x:α}(h:xs[k]?=some x):xs.drop k=x::xs.drop (k+1):=by
 obtain⟨I,J⟩:=Qc.1 h
 rw[X1 I,J]
theorem ba {p q:Prop}[Decidable p][Decidable q]:(bif decide p then decide q else false)=decide (p∧q):=by by_cases h:p<;>simp[h]
theorem bo {p q:Prop}[Decidable p][Decidable q]:(bif decide p then true else decide q)=decide (p∨q):=by by_cases h:p<;>simp[h]
theorem bn {p:Prop}[Decidable p]:(!decide p)=decide (¬p):=by by_cases h:p<;>simp[h]
theorem lp {α σ ρ:Type}(xs:List α)(L:Nat→σ→Int→Option ρ)(G:Nat→List α→σ→Option ρ)(P:Nat→σ→Prop)
  (J: ∀f s,P xs.length s→L (f+1) s (xs.length:Int)=G xs.length [] s)
  (N: ∀f s (k:Nat) x,xs[k]?=some x→k<xs.length→P k s→(∀s',P (k+1) s'→L f s' ((k:Int)+1)=G (k+1) (xs.drop (k+1)) s')→L (f+1) s k=G k (x::xs.drop (k+1)) s)
  (O:xs.length<FU) (s:σ) (W:P 0 s):L FU s 0=G 0 xs s:=by
 have main: ∀(n k f:Nat) (s:σ),k+n=xs.length→n<f→P k s→L f s (k:Int)=G k (xs.drop k) s:=by
  intro n
  induction n with
  |zero=>
   intro k f s hk Y hp
   obtain⟨f,rfl⟩: ∃f',f=f'+1:=⟨f-1,by omega⟩
   obtain rfl:k=xs.length:=by omega
   rw[Q2 (Q0 _)];exact J f s hp
  |succ n ih=>
   intro k f s hk Y hp
   obtain⟨f,rfl⟩: ∃f',f=f'+1:=⟨f-1,by omega⟩
   have I:xs[k]?=some xs[k]:=Qd (by omega)
   rw[dropx I]
   exact N f s k _ I (by omega) hp fun s' hp'=>ih (k+1) f s' (by omega) (by omega) hp'
 have:=main xs.length 0 FU s (by omega) O W
 simpa using this
theorem lp0 {α ρ:Type}(xs:List α)(L:Nat→Int→Option ρ)(G:Nat→List α→Option ρ)
  (I: ∀f,L (f+1) (xs.length:Int)=G xs.length [])
  (J: ∀f (k:Nat) x,xs[k]?=some x→k<xs.length→L f ((k:Int)+1)=G (k+1) (xs.drop (k+1))→L (f+1) k=G k (x::xs.drop (k+1)))
  (N:xs.length<FU):L FU 0=G 0 xs:=
 lp xs (fun f (_:Unit) y=>L f y) (fun k l _=>G k l) (fun _ _=>True) (fun f s _=>I f) (fun f s k x O hk _ W=>J f k x O hk (W () trivial)) N () trivial
end Go.A
namespace Go.Proofs.YtlbnpmfggfbdoaaGreatDoor
open Go.RowKit Go.Graph
theorem Qab:(18446744073709551616:Nat)<A.FU:=by decide
theorem ixb {s:ByteArray}{k:Nat}(h:k<s.size):A.ix s.data.toList (k:Int)=some (Z.bat s k):=by
 refine A.ixn ?_
 have:=Qfl h
 rw[←List.head?_drop,this];rfl
theorem Qdp (s:ByteArray):s.data.toList.length=s.size:=rfl
end Go.Proofs.YtlbnpmfggfbdoaaGreatDoor
end
section
namespace Go.Proofs.YtlbnpmfggfbdoaaGreatDoor
open Go.RowKit Go.Graph
abbrev Tm:=Int×Int×(Int×Int×Int×Int)
def pus (s:Sm):List Int:=[s.2.2.2.2.1,s.2.2.2.2.2.1,s.2.2.2.2.2.2.1,s.2.2.2.2.2.2.2]
def tms (t:Tm):List Int:=[t.2.2.1,t.2.2.2.1,t.2.2.2.2.1,t.2.2.2.2.2]
structure OkS (s:Sm):Prop where
 f:0≤s.1∧s.1≤4
 n:0≤s.2.2.2.1∧s.2.2.2.1≤4
 k:0≤s.2.1∧s.2.1≤s.1
 kn:s.2.1+s.2.2.2.1≤4
 a:0≤s.2.2.1∧s.2.2.1≤1048576
 k0:s.2.1=0→s.2.2.1=0
 p: ∀(i:Nat) (x:Int),(pus s)[i]?=some x→0≤x∧x≤1048576∧(s.2.2.2.1≤(i:Int)→x=0)
theorem ix4 {a b c d i:Int}(h:0≤i∧i<4): ∃x,A.ix [a,b,c,d] i=some x∧[a,b,c,d][i.toNat]?=some x:=by
 have:i=0∨i=1∨i=2∨i=3:=by omega
 rcases this with rfl|rfl|rfl|rfl
 ·exact⟨a,rfl,rfl⟩
 ·exact⟨b,rfl,rfl⟩
 ·exact⟨c,rfl,rfl⟩
 ·exact⟨d,rfl,rfl⟩
theorem ix4s {a b c d i x:Int}(h:0≤i∧i<4):A.ix [if i=0 then x else a,if i=1 then x else b,if i=2 then x else c,if i=3 then x else d] i=some x:=by
 have:i=0∨i=1∨i=2∨i=3:=by omega
 rcases this with rfl|rfl|rfl|rfl<;>rfl
theorem ix4n {a b c d i j x:Int}(h:0≤i∧i<4)(O:0≤j∧j<4)(I:i≠j):A.ix [if i=0 then x else a,if i=1 then x else b,if i=2 then x else c,if i=3 then x else d] j=A.ix [a,b,c,d] j:=by
 have J:i=0∨i=1∨i=2∨i=3:=by omega
 have N:j=0∨j=1∨j=2∨j=3:=by omega
 rcases J with rfl|rfl|rfl|rfl<;>rcases N with rfl|rfl|rfl|rfl<;>first|rfl|exact absurd rfl I
def pok (n:Int):Nat→List Int→Bool
 |_,[]=>true
 |k,x::r=>decide (0≤x∧x≤1048576∧(n≤(k:Int)→x=0))&&pok n (k+1) r
theorem Qdo (n:Int): ∀(k:Nat) (l:List Int),pok n k l=true↔∀(i:Nat) (x:Int),l[i]?=some x→0≤x∧x≤1048576∧(n≤((k+i:Nat):Int)→x=0)
 |_,[]=>by simp[pok]
 |k,y::r=>by
  rw[pok,Ql,decide_eq_true_iff,Qdo n (k+1) r]
  constructor
  ·intro ⟨J,N⟩ i x I
   cases i with
   |zero=>simp at I;subst I;exact J
   |succ i=>
    have:=N i x (by simpa using I)
    rw[show k+1+i=k+(i+1) by omega]at this;exact this
  ·intro h
   refine⟨h 0 y rfl,fun i x I=>?_⟩
   have:=h (i+1) x (by simpa using I)
   rw[show k+1+i=k+(i+1) by omega];exact this
theorem Check_l2 (a:Sm):F.bc a A.FU 0=some (if pok a.2.2.2.1 0 (pus a)=true then 0 else 20):=
 A.lp0 (pus a) (fun f z=>F.bc a f z) (fun k l=>some (if pok a.2.2.2.1 k l=true then 0 else 20))
  (fun f=>by rw[F.bc,if_neg (by show ¬((4:Nat):Int)<4;omega)];rfl)
  (fun f k x Y hk N=>by
   have hk4:k<4:=hk
   rw[F.bc,if_pos (by omega),show A.ix [a.2.2.2.2.1,a.2.2.2.2.2.1,a.2.2.2.2.2.2.1,a.2.2.2.2.2.2.2] (k:Int)=some x from A.ixn Y]
   simp only[Qb,F.cP]
   rw[pok]
   by_cases O:x<0
   ·rw[if_pos O,if_pos trivial,if_neg (by simp;intro;omega)]
   rw[if_neg O]
   by_cases W:(1048576:Int)<x
   ·rw[if_pos W,if_pos trivial,if_neg (by simp;intro;omega)]
   rw[if_neg W]
   by_cases I:a.2.2.2.1≤(k:Int)
   ·rw[if_pos I]
    by_cases J:x=0
    ·rw[if_neg (by simp[J]),A.gd1 (A.r64n (by omega)),N]
     rw[decide_eq_true (by omega:0≤x∧x≤1048576∧(a.2.2.2.1≤(k:Int)→x=0)),Xi]
    ·rw[if_pos (by simp[J]),if_neg (by simp only[Ql,decide_eq_true_eq];intro ⟨⟨_,_,h⟩,_⟩;exact J (h I))]
   ·rw[if_neg I,if_neg (by simp),A.gd1 (A.r64n (by omega)),N]
    rw[decide_eq_true (by omega:0≤x∧x≤1048576∧(a.2.2.2.1≤(k:Int)→x=0)),Xi])
  (by show 4<A.FU;decide)
theorem Qbw (s:Sm):(F.ad s=some 0∧OkS s)∨(F.ad s=some 20∧¬OkS s):=by
 unfold F.ad
 simp only[A.bo]
 rw[A.gd1 (fun h=>by have:=of_decide_eq_false h;exact⟨by omega,by omega⟩)]
 split
 ·rename_i h
  have h:=of_decide_eq_true h
  exact .inr ⟨rfl,fun o=>by have:=o.f;have:=o.n;have:=o.k;have:=o.kn;have:=o.a;omega⟩
 ·rename_i h
  have O:=of_decide_eq_false (Xx.2 h)
  split
  ·rename_i I
   simp only[A.ba,decide_eq_true_eq]at I
   exact .inr ⟨rfl,fun o=>I.2 (o.k0 I.1)⟩
  ·rename_i I
   simp only[A.ba,decide_eq_true_eq]at I
   rw[Check_l2]
   by_cases hp:pok s.2.2.2.1 0 (pus s)=true
   ·rw[if_pos hp]
    refine .inl ⟨rfl,⟨by omega,by omega,by omega,by omega,by omega,fun h=>Q4 fun N=>I ⟨h,N⟩,fun i x J=>?_⟩⟩
    have:=(Qdo _ 0 _).1 hp i x J
    rw[Wh]at this;exact this
   ·rw[if_neg hp]
    refine .inr ⟨rfl,fun o=>hp ((Qdo _ 0 _).2 fun i x J=>?_)⟩
    rw[Wh];exact o.p i x J
theorem o_a {s:Sm}(h:OkS s):F.ad s=some 0:=(Qbw s).elim (fun h=>h.1) fun I=>absurd h I.2
structure Th (a b s:Sm):Prop where
 from_:s.1=a.1
 keep:s.2.1=min a.2.1 b.2.1
 add:s.2.2.1=(if a.2.1≤b.2.1 then a.2.2.1 else 0)+(if b.2.1≤a.2.1 then b.2.2.1 else 0)
 ends:s.2.1+s.2.2.2.1=b.2.1+b.2.2.2.1
theorem then_l2 {b:Sm}(I:OkS b): ∀(k f:Nat) (y51 y53 y55 y57 y59 y61 y63 y65 y67:Int),y67+k=b.2.2.2.1→0≤y67→0≤y57→y57+k≤4→k<f→
  ∃s e,F.bY b f y51 y53 y55 y57 y59 y61 y63 y65 y67=some (s,e)∧(e=0→OkS s∧s.1=y51∧s.2.1=y53∧s.2.2.1=y55∧s.2.2.2.1=y57+k):=by
 intro k
 induction k with
 |zero=>
  intro f y51 y53 y55 y57 y59 y61 y63 y65 y67 J N O W Y
  obtain⟨f,rfl⟩: ∃f',f=f'+1:=⟨f-1,by omega⟩
  rw[F.bY,if_neg (by omega)]
  rcases Qbw (y51,y53,y55,y57,(y59,y61,y63,y65))with⟨h,o⟩|⟨h,_⟩
  ·rw[h,Qb,if_neg (fun h=>h rfl)]
   exact⟨_,_,rfl,fun _=>⟨o,rfl,rfl,rfl,by show y57=y57+((0:Nat):Int);omega⟩⟩
  ·rw[h,Qb,if_pos (by decide)]
   exact⟨_,_,rfl,fun h=>absurd h (by decide)⟩
 |succ k ih=>
  intro f y51 y53 y55 y57 y59 y61 y63 y65 y67 J N O W Y
  obtain⟨f,rfl⟩: ∃f',f=f'+1:=⟨f-1,by omega⟩
  have hn:=I.n
  obtain⟨x,hx,_⟩:=ix4 (a:=b.2.2.2.2.1) (b:=b.2.2.2.2.2.1) (c:=b.2.2.2.2.2.2.1) (d:=b.2.2.2.2.2.2.2) (i:=y67) (by omega)
  obtain⟨z,hz,_⟩:=ix4 (a:=y59) (b:=y61) (c:=y63) (d:=y65) (i:=y57) (by omega)
  rw[F.bY,if_pos (by omega),hx,Qb,hz,Qb,A.gd1 ⟨by omega,by omega⟩,A.gd1 ⟨by omega,by omega⟩]
  obtain⟨s,e,h5,h6⟩:=ih f y51 y53 y55 (y57+1) (if y57=0 then x else y59) (if y57=1 then x else y61) (if y57=2 then x else y63) (if y57=3 then x else y65) (y67+1) (by omega) (by omega) (by omega) (by omega) (by omega)
  exact⟨s,e,h5,fun he=>by obtain⟨a1,a2,a3,a4,a5⟩:=h6 he;exact⟨a1,a2,a3,a4,by omega⟩⟩
theorem then_l3 {a b:Sm}(ha:OkS a)(I:OkS b): ∀(k f:Nat) (y11 y13 y15 y17 y19 y21 y23 y25 y27:Int),(b.2.1-y27).toNat=k→a.2.1≤y27→y17=y27-a.2.1→y17+k+b.2.2.2.1≤4→k<f→
  ∃s e,F.bz a b f y11 y13 y15 y17 y19 y21 y23 y25 y27=some (s,e)∧(e=0→OkS s∧s.1=y11∧s.2.1=y13∧s.2.2.1=y15∧s.2.2.2.1=y17+k+b.2.2.2.1):=by
 intro k
 induction k with
 |zero=>
  intro f y11 y13 y15 y17 y19 y21 y23 y25 y27 h1 h2 h3 h4 hf
  obtain⟨f,rfl⟩: ∃f',f=f'+1:=⟨f-1,by omega⟩
  have hn:=I.n
  rw[F.bz,if_neg (by omega)]
  obtain⟨s,e,J,h6⟩:=then_l2 I b.2.2.2.1.toNat A.FU y11 y13 y15 y17 y19 y21 y23 y25 0 (by omega) (by omega) (by omega) (by omega) (by have:=Qab;omega)
  exact⟨s,e,J,fun N=>by obtain⟨a1,a2,a3,a4,a5⟩:=h6 N;exact⟨a1,a2,a3,a4,by omega⟩⟩
 |succ k ih=>
  intro f y11 y13 y15 y17 y19 y21 y23 y25 y27 h1 h2 h3 h4 hf
  obtain⟨f,rfl⟩: ∃f',f=f'+1:=⟨f-1,by omega⟩
  have hn:=I.n
  have hk:=ha.k
  have hbk:=I.k
  have hbf:=I.f
  have hba:=I.a
  obtain⟨x,hx,Y⟩:=ix4 (a:=a.2.2.2.2.1) (b:=a.2.2.2.2.2.1) (c:=a.2.2.2.2.2.2.1) (d:=a.2.2.2.2.2.2.2) (i:=y27-a.2.1) (by omega)
  have hxr:=ha.p _ _ Y
  obtain⟨z,hz,_⟩:=ix4 (a:=y19) (b:=y21) (c:=y23) (d:=y25) (i:=y17) (by omega)
  rw[F.bz,if_pos (by omega),A.gd1 ⟨by omega,by omega⟩,hx,Qb,hz,Qb,A.gd1 ⟨by omega,by omega⟩,ix4s (by omega)]
  simp only[Qb,F.cn]
  have hadd:Z.R64 (x+b.2.2.1):=⟨by omega,by omega⟩
  have O:Z.R64 (y17+1):=⟨by omega,by omega⟩
  have W:Z.R64 (y27+1):=⟨by omega,by omega⟩
  rw[A.gd1 hadd,A.gd1 O,A.gd1 W]
  by_cases hy:y27=b.2.1-1
  ·rw[if_pos hy]
   obtain⟨s,e,J,h6⟩:=ih f y11 y13 y15 (y17+1) (if y17=0 then x+b.2.2.1 else(if y17=0 then x else y19)) (if y17=1 then x+b.2.2.1 else(if y17=1 then x else y21)) (if y17=2 then x+b.2.2.1 else(if y17=2 then x else y23)) (if y17=3 then x+b.2.2.1 else(if y17=3 then x else y25)) (y27+1) (by omega) (by omega) (by omega) (by omega) (by omega)
   exact⟨s,e,J,fun N=>by obtain⟨a1,a2,a3,a4,a5⟩:=h6 N;exact⟨a1,a2,a3,a4,by omega⟩⟩
  ·rw[if_neg hy,A.gd1 O,A.gd1 W]
   obtain⟨s,e,J,h6⟩:=ih f y11 y13 y15 (y17+1) (if y17=0 then x else y19) (if y17=1 then x else y21) (if y17=2 then x else y23) (if y17=3 then x else y25) (y27+1) (by omega) (by omega) (by omega) (by omega) (by omega)
   exact⟨s,e,J,fun N=>by obtain⟨a1,a2,a3,a4,a5⟩:=h6 N;exact⟨a1,a2,a3,a4,by omega⟩⟩
theorem o_cg {a b:Sm}(J:OkS a)(I:OkS b): ∃s e,F.cQ a b=some (s,e)∧(e=0→OkS s∧Th a b s):=by
 have hak:=J.k
 have han:=J.n
 have haf:=J.f
 have N:=J.a
 have hbk:=I.k
 have hbn:=I.n
 have hbf:=I.f
 have hba:=I.a
 have hbkn:=I.kn
 unfold F.cQ
 rw[show F.ad a=some 0 from o_a J,Qb,if_neg (fun h=>h rfl)]
 rw[show F.ad b=some 0 from o_a I,Qb]
 unfold F.cq
 rw[if_neg (by simp),A.gd1 ⟨by omega,by omega⟩]
 by_cases hd:a.2.1+a.2.2.2.1≠b.1
 ·rw[if_pos hd];exact⟨_,_,rfl,fun h=>absurd h (by decide)⟩
 rw[if_neg hd]
 have go: ∀y9:Int,∃s e,F.co a b y9=some (s,e)∧(e=0→OkS s∧s.1=a.1∧s.2.1=min a.2.1 b.2.1∧s.2.2.1=y9∧s.2.1+s.2.2.2.1=b.2.1+b.2.2.2.1):=fun y9=>by
  unfold F.co
  obtain⟨s,e,O,h6⟩:=then_l3 J I (b.2.1-a.2.1).toNat A.FU a.1 (min a.2.1 b.2.1) y9 0 0 0 0 0 a.2.1 rfl (Xa _) (by omega) (by omega) (by have:=Qab;omega)
  exact⟨s,e,O,fun W=>by obtain⟨a1,a2,a3,a4,a5⟩:=h6 W;exact⟨a1,a2,a3,a4,by omega⟩⟩
 have go2: ∀Y:Int,0≤Y→Y≤1048576→∃s e,F.cp a b Y=some (s,e)∧(e=0→OkS s∧s.1=a.1∧s.2.1=min a.2.1 b.2.1∧s.2.2.1=Y+(if b.2.1≤a.2.1 then b.2.2.1 else 0)∧s.2.1+s.2.2.2.1=b.2.1+b.2.2.2.1):=fun Y h1 h2=>by
  unfold F.cp
  by_cases h3:b.2.1≤a.2.1
  ·rw[if_pos h3,if_pos h3,A.gd1 ⟨by omega,by omega⟩];exact go _
  ·rw[if_neg h3,if_neg h3,Int.add_zero];exact go _
 by_cases h4:a.2.1≤b.2.1
 ·rw[if_pos h4]
  obtain⟨s,e,O,h6⟩:=go2 a.2.2.1 N.1 N.2
  exact⟨s,e,O,fun W=>by obtain⟨a1,a2,a3,a4,a5⟩:=h6 W;exact⟨a1,a2,a3,by rw[if_pos h4];exact a4,a5⟩⟩
 ·rw[if_neg h4]
  obtain⟨s,e,O,h6⟩:=go2 0 (by omega) (by omega)
  exact⟨s,e,O,fun W=>by obtain⟨a1,a2,a3,a4,a5⟩:=h6 W;exact⟨a1,a2,a3,by rw[if_neg h4];exact a4,a5⟩⟩
theorem TCheck_l2 (t:Tm): ∃e,F.aJ t A.FU 0=some e∧(e=0→∀x∈tms t,0≤x∧x≤1048576):=by
 have main: ∀(n f:Nat) (i:Nat),i+n=4→n<f→∃e,F.aJ t f (i:Int)=some e∧(e=0→∀(j:Nat) x,i≤j→(tms t)[j]?=some x→0≤x∧x≤1048576):=by
  intro n
  induction n with
  |zero=>
   intro f i N O
   obtain⟨f,rfl⟩: ∃f',f=f'+1:=⟨f-1,by omega⟩
   rw[F.aJ,if_neg (by omega)]
   exact⟨0,rfl,fun _ j x W I=>by have:=(Qc.1 I).1;have h4:(tms t).length=4:=rfl;omega⟩
  |succ n main=>
   intro f i N O
   obtain⟨f,rfl⟩: ∃f',f=f'+1:=⟨f-1,by omega⟩
   obtain⟨x,I,J⟩:=ix4 (a:=t.2.2.1) (b:=t.2.2.2.1) (c:=t.2.2.2.2.1) (d:=t.2.2.2.2.2) (i:=(i:Int)) (by omega)
   rw[Qq]at J
   obtain⟨e,Y,h4⟩:=main f (i+1) (by omega) (by omega)
   have hr:Z.R64 ((i:Int)+1):=⟨by omega,by omega⟩
   have Y:F.aJ t f ((i:Int)+1)=some e:=Y
   rw[F.aJ,if_pos (by omega),I]
   simp only[Qb,F.cx]
   by_cases g1:x<0
   ·rw[if_pos g1,if_pos trivial];exact⟨10,rfl,fun h=>absurd h (by decide)⟩
   rw[if_neg g1]
   by_cases g2:(1048576:Int)<x
   ·rw[if_pos g2,if_pos trivial];exact⟨10,rfl,fun h=>absurd h (by decide)⟩
   rw[if_neg g2]
   have rest: ∀b:Bool,∃e',(if b=true then some 10 else A.gd (Z.R64 ((i:Int)+1)) (F.aJ t f ((i:Int)+1)))=some e'∧(e'=0→∀(j:Nat) x,i≤j→(tms t)[j]?=some x→0≤x∧x≤1048576):=fun b=>by
    cases b with
    |true=>exact⟨10,rfl,fun h=>absurd h (by decide)⟩
    |false=>
     rw[if_neg (by simp),A.gd1 hr]
     refine⟨e,Y,fun he j y W hy=>?_⟩
     by_cases hij:j=i
     ·subst hij
      have:(tms t)[j]?=some x:=J
      rw[hy]at this;obtain rfl:=Qo this;omega
     ·exact h4 he j y (by omega) hy
   by_cases g3:t.2.1≤(i:Int)
   ·rw[if_pos g3];exact rest _
   ·rw[if_neg g3];exact rest _
 obtain⟨e,N,O⟩:=main 4 A.FU 0 rfl (by decide)
 exact⟨e,N,fun he x I=>by
  obtain⟨j,W,rfl⟩:=Xe I
  exact O he j _ (by omega) (Qd W)⟩
theorem o_be (t:Tm): ∃e,F.j t=some e∧(e=0→∀x∈tms t,0≤x∧x≤1048576):=by
 unfold F.j
 split
 ·exact⟨10,rfl,fun h=>absurd h (by decide)⟩
 ·exact TCheck_l2 t
theorem apply_l2 {s:Sm}(I:OkS s){t:Tm}(ht: ∀x∈tms t,0≤x∧x≤1048576): ∀(n f:Nat) (y12 y14 y16 y18 y20 y22 y24:Int),y24+n=4→0≤y24→n<f→
  ∃u e,F.h s t f y12 y14 y16 y18 y20 y22 y24=some (u,e)∧(e=0→1≤s.2.1→(y24≤s.2.1-1→∃x,A.ix (tms t) (s.2.1-1)=some x∧A.ix (tms u) (s.2.1-1)=some (x+s.2.2.1))∧(s.2.1-1<y24→A.ix (tms u) (s.2.1-1)=A.ix [y16,y18,y20,y22] (s.2.1-1))):=by
 intro n
 induction n with
 |zero=>
  intro f y12 y14 y16 y18 y20 y22 y24 h1 h2 h3
  obtain⟨f,rfl⟩: ∃f',f=f'+1:=⟨f-1,by omega⟩
  have hk:=I.k
  have hf:=I.f
  rw[F.h,if_neg (by omega)]
  obtain⟨e,h4,Y⟩:=o_be (y12,y14,(y16,y18,y20,y22))
  rw[h4,Qb]
  by_cases J:e≠0
  ·rw[if_pos J];exact⟨_,_,rfl,fun h=>absurd h (by decide)⟩
  ·rw[if_neg J];exact⟨_,_,rfl,fun _ _=>⟨fun h=>by omega,fun _=>rfl⟩⟩
 |succ n ih=>
  intro f y12 y14 y16 y18 y20 y22 y24 h1 h2 h3
  obtain⟨f,rfl⟩: ∃f',f=f'+1:=⟨f-1,by omega⟩
  have hk:=I.k
  have hf:=I.f
  have hn:=I.n
  have hkn:=I.kn
  have ha:=I.a
  have N:Z.R64 (y24+1):=⟨by omega,by omega⟩
  obtain⟨z,hz,_⟩:=ix4 (a:=y16) (b:=y18) (c:=y20) (d:=y22) (i:=y24) (by omega)
  obtain⟨x,hx,O⟩:=ix4 (a:=t.2.2.1) (b:=t.2.2.2.1) (c:=t.2.2.2.2.1) (d:=t.2.2.2.2.2) (i:=y24) (by omega)
  have hxr:=ht x (Qg O)
  rw[F.h,if_pos (by omega),A.gd1 ⟨by omega,by omega⟩,hx,hz]
  simp only[Qb,F.ag]
  rw[A.gd1 N,A.gd1 ⟨by omega,by omega⟩]
  have fin: ∀v:Int,(y24=s.2.1-1→v=x+s.2.2.1)→∃u e,F.h s t f y12 y14 (if y24=0 then v else y16) (if y24=1 then v else y18) (if y24=2 then v else y20) (if y24=3 then v else y22) (y24+1)=some (u,e)∧(e=0→1≤s.2.1→(y24≤s.2.1-1→∃x,A.ix (tms t) (s.2.1-1)=some x∧A.ix (tms u) (s.2.1-1)=some (x+s.2.2.1))∧(s.2.1-1<y24→A.ix (tms u) (s.2.1-1)=A.ix [y16,y18,y20,y22] (s.2.1-1))):=fun v W=>by
   obtain⟨u,e,Y,h6⟩:=ih f y12 y14 (if y24=0 then v else y16) (if y24=1 then v else y18) (if y24=2 then v else y20) (if y24=3 then v else y22) (y24+1) (by omega) (by omega) (by omega)
   refine⟨u,e,Y,fun J h1k=>?_⟩
   obtain⟨h7,h8⟩:=h6 J h1k
   refine⟨fun hle=>?_,fun hlt=>?_⟩
   ·by_cases hq:y24=s.2.1-1
    ·refine⟨x,by rw[←hq];exact hx,?_⟩
     rw[h8 (by omega),←hq,ix4s (by omega),W hq]
    ·exact h7 (by omega)
   ·rw[h8 (by omega),ix4n (by omega) (by omega) (by omega)]
  by_cases c1:y24<s.2.1-1
  ·rw[if_pos c1];exact fin x fun h=>by omega
  rw[if_neg c1]
  by_cases c2:y24=s.2.1-1
  ·rw[if_pos c2,A.gd1 ⟨by omega,by omega⟩,A.gd1 N];exact fin (x+s.2.2.1) fun _=>rfl
  rw[if_neg c2,A.gd1 ⟨by omega,by omega⟩]
  by_cases c3:y24<s.2.1+s.2.2.2.1
  ·obtain⟨v,W,_⟩:=ix4 (a:=s.2.2.2.2.1) (b:=s.2.2.2.2.2.1) (c:=s.2.2.2.2.2.2.1) (d:=s.2.2.2.2.2.2.2) (i:=y24-s.2.1) (by omega)
   rw[if_pos c3,A.gd1 ⟨by omega,by omega⟩,W,Qb,A.gd1 N];exact fin v fun h=>absurd h c2
  ·rw[if_neg c3,A.gd1 N];exact fin 0 fun h=>absurd h c2
theorem o_b6 {s:Sm}(I:OkS s)(t:Tm): ∃u e,F.af s t=some (u,e)∧(e=0→1≤s.2.1→∃x,A.ix (tms t) (s.2.1-1)=some x∧A.ix (tms u) (s.2.1-1)=some (x+s.2.2.1)):=by
 have hk:=I.k
 have hf:=I.f
 have hn:=I.n
 unfold F.af
 rw[show F.ad s=some 0 from o_a I,Qb,if_neg (fun h=>h rfl)]
 obtain⟨e,N,O⟩:=o_be t
 rw[show F.j t=some e from N,Qb]
 by_cases J:e≠0
 ·rw[if_pos J];exact⟨_,_,rfl,fun h=>absurd h J⟩
 rw[if_neg J]
 split
 ·exact⟨_,_,rfl,fun h=>absurd h (by decide)⟩
 ·rw[A.gd1 ⟨by omega,by omega⟩]
  obtain⟨u,W,Y,h6⟩:=apply_l2 I (O (Jp.1 J)) 4 A.FU t.1 (s.2.1+s.2.2.2.1) 0 0 0 0 0 (by omega) (by omega) (by decide)
  exact⟨u,W,Y,fun h7 h8=>(h6 h7 h8).1 (by omega)⟩
end Go.Proofs.YtlbnpmfggfbdoaaGreatDoor
end
section
namespace Go.A
theorem fst {α:Type}(l:List α)(p:α→Bool)(L:Nat→Int→Option Int)(O: ∀f,L (f+1) (l.length:Int)=some (-1))
  (W: ∀f (k:Nat) x,l[k]?=some x→k<l.length→L (f+1) (k:Int)=if p x=true then some (k:Int)else L f ((k:Int)+1)) (Y:l.length<FU):
  (L FU 0=some (-1)∧∀x∈l,p x=false)∨∃(k:Nat) (x:α),l[k]?=some x∧L FU 0=some (k:Int)∧p x=true∧∀y∈l.take k,p y=false:=by
 have main: ∀(n k f:Nat),k+n=l.length→n<f→(∀y∈l.take k,p y=false)→(L f (k:Int)=some (-1)∧∀x∈l,p x=false)∨∃(i:Nat) (x:α),l[i]?=some x∧L f (k:Int)=some (i:Int)∧p x=true∧∀y∈l.take i,p y=false:=by
  intro n
  induction n with
  |zero=>
   intro k f hk hf hp
   obtain⟨f,rfl⟩: ∃f',f=f'+1:=⟨f-1,by omega⟩
   obtain rfl:k=l.length:=by omega
   rw[Ws (Q0 _)]at hp
   exact .inl ⟨O f,hp⟩
  |succ n ih=>
   intro k f hk hf hp
   obtain⟨f,rfl⟩: ∃f',f=f'+1:=⟨f-1,by omega⟩
   have I:l[k]?=some l[k]:=Qd (by omega)
   rw[W f k _ I (by omega)]
   cases J:p l[k]with
   |true=>rw[if_pos rfl];exact .inr ⟨k,_,I,rfl,J,hp⟩
   |false=>
    rw[if_neg Wd]
    refine ih (k+1) f (by omega) (by omega) fun y N=>?_
    rw[Xw,I]at N
    rcases Qn.1 N with h|h
    ·exact hp y h
    ·rw[Jj,Qj]at h;rw[h];exact J
 exact main l.length 0 FU (by omega) Y (by simp)
theorem del {α:Type}(l:List α)(p:α→Bool)(L:Nat→List α→Int→Int→Option (List α))
  (h0: ∀f xs (i:Nat),xs.length=l.length→i≤l.length→L (f+1) xs (i:Int) (l.length:Int)=some (xs.take i))
  (h1: ∀f xs (i j:Nat) x,xs[j]?=some x→i<j→j<l.length→xs.length=l.length→L (f+1) xs (i:Int) (j:Int)=if p x=true then L f xs (i:Int) ((j:Int)+1)else L f (xs.set i x) ((i:Int)+1) ((j:Int)+1))
  {k:Nat} {x:α} (hx:l[k]?=some x) (hp:p x=true) (hpre: ∀y∈l.take k,p y=false) (hl:l.length<FU):L FU l (k:Int) ((k:Int)+1)=some (l.filter fun y=> !p y):=by
 have main: ∀(n j i f:Nat) (xs:List α),j+n=l.length→n<f→i<j→xs.length=l.length→xs.take i=(l.take j).filter (fun y=> !p y)→xs.drop j=l.drop j→L f xs (i:Int) (j:Int)=some (l.filter fun y=> !p y):=by
  intro n
  induction n with
  |zero=>
   intro j i f xs hj hf I hlen O Y
   obtain⟨f,rfl⟩: ∃f',f=f'+1:=⟨f-1,by omega⟩
   obtain rfl:j=l.length:=by omega
   rw[h0 f xs i hlen (by omega),O,Ws (Q0 _)]
  |succ n ih=>
   intro j i f xs hj hf I hlen O Y
   obtain⟨f,rfl⟩: ∃f',f=f'+1:=⟨f-1,by omega⟩
   have W:l[j]?=some l[j]:=Qd (by omega)
   have hxj:xs[j]?=some l[j]:=by
    have:=congrArg List.head? Y
    rwa[List.head?_drop,List.head?_drop,W]at this
   have J:(l.take (j+1)).filter (fun y=> !p y)=(l.take j).filter (fun y=> !p y)++if p l[j]=true then []else [l[j]]:=by
    rw[Xw,W,List.filter_append,Jj,Xl,List.filter_nil]
    cases p l[j]<;>rfl
   have N:xs.drop (j+1)=l.drop (j+1):=by
    have:=congrArg List.tail Y
    rwa[List.tail_drop,List.tail_drop]at this
   rw[h1 f xs i j _ hxj I (by omega) hlen]
   cases hb:p l[j]with
   |true=>
    rw[if_pos rfl]
    exact ih (j+1) i f xs (by omega) (by omega) (by omega) hlen (by rw[J,hb,if_pos rfl,Wm,O]) N
   |false=>
    rw[if_neg Wd]
    have hset:(xs.set i l[j]).take (i+1)=xs.take i++[l[j]]:=by
     rw[Xw,Y0,if_pos rfl,if_pos (by omega),List.take_set_of_le (Q0 _)];rfl
    have hdrop:(xs.set i l[j]).drop (j+1)=xs.drop (j+1):=List.drop_set_of_lt (by omega)
    have:=ih (j+1) (i+1) f (xs.set i l[j]) (by omega) (by omega) (by omega) (by rw[Wx];exact hlen) (by rw[J,hb,if_neg Wd,hset,O]) (by rw[hdrop];exact N)
    exact this
 have hk:=(Qc.1 hx).1
 refine main (l.length-(k+1)) (k+1) k FU l (by omega) (by omega) (by omega) rfl ?_ rfl
 rw[Xw,hx,List.filter_append,List.filter_eq_self.2 (fun y W=>by rw[hpre y W];rfl)]
 simp[hp]
theorem eql {α:Type}[DecidableEq α](a b:List α)(L:Nat→Int→Option Bool)(hlen:a.length=b.length)(J: ∀f,L (f+1) (a.length:Int)=some true)
  (N: ∀f (k:Nat) x z,a[k]?=some x→b[k]?=some z→k<a.length→L (f+1) k=if x=z then L f ((k:Int)+1)else some false) (O:a.length<FU):L FU 0=some (decide (a=b)):=by
 have:=lp0 a L (fun k l=>some (decide (l=b.drop k)))
  (fun f=>by rw[J,hlen,Q2 (Q0 _)];rfl)
  (fun f k x W hk Y=>by
   have I:b[k]?=some b[k]:=Qd (by omega)
   rw[N f k x _ W I hk,Y,dropx I]
   by_cases h:x=b[k]
   ·rw[if_pos h];congr 1;exact decide_eq_decide.2 ⟨fun e=>by rw[h,e],fun e=>(List.cons.inj e).2⟩
   ·rw[if_neg h];congr 1;exact(decide_eq_false (fun e=>h (List.cons.inj e).1)).symm)
  O
 rw[Wc]at this;exact this
end Go.A
namespace Go.Proofs.YtlbnpmfggfbdoaaGreatDoor
open Go.RowKit Go.Graph
theorem may_l2 (a:Sm):F.cH a A.FU 0=some (pok a.2.2.2.1 0 (pus a)):=
 A.lp0 (pus a) (fun f z=>F.cH a f z) (fun k l=>some (pok a.2.2.2.1 k l))
  (fun f=>by rw[F.cH,if_neg (by show ¬((4:Nat):Int)<4;omega)];rfl)
  (fun f k x N hk O=>by
   have W:k<4:=hk
   rw[F.cH,if_pos (by omega),show A.ix [a.2.2.2.2.1,a.2.2.2.2.2.1,a.2.2.2.2.2.2.1,a.2.2.2.2.2.2.2] (k:Int)=some x from A.ixn N]
   simp only[Qb,F.dB,A.ba]
   rw[pok,A.gd1 (A.r64n (by omega)),O]
   by_cases I:0≤x∧x≤1048576
   ·rw[decide_eq_true I,if_neg (by decide)]
    by_cases J:a.2.2.2.1≤(k:Int)∧x≠0
    ·rw[if_pos (decide_eq_true J),decide_eq_false (fun h=>J.2 (h.2.2 J.1)),X0]
    ·rw[if_neg (by rw[decide_eq_true_iff];exact J),decide_eq_true (p:=0≤x∧x≤1048576∧(a.2.2.2.1≤(k:Int)→x=0)) ⟨I.1,I.2,fun h=>Q4 fun Y=>J ⟨h,Y⟩⟩,Xi]
   ·rw[decide_eq_false I,if_pos (by decide),decide_eq_false (fun h=>I ⟨h.1,h.2.1⟩),X0])
  (by show 4<A.FU;decide)
theorem Qhk (s:Sm):(F.am s=some true∧OkS s)∨(F.am s=some false∧¬OkS s):=by
 unfold F.am F.cG
 simp only[A.bo,A.ba,F.dB,Qb]
 split
 ·rename_i h
  have h:=of_decide_eq_true h
  exact .inr ⟨rfl,fun o=>by have:=o.f;omega⟩
 rename_i W
 have W:=of_decide_eq_false (Xx.2 W)
 split
 ·rename_i h
  have h:=of_decide_eq_true h
  exact .inr ⟨rfl,fun o=>by have:=o.n;omega⟩
 rename_i Y
 have Y:=of_decide_eq_false (Xx.2 Y)
 rw[A.gd1 (fun h=>by have:=of_decide_eq_false h;exact⟨by omega,by omega⟩)]
 split
 ·rename_i h
  have h:=of_decide_eq_true h
  exact .inr ⟨rfl,fun o=>by have:=o.k;have:=o.kn;omega⟩
 rename_i I
 have I:=of_decide_eq_false (Xx.2 I)
 by_cases J:0≤s.2.2.1∧s.2.2.1≤1048576
 case neg=>rw[decide_eq_false J,if_pos (by decide)];exact .inr ⟨rfl,fun o=>J o.a⟩
 rw[decide_eq_true J,if_neg (by decide)]
 split
 ·rename_i h
  have h:=of_decide_eq_true h
  exact .inr ⟨rfl,fun o=>h.2 (o.k0 h.1)⟩
 rename_i N
 have N:=of_decide_eq_false (Xx.2 N)
 rw[may_l2]
 cases hp:pok s.2.2.2.1 0 (pus s)with
 |true=>
  refine .inl ⟨rfl,⟨by omega,by omega,by omega,by omega,J,fun h=>Q4 fun I=>N ⟨h,I⟩,fun i x O=>?_⟩⟩
  have:=(Qdo _ 0 _).1 hp i x O
  rw[Wh]at this;exact this
 |false=>
  refine .inr ⟨rfl,fun o=>?_⟩
  have:pok s.2.2.2.1 0 (pus s)=true:=(Qdo _ 0 _).2 fun i x O=>by rw[Wh];exact o.p i x O
  rw[hp]at this;cases this
theorem o_c {s:Sm}(h:OkS s):F.am s=some true:=(Qhk s).elim (fun h=>h.1) fun I=>absurd h I.2
theorem may_no {s:Sm}(h: ¬OkS s):F.am s=some false:=(Qhk s).elim (fun I=>absurd I.2 h) fun h=>h.1
theorem Check_no {s:Sm}(h: ¬OkS s):F.ad s=some 20:=(Qbw s).elim (fun I=>absurd I.2 h) fun h=>h.1
theorem tick (t:Tm):F.bv t A.FU 0=some (if pok t.2.1 0 (tms t)=true then 0 else 10):=
 A.lp0 (tms t) (fun f z=>F.bv t f z) (fun k l=>some (if pok t.2.1 k l=true then 0 else 10))
  (fun f=>by rw[F.bv,if_neg (by show ¬((4:Nat):Int)<4;omega)];rfl)
  (fun f k x N hk O=>by
   have W:k<4:=hk
   rw[F.bv,if_pos (by omega),show A.ix [t.2.2.1,t.2.2.2.1,t.2.2.2.2.1,t.2.2.2.2.2] (k:Int)=some x from A.ixn N]
   simp only[Qb,A.ba,A.bo]
   rw[pok,A.gd1 (A.r64n (by omega)),O]
   by_cases J:x<0∨(1048576:Int)<x
   ·rw[if_pos (decide_eq_true J),decide_eq_false (fun h=>by omega),X0,if_neg (by decide)]
   rw[if_neg (by rw[decide_eq_true_iff];exact J)]
   by_cases I:t.2.1≤(k:Int)∧x≠0
   ·rw[if_pos (decide_eq_true I),decide_eq_false (fun h=>I.2 (h.2.2 I.1)),X0,if_neg (by decide)]
   ·rw[if_neg (by rw[decide_eq_true_iff];exact I),decide_eq_true (p:=0≤x∧x≤1048576∧(t.2.1≤(k:Int)→x=0)) ⟨by omega,by omega,fun h=>Q4 fun Y=>I ⟨h,Y⟩⟩,Xi])
  (by show 4<A.FU;decide)
theorem tick2 (t:Tm):F.aJ t A.FU 0=some (if pok t.2.1 0 (tms t)=true then 0 else 10):=
 A.lp0 (tms t) (fun f z=>F.aJ t f z) (fun k l=>some (if pok t.2.1 k l=true then 0 else 10))
  (fun f=>by rw[F.aJ,if_neg (by show ¬((4:Nat):Int)<4;omega)];rfl)
  (fun f k x W hk Y=>by
   have hk4:k<4:=hk
   rw[F.aJ,if_pos (by omega),show A.ix [t.2.2.1,t.2.2.2.1,t.2.2.2.2.1,t.2.2.2.2.2] (k:Int)=some x from A.ixn W]
   simp only[Qb,F.cx]
   rw[pok,A.gd1 (A.r64n (by omega)),Y]
   by_cases N:x<0
   ·rw[if_pos N,if_pos trivial,decide_eq_false (fun h=>by omega),X0,if_neg (by decide)]
   rw[if_neg N]
   by_cases O:(1048576:Int)<x
   ·rw[if_pos O,if_pos trivial,decide_eq_false (fun h=>by omega),X0,if_neg (by decide)]
   rw[if_neg O]
   by_cases I:t.2.1≤(k:Int)
   ·rw[if_pos I]
    by_cases J:x=0
    ·rw[if_neg (by simp[J]),decide_eq_true (p:=0≤x∧x≤1048576∧(t.2.1≤(k:Int)→x=0)) ⟨by omega,by omega,fun _=>J⟩,Xi]
    ·rw[if_pos (by simp[J]),decide_eq_false (fun h=>J (h.2.2 I)),X0,if_neg (by decide)]
   ·rw[if_neg I,if_neg (by simp),decide_eq_true (p:=0≤x∧x≤1048576∧(t.2.1≤(k:Int)→x=0)) ⟨by omega,by omega,fun h=>absurd h I⟩,Xi])
  (by show 4<A.FU;decide)
theorem Qad (t:Tm):F.bF t=F.j t:=by
 unfold F.bF F.j
 rw[tick,tick2]
def okT (t:Tm):Prop:=0≤t.1∧t.1≤1073741824∧0≤t.2.1∧t.2.1≤4∧(0≤t.2.2.1∧t.2.2.1≤1048576∧(t.2.1≤0→t.2.2.1=0))∧(0≤t.2.2.2.1∧t.2.2.2.1≤1048576∧(t.2.1≤1→t.2.2.2.1=0))∧(0≤t.2.2.2.2.1∧t.2.2.2.2.1≤1048576∧(t.2.1≤2→t.2.2.2.2.1=0))∧(0≤t.2.2.2.2.2∧t.2.2.2.2.2≤1048576∧(t.2.1≤3→t.2.2.2.2.2=0))
theorem Qac (t:Tm):(F.j t=some 0∧okT t)∨(F.j t=some 10∧¬okT t):=by
 unfold F.j
 simp only[A.bo]
 split
 ·rename_i h
  have h:=of_decide_eq_true h
  exact .inr ⟨rfl,fun o=>by unfold okT at o;omega⟩
 rename_i I
 have I:=of_decide_eq_false (Xx.2 I)
 rw[tick2]
 have e:pok t.2.1 0 (tms t)=true↔okT t:=by
  unfold tms okT
  simp only[pok,Ql,decide_eq_true_eq,Y3]
  omega
 by_cases h:pok t.2.1 0 (tms t)=true
 ·rw[if_pos h];exact .inl ⟨rfl,e.1 h⟩
 ·rw[if_neg h];exact .inr ⟨rfl,fun o=>h (e.2 o)⟩
theorem tleq_eq (a b:Tm):F.d4 a b=F.dm a b:=by
 have loop: ∀f y,F.cX a b f y=F.bL a b f y:=fun f=>by
  induction f with
  |zero=>intro y;rfl
  |succ f I=>intro y;rw[F.cX,F.bL];simp only[I]
 unfold F.d4 F.dm F.dx F.c1
 rw[Qad,Qad]
 simp only[loop]
theorem o_ch (a b:Tm): ∃r,F.dm a b=some r:=by
 have loop: ∀(n f:Nat) (y:Int),y+n=4→0≤y→n<f→∃r,F.bL a b f y=some r:=by
  intro n;induction n with
  |zero=>
   intro f y I J N;obtain⟨f,rfl⟩: ∃f',f=f'+1:=⟨f-1,by omega⟩
   rw[F.bL,if_neg (by omega)];exact⟨_,rfl⟩
  |succ n O=>
   intro f y I J N;obtain⟨f,rfl⟩: ∃f',f=f'+1:=⟨f-1,by omega⟩
   obtain⟨x,W,_⟩:=ix4 (a:=a.2.2.1) (b:=a.2.2.2.1) (c:=a.2.2.2.2.1) (d:=a.2.2.2.2.2) (i:=y) (by omega)
   obtain⟨z,Y,_⟩:=ix4 (a:=b.2.2.1) (b:=b.2.2.2.1) (c:=b.2.2.2.2.1) (d:=b.2.2.2.2.2) (i:=y) (by omega)
   rw[F.bL,if_pos (by omega),W,Qb,Y,Qb]
   split
   ·exact⟨_,rfl⟩
   ·rw[A.gd1 ⟨by omega,by omega⟩];exact O f (y+1) (by omega) (by omega) (by omega)
 have tot: ∀t:Tm,∃r,F.j t=some r:=fun t=>(Qac t).elim (fun h=>⟨_,h.1⟩) fun h=>⟨_,h.1⟩
 have j: ∀y,∃r,F.c1 a b y=some r:=fun y=>by
  unfold F.c1
  split
  ·exact⟨_,rfl⟩
  ·exact loop 4 A.FU 0 (by omega) (by omega) (by decide)
 obtain⟨r1,I⟩:=tot a
 obtain⟨r2,J⟩:=tot b
 unfold F.dm
 rw[I,Qb]
 split
 ·exact j _
 ·rw[J,Qb];exact j _
structure ApOk (s:Sm) (t:Tm):Prop where
 ex: ∃(w:Tm) (v:Int),F.av s t=(if(1048576:Int)<v then some ((0,0,(0,0,0,0)),12)else some (w,0))∧F.af s t=((F.j w).bind fun r=>if r≠0 then some ((0,0,(0,0,0,0)),12)else some (w,0))∧(okT w↔¬(1048576:Int)<v)
theorem ap00 {f A' p0 p1 p2 p3 E J N O W:Int}(I:OkS (f,0,A',0,(p0,p1,p2,p3)))(ht:okT (E,f,(J,N,O,W))):ApOk (f,0,A',0,(p0,p1,p2,p3)) (E,f,(J,N,O,W)):=by
 have hf:=I.f
 have hk:=I.k
 have ha:=I.a
 have hp0:=I.p 0 p0 rfl
 have hp1:=I.p 1 p1 rfl
 have hp2:=I.p 2 p2 rfl
 have hp3:=I.p 3 p3 rfl
 simp only at hf hk ha hp0 hp1 hp2 hp3
 have hT:F.j (E,f,(J,N,O,W))=some 0:=(Qac _).elim (fun h=>h.1) fun h=>absurd ht h.2
 have Y:=hT
 rw[←Qad]at Y
 unfold okT at ht
 simp only at ht
 obtain⟨n,hn⟩: ∃n,A.FU=n+5:=⟨A.FU-5,by decide⟩
 have g0: -9223372036854775808≤J+A'∧J+A'≤9223372036854775807:=by omega
 have g1: -9223372036854775808≤N+A'∧N+A'≤9223372036854775807:=by omega
 have g2: -9223372036854775808≤O+A'∧O+A'≤9223372036854775807:=by omega
 have g3: -9223372036854775808≤W+A'∧W+A'≤9223372036854775807:=by omega
 refine⟨(E,0,(0,0,0,0)),0,?_,?_,by unfold okT;simp<;>omega⟩
 ·unfold F.av
  simp only[o_c I,Y,Qb]
  simp[F.al,A.cp4,A.ix,A.gd,Z.R64,g0,g1,g2,g3]
 ·unfold F.af
  simp only[o_a I,hT,Qb]
  simp[F.h,F.ag,A.ix,A.gd,Z.R64,g0,g1,g2,g3,hn]
theorem ap01 {f A' p0 p1 p2 p3 E J N O W:Int}(I:OkS (f,0,A',1,(p0,p1,p2,p3)))(ht:okT (E,f,(J,N,O,W))):ApOk (f,0,A',1,(p0,p1,p2,p3)) (E,f,(J,N,O,W)):=by
 have hf:=I.f
 have hk:=I.k
 have ha:=I.a
 have hp0:=I.p 0 p0 rfl
 have hp1:=I.p 1 p1 rfl
 have hp2:=I.p 2 p2 rfl
 have hp3:=I.p 3 p3 rfl
 simp only at hf hk ha hp0 hp1 hp2 hp3
 have hT:F.j (E,f,(J,N,O,W))=some 0:=(Qac _).elim (fun h=>h.1) fun h=>absurd ht h.2
 have Y:=hT
 rw[←Qad]at Y
 unfold okT at ht
 simp only at ht
 obtain⟨n,hn⟩: ∃n,A.FU=n+5:=⟨A.FU-5,by decide⟩
 have g0: -9223372036854775808≤J+A'∧J+A'≤9223372036854775807:=by omega
 have g1: -9223372036854775808≤N+A'∧N+A'≤9223372036854775807:=by omega
 have g2: -9223372036854775808≤O+A'∧O+A'≤9223372036854775807:=by omega
 have g3: -9223372036854775808≤W+A'∧W+A'≤9223372036854775807:=by omega
 refine⟨(E,1,(p0,0,0,0)),0,?_,?_,by unfold okT;simp<;>omega⟩
 ·unfold F.av
  simp only[o_c I,Y,Qb]
  simp[F.al,A.cp4,A.ix,A.gd,Z.R64,g0,g1,g2,g3]
 ·unfold F.af
  simp only[o_a I,hT,Qb]
  simp[F.h,F.ag,A.ix,A.gd,Z.R64,g0,g1,g2,g3,hn]
theorem ap02 {f A' p0 p1 p2 p3 E J N O W:Int}(I:OkS (f,0,A',2,(p0,p1,p2,p3)))(ht:okT (E,f,(J,N,O,W))):ApOk (f,0,A',2,(p0,p1,p2,p3)) (E,f,(J,N,O,W)):=by
 have hf:=I.f
 have hk:=I.k
 have ha:=I.a
 have hp0:=I.p 0 p0 rfl
 have hp1:=I.p 1 p1 rfl
 have hp2:=I.p 2 p2 rfl
 have hp3:=I.p 3 p3 rfl
 simp only at hf hk ha hp0 hp1 hp2 hp3
 have hT:F.j (E,f,(J,N,O,W))=some 0:=(Qac _).elim (fun h=>h.1) fun h=>absurd ht h.2
 have Y:=hT
 rw[←Qad]at Y
 unfold okT at ht
 simp only at ht
 obtain⟨n,hn⟩: ∃n,A.FU=n+5:=⟨A.FU-5,by decide⟩
 have g0: -9223372036854775808≤J+A'∧J+A'≤9223372036854775807:=by omega
 have g1: -9223372036854775808≤N+A'∧N+A'≤9223372036854775807:=by omega
 have g2: -9223372036854775808≤O+A'∧O+A'≤9223372036854775807:=by omega
 have g3: -9223372036854775808≤W+A'∧W+A'≤9223372036854775807:=by omega
 refine⟨(E,2,(p0,p1,0,0)),0,?_,?_,by unfold okT;simp<;>omega⟩
 ·unfold F.av
  simp only[o_c I,Y,Qb]
  simp[F.al,A.cp4,A.ix,A.gd,Z.R64,g0,g1,g2,g3]
 ·unfold F.af
  simp only[o_a I,hT,Qb]
  simp[F.h,F.ag,A.ix,A.gd,Z.R64,g0,g1,g2,g3,hn]
theorem ap03 {f A' p0 p1 p2 p3 E J N O W:Int}(I:OkS (f,0,A',3,(p0,p1,p2,p3)))(ht:okT (E,f,(J,N,O,W))):ApOk (f,0,A',3,(p0,p1,p2,p3)) (E,f,(J,N,O,W)):=by
 have hf:=I.f
 have hk:=I.k
 have ha:=I.a
 have hp0:=I.p 0 p0 rfl
 have hp1:=I.p 1 p1 rfl
 have hp2:=I.p 2 p2 rfl
 have hp3:=I.p 3 p3 rfl
 simp only at hf hk ha hp0 hp1 hp2 hp3
 have hT:F.j (E,f,(J,N,O,W))=some 0:=(Qac _).elim (fun h=>h.1) fun h=>absurd ht h.2
 have Y:=hT
 rw[←Qad]at Y
 unfold okT at ht
 simp only at ht
 obtain⟨n,hn⟩: ∃n,A.FU=n+5:=⟨A.FU-5,by decide⟩
 have g0: -9223372036854775808≤J+A'∧J+A'≤9223372036854775807:=by omega
 have g1: -9223372036854775808≤N+A'∧N+A'≤9223372036854775807:=by omega
 have g2: -9223372036854775808≤O+A'∧O+A'≤9223372036854775807:=by omega
 have g3: -9223372036854775808≤W+A'∧W+A'≤9223372036854775807:=by omega
 refine⟨(E,3,(p0,p1,p2,0)),0,?_,?_,by unfold okT;simp<;>omega⟩
 ·unfold F.av
  simp only[o_c I,Y,Qb]
  simp[F.al,A.cp4,A.ix,A.gd,Z.R64,g0,g1,g2,g3]
 ·unfold F.af
  simp only[o_a I,hT,Qb]
  simp[F.h,F.ag,A.ix,A.gd,Z.R64,g0,g1,g2,g3,hn]
theorem ap04 {f A' p0 p1 p2 p3 E J N O W:Int}(I:OkS (f,0,A',4,(p0,p1,p2,p3)))(ht:okT (E,f,(J,N,O,W))):ApOk (f,0,A',4,(p0,p1,p2,p3)) (E,f,(J,N,O,W)):=by
 have hf:=I.f
 have hk:=I.k
 have ha:=I.a
 have hp0:=I.p 0 p0 rfl
 have hp1:=I.p 1 p1 rfl
 have hp2:=I.p 2 p2 rfl
 have hp3:=I.p 3 p3 rfl
 simp only at hf hk ha hp0 hp1 hp2 hp3
 have hT:F.j (E,f,(J,N,O,W))=some 0:=(Qac _).elim (fun h=>h.1) fun h=>absurd ht h.2
 have Y:=hT
 rw[←Qad]at Y
 unfold okT at ht
 simp only at ht
 obtain⟨n,hn⟩: ∃n,A.FU=n+5:=⟨A.FU-5,by decide⟩
 have g0: -9223372036854775808≤J+A'∧J+A'≤9223372036854775807:=by omega
 have g1: -9223372036854775808≤N+A'∧N+A'≤9223372036854775807:=by omega
 have g2: -9223372036854775808≤O+A'∧O+A'≤9223372036854775807:=by omega
 have g3: -9223372036854775808≤W+A'∧W+A'≤9223372036854775807:=by omega
 refine⟨(E,4,(p0,p1,p2,p3)),0,?_,?_,by unfold okT;simp<;>omega⟩
 ·unfold F.av
  simp only[o_c I,Y,Qb]
  simp[F.al,A.cp4,A.ix,A.gd,Z.R64,g0,g1,g2,g3]
 ·unfold F.af
  simp only[o_a I,hT,Qb]
  simp[F.h,F.ag,A.ix,A.gd,Z.R64,g0,g1,g2,g3,hn]
theorem ap10 {f A' p0 p1 p2 p3 E J N O W:Int}(I:OkS (f,1,A',0,(p0,p1,p2,p3)))(ht:okT (E,f,(J,N,O,W))):ApOk (f,1,A',0,(p0,p1,p2,p3)) (E,f,(J,N,O,W)):=by
 have hf:=I.f
 have hk:=I.k
 have ha:=I.a
 have hp0:=I.p 0 p0 rfl
 have hp1:=I.p 1 p1 rfl
 have hp2:=I.p 2 p2 rfl
 have hp3:=I.p 3 p3 rfl
 simp only at hf hk ha hp0 hp1 hp2 hp3
 have hT:F.j (E,f,(J,N,O,W))=some 0:=(Qac _).elim (fun h=>h.1) fun h=>absurd ht h.2
 have Y:=hT
 rw[←Qad]at Y
 unfold okT at ht
 simp only at ht
 obtain⟨n,hn⟩: ∃n,A.FU=n+5:=⟨A.FU-5,by decide⟩
 have g0: -9223372036854775808≤J+A'∧J+A'≤9223372036854775807:=by omega
 have g1: -9223372036854775808≤N+A'∧N+A'≤9223372036854775807:=by omega
 have g2: -9223372036854775808≤O+A'∧O+A'≤9223372036854775807:=by omega
 have g3: -9223372036854775808≤W+A'∧W+A'≤9223372036854775807:=by omega
 refine⟨(E,1,(J+A',0,0,0)),J+A',?_,?_,by unfold okT;simp<;>omega⟩
 ·unfold F.av
  simp only[o_c I,Y,Qb]
  simp[F.al,A.cp4,A.ix,A.gd,Z.R64,g0,g1,g2,g3]
 ·unfold F.af
  simp only[o_a I,hT,Qb]
  simp[F.h,F.ag,A.ix,A.gd,Z.R64,g0,g1,g2,g3,hn]
theorem ap11 {f A' p0 p1 p2 p3 E J N O W:Int}(I:OkS (f,1,A',1,(p0,p1,p2,p3)))(ht:okT (E,f,(J,N,O,W))):ApOk (f,1,A',1,(p0,p1,p2,p3)) (E,f,(J,N,O,W)):=by
 have hf:=I.f
 have hk:=I.k
 have ha:=I.a
 have hp0:=I.p 0 p0 rfl
 have hp1:=I.p 1 p1 rfl
 have hp2:=I.p 2 p2 rfl
 have hp3:=I.p 3 p3 rfl
 simp only at hf hk ha hp0 hp1 hp2 hp3
 have hT:F.j (E,f,(J,N,O,W))=some 0:=(Qac _).elim (fun h=>h.1) fun h=>absurd ht h.2
 have Y:=hT
 rw[←Qad]at Y
 unfold okT at ht
 simp only at ht
 obtain⟨n,hn⟩: ∃n,A.FU=n+5:=⟨A.FU-5,by decide⟩
 have g0: -9223372036854775808≤J+A'∧J+A'≤9223372036854775807:=by omega
 have g1: -9223372036854775808≤N+A'∧N+A'≤9223372036854775807:=by omega
 have g2: -9223372036854775808≤O+A'∧O+A'≤9223372036854775807:=by omega
 have g3: -9223372036854775808≤W+A'∧W+A'≤9223372036854775807:=by omega
 refine⟨(E,2,(J+A',p0,0,0)),J+A',?_,?_,by unfold okT;simp<;>omega⟩
 ·unfold F.av
  simp only[o_c I,Y,Qb]
  simp[F.al,A.cp4,A.ix,A.gd,Z.R64,g0,g1,g2,g3]
 ·unfold F.af
  simp only[o_a I,hT,Qb]
  simp[F.h,F.ag,A.ix,A.gd,Z.R64,g0,g1,g2,g3,hn]
theorem ap12 {f A' p0 p1 p2 p3 E J N O W:Int}(I:OkS (f,1,A',2,(p0,p1,p2,p3)))(ht:okT (E,f,(J,N,O,W))):ApOk (f,1,A',2,(p0,p1,p2,p3)) (E,f,(J,N,O,W)):=by
 have hf:=I.f
 have hk:=I.k
 have ha:=I.a
 have hp0:=I.p 0 p0 rfl
 have hp1:=I.p 1 p1 rfl
 have hp2:=I.p 2 p2 rfl
 have hp3:=I.p 3 p3 rfl
 simp only at hf hk ha hp0 hp1 hp2 hp3
 have hT:F.j (E,f,(J,N,O,W))=some 0:=(Qac _).elim (fun h=>h.1) fun h=>absurd ht h.2
 have Y:=hT
 rw[←Qad]at Y
 unfold okT at ht
 simp only at ht
 obtain⟨n,hn⟩: ∃n,A.FU=n+5:=⟨A.FU-5,by decide⟩
 have g0: -9223372036854775808≤J+A'∧J+A'≤9223372036854775807:=by omega
 have g1: -9223372036854775808≤N+A'∧N+A'≤9223372036854775807:=by omega
 have g2: -9223372036854775808≤O+A'∧O+A'≤9223372036854775807:=by omega
 have g3: -9223372036854775808≤W+A'∧W+A'≤9223372036854775807:=by omega
 refine⟨(E,3,(J+A',p0,p1,0)),J+A',?_,?_,by unfold okT;simp<;>omega⟩
 ·unfold F.av
  simp only[o_c I,Y,Qb]
  simp[F.al,A.cp4,A.ix,A.gd,Z.R64,g0,g1,g2,g3]
 ·unfold F.af
  simp only[o_a I,hT,Qb]
  simp[F.h,F.ag,A.ix,A.gd,Z.R64,g0,g1,g2,g3,hn]
theorem ap13 {f A' p0 p1 p2 p3 E J N O W:Int}(I:OkS (f,1,A',3,(p0,p1,p2,p3)))(ht:okT (E,f,(J,N,O,W))):ApOk (f,1,A',3,(p0,p1,p2,p3)) (E,f,(J,N,O,W)):=by
 have hf:=I.f
 have hk:=I.k
 have ha:=I.a
 have hp0:=I.p 0 p0 rfl
 have hp1:=I.p 1 p1 rfl
 have hp2:=I.p 2 p2 rfl
 have hp3:=I.p 3 p3 rfl
 simp only at hf hk ha hp0 hp1 hp2 hp3
 have hT:F.j (E,f,(J,N,O,W))=some 0:=(Qac _).elim (fun h=>h.1) fun h=>absurd ht h.2
 have Y:=hT
 rw[←Qad]at Y
 unfold okT at ht
 simp only at ht
 obtain⟨n,hn⟩: ∃n,A.FU=n+5:=⟨A.FU-5,by decide⟩
 have g0: -9223372036854775808≤J+A'∧J+A'≤9223372036854775807:=by omega
 have g1: -9223372036854775808≤N+A'∧N+A'≤9223372036854775807:=by omega
 have g2: -9223372036854775808≤O+A'∧O+A'≤9223372036854775807:=by omega
 have g3: -9223372036854775808≤W+A'∧W+A'≤9223372036854775807:=by omega
 refine⟨(E,4,(J+A',p0,p1,p2)),J+A',?_,?_,by unfold okT;simp<;>omega⟩
 ·unfold F.av
  simp only[o_c I,Y,Qb]
  simp[F.al,A.cp4,A.ix,A.gd,Z.R64,g0,g1,g2,g3]
 ·unfold F.af
  simp only[o_a I,hT,Qb]
  simp[F.h,F.ag,A.ix,A.gd,Z.R64,g0,g1,g2,g3,hn]
theorem ap20 {f A' p0 p1 p2 p3 E N J O W:Int}(I:OkS (f,2,A',0,(p0,p1,p2,p3)))(ht:okT (E,f,(N,J,O,W))):ApOk (f,2,A',0,(p0,p1,p2,p3)) (E,f,(N,J,O,W)):=by
 have hf:=I.f
 have hk:=I.k
 have ha:=I.a
 have hp0:=I.p 0 p0 rfl
 have hp1:=I.p 1 p1 rfl
 have hp2:=I.p 2 p2 rfl
 have hp3:=I.p 3 p3 rfl
 simp only at hf hk ha hp0 hp1 hp2 hp3
 have hT:F.j (E,f,(N,J,O,W))=some 0:=(Qac _).elim (fun h=>h.1) fun h=>absurd ht h.2
 have Y:=hT
 rw[←Qad]at Y
 unfold okT at ht
 simp only at ht
 obtain⟨n,hn⟩: ∃n,A.FU=n+5:=⟨A.FU-5,by decide⟩
 have g0: -9223372036854775808≤N+A'∧N+A'≤9223372036854775807:=by omega
 have g1: -9223372036854775808≤J+A'∧J+A'≤9223372036854775807:=by omega
 have g2: -9223372036854775808≤O+A'∧O+A'≤9223372036854775807:=by omega
 have g3: -9223372036854775808≤W+A'∧W+A'≤9223372036854775807:=by omega
 refine⟨(E,2,(N,J+A',0,0)),J+A',?_,?_,by unfold okT;simp<;>omega⟩
 ·unfold F.av
  simp only[o_c I,Y,Qb]
  simp[F.al,A.cp4,A.ix,A.gd,Z.R64,g0,g1,g2,g3]
 ·unfold F.af
  simp only[o_a I,hT,Qb]
  simp[F.h,F.ag,A.ix,A.gd,Z.R64,g0,g1,g2,g3,hn]
theorem ap21 {f A' p0 p1 p2 p3 E N J O W:Int}(I:OkS (f,2,A',1,(p0,p1,p2,p3)))(ht:okT (E,f,(N,J,O,W))):ApOk (f,2,A',1,(p0,p1,p2,p3)) (E,f,(N,J,O,W)):=by
 have hf:=I.f
 have hk:=I.k
 have ha:=I.a
 have hp0:=I.p 0 p0 rfl
 have hp1:=I.p 1 p1 rfl
 have hp2:=I.p 2 p2 rfl
 have hp3:=I.p 3 p3 rfl
 simp only at hf hk ha hp0 hp1 hp2 hp3
 have hT:F.j (E,f,(N,J,O,W))=some 0:=(Qac _).elim (fun h=>h.1) fun h=>absurd ht h.2
 have Y:=hT
 rw[←Qad]at Y
 unfold okT at ht
 simp only at ht
 obtain⟨n,hn⟩: ∃n,A.FU=n+5:=⟨A.FU-5,by decide⟩
 have g0: -9223372036854775808≤N+A'∧N+A'≤9223372036854775807:=by omega
 have g1: -9223372036854775808≤J+A'∧J+A'≤9223372036854775807:=by omega
 have g2: -9223372036854775808≤O+A'∧O+A'≤9223372036854775807:=by omega
 have g3: -9223372036854775808≤W+A'∧W+A'≤9223372036854775807:=by omega
 refine⟨(E,3,(N,J+A',p0,0)),J+A',?_,?_,by unfold okT;simp<;>omega⟩
 ·unfold F.av
  simp only[o_c I,Y,Qb]
  simp[F.al,A.cp4,A.ix,A.gd,Z.R64,g0,g1,g2,g3]
 ·unfold F.af
  simp only[o_a I,hT,Qb]
  simp[F.h,F.ag,A.ix,A.gd,Z.R64,g0,g1,g2,g3,hn]
theorem ap22 {f A' p0 p1 p2 p3 E N J O W:Int}(I:OkS (f,2,A',2,(p0,p1,p2,p3)))(ht:okT (E,f,(N,J,O,W))):ApOk (f,2,A',2,(p0,p1,p2,p3)) (E,f,(N,J,O,W)):=by
 have hf:=I.f
 have hk:=I.k
 have ha:=I.a
 have hp0:=I.p 0 p0 rfl
 have hp1:=I.p 1 p1 rfl
 have hp2:=I.p 2 p2 rfl
 have hp3:=I.p 3 p3 rfl
 simp only at hf hk ha hp0 hp1 hp2 hp3
 have hT:F.j (E,f,(N,J,O,W))=some 0:=(Qac _).elim (fun h=>h.1) fun h=>absurd ht h.2
 have Y:=hT
 rw[←Qad]at Y
 unfold okT at ht
 simp only at ht
 obtain⟨n,hn⟩: ∃n,A.FU=n+5:=⟨A.FU-5,by decide⟩
 have g0: -9223372036854775808≤N+A'∧N+A'≤9223372036854775807:=by omega
 have g1: -9223372036854775808≤J+A'∧J+A'≤9223372036854775807:=by omega
 have g2: -9223372036854775808≤O+A'∧O+A'≤9223372036854775807:=by omega
 have g3: -9223372036854775808≤W+A'∧W+A'≤9223372036854775807:=by omega
 refine⟨(E,4,(N,J+A',p0,p1)),J+A',?_,?_,by unfold okT;simp<;>omega⟩
 ·unfold F.av
  simp only[o_c I,Y,Qb]
  simp[F.al,A.cp4,A.ix,A.gd,Z.R64,g0,g1,g2,g3]
 ·unfold F.af
  simp only[o_a I,hT,Qb]
  simp[F.h,F.ag,A.ix,A.gd,Z.R64,g0,g1,g2,g3,hn]
theorem ap30 {f A' p0 p1 p2 p3 E N O J W:Int}(I:OkS (f,3,A',0,(p0,p1,p2,p3)))(ht:okT (E,f,(N,O,J,W))):ApOk (f,3,A',0,(p0,p1,p2,p3)) (E,f,(N,O,J,W)):=by
 have hf:=I.f
 have hk:=I.k
 have ha:=I.a
 have hp0:=I.p 0 p0 rfl
 have hp1:=I.p 1 p1 rfl
 have hp2:=I.p 2 p2 rfl
 have hp3:=I.p 3 p3 rfl
 simp only at hf hk ha hp0 hp1 hp2 hp3
 have hT:F.j (E,f,(N,O,J,W))=some 0:=(Qac _).elim (fun h=>h.1) fun h=>absurd ht h.2
 have Y:=hT
 rw[←Qad]at Y
 unfold okT at ht
 simp only at ht
 obtain⟨n,hn⟩: ∃n,A.FU=n+5:=⟨A.FU-5,by decide⟩
 have g0: -9223372036854775808≤N+A'∧N+A'≤9223372036854775807:=by omega
 have g1: -9223372036854775808≤O+A'∧O+A'≤9223372036854775807:=by omega
 have g2: -9223372036854775808≤J+A'∧J+A'≤9223372036854775807:=by omega
 have g3: -9223372036854775808≤W+A'∧W+A'≤9223372036854775807:=by omega
 refine⟨(E,3,(N,O,J+A',0)),J+A',?_,?_,by unfold okT;simp<;>omega⟩
 ·unfold F.av
  simp only[o_c I,Y,Qb]
  simp[F.al,A.cp4,A.ix,A.gd,Z.R64,g0,g1,g2,g3]
 ·unfold F.af
  simp only[o_a I,hT,Qb]
  simp[F.h,F.ag,A.ix,A.gd,Z.R64,g0,g1,g2,g3,hn]
theorem ap31 {f A' p0 p1 p2 p3 E N O J W:Int}(I:OkS (f,3,A',1,(p0,p1,p2,p3)))(ht:okT (E,f,(N,O,J,W))):ApOk (f,3,A',1,(p0,p1,p2,p3)) (E,f,(N,O,J,W)):=by
 have hf:=I.f
 have hk:=I.k
 have ha:=I.a
 have hp0:=I.p 0 p0 rfl
 have hp1:=I.p 1 p1 rfl
 have hp2:=I.p 2 p2 rfl
 have hp3:=I.p 3 p3 rfl
 simp only at hf hk ha hp0 hp1 hp2 hp3
 have hT:F.j (E,f,(N,O,J,W))=some 0:=(Qac _).elim (fun h=>h.1) fun h=>absurd ht h.2
 have Y:=hT
 rw[←Qad]at Y
 unfold okT at ht
 simp only at ht
 obtain⟨n,hn⟩: ∃n,A.FU=n+5:=⟨A.FU-5,by decide⟩
 have g0: -9223372036854775808≤N+A'∧N+A'≤9223372036854775807:=by omega
 have g1: -9223372036854775808≤O+A'∧O+A'≤9223372036854775807:=by omega
 have g2: -9223372036854775808≤J+A'∧J+A'≤9223372036854775807:=by omega
 have g3: -9223372036854775808≤W+A'∧W+A'≤9223372036854775807:=by omega
 refine⟨(E,4,(N,O,J+A',p0)),J+A',?_,?_,by unfold okT;simp<;>omega⟩
 ·unfold F.av
  simp only[o_c I,Y,Qb]
  simp[F.al,A.cp4,A.ix,A.gd,Z.R64,g0,g1,g2,g3]
 ·unfold F.af
  simp only[o_a I,hT,Qb]
  simp[F.h,F.ag,A.ix,A.gd,Z.R64,g0,g1,g2,g3,hn]
theorem ap40 {f A' p0 p1 p2 p3 E N O W J:Int}(I:OkS (f,4,A',0,(p0,p1,p2,p3)))(ht:okT (E,f,(N,O,W,J))):ApOk (f,4,A',0,(p0,p1,p2,p3)) (E,f,(N,O,W,J)):=by
 have hf:=I.f
 have hk:=I.k
 have ha:=I.a
 have hp0:=I.p 0 p0 rfl
 have hp1:=I.p 1 p1 rfl
 have hp2:=I.p 2 p2 rfl
 have hp3:=I.p 3 p3 rfl
 simp only at hf hk ha hp0 hp1 hp2 hp3
 have hT:F.j (E,f,(N,O,W,J))=some 0:=(Qac _).elim (fun h=>h.1) fun h=>absurd ht h.2
 have Y:=hT
 rw[←Qad]at Y
 unfold okT at ht
 simp only at ht
 obtain⟨n,hn⟩: ∃n,A.FU=n+5:=⟨A.FU-5,by decide⟩
 have g0: -9223372036854775808≤N+A'∧N+A'≤9223372036854775807:=by omega
 have g1: -9223372036854775808≤O+A'∧O+A'≤9223372036854775807:=by omega
 have g2: -9223372036854775808≤W+A'∧W+A'≤9223372036854775807:=by omega
 have g3: -9223372036854775808≤J+A'∧J+A'≤9223372036854775807:=by omega
 refine⟨(E,4,(N,O,W,J+A')),J+A',?_,?_,by unfold okT;simp<;>omega⟩
 ·unfold F.av
  simp only[o_c I,Y,Qb]
  simp[F.al,A.cp4,A.ix,A.gd,Z.R64,g0,g1,g2,g3]
 ·unfold F.af
  simp only[o_a I,hT,Qb]
  simp[F.h,F.ag,A.ix,A.gd,Z.R64,g0,g1,g2,g3,hn]
theorem o_b7 {s:Sm}(I:OkS s){t:Tm}(J:okT t)(W:t.2.1=s.1):ApOk s t:=by
 obtain⟨f,K,A',N,p0,p1,p2,p3⟩:=s
 obtain⟨E,D,t0,t1,t2,t3⟩:=t
 have hk:=I.k
 have Y:=I.n
 have hf:=I.f
 have O:=I.kn
 simp only at hk Y hf O W
 subst W
 have c5:K=0∨K=1∨K=2∨K=3∨K=4:=by omega
 have cN:N=0∨N=1∨N=2∨N=3∨N=4:=by omega
 rcases c5 with rfl|rfl|rfl|rfl|rfl<;>rcases cN with rfl|rfl|rfl|rfl|rfl<;>first
  |exact ap00 I J
  |exact ap01 I J
  |exact ap02 I J
  |exact ap03 I J
  |exact ap04 I J
  |exact ap10 I J
  |exact ap11 I J
  |exact ap12 I J
  |exact ap13 I J
  |exact ap20 I J
  |exact ap21 I J
  |exact ap22 I J
  |exact ap30 I J
  |exact ap31 I J
  |exact ap40 I J
  |(exfalso;omega)
theorem Apply_both (s:Sm)(t:Tm): ∃u e W Y,F.av s t=some (u,e)∧F.af s t=some (W,Y)∧(e=0↔Y=0)∧(e=0→u=W):=by
 by_cases I:OkS s
 ·rcases Qac t with⟨J,ht⟩|⟨J,ht⟩
  ·by_cases N:t.2.1=s.1
   ·obtain⟨w,v,h2,h3,h4⟩:=(o_b7 I ht N).ex
    rw[h2,h3]
    rcases Qac w with⟨O,h6⟩|⟨O,h6⟩
    ·rw[O,Qb,if_neg (h4.1 h6),if_neg (fun h=>h rfl)]
     exact⟨_,_,_,_,rfl,rfl,Iff.rfl,fun _=>rfl⟩
    ·rw[O,Qb,if_pos (Q4 fun h=>h6 (h4.2 h)),if_pos (by decide)]
     exact⟨_,_,_,_,rfl,rfl,Iff.rfl,fun _=>rfl⟩
   ·have hk:=I.k
    have hn:=I.n
    unfold F.av F.af
    rw[show F.am s=some true from o_c I,show F.ad s=some 0 from o_a I,
     show F.bF t=some 0 from(Qad t).trans J,show F.j t=some 0 from J]
    simp only[Qb,Xh,Qz,if_false,ne_eq,not_true_eq_false]
    rw[if_pos N,if_pos N]
    exact⟨_,_,_,_,rfl,rfl,Iff.rfl,fun _=>rfl⟩
  ·unfold F.av F.af
   rw[show F.am s=some true from o_c I,show F.ad s=some 0 from o_a I,
    show F.bF t=some 10 from(Qad t).trans J,show F.j t=some 10 from J]
   exact⟨_,_,_,_,rfl,rfl,Iff.rfl,fun _=>rfl⟩
 ·unfold F.av F.af
  rw[show F.am s=some false from may_no I,show F.ad s=some 20 from Check_no I]
  exact⟨_,_,_,_,rfl,rfl,by decide,fun h=>absurd h (by decide)⟩
end Go.Proofs.YtlbnpmfggfbdoaaGreatDoor
end
section
namespace Go.Proofs.YtlbnpmfggfbdoaaGreatDoor
open Go.RowKit Go.Graph
theorem Ins_eq (k:Int):F.ed k=F.d1 k:=rfl
theorem Qfc (k:Int):F.d1 k=some (insK k):=by
 unfold F.d1 insK
 simp only[Bool.cond_decide]
 by_cases J:k<1<;>by_cases N:16<k<;>simp[J,N]
 by_cases I:k=1
 ·simp[I]
 ·by_cases O:k=5<;>by_cases W:k=9<;>simp[I,O,W]
theorem Qhz (c:UInt8):F.d2 c=some (Qav c):=by
 unfold F.d2 Qav
 by_cases I:(97:Int)≤(c.toNat:Int)<;>by_cases J:(c.toNat:Int)≤122<;>simp[I,J]
theorem digit_eq (c:UInt8):F.eD c=some (Qgm c):=by
 unfold F.eD Qgm
 by_cases I:(48:Int)≤(c.toNat:Int)<;>by_cases J:(c.toNat:Int)≤57<;>simp[I,J]
theorem name_eq (s:ByteArray)(hs:s.size≤5000):F.eK s=some (named s):=by
 have loop:F.bZ s A.FU 0=some (Qcu s.data.toList):=A.lp0 s.data.toList (fun f y=>F.bZ s f y) (fun _ l=>some (Qcu l))
  (fun f=>by rw[F.bZ,if_neg (by rw[Qdp];omega)];rfl)
  (fun f k x N hk O=>by
   have hk':k<s.size:=hk
   rw[F.bZ,if_pos (by omega),A.ixn N,Qb,Qhz,Qb]
   cases J:Qav x with
   |true=>
    simp only[Xh,Qz,if_false,F.dE]
    rw[A.gd1 (A.r64n (by omega)),O];simp[Qcu,J]
   |false=>
    simp only[Yk,if_true,A.ixn N,Qb,digit_eq,F.dE]
    cases W:Qgm x with
    |true=>simp only[Xh,Qz,if_false];rw[A.gd1 (A.r64n (by omega)),O];simp[Qcu,J,W]
    |false=>simp[Qcu,J,W])
  (by rw[Qdp];have:=Qab;omega)
 unfold F.eK named
 by_cases I:s=ByteArray.mk #[]
 ·simp[I,F.c2]
 ·by_cases Y:(16:Int)<(s.size:Int)
  ·have h2': ¬(s.size:Int)≤16:=by omega
   simp[I,Y,h2',F.c2]
  ·have h2':(s.size:Int)≤16:=by omega
   have h0:=Qfp I
   have e0:A.ix s.data.toList 0=some (Z.bat s 0):=ixb h0
   simp only[I,Y,h2',decide_false,cond_false,Qz,if_false,e0,Qb,Qhz,F.c2,loop,decide_true,ne_eq,not_false_eq_true,Y3,Xi]
   cases Qav (Z.bat s 0)<;>simp
theorem Qgb (s:ByteArray)(i:Nat):(s.get! i)=Z.bat s i:=by
 cases s;simp[ByteArray.get!,Z.bat,getElem!_def,Option.getD]
 rfl
theorem dec_at (s:ByteArray)(i:Nat):Utf8.decode s i=Lib.decodeN (s.size-i) (Z.bat s i).toNat (Z.bat s (i+1)).toNat (Z.bat s (i+2)).toNat (Z.bat s (i+3)).toNat:=by
 rw[Lib.decode_at,Qgb,Qgb,Qgb,Qgb]
theorem dec_lt {s:ByteArray}{i:Nat}(h:(Z.bat s i).toNat <128):Utf8.decode s i=((Z.bat s i).toNat,1):=by
 rw[dec_at];unfold Lib.decodeN;rw[if_pos h]
theorem dec_ge {s:ByteArray}{i:Nat}(h:128≤(Z.bat s i).toNat):128≤(Utf8.decode s i).1:=by
 rw[dec_at];unfold Lib.decodeN;rw[if_neg (by omega)]
 repeat' split
 all_goals first|(simp only[];omega)|decide
theorem named_eq (s:ByteArray)(hs:s.size≤9223372036854775807):F.cE s=some (named s):=by
 have loop: ∀(n p f:Nat),s.size-p≤n→n<f→F.bg s f p=some ((if p=0∧0<s.size then Qav (Z.bat s 0)else true)&&Qcu (s.data.toList.drop p)&&(decide (s≠ByteArray.mk #[])&&decide ((s.size:Int)≤16))):=by
  intro n
  induction n with
  |zero=>
   intro p f hp hf
   obtain⟨f,rfl⟩: ∃f',f=f'+1:=⟨f-1,by omega⟩
   rw[F.bg,if_neg (by omega),Qfr (by omega),if_neg (by omega)]
   by_cases I:s=ByteArray.mk #[]<;>simp[I,Qcu]
  |succ n ih=>
   intro p f hp hf
   obtain⟨f,rfl⟩: ∃f',f=f'+1:=⟨f-1,by omega⟩
   by_cases J:p<s.size
   ·rw[F.bg,if_pos J,Qfl J]
    rcases Y5 (Z.bat s p).toNat 128 with hc|hc
    ·rw[dec_lt hc]
     have W:=ih (p+1) f (by omega) (by omega)
     rw[if_neg (fun h=>by omega)]at W
     simp only[W]
     have e1:(bif decide ((97:Int)≤((Z.bat s p).toNat:Int))then decide (((Z.bat s p).toNat:Int)≤122)else false)=decide ((97:Int)≤((Z.bat s p).toNat:Int)∧((Z.bat s p).toNat:Int)≤122):=by by_cases h:(97:Int)≤((Z.bat s p).toNat:Int)<;>simp[h]
     have e2:(bif decide ((65:Int)≤((Z.bat s p).toNat:Int))then decide (((Z.bat s p).toNat:Int)≤90)else false)=decide ((65:Int)≤((Z.bat s p).toNat:Int)∧((Z.bat s p).toNat:Int)≤90):=by by_cases h:(65:Int)≤((Z.bat s p).toNat:Int)<;>simp[h]
     rw[e1,e2]
     by_cases N:Qav (Z.bat s p)=true
     ·have hL':=N
      simp only[Qav,decide_eq_true_eq]at hL'
      have e3:(if p=0∧0<s.size then Qav (Z.bat s 0)else true)=true:=by split;rename_i h;rw[←h.1];exact N;rfl
      rw[e3]
      simp only[Qcu,X6,N,Bool.true_or,Xi]
      by_cases I:(97:Int)≤((Z.bat s p).toNat:Int)∧((Z.bat s p).toNat:Int)≤122
      ·simp[I]
      ·have h2:=hL'.resolve_left I
       simp[I,h2]
     ·have hL':=N
      simp only[Qav,decide_eq_true_eq,not_or]at hL'
      rw[Bool.not_eq_true]at N
      simp only[hL'.1,hL'.2,decide_false,Qz,if_false,Yk,if_true]
      simp only[Qcu,X6,N,X4]
      by_cases Y:p=0
      ·subst Y;simp[J,N]
      ·have h0': ¬(p:Int)=0:=by omega
       simp only[Y,h0',decide_false,cond_false,false_and,if_false,Xi]
       by_cases O:Qgm (Z.bat s p)=true
       ·have hd':=O
        simp only[Qgm,decide_eq_true_eq]at hd'
        have a1: ¬((Z.bat s p).toNat:Int)<48:=by omega
        have a2: ¬(57:Int)<((Z.bat s p).toNat:Int):=by omega
        simp[a1,a2,O]
       ·have hd':=O
        simp only[Qgm,decide_eq_true_eq]at hd'
        rw[Bool.not_eq_true]at O
        by_cases a1:((Z.bat s p).toNat:Int)<48
        ·simp[a1,O]
        ·have a2:(57:Int)<((Z.bat s p).toNat:Int):=by omega
         simp[a1,a2,O]
    ·have O:=dec_ge hc
     have N:Qav (Z.bat s p)=false:=by unfold Qav;rw[decide_eq_false_iff_not];omega
     have hD:Qgm (Z.bat s p)=false:=by unfold Qgm;rw[decide_eq_false_iff_not];omega
     have b1: ¬((Utf8.decode s p).1:Int)≤122:=by omega
     have b2: ¬((Utf8.decode s p).1:Int)≤90:=by omega
     have b3:(57:Int)<((Utf8.decode s p).1:Int):=by omega
     have b4: ¬((Utf8.decode s p).1:Int)<48:=by omega
     simp[b1,b2,b3,b4,Qcu,N,hD]
   ·rw[F.bg,if_neg J,Qfr J,if_neg (by omega)]
    by_cases I:s=ByteArray.mk #[]<;>simp[I,Qcu]
 unfold F.cE
 rw[loop s.size 0 A.FU (by omega) (by have:=Qab;omega)]
 unfold named
 by_cases I:s=ByteArray.mk #[]
 ·simp[I]
 ·have Y:=Qfp I
  simp only[Y,and_self,if_true,Wc,ne_eq,I,not_false_eq_true,decide_true,Xi]
  congr 1
  cases Qav (Z.bat s 0)<;>cases Qcu s.data.toList<;>simp
theorem tail_eq (c:UInt8):F.c4 c=some (tail5 c):=by
 unfold F.c4 tail5
 by_cases I:(128:Int)≤(c.toNat:Int)<;>by_cases J:(c.toNat:Int)≤191<;>simp[I,J]
theorem ixk (s:ByteArray)(p k:Nat):A.ix s.data.toList ((p:Int)+(k:Int))=if p+k<s.size then some (Z.bat s (p+k))else none:=by
 have e:(p:Int)+(k:Int)=((p+k:Nat):Int):=by omega
 rw[e]
 by_cases h:p+k<s.size
 ·rw[if_pos h];exact ixb h
 ·rw[if_neg h,A.ix_nat];exact Q7 (by rw[Qdp];omega)
def wid (s:ByteArray)(p:Nat):Nat:=if Utf8.decode s p=(65533,1)then 0 else(Utf8.decode s p).2
theorem wid_le {s:ByteArray}{p:Nat}(h:p<s.size):p+wid s p≤s.size:=by
 unfold wid
 split
 ·omega
 ·rw[dec_at]
  unfold Lib.decodeN
  repeat' split
  all_goals simp only[]
  all_goals omega
def widN (n a b c d:Nat):Nat:=
 if a<128 then 1
 else if(194≤a∧a≤223)∧2≤n∧(128≤b∧b≤191)then 2
 else if(224≤a∧a≤239)∧3≤n∧(128≤b∧b≤191)∧(128≤c∧c≤191)∧¬(a=224∧b<160)∧¬(a=237∧159<b)then 3
 else if(240≤a∧a≤244)∧4≤n∧(128≤b∧b≤191)∧(128≤c∧c≤191)∧(128≤d∧d≤191)∧¬(a=240∧b<144)∧¬(a=244∧143<b)then 4
 else 0
theorem pq (c:Prop)[Decidable c](x w:Nat)(I:w≠1):(if(if c then(x,w)else(65533,1))=(65533,1)then 0 else(if c then(x,w)else(65533,1)).2)=if c then w else 0:=by
 by_cases h:c<;>simp[h,I]
theorem widN_eq (n a b c d:Nat)(W:a<256)(Y:b<256)(hc:c<256)(hd:d<256):(if Lib.decodeN n a b c d=(65533,1)then 0 else(Lib.decodeN n a b c d).2)=widN n a b c d:=by
 unfold Lib.decodeN widN
 by_cases I:a<128
 ·simp only[I,if_true,Jf];rw[if_neg (by omega)]
 ·simp only[I,if_false]
  by_cases J:a / 32=6∧1<n∧b / 64=2
  ·simp only[if_pos J]
   rw[pq _ _ _ (by decide)]
   repeat' split
   all_goals omega
  ·simp only[if_neg J]
   by_cases N:a / 16=14∧(1<n∧b / 64=2)∧2<n∧c / 64=2
   ·simp only[if_pos N]
    rw[pq _ _ _ (by decide)]
    repeat' split
    all_goals omega
   ·simp only[if_neg N]
    by_cases O:a / 8=30∧(1<n∧b / 64=2)∧(2<n∧c / 64=2)∧3<n∧d / 64=2
    ·simp only[if_pos O]
     rw[pq _ _ _ (by decide)]
     repeat' split
     all_goals omega
    ·simp only[if_neg O,if_true]
     repeat' split
     all_goals omega
theorem wid_N (s:ByteArray)(p:Nat):wid s p=widN (s.size-p) (Z.bat s p).toNat (Z.bat s (p+1)).toNat (Z.bat s (p+2)).toNat (Z.bat s (p+3)).toNat:=by
 rw[←widN_eq _ _ _ _ _ (UInt8.toNat_lt _) (UInt8.toNat_lt _) (UInt8.toNat_lt _) (UInt8.toNat_lt _),←dec_at];rfl
theorem cnd {α:Type}{p:Prop}[Decidable p](x y:α):(bif decide p then x else y)=if p then x else y:=by by_cases h:p<;>simp[h]
set_option maxHeartbeats 4000000 in
theorem width_eq (s:ByteArray)(p:Nat)(hp:p<s.size)(hs:s.size≤5000):F.ej s p=some (wid s p:Int):=by
 have i1:A.ix s.data.toList ((p:Int)+1)=if p+1<s.size then some (Z.bat s (p+1))else none:=ixk s p 1
 have i2:A.ix s.data.toList ((p:Int)+2)=if p+2<s.size then some (Z.bat s (p+2))else none:=ixk s p 2
 have i3:A.ix s.data.toList ((p:Int)+3)=if p+3<s.size then some (Z.bat s (p+3))else none:=ixk s p 3
 have r1:Z.R64 ((p:Int)+1):=⟨by omega,by omega⟩
 have r2:Z.R64 ((p:Int)+2):=⟨by omega,by omega⟩
 have r3:Z.R64 ((p:Int)+3):=⟨by omega,by omega⟩
 unfold F.ej
 rw[A.gd1 ⟨by omega,by omega⟩,ixb hp,Qb,A.gd1 r1,i1,wid_N]
 generalize Z.bat s p=c0 at*
 generalize Z.bat s (p+1)=c1 at*
 generalize Z.bat s (p+2)=c2 at*
 generalize Z.bat s (p+3)=c3 at*
 have t (c:UInt8):tail5 c=decide (128≤c.toNat∧c.toNat≤191):=by unfold tail5;congr 1;exact propext ⟨fun h=>by omega,fun h=>by omega⟩
 by_cases h1:(1:Int)<(s.size:Int)-(p:Int)
 ·rw[if_pos h1,if_pos (by omega),Qb]
  simp only[F.de,F.dd,F.cS,F.cu,tail_eq,Qb,t,A.gd1 r2,A.gd1 r3,i2,i3]
  unfold widN
  generalize hn:s.size-p=n
  have e2:((2:Int)≤(s.size:Int)-(p:Int))=(2≤n):=propext ⟨fun h=>by omega,fun h=>by omega⟩
  have e3:((3:Int)≤(s.size:Int)-(p:Int))=(3≤n):=propext ⟨fun h=>by omega,fun h=>by omega⟩
  have e4:((4:Int)≤(s.size:Int)-(p:Int))=(4≤n):=propext ⟨fun h=>by omega,fun h=>by omega⟩
  have f2:(p+2<s.size)=(3≤n):=propext ⟨fun h=>by omega,fun h=>by omega⟩
  have f3:(p+3<s.size)=(4≤n):=propext ⟨fun h=>by omega,fun h=>by omega⟩
  have hn2:2≤n:=by omega
  simp only[e2,e3,e4,f2,f3,A.ba,decide_eq_true_eq,hn2,and_true,true_and]
  have q0:((c0.toNat:Int)<128)=(c0.toNat<128):=propext ⟨fun h=>by omega,fun h=>by omega⟩
  have q1:((194:Int)≤(c0.toNat:Int)∧(c0.toNat:Int)≤223)=(194≤c0.toNat∧c0.toNat≤223):=propext ⟨fun h=>by omega,fun h=>by omega⟩
  have q2:((224:Int)≤(c0.toNat:Int)∧(c0.toNat:Int)≤239)=(224≤c0.toNat∧c0.toNat≤239):=propext ⟨fun h=>by omega,fun h=>by omega⟩
  have q3:((240:Int)≤(c0.toNat:Int)∧(c0.toNat:Int)≤244)=(240≤c0.toNat∧c0.toNat≤244):=propext ⟨fun h=>by omega,fun h=>by omega⟩
  have q4:((c0.toNat:Int)=224∧(c1.toNat:Int)<160)=(c0.toNat=224∧c1.toNat<160):=propext ⟨fun h=>by omega,fun h=>by omega⟩
  have q5:((c0.toNat:Int)=237∧(159:Int)<(c1.toNat:Int))=(c0.toNat=237∧159<c1.toNat):=propext ⟨fun h=>by omega,fun h=>by omega⟩
  have q6:((c0.toNat:Int)=240∧(c1.toNat:Int)<144)=(c0.toNat=240∧c1.toNat<144):=propext ⟨fun h=>by omega,fun h=>by omega⟩
  have q7:((c0.toNat:Int)=244∧(143:Int)<(c1.toNat:Int))=(c0.toNat=244∧143<c1.toNat):=propext ⟨fun h=>by omega,fun h=>by omega⟩
  simp only[q0,q1,q2,q3,q4,q5,q6,q7]
  have x1:240≤c0.toNat∧c0.toNat≤244→¬(224≤c0.toNat∧c0.toNat≤239):=fun h h2=>by omega
  have x2:240≤c0.toNat∧c0.toNat≤244→¬(194≤c0.toNat∧c0.toNat≤223):=fun h h2=>by omega
  have x3:224≤c0.toNat∧c0.toNat≤239→¬(194≤c0.toNat∧c0.toNat≤223):=fun h h2=>by omega
  by_cases K0:c0.toNat<128
  ·simp[K0]
  by_cases J:128≤c1.toNat∧c1.toNat≤191
  ·by_cases K1:194≤c0.toNat∧c0.toNat≤223
   ·simp only[if_neg K0,if_pos K1,if_pos J,K1,J,and_self,if_true];rfl
   ·by_cases K2:224≤c0.toNat∧c0.toNat≤239
    ·have K3: ¬(240≤c0.toNat∧c0.toNat≤244):=fun h=>x1 h K2
     by_cases I:3≤n
     ·by_cases N:128≤c2.toNat∧c2.toNat≤191
      ·by_cases O:c0.toNat=224∧c1.toNat<160
       ·simp only[if_neg K0,if_neg K1,if_pos (And.intro K2 I),if_pos J,if_pos I,Qb,if_pos N,eq_true O,if_true,false_and,K1,K3,eq_true O,not_true_eq_false,and_false,if_false];rfl
       ·by_cases Y:c0.toNat=237∧159<c1.toNat
        ·simp only[if_neg K0,if_neg K1,if_pos (And.intro K2 I),if_pos J,if_pos I,Qb,if_pos N,if_neg O,eq_true Y,if_true,false_and,K1,K3,eq_true Y,not_true_eq_false,and_false,if_false];rfl
        ·simp only[if_neg K0,if_neg K1,if_pos (And.intro K2 I),if_pos J,if_pos I,Qb,if_pos N,if_neg O,if_neg Y,false_and,K1,K2,I,J,N,O,Y,not_false_eq_true,and_self,if_true,if_false];rfl
      ·simp only[if_neg K0,if_neg K1,if_pos (And.intro K2 I),if_pos J,if_pos I,Qb,if_neg N,if_neg K3,false_and,K1,K3,N,and_false,if_false,Qz];rfl
     ·simp only[if_neg K0,if_neg K1,I,and_false,if_neg K3,false_and,K1,K3,if_false];rfl
    ·by_cases K3:240≤c0.toNat∧c0.toNat≤244
     ·by_cases W:4≤n
      ·have I:3≤n:=by omega
       by_cases N:128≤c2.toNat∧c2.toNat≤191
       ·by_cases m3:128≤c3.toNat∧c3.toNat≤191
        ·by_cases O:c0.toNat=240∧c1.toNat<144
         ·simp only[if_neg K0,if_neg K1,if_neg K2,K2,false_and,if_pos (And.intro K3 W),if_pos J,if_pos I,if_pos W,Qb,if_pos N,if_pos m3,eq_true O,if_true,K1,eq_true O,not_true_eq_false,and_false,if_false];rfl
         ·by_cases Y:c0.toNat=244∧143<c1.toNat
          ·simp only[if_neg K0,if_neg K1,if_neg K2,K2,false_and,if_pos (And.intro K3 W),if_pos J,if_pos I,if_pos W,Qb,if_pos N,if_pos m3,if_neg O,eq_true Y,if_true,K1,eq_true Y,not_true_eq_false,and_false,if_false];rfl
          ·simp only[if_neg K0,if_neg K1,if_neg K2,K2,false_and,if_pos (And.intro K3 W),if_pos J,if_pos I,if_pos W,Qb,if_pos N,if_pos m3,if_neg O,if_neg Y,K1,K3,W,J,N,m3,O,Y,not_false_eq_true,and_self,if_true,if_false];rfl
        ·simp only[if_neg K0,if_neg K1,if_neg K2,K2,false_and,if_pos (And.intro K3 W),if_pos J,if_pos I,if_pos W,Qb,if_pos N,if_neg m3,K1,m3,and_false,if_false,Qz];rfl
       ·simp only[if_neg K0,if_neg K1,if_neg K2,K2,false_and,if_pos (And.intro K3 W),if_pos J,if_pos I,Qb,if_neg N,K1,N,and_false,if_false,Qz];rfl
      ·simp only[if_neg K0,if_neg K1,if_neg K2,K2,false_and,W,and_false,K1,if_false];rfl
     ·simp only[if_neg K0,if_neg K1,if_neg K2,if_neg K3,K1,K2,K3,false_and,if_false];rfl
  ·simp[K0,J]
 ·rw[if_neg h1]
  simp only[F.de,F.dd,F.cS,F.cu,A.ba,decide_eq_true_eq]
  unfold widN
  have w0:(c0.toNat:Int)<128↔c0.toNat<128:=⟨fun h=>by omega,fun h=>by omega⟩
  by_cases h2:c0.toNat<128
  ·rw[if_pos (w0.2 h2),if_pos h2];rfl
  ·have a1: ¬((194≤c0.toNat∧c0.toNat≤223)∧2≤s.size-p∧128≤c1.toNat∧c1.toNat≤191):=fun h=>by omega
   have a2: ¬((224≤c0.toNat∧c0.toNat≤239)∧3≤s.size-p∧(128≤c1.toNat∧c1.toNat≤191)∧(128≤c2.toNat∧c2.toNat≤191)∧¬(c0.toNat=224∧c1.toNat<160)∧¬(c0.toNat=237∧159<c1.toNat)):=fun h=>by omega
   have a3: ¬((240≤c0.toNat∧c0.toNat≤244)∧4≤s.size-p∧(128≤c1.toNat∧c1.toNat≤191)∧(128≤c2.toNat∧c2.toNat≤191)∧(128≤c3.toNat∧c3.toNat≤191)∧¬(c0.toNat=240∧c1.toNat<144)∧¬(c0.toNat=244∧143<c1.toNat)):=fun h=>by omega
   rw[if_neg (fun h=>h2 (w0.1 h)),if_neg h2,if_neg a1,if_neg a2,if_neg a3]
   simp only[Qz,if_false]
   rw[if_neg (fun h=>by omega),if_neg (fun h=>by omega),if_neg (fun h=>by omega)];rfl
def vld (s:ByteArray):Nat→Nat→Bool
 |0,_=>true
 |n+1,p=>if p<s.size then(if wid s p=0 then false else vld s n (p+wid s p))else true
def cnt (s:ByteArray):Nat→Nat→Nat
 |0,_=>0
 |n+1,p=>if p<s.size then 1+cnt s n (p+(Utf8.decode s p).2)else 0
theorem wid_4 (s:ByteArray)(p:Nat):wid s p≤4:=by
 rw[wid_N];unfold widN;repeat' split
 all_goals omega
theorem wid_dec {s:ByteArray}{p:Nat}(h:wid s p≠0):(Utf8.decode s p).2=wid s p:=by
 unfold wid at h ⊢;split at h
 ·exact absurd rfl h
 ·rename_i I;rw[if_neg I]
theorem Valid_eq (s:ByteArray)(J:s.size≤5000):F.eE s=some (vld s s.size 0):=by
 have loop: ∀(n p f:Nat),s.size-p≤n→n<f→p≤5010→F.cT s f (p:Int)=some (vld s n p):=by
  intro n
  induction n with
  |zero=>
   intro p f hp N _
   obtain⟨f,rfl⟩: ∃f',f=f'+1:=⟨f-1,by omega⟩
   rw[F.cT,if_neg (by omega)];rfl
  |succ n O=>
   intro p f hp N W
   obtain⟨f,rfl⟩: ∃f',f=f'+1:=⟨f-1,by omega⟩
   rw[F.cT,vld]
   by_cases h:p<s.size
   ·rw[if_pos (by omega),if_pos h,width_eq s p h J,Qb]
    have:=wid_le h
    by_cases I:wid s p=0
    ·rw[if_pos (by omega),if_pos I]
    ·rw[if_neg (by omega),if_neg I,A.gd1 ⟨by omega,by omega⟩]
     have e:(p:Int)+(wid s p:Int)=((p+wid s p:Nat):Int):=by omega
     rw[e];exact O _ f (by omega) (by omega) (by omega)
   ·rw[if_neg (by omega),if_neg h]
 exact loop s.size 0 A.FU (by omega) (by have:=Qab;omega) (by omega)
theorem Qek (s:ByteArray):Lib.validD s.data.toList=vld s s.size 0:=by
 have loop: ∀(n p:Nat),Lib.validGoD n (s.data.toList.drop p)=vld s n p:=by
  intro n
  induction n with
  |zero=>intro p;rfl
  |succ n O=>
   intro p
   rw[Lib.validGoD,vld]
   by_cases h:p<s.size
   ·have J:s.data.toList.drop p≠[]:=by rw[Qfl h];simp
    rw[if_neg J,if_pos h,Lib.decodeL_drop,X5]
    by_cases I:Utf8.decode s p=(65533,1)
    ·rw[if_pos (by rw[I];exact⟨rfl,rfl⟩),if_pos (by unfold wid;rw[if_pos I])]
    ·have e:wid s p=(Utf8.decode s p).2:=by unfold wid;rw[if_neg I]
     rw[if_neg (fun N=>I (Jv N.1 N.2)),if_neg (by rw[e];have:=Qho s p;omega),O,e]
   ·rw[if_pos (Qfr h),if_neg h]
 have:=loop s.size 0
 rw[Wc]at this
 exact this
theorem Runes_eq (s:ByteArray)(hs:s.size≤5000)(I:vld s s.size 0=true): ∃l,F.eO s=some l∧l.length=cnt s s.size 0:=by
 have loop: ∀(n p f:Nat) (xs:List (Int×Int)),s.size-p≤n→n<f→xs.length≤p→p≤5010→vld s n p=true→∃l,F.a6 s f xs (p:Int)=some l∧l.length=xs.length+cnt s n p:=by
  intro n
  induction n with
  |zero=>
   intro p f xs hp hf _ _ _
   obtain⟨f,rfl⟩: ∃f',f=f'+1:=⟨f-1,by omega⟩
   rw[F.a6,if_neg (by omega)];exact⟨_,rfl,rfl⟩
  |succ n ih=>
   intro p f xs hp hf hxs hp5 I
   obtain⟨f,rfl⟩: ∃f',f=f'+1:=⟨f-1,by omega⟩
   rw[F.a6]
   rw[vld]at I
   rw[cnt]
   by_cases h:p<s.size
   ·rw[if_pos h]at I
    have hl:=wid_le h
    have h4:=wid_4 s p
    by_cases N:wid s p=0
    ·rw[if_pos N]at I;cases I
    rw[if_neg N]at I
    have J: ∀(w c:Int),w=(wid s p:Int)→∃l,F.b5 (F.a6 s f) xs (p:Int) w c=some l∧l.length=xs.length+(1+cnt s n (p+(Utf8.decode s p).2)):=fun w c O=>by
     subst O
     rw[F.b5,A.gd1 (by simp only[Qh,Qx];omega),A.gd1 ⟨by omega,by omega⟩,wid_dec N]
     have e:(p:Int)+(wid s p:Int)=((p+wid s p:Nat):Int):=by omega
     rw[e]
     obtain⟨l,W,Y⟩:=ih (p+wid s p) f (xs++[((p:Int),c)]) (by omega) (by omega) (by simp only[Qm,Qh,Qx];omega) (by omega) I
     exact⟨l,W,by rw[Y,Qm];simp only[Qh,Qx];omega⟩
    have i0:=ixb (s:=s) h
    have i1:A.ix s.data.toList ((p:Int)+1)=if p+1<s.size then some (Z.bat s (p+1))else none:=ixk s p 1
    have i2:A.ix s.data.toList ((p:Int)+2)=if p+2<s.size then some (Z.bat s (p+2))else none:=ixk s p 2
    have i3:A.ix s.data.toList ((p:Int)+3)=if p+3<s.size then some (Z.bat s (p+3))else none:=ixk s p 3
    have r1:Z.R64 ((p:Int)+1):=⟨by omega,by omega⟩
    have r2:Z.R64 ((p:Int)+2):=⟨by omega,by omega⟩
    have r3:Z.R64 ((p:Int)+3):=⟨by omega,by omega⟩
    rw[if_pos (by omega),if_pos h,width_eq s p h hs,Qb]
    by_cases w1:wid s p=1
    ·rw[if_pos (by omega),i0,Qb];exact J _ _ rfl
    rw[if_neg (by omega)]
    by_cases w2:wid s p=2
    ·rw[if_pos (by omega),A.gd1 r1,i0,Qb,A.gd1 (by decide),i1,if_pos (by omega),Qb,A.gd1 (by decide)];exact J _ _ rfl
    rw[if_neg (by omega)]
    by_cases w3:wid s p=3
    ·rw[if_pos (by omega),A.gd1 ⟨r1,r2⟩,i0,Qb,A.gd1 (by decide),i1,if_pos (by omega),Qb,A.gd1 (by decide),i2,if_pos (by omega),Qb,A.gd1 (by decide)];exact J _ _ rfl
    rw[if_neg (by omega),if_pos (by omega),A.gd1 ⟨r1,r2,r3⟩,i0,Qb,A.gd1 (by decide),i1,if_pos (by omega),Qb,A.gd1 (by decide),i2,if_pos (by omega),Qb,A.gd1 (by decide),i3,if_pos (by omega),Qb,A.gd1 (by decide)];exact J _ _ rfl
   ·rw[if_neg (by omega),if_neg h];exact⟨_,rfl,rfl⟩
 obtain⟨l,W,Y⟩:=loop s.size 0 A.FU [] (by omega) (by have:=Qab;omega) (by simp) (by omega) I
 exact⟨l,W,by simpa using Y⟩
theorem single_eq (s:ByteArray)(N:s.size≤9223372036854775807):F.ez s=some (if cnt s s.size 0=1 then vld s s.size 0 else false):=by
 have loop: ∀(n p f:Nat) (y:Int),s.size-p≤n→n<f→0≤y→y+n≤9223372036854775807→F.cN s f p y=some (if y+(cnt s n p:Int)=1 then vld s s.size 0 else false):=by
  intro n
  induction n with
  |zero=>
   intro p f y hp I _ _
   obtain⟨f,rfl⟩: ∃f',f=f'+1:=⟨f-1,by omega⟩
   rw[F.cN,if_neg (by omega),F.ch,Qek,Qb]
   simp only[F.c7]
   have e:y+(cnt s 0 p:Int)=y:=by rw[cnt];omega
   by_cases h:y=1
   ·rw[if_pos h,if_pos (by omega)]
   ·rw[if_neg h,if_neg (by omega)]
  |succ n J=>
   intro p f y hp I O W
   obtain⟨f,rfl⟩: ∃f',f=f'+1:=⟨f-1,by omega⟩
   rw[F.cN,cnt]
   by_cases h:p<s.size
   ·rw[if_pos h,if_pos h,A.gd1 ⟨by omega,by omega⟩]
    have Y:=Qho s p
    rw[J _ f (y+1) (by omega) (by omega) (by omega) (by omega)]
    congr 2
    exact propext ⟨fun h=>by omega,fun h=>by omega⟩
   ·rw[if_neg h,if_neg h,F.ch,Qek,Qb]
    simp only[F.c7]
    by_cases h:y=1
    ·rw[if_pos h,if_pos (by omega)]
    ·rw[if_neg h,if_neg (by omega)]
 unfold F.ez
 rw[loop s.size 0 A.FU 0 (by omega) (by have:=Qab;omega) (by omega) (by omega)]
 congr 2
 exact propext ⟨fun h=>by omega,fun h=>by omega⟩
theorem one_small {s:ByteArray}(I:cnt s s.size 0=1)(J:vld s s.size 0=true):s.size≤4:=by
 generalize W:s.size=n at I J
 cases n with
 |zero=>omega
 |succ n=>
  rw[cnt,if_pos (by omega)]at I
  rw[vld,if_pos (by omega)]at J
  by_cases N:wid s 0=0
  ·rw[if_pos N]at J;cases J
  rw[wid_dec N]at I
  have:=wid_4 s 0
  cases n with
  |zero=>omega
  |succ n=>
   rw[cnt]at I
   by_cases O:0+wid s 0<s.size
   ·rw[if_pos O]at I;omega
   ·omega
end Go.Proofs.YtlbnpmfggfbdoaaGreatDoor
end
section
end
section
namespace Go.Proofs.YtlbnpmfggfbdoaaGreatDoor
open Go.RowKit Go.Graph
def Qgj (f:Fun):Bool:=if f.1=5 then decide (f.2.2≠ByteArray.mk #[])&&decide ((f.2.2.size:Int)≤16)&&vld f.2.2 f.2.2.size 0 else if f.1=12∨f.1=22 then decide (cnt f.2.2 f.2.2.size 0=1)&&vld f.2.2 f.2.2.size 0 else decide (f.2.2=ByteArray.mk #[])
theorem Qgv (f:Fun):F.ey f=some (Qcp f):=by
 unfold F.ey F.dJ F.dI Qcp
 simp only[A.ba,decide_eq_true_eq]
 by_cases N:f.1=3
 ·simp[N]
 ·by_cases I:f.1=13
  ·simp[I]
  ·by_cases h6:f.1=6
   ·simp[h6]
   ·by_cases J:f.1=11<;>simp[N,I,h6,J]
theorem Qgl (f:Fun):F.eH f=some (Qcp f):=Qgv f
theorem text_eq (f:Fun)(O:f.2.2.size≤9223372036854775807):F.eR f=some (Qgj f):=by
 unfold F.eR Qgj
 simp only[F.eo,F.ep,A.ba,single_eq _ O,F.ch,Qek,Qb,decide_eq_true_eq]
 by_cases N:f.1=5
 ·simp only[N,if_true]
  by_cases W:f.2.2=ByteArray.mk #[]<;>by_cases Y:(f.2.2.size:Int)≤16<;>simp[W,Y]
 ·by_cases I:f.1=12
  ·simp[I]
  ·by_cases J:f.1=22<;>simp[N,I,J]
theorem one_le {s:ByteArray}:(1:Int)≤(s.size:Int)↔s≠ByteArray.mk #[]:=by
 constructor
 ·intro h e;subst e;exact absurd h (by decide)
 ·intro h;have:=Qfp h;omega
theorem Qim (f:Fun)(N:f.2.2.size≤5000):F.eL f=some (Qgj f):=by
 have hj: ∀y,F.dG f y=some (if y=true then decide (cnt f.2.2 f.2.2.size 0=1)&&vld f.2.2 f.2.2.size 0 else decide (f.2.2=ByteArray.mk #[])):=by
  intro y
  unfold F.dG
  simp only[F.dF,Valid_eq _ N,Qb]
  cases y with
  |false=>simp
  |true=>
   simp only[if_true]
   by_cases h4:(f.2.2.size:Int)≤4
   ·rw[if_pos h4]
    cases O:vld f.2.2 f.2.2.size 0 with
    |true=>
     obtain⟨l,I,W⟩:=Runes_eq f.2.2 N O
     rw[if_pos rfl,I,Qb,Y3]
     congr 2
     rw[W];exact propext ⟨fun h=>by omega,fun h=>by omega⟩
    |false=>simp
   ·rw[if_neg h4]
    congr 1
    cases O:vld f.2.2 f.2.2.size 0 with
    |false=>simp
    |true=>
     by_cases I:cnt f.2.2 f.2.2.size 0=1
     ·have:=one_small I O;omega
     ·simp[I]
 unfold F.eL Qgj
 simp only[F.d8,hj,A.ba,Valid_eq _ N,Qb,decide_eq_true_eq,one_le]
 by_cases h5:f.1=5
 ·simp only[h5,if_true]
  by_cases I:f.2.2=ByteArray.mk #[]<;>by_cases W:(f.2.2.size:Int)≤16<;>simp[I,W]
 ·by_cases J:f.1=12
  ·simp[J]
  ·by_cases Y:f.1=22<;>simp[h5,J,Y]
def anyF (f:Fun)(l:List Int):Int:=if l.any (fun y=>decide (y=f.1)&&(Qcp f&&Qgj f))=true then 0 else 60
def kinds (k:Int):List Int:=if k=2 then [1,2,3,4,5,6,7,8]else if k=3 then [11,12,13]else if k=4 then [21,22]else if k=8 then [31,32,33,34]else if k=11 then [41,42]else []
def chk (k:Int)(f:Fun):Int:=if kinds k=[]then(if f=(0,0,ByteArray.mk #[])then 0 else 60)else anyF f (kinds k)
theorem chk_l (f:Fun)(I:f.2.2.size≤9223372036854775807): ∀l,F.bV f l=some (anyF f l)
 | []=>rfl
 |y::l=>by
  have J:=chk_l f I l
  unfold F.bV
  simp only[F.dy,Qgv,text_eq _ I,Qb,J,anyF,Ye]
  by_cases h:y=f.1
  ·subst h
   cases N:Qcp f<;>cases O:Qgj f<;>simp
  ·simp[h]
theorem Qjh (k:Int)(f:Fun)(I:f.2.2.size≤9223372036854775807):F.et k f=some (chk k f):=by
 have u2:F.cs 1 8=some [1,2,3,4,5,6,7,8]:=by kernel_rfl
 have u3:F.cs 11 13=some [11,12,13]:=by kernel_rfl
 have u4:F.cs 21 22=some [21,22]:=by kernel_rfl
 have u8:F.cs 31 34=some [31,32,33,34]:=by kernel_rfl
 have u11:F.cs 41 42=some [41,42]:=by kernel_rfl
 unfold F.et F.eV F.eQ chk kinds
 by_cases O:k=2
 ·simp[O,u2,chk_l f I]
 ·by_cases W:k=3
  ·simp[W,u3,chk_l f I]
  ·by_cases Y:k=4
   ·simp[Y,u4,chk_l f I]
   ·by_cases h8:k=8
    ·simp[h8,u8,chk_l f I]
    ·by_cases J:k=11
     ·simp[J,u11,chk_l f I]
     ·simp only[O,W,Y,h8,J,if_false,Qb]
      rw[if_pos (by decide),if_pos trivial]
      by_cases N:f=(0,0,ByteArray.mk #[])
      ·rw[if_neg (fun h=>h N),if_pos N]
      ·rw[if_pos N,if_neg N]
theorem R06_l (f:Fun)(I:f.2.2.size≤5000)(l:List Int)(O:l.length≤100):F.bp f l A.FU 0=some (anyF f l):=
 A.lp0 l (fun n y=>F.bp f l n y) (fun _ t=>some (anyF f t))
  (fun n=>by rw[F.bp,if_neg (by omega)];rfl)
  (fun n k x J hk N=>by
   rw[F.bp,if_pos (by omega),A.ixn J,Qb]
   simp only[F.df,Qgl,Qim _ I,Qb,N,A.gd1 (A.r64n (n:=k) (by omega)),anyF,Ye]
   by_cases h:x=f.1
   ·subst h
    cases W:Qcp f<;>cases Y:Qgj f<;>simp
   ·simp[h])
  (by have:=Qab;omega)
theorem Qhi (k:Int)(f:Fun)(J:f.2.2.size≤5000):F.ek k f=some (chk k f):=by
 have u2:F.c3 2=some [1,2,3,4,5,6,7,8]:=by kernel_rfl
 have u3:F.c3 3=some [11,12,13]:=by kernel_rfl
 have u4:F.c3 4=some [21,22]:=by kernel_rfl
 have u8:F.c3 8=some [31,32,33,34]:=by kernel_rfl
 have u11:F.c3 11=some [41,42]:=by kernel_rfl
 have u0:F.cr 1 0=some []:=by kernel_rfl
 unfold F.ek chk kinds
 by_cases O:k=2
 ·subst O;rw[u2,Qb,if_neg (by simp),F.bC,if_neg (by simp),R06_l f J _ (by simp)];simp
 ·by_cases W:k=3
  ·subst W;rw[u3,Qb,if_neg (by simp),F.bC,if_neg (by simp),R06_l f J _ (by simp)];simp
  ·by_cases Y:k=4
   ·subst Y;rw[u4,Qb,if_neg (by simp),F.bC,if_neg (by simp),R06_l f J _ (by simp)];simp
   ·by_cases h8:k=8
    ·subst h8;rw[u8,Qb,if_neg (by simp),F.bC,if_neg (by simp),R06_l f J _ (by simp)];simp
    ·by_cases I:k=11
     ·subst I;rw[u11,Qb,if_neg (by simp),F.bC,if_neg (by simp),R06_l f J _ (by simp)];simp
     ·have u:F.c3 k=some []:=by unfold F.c3;simp only[O,W,Y,h8,I,if_false,u0]
      rw[u,Qb,if_pos (by simp),F.bC,R06_l f J _ (by simp)]
      simp only[O,W,Y,h8,I,if_false,if_true,decide_eq_true_eq,anyF,List.any_nil,Qz]
      by_cases N:f=(0,0,ByteArray.mk #[])
      ·rw[if_pos N,if_pos N]
      ·rw[if_neg N,if_neg N]
end Go.Proofs.YtlbnpmfggfbdoaaGreatDoor
end
section
end
section
namespace Go.Proofs.YtlbnpmfggfbdoaaGreatDoor
open Go.RowKit Go.Graph
def Qae (g:List Nd):List (Int×Nd):=g.map fun n=>(n.1,n)
def Inc (g:List Nd):Prop:=g.Pairwise fun a b=>a.1<b.1
theorem Qfe (z:Nd)(id:Int): ∀(k:Nat) (l:List Nd),(idxF id k l= -1∧(∀n∈l,n.1≠id)∧Z.mget z (Qae l) id=z∧Z.mhas (Qae l) id=false)∨(∃j n,idxF id k l=((k+j:Nat):Int)∧l[j]?=some n∧n.1=id∧Z.mget z (Qae l) id=n∧Z.mhas (Qae l) id=true)
 |k,[]=>.inl ⟨rfl,by simp,rfl,rfl⟩
 |k,x::r=>by
  unfold idxF Qae
  simp only[Q3,Z.mget,Z.mhas]
  by_cases h:x.1=id
  ·rw[if_pos h,if_pos h.symm,if_pos h.symm]
   exact .inr ⟨0,x,rfl,rfl,h,rfl,rfl⟩
  ·rw[if_neg h,if_neg (fun e=>h e.symm),if_neg (fun e=>h e.symm)]
   rcases Qfe z id (k+1) r with⟨I,J,N,O⟩|⟨j,n,I,J,N,O,Y⟩
   ·refine .inl ⟨I,fun n W=>?_,N,O⟩
    rcases Qk.1 W with rfl|W
    ·exact h
    ·exact J n W
   ·exact .inr ⟨j+1,n,by rw[I];congr 1;omega,J,N,O,Y⟩
theorem Qbj (z:Nd)(g:List Nd)(id:Int):(idx g id= -1∧(∀n∈g,n.1≠id)∧Z.mget z (Qae g) id=z∧Z.mhas (Qae g) id=false)∨(∃(j:Nat) (n:Nd),idx g id=(j:Int)∧g[j]?=some n∧n.1=id∧Z.mget z (Qae g) id=n∧Z.mhas (Qae g) id=true):=by
 have:=Qfe z id 0 g
 simp only[Wh]at this
 exact this
theorem Inc.lt {g:List Nd}(h:Inc g){i j:Nat}{a b:Nd}(J:g[i]?=some a)(N:g[j]?=some b)(I:i<j):a.1<b.1:=by
 obtain⟨O,rfl⟩:=Qc.1 J
 obtain⟨W,rfl⟩:=Qc.1 N
 exact X2.1 h i j O W I
theorem Inc.inj {g:List Nd}(h:Inc g){i j:Nat}{a b:Nd}(J:g[i]?=some a)(N:g[j]?=some b)(e:a.1=b.1):i=j:=by
 rcases Nat.lt_trichotomy i j with I|I|I
 ·have:=h.lt J N I;omega
 ·exact I
 ·have:=h.lt N J I;omega
theorem Inc.idx {g:List Nd}(h:Inc g){j:Nat}{n:Nd}(J:g[j]?=some n):Graph.idx g n.1=(j:Int):=by
 rcases Qbj z0 g n.1 with⟨_,I,_⟩|⟨i,m,N,I,O,_⟩
 ·exact absurd rfl (I n (Qg J))
 ·rw[N,h.inj I J O]
theorem Inc.mget {g:List Nd}(h:Inc g){j:Nat}{n z:Nd}(I:g[j]?=some n):Z.mget z (Qae g) n.1=n:=by
 rcases Qbj z g n.1 with⟨_,J,_⟩|⟨i,m,W,J,N,O,_⟩
 ·exact absurd rfl (J n (Qg I))
 ·have:=h.inj J I N
  subst this
  rw[J]at I;injection I with I;rw[O,I]
theorem Qbl (g:List Nd)(id:Int)(N:g.length≤100):F.c0 g id=some (idx g id):=
 A.lp0 g (fun f y=>F.cR g id f y) (fun k l=>some (idxF id k l))
  (fun f=>by rw[F.cR,if_neg (by omega)];rfl)
  (fun f k x I hk J=>by
   rw[F.cR,if_pos (by omega),A.ixn I,Qb,idxF]
   by_cases h:x.1=id
   ·rw[if_pos h,if_pos h]
   ·rw[if_neg h,if_neg h,A.gd1 (A.r64n (by omega)),J])
  (by have:=Qab;omega)
def ownQ (n:Nd):Bool:=if n.1<1∨255<n.1∨insK n.2.1<0∨(n.2.2.1.length:Int)≠insK n.2.1 then false else if ownC n then false else if n.2.1=1∨n.2.1=15 then named n.2.2.2.2.1 else decide (n.2.2.2.2.1=ByteArray.mk #[])
theorem Qeq (k:Int):F.bG k=some (decide (k=1∨k=15)):=by
 unfold F.bG;rw[A.bo]
theorem gIns_eq (k:Int):F.ed k=some (insK k):=(Ins_eq k).trans (Qfc k)
theorem own_eq (n:Nd)(hs:n.2.2.2.2.1.size≤9223372036854775807):F.ee n=some (ownQ n):=by
 have hj: ∀y,F.c6 n y=some (if y=true then false else if ownC n then false else if n.2.1=1∨n.2.1=15 then named n.2.2.2.2.1 else decide (n.2.2.2.2.1=ByteArray.mk #[])):=by
  intro y
  unfold F.c6 F.c5 ownC
  cases y with
  |true=>simp
  |false=>
   simp only[Qz,if_false,A.bo,decide_eq_true_eq,Qeq,Qb,named_eq _ hs,A.bn]
   by_cases J:n.2.1=14
   ·simp only[J,if_true,true_and,not_true_eq_false,ne_eq,false_and,or_false,if_false]
    by_cases I:n.2.2.2.2.2.1<1∨8<n.2.2.2.2.2.1∨n.2.2.2.2.2.2<1∨4<n.2.2.2.2.2.2
    ·have hc':((n.2.2.2.2.2.1<1∨8<n.2.2.2.2.2.1)∨n.2.2.2.2.2.2<1)∨4<n.2.2.2.2.2.2:=by omega
     rw[if_pos hc',if_pos I]
    ·have hc': ¬(((n.2.2.2.2.2.1<1∨8<n.2.2.2.2.2.1)∨n.2.2.2.2.2.2<1)∨4<n.2.2.2.2.2.2):=by omega
     rw[if_neg hc',if_neg I]
     simp
   ·simp only[J,if_false,false_and,not_false_eq_true,ne_eq,true_and,false_or,if_true]
    by_cases I: ¬n.2.2.2.2.2.1=0∨¬n.2.2.2.2.2.2=0
    ·rw[if_pos I,if_pos I]
    ·rw[if_neg I,if_neg I]
     by_cases N:n.2.1=1∨n.2.1=15
     ·rw[if_pos N,if_pos N]
     ·rw[if_neg N,if_neg N]
 unfold F.ee ownQ
 simp only[gIns_eq,Qb,hj,A.bo,decide_eq_true_eq,F.c5]
 by_cases O:n.1<1∨255<n.1
 ·rw[if_pos O,if_pos (by omega)]
 ·rw[if_neg O]
  by_cases W:insK n.2.1<0
  ·rw[if_pos W,if_pos trivial,if_pos (by omega)]
  ·rw[if_neg W]
   by_cases Y:(n.2.2.1.length:Int)≠insK n.2.1
   ·rw[if_pos Y,if_pos (by omega)]
   ·have hb: ¬(n.1<1∨255<n.1∨insK n.2.1<0∨(n.2.2.1.length:Int)≠insK n.2.1):=by omega
    rw[if_neg Y,if_neg hb]
def twiceF (l:List Nd)(n:Nd):Bool:=l.any fun x=>decide (x.2.1=n.2.1)&&decide (x.2.2.2.2.1=n.2.2.2.2.1)
theorem twice_eq (l:List Nd)(n:Nd)(Y:l.length≤100):F.q l n=some (twiceF l n):=by
 have loop:F.a l n A.FU 0=some (if twiceF l n=true then(0:Int)else-1)∨∃i:Nat,F.a l n A.FU 0=some (i:Int)∧twiceF l n=true:=by
  have key: ∀(m k f:Nat),k+m=l.length→m<f→(twiceF (l.drop k) n=true∧∃i:Nat,F.a l n f (k:Int)=some (i:Int))∨(twiceF (l.drop k) n=false∧F.a l n f (k:Int)=some (-1)):=by
   intro m
   induction m with
   |zero=>
    intro k f hk O
    obtain⟨f,rfl⟩: ∃f',f=f'+1:=⟨f-1,by omega⟩
    rw[F.a,if_neg (by omega),Q2 (by omega)]
    exact .inr ⟨rfl,rfl⟩
   |succ m W=>
    intro k f hk O
    obtain⟨f,rfl⟩: ∃f',f=f'+1:=⟨f-1,by omega⟩
    have N:l[k]?=some l[k]:=Qd (by omega)
    generalize l[k]=x at N
    rw[F.a,if_pos (by omega),A.ixn N,Qb,F.ea,Qb,A.ba,A.dropx N]
    by_cases h:x.2.1=n.2.1∧x.2.2.2.2.1=n.2.2.2.2.1
    ·left
     exact⟨by simp[twiceF,h.1,h.2],k,by rw[if_pos (by simpa using h)]⟩
    ·rw[if_neg (by simpa using h),A.gd1 (A.r64n (by omega))]
     have e:twiceF (x::l.drop (k+1)) n=twiceF (l.drop (k+1)) n:=by
      simp only[twiceF,Ye]
      rw[←Bool.decide_and,decide_eq_false h,X4]
     rw[e]
     exact W (k+1) f (by omega) (by omega)
  rcases key l.length 0 A.FU (by omega) (by have:=Qab;omega)with⟨I,i,J⟩|⟨I,J⟩
  ·rw[Wc]at I;exact .inr ⟨i,J,I⟩
  ·rw[Wc]at I;left;rw[I];exact J
 unfold F.q F.az
 rcases loop with h|⟨i,h,J⟩
 ·rw[show F.a l n A.FU 0=_ from h,Qb]
  cases twiceF l n<;>simp
 ·rw[show F.a l n A.FU 0=_ from h,Qb,J]
  simp
theorem Qfz {κ α:Type}[DecidableEq κ]: ∀{m:List (κ×α)} {k:κ} {x:α},Z.mhas m k=false→Z.mins m k x=m++[(k,x)]
 | [],_,_,_=>rfl
 |(a,y)::r,k,x,h=>by
  simp only[Z.mhas]at h
  by_cases hk:k=a
  ·rw[if_pos hk]at h;cases h
  ·rw[if_neg hk]at h
   unfold Z.mins
   rw[if_neg hk,Qfz h];rfl
theorem mhas_mapOf {l:List Nd}{k:Int}(h: ∀n∈l,n.1≠k):Z.mhas (Qae l) k=false:=by
 rcases Qbj z0 l k with⟨_,_,_,I⟩|⟨j,n,_,J,I,_⟩
 ·exact I
 ·exact absurd I (h n (Qg J))
theorem Qcv {α:Type}{l:List α}{k:Nat}{x:α}(h:l[k]?=some x):l.take (k+1)=l.take k++[x]:=by rw[Xw,h];rfl
def okL (g:List Nd):Nat→Int→List Nd→Bool
 |_,_,[]=>true
 |k,last,n::r=>if n.1≤last∨ownQ n=false∨((n.2.1=1∨n.2.1=15)∧twiceF (g.take k) n=true)then false else okL g (k+1) n.1 r
theorem whole_l6 (g:List Nd)(hg:g.length≤100)(hf: ∀x,x∈g→x.2.2.2.2.1.size≤9223372036854775807):F.aN g A.FU [] 0 0=if okL g 0 0 g=true then F.a3 g (Qae g) A.FU 0 else some (none,80):=
 A.lp g (fun f (s:List (Int×Nd)×Int) y=>F.aN g f s.1 s.2 y) (fun k l s=>if okL g k s.2 l=true then F.a3 g (Qae g) A.FU 0 else some (none,80)) (fun k s=>s.1=Qae (g.take k)∧∀n∈g.take k,n.1≤s.2)
  (fun f s hp=>by
   rw[F.aN,if_neg (by omega),okL,if_pos rfl,hp.1,Ws (Q0 _)])
  (fun f s k x W hk hp ih=>by
   obtain⟨hm,N⟩:=hp
   have hown:=own_eq x (hf x (Qg W))
   have hj: ∀y,F.cL (F.aN g f) s.1 s.2 (k:Int) x y=if x.1≤s.2∨ownQ x=false∨y=true then some (none,80)else F.aN g f (Z.mins s.1 x.1 x) x.1 ((k:Int)+1):=by
    intro y
    rw[F.cL]
    simp only[F.da,if_true]
    by_cases O:x.1≤s.2
    ·rw[if_pos O,if_pos (.inl O)]
    ·rw[if_neg O,show F.ee x=_ from hown,Qb,A.gd1 (A.r64n (by omega))]
     cases ownQ x<;>cases y<;>simp[O]
   have hnew: ¬x.1≤s.2→F.aN g f (Z.mins s.1 x.1 x) x.1 ((k:Int)+1)=if okL g (k+1) x.1 (g.drop (k+1))=true then F.a3 g (Qae g) A.FU 0 else some (none,80):=fun O=>by
    rw[hm,Qfz (mhas_mapOf fun n Y e=>by have:=N n Y;omega)]
    refine ih (Qae (g.take k)++[(x.1,x)],x.1) ⟨?_,fun n Y=>?_⟩
    ·rw[Qcv W];simp[Qae]
    ·rw[Qcv W]at Y
     rcases Qn.1 Y with h2|h2
     ·have:=N n h2;simp only[];omega
     ·rw[Qj]at h2;subst h2;exact Xa _
   rw[F.aN,if_pos (by omega),A.ixn W,Qb,Qeq,Qb,okL]
   by_cases ho:x.2.1=1∨x.2.1=15
   ·rw[if_pos (by simpa using ho),A.gd1 ⟨by omega,by omega⟩,show((k:Int)).toNat=k from Qq k,
     show F.q (List.take k g) x=_ from twice_eq (g.take k) x (by rw[Qs];omega),Qb,hj]
    by_cases I:x.1≤s.2∨ownQ x=false∨twiceF (g.take k) x=true
    ·have J:x.1≤s.2∨ownQ x=false∨((x.2.1=1∨x.2.1=15)∧twiceF (g.take k) x=true):=by rcases I with h|h|h;exact .inl h;exact .inr (.inl h);exact .inr (.inr ⟨ho,h⟩)
     rw[if_pos I,if_pos J,if_neg Wd]
    ·have J: ¬(x.1≤s.2∨ownQ x=false∨((x.2.1=1∨x.2.1=15)∧twiceF (g.take k) x=true)):=fun h=>I (by rcases h with h|h|h;exact .inl h;exact .inr (.inl h);exact .inr (.inr h.2))
     rw[if_neg I,if_neg J]
     exact hnew fun h=>I (.inl h)
   ·rw[if_neg (by simpa using ho),hj]
    by_cases I:x.1≤s.2∨ownQ x=false
    ·have J:x.1≤s.2∨ownQ x=false∨((x.2.1=1∨x.2.1=15)∧twiceF (g.take k) x=true):=by rcases I with h|h;exact .inl h;exact .inr (.inl h)
     rw[if_pos (by rcases I with h|h;exact .inl h;exact .inr (.inl h)),if_pos J,if_neg Wd]
    ·have J: ¬(x.1≤s.2∨ownQ x=false∨((x.2.1=1∨x.2.1=15)∧twiceF (g.take k) x=true)):=fun h=>I (by rcases h with h|h|h;exact .inl h;exact .inr h;exact absurd h.1 ho)
     rw[if_neg (fun h=>I (by rcases h with h|h|h;exact .inl h;exact .inr h;cases h)),if_neg J]
     exact hnew fun h=>I (.inl h))
  (by have:=Qab;omega) ([],0) ⟨rfl,by simp⟩
theorem whole_l5 (g:List Nd)(m:List (Int×Nd))(W:g.length≤100)(J: ∀x,x∈g→x.2.2.2.1.2.2.size≤9223372036854775807):F.a3 g m A.FU 0=if g.all (fun n=>decide (chk n.2.1 n.2.2.2.1=0))=true then F.aR g m A.FU 0 else some (none,60):=
 A.lp0 g (fun f y=>F.a3 g m f y) (fun _ l=>if l.all (fun n=>decide (chk n.2.1 n.2.2.2.1=0))=true then F.aR g m A.FU 0 else some (none,60))
  (fun f=>by rw[F.a3,if_neg (by omega)];rfl)
  (fun f k x I hk N=>by
   have h6:chk x.2.1 x.2.2.2.1≠0→chk x.2.1 x.2.2.2.1=60:=by
    intro h;unfold chk anyF at h ⊢;repeat' split
    all_goals first|rfl|(exfalso;simp_all;done)
   rw[F.a3,if_pos (by omega),A.ixn I,Qb,show F.et x.2.1 x.2.2.2.1=_ from Qjh x.2.1 x.2.2.2.1 (J x (Qg I)),Qb,X6]
   by_cases h:chk x.2.1 x.2.2.2.1=0
   ·rw[if_neg (fun O=>O h),A.gd1 (A.r64n (by omega)),N,decide_eq_true h,Xi]
   ·rw[if_pos h,decide_eq_false h,X0,if_neg (by simp),h6 h])
  (by have:=Qab;omega)
def inOk (g:List Nd)(k:Int):Bool:=if idx g k<0 then false else decide ((at_ g (idx g k)).2.1≠15)
def sortP (g:List Nd)(m:List (Int×Nd)):Option ((Option ((List (Int×Nd))×(List Int)×(List (Int×Int))))×Int):=
 (F.bu (m,[],[]) g).bind fun r73=>(if(!r73.1)=true then(some (none,81))else((F.bt r73.2).bind fun r79=>(if(!r79.1)=true then(some (none,80))else((F.ci r79.2 g).bind fun r85=>(if r85=true then(some (none,81))else(some (some r79.2,0)))))))
theorem whole_l4 (g:List Nd)(hg:g.length≤100)(hf: ∀x,x∈g→x.2.2.1.length≤5000):F.aR g (Qae g) A.FU 0=if g.all (fun n=>n.2.2.1.all (inOk g))=true then sortP g (Qae g)else some (none,80):=
 A.lp0 g (fun f y=>F.aR g (Qae g) f y) (fun _ l=>if l.all (fun n=>n.2.2.1.all (inOk g))=true then sortP g (Qae g)else some (none,80))
  (fun f=>by rw[F.aR,if_neg (by omega)];rfl)
  (fun f k x W hk ih=>by
   rw[F.aR,if_pos (by omega),A.ixn W,Qb]
   have hlen:=hf x (Qg W)
   have loop:=A.lp0 x.2.2.1 (fun I y=>F.cj (F.aR g (Qae g) f) (Qae g) (k:Int) x I y) (fun _ l=>if l.all (inOk g)=true then F.aR g (Qae g) f ((k:Int)+1)else some (none,80))
    (fun I=>by rw[F.cj,if_neg (by omega),A.gd1 (A.r64n (by omega))];rfl)
    (fun I j y hy hj2 J=>by
     rw[F.cj,if_pos (by omega),A.ixn hy,Qb,A.lt,X6]
     rcases Qbj ((0,0,[],(0,0,(ByteArray.mk #[])),(ByteArray.mk #[]),0,0):Nd) g y with⟨Y,_,h3,N⟩|⟨i,n,Y,h2,h3,N,h5⟩
     ·rw[h3,N]
      have:inOk g y=false:=by unfold inOk;rw[if_pos (by omega)]
      rw[this];simp
     ·rw[N,h5]
      have e:inOk g y=decide (n.2.1≠15):=by unfold inOk;rw[if_neg (by omega),Qax Y h2]
      rw[e,A.gd1 (A.r64n (by omega)),J]
      by_cases O:n.2.1=15<;>simp[O])
    (by have:=Qab;omega)
   rw[loop,ih,X6]
   cases x.2.2.1.all (inOk g)with
   |true=>rw[if_pos rfl,Xi]
   |false=>rw[if_neg Wd,X0,if_neg Wd])
  (by have:=Qab;omega)
theorem whole_P (g:List Nd)(J:Few g):F.bW g=if(32:Int)<(g.length:Int)then some (none,80)else if okL g 0 0 g=true then(if g.all (fun n=>decide (chk n.2.1 n.2.2.2.1=0))=true then(if g.all (fun n=>n.2.2.1.all (inOk g))=true then sortP g (Qae g)else some (none,80))else some (none,60))else some (none,80):=by
 have N:=J.1
 unfold F.bW
 rw[whole_l6 g (by omega) (fun x I=>Wk (J.2 x I).2.1 (by decide)),whole_l5 g _ (by omega) (fun x I=>Wk (J.2 x I).2.2 (by decide)),whole_l4 g (by omega) (fun x I=>(J.2 x I).1)]
theorem Named_eq (g:List Nd)(kd:Int)(s:ByteArray)(W:g.length≤100):F.eN g kd s=some (Qck kd s g):=
 A.lp0 g (fun f y=>F.b4 g kd s f y) (fun _ l=>some (Qck kd s l))
  (fun f=>by rw[F.b4,if_neg (by omega)];rfl)
  (fun f k x I hk N=>by
   rw[F.b4,if_pos (by omega),A.ixn I,Qb,Qck]
   simp only[F.dP,A.ixn I,Qb,A.gd1 (A.r64n (n:=k) (by omega)),N,decide_eq_true_eq,kind,name]
   by_cases J:x.2.1=kd
   ·by_cases O:x.2.2.2.2.1=s<;>simp[J,O]
   ·simp[J])
  (by have:=Qab;omega)
theorem R_own_eq (g:List Nd)(i:Nat)(n:Nd)(hn:g[i]?=some n)(hg:g.length≤100)(hs:n.2.2.2.2.1.size≤5000):F.eT g (i:Int)=some (own g (i:Int) n):=by
 have hi:=(Qc.1 hn).1
 have Y:F.d3 g n=some (ownT g n):=by
  unfold F.d3 ownT
  simp only[A.ba,decide_eq_true_eq,Named_eq g _ _ hg,name_eq _ hs,Qb]
  by_cases h:n.2.1≠1∧n.2.1≠15
  ·rw[if_pos h,if_pos h]
  ·rw[if_neg h,if_neg h];cases named n.2.2.2.2.1<;>rfl
 have hj: ∀y,F.bK g n y=some (if y=true then false else if ownC n then false else ownT g n):=by
  intro y
  unfold F.bK ownC
  cases y with
  |true=>simp
  |false=>
   simp only[Qz,if_false,A.bo,decide_eq_true_eq,Y]
   by_cases W:n.2.1=14
   ·simp only[W,if_true,true_and,not_true_eq_false,ne_eq,false_and,or_false]
    by_cases I:n.2.2.2.2.2.1<1∨8<n.2.2.2.2.2.1∨n.2.2.2.2.2.2<1∨4<n.2.2.2.2.2.2
    ·rw[if_pos (by omega),if_pos I]
    ·rw[if_neg (by omega),if_neg I]
   ·simp only[W,if_false,false_and,not_false_eq_true,ne_eq,true_and,false_or]
    by_cases I: ¬n.2.2.2.2.2.1=0∨¬n.2.2.2.2.2.2=0
    ·rw[if_pos I,if_pos I]
    ·rw[if_neg I,if_neg I]
 have tail:(if insK n.2.1<0 then F.bK g n true else F.bK g n (decide ((n.2.2.1.length:Int)≠insK n.2.1)))=some (if insK n.2.1<0∨(n.2.2.1.length:Int)≠insK n.2.1 then false else if ownC n then false else ownT g n):=by
  simp only[hj,decide_eq_true_eq]
  by_cases J:insK n.2.1<0
  ·rw[if_pos J,if_pos trivial,if_pos (.inl J)]
  ·by_cases N:(n.2.2.1.length:Int)≠insK n.2.1
   ·rw[if_neg J,if_pos N,if_pos (.inr N)]
   ·have O: ¬(insK n.2.1<0∨(n.2.2.1.length:Int)≠insK n.2.1):=fun h=>h.elim J N
    rw[if_neg J,if_neg N,if_neg O]
 unfold F.eT own
 rw[A.ixn hn,Qb]
 simp only[Qfc,Qb,A.bo,decide_eq_true_eq]
 by_cases J:n.1<1∨255<n.1
 ·rw[if_pos J,hj,if_pos rfl,if_pos (by omega)]
 ·rw[if_neg J]
  by_cases h0:(0:Int)<(i:Int)
  ·rw[if_pos h0,A.gd1 ⟨by omega,by omega⟩]
   have hp:g[i-1]?=some g[i-1]:=Qd (by omega)
   generalize g[i-1]=q at hp
   have e:(i:Int)-1=((i-1:Nat):Int):=by omega
   rw[e,A.ixn hp,Qb,Qax rfl hp]
   by_cases N:n.1≤q.1
   ·rw[if_pos N,hj,if_pos rfl,if_pos (by omega)]
   ·rw[if_neg N,tail]
    by_cases O:insK n.2.1<0∨(n.2.2.1.length:Int)≠insK n.2.1
    ·rw[if_pos O,if_pos (by omega)]
    ·have I: ¬(n.1<1∨255<n.1∨(0:Int)<(i:Int)∧n.1≤q.1∨insK n.2.1<0∨(n.2.2.1.length:Int)≠insK n.2.1):=by omega
     rw[if_neg O,if_neg I]
  ·rw[if_neg h0,tail]
   by_cases O:insK n.2.1<0∨(n.2.2.1.length:Int)≠insK n.2.1
   ·rw[if_pos O,if_pos (by omega)]
   ·have I: ¬(n.1<1∨255<n.1∨(0:Int)<(i:Int)∧n.1≤(at_ g ((i:Int)-1)).1∨insK n.2.1<0∨(n.2.2.1.length:Int)≠insK n.2.1):=by omega
    rw[if_neg O,if_neg I]
def okR (g:List Nd):Nat→List Nd→Bool
 |_,[]=>true
 |k,n::r=>own g (k:Int) n&&okR g (k+1) r
theorem parts_l5 (g:List Nd)(J:g.length≤100)(N: ∀x,x∈g→x.2.2.2.2.1.size≤5000):F.cv g A.FU 0=if okR g 0 g=true then F.bD g A.FU 0 else some 80:=
 A.lp0 g (fun f y=>F.cv g f y) (fun k l=>if okR g k l=true then F.bD g A.FU 0 else some 80)
  (fun f=>by rw[F.cv,if_neg (by omega)];rfl)
  (fun f k x I hk O=>by
   rw[F.cv,if_pos (by omega),R_own_eq g k x I J (N x (Qg I)),Qb,A.gd1 (A.r64n (by omega)),O,okR]
   cases own g (k:Int) x<;>simp)
  (by have:=Qab;omega)
theorem parts_l4 (g:List Nd)(W:g.length≤100)(J: ∀x,x∈g→x.2.2.2.1.2.2.size≤5000):F.bD g A.FU 0=if g.all (fun n=>decide (chk n.2.1 n.2.2.2.1=0))=true then F.aZ g A.FU 0 else some 60:=
 A.lp0 g (fun f y=>F.bD g f y) (fun _ l=>if l.all (fun n=>decide (chk n.2.1 n.2.2.2.1=0))=true then F.aZ g A.FU 0 else some 60)
  (fun f=>by rw[F.bD,if_neg (by omega)];rfl)
  (fun f k x I hk N=>by
   rw[F.bD,if_pos (by omega),A.ixn I,Qb,Qb,show F.ek x.2.1 x.2.2.2.1=_ from Qhi x.2.1 x.2.2.2.1 (J x (Qg I)),Qb,X6]
   by_cases h:chk x.2.1 x.2.2.2.1=0
   ·rw[if_neg (fun O=>O h),A.gd1 (A.r64n (by omega)),N,decide_eq_true h,Xi]
   ·rw[if_pos h,decide_eq_false h,X0,if_neg (by simp)])
  (by have:=Qab;omega)
theorem idx_get {g:List Nd}{id:Int}(h:0≤idx g id): ∃n,g[(idx g id).toNat]?=some n∧at_ g (idx g id)=n∧n.1=id:=by
 rcases Qbj z0 g id with⟨I,_⟩|⟨i,n,I,J,N,_⟩
 ·omega
 ·exact⟨n,by rw[I];exact J,Qax I J,N⟩
theorem parts_l3 (g:List Nd)(Y:g.length≤100)(hf: ∀x,x∈g→x.2.2.1.length≤5000):F.aZ g A.FU 0=if g.all (fun n=>n.2.2.1.all (inOk g))=true then some 0 else some 80:=
 A.lp0 g (fun f y=>F.aZ g f y) (fun _ l=>if l.all (fun n=>n.2.2.1.all (inOk g))=true then some 0 else some 80)
  (fun f=>by rw[F.aZ,if_neg (by omega)];rfl)
  (fun f k x J hk ih=>by
   rw[F.aZ,if_pos (by omega)]
   have hlen:=hf x (Qg J)
   have loop:=A.lp0 x.2.2.1 (fun N y=>F.b6 (F.aZ g f) g (k:Int) N y) (fun _ l=>if l.all (inOk g)=true then F.aZ g f ((k:Int)+1)else some 80)
    (fun N=>by rw[F.b6,A.ixn J,Qb,if_neg (by omega),A.gd1 (A.r64n (by omega))];rfl)
    (fun N j y hy hj2 O=>by
     rw[F.b6,A.ixn J,Qb,if_pos (by omega),Qb,A.ixn hy,Qb,Qbl g y Y,Qb,X6]
     simp only[F.dQ,if_true,decide_eq_true_eq,A.gd1 (A.r64n (n:=j) (by omega)),O]
     by_cases I:idx g y<0
     ·have:inOk g y=false:=by unfold inOk;rw[if_pos I]
      rw[if_pos I,this];simp
     ·obtain⟨n,h1,h2,_⟩:=idx_get (g:=g) (id:=y) (by omega)
      have e:inOk g y=decide (n.2.1≠15):=by unfold inOk;rw[if_neg I,h2]
      rw[if_neg I,A.ixg (by omega) h1,Qb,e]
      by_cases W:n.2.1=15<;>simp[W])
    (by have:=Qab;omega)
   rw[loop,ih,X6]
   cases x.2.2.1.all (inOk g)with
   |true=>rw[if_pos rfl,Xi]
   |false=>rw[if_neg Wd,X0,if_neg Wd])
  (by have:=Qab;omega)
def lastOf (g:List Nd)(k:Nat):Int:=if k=0 then 0 else(at_ g ((k:Int)-1)).1
def BadP (g:List Nd)(k:Nat)(n:Nd):Prop:=n.1≤lastOf g k∨ownQ n=false∨((n.2.1=1∨n.2.1=15)∧twiceF (g.take k) n=true)
theorem Qgd {g:List Nd}{k:Nat}{n:Nd}(h:g[k]?=some n):lastOf g (k+1)=n.1:=by
 unfold lastOf;rw[if_neg (by omega),Qax (k:=k) (by omega) h]
theorem Qjc (g:List Nd): ∀(m k:Nat),k+m=g.length→(okL g k (lastOf g k) (g.drop k)=true↔∀i n,k≤i→g[i]?=some n→¬BadP g i n)
 |0,k,h=>by
  rw[Q2 (by omega),okL]
  exact⟨fun _ i n O I=>by have:=(Qc.1 I).1;omega,fun _=>rfl⟩
 |m+1,k,h=>by
  have J:g[k]?=some g[k]:=Qd (by omega)
  generalize g[k]=x at J
  have W:=Qjc g m (k+1) (by omega)
  rw[Qgd J]at W
  rw[A.dropx J,okL]
  by_cases N:BadP g k x
  ·have hb':x.1≤lastOf g k∨ownQ x=false∨((x.2.1=1∨x.2.1=15)∧twiceF (g.take k) x=true):=N
   rw[if_pos hb']
   exact⟨fun h=>(by cases h),fun h=>absurd N (h k x (Q0 _) J)⟩
  ·have hb': ¬(x.1≤lastOf g k∨ownQ x=false∨((x.2.1=1∨x.2.1=15)∧twiceF (g.take k) x=true)):=N
   rw[if_neg hb',W]
   refine⟨fun h i n O I=>?_,fun h i n O I=>h i n (by omega) I⟩
   rcases Nat.eq_or_lt_of_le O with rfl|Y
   ·rw[J]at I;injection I with I;subst I;exact N
   ·exact h i n Y I
theorem Qiz (g:List Nd): ∀(m k:Nat),k+m=g.length→(okR g k (g.drop k)=true↔∀i n,k≤i→g[i]?=some n→own g (i:Int) n=true)
 |0,k,h=>by
  rw[Q2 (by omega),okR]
  exact⟨fun _ i n N I=>by have:=(Qc.1 I).1;omega,fun _=>rfl⟩
 |m+1,k,h=>by
  have J:g[k]?=some g[k]:=Qd (by omega)
  generalize g[k]=x at J
  have O:=Qiz g m (k+1) (by omega)
  rw[A.dropx J,okR,Ql,O]
  refine⟨fun h i n N I=>?_,fun h=>⟨h k x (Q0 _) J,fun i n N I=>h i n (by omega) I⟩⟩
  rcases Nat.eq_or_lt_of_le N with rfl|W
  ·rw[J]at I;injection I with I;subst I;exact h.1
  ·exact h.2 i n W I
theorem inc_of {g:List Nd}(h: ∀i n,g[i]?=some n→lastOf g i<n.1):Inc g:=by
 unfold Inc
 have key: ∀(d i:Nat) (a b:Nd),g[i]?=some a→g[i+d+1]?=some b→a.1<b.1:=by
  intro d
  induction d with
  |zero=>intro i a b J I;have:=h _ b I;rw[Qgd J]at this;exact this
  |succ d O=>
   intro i a b J I
   have hl:=(Qc.1 I).1
   have N:g[i+d+1]?=some g[i+d+1]:=Qd (by omega)
   have h1:=O i a _ J N
   have W:=h _ b I
   rw[show i+(d+1)+1=(i+d+1)+1 by omega,Qgd N]at W
   omega
 refine X2.2 fun i j Y hj hij=>?_
 refine key (j-i-1) i _ _ (Qd Y) ?_
 rw[show i+(j-i-1)+1=j by omega]
 exact Qd hj
theorem Qcy (kd:Int)(s:ByteArray): ∀(l:List Nd),(∃(j:Nat) (n:Nd),l[j]?=some n∧n.2.1=kd∧n.2.2.2.2.1=s∧(Qck kd s l)=(n.1,true)∧∀(i:Nat) (m:Nd),i<j→l[i]?=some m→¬(m.2.1=kd∧m.2.2.2.2.1=s))∨(Qck kd s l=(0,false)∧∀m∈l,¬(m.2.1=kd∧m.2.2.2.2.1=s))
 | []=>.inr ⟨rfl,by simp⟩
 |x::r=>by
  unfold Qck
  by_cases h:x.2.1=kd∧x.2.2.2.2.1=s
  ·rw[if_pos h]
   exact .inl ⟨0,x,rfl,h.1,h.2,rfl,fun i m O=>by omega⟩
  ·have h': ¬(kind x=kd∧name x=s):=h
   rw[if_neg h']
   rcases Qcy kd s r with⟨j,n,J,N,W,Y,h5⟩|⟨J,N⟩
   ·refine .inl ⟨j+1,n,J,N,W,Y,fun i m O I=>?_⟩
    cases i with
    |zero=>injection I with I;subst I;exact h
    |succ i=>exact h5 i m (by omega) I
   ·refine .inr ⟨J,fun m I=>?_⟩
    rcases Qk.1 I with rfl|I
    ·exact h
    ·exact N m I
theorem Qhs {l:List Nd}{n:Nd}:twiceF l n=true↔∃m∈l,m.2.1=n.2.1∧m.2.2.2.2.1=n.2.2.2.2.1:=by
 simp only[twiceF,Xq,Ql,decide_eq_true_eq]
theorem own_iff {g:List Nd}(hi:Inc g){k:Nat}{n:Nd}(Y:g[k]?=some n)(hl:lastOf g k<n.1):own g (k:Int) n=true↔¬BadP g k n:=by
 have hname:(n.2.1=1∨n.2.1=15)→((Qck n.2.1 n.2.2.2.2.1 g).1=n.1↔¬twiceF (g.take k) n=true):=fun _=>by
  rcases Qcy n.2.1 n.2.2.2.2.1 g with⟨j,m,I,N,O,h4,h5⟩|⟨_,N⟩
  ·rw[h4]
   have hjk:j≤k:=by
    rcases Y5 k j with h|h
    ·exact absurd ⟨rfl,rfl⟩ (h5 k n h Y)
    ·exact h
   constructor
   ·intro he W
    have:j=k:=hi.inj I Y he
    subst this
    obtain⟨q,hq,h6⟩:=Qhs.1 W
    obtain⟨i,J⟩:=Wr.1 hq
    rw[Xg]at J
    split at J
    ·rename_i hij;exact h5 i q hij J h6
    ·cases J
   ·intro W
    rcases Y5 j k with h|h
    ·exact absurd (Qhs.2 ⟨m,Wr.2 ⟨j,by rw[Xg,if_pos h];exact I⟩,N,O⟩) W
    ·obtain rfl:j=k:=by omega
     rw[Y]at I;injection I with I;rw[I]
  ·exact absurd ⟨rfl,rfl⟩ (N n (Qg Y))
 have hprev: ¬((0:Int)<(k:Int)∧n.1≤(at_ g ((k:Int)-1)).1):=fun h=>by
  unfold lastOf at hl;rw[if_neg (by omega)]at hl;omega
 unfold own BadP ownQ
 by_cases I:n.1<1∨255<n.1∨insK n.2.1<0∨(n.2.2.1.length:Int)≠insK n.2.1
 ·rw[if_pos (by omega),if_pos I]
  exact⟨fun h=>(by cases h),fun h=>absurd (.inr (.inl rfl)) h⟩
 ·have hc: ¬(n.1<1∨255<n.1∨(0:Int)<(k:Int)∧n.1≤(at_ g ((k:Int)-1)).1∨insK n.2.1<0∨(n.2.2.1.length:Int)≠insK n.2.1):=by omega
  rw[if_neg hc,if_neg I]
  by_cases N:ownC n
  ·rw[if_pos N,if_pos N]
   exact⟨fun h=>(by cases h),fun h=>absurd (.inr (.inl rfl)) h⟩
  ·rw[if_neg N,if_neg N]
   unfold ownT
   by_cases O:n.2.1=1∨n.2.1=15
   ·rw[if_neg (by omega),if_pos O,Ql,decide_eq_true_eq,hname O]
    constructor
    ·rintro⟨a,b⟩ (h|h|h)
     ·omega
     ·rw[a]at h;cases h
     ·exact b h.2
    ·intro h
     refine⟨?_,fun W=>h (.inr (.inr ⟨O,W⟩))⟩
     cases hq:named n.2.2.2.2.1 with
     |true=>rfl
     |false=>exact absurd (.inr (.inl hq)) h
   ·rw[if_pos (by omega),if_neg O]
    constructor
    ·rintro a (h|h|h)
     ·omega
     ·rw[a]at h;cases h
     ·exact O h.1
    ·intro h
     cases hq:decide (n.2.2.2.2.1=ByteArray.mk #[])with
     |true=>rfl
     |false=>exact absurd (.inr (.inl hq)) h
theorem own_last {g:List Nd}{k:Nat}{n:Nd}(h:own g (k:Int) n=true):lastOf g k<n.1:=by
 unfold own at h
 by_cases I:n.1<1∨255<n.1∨(0:Int)<(k:Int)∧n.1≤(at_ g ((k:Int)-1)).1∨insK n.2.1<0∨(n.2.2.1.length:Int)≠insK n.2.1
 ·rw[if_pos I]at h;cases h
 ·unfold lastOf;split<;>omega
theorem ok_eq (g:List Nd):okL g 0 0 g=okR g 0 g:=by
 have N:=Qjc g g.length 0 (by omega)
 have O:=Qiz g g.length 0 (by omega)
 rw[Wc]at N O
 rw[show lastOf g 0=0 from rfl]at N
 rw[Y7,N,O]
 constructor
 ·intro h i n _ I
  have J: ∀i n,g[i]?=some n→lastOf g i<n.1:=fun i n I=>by
   have:=h i n (by omega) I
   exact Int.lt_of_not_ge fun W=>this (.inl W)
  exact(own_iff (inc_of J) I (J i n I)).2 (h i n (by omega) I)
 ·intro h i n _ I
  have J: ∀i n,g[i]?=some n→lastOf g i<n.1:=fun i n I=>own_last (h i n (by omega) I)
  exact(own_iff (inc_of J) I (J i n I)).1 (h i n (by omega) I)
theorem ok_inc {g:List Nd}(h:okR g 0 g=true):Inc g:=by
 have I:=Qiz g g.length 0 (by omega)
 rw[Wc]at I
 exact inc_of fun i n J=>own_last (I.1 h i n (by omega) J)
theorem parts_eq (g:List Nd)(J:Few g):F.eF g=if(32:Int)<(g.length:Int)then some 80 else if okR g 0 g=true then(if g.all (fun n=>decide (chk n.2.1 n.2.2.2.1=0))=true then(if g.all (fun n=>n.2.2.1.all (inOk g))=true then some 0 else some 80)else some 60)else some 80:=by
 have N:=J.1
 unfold F.eF
 rw[parts_l5 g (by omega) (fun x I=>(J.2 x I).2.1),parts_l4 g (by omega) (fun x I=>(J.2 x I).2.2),parts_l3 g (by omega) (fun x I=>(J.2 x I).1)]
theorem fed_of {g:List Nd}(h:g.all (fun n=>n.2.2.1.all (inOk g))=true):Fed g:=fun x J k hk=>by
 have I:=Qy.1 (Qy.1 h x J) k hk
 unfold inOk at I
 by_cases N:idx g k<0
 ·rw[if_pos N]at I;cases I
 ·omega
theorem bset_len {l:List Bool}{i:Nat}:(l.set i true).length=l.length:=Wx
theorem bget_get {l:List Bool}{i:Nat}(h:i<l.length):l[i]?=some (bget l (i:Int)):=by
 unfold bget;rw[Qq,Qd h];rfl
theorem bix {l:List Bool}{i:Int}(I:0≤i)(h:i<l.length):A.ix l i=some (bget l i):=by
 have e:i=((i.toNat:Nat):Int):=by omega
 rw[e];exact A.ixn (bget_get (by omega))
theorem iix {l:List Int}{i:Int}(I:0≤i)(h:i<l.length):A.ix l i=some (iget l i):=by
 refine A.ixg I ?_
 unfold iget;rw[Qd (by omega)];rfl
theorem ready_eq (g:List Nd)(n:Nd)(done:List Bool)(N:g.length≤100)(hd:done.length=g.length)(hl:n.2.2.1.length≤5000)(O: ∀k∈n.2.2.1,0≤idx g k):F.eG g n done=some (ready g done n):=
 A.lp0 n.2.2.1 (fun f y=>F.b7 g n done f y) (fun k l=>some (Qeh g done n.2.1 l))
  (fun f=>by rw[F.b7,if_neg (by omega)];rfl)
  (fun f k x J hk W=>by
   have Y:=O x (Qg J)
   have h2:=(idx_le g x).2
   rw[F.b7,if_pos (by omega),Qeh]
   simp only[F.dR,A.gd1 (A.r64n (n:=k) (by omega)),W]
   by_cases I:n.2.1=14
   ·simp[I]
   ·rw[if_pos I,A.ixn J,Qb,Qbl g x N,Qb,bix Y (by omega),Qb]
    cases bget done (idx g x)<;>simp[I])
  (by have:=Qab;omega)
theorem order_l3 (g:List Nd)(hb:Few g)(hfed:Fed g)(N:List Bool→List Int→Option (List Int×Bool))(done:List Bool)(l:List Int)(hd:done.length=g.length)(hl:l.length≤100):
  F.bd N g done l A.FU (-1) 0=if Qaf g done 0 g (-1)<0 then some ([],false)else N (done.set (Qaf g done 0 g (-1)).toNat true) (l++[Qaf g done 0 g (-1)]):=
 A.lp g (fun f (a:Int) y=>F.bd N g done l f a y) (fun k t a=>if Qaf g done k t a<0 then some ([],false)else N (done.set (Qaf g done k t a).toNat true) (l++[Qaf g done k t a])) (fun k a=> -1≤a∧a<g.length)
  (fun f a hp=>by
   rw[F.bd,A.ba,if_neg (by simp),Qaf]
   by_cases h:a<0
   ·rw[if_pos h,if_pos h]
   ·rw[if_neg h,if_neg h,bix (by omega) (by omega),Qb,A.gd1 (by simp only[Qh,Qx];omega)])
  (fun f a k x O hk hp W=>by
   have hlen:=hb.1
   rw[F.bd,A.ba,if_pos (by simp;omega),Qaf]
   simp only[F.dg,F.dS,A.gd1 (A.r64n (n:=k) (by omega)),Qz,if_false]
   by_cases h:a<0
   ·by_cases I:bget done (k:Int)=true
    ·have e:(if(a<0∧bget done (k:Int)=false)∧ready g done x=true then(k:Int)else a)=a:=if_neg (by rw[I];simp)
     rw[e,if_pos h,bix (by omega) (by omega),Qb,I]
     simp only[Xh,Qz,if_false]
     exact W a hp
    ·rw[Bool.not_eq_true]at I
     have J:F.eG g x done=some (ready g done x):=ready_eq g x done (by omega) hd (hb.in O) (hfed x (Qg O))
     by_cases Y:ready g done x=true
     ·have e:(if(a<0∧bget done (k:Int)=false)∧ready g done x=true then(k:Int)else a)=k:=if_pos ⟨⟨h,I⟩,Y⟩
      rw[e,if_pos h,bix (by omega) (by omega),Qb,I]
      simp only[Yk,if_true,A.ixn O,Qb]
      rw[J,Qb,if_pos Y];exact W k (by omega)
     ·have e:(if(a<0∧bget done (k:Int)=false)∧ready g done x=true then(k:Int)else a)=a:=if_neg (fun h2=>Y h2.2)
      rw[e,if_pos h,bix (by omega) (by omega),Qb,I]
      simp only[Yk,if_true,A.ixn O,Qb]
      rw[J,Qb,if_neg Y];exact W a hp
   ·have e:(if(a<0∧bget done (k:Int)=false)∧ready g done x=true then(k:Int)else a)=a:=if_neg (fun h2=>h h2.1.1)
    rw[e,if_neg h];exact W a hp)
  (by have:=Qab;have:=hb.1;omega) (-1) (by omega)
def ordR (g:List Nd)(r:Nat)(done:List Bool)(l:List Int):List Int×Bool:=match Qar g r done l with
 |some l'=>(l',true)
 |none=>([],false)
theorem order_l4 (g:List Nd)(I:Few g)(hfed:Fed g): ∀(r f:Nat) (done:List Bool) (l:List Int),r<f→l.length+r=g.length→done.length=g.length→F.bE g f done l=some (ordR g r done l)
 |0,f,done,l,N,O,J=>by
  obtain⟨f,rfl⟩: ∃f',f=f'+1:=⟨f-1,by omega⟩
  rw[F.bE,if_neg (by omega)];rfl
 |r+1,f,done,l,N,O,J=>by
  obtain⟨f,rfl⟩: ∃f',f=f'+1:=⟨f-1,by omega⟩
  have:=I.1
  rw[F.bE,if_pos (by omega),order_l3 g I hfed _ done l J (by omega),ordR,Qar]
  by_cases h:Qaf g done 0 g (-1)<0
  ·rw[if_pos h,if_pos h]
  ·rw[if_neg h,if_neg h,order_l4 g I hfed r f _ _ (by omega) (by simp only[Qm,Qh,Qx];omega) (by rw[bset_len];exact J)]
   rfl
theorem R_order_eq (g:List Nd)(I:Few g)(hfed:Fed g):F.dT g=some (ordR g g.length (List.replicate g.length false) []):=by
 have:=I.1
 unfold F.dT
 rw[A.gd1 (by omega),order_l4 g I hfed g.length A.FU _ [] (by have:=Qab;omega) (by simp) (by simp)]
def Qdm (m:List (Int×Bool))(n:Nd):Bool:=n.2.2.1.all fun k=>Z.mget false m k||decide (n.2.1=14)
def Qgp (m:List (Int×Bool)):List Nd→Option Nd
 | []=>none
 |n::r=>if Z.mget false m n.1=false∧Qdm m n=true then some n else Qgp m r
def sortS (g:List Nd):Nat→List (Int×Bool)→List Int→List Int
 |0,_,xs=>xs
 |r+1,m,xs=>match Qgp m g with
  |some n=>sortS g r (Z.mins m n.1 true) (xs++[n.1])
  |none=>sortS g r m xs
abbrev PlR:=Option (Bool×((List (Int×Nd))×(List Int)×(List (Int×Int))))
theorem sort_l4 (g:List Nd)(J:Few g)(k29:List Int→List (Int×Bool)→Int→PlR)(xs:List Int)(m:List (Int×Bool))(y:Int)(hxs:xs.length≤100)(hy:0≤y∧y≤100):
  F.ao k29 g xs m y A.FU 0=match Qgp m g with
   |some n=>k29 (xs++[n.1]) (Z.mins m n.1 true) (y+1)
   |none=>k29 xs m (y+1):=
 A.lp0 g (fun f i=>F.ao k29 g xs m y f i) (fun _ l=>match Qgp m l with
   |some n=>k29 (xs++[n.1]) (Z.mins m n.1 true) (y+1)
   |none=>k29 xs m (y+1))
  (fun f=>by rw[F.ao,if_neg (by omega),F.bO,A.gd1 ⟨by omega,by omega⟩];rfl)
  (fun f k x Y hk ih=>by
   have hlen:=J.1
   have hin:=J.in Y
   rw[F.ao,if_pos (by omega),A.ixn Y,Qb,A.lt,Qgp]
   have loop:=A.lp0 x.2.2.1 (fun N j=>F.bl k29 (F.ao k29 g xs m y f) xs m y (k:Int) x N j) (fun _ l=>if l.all (fun k=>Z.mget false m k||decide (x.2.1=14))=true then k29 (xs++[x.1]) (Z.mins m x.1 true) (y+1)else F.ao k29 g xs m y f ((k:Int)+1))
    (fun N=>by rw[F.bl,if_neg (by omega),A.gd1 (by simp only[Qh,Qx];omega),F.bO,A.gd1 ⟨by omega,by omega⟩];rfl)
    (fun N j z hz hj O=>by
     rw[F.bl,if_pos (by omega),A.ixn hz,Qb,A.lt,A.gd1 (A.r64n (by omega)),O,F.bP,A.gd1 (A.r64n (by omega)),X6]
     cases hm:Z.mget false m z<;>by_cases W:x.2.1=14<;>simp[W])
    (by have:=Qab;omega)
   rw[loop,F.bP,A.gd1 (A.r64n (by omega)),ih]
   cases hm:Z.mget false m x.1 with
   |true=>
    have e: ¬((true:Bool)=false∧Qdm m x=true):=fun h=>by cases h.1
    rw[if_pos rfl,if_neg e]
   |false=>
    rw[if_neg Wd]
    by_cases I:Qdm m x=true
    ·have e:(false:Bool)=false∧Qdm m x=true:=⟨rfl,I⟩
     rw[if_pos (show(x.2.2.1.all fun k=>Z.mget false m k||decide (x.2.1=14))=true from I),if_pos e]
    ·have e: ¬((false:Bool)=false∧Qdm m x=true):=fun h=>I h.2
     rw[if_neg (show ¬(x.2.2.1.all fun k=>Z.mget false m k||decide (x.2.1=14))=true from I),if_neg e])
  (by have:=Qab;have:=J.1;omega)
theorem Qjf (g:List Nd)(I:Few g)(a0:(List (Int×Nd))×(List Int)×(List (Int×Int))): ∀(r f:Nat) (m:List (Int×Bool)) (xs:List Int) (y:Nat),r<f→y+r=g.length→xs.length≤y→F.aF a0 g f xs m (y:Int)=some (decide (((sortS g r m xs).length:Int)=(g.length:Int)),(a0.1,sortS g r m xs,a0.2.2))
 |0,f,m,xs,y,J,N,O=>by
  obtain⟨f,rfl⟩: ∃f',f=f'+1:=⟨f-1,by omega⟩
  rw[F.aF,if_neg (by omega)];rfl
 |r+1,f,m,xs,y,J,N,O=>by
  obtain⟨f,rfl⟩: ∃f',f=f'+1:=⟨f-1,by omega⟩
  have:=I.1
  rw[F.aF,if_pos (by omega),sort_l4 g I _ xs m y (by omega) (by omega),sortS]
  have e:(y:Int)+1=((y+1:Nat):Int):=by omega
  cases Qgp m g with
  |none=>simp only[];rw[e,Qjf g I a0 r f m xs (y+1) (by omega) (by omega) (by omega)]
  |some n=>simp only[];rw[e,Qjf g I a0 r f _ _ (y+1) (by omega) (by omega) (by simp only[Qm,Qh,Qx];omega)]
theorem sort_eq (g:List Nd)(I:Few g)(m:List (Int×Nd)):F.bu (m,[],[]) g=some (decide (((sortS g g.length [] []).length:Int)=(g.length:Int)),(m,sortS g g.length [] [],[])):=by
 unfold F.bu
 exact Qjf g I (m,[],[]) g.length A.FU [] [] 0 (by have:=Qab;have:=I.1;omega) (by omega) (by simp)
def Rel (g:List Nd)(done:List Bool)(m:List (Int×Bool)):Prop:=∀(i:Nat) (n:Nd),g[i]?=some n→Z.mget false m n.1=bget done (i:Int)
theorem ready_rel {g:List Nd}{done:List Bool}{m:List (Int×Bool)}(h:Rel g done m){n:Nd}(I: ∀k∈n.2.2.1,0≤idx g k):Qdm m n=ready g done n:=by
 unfold Qdm ready
 generalize n.2.2.1=l at I
 induction l with
 |nil=>rfl
 |cons k r W=>
  rw[X6,W fun x Y=>I x (Qe _ Y),Qeh]
  have N:=I k (Qf ..)
  obtain⟨q,h1,h2,h3⟩:=idx_get N
  have O:=h _ q h1
  rw[h3,Wb N]at O
  rw[O]
  cases bget done (idx g k)<;>by_cases J:n.2.1=14<;>simp[J]
theorem Qef (g:List Nd)(done:List Bool): ∀(k:Nat) (l:List Nd) (a:Int),0≤a→Qaf g done k l a=a
 |_,[],_,_=>rfl
 |k,x::r,a,h=>by
  unfold Qaf
  rw[if_neg (fun I=>by omega)]
  exact Qef g done (k+1) r a h
theorem Qeu {g:List Nd}{done:List Bool}{m:List (Int×Bool)}(h:Rel g done m)(N:Fed g): ∀(r k:Nat),k+r=g.length→(Qaf g done k (g.drop k) (-1)= -1∧Qgp m (g.drop k)=none)∨(∃(i:Nat) (n:Nd),Qaf g done k (g.drop k) (-1)=(i:Int)∧g[i]?=some n∧Qgp m (g.drop k)=some n∧bget done (i:Int)=false)
 |0,k,hk=>by
  rw[Q2 (by omega)];exact .inl ⟨rfl,rfl⟩
 |r+1,k,hk=>by
  have J:g[k]?=some g[k]:=Qd (by omega)
  generalize g[k]=x at J
  rw[A.dropx J,Qaf,Qgp,h k x J,ready_rel h (N x (Qg J))]
  by_cases I:bget done (k:Int)=false∧ready g done x=true
  ·rw[if_pos I,if_pos ⟨⟨by omega,I.1⟩,I.2⟩,Qef _ _ _ _ _ (by omega)]
   exact .inr ⟨k,x,rfl,J,rfl,I.1⟩
  ·rw[if_neg I,if_neg (fun O=>I ⟨O.1.2,O.2⟩)]
   exact Qeu h N r (k+1) (by omega)
def idAt (g:List Nd)(i:Int):Int:=(at_ g i).1
theorem rel_set {g:List Nd}(N:Inc g){done:List Bool}{m:List (Int×Bool)}(h:Rel g done m)(W:done.length=g.length){i:Nat}{n:Nd}(I:g[i]?=some n):Rel g (done.set i true) (Z.mins m n.1 true):=fun j q hq=>by
 rw[Ut]
 have Y:=(Qc.1 I).1
 by_cases e:q.1=n.1
 ·have:=N.inj hq I e
  subst this
  rw[if_pos e]
  unfold bget
  rw[Qq,Ys (by omega)];rfl
 ·rw[if_neg e,h j q hq]
  have J:i≠j:=fun O=>e (by subst O;rw[I]at hq;injection hq with hq;rw[hq])
  unfold bget
  rw[Qq,List.getElem?_set_ne J]
theorem Qet {g:List Nd}(O:Inc g)(W:Fed g): ∀(r:Nat) (done:List Bool) (m:List (Int×Bool)) (l:List Int),Rel g done m→done.length=g.length→(∃l',Qar g r done l=some l'∧sortS g r m (l.map (idAt g))=l'.map (idAt g)∧l'.length=l.length+r)∨(Qar g r done l=none∧(sortS g r m (l.map (idAt g))).length <l.length+r)
 |0,done,m,l,_,_=>.inl ⟨l,rfl,rfl,rfl⟩
 |r+1,done,m,l,h,Y=>by
  rw[Qar,sortS]
  rcases Qeu h W g.length 0 (by omega)with⟨J,I⟩|⟨i,n,J,I,h3,h4⟩
  ·rw[Wc]at J I
   rw[J,if_pos (by omega),I]
   refine .inr ⟨rfl,?_⟩
   simp only[]
   have stay: ∀(r:Nat) (xs:List Int),sortS g r m xs=xs:=by
    intro r
    induction r with
    |zero=>intro xs;rfl
    |succ r ih=>intro xs;rw[sortS,I];exact ih xs
   rw[stay,Qw];omega
  ·rw[Wc]at J h3
   rw[J,if_neg (by omega),h3,Qq]
   simp only[]
   have e:l.map (idAt g)++[n.1]=(l++[(i:Int)]).map (idAt g):=by
    rw[Yg];simp only[Q3,Xv,idAt,Qax rfl I]
   rw[e]
   rcases Qet O W r (done.set i true) (Z.mins m n.1 true) (l++[(i:Int)]) (rel_set O h Y I) (by rw[bset_len];exact Y)with⟨l',N,h6,h7⟩|⟨N,h6⟩
   ·exact .inl ⟨l',N,h6,by rw[h7];simp only[Qm,Qh,Qx];omega⟩
   ·exact .inr ⟨N,by simp only[Qm,Qh,Qx]at h6;omega⟩
theorem rel_0 (g:List Nd):Rel g (List.replicate g.length false) []:=fun i n I=>by
 unfold bget
 rw[Qq,Xc]
 split<;>rfl
theorem order_sort {g:List Nd}(N:Few g)(Y:Inc g)(O:Fed g)(m:List (Int×Nd)):(∃l,F.dT g=some (l,true)∧F.bu (m,[],[]) g=some (true,(m,l.map (idAt g),[]))∧l.length=g.length∧Qar g g.length (List.replicate g.length false) []=some l)∨(F.dT g=some ([],false)∧∃p,F.bu (m,[],[]) g=some (false,p)):=by
 rw[R_order_eq g N O,sort_eq g N m,ordR]
 rcases Qet Y O g.length (List.replicate g.length false) [] [] (rel_0 g) (by simp)with⟨l,J,I,W⟩|⟨J,I⟩
 ·rw[Xv]at I
  rw[J,I]
  left
  refine⟨l,rfl,?_,by simpa using W,rfl⟩
  rw[Qw,decide_eq_true (by simp at W;omega)]
 ·rw[Xv]at I
  rw[J]
  right
  refine⟨rfl,(m,sortS g g.length [] [],[]),?_⟩
  rw[decide_eq_false (by simp at I;omega)]
end Go.Proofs.YtlbnpmfggfbdoaaGreatDoor
end
section
namespace Go.A
theorem mrg_any {α β:Type}[DecidableEq β]{body:α→Option (Option β)}{rest:Option β}{y:β}{p:α→Bool}: ∀{l:List α},(∀x∈l,body x=if p x=true then some (some y)else some none)→mrg body rest l=if l.any p=true then some y else rest
 | [],_=>rfl
 |x::l,h=>by
  have N:=h x (Qf ..)
  have O:=mrg_any (rest:=rest) (l:=l) fun z I=>h z (Qe _ I)
  unfold mrg
  rw[N,Ye]
  cases hp:p x with
  |true=>
   simp only[Qb,if_true,Bool.true_or]
   rw[if_pos]
   rw[Qy]
   intro z I
   have J:=h z (Qe _ I)
   refine decide_eq_true ?_
   rw[J]
   cases p z<;>simp
  |false=>
   simp only[Qb,Qz,if_false,X4]
   exact O
end Go.A
namespace Go.Proofs.YtlbnpmfggfbdoaaGreatDoor
open Go.RowKit Go.Graph
theorem R_depth_eq (n:Nd)(l:List Int)(h5:n.2.1=5∨n.2.1=9→2≤l.length)(hb: -1≤d0 l∧d0 l≤4):F.el n l=some (depthOf n l):=by
 have O:F.dj n l (d0 l)=some (depthOf n l):=by
  unfold F.dj depthOf Qcw
  have W: ∀y,F.be y=some (capd y):=fun y=>by unfold F.be F.dU capd;split<;>rfl
  have Y: ∀y,(y=true↔n.2.1=5∨n.2.1=9)→F.di n l (d0 l) y=some (capd (if n.2.1=5∨n.2.1=9 then(if iget l 0≠iget l 1 then-1 else d0 l)else if n.2.1=11∨n.2.1=16∨n.2.1=15 then(if d0 l≠0 then-1 else d0 l)else d0 l)):=fun y hy=>by
   unfold F.di F.dh
   simp only[W,decide_eq_true_eq]
   by_cases h:n.2.1=5∨n.2.1=9
   ·have:=h5 h
    rw[if_pos (hy.2 h),if_pos h,iix (i:=0) (by omega) (by omega),Qb,iix (i:=1) (by omega) (by omega),Qb]
    by_cases e:iget l 0=iget l 1
    ·rw[if_neg (fun h=>h e),if_neg (fun h=>h e)]
    ·rw[if_pos e,if_pos e]
   ·rw[if_neg (fun h2=>h (hy.1 h2)),if_neg h]
    by_cases h11:n.2.1=11
    ·simp only[h11,if_true,true_or];split<;>rfl
    ·by_cases h16:n.2.1=16
     ·simp only[h16,if_true,true_or,or_true,if_false,Int.reduceEq];split<;>rfl
     ·by_cases h15:n.2.1=15
      ·simp only[h15,if_true,or_true,if_false,Int.reduceEq];split<;>rfl
      ·simp only[h11,h16,h15,if_false,or_self]
  simp only[W]
  by_cases I:n.2.1=14
  ·rw[if_pos I,if_pos I]
  ·rw[if_neg I,if_neg I]
   by_cases J:n.2.1=12
   ·rw[if_pos J,if_pos J,A.gd1 ⟨by omega,by omega⟩]
   ·rw[if_neg J,if_neg J]
    by_cases N:n.2.1=13
    ·rw[if_pos N,if_pos N,A.gd1 ⟨by omega,by omega⟩]
    ·rw[if_neg N,if_neg N]
     by_cases h5':n.2.1=5
     ·rw[if_pos h5',Y _ (by simp[h5'])]
     ·rw[if_neg h5',Y _ (by simp[h5'])]
 unfold F.el
 by_cases h:(0:Int)<(l.length:Int)
 ·rw[if_pos h,iix (i:=0) (by omega) (by omega),Qb,Qix];exact O
 ·rw[if_neg h,d0_nil (l:=l) (by omega)];exact O
def Own (g:List Nd):Prop:=∀n,n∈g→ownQ n=true
theorem own_ins {n:Nd}(h:ownQ n=true):0≤insK n.2.1∧(n.2.2.1.length:Int)=insK n.2.1:=by
 unfold ownQ at h
 by_cases I:n.1<1∨255<n.1∨insK n.2.1<0∨(n.2.2.1.length:Int)≠insK n.2.1
 ·rw[if_pos I]at h;cases h
 ·omega
theorem own_id {n:Nd}(h:ownQ n=true):1≤n.1∧n.1≤255:=by
 unfold ownQ at h
 by_cases I:n.1<1∨255<n.1∨insK n.2.1<0∨(n.2.2.1.length:Int)≠insK n.2.1
 ·rw[if_pos I]at h;cases h
 ·omega
theorem own_D {n:Nd}(h:ownQ n=true):(n.2.1=14→1≤n.2.2.2.2.2.2∧n.2.2.2.2.2.2≤4)∧(n.2.1≠14→n.2.2.2.2.2.2=0):=by
 unfold ownQ at h
 by_cases I:n.1<1∨255<n.1∨insK n.2.1<0∨(n.2.2.1.length:Int)≠insK n.2.1
 ·rw[if_pos I]at h;cases h
 ·rw[if_neg I]at h
  by_cases J:ownC n
  ·rw[if_pos J]at h;cases h
  ·unfold ownC at J;omega
theorem insK_cases (k:Int)(h:0≤insK k):(k=1∧insK k=0)∨((k=5∨k=9)∧insK k=2)∨(k≠1∧k≠5∧k≠9∧insK k=1):=by
 unfold insK at h ⊢
 by_cases I:k<1∨16<k
 ·rw[if_pos I]at h;omega
 ·rw[if_neg I]
  by_cases J:k=1
  ·rw[if_pos J];omega
  ·rw[if_neg J]
   by_cases N:k=5∨k=9
   ·rw[if_pos N];omega
   ·rw[if_neg N];omega
theorem own_len {n:Nd}(h:ownQ n=true):(n.2.1=1∧n.2.2.1.length=0)∨((n.2.1=5∨n.2.1=9)∧n.2.2.1.length=2)∨(n.2.1≠1∧n.2.1≠5∧n.2.1≠9∧n.2.2.1.length=1):=by
 have J:=own_ins h
 rcases insK_cases n.2.1 J.1 with I|I|I<;>omega
theorem Qfw {l:List Int}{i:Nat}{v:Int}:(l.set i v).length=l.length:=Wx
theorem depths_l1 (g:List Nd)(l d:List Int)(y:Nat)(p:Nat)(x:Nd)(N:List Int→Int→Option (List Int×Bool))(hb:Few g)(hfed:Fed g)(ho:Own g)(hd:d.length=g.length)(O:InB d)(hp:l[y]?=some (p:Int))(hy:y<100)(W:g[p]?=some x):
  F.cd N g l d (y:Int) x A.FU [] 0=if depthOf x (inD g d x.2.2.1)<0 then some ([],false)else N (d.set p (depthOf x (inD g d x.2.2.1))) ((y:Int)+1):=by
 have hlen:=hb.1
 have hin:=hb.in W
 have hpl:=(Qc.1 W).1
 have I:=Qg W
 have loop:=A.lp x.2.2.1 (fun f (s:List Int) i=>F.cd N g l d (y:Int) x f s i) (fun _ t s=>if depthOf x (s++inD g d t)<0 then some ([],false)else N (d.set p (depthOf x (s++inD g d t))) ((y:Int)+1)) (fun k s=>s=inD g d (x.2.2.1.take k))
  (fun f s J=>by
   rw[Ws (Q0 _)]at J
   subst J
   have hdep:F.el x (inD g d x.2.2.1)=some (depthOf x (inD g d x.2.2.1)):=R_depth_eq x (inD g d x.2.2.1) (fun h=>by rcases own_len (ho x I)with Y|Y|Y<;>simp only[inD,Qw]<;>omega) (O.d0 g _)
   have e:(inD g d x.2.2.1++inD g d ([]:List Int))=inD g d x.2.2.1:=by simp[inD]
   rw[F.cd,if_neg (by omega),A.ixn hp,Qb,hdep,Qb,iix (by omega) (by omega),Qb,Qb,e,iix (by omega) (by rw[Qfw];omega),Qb,A.gd1 (A.r64n (by omega)),Qq]
   have e2:iget (d.set p (depthOf x (inD g d x.2.2.1))) (p:Int)=depthOf x (inD g d x.2.2.1):=by
    unfold iget;rw[Qq,Ys (by omega)];rfl
   rw[e2])
  (fun f s k z hz hk J ih=>by
   have h1:=hfed x I z (Qg hz)
   have Y:=(idx_le g z).2
   rw[F.cd,if_pos (by omega),A.ixn hz,Qb,Qbl g z (by omega),Qb,iix h1 (by omega),Qb]
   have hs2:s++[iget d (idx g z)]=inD g d (x.2.2.1.take (k+1)):=by rw[J];exact inD_take hz
   rw[A.gd1 (by rw[J];simp only[inD,Qw,Qs,Qh,Qx];omega),A.gd1 (A.r64n (by omega)),ih _ hs2]
   simp only[inD,Q3,Wf,X3])
  (by have:=Qab;omega) [] (by simp[inD])
 rw[loop]
 rfl
theorem depths_l3 (g:List Nd)(d:List Int)(Y:Few g)(hfed:Fed g)(ho:Own g)(hd:d.length=g.length):F.bq g d A.FU 0=if Qbk g d g=true then some (d,true)else some ([],false):=
 A.lp0 g (fun f y=>F.bq g d f y) (fun _ t=>if Qbk g d t=true then some (d,true)else some ([],false))
  (fun f=>by rw[F.bq,if_neg (by omega)];rfl)
  (fun f k x hx hk ih=>by
   have hlen:=Y.1
   have J:=Qg hx
   rw[F.bq,if_pos (by omega),A.ixn hx,Qb,Qbk]
   simp only[F.dw,A.gd1 (A.r64n (n:=k) (by omega)),ih,decide_eq_true_eq]
   by_cases I:x.2.1=14
   ·have hl:x.2.2.1.length=1:=by rcases own_len (ho x J)with W|W|W<;>omega
    have N:x.2.2.1[0]?=some (iget x.2.2.1 0):=by
     unfold iget
     rw[show(0:Int).toNat=0 from rfl,Qd (by omega)];rfl
    have h1:=hfed x J _ (Qg N)
    have W:=(idx_le g (iget x.2.2.1 0)).2
    rw[if_pos I,show A.ix x.2.2.1 0=_ from A.ixn N,Qb,Qbl g _ (by omega),Qb,iix h1 (by omega),Qb]
    by_cases e:iget d (idx g (iget x.2.2.1 0))≠x.2.2.2.2.2.2
    ·rw[if_pos e]
     have O:x.2.1=14∧iget d (idx g (iget x.2.2.1 0))≠x.2.2.2.2.2.2:=⟨I,e⟩
     rw[if_pos O,if_neg Wd]
    ·rw[if_neg e]
     have O: ¬(x.2.1=14∧iget d (idx g (iget x.2.2.1 0))≠x.2.2.2.2.2.2):=fun h=>e h.2
     rw[if_neg O]
   ·have O: ¬(x.2.1=14∧iget d (idx g (iget x.2.2.1 0))≠x.2.2.2.2.2.2):=fun h=>I h.1
    rw[if_neg I,if_neg Wd,if_neg O])
  (by have:=Qab;have:=Y.1;omega)
def Plc (g:List Nd)(l:List Int):Prop:=∀(i:Nat) (p:Int),l[i]?=some p→∃(k:Nat) (n:Nd),p=(k:Int)∧g[k]?=some n
theorem depths_l4 (g:List Nd)(l:List Int)(J:Few g)(hfed:Fed g)(W:Own g)(hl:l.length≤60)(hp:Plc g l):F.dr g l=some (depths g l):=by
 have hlen:=J.1
 have loop:=A.lp l (fun f (s:List Int) i=>F.ce g l f s i) (fun _ t s=>match Qam g t s with
  |some d=>if Qbk g d g=true then some (d,true)else some ([],false)
  |none=>some ([],false)) (fun k s=>s.length=g.length∧InB s)
  (fun f s I=>by rw[F.ce,if_neg (by omega),depths_l3 g s J hfed W I.1];rfl)
  (fun f s k x N hk I Y=>by
   obtain⟨q,n,rfl,O⟩:=hp k x N
   rw[F.ce,if_pos (by omega),A.ixn N,Qb,A.ixn O,Qb,depths_l1 g l s k q n _ J hfed W I.1 I.2 N (by omega) O,Qam,Qax rfl O]
   by_cases h:depthOf n (inD g s n.2.2.1)<0
   ·rw[if_pos h,if_pos h]
   ·rw[if_neg h,if_neg h,Qq]
    exact Y _ ⟨by rw[Qfw];exact I.1,I.2.set q (by omega) (Qfh n _)⟩)
  (by have:=Qab;omega) (List.replicate g.length 0) ⟨by simp,InB.rep _⟩
 unfold F.dr depths
 rw[A.gd1 (by omega),loop]
 cases Qam g l (List.replicate g.length 0)with
 |none=>rfl
 |some d=>simp only[];cases Qbk g d g<;>rfl
end Go.Proofs.YtlbnpmfggfbdoaaGreatDoor
end
section
namespace Go.Proofs.YtlbnpmfggfbdoaaGreatDoor
open Go.RowKit Go.Graph
def RelD (g:List Nd)(d:List Int)(dm:List (Int×Int)):Prop:=∀(i:Nat) (n:Nd),g[i]?=some n→Z.mget 0 dm n.1=iget d (i:Int)
theorem RelD.in {g:List Nd}{d:List Int}{dm:List (Int×Int)}(h:RelD g d dm){k:Int}(I:0≤idx g k):Z.mget 0 dm k=iget d (idx g k):=by
 obtain⟨q,N,_,O⟩:=idx_get I
 have J:=h _ q N
 rw[O,Wb I]at J
 exact J
theorem iget_nat {l:List Int}{i:Nat}(h:i<l.length):l[i]?=some (iget l (i:Int)):=by
 unfold iget;rw[Qq,Qd h];rfl
theorem inD_at {g:List Nd}{d l:List Int}{i:Nat}{k:Int}(h:l[i]?=some k):iget (inD g d l) (i:Int)=iget d (idx g k):=by
 unfold iget
 rw[Qq,inD,Qu,h];rfl
theorem out_eq (g:List Nd)(d:List Int)(a0:(List (Int×Nd))×(List Int)×(List (Int×Int)))(n:Nd)(hr:RelD g d a0.2.2)(hib:InB d)(ho:ownQ n=true)(hf: ∀k∈n.2.2.1,0≤idx g k):
  ∃v b,F.cK a0 n=some (v,b)∧((b=false∧depthOf n (inD g d n.2.2.1)<0)∨(b=true∧v=depthOf n (inD g d n.2.2.1)∧0≤v)):=by
 have hlen:=own_len ho
 have hD:=own_D ho
 unfold F.cK
 by_cases h1:n.2.1=1
 ·have hl:n.2.2.1=[]:=Wq (by omega)
  rw[if_pos h1]
  refine⟨0,true,rfl,.inr ⟨rfl,?_,Xa _⟩⟩
  unfold depthOf Qcw capd
  simp only[h1,hl,inD,Xv,d0];simp
 ·rw[if_neg h1]
  by_cases I:n.2.1=14
  ·rw[if_pos I]
   have:=hD.1 I
   refine⟨_,true,rfl,.inr ⟨rfl,?_,by omega⟩⟩
   unfold depthOf Qcw capd
   rw[if_pos I,if_neg (by omega)]
  ·rw[if_neg I]
   have hpos:0<n.2.2.1.length:=by omega
   obtain⟨k0,J⟩: ∃k0,n.2.2.1[0]?=some k0:=⟨_,Qd hpos⟩
   have f0:=hf k0 (Qg J)
   have b0:=hib (idx g k0)
   have e0:d0 (inD g d n.2.2.1)=iget d (idx g k0):=by rw[←Qix];exact inD_at J
   rw[show A.ix n.2.2.1 0=_ from A.ixn J,Qb,A.lt,hr.in f0]
   have hj3: ∀y,(y=true↔(n.2.1=5∨n.2.1=9)∧iget (inD g d n.2.2.1) 0≠iget (inD g d n.2.2.1) 1)→∃v b,F.cb n (iget d (idx g k0)) y=some (v,b)∧((b=false∧depthOf n (inD g d n.2.2.1)<0)∨(b=true∧v=depthOf n (inD g d n.2.2.1)∧0≤v)):=fun y hy=>by
    unfold F.cb depthOf Qcw
    rw[if_neg I,e0]
    by_cases N:y=true
    ·have Y:=hy.1 N
     rw[if_pos N]
     refine⟨0,false,rfl,.inl ⟨rfl,?_⟩⟩
     rw[if_neg (by omega),if_neg (by omega),if_pos Y.1,if_pos Y.2];decide
    ·have Y: ¬((n.2.1=5∨n.2.1=9)∧iget (inD g d n.2.2.1) 0≠iget (inD g d n.2.2.1) 1):=fun h=>N (hy.2 h)
     rw[if_neg N]
     simp only[F.b9,F.ca,A.ba]
     by_cases O:n.2.1=12
     ·rw[if_pos O,if_pos O,A.gd1 ⟨by omega,by omega⟩]
      unfold capd
      by_cases h4:4<iget d (idx g k0)+1
      ·exact⟨_,_,rfl,.inl ⟨decide_eq_false (by omega),by rw[if_pos h4];decide⟩⟩
      ·exact⟨_,_,rfl,.inr ⟨decide_eq_true (by omega),by rw[if_neg h4],by omega⟩⟩
     ·rw[if_neg O,if_neg O]
      by_cases W:n.2.1=13
      ·rw[if_pos W,if_pos W,A.gd1 ⟨by omega,by omega⟩]
       unfold capd
       rw[if_neg (by omega)]
       by_cases h4:0≤iget d (idx g k0)-1
       ·exact⟨_,_,rfl,.inr ⟨decide_eq_true (by omega),rfl,h4⟩⟩
       ·exact⟨_,_,rfl,.inl ⟨decide_eq_false (by omega),by omega⟩⟩
      ·rw[if_neg W,if_neg W]
       have hz: ∀x:Int,n.2.1=11∨n.2.1=16∨n.2.1=15→∃v b,(some (iget d (idx g k0),decide (iget d (idx g k0)=0)):Option (Int×Bool))=some (v,b)∧((b=false∧capd (if n.2.1=5∨n.2.1=9 then if iget (inD g d n.2.2.1) 0≠iget (inD g d n.2.2.1) 1 then-1 else iget d (idx g k0)else if n.2.1=11∨n.2.1=16∨n.2.1=15 then if iget d (idx g k0)≠0 then-1 else iget d (idx g k0)else iget d (idx g k0))<0)∨(b=true∧v=capd (if n.2.1=5∨n.2.1=9 then if iget (inD g d n.2.2.1) 0≠iget (inD g d n.2.2.1) 1 then-1 else iget d (idx g k0)else if n.2.1=11∨n.2.1=16∨n.2.1=15 then if iget d (idx g k0)≠0 then-1 else iget d (idx g k0)else iget d (idx g k0))∧0≤v)):=fun _ hk=>by
        rw[if_neg (by omega),if_pos hk]
        by_cases h0:iget d (idx g k0)=0
        ·rw[h0];exact⟨_,_,rfl,.inr ⟨rfl,rfl,Xa _⟩⟩
        ·rw[if_pos h0];exact⟨_,_,rfl,.inl ⟨decide_eq_false h0,by decide⟩⟩
       by_cases h11:n.2.1=11
       ·rw[if_pos h11];exact hz 0 (.inl h11)
       ·rw[if_neg h11]
        by_cases h16:n.2.1=16
        ·rw[if_pos h16];exact hz 0 (.inr (.inl h16))
        ·rw[if_neg h16]
         by_cases h15:n.2.1=15
         ·rw[if_pos h15];exact hz 0 (.inr (.inr h15))
         ·rw[if_neg h15]
          refine⟨_,_,rfl,.inr ⟨decide_eq_true (by omega),?_,by omega⟩⟩
          by_cases h5:n.2.1=5∨n.2.1=9
          ·rw[if_pos h5,if_neg (fun h=>Y ⟨h5,h⟩)];unfold capd;rw[if_neg (by omega)]
          ·rw[if_neg h5,if_neg (by omega)];unfold capd;rw[if_neg (by omega)]
   by_cases Y:(1:Int)<(n.2.2.1.length:Int)
   ·have h5:n.2.1=5∨n.2.1=9:=by omega
    obtain⟨k1,hk1⟩: ∃k1,n.2.2.1[1]?=some k1:=⟨_,Qd (by omega)⟩
    have f1:=hf k1 (Qg hk1)
    rw[if_pos Y,show A.ix n.2.2.1 1=_ from A.ixn hk1,Qb,A.lt,hr.in f1]
    refine hj3 _ ?_
    rw[decide_eq_true_eq,show iget (inD g d n.2.2.1) 0=_ from inD_at J,show iget (inD g d n.2.2.1) 1=_ from inD_at hk1]
    exact⟨fun h=>⟨h5,fun e=>h e.symm⟩,fun h e=>h.2 e.symm⟩
   ·rw[if_neg Y]
    exact hj3 false ⟨fun h=>(by cases h),fun h=>by omega⟩
theorem relD_set {g:List Nd}(N:Inc g){d:List Int}{dm:List (Int×Int)}(h:RelD g d dm)(W:d.length=g.length){i:Nat}{n:Nd}(I:g[i]?=some n)(v:Int):RelD g (d.set i v) (Z.mins dm n.1 v):=fun j q hq=>by
 rw[Ut]
 have Y:=(Qc.1 I).1
 by_cases e:q.1=n.1
 ·have:=N.inj hq I e
  subst this
  rw[if_pos e]
  unfold iget
  rw[Qq,Ys (by omega)];rfl
 ·rw[if_neg e,h j q hq]
  have J:i≠j:=fun O=>e (by subst O;rw[I]at hq;injection hq with hq;rw[hq])
  unfold iget
  rw[Qq,List.getElem?_set_ne J]
def KeyD (g:List Nd)(l:List Int)(dm:List (Int×Int)):Prop:=∀id,Z.mhas dm id=l.any fun p=>decide (idAt g p=id)
theorem Qez (g:List Nd)(l:List Int)(hb:Few g)(hi:Inc g)(hfed:Fed g)(ho:Own g)(hl:l.length≤60)(hp:Plc g l): ∀(r k f:Nat) (d:List Int) (dm:List (Int×Int)),k+r=l.length→r<f→RelD g d dm→InB d→d.length=g.length→KeyD g (l.take k) dm→
  (∃d' dm',Qam g (l.drop k) d=some d'∧F.ay (Qae g,l.map (idAt g),[]) f dm (k:Int)=A.mrg (F.bs (Qae g,l.map (idAt g),[]) dm') (some (true,(Qae g,l.map (idAt g),dm'))) (Qae g)∧RelD g d' dm'∧InB d'∧d'.length=g.length∧KeyD g l dm')∨
  (Qam g (l.drop k) d=none∧∃p,F.ay (Qae g,l.map (idAt g),[]) f dm (k:Int)=some (false,p))
 |0,k,f,d,dm,hk,hf,O,W,Y,h4=>by
  obtain⟨f,rfl⟩: ∃f',f=f'+1:=⟨f-1,by omega⟩
  left
  rw[Ws (by omega)]at h4
  refine⟨d,dm,by rw[Q2 (by omega)];rfl,?_,O,W,Y,h4⟩
  rw[F.ay,if_neg (by simp only[Qw];omega)]
 |r+1,k,f,d,dm,hk,hf,O,W,Y,h4=>by
  obtain⟨f,rfl⟩: ∃f',f=f'+1:=⟨f-1,by omega⟩
  have I:l[k]?=some l[k]:=Qd (by omega)
  generalize l[k]=x at I
  obtain⟨q,n,rfl,J⟩:=hp k x I
  have hng:=Qg J
  have N:idAt g (q:Int)=n.1:=by unfold idAt;rw[Qax rfl J]
  have e1:A.ix (l.map (idAt g)) (k:Int)=some n.1:=A.ixn (by rw[Qu,I,Wl,N])
  obtain⟨v,b,ho1,ho2⟩:=out_eq g d (Qae g,l.map (idAt g),dm) n O W (ho n hng) (hfed n hng)
  have eF:F.ay (Qae g,l.map (idAt g),[]) (f+1) dm (k:Int)=if(!b)=true then some (false,(Qae g,l.map (idAt g),dm))else A.gd (Z.R64 ((k:Int)+1)) (F.ay (Qae g,l.map (idAt g),[]) f (Z.mins dm n.1 v) ((k:Int)+1)):=by
   rw[F.ay,if_pos (by simp only[Qw];omega)]
   simp only[e1,Qb,A.lt,hi.mget J]
   rw[show F.cK (Qae g,l.map (idAt g),dm) n=_ from ho1,Qb]
  rw[A.dropx I,Qam,Qax rfl J,eF]
  rcases ho2 with⟨rfl,h5⟩|⟨rfl,h5,h6⟩
  ·right
   rw[if_pos (show depthOf n (n.2.2.1.map fun k=>iget d (idx g k))<0 from h5)]
   exact⟨rfl,_,if_pos rfl⟩
  ·subst h5
   rw[if_neg (show ¬depthOf n (n.2.2.1.map fun k=>iget d (idx g k))<0 by simp only[inD]at h6;omega),if_neg (by simp),A.gd1 (A.r64n (by omega)),Qq]
   have:=Qez g l hb hi hfed ho hl hp r (k+1) f (d.set q (depthOf n (inD g d n.2.2.1))) (Z.mins dm n.1 (depthOf n (inD g d n.2.2.1))) (by omega) (by omega) (relD_set hi O Y J _) (W.set q h6 (Qfh n _)) (by rw[Qfw];exact Y) (fun id=>by
    rw[Z.mhas_ins,Qcv I,List.any_append,h4 id,Ye,List.any_nil,Bool.or_false,N,Bool.or_comm]
    congr 1
    exact decide_eq_decide.2 ⟨fun h=>h.symm,fun h=>h.symm⟩)
   exact this
theorem Qbn (g:List Nd)(d:List Int): ∀l,Qbk g d l= !(l.any fun x=>decide (x.2.1=14∧iget d (idx g (iget x.2.2.1 0))≠x.2.2.2.2.2.2))
 | []=>rfl
 |x::r=>by
  unfold Qbk
  rw[Ye]
  by_cases h:x.2.1=14∧iget d (idx g (iget x.2.2.1 0))≠x.2.2.2.2.2.2
  ·rw[if_pos h,decide_eq_true h];rfl
  ·rw[if_neg h,decide_eq_false h,X4];exact Qbn g d r
theorem Qji (g:List Nd)(l:List Int)(hb:Few g)(hi:Inc g)(hfed:Fed g)(W:Own g)(hl:l.length≤60)(hp:Plc g l):
  (∃d dm,F.dr g l=some (d,true)∧F.bt (Qae g,l.map (idAt g),[])=some (true,(Qae g,l.map (idAt g),dm))∧RelD g d dm∧InB d∧d.length=g.length∧KeyD g l dm∧Qbk g d g=true∧Qam g l (List.replicate g.length 0)=some d)∨
  (F.dr g l=some ([],false)∧∃p,F.bt (Qae g,l.map (idAt g),[])=some (false,p)):=by
 have h0:RelD g (List.replicate g.length 0) []:=fun i n Y=>by
  unfold iget;rw[Qq,Xc];split<;>rfl
 rw[depths_l4 g l hb hfed W hl hp]
 unfold F.bt depths
 rcases Qez g l hb hi hfed W hl hp l.length 0 A.FU (List.replicate g.length 0) [] (by omega) (by have:=Qab;omega) h0 (InB.rep _) (by simp) (fun id=>by simp[Z.mhas])with⟨d,dm,N,J,h3,h4,h5,h6⟩|⟨N,p,J⟩
 ·rw[Wc]at N
  rw[N]
  simp only[]
  have hm:A.mrg (F.bs (Qae g,l.map (idAt g),[]) dm) (some (true,(Qae g,l.map (idAt g),dm))) (Qae g)=if(Qae g).any (fun p=>decide (p.2.2.1=14∧iget d (idx g (iget p.2.2.2.1 0))≠p.2.2.2.2.2.2.2))=true then some (false,(Qae g,l.map (idAt g),dm))else some (true,(Qae g,l.map (idAt g),dm)):=by
   refine A.mrg_any fun p hp=>?_
   obtain⟨n,Y,rfl⟩:=Qv.1 hp
   unfold F.bs F.b0
   by_cases I:n.2.1=14
   ·have hl1:n.2.2.1.length=1:=by rcases own_len (W n Y)with J|J|J<;>omega
    have O:n.2.2.1[0]?=some (iget n.2.2.1 0):=iget_nat (i:=0) (by omega)
    have f0:=hfed n Y _ (Qg O)
    rw[if_pos I,show A.ix n.2.2.1 0=_ from A.ixn O,Qb,A.lt,h3.in f0]
    by_cases e:iget d (idx g (iget n.2.2.1 0))≠n.2.2.2.2.2.2
    ·rw[decide_eq_true e,if_pos rfl,decide_eq_true (And.intro I e),if_pos rfl]
    ·rw[decide_eq_false e,if_neg Wd,decide_eq_false (fun h=>e h.2),if_neg Wd]
   ·rw[if_neg I,if_neg Wd,decide_eq_false (fun h=>I h.1),if_neg Wd]
  have hany:(Qae g).any (fun p=>decide (p.2.2.1=14∧iget d (idx g (iget p.2.2.2.1 0))≠p.2.2.2.2.2.2.2))=g.any fun x=>decide (x.2.1=14∧iget d (idx g (iget x.2.2.1 0))≠x.2.2.2.2.2.2):=by
   unfold Qae;rw[List.any_map];rfl
  have h2':F.ay (Qae g,l.map (idAt g),[]) A.FU [] 0=_:=J.trans hm
  rw[h2',hany,Qbn]
  cases hc:g.any fun x=>decide (x.2.1=14∧iget d (idx g (iget x.2.2.1 0))≠x.2.2.2.2.2.2)with
  |true=>right;exact⟨rfl,_,rfl⟩
  |false=>left;exact⟨d,dm,rfl,rfl,h3,h4,h5,h6,by rw[Qbn,hc];rfl,rfl⟩
 ·rw[Wc]at N
  rw[N]
  right
  exact⟨rfl,p,J⟩
theorem Qdf (g:List Nd)(d:List Int)(id:Int): ∀(k:Nat) (l:List Int),(insS g d id k l).length=l.length
 |_,[]=>rfl
 |k,x::r=>by unfold insS;rw[Qh,Qh,Qdf g d id (k+1) r]
theorem Qfx (n:Nd)(v:Int):(outS n v).length≤1:=by unfold outS;split<;>simp
theorem in2 {g:List Nd}(I:Own g){n:Nd}(J:n∈g):n.2.2.1.length≤2:=by rcases own_len (I n J)with h|h|h<;>omega
theorem spots_l2P (g:List Nd)(d:List Int)(a0:(List (Int×Nd))×(List Int)×(List (Int×Int)))(I:List Sp→Int→Option (List Sp))(y:Nat)(x:Nd)(xs:List Sp)(J:RelD g d a0.2.2)(O:g[y]?=some x)(hl:x.2.2.1.length≤2)(W: ∀k∈x.2.2.1,0≤idx g k)(Y:xs.length≤1000)(hy:y≤100):
  F.a0 I a0 (y:Int) x A.FU xs 0=I (xs++(insS g d x.1 0 x.2.2.1++outS x (iget d (y:Int)))) ((y:Int)+1):=
 A.lp x.2.2.1 (fun f (s:List Sp) i=>F.a0 I a0 (y:Int) x f s i) (fun k t s=>I (s++(insS g d x.1 k t++outS x (iget d (y:Int)))) ((y:Int)+1)) (fun k s=>s.length≤1000+k)
  (fun f s hs=>by
   rw[F.a0,if_neg (by omega),insS,Wv,outS,A.lt,J y x O]
   simp only[F.cg,A.gd1 (A.r64n (n:=y) (by omega))]
   by_cases h:x.2.1≠15
   ·rw[if_pos h,if_pos h,A.gd1 (by simp only[Qh,Qx];omega)]
   ·rw[if_neg h,if_neg h,Wm])
  (fun f s k z N hk hs ih=>by
   have h1:=W z (Qg N)
   rw[F.a0,if_pos (by omega),A.ixn N,Qb,A.lt,J.in h1,A.gd1 (by simp only[Qh,Qx];omega),A.gd1 (A.r64n (by omega)),ih _ (by simp only[Qm,Qh,Qx];omega),insS]
   simp only[Wf,X3,Xb,Wv])
  (by have:=Qab;omega) xs (by omega)
theorem Qie (g:List Nd)(d:List Int)(a0:(List (Int×Nd))×(List Int)×(List (Int×Int)))(N:Few g)(hfed:Fed g)(O:Own g)(W:RelD g d a0.2.2):F.bM a0 g=some (spots g d):=by
 have hlen:=N.1
 have loop:=A.lp g (fun f (s:List Sp) i=>F.aU a0 g f s i) (fun k t s=>some (s++spotsF g d k t)) (fun k s=>s.length≤3*k)
  (fun f s Y=>by rw[F.aU,if_neg (by omega),spotsF,Wm])
  (fun f s k x J hk Y ih=>by
   have I:=Qg J
   have h2:=in2 O I
   have h3:=Qfx x (iget d (k:Int))
   rw[F.aU,if_pos (by omega),A.ixn J,Qb,spots_l2P g d a0 _ k x s W J h2 (hfed x I) (by omega) (by omega),ih _ (by rw[Qm,Qm,Qdf];omega),spotsF]
   simp only[Wf])
  (by have:=Qab;omega) [] (by simp)
 unfold F.bM
 rw[loop];rfl
theorem spots_l2R (g:List Nd)(d:List Int)(I:List Sp→Int→Option (List Sp))(y:Nat)(x:Nd)(xs:List Sp)(N:g.length≤100)(hd:d.length=g.length)(O:g[y]?=some x)(hl:x.2.2.1.length≤2)(W: ∀k∈x.2.2.1,0≤idx g k)(Y:xs.length≤1000)(hy:y≤100):
  F.ct I g d (y:Int) x A.FU xs 0=I (xs++(insS g d x.1 0 x.2.2.1++outS x (iget d (y:Int)))) ((y:Int)+1):=
 A.lp x.2.2.1 (fun f (s:List Sp) i=>F.ct I g d (y:Int) x f s i) (fun k t s=>I (s++(insS g d x.1 k t++outS x (iget d (y:Int)))) ((y:Int)+1)) (fun k s=>s.length≤1000+k)
  (fun f s hs=>by
   have hyl:=(Qc.1 O).1
   rw[F.ct,if_neg (by omega),insS,Wv,outS]
   simp only[F.dL,A.gd1 (A.r64n (n:=y) (by omega))]
   by_cases h:x.2.1≠15
   ·rw[if_pos h,if_pos h,iix (by omega) (by omega),Qb,A.gd1 (by simp only[Qh,Qx];omega)]
   ·rw[if_neg h,if_neg h,Wm])
  (fun f s k z J hk hs ih=>by
   have h1:=W z (Qg J)
   have h2:=(idx_le g z).2
   rw[F.ct,if_pos (by omega),A.ixn J,Qb,Qbl g z N,Qb,iix h1 (by omega),Qb,A.gd1 (by simp only[Qh,Qx];omega),A.gd1 (A.r64n (by omega)),ih _ (by simp only[Qm,Qh,Qx];omega),insS]
   simp only[Wf,X3,Xb,Wv])
  (by have:=Qab;omega) xs (by omega)
theorem Qgy (g:List Nd)(d:List Int)(N:Few g)(hfed:Fed g)(O:Own g)(W:d.length=g.length):F.ei g d=some (spots g d):=by
 have hlen:=N.1
 have loop:=A.lp g (fun f (s:List Sp) i=>F.b3 g d f s i) (fun k t s=>some (s++spotsF g d k t)) (fun k s=>s.length≤3*k)
  (fun f s Y=>by rw[F.b3,A.ba,if_neg (by simp),spotsF,Wm])
  (fun f s k x J hk Y ih=>by
   have I:=Qg J
   have h2:=in2 O I
   have h3:=Qfx x (iget d (k:Int))
   rw[F.b3,A.ba,if_pos (by simp only[decide_eq_true_eq];omega),A.ixn J,Qb,spots_l2R g d _ k x s (by omega) W J h2 (hfed x I) (by omega) (by omega),ih _ (by rw[Qm,Qm,Qdf];omega),spotsF]
   simp only[Wf])
  (by have:=Qab;omega) [] (by simp)
 unfold F.ei
 rw[loop];rfl
abbrev Ed:=Pl×Pl×Sm
theorem five {P:Int→Prop}(I:P 0)(J:P 1)(N:P 2)(O:P 3)(W:P 4)(d:Int)(Y:0≤d∧d≤4):P d:=by
 have:d=0∨d=1∨d=2∨d=3∨d=4:=by omega
 rcases this with rfl|rfl|rfl|rfl|rfl<;>assumption
theorem Id_eqP (d:Int)(I:0≤d∧d≤4):F.dz d=some (idP d):=five (P:=fun d=>F.dz d=some (idP d)) (by kernel_rfl) (by kernel_rfl) (by kernel_rfl) (by kernel_rfl) (by kernel_rfl) d I
theorem Enter_eqP (d:Int)(I:0≤d∧d≤4):F.eq d=some (Qas d):=five (P:=fun d=>F.eq d=some (Qas d)) (by kernel_rfl) (by kernel_rfl) (by kernel_rfl) (by kernel_rfl) (by kernel_rfl) d I
theorem Leave_eqP (d:Int)(I:0≤d∧d≤4):F.er d=some (Qau d):=five (P:=fun d=>F.er d=some (Qau d)) (by kernel_rfl) (by kernel_rfl) (by kernel_rfl) (by kernel_rfl) (by kernel_rfl) d I
theorem Next_eqP (d:Int)(I:0≤d∧d≤4):F.eA d=some (Qct d):=five (P:=fun d=>F.eA d=some (Qct d)) (by kernel_rfl) (by kernel_rfl) (by kernel_rfl) (by kernel_rfl) (by kernel_rfl) d I
theorem Id_eqR (d:Int)(I:0≤d∧d≤4):F.eI d=some (idP d):=five (P:=fun d=>F.eI d=some (idP d)) (by kernel_rfl) (by kernel_rfl) (by kernel_rfl) (by kernel_rfl) (by kernel_rfl) d I
theorem Enter_eqR (d:Int)(I:0≤d∧d≤4):F.eB d=some (Qas d):=five (P:=fun d=>F.eB d=some (Qas d)) (by kernel_rfl) (by kernel_rfl) (by kernel_rfl) (by kernel_rfl) (by kernel_rfl) d I
theorem Leave_eqR (d:Int)(I:0≤d∧d≤4):F.eC d=some (Qau d):=five (P:=fun d=>F.eC d=some (Qau d)) (by kernel_rfl) (by kernel_rfl) (by kernel_rfl) (by kernel_rfl) (by kernel_rfl) d I
theorem Next_eqR (d:Int)(I:0≤d∧d≤4):F.eJ d=some (Qct d):=five (P:=fun d=>F.eJ d=some (Qct d)) (by kernel_rfl) (by kernel_rfl) (by kernel_rfl) (by kernel_rfl) (by kernel_rfl) d I
theorem within_eqP (n:Nd)(d:Int)(I:0≤d∧d≤4):F.c9 n d=some (Qak n d):=by
 unfold F.c9 Qak
 simp only[Id_eqP d I,Enter_eqP d I,Leave_eqP d I,Next_eqP d I,Qb,F.b1]
 repeat' split
 all_goals rfl
theorem within_eqR (n:Nd)(d:Int)(I:0≤d∧d≤4):F.d0 n d=some (Qak n d):=by
 unfold F.d0 Qak
 simp only[Id_eqR d I,Enter_eqR d I,Leave_eqR d I,Next_eqR d I,Qb,F.cC]
 repeat' split
 all_goals rfl
def useN (id nd:Int):Nat→List Int→List Pl
 |_,[]=>[]
 |k,z::r=>if z=id then(nd,(k:Int))::useN id nd (k+1) r else useN id nd (k+1) r
def Qat (id:Int):List Nd→List Pl
 | []=>[]
 |n::r=>useN id n.1 0 n.2.2.1++Qat id r
theorem Qde (id nd:Int): ∀(k:Nat) (l:List Int),(useN id nd k l).length≤l.length
 |_,[]=>Q0 0
 |k,z::r=>by
  unfold useN
  have:=Qde id nd (k+1) r
  split<;>simp only[Qh]<;>omega
theorem Qay (id:Int): ∀(l:List Nd),(∀n∈l,n.2.2.1.length≤2)→(Qat id l).length≤2*l.length
 | [],_=>Q0 0
 |n::r,h=>by
  unfold Qat
  have J:=Qay id r fun x I=>h x (Qe _ I)
  have N:=Qde id n.1 0 n.2.2.1
  have O:=h n (Qf ..)
  rw[Qm,Qh];omega
theorem Values_eq (g:List Nd)(N:g.length≤100):F.aW g=some g:=
 A.lp0 g (fun f y=>F.ac g f y) (fun _ l=>some l)
  (fun f=>by rw[F.ac,if_neg (by omega)])
  (fun f k x I hk J=>by rw[F.ac,if_pos (by omega),A.ixn I,Qb,A.gd1 (A.r64n (by omega)),J];rfl)
  (by have:=Qab;omega)
theorem users_l2 (id:Int)(n:Nd)(I:List Pl→Option (List Pl))(xs:List Pl)(Y:n.2.2.1.length≤2)(N:xs.length≤1000):F.bh I id n A.FU xs 0=I (xs++useN id n.1 0 n.2.2.1):=
 A.lp n.2.2.1 (fun f (s:List Pl) i=>F.bh I id n f s i) (fun k t s=>I (s++useN id n.1 k t)) (fun k s=>s.length≤1000+k)
  (fun f s O=>by rw[F.bh,if_neg (by omega),useN,Wm])
  (fun f s k z W hk O J=>by
   rw[F.bh,if_pos (by omega),A.ixn W,Qb,useN]
   simp only[F.c8,A.gd1 (A.r64n (n:=k) (by omega))]
   by_cases h:z=id
   ·rw[if_pos h,if_pos h,A.gd1 (by simp only[Qh,Qx];omega),J _ (by simp only[Qm,Qh,Qx];omega)]
    simp only[Wf,X3,Xb,Wv]
   ·rw[if_neg h,if_neg h,J _ (by omega)])
  (by have:=Qab;omega) xs (by omega)
theorem users_l3 (id:Int): ∀(l:List Nd) (xs:List Pl),(∀n∈l,n.2.2.1.length≤2)→xs.length+2*l.length≤900→F.bi id l xs=some (xs++Qat id l)
 | [],xs,_,_=>by rw[F.bi,Qat,Wm]
 |n::r,xs,h,I=>by
  have J:=h n (Qf ..)
  have N:=Qde id n.1 0 n.2.2.1
  rw[Qh]at I
  rw[F.bi,users_l2 id n _ xs J (by omega),users_l3 id r _ (fun x I=>h x (Qe _ I)) (by rw[Qm];omega),Qat,Wf]
theorem users_eq (g:List Nd)(id:Int)(I:Few g)(J: ∀n∈g,n.2.2.1.length≤2):F.d6 g id=some (Qat id g):=by
 have:=I.1
 unfold F.d6 F.bf
 rw[Qb,Values_eq g (by omega),Qb,users_l3 id g [] J (by simp;omega)];rfl
def inE (g:List Nd)(d:List Int)(n:Nd):Nat→List Int→List Ed
 |_,[]=>[]
 |k,z::r=>((n.1,(k:Int)),(n.1,2),Qak n (iget d (idx g z)))::inE g d n (k+1) r
def outE (g:List Nd)(n:Nd)(v:Int):List Ed:=(Qat n.1 g).map fun u=>((n.1,2),u,(idP v).1)
def edgesF (g:List Nd)(d:List Int):Nat→List Nd→List Ed
 |_,[]=>[]
 |i,n::r=>if n.2.1=15 then edgesF g d (i+1) r else inE g d n 0 n.2.2.1++(outE g n (iget d (i:Int))++edgesF g d (i+1) r)
def edges (g:List Nd)(d:List Int):List Ed:=edgesF g d 0 g
theorem Qft (g:List Nd)(d:List Int)(n:Nd): ∀(k:Nat) (l:List Int),(inE g d n k l).length=l.length
 |_,[]=>rfl
 |k,x::r=>by unfold inE;rw[Qh,Qh,Qft g d n (k+1) r]
theorem edges_l2P (k30:List Ed→Int→Option (List Ed))(y:Nat)(n:Nd)(s:Sm)(us:List Pl)(xs:List Ed)(W:y≤100)(Y:us.length≤1000)(I:xs.length≤10000):
  F.aV k30 (y:Int) n s.1 s.2.1 s.2.2.1 s.2.2.2.1 s.2.2.2.2.1 s.2.2.2.2.2.1 s.2.2.2.2.2.2.1 s.2.2.2.2.2.2.2 us A.FU xs 0=k30 (xs++us.map fun u=>((n.1,2),u,s)) ((y:Int)+1):=
 A.lp us (fun f (t:List Ed) i=>F.aV k30 (y:Int) n s.1 s.2.1 s.2.2.1 s.2.2.2.1 s.2.2.2.2.1 s.2.2.2.2.2.1 s.2.2.2.2.2.2.1 s.2.2.2.2.2.2.2 us f t i) (fun k t e=>k30 (e++t.map fun u=>((n.1,2),u,s)) ((y:Int)+1)) (fun k t=>t.length≤10000+k)
  (fun f t J=>by rw[F.aV,if_neg (by omega),F.bw,A.gd1 (A.r64n (by omega)),Xv,Wm])
  (fun f t k z N hk J O=>by
   rw[F.aV,if_pos (by omega),A.ixn N,Qb,A.gd1 (by simp only[Qh,Qx];omega),A.gd1 (A.r64n (by omega)),O _ (by simp only[Qm,Qh,Qx];omega)]
   simp only[Wf,X3,Xb,Wv,Q3])
  (by have:=Qab;omega) xs (by omega)
theorem edges_l4P (g:List Nd)(d:List Int)(a0:(List (Int×Nd))×(List Int)×(List (Int×Int)))(k30:List Ed→Int→Option (List Ed))(y:Nat)(n:Nd)(xs:List Ed)(W:Few g)(I:Own g)(J:InB d)(Y:RelD g d a0.2.2)(N:g[y]?=some n)(hf: ∀k∈n.2.2.1,0≤idx g k)(hxs:xs.length≤9000):
  F.a1 k30 a0 g (y:Int) n A.FU xs 0=k30 (xs++(inE g d n 0 n.2.2.1++outE g n (iget d (y:Int)))) ((y:Int)+1):=
 A.lp n.2.2.1 (fun f (t:List Ed) i=>F.a1 k30 a0 g (y:Int) n f t i) (fun k t e=>k30 (e++(inE g d n k t++outE g n (iget d (y:Int)))) ((y:Int)+1)) (fun k t=>t.length≤9000+k)
  (fun f t ht=>by
   have hlen:=W.1
   have hyl:=(Qc.1 N).1
   have h2:=in2 I (Qg N)
   have hu:=Qay n.1 g fun x O=>in2 I O
   rw[F.a1,if_neg (by omega),A.lt,Y y n N,Id_eqP _ (J _),Qb,F.cV,users_eq g n.1 W (fun x O=>in2 I O),Qb,
    show F.aV k30 (y:Int) n _ _ _ _ _ _ _ _ (Qat n.1 g) A.FU t 0=_ from edges_l2P k30 y n (idP (iget d (y:Int))).1 (Qat n.1 g) t (by omega) (by omega) (by omega),inE,Wv]
   rfl)
  (fun f t k z hz hk ht ih=>by
   have h1:=hf z (Qg hz)
   have h2:=in2 I (Qg N)
   rw[F.a1,if_pos (by omega),A.ixn hz,Qb,A.lt,Y.in h1,show F.c9 n _=_ from within_eqP n _ (J _),Qb,A.gd1 (by simp only[Qh,Qx];omega),A.gd1 (A.r64n (by omega)),ih _ (by simp only[Qm,Qh,Qx];omega),inE]
   simp only[Wf,X3,Xb,Wv])
  (by have:=Qab;have:=in2 I (Qg N);omega) xs (by omega)
theorem Qic (g:List Nd)(d:List Int)(a0:(List (Int×Nd))×(List Int)×(List (Int×Int)))(W:Few g)(hfed:Fed g)(N:Own g)(O:InB d)(hr:RelD g d a0.2.2):F.bm a0 g=some (edges g d):=by
 have hlen:=W.1
 have loop:=A.lp g (fun f (s:List Ed) i=>F.ax a0 g f s i) (fun k t s=>some (s++edgesF g d k t)) (fun k s=>s.length≤83*k)
  (fun f s hs=>by rw[F.ax,if_neg (by omega),edgesF,Wm])
  (fun f s k x I hk hs Y=>by
   have J:=Qg I
   have h2:=in2 N J
   have hu:=Qay x.1 g fun x I=>in2 N I
   rw[F.ax,if_pos (by omega),A.ixn I,Qb,edgesF]
   by_cases h:x.2.1=15
   ·rw[if_pos h,if_pos h,F.bw,A.gd1 (A.r64n (by omega)),Y _ (by omega)]
   ·rw[if_neg h,if_neg h,edges_l4P g d a0 _ k x s W N O hr I (hfed x J) (by omega),Y _ (by rw[Qm,Qm,Qft,outE,Qw];omega)]
    simp only[Wf])
  (by have:=Qab;omega) [] (by simp)
 unfold F.bm
 rw[loop];rfl
theorem Find_eq (g:List Nd)(J:Few g){j:Nat}{n:Nd}(N:Inc g)(I:g[j]?=some n):F.ev g n.1=some (n,true):=by
 have:=J.1
 have O:=J.in I
 unfold F.ev
 rw[Qbl g _ (by omega),Qb,N.idx I,if_neg (by omega),A.ixn I,Qb,A.gd1 (by simp only[Qx];omega)]
 rfl
theorem edges_l4R (g:List Nd)(k37:List Ed→Int→Option (List Ed))(sp:Sp)(r18:Nd×Bool)(r59:Sm×Int)(j:Nat)(m:Nd)(xs:List Ed)(hg:g.length≤100)(I:g[j]?=some m)(hl:m.2.2.1.length≤2)(N:xs.length≤20000):
  F.bA k37 g sp r18 r59 (j:Int) A.FU xs 0=k37 (xs++(useN r18.1.1 m.1 0 m.2.2.1).map fun u=>(sp.1,u,r59.1)) ((j:Int)+1):=
 A.lp m.2.2.1 (fun f (t:List Ed) i=>F.bA k37 g sp r18 r59 (j:Int) f t i) (fun k t e=>k37 (e++(useN r18.1.1 m.1 k t).map fun u=>(sp.1,u,r59.1)) ((j:Int)+1)) (fun k t=>t.length≤20000+k)
  (fun f t O=>by
   have W:=(Qc.1 I).1
   rw[F.bA,A.ixn I,Qb,if_neg (by omega),A.gd1 (A.r64n (by omega)),useN,Xv,Wm])
  (fun f t k z Y hk O J=>by
   rw[F.bA,A.ixn I,Qb,if_pos (by omega),Qb,A.ixn Y,Qb,useN]
   simp only[F.dN,A.gd1 (A.r64n (n:=k) (by omega)),Qb]
   by_cases h:z=r18.1.1
   ·rw[if_pos h,if_pos h,A.gd1 (by simp only[Qh,Qx];omega),J _ (by simp only[Qm,Qh,Qx];omega)]
    simp only[Wf,X3,Xb,Wv,Q3]
   ·rw[if_neg h,if_neg h,J _ (by omega)])
  (by have:=Qab;omega) xs (by omega)
theorem edges_l5R (g:List Nd)(k30:List Ed→Int→Option (List Ed))(y:Nat)(sp:Sp)(r18:Nd×Bool)(r59:Sm×Int)(xs:List Ed)(I:Few g)(N:Own g)(O:xs.length≤15000)(hy:y≤1000):
  F.bB k30 g (y:Int) sp r18 r59 A.FU xs 0=k30 (xs++(Qat r18.1.1 g).map fun u=>(sp.1,u,r59.1)) ((y:Int)+1):=
 A.lp g (fun f (t:List Ed) i=>F.bB k30 g (y:Int) sp r18 r59 f t i) (fun k t e=>k30 (e++(Qat r18.1.1 t).map fun u=>(sp.1,u,r59.1)) ((y:Int)+1)) (fun k t=>t.length≤15000+2*k)
  (fun f t W=>by rw[F.bB,if_neg (by omega),F.dc,A.gd1 (A.r64n (by omega)),Qat,Xv,Wm])
  (fun f t k m J hk W Y=>by
   have hlen:=I.1
   have h2:=in2 N (Qg J)
   have h3:=Qde r18.1.1 m.1 0 m.2.2.1
   rw[F.bB,if_pos (by omega),edges_l4R g _ sp r18 r59 k m t (by omega) J h2 (by omega),Y _ (by rw[Qm,Qw];omega),Qat,Yg,Wf])
  (by have:=Qab;have:=I.1;omega) xs (by omega)
def edOf (g:List Nd)(sp:Sp):List Ed:=if sp.1.2≠2 then(if(find g sp.1.1).1.2.1≠15 then [(sp.1,((find g sp.1.1).1.1,2),Qak (find g sp.1.1).1 sp.2)]else [])else(Qat (find g sp.1.1).1.1 g).map fun u=>(sp.1,u,(idP sp.2).1)
def edS (g:List Nd):List Sp→List Ed
 | []=>[]
 |sp::r=>edOf g sp++edS g r
def SpOk (g:List Nd)(sp:Sp):Prop:=(∃(j:Nat) (n:Nd),g[j]?=some n∧n.1=sp.1.1)∧0≤sp.2∧sp.2≤4
theorem Qds {g:List Nd}(J:Inc g){j:Nat}{n:Nd}(I:g[j]?=some n):find g n.1=(n,true):=by
 unfold find
 rw[J.idx I,if_neg (by omega),Qax rfl I]
theorem edgesR_l6 (g:List Nd)(l:List Sp)(W:Few g)(hi:Inc g)(ho:Own g)(hl:l.length≤130)(hs: ∀sp∈l,SpOk g sp):F.dO g l=some (edS g l):=by
 have hlen:=W.1
 have loop:=A.lp l (fun f (s:List Ed) i=>F.aY g l f s i) (fun k t s=>some (s++edS g t)) (fun k s=>s.length≤83*k)
  (fun f s hs=>by rw[F.aY,if_neg (by omega),edS,Wm])
  (fun f s k x N hk hp Y=>by
   obtain⟨⟨j,n,hn,J⟩,hd⟩:=hs x (Qg N)
   have hu:=Qay n.1 g fun x N=>in2 ho N
   rw[F.aY,if_pos (by omega),A.ixn N,Qb,←J,Find_eq g W hi hn,Qb,edS,edOf,←J,Qds hi hn]
   simp only[F.dM,F.dc,A.gd1 (A.r64n (n:=k) (by omega)),Qb]
   by_cases O:x.1.2≠2
   ·rw[if_pos O,if_pos O]
    by_cases I:n.2.1≠15
    ·rw[if_pos I,if_pos I,show F.d0 n x.2=_ from within_eqR n x.2 hd,Qb,A.gd1 (by simp only[Qh,Qx];omega),Y _ (by simp only[Qm,Qh,Qx];omega),J]
     simp only[Wf]
    ·rw[if_neg I,if_neg I,Y _ (by omega),Wv]
   ·rw[if_neg O,if_neg O,Id_eqR x.2 hd,Qb,edges_l5R g _ k x (n,true) (idP x.2) s W ho (by omega) (by omega),Y _ (by rw[Qm,Qw];show s.length+(Qat n.1 g).length≤_;omega),Wf])
  (by have:=Qab;omega) [] (by simp)
 unfold F.dO
 rw[loop];rfl
theorem Qje (g:List Nd): ∀(a b:List Sp),edS g (a++b)=edS g a++edS g b
 | [],_=>rfl
 |x::a,b=>by rw[Xb,edS,edS,Qje g a b,Wf]
theorem edS_ins {g:List Nd}(J:Inc g)(d:List Int){j:Nat}{n:Nd}(N:g[j]?=some n): ∀(k:Nat) (l:List Int),k+l.length≤2→edS g (insS g d n.1 k l)=if n.2.1=15 then []else inE g d n k l
 |k,[],_=>by unfold insS inE edS;split<;>rfl
 |k,z::r,h=>by
  rw[Qh]at h
  have O:((k:Int):Int)≠2:=by omega
  unfold insS inE
  rw[edS,edS_ins J d N (k+1) r (by omega),edOf]
  simp only[Qds J N]
  rw[if_pos O]
  by_cases I:n.2.1=15
  ·simp[I]
  ·rw[if_neg I,if_neg I,if_pos I];rfl
theorem Qhe {g:List Nd}(N:Inc g)(O:Own g)(d:List Int): ∀(m k:Nat),k+m=g.length→edS g (spotsF g d k (g.drop k))=edgesF g d k (g.drop k)
 |0,k,h=>by rw[Q2 (by omega)];rfl
 |m+1,k,h=>by
  have J:g[k]?=some g[k]:=Qd (by omega)
  generalize g[k]=x at J
  have W:=in2 O (Qg J)
  rw[A.dropx J,spotsF,edgesF,Qje,Qje,Qhe N O d m (k+1) (by omega),edS_ins N d J 0 _ (by omega)]
  by_cases I:x.2.1=15
  ·rw[if_pos I,if_pos I,outS,if_neg (fun h=>h I),edS];rfl
  ·rw[if_neg I,if_neg I,outS,if_pos I,edS,edOf]
   simp only[Qds N J]
   rw[if_neg (fun h=>h rfl),edS,Wm];rfl
theorem o_bU {g:List Nd}{d:List Int}(I:InB d){j:Nat}{n:Nd}(J:g[j]?=some n): ∀(k:Nat) (l:List Int),∀sp∈insS g d n.1 k l,SpOk g sp
 |_,[],sp,h=>by cases h
 |k,z::r,sp,h=>by
  unfold insS at h
  rcases Qk.1 h with rfl|h
  ·exact⟨⟨j,n,J,rfl⟩,I _⟩
  ·exact o_bU I J (k+1) r sp h
theorem o_a1 {g:List Nd}{d:List Int}(J:InB d): ∀(m k:Nat),k+m=g.length→∀sp∈spotsF g d k (g.drop k),SpOk g sp
 |0,k,h,sp,I=>by rw[Q2 (by omega)]at I;cases I
 |m+1,k,h,sp,I=>by
  have N:g[k]?=some g[k]:=Qd (by omega)
  generalize g[k]=x at N
  rw[A.dropx N,spotsF]at I
  rcases Qn.1 I with I|I
  ·exact o_bU J N 0 _ sp I
  ·rcases Qn.1 I with I|I
   ·unfold outS at I
    split at I
    ·rw[Qj]at I;subst I;exact⟨⟨k,x,N,rfl⟩,J _⟩
    ·cases I
   ·exact o_a1 J m (k+1) (by omega) sp I
theorem Qcf {g:List Nd}(J:Own g)(d:List Int): ∀(m k:Nat),k+m=g.length→(spotsF g d k (g.drop k)).length≤3*m
 |0,k,h=>by rw[Q2 (by omega)];exact Q0 0
 |m+1,k,h=>by
  have I:g[k]?=some g[k]:=Qd (by omega)
  generalize g[k]=x at I
  have N:=in2 J (Qg I)
  have O:=Qfx x (iget d (k:Int))
  have W:=Qcf J d m (k+1) (by omega)
  rw[A.dropx I,spotsF,Qm,Qm,Qdf];omega
theorem Qhd (g:List Nd)(d:List Int)(N:Few g)(O:Inc g)(I:Own g)(J:InB d):F.dO g (spots g d)=some (edges g d):=by
 have h1:=Qcf I d g.length 0 (by omega)
 have W:=o_a1 (d:=d) (g:=g) J g.length 0 (by omega)
 have Y:=Qhe O I d g.length 0 (by omega)
 rw[Wc]at h1 W Y
 have:=N.1
 rw[edgesR_l6 g (spots g d) N O I (by unfold spots;omega) W]
 exact congrArg some Y
end Go.Proofs.YtlbnpmfggfbdoaaGreatDoor
end
