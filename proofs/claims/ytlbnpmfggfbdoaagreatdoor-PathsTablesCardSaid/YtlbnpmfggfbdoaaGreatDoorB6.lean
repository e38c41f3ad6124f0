/- Functions on data, what they tell, and that the code computes them. -/
import Derived.Test.YtlbnpmfggfbdoaaGreatDoorB0
import Derived.Test.YtlbnpmfggfbdoaaGreatDoorB1
import Derived.Test.YtlbnpmfggfbdoaaGreatDoorB2
import Derived.Test.YtlbnpmfggfbdoaaGreatDoorB4
import Derived.Test.YtlbnpmfggfbdoaaGreatDoorB3
import Derived.Test.YtlbnpmfggfbdoaaGreatDoorB5
import Derived.Lib.TrimUEq
set_option linter.unusedVariables false
set_option linter.unusedSimpArgs false
set_option maxRecDepth 20000
set_option maxHeartbeats 8000000
set_option synthInstance.maxSize 1000000
set_option synthInstance.maxHeartbeats 400000
section
namespace Go.Proofs.YtlbnpmfggfbdoaaGreatDoor
open Go.RowKit
abbrev l6a:List Nat:=[2,43,730,731,732,866,907,908,909,910]
abbrev l6b:List Nat:=[0,1,106,107,108,109,110,111,112,113]
abbrev l6c:List Nat:=[2,43,730,731,732,866,907,908]
abbrev l6d:List Nat:=[2,43,730,731,732,866,907]
abbrev l6e:List Nat:=[0,1,106,107,108,109,110,111,112,113,114,115]
abbrev l6f:List Nat:=[0,1,106,107,108,109]
variable(A0_ A1_ A2_ A3_ A4_ A5_ A7_ A10_ A12_ A13_:Option Addr)(b0_ g0_ b1_ c1_ c2_ g2_ c3_ b4_ c4_ b5_ c5_ b6_ c6_ c8_ g8_ g10_ c11_ c13_ c14_:Nat)
def F.e4 (h:(List D57)→Int→Option ((List D57)×Int))(a:(List D41)×Int)(k:List D57)(e:Int):Nat→Option ((List D57)×Int)
 |0=>none
 |f+1=>if(0:Int)<(a.1.length:Int)then((A.ix a.1 0).bind fun o=>(none))else(A.gd (Z.R64 (e+1)) (h k (e+1)))
def F.di (e:(List D57)→Int→Option ((List D57)×Int))(a:Int)(h:List D57):Option ((List D57)×Int):=A.gd (Z.R64 (a+1)) (e h (a+1))
def F.aY (p:(List D57)→Int→Option ((List D57)×Int))(a:(List D41)×Int)(e:Int)(k:D99):Nat→(List D57)→Int→Option ((List D57)×Int)
 |0,_,_=>none
 |f+1,o,h=>if h<(a.1.length:Int)then((A.ix a.1 h).bind fun x=>((F.aG k x.1).bind fun s=>(if(0:Int)≤s then((A.ix a.1 e).bind fun t=>((A.ix a.1 h).bind fun u=>((A.ix k.2 s).bind fun w=>(A.gd ((List.length (α:=D57) o+List.length (α:=D57) [(t.1,u.1,w)])*56≤140737488355328) (F.di (F.aY p a e k f) h (o++[(t.1,u.1,w)]))))))else(F.di (F.aY p a e k f) h o))))else(A.gd (Z.R64 (e+1)) (p o (e+1)))
def F.a4 (a:(List D41)×Int)(h:(List D53)×Int):Nat→(List D57)→Int→Option ((List D57)×Int)
 |0,_,_=>none
 |f+1,k,e=>if e<(a.1.length:Int)then((A.ix a.1 e).bind fun o=>((F.eJ o h.1).bind fun p=>A.om p (F.e4 (F.a4 a h f) a k e A.FU) fun s=>(F.aY (F.a4 a h f) a e s A.FU k 0)))else(some (k,0))
def F.dl (e:D23):Option ((List D57)×Int):=(F.cU e).bind fun a=>(if a.2≠0 then(some ([],a.2))else((F.dk e).bind fun h=>(F.a4 a h A.FU [] 0)))
theorem o_bJ(y:D23)(r:(List D57)×Int)(h:F.dl y=some r):
    A.Ct Tryz.prog 11 [.agg #[.slice A0_ y.length c1_]] [(0,.sh (.slice T83) [.slice A0_ y.length c1_] y)] [] (fun v H'=>∃(A0':Option Addr) (c1':Nat),v=.tuple #[.slice A0' r.1.length c1',A.i r.2]∧H'=[(0,.own T57 58 A0' c1' r.1)]∧A.h6 r.2):=by
 refine J1 Tryz.func11 rfl Tryz.ntmps11 rfl fun w0 F0=>?_;rw[F.dl]at h;refine Jw 1 ?_;refine Vd 1 (cs:=[.slice A0_ y.length c1_]) fun g1=>?_;refine J0 2 [] (Vb 2 ?_);refine J2 [1] [] [.b 0 0] [(14,.agg #[.slice A0_ y.length c1_])] ?_;refine Vt 2 [] h (o_aQ A0_ c1_ y) (.s 0 .nil) ?_;rintro p - h _ _ ⟨U,V,rfl,rfl,hr6⟩;refine Vg ?_;refine J0 5 [(4,.slice U p.1.length V),(5,A.i p.2)] (Vb 3 ?_);refine J0 2 [(19,.bool (decide (p.2≠0)))] (Jy 1 ?_);refine Vs h ?_ ?_<;>intro hb h
 ·refine Jw 1 ?_;refine J0 3 [(2,.slice none 0 0),(3,A.i p.2)] (Jy 1 ?_);obtain rfl:=Va h;refine V7 42 T57 58 ?_;exact V6 [(0,42)] ⟨none,0,rfl,rfl,hr6⟩
 refine Jw 3 ?_;refine J2 [1] [] [.b 0 0] [(22,.agg #[.slice A0_ y.length c1_])] ?_;refine Vt 43 [] h (o_bI A0_ c1_ y) (.s 0 .nil) ?_;rintro J - h _ _ ⟨A9,c10,rfl,rfl,hr11⟩;refine Vg ?_;refine J0 5 [(6,.slice A9 J.1.length c10)] (Vb 2 ?_);refine J0 1 [(8,.slice none 0 0)] (Vb 3 ?_);refine J0 1 [(9,A.i 0)] (Jy 2 ?_);refine V7 362 T57 58 ?_;refine Vp [4,6] [2,43] (fun f L N=>∃(B:List D57),∃(u:Int),∃(O:Option Addr),∃(c13:Nat),L=[(8,.slice O B.length c13),(9,A.i u)]∧N=[(362,.own T57 58 O c13 B)]∧A.h6 u∧F.a4 p J f B u=some r) ⟨[],0,none,0,rfl,rfl,J6,h⟩ ?_;rintro Y _ _ ⟨B,u,O,c13,rfl,rfl,b4,h⟩;rcases Y with _|Y
 ·exact Vn h
 rw[F.a4]at h;refine Jw 2 ?_;refine J0 4 [(29,.bool (decide (u<(p.1.length:Int))))] (Jy 1 ?_);refine Vs h ?_ ?_<;>intro hb h
 ·refine Jw 5 ?_;refine J0 2 [(32,.slice U p.1.length V),(33,A.i u)] ?_;have⟨ab,av,h⟩:=Vw h;refine Uh 2 729 av fun a7=>?_;intro b5 b6;refine J2 [] [729] [.e 0 0,.n] [(35,(A.rag ab)),(36,.slice A9 J.1.length c10)] ?_;refine Vt 730 [] h (o_bL A9 c10 ab J.1 a7.1.1 a7.1.2 a7.2) (.o 43 .nil) ?_;rintro b7 - h _ _ (⟨hp78,rfl,rfl⟩|⟨a3,hp78,a8,aw,ax,ac,ad,rfl,rfl⟩)
  ·refine Vg ?_;rw[A.om_n hp78]at h
   refine J0 1 [(10,.pointer none)] (Vb 2 ?_);refine J0 1 [(11,A.i 0)] (Jy 2 ?_);refine Vp [4,6,8,9,10,11] [2,43,362] (fun f L N=>L=[]∧N=[]∧F.e4 (F.a4 p J Y) p B u f=some r) ⟨rfl,rfl,h⟩ ?_;rintro ae _ _ ⟨rfl,rfl,h⟩;rcases ae with _|ae
   ·exact Vn h
   rw[F.e4]at h;refine Jw 2 ?_;refine J0 4 [(41,.bool (decide ((0:Int)<(p.1.length:Int))))] (Jy 1 ?_);refine Vs h ?_ ?_<;>intro hb h
   ·refine Jw 5 ?_;refine J0 3 [(44,.pointer none),(45,.slice U p.1.length V),(46,A.i 0)] ?_;have⟨ay,az,h⟩:=Vw h;refine Uh 2 773 az fun b9=>?_;intro bb bc;refine J2 [] [773] [.n,.e 0 0] [(49,(A.rae ay.1))] ?_;exact Vn h
   refine Jw 3 ?_;have⟨af,h⟩:=Vr h;refine Ud 3 [Z.R64 (u+1)] [(9,A.i (u+1))] af (Jz ?_);exact Vk ⟨_,Qh _,⟨B,(u+1),O,c13,rfl,rfl,(J3 af),h⟩⟩
  refine Vg ?_;rw[A.om_s hp78]at h
  refine J0 1 [(10,.pointer (some ⟨a8,0,none⟩))] (Vb 2 ?_);refine J0 1 [(11,A.i 0)] (Jy 2 ?_);refine Vp [4,6,9,10] [2,43,730,731,732] (fun f L N=>∃(z:List D57),∃(x:Int),∃(W:Option Addr),∃(X:Nat),L=[(8,.slice W z.length X),(11,A.i x)]∧N=[(362,.own T57 58 W X z)]∧A.h6 x∧F.aY (F.a4 p J Y) p u a3 f z x=some r) ⟨B,0,O,c13,rfl,rfl,J6,h⟩ ?_;rintro a9 _ _ ⟨z,x,W,X,rfl,rfl,bd,h⟩;rcases a9 with _|a9
  ·exact Vn h
  rw[F.aY]at h;refine Jw 2 ?_;refine J0 4 [(41,.bool (decide (x<(p.1.length:Int))))] (Jy 1 ?_);refine Vs h ?_ ?_<;>intro hb h
  ·refine V4 2 ?_;refine J5 [4,6,9,10,11] [2,43,730,731,732] (fun L N=>∃(a1:List D57),∃(a5:Option Addr),∃(a6:Nat),L=[(8,.slice a5 a1.length a6)]∧N=[(362,.own T57 58 a5 a6 a1)]∧F.di (F.aY (F.a4 p J Y) p u a3 a9) x a1=some r) ?_ ?_
   ·refine Jw 2 ?_;refine J0 3 [(44,.pointer (some ⟨a8,0,none⟩)),(45,.slice U p.1.length V),(46,A.i x)] ?_;have⟨ag,b0,h⟩:=Vw h;refine Uh 2 866 b0 fun ah=>?_;intro be bg;refine J2 [] [866] [.n,.e 0 0] [(49,(A.rae ag.1))] ?_;refine Vt 867 [] h (o_af aw ac a8 ax ad a3 ag.1 ah.1.1 ah.1.2) (.m 730 (.m 731 (.m 732 .nil))) ?_;rintro aa - h _ _ ⟨rfl,rfl,hr55⟩;refine Vg ?_;refine V1 867 730 [] ?_;refine V1 868 731 [] ?_;refine V1 869 732 [] ?_;refine J0 1 [(12,A.i aa)] (Vb 2 ?_);refine J0 2 [(52,.bool (decide ((0:Int)≤aa)))] (Jy 1 ?_);refine Vs h ?_ ?_<;>intro hb h
    ·refine Vl mixed 22 22 (A.mb 22 0) ?_;refine Vi J4 [] [2,43,730,731,732,866] [730] [] (A.mb 22 63687) 12 [(0,.n),(1,.n),(2,.n),(6,.n),(7,.n),(11,.n),(15,.n),(12,.n),(13,.n),(14,.b 0 1)] [(53,.slice W z.length X),(54,.slice U p.1.length V),(55,A.i u),(59,.slice U p.1.length V),(60,A.i x),(68,A.i aa),(67,.slice ac a3.2.length ad)] ?_;have⟨E,ai,h⟩:=Vw h;refine Uc 2 907 ai fun aj=>?_;intro bh b1;refine Vh J4 [2,43,730,731,732,866] l6d 3 (A.mb 22 63695) rfl (fun a w hf hh=>Uo (t:=T41) ai b1 hf) ?_;refine Vi J4 l6d l6d [] [907] (A.mb 22 63743) 9 [(4,.n),(5,.e 0 0)] [(58,(A.rae E.1))] ?_;have⟨I,ak,h⟩:=Vw h;refine Uc 2 908 ak fun al=>?_;intro bi b2;refine Vh J4 l6d l6c 8 (A.mb 22 63999) rfl (fun a w hf hh=>Uo (t:=T41) ak b2 hf) ?_;refine Vi J4 l6c l6c [] [908] (A.mb 22 65535) 6 [(9,.n),(10,.e 0 0)] [(63,(A.rae I.1))] ?_;have⟨a2,am,h⟩:=Vw h;refine Uc 732 909 am fun bj=>?_;intro an ao bk b3;refine Vh J4 l6c l6a 16 (A.mb 22 131071) rfl (fun a w hf hh=>Uo (t:=(Z.Ty.slice T44)) am b3 hf) ?_;refine Vi J4 l6a l6a [] [909] (A.mb 22 524287) 3 [(17,.e 0 0),(18,.n)] [(71,.agg #[A.i E.1.1,A.i E.1.2,A.i I.1.1,A.i I.1.2,.slice an a2.length ao])] ?_;refine J7 19 ?_;refine Vq 911 (ty:=T57) (cs:=[A.i E.1.1,A.i E.1.2,A.i I.1.1,A.i I.1.2,.slice an a2.length ao]) [(E.1,I.1,a2)] ⟨⟨⟨⟨rfl,aj.1.1⟩,⟨rfl,aj.1.2⟩⟩,⟨⟨rfl,al.1.1⟩,⟨rfl,al.1.2⟩⟩,.inl ⟨910,rfl⟩⟩,rfl⟩ (fun bl=>?_) Tryz.zeroValue58 Tryz.sizeOf58
     refine Vf (A.mb 22 1048575) l6a ?_;refine J7 20 ?_;have⟨hl76,h⟩:=Vr h;refine Vu (k:=362) [] (Uf (k:=911) rfl) inf58 hl76 fun ap aq=>?_;refine Vf (A.mb 22 2097151) l6a ?_;refine Vi J4 l6a [2,43,362,730,731,732,866,907,908,909,910,911] [] [] (A.mb 22 4194303) 0 [(21,.n)] [(8,.slice ap ((z++[(E.1,I.1,a2)]).length) aq)] (J9 ?_);refine A.ee 1 ?_;exact Vk ⟨(z++[(E.1,I.1,a2)]),ap,aq,rfl,rfl,h⟩
    refine V0 2 ?_;exact Vk ⟨z,W,X,rfl,rfl,h⟩
   rintro _ _ ⟨a1,a5,a6,rfl,rfl,h⟩;rw[F.di]at h;refine Jw 0 ?_;have⟨ar,h⟩:=Vr h;refine Ud 3 [Z.R64 (x+1)] [(11,A.i (x+1))] ar (Jz ?_);exact Vk ⟨_,Qh _,⟨a1,(x+1),a5,a6,rfl,rfl,(J3 ar),h⟩⟩
  refine Jw 3 ?_;have⟨au,h⟩:=Vr h;refine Ud 3 [Z.R64 (u+1)] [(9,A.i (u+1))] au (Jz ?_);exact Vk ⟨_,Qh _,⟨z,(u+1),W,X,rfl,rfl,(J3 au),h⟩⟩
 refine Jw 3 ?_;refine J0 3 [(2,.slice O B.length c13),(3,A.i 0)] (Jy 1 ?_);obtain rfl:=Va h;exact V6 [(0,362)] ⟨O,c13,rfl,rfl,J6⟩
def F.dF (e:Int→Option Bool)(a:Int)(h:Bool):Option Bool:=if h=true then(some false)else(A.gd (Z.R64 (a+1)) (e (a+1)))
def F.bi (e:(List D57))(h:(List D57)):Nat→Int→Option Bool
 |0,_=>none
 |f+1,a=>if a<(e.length:Int)then((A.ix e a).bind fun k=>((A.ix h a).bind fun o=>(if k.1≠o.1 then(F.dF (F.bi e h f) a true)else((A.ix e a).bind fun p=>((A.ix h a).bind fun s=>(if p.2.1≠s.2.1 then(F.dF (F.bi e h f) a true)else((A.ix e a).bind fun t=>((A.ix h a).bind fun u=>((F.eH t.2.2 u.2.2).bind fun w=>(F.dF (F.bi e h f) a (!w)))))))))))else(some true)
def F.e5 (a:(List D57))(e:(List D57)):Option Bool:=if(a.length:Int)≠(e.length:Int)then(some false)else(F.bi a e A.FU 0)
theorem o_bR(o:(List D57))(p:(List D57))(r:Bool)(h:F.e5 o p=some r):
    A.Ct Tryz.prog 12 [.slice A0_ o.length c1_,.slice A2_ p.length c3_] [(0,.ln T57 A0_ c1_ o),(1,.ln T57 A2_ c3_ p)] [] (fun v H'=>v=.bool r∧H'=[]):=by
 refine J1 Tryz.func12 rfl Tryz.ntmps12 rfl fun w0 F0=>?_;rw[F.e5]at h;refine Jw 1 ?_;refine J0 1 [] (Vb 3 ?_);refine J0 5 [(10,.bool (decide ((o.length:Int)≠(p.length:Int))))] (Jy 1 ?_);refine Vs h ?_ ?_<;>intro s h
 ·refine Jw 1 ?_;refine J0 1 [(4,.bool false)] (Jy 1 ?_);obtain rfl:=Va h;exact Vc [] ⟨rfl,rfl⟩
 refine Jw 4 ?_;refine J0 1 [(5,A.i 0)] (Jy 2 ?_);refine Vp [0,1] [0,1] (fun f u z=>∃(k:Int),u=[(5,A.i k)]∧z=[]∧A.h6 k∧F.bi o p f k=some r) ⟨0,rfl,rfl,J6,h⟩ ?_;rintro B _ _ ⟨k,rfl,rfl,ag,h⟩;rcases B with _|B
 ·exact Vn h
 rw[F.bi]at h;refine Jw 2 ?_;refine J0 4 [(14,.bool (decide (k<(o.length:Int))))] (Jy 1 ?_);refine Vs h ?_ ?_<;>intro s h
 ·refine V4 4 ?_;refine J5 [0,1,5] [0,1] (fun u z=>∃(E:Bool),u=[(54,.bool E)]∧z=[]∧F.dF (F.bi o p B) k E=some r) ?_ ?_
  ·refine A.AX.drF mixed 38 38 [0,0,3,4,8,0,0,96,128,256,528,1024,2048,2048,14336,18432,34816,2048,2048,395264,526336,1050624,2164736,4196352,8390656,16777216,16777216,117440512,150994944,285212672,16777216,16777216,3238002688,4311744512,8606711808,17733517312,34376515584,68736253952] [0,0,3,4,8,0,0,96,128,256,528,1024,2048,2048,14336,18432,34816,2048,2048,395264,526336,1050624,2164736,4196352,8388608,16777216,16777216,117440512,150994944,285212672,16777216,16777216,3238002688,4311744512,8606711808,17733517312,34376515584,68736253952] fun hT6=>?_;refine A.AH.qF hT6 J4 [] [0,1] [] [] 0 99 34 [(0,.n),(1,.n),(5,.n),(6,.n)] [17,18,22,23] [] [(17,.slice A0_ o.length c1_),(18,A.i k),(22,.slice A2_ p.length c3_),(23,A.i k)] trivial ?_;have⟨I,O,h⟩:=Vw h;refine Vo 0 106 O fun ah=>?_;intro ai c12 aj ak aa;refine Vh J4 [0,1] [0,1,106,107] 2 (A.mb 38 103) rfl (fun a w hf hh=>Vj (t:=T57) O aa hf) ?_;refine A.AH.qF hT6 J4 [0,1,106,107] [0,1,106,107] [] [106] 103 127 31 [(3,.n),(4,.e 0 0)] [21] [] [(21,(A.rae I.1))] trivial ?_;have⟨J,U,h⟩:=Vw h;refine Vo 1 108 U fun al=>?_;intro am c20 an ao ab;refine Vh J4 [0,1,106,107] l6f 7 (A.mb 38 255) rfl (fun a w hf hh=>Vj (t:=T57) U ab hf) ?_;refine A.AH.qF hT6 J4 [0,1,106,107,108,109] [0,1,106,107,108,109] [] [108] 255 1023 28 [(8,.n),(9,.e 0 0)] [26] [] [(26,(A.rae J.1))] trivial ?_;refine Vh J4 l6f l6f 10 (A.mb 38 2047) rfl (fun a w hf hh=>eqagg_neq40 (x:=I.1) (y:=J.1) (hf.eval rfl) (hf.eval rfl)) ?_;refine A.AH.qF hT6 J4 [0,1,106,107,108,109] [0,1,106,107,108,109] [] [] 2047 4095 26 [(11,.n)] [28] [] [(28,.bool (decide (I.1≠J.1)))] trivial ?_;refine Ug (j:=28) rfl h ?_ ?_<;>intro s h
   ·refine A.AH.qF hT6 J4 [0,1,106,107,108,109] [0,1,106,107,108,109] [] [] 4095 274877906943 0 [(12,.off),(13,.off),(17,.off),(18,.off),(14,.off),(19,.off),(15,.off),(20,.off),(16,.off),(21,.off),(22,.off),(23,.n),(24,.n),(25,.off),(26,.off),(30,.off),(31,.off),(27,.off),(32,.off),(28,.off),(33,.off),(29,.off),(34,.off),(35,.off),(36,.off),(37,.n)] [54] [] [(54,.bool true)] trivial ?_;refine A.AH.doneF hT6 ?_;exact Vk ⟨true,rfl,rfl,h⟩
   refine A.AH.qF hT6 J4 [0,1,106,107,108,109] [0,1,106,107,108,109] [] [] 4095 409599 22 [(12,.on .n),(13,.on .n),(17,.on .n),(18,.on .n)] [29,30,34,35] [] [(29,.slice A0_ o.length c1_),(30,A.i k),(34,.slice A2_ p.length c3_),(35,A.i k)] trivial ?_;have⟨L,V,h⟩:=Vw h;refine Vo 0 110 V fun ap=>?_;intro aq ar au av ac;refine V8 J4 l6f [0,1,106,107,108,109,110,111] 14 (A.mb 38 425983) (dj:=28) rfl (fun a w hf hh=>Vj (t:=T57) V ac hf) ?_;refine A.AH.qF hT6 J4 [0,1,106,107,108,109,110,111] [0,1,106,107,108,109,110,111] [] [110] 425983 524287 19 [(15,.on .n),(16,.on (.e 0 2))] [33] [] [(33,(A.rae L.2.1))] trivial ?_;have⟨N,W,h⟩:=Vw h;refine Vo 1 112 W fun aw=>?_;intro ax ay az b0 ad;refine V8 J4 [0,1,106,107,108,109,110,111] l6b 19 (A.mb 38 1048575) (dj:=28) rfl (fun a w hf hh=>Vj (t:=T57) W ad hf) ?_;refine A.AH.qF hT6 J4 [0,1,106,107,108,109,110,111,112,113] [0,1,106,107,108,109,110,111,112,113] [] [112] 1048575 4194303 16 [(20,.on .n),(21,.on (.e 0 2))] [38] [] [(38,(A.rae N.2.1))] trivial ?_;refine V8 J4 l6b l6b 22 (A.mb 38 8388607) (dj:=28) rfl (fun a w hf hh=>eqagg_neq40 (x:=L.2.1) (y:=N.2.1) (hf.eval rfl) (hf.eval rfl)) ?_;refine A.AH.qF hT6 J4 [0,1,106,107,108,109,110,111,112,113] [0,1,106,107,108,109,110,111,112,113] [] [] 8388607 33554431 13 [(23,.n),(24,.n)] [41] [] [(41,.bool (decide (L.2.1≠N.2.1)))] trivial ?_;refine Ug (j:=41) rfl h ?_ ?_<;>intro s h
   ·refine A.AH.qF hT6 J4 [0,1,106,107,108,109,110,111,112,113] [0,1,106,107,108,109,110,111,112,113] [] [] 33554431 274877906943 0 [(25,.off),(26,.off),(30,.off),(31,.off),(27,.off),(32,.off),(28,.off),(33,.off),(29,.off),(34,.off),(35,.off),(36,.off),(37,.n)] [54] [] [(54,.bool true)] trivial ?_;refine A.AH.doneF hT6 ?_;exact Vk ⟨true,rfl,rfl,h⟩
   refine A.AH.qF hT6 J4 [0,1,106,107,108,109,110,111,112,113] [0,1,106,107,108,109,110,111,112,113] [] [] 33554431 3355443199 9 [(25,.on .n),(26,.on .n),(30,.on .n),(31,.on .n)] [42,43,47,48] [] [(42,.slice A0_ o.length c1_),(43,A.i k),(47,.slice A2_ p.length c3_),(48,A.i k)] trivial ?_;have⟨X,Y,h⟩:=Vw h;refine Vo 0 114 Y fun b1=>?_;intro a2 a3 b2 b3 ae;refine V8 J4 l6b l6e 27 (A.mb 38 3489660927) (dj:=41) rfl (fun a w hf hh=>Vj (t:=T57) Y ae hf) ?_;refine A.AH.qF hT6 J4 [0,1,106,107,108,109,110,111,112,113,114,115] [0,1,106,107,108,109,110,111,112,113,114,115] [] [114] 3489660927 4294967295 6 [(28,.on .n),(29,.on (.e 0 4))] [46] [] [(46,.slice a2 X.2.2.length a3)] trivial ?_;have⟨a4,a5,h⟩:=Vw h;refine Vo 1 116 a5 fun b4=>?_;intro a6 a7 b5 b6 af;refine V8 J4 l6e [0,1,106,107,108,109,110,111,112,113,114,115,116,117] 32 (A.mb 38 8589934591) (dj:=41) rfl (fun a w hf hh=>Vj (t:=T57) a5 af hf) ?_;refine A.AH.qF hT6 J4 [0,1,106,107,108,109,110,111,112,113,114,115,116,117] [0,1,106,107,108,109,110,111,112,113,114,115,116,117] [] [116] 8589934591 34359738367 3 [(33,.on .n),(34,.on (.e 0 4))] [51] [] [(51,.slice a6 a4.2.2.length a7)] trivial ?_;refine A.AH.oneF hT6 35 ?_;refine Vm (dj:=41) rfl rfl ?_;refine Vt 118 [] h (o_aV a2 a6 a3 a7 X.2.2 a4.2.2) (.l 115 (.l 117 .nil)) ?_;rintro a8 - h _ _ ⟨rfl,rfl⟩;refine Vg ?_;refine A.AH.nxF 68719476735 [0,1,106,107,108,109,110,111,112,113,114,115,116,117] ?_;refine A.AH.qF hT6 J4 [0,1,106,107,108,109,110,111,112,113,114,115,116,117] [0,1,106,107,108,109,110,111,112,113,114,115,116,117] [] [] 68719476735 274877906943 0 [(36,.on .n),(37,.n)] [54] [] [(54,.bool (!a8))] trivial ?_;refine A.AH.doneF hT6 ?_;exact Vk ⟨(!a8),rfl,rfl,h⟩
  rintro _ _ ⟨E,rfl,rfl,h⟩;rw[F.dF]at h;refine Ui h ?_ ?_<;>intro s h
  ·refine Jw 1 ?_;refine J0 1 [(4,.bool false)] (Jy 1 ?_);obtain rfl:=Va h;exact Vc [] ⟨rfl,rfl⟩
  refine Jw 3 ?_;have⟨a9,h⟩:=Vr h;refine Ud 3 [Z.R64 (k+1)] [(5,A.i (k+1))] a9 (Jz ?_);exact Vk ⟨_,Qh _,⟨(k+1),rfl,rfl,(J3 a9),h⟩⟩
 refine Jw 3 ?_;refine J0 1 [(4,.bool true)] (Jy 1 ?_);obtain rfl:=Va h;exact Vc [] ⟨rfl,rfl⟩
def F.cn (a:D23)(k:Bool):Option Bool:=if k=true then((F.en).bind fun o=>(some o))else((F.a9 a).bind fun e=>((F.dl a).bind fun h=>((F.e5 e.1 h.1).bind fun p=>(some (bif p then decide (e.2=h.2)else false)))))
def F.cV (a:D23):Option Bool:=(F.en).bind fun e=>(if(!e)=true then(F.cn a true)else((F.fb a).bind fun h=>(F.cn a (!h))))
theorem o_aR(e:D23)(r:Bool)(a:F.cV e=some r):
    A.Ct Tryz.prog 3 [.agg #[.slice A0_ e.length c1_]] [(0,.sh (.slice T83) [.slice A0_ e.length c1_] e),(1,.el none 0 0 A.tabF),(2,.el none 1 0 A.tabA)] [] (fun v H'=>v=.bool r∧H'=[]):=by
 refine J1 Tryz.func3 rfl Tryz.ntmps3 rfl fun J L=>?_;rw[F.cV]at a;refine Jw 1 ?_;refine Vd 3 (cs:=[.slice A0_ e.length c1_]) fun N=>?_;refine J0 1 [] (Jy 2 ?_);refine J5 [1] [0,1,2,3] (fun y z=>∃(p:Bool),y=[(13,.bool p)]∧z=[]∧F.cn e p=some r) ?_ ?_
 ·refine Jw 0 ?_;refine Vt 4 [] a o_aJ (.s 1 (.s 2 .nil)) ?_;rintro B - a _ _ ⟨rfl,rfl⟩;refine Vg ?_;refine J0 2 [(9,.bool (!B))] ?_;refine Vx (j:=9) rfl a (fun a=>?_) (fun a=>?_)
  ·refine J2 [] [] [.off,.off,.off,.n] [(13,.bool true)] (Jz ?_);exact Vk ⟨true,rfl,rfl,a⟩
  refine J2 [3] [] [.on (.b 0 0)] [(10,.agg #[.slice A0_ e.length c1_])] ?_;refine Vm (dj:=9) rfl rfl ?_;refine Vt 44 [] a (o_bX A0_ c1_ e) (.s 0 .nil) ?_;rintro x - a _ _ ⟨rfl,rfl⟩;refine Vg ?_;refine J2 [] [] [.on .n,.n] [(13,.bool (!x))] (Jz ?_);exact Vk ⟨(!x),rfl,rfl,a⟩
 rintro _ _ ⟨p,rfl,rfl,a⟩;rw[F.cn]at a;refine Ui a ?_ ?_<;>intro O a
 ·refine Jw 1 ?_;refine Vt 84 [] a o_aJ (.s 1 (.s 2 .nil)) ?_;rintro E - a _ _ ⟨rfl,rfl⟩;refine Vg ?_;refine J0 1 [(2,.bool E)] (Jy 1 ?_);obtain rfl:=Va a;exact Vc [] ⟨rfl,rfl⟩
 refine Jw 3 ?_;refine J2 [3] [] [.b 0 0] [(16,.agg #[.slice A0_ e.length c1_])] ?_;refine Vt 124 [] a (o_aA A0_ c1_ e) (.s 0 (.s 1 (.s 2 .nil))) ?_;rintro h - a _ _ ⟨t,u,rfl,rfl,hr9⟩;refine Vg ?_;refine J0 5 [(3,.slice t h.1.length u),(4,A.i h.2)] (Vb 2 ?_);refine J2 [3] [] [.b 0 0] [(21,.agg #[.slice A0_ e.length c1_])] ?_;refine Vt 164 [] a (o_bJ A0_ c1_ e) (.s 0 .nil) ?_;rintro k - a _ _ ⟨w,c13,rfl,rfl,hr14⟩;refine Vg ?_;refine J0 5 [(5,.slice w k.1.length c13),(6,A.i k.2)] (Vb 2 ?_);refine J0 2 [(25,.slice t h.1.length u),(26,.slice w k.1.length c13)] ?_;refine Vt 204 [] a (o_bR t w u c13 h.1 k.1) (.o 124 (.o 164 .nil)) ?_;rintro I - a _ _ ⟨rfl,rfl⟩;refine Vg ?_;refine J2 [] [] [.n,.sy .n,.sy .n,.sy .n,.pk,.n] [(2,.bool (bif I then decide (h.2=k.2)else false))] (Jy 1 ?_);obtain rfl:=Va a;exact Vc [] ⟨rfl,rfl⟩
end Go.Proofs.YtlbnpmfggfbdoaaGreatDoor
end
section
namespace Go.Proofs.YtlbnpmfggfbdoaaGreatDoor
open Go.RowKit
def F.e8 (a:D62):Nat→Int→Option Int
 |0,_=>none
 |f+1,e=>if e<4 then((A.ix [a.2.2.1,a.2.2.2.1,a.2.2.2.2.1,a.2.2.2.2.2] e).bind fun h=>(if(bif decide (h<0)then true else decide ((1048576:Int)<h))=true then(some 10)else(if(bif decide (a.2.1≤e)then decide (h≠0)else false)=true then(some 10)else(A.gd (Z.R64 (e+1)) ((F.e8 a f) (e+1))))))else(some 0)
def F.ff (a:D62):Option Int:=if(bif bif bif decide (a.1<0)then true else decide ((1073741824:Int)<a.1)then true else decide (a.2.1<0)then true else decide ((4:Int)<a.2.1))=true then(some 10)else(F.e8 a A.FU 0)
def F.fd (a:D44)(e:D62)(h:Int)(k:Int)(o:Int)(p:Int):Option (D62×Int):=some ((e.1,a.2.1+a.2.2.2.1,(h,k,o,p)),0)
def F.fi (a:D44)(h:D62):Option (D62×Int):=(F.ax a).bind fun p=>(if(!p)=true then(some ((0,0,(0,0,0,0)),20))else((F.ff h).bind fun s=>(if s≠0 then((F.ff h).bind fun t=>(some ((0,0,(0,0,0,0)),t)))else(if h.2.1≠a.1 then(some ((0,0,(0,0,0,0)),11))else(A.gd (Z.R64 (a.2.1+a.2.2.2.1)) (A.gd (0≤a.2.1∧a.2.1≤4) (A.gd (0≤a.2.1∧a.2.1≤4) ((A.cp4 [0,0,0,0] [h.2.2.1,h.2.2.2.1,h.2.2.2.2.1,h.2.2.2.2.2] 0 a.2.1 a.2.1).bind fun o=>(A.gd (0≤a.2.1∧a.2.1≤4) (A.gd (0≤a.2.2.2.1∧a.2.2.2.1≤4) ((A.cp4 [o.1,o.2.1,o.2.2.1,o.2.2.2] [a.2.2.2.2.1,a.2.2.2.2.2.1,a.2.2.2.2.2.2.1,a.2.2.2.2.2.2.2] a.2.1 4 a.2.2.2.1).bind fun e=>(if(0:Int)<a.2.1 then(A.gd (Z.R64 (a.2.1-1)) ((A.ix [e.1,e.2.1,e.2.2.1,e.2.2.2] (a.2.1-1)).bind fun k=>(A.gd (Z.R64 (k+a.2.2.1)) ((A.ix [e.1,e.2.1,e.2.2.1,e.2.2.2] (a.2.1-1)).bind fun w=>(A.gd (Z.R64 (a.2.1-1)) ((A.ix [(if a.2.1-1=0 then k+a.2.2.1 else e.1),(if a.2.1-1=1 then k+a.2.2.1 else e.2.1),(if a.2.1-1=2 then k+a.2.2.1 else e.2.2.1),(if a.2.1-1=3 then k+a.2.2.1 else e.2.2.2)] (a.2.1-1)).bind fun u=>(if(1048576:Int)<u then(some ((0,0,(0,0,0,0)),12))else(F.fd a h (if a.2.1-1=0 then k+a.2.2.1 else e.1) (if a.2.1-1=1 then k+a.2.2.1 else e.2.1) (if a.2.1-1=2 then k+a.2.2.1 else e.2.2.1) (if a.2.1-1=3 then k+a.2.2.1 else e.2.2.2)))))))))else(F.fd a h e.1 e.2.1 e.2.2.1 e.2.2.2)))))))))))))
theorem eqq_summ_Apply:True:=(fun _=>trivial) @F.fi.eq_1
def F.eE (e:Int→Option Int)(a:Int)(h:Bool):Option Int:=if h=true then(some 10)else(A.gd (Z.R64 (a+1)) (e (a+1)))
def F.dZ (a:D62):Nat→Int→Option Int
 |0,_=>none
 |f+1,e=>if e<4 then((A.ix [a.2.2.1,a.2.2.2.1,a.2.2.2.2.1,a.2.2.2.2.2] e).bind fun h=>(if h<0 then(F.eE (F.dZ a f) e true)else((A.ix [a.2.2.1,a.2.2.2.1,a.2.2.2.2.1,a.2.2.2.2.2] e).bind fun k=>(if(1048576:Int)<k then(F.eE (F.dZ a f) e true)else(if a.2.1≤e then((A.ix [a.2.2.1,a.2.2.2.1,a.2.2.2.2.1,a.2.2.2.2.2] e).bind fun o=>(F.eE (F.dZ a f) e (decide (o≠0))))else(F.eE (F.dZ a f) e false))))))else(some 0)
def F.fg (a:D62):Option Int:=if(bif bif bif decide (a.1<0)then true else decide ((1073741824:Int)<a.1)then true else decide (a.2.1<0)then true else decide ((4:Int)<a.2.1))=true then(some 10)else(F.dZ a A.FU 0)
def F.eF (e:Int→Int→Int→Int→Int→Int→Int→Option (D62×Int))(h:Int)(k:Int)(a:Int)(o:Int)(p:Int)(s:Int)(t:Int):Option (D62×Int):=A.gd (Z.R64 (a+1)) (e h k o p s t (a+1))
def F.d0 (e:D44)(h:D62):Nat→Int→Int→Int→Int→Int→Int→Int→Option (D62×Int)
 |0,_,_,_,_,_,_,_=>none
 |f+1,t,u,k,o,p,s,a=>if a<4 then(A.gd (Z.R64 (e.2.1-1)) (if a<e.2.1-1 then((A.ix [h.2.2.1,h.2.2.2.1,h.2.2.2.2.1,h.2.2.2.2.2] a).bind fun x=>((A.ix [k,o,p,s] a).bind fun B=>(F.eF (F.d0 e h f) t u a (if a=0 then x else k) (if a=1 then x else o) (if a=2 then x else p) (if a=3 then x else s))))else(A.gd (Z.R64 (e.2.1-1)) (if a=e.2.1-1 then((A.ix [h.2.2.1,h.2.2.2.1,h.2.2.2.2.1,h.2.2.2.2.2] a).bind fun w=>(A.gd (Z.R64 (w+e.2.2.1)) ((A.ix [k,o,p,s] a).bind fun E=>(F.eF (F.d0 e h f) t u a (if a=0 then w+e.2.2.1 else k) (if a=1 then w+e.2.2.1 else o) (if a=2 then w+e.2.2.1 else p) (if a=3 then w+e.2.2.1 else s)))))else(A.gd (Z.R64 (e.2.1+e.2.2.2.1)) (if a<e.2.1+e.2.2.2.1 then(A.gd (Z.R64 (a-e.2.1)) ((A.ix [e.2.2.2.2.1,e.2.2.2.2.2.1,e.2.2.2.2.2.2.1,e.2.2.2.2.2.2.2] (a-e.2.1)).bind fun y=>((A.ix [k,o,p,s] a).bind fun I=>(F.eF (F.d0 e h f) t u a (if a=0 then y else k) (if a=1 then y else o) (if a=2 then y else p) (if a=3 then y else s)))))else((A.ix [k,o,p,s] a).bind fun J=>(F.eF (F.d0 e h f) t u a (if a=0 then 0 else k) (if a=1 then 0 else o) (if a=2 then 0 else p) (if a=3 then 0 else s)))))))))else((F.fg (t,u,(k,o,p,s))).bind fun z=>(if z≠0 then(some ((0,0,(0,0,0,0)),12))else(some ((t,u,(k,o,p,s)),0))))
def F.fj (a:D44)(e:D62):Option (D62×Int):=(F.z a).bind fun h=>(if h≠0 then(some ((0,0,(0,0,0,0)),h))else((F.fg e).bind fun k=>(if k≠0 then(some ((0,0,(0,0,0,0)),k))else(if e.2.1≠a.1 then(some ((0,0,(0,0,0,0)),11))else(A.gd (Z.R64 (a.2.1+a.2.2.2.1)) (F.d0 a e A.FU e.1 (a.2.1+a.2.2.2.1) 0 0 0 0 0))))))
theorem eqq_R02_Apply:True:=(fun _=>trivial) @F.fj.eq_1
end Go.Proofs.YtlbnpmfggfbdoaaGreatDoor
end
section
namespace Go.A
open Go.RowKit Go.Z
section
variable {r:Option Nat}{P:Program}{ops:Array Oper}{Q:Exit→Act→World→Prop}{C:Cx}{l:List (Nat×Value)}{H Hq:List (Nat×Res)}{m f:Nat}{li:List Bool}
end
end Go.A
end
section
namespace Go.Proofs.YtlbnpmfggfbdoaaGreatDoor
open Go.RowKit
end Go.Proofs.YtlbnpmfggfbdoaaGreatDoor
end
section
end
section
namespace Go.A
open Go.RowKit Go.Z Go.Shelf Go.Proofs Go.Lib
def Hall (W:World):List (Nat×Res)→Prop
 | []=>True
 |p::H=>(p.2.bl=[]∧p.2.ref=none∧p.2.holds W (fun _=>True) (fun _ _=>False))∧Hall W H
theorem Hall.at {W:World}: ∀{H:List (Nat×Res)} {k:Nat} {r:Res},Hall W H→hk H k=some r→r.bl=[]∧r.ref=none∧r.holds W (fun _=>True) (fun _ _=>False)
 | [],_,_,_,h=>by cases h
 |(d,u)::H,k,r,I,h=>by
  rw[Qaa]at h
  split at h
  ·injection h with h;subst h;exact I.1
  ·exact I.2.at h
theorem Hp.start {W:World}{H:List (Nat×Res)}(h:Hall W H):Hp ⟨0,[],W,[],fun _=>True⟩ H W:=by
 have I: ∀k b,¬Bk H k b:=fun k b ⟨r,Y,N⟩=>by rw[(h.at Y).1]at N;cases N
 refine⟨Ch.refl W,fun k r hk=>?_,fun k b J=>(I k b J).elim,fun k k' b J=>(I k b J).elim,fun k r j hk O=>?_⟩
 ·exact Res.to (S:=[]) (h.at hk).2.2 (Ch.refl W) (fun b _ _=>⟨by simp,fun k=>I k b,.inl trivial⟩) (fun b _ _=>⟨by simp,fun k=>I k b⟩) (fun i b _ hf=>hf.elim) (by simp)
 ·rw[(h.at hk).2.1]at O;cases O
theorem Hall.sh {W:World}{t:Ty}{cs:List Value}{x:t.den}{F:Nat→Prop}(h:t.rep W F cs x):(Res.sh t cs x).bl=[]∧(Res.sh t cs x).ref=none∧(Res.sh t cs x).holds W (fun _=>True) (fun _ _=>False):=
 ⟨rfl,rfl,Qct h fun _ _ _=>trivial⟩
def putCells (cs:List Value):Obj→Obj
 | .cells _ t frozen=>.cells cs.toArray t frozen
 |o=>o
theorem tab_cells {w:World}{O W:Nat}(h:Lib.Utf8Tabs O W w):Cells w ⟨O,0,none⟩ tabF∧Cells w ⟨W,0,none⟩ tabA:=by
 constructor
 ·intro j u I
  rw[Addr.add_lit,Wh]
  have N:j<256:=by have:=(Qc.1 I).1;simpa[tabF] using this
  have e:tabF[j]?=some (.int .u8 (firstT j)):=by simp[tabF,N]
  rw[e]at I;injection I with I;subst I
  exact h.1 j N
 ·intro j u I
  rw[Addr.add_lit,Wh]
  have N:j<32:=by have:=(Qc.1 I).1;simpa[tabA] using this
  have e:tabA[j]?=some (.int .u8 (if j%2=0 then accLo (j / 2)else accHi (j / 2))):=by simp[tabA,N]
  rw[e]at I;injection I with I;subst I
  have:=h.2 (j / 2) (by omega)
  by_cases Y:j%2=0
  ·rw[if_pos Y]
   have J:j=2*(j / 2):=by omega
   rw[J];simpa using this.1
  ·rw[if_neg Y]
   have J:j=2*(j / 2)+1:=by omega
   have h3:(2*(j / 2)+1) / 2=j / 2:=by omega
   rw[J,h3];exact this.2
theorem Hall.tabs {w:World}{I J i j:Nat}(h:Lib.Utf8Tabs I J w):Hall w [(i,.el none I 0 tabF),(j,.el none J 0 tabA)]:=by
 obtain⟨N,O⟩:=tab_cells h
 exact⟨⟨rfl,rfl,N,World.block_lt_of_cell? w _ (N 0 (.int .u8 (firstT 0)) (by simp[tabF])),fun _ h=>h⟩,⟨rfl,rfl,O,World.block_lt_of_cell? w _ (O 0 (.int .u8 (accLo 0)) (by simp[tabA])),fun _ h=>h⟩,trivial⟩
end Go.A
end
section
namespace Go.Graph
abbrev Fun:=Int×Int×ByteArray
abbrev Nd:=Int×Int×List Int×Fun×ByteArray×Int×Int
abbrev Pl:=Int×Int
abbrev Sp:=Pl×Int
abbrev id (x:Nd):Int:=x.1
abbrev kind (x:Nd):Int:=x.2.1
abbrev ins (x:Nd):List Int:=x.2.2.1
abbrev fn (x:Nd):Fun:=x.2.2.2.1
abbrev name (x:Nd):ByteArray:=x.2.2.2.2.1
abbrev cap (x:Nd):Int:=x.2.2.2.2.2.1
abbrev dep (x:Nd):Int:=x.2.2.2.2.2.2
def Few (g:List Nd):Prop:=g.length≤40∧∀x,x∈g→x.2.2.1.length≤5000∧x.2.2.2.2.1.size≤5000∧x.2.2.2.1.2.2.size≤5000
theorem Few.in {g:List Nd}{k:Nat}{x:Nd}(h:Few g)(I:g[k]?=some x):x.2.2.1.length≤5000:=(h.2 x (Qf I)).1
theorem dropc {α:Type}{xs:List α}{k:Nat}{x:α}(h:xs[k]?=some x):xs.drop k=x::xs.drop (k+1):=by
 obtain⟨I,J⟩:=Qc.1 h
 rw[Xz I,J]
def insK (k:Int):Int:=if k<1∨16<k then-1 else if k=1 then 0 else if k=5∨k=9 then 2 else 1
def Qau (c:UInt8):Bool:=decide ((97:Int)≤(c.toNat:Int)∧(c.toNat:Int)≤122∨(65:Int)≤(c.toNat:Int)∧(c.toNat:Int)≤90)
def Qfs (c:UInt8):Bool:=decide ((48:Int)≤(c.toNat:Int)∧(c.toNat:Int)≤57)
def Qco (l:List UInt8):Bool:=l.all fun c=>Qau c||Qfs c
def named (s:ByteArray):Bool:=decide (s≠ByteArray.mk #[])&&decide ((s.size:Int)≤16)&&Qau (Z.bat s 0)&&Qco s.data.toList
theorem Qgf {s:ByteArray}{i:Nat}(h:i<s.size):s.data.toList.drop i=Z.bat s i::s.data.toList.drop (i+1):=by
 have h':i<s.data.toList.length:=by simpa using h
 rw[Xz h']
 have I:i<s.data.size:=h
 congr 1
 simp[Z.bat,Wi I]
theorem Qfl {s:ByteArray}{i:Nat}(h: ¬i<s.size):s.data.toList.drop i=[]:=
 Q0 (by have I:s.data.toList.length=s.size:=rfl;omega)
theorem Qfu {s:ByteArray}(h:s≠ByteArray.mk #[]):0<s.size:=by
 rcases Nat.eq_zero_or_pos s.size with I|I
 ·have J:s.data=#[]:=Array.eq_empty_of_size_eq_zero I
  exact absurd (by cases s;simp_all) h
 ·exact I
def idxF (id:Int):Nat→List Nd→Int
 |_,[]=> -1
 |k,x::r=>if x.1=id then(k:Int)else idxF id (k+1) r
def idx (g:List Nd)(id:Int):Int:=idxF id 0 g
def Qcg (kd:Int)(s:ByteArray):List Nd→Int×Bool
 | []=>(0,false)
 |x::r=>if kind x=kd∧name x=s then(x.1,true)else Qcg kd s r
def z0:Nd:=(0,0,[],(0,0,ByteArray.mk #[]),ByteArray.mk #[],0,0)
def at_ (g:List Nd)(i:Int):Nd:=(g[i.toNat]?).getD z0
def find (g:List Nd)(id:Int):Nd×Bool:=if idx g id<0 then(z0,false)else(at_ g (idx g id),true)
theorem idxF_le (id:Int): ∀(k:Nat) (g:List Nd),-1≤idxF id k g∧idxF id k g<k+g.length
 |k,[]=>by simp[idxF];omega
 |k,x::r=>by
  unfold idxF
  have:=idxF_le id (k+1) r
  by_cases h:x.1=id
  ·rw[if_pos h];simp only[Qj];omega
  ·rw[if_neg h];simp only[Qj];omega
theorem idx_le (g:List Nd)(id:Int): -1≤idx g id∧idx g id<g.length:=by
 have:=idxF_le id 0 g
 unfold idx;omega
theorem Qav {g:List Nd}{i:Int}{x:Nd}{k:Nat}(hk:i=(k:Int))(h:g[k]?=some x):at_ g i=x:=by
 subst hk;simp[at_,h]
def ownT (g:List Nd)(n:Nd):Bool:=if n.2.1≠1∧n.2.1≠15 then decide (n.2.2.2.2.1=ByteArray.mk #[])else named n.2.2.2.2.1&&decide ((Qcg n.2.1 n.2.2.2.2.1 g).1=n.1)
def ownC (n:Nd):Prop:=n.2.1=14∧(n.2.2.2.2.2.1<1∨8<n.2.2.2.2.2.1∨n.2.2.2.2.2.2<1∨4<n.2.2.2.2.2.2)∨n.2.1≠14∧(n.2.2.2.2.2.1≠0∨n.2.2.2.2.2.2≠0)
instance (n:Nd):Decidable (ownC n):=by unfold ownC;infer_instance
def own (g:List Nd)(i:Int)(n:Nd):Bool:=
 if n.1<1∨255<n.1∨0<i∧n.1≤(at_ g (i-1)).1∨insK n.2.1<0∨(n.2.2.1.length:Int)≠insK n.2.1 then false else if ownC n then false else ownT g n
def bget (l:List Bool)(i:Int):Bool:=(l[i.toNat]?).getD false
def iget (l:List Int)(i:Int):Int:=(l[i.toNat]?).getD 0
def Fed (g:List Nd):Prop:=∀x,x∈g→∀k,k∈x.2.2.1→0≤idx g k
def Qdu (g:List Nd)(done:List Bool)(kd:Int):List Int→Bool
 | []=>true
 |k::r=>if kd≠14∧bget done (idx g k)=false then false else Qdu g done kd r
def ready (g:List Nd)(done:List Bool)(n:Nd):Bool:=Qdu g done n.2.1 n.2.2.1
def Qad (g:List Nd)(done:List Bool):Nat→List Nd→Int→Int
 |_,[],a=>a
 |i,x::r,a=>Qad g done (i+1) r (if(a<0∧bget done i=false)∧ready g done x=true then i else a)
def Qap (g:List Nd):Nat→List Bool→List Int→Option (List Int)
 |0,_,l=>some l
 |f+1,done,l=>if Qad g done 0 g (-1)<0 then none else Qap g f (done.set (Qad g done 0 g (-1)).toNat true) (l++[Qad g done 0 g (-1)])
def d0:List Int→Int
 | []=>0
 |a::_=>a
def capd (d:Int):Int:=if 4<d then-1 else d
def Qcv (n:Nd)(l:List Int):Int:=if n.2.1=14 then n.2.2.2.2.2.2 else if n.2.1=12 then d0 l+1 else if n.2.1=13 then d0 l-1 else
 if n.2.1=5∨n.2.1=9 then(if iget l 0≠iget l 1 then-1 else d0 l)else if n.2.1=11∨n.2.1=16∨n.2.1=15 then(if d0 l≠0 then-1 else d0 l)else d0 l
def depthOf (n:Nd)(l:List Int):Int:=capd (Qcv n l)
theorem Qif {l:List Int}:iget l 0=d0 l:=by cases l<;>rfl
theorem d0_nil {l:List Int}(h:l.length=0):0=d0 l:=by cases l with
 |nil=>rfl
 |cons a r=>simp at h
def Qal (g:List Nd):List Int→List Int→Option (List Int)
 | [],d=>some d
 |p::r,d=>if depthOf (at_ g p) ((at_ g p).2.2.1.map fun k=>iget d (idx g k))<0 then none else Qal g r (d.set p.toNat (depthOf (at_ g p) ((at_ g p).2.2.1.map fun k=>iget d (idx g k))))
def Qbd (g:List Nd)(d:List Int):List Nd→Bool
 | []=>true
 |x::r=>if x.2.1=14∧iget d (idx g (iget x.2.2.1 0))≠x.2.2.2.2.2.2 then false else Qbd g d r
theorem Qdi (g:List Nd)(done:List Bool): ∀(i:Nat) (l:List Nd) (a:Int),-1≤a→a<i+l.length→ -1≤Qad g done i l a∧Qad g done i l a<i+l.length
 |i,[],a,J,I=>by simp[Qad]at*;omega
 |i,x::r,a,J,I=>by
  unfold Qad
  simp only[Qj]at I ⊢
  have:=Qdi g done (i+1) r (if(a<0∧bget done i=false)∧ready g done x=true then i else a) (by split<;>omega) (by split<;>omega)
  omega
theorem firstF_x {g:List Nd}{done:List Bool}{k:Nat}{a:Int}{x:Nd}(I:g[k]?=some x):Qad g done k (g.drop k) a=Qad g done (k+1) (g.drop (k+1)) (if(a<0∧bget done k=false)∧ready g done x=true then k else a):=by
 rw[dropc I];simp only[Qad]
def depths (g:List Nd)(l:List Int):List Int×Bool:=match Qal g l (List.replicate g.length 0)with
 |some d=>if Qbd g d g then(d,true)else([],false)
 |none=>([],false)
abbrev inD (g:List Nd) (d:List Int) (l:List Int):List Int:=l.map fun k=>iget d (idx g k)
def InB (d:List Int):Prop:=∀i,0≤iget d i∧iget d i≤4
theorem InB.rep (n:Nat):InB (List.replicate n 0):=fun i=>by
 unfold iget;rw[Xb];split<;>simp
theorem Qet (n:Nd)(l:List Int):depthOf n l≤4:=by unfold depthOf capd;split<;>omega
theorem InB.set {d:List Int}(h:InB d)(p:Nat){v:Int}(I:0≤v)(J:v≤4):InB (d.set p v):=fun i=>by
 unfold iget;rw[Y9]
 have:=h i
 unfold iget at this
 split
 ·split<;>simp<;>omega
 ·exact this
theorem InB.d0 {d:List Int}(h:InB d)(g:List Nd)(l:List Int): -1≤Graph.d0 (inD g d l)∧Graph.d0 (inD g d l)≤4:=by
 cases l with
 |nil=>simp[Graph.d0]
 |cons k r=>have:=h (idx g k);simp only[inD,Q4,Graph.d0];omega
theorem inD_take {g:List Nd}{d l:List Int}{k:Nat}{x:Int}(h:l[k]?=some x):inD g d (l.take k)++[iget d (idx g x)]=inD g d (l.take (k+1)):=by
 have I:=(Qc.1 h)
 rw[Yk,h];simp[inD]
theorem depthsF_x {g:List Nd}{l d:List Int}{k:Nat}{p:Int}{n:Nd}(hp:l[k]?=some p)(I:at_ g p=n):Qal g (l.drop k) d=if depthOf n (inD g d n.2.2.1)<0 then none else Qal g (l.drop (k+1)) (d.set p.toNat (depthOf n (inD g d n.2.2.1))):=by
 rw[dropc hp];simp only[Qal,I,inD]
def insS (g:List Nd)(d:List Int)(id:Int):Nat→List Int→List Sp
 |_,[]=>[]
 |k,x::r=>((id,(k:Int)),iget d (idx g x))::insS g d id (k+1) r
def outS (n:Nd)(v:Int):List Sp:=if n.2.1≠15 then [((n.1,2),v)]else []
def spotsF (g:List Nd)(d:List Int):Nat→List Nd→List Sp
 |_,[]=>[]
 |i,n::r=>insS g d n.1 0 n.2.2.1++(outS n (iget d i)++spotsF g d (i+1) r)
def spots (g:List Nd)(d:List Int):List Sp:=spotsF g d 0 g
def atS (p:Pl):List Sp→Int
 | []=> -1
 |x::r=>if x.1=p then x.2 else atS p r
abbrev Sm:=Int×Int×Int×Int×(Int×Int×Int×Int)
def z8:Sm:=(0,0,0,0,(0,0,0,0))
def Qbk (d a b:Int)(s:Sm):Sm×Int:=if d<a∨b<d then(z8,11)else((d,s.2),0)
def idP (d:Int):Sm×Int:=Qbk d 0 4 (0,d,0,0,(0,0,0,0))
def Qaq (d:Int):Sm×Int:=Qbk d 0 3 (0,d,0,1,(0,0,0,0))
def Qas (d:Int):Sm×Int:=Qbk d 1 4 (0,d-1,0,0,(0,0,0,0))
def Qch (d:Int):Sm×Int:=Qbk d 1 4 (0,d,1,0,(0,0,0,0))
def Qaj (n:Nd)(d:Int):Sm:=if n.2.1=12 then(Qaq d).1 else if n.2.1=13 then(Qas d).1 else if n.2.1=14 then(Qch d).1 else(idP d).1
theorem Qie (s:ByteArray)(pos:Nat):1≤(Utf8.decode s pos).2:=by
 unfold Utf8.decode;simp only[];repeat' split
 all_goals first|exact Q1 1|(simp;done)|omega
def Qci (f:Fun):Bool:=if f.1=3∨f.1=13 then decide (0≤f.2.1∧f.2.1≤64)else if f.1=6∨f.1=11 then decide (1≤f.2.1∧f.2.1≤1048576)else decide (f.2.1=0)
def tail5 (c:UInt8):Bool:=decide (128≤(c.toNat:Int)∧(c.toNat:Int)≤191)
def second (s:ByteArray)(i:Nat):UInt8:=if i+1<s.size then Z.bat s (i+1)else 0
end Go.Graph
end
section
namespace Go.A
open Go.Z
theorem r64n {n:Nat}(h:n<4611686018427387904):R64 ((n:Int)+1):=⟨by omega,by omega⟩
theorem gd1 {α:Type}{p:Prop}[Decidable p](h:p)(x:Option α):gd p x=x:=if_pos h
theorem ixn {α:Type}{xs:List α}{k:Nat}{x:α}(h:xs[k]?=some x):ix xs (k:Int)=some x:=by rw[ix_nat];exact h
theorem ixg {α:Type}{xs:List α}{i:Int}{x:α}(I:0≤i)(h:xs[i.toNat]?=some x):ix xs i=some x:=by unfold ix;rw[if_neg (by omega)];exact h
theorem dropx {α:Type}{xs:List α}{k:Nat}{x:α}(h:xs[k]?=some x):xs.drop k=x::xs.drop (k+1):=by
 obtain⟨I,J⟩:=Qc.1 h
 rw[Xz I,J]
theorem ba {p q:Prop}[Decidable p][Decidable q]:(bif decide p then decide q else false)=decide (p∧q):=by by_cases h:p<;>simp[h]
theorem bo {p q:Prop}[Decidable p][Decidable q]:(bif decide p then true else decide q)=decide (p∨q):=by by_cases h:p<;>simp[h]
theorem bn {p:Prop}[Decidable p]:(!decide p)=decide (¬p):=by by_cases h:p<;>simp[h]
theorem lp {α σ ρ:Type}(xs:List α)(L:Nat→σ→Int→Option ρ)(G:Nat→List α→σ→Option ρ)(P:Nat→σ→Prop)
  (J: ∀f s,P xs.length s→L (f+1) s (xs.length:Int)=G xs.length [] s)
  (N: ∀f s (k:Nat) x,xs[k]?=some x→k<xs.length→P k s→(∀s',P (k+1) s'→L f s' ((k:Int)+1)=G (k+1) (xs.drop (k+1)) s')→L (f+1) s k=G k (x::xs.drop (k+1)) s)
  (O:xs.length<FU) (s:σ) (W:P 0 s):L FU s 0=G 0 xs s:=by
 have main: ∀(n k f:Nat) (s:σ),k+n=xs.length→n<f→P k s→L f s (k:Int)=G k (xs.drop k) s:=by
  intro n
  induction n with
  |zero=>
   intro k f s hk Y hp
   obtain⟨f,rfl⟩: ∃f',f=f'+1:=⟨f-1,by omega⟩
   obtain rfl:k=xs.length:=by omega
   rw[Q0 (Q1 _)];exact J f s hp
  |succ n ih=>
   intro k f s hk Y hp
   obtain⟨f,rfl⟩: ∃f',f=f'+1:=⟨f-1,by omega⟩
   have I:xs[k]?=some xs[k]:=Qd (by omega)
   rw[dropx I]
   exact N f s k _ I (by omega) hp fun s' hp'=>ih (k+1) f s' (by omega) (by omega) hp'
 have:=main xs.length 0 FU s (by omega) O W
 simpa using this
theorem lp0 {α ρ:Type}(xs:List α)(L:Nat→Int→Option ρ)(G:Nat→List α→Option ρ)
  (I: ∀f,L (f+1) (xs.length:Int)=G xs.length [])
  (J: ∀f (k:Nat) x,xs[k]?=some x→k<xs.length→L f ((k:Int)+1)=G (k+1) (xs.drop (k+1))→L (f+1) k=G k (x::xs.drop (k+1)))
  (N:xs.length<FU):L FU 0=G 0 xs:=
 lp xs (fun f (_:Unit) y=>L f y) (fun k l _=>G k l) (fun _ _=>True) (fun f s _=>I f) (fun f s k x O hk _ W=>J f k x O hk (W () trivial)) N () trivial
end Go.A
namespace Go.Proofs.YtlbnpmfggfbdoaaGreatDoor
open Go.RowKit Go.Graph
theorem Qab:(18446744073709551616:Nat)<A.FU:=by decide
theorem ixb {s:ByteArray}{k:Nat}(h:k<s.size):A.ix s.data.toList (k:Int)=some (Z.bat s k):=by
 refine A.ixn ?_
 have:=Qgf h
 rw[←List.head?_drop,this];rfl
theorem Qei (s:ByteArray):s.data.toList.length=s.size:=rfl
end Go.Proofs.YtlbnpmfggfbdoaaGreatDoor
end
section
namespace Go.Proofs.YtlbnpmfggfbdoaaGreatDoor
open Go.RowKit Go.Graph
abbrev Tm:=Int×Int×(Int×Int×Int×Int)
def pus (s:Sm):List Int:=[s.2.2.2.2.1,s.2.2.2.2.2.1,s.2.2.2.2.2.2.1,s.2.2.2.2.2.2.2]
structure OkS (s:Sm):Prop where
 f:0≤s.1∧s.1≤4
 n:0≤s.2.2.2.1∧s.2.2.2.1≤4
 k:0≤s.2.1∧s.2.1≤s.1
 kn:s.2.1+s.2.2.2.1≤4
 a:0≤s.2.2.1∧s.2.2.1≤1048576
 k0:s.2.1=0→s.2.2.1=0
 p: ∀(i:Nat) (x:Int),(pus s)[i]?=some x→0≤x∧x≤1048576∧(s.2.2.2.1≤(i:Int)→x=0)
theorem ix4 {a b c d i:Int}(h:0≤i∧i<4): ∃x,A.ix [a,b,c,d] i=some x∧[a,b,c,d][i.toNat]?=some x:=by
 have:i=0∨i=1∨i=2∨i=3:=by omega
 rcases this with rfl|rfl|rfl|rfl
 ·exact⟨a,rfl,rfl⟩
 ·exact⟨b,rfl,rfl⟩
 ·exact⟨c,rfl,rfl⟩
 ·exact⟨d,rfl,rfl⟩
def pok (n:Int):Nat→List Int→Bool
 |_,[]=>true
 |k,x::r=>decide (0≤x∧x≤1048576∧(n≤(k:Int)→x=0))&&pok n (k+1) r
theorem Qdr (n:Int): ∀(k:Nat) (l:List Int),pok n k l=true↔∀(i:Nat) (x:Int),l[i]?=some x→0≤x∧x≤1048576∧(n≤((k+i:Nat):Int)→x=0)
 |_,[]=>by simp[pok]
 |k,y::r=>by
  rw[pok,Qm,decide_eq_true_iff,Qdr n (k+1) r]
  constructor
  ·intro ⟨J,N⟩ i x I
   cases i with
   |zero=>simp at I;subst I;exact J
   |succ i=>
    have:=N i x (by simpa using I)
    rw[show k+1+i=k+(i+1) by omega]at this;exact this
  ·intro h
   refine⟨h 0 y rfl,fun i x I=>?_⟩
   have:=h (i+1) x (by simpa using I)
   rw[show k+1+i=k+(i+1) by omega];exact this
theorem Check_l2 (a:Sm):F.a1 a A.FU 0=some (if pok a.2.2.2.1 0 (pus a)=true then 0 else 20):=
 A.lp0 (pus a) (fun f z=>F.a1 a f z) (fun k l=>some (if pok a.2.2.2.1 k l=true then 0 else 20))
  (fun f=>by rw[F.a1,if_neg (by show ¬((4:Nat):Int)<4;omega)];rfl)
  (fun f k x Y hk N=>by
   have hk4:k<4:=hk
   rw[F.a1,if_pos (by omega),show A.ix [a.2.2.2.2.1,a.2.2.2.2.2.1,a.2.2.2.2.2.2.1,a.2.2.2.2.2.2.2] (k:Int)=some x from A.ixn Y]
   simp only[Qa,F.cE]
   rw[pok]
   by_cases O:x<0
   ·rw[if_pos O,if_pos trivial,if_neg (by simp;intro;omega)]
   rw[if_neg O]
   by_cases W:(1048576:Int)<x
   ·rw[if_pos W,if_pos trivial,if_neg (by simp;intro;omega)]
   rw[if_neg W]
   by_cases I:a.2.2.2.1≤(k:Int)
   ·rw[if_pos I]
    by_cases J:x=0
    ·rw[if_neg (by simp[J]),A.gd1 (A.r64n (by omega)),N]
     rw[decide_eq_true (by omega:0≤x∧x≤1048576∧(a.2.2.2.1≤(k:Int)→x=0)),Xn]
    ·rw[if_pos (by simp[J]),if_neg (by simp only[Qm,decide_eq_true_eq];intro ⟨⟨_,_,h⟩,_⟩;exact J (h I))]
   ·rw[if_neg I,if_neg (by simp),A.gd1 (A.r64n (by omega)),N]
    rw[decide_eq_true (by omega:0≤x∧x≤1048576∧(a.2.2.2.1≤(k:Int)→x=0)),Xn])
  (by show 4<A.FU;decide)
theorem Qdt (s:Sm):(F.z s=some 0∧OkS s)∨(F.z s=some 20∧¬OkS s):=by
 unfold F.z
 simp only[A.bo]
 rw[A.gd1 (fun h=>by have:=of_decide_eq_false h;exact⟨by omega,by omega⟩)]
 split
 ·rename_i h
  have h:=of_decide_eq_true h
  exact .inr ⟨rfl,fun o=>by have:=o.f;have:=o.n;have:=o.k;have:=o.kn;have:=o.a;omega⟩
 ·rename_i h
  have O:=of_decide_eq_false (Ym.2 h)
  split
  ·rename_i I
   simp only[A.ba,decide_eq_true_eq]at I
   exact .inr ⟨rfl,fun o=>I.2 (o.k0 I.1)⟩
  ·rename_i I
   simp only[A.ba,decide_eq_true_eq]at I
   rw[Check_l2]
   by_cases hp:pok s.2.2.2.1 0 (pus s)=true
   ·rw[if_pos hp]
    refine .inl ⟨rfl,⟨by omega,by omega,by omega,by omega,by omega,fun h=>Wc fun N=>I ⟨h,N⟩,fun i x J=>?_⟩⟩
    have:=(Qdr _ 0 _).1 hp i x J
    rw[Wh]at this;exact this
   ·rw[if_neg hp]
    refine .inr ⟨rfl,fun o=>hp ((Qdr _ 0 _).2 fun i x J=>?_)⟩
    rw[Wh];exact o.p i x J
theorem o_e {s:Sm}(h:OkS s):F.z s=some 0:=(Qdt s).elim (fun h=>h.1) fun I=>absurd h I.2
structure Th (a b s:Sm):Prop where
 from_:s.1=a.1
 keep:s.2.1=min a.2.1 b.2.1
 add:s.2.2.1=(if a.2.1≤b.2.1 then a.2.2.1 else 0)+(if b.2.1≤a.2.1 then b.2.2.1 else 0)
 ends:s.2.1+s.2.2.2.1=b.2.1+b.2.2.2.1
end Go.Proofs.YtlbnpmfggfbdoaaGreatDoor
end
section
namespace Go.A
theorem fst {α:Type}(l:List α)(p:α→Bool)(L:Nat→Int→Option Int)(O: ∀f,L (f+1) (l.length:Int)=some (-1))
  (W: ∀f (k:Nat) x,l[k]?=some x→k<l.length→L (f+1) (k:Int)=if p x=true then some (k:Int)else L f ((k:Int)+1)) (Y:l.length<FU):
  (L FU 0=some (-1)∧∀x∈l,p x=false)∨∃(k:Nat) (x:α),l[k]?=some x∧L FU 0=some (k:Int)∧p x=true∧∀y∈l.take k,p y=false:=by
 have main: ∀(n k f:Nat),k+n=l.length→n<f→(∀y∈l.take k,p y=false)→(L f (k:Int)=some (-1)∧∀x∈l,p x=false)∨∃(i:Nat) (x:α),l[i]?=some x∧L f (k:Int)=some (i:Int)∧p x=true∧∀y∈l.take i,p y=false:=by
  intro n
  induction n with
  |zero=>
   intro k f hk hf hp
   obtain⟨f,rfl⟩: ∃f',f=f'+1:=⟨f-1,by omega⟩
   obtain rfl:k=l.length:=by omega
   rw[W8 (Q1 _)]at hp
   exact .inl ⟨O f,hp⟩
  |succ n ih=>
   intro k f hk hf hp
   obtain⟨f,rfl⟩: ∃f',f=f'+1:=⟨f-1,by omega⟩
   have I:l[k]?=some l[k]:=Qd (by omega)
   rw[W f k _ I (by omega)]
   cases J:p l[k]with
   |true=>rw[if_pos rfl];exact .inr ⟨k,_,I,rfl,J,hp⟩
   |false=>
    rw[if_neg Wo]
    refine ih (k+1) f (by omega) (by omega) fun y N=>?_
    rw[Yk,I]at N
    rcases Qn.1 N with h|h
    ·exact hp y h
    ·rw[Option.toList_some,Qi]at h;rw[h];exact J
 exact main l.length 0 FU (by omega) Y (by simp)
theorem eql {α:Type}[DecidableEq α](a b:List α)(L:Nat→Int→Option Bool)(hlen:a.length=b.length)(J: ∀f,L (f+1) (a.length:Int)=some true)
  (N: ∀f (k:Nat) x z,a[k]?=some x→b[k]?=some z→k<a.length→L (f+1) k=if x=z then L f ((k:Int)+1)else some false) (O:a.length<FU):L FU 0=some (decide (a=b)):=by
 have:=lp0 a L (fun k l=>some (decide (l=b.drop k)))
  (fun f=>by rw[J,hlen,Q0 (Q1 _)];rfl)
  (fun f k x W hk Y=>by
   have I:b[k]?=some b[k]:=Qd (by omega)
   rw[N f k x _ W I hk,Y,dropx I]
   by_cases h:x=b[k]
   ·rw[if_pos h];congr 1;exact decide_eq_decide.2 ⟨fun e=>by rw[h,e],fun e=>(List.cons.inj e).2⟩
   ·rw[if_neg h];congr 1;exact(decide_eq_false (fun e=>h (List.cons.inj e).1)).symm)
  O
 rw[Q7]at this;exact this
end Go.A
namespace Go.Proofs.YtlbnpmfggfbdoaaGreatDoor
open Go.RowKit Go.Graph
theorem may_l2 (a:Sm):F.cy a A.FU 0=some (pok a.2.2.2.1 0 (pus a)):=
 A.lp0 (pus a) (fun f z=>F.cy a f z) (fun k l=>some (pok a.2.2.2.1 k l))
  (fun f=>by rw[F.cy,if_neg (by show ¬((4:Nat):Int)<4;omega)];rfl)
  (fun f k x N hk O=>by
   have W:k<4:=hk
   rw[F.cy,if_pos (by omega),show A.ix [a.2.2.2.2.1,a.2.2.2.2.2.1,a.2.2.2.2.2.2.1,a.2.2.2.2.2.2.2] (k:Int)=some x from A.ixn N]
   simp only[Qa,F.dz,A.ba]
   rw[pok,A.gd1 (A.r64n (by omega)),O]
   by_cases I:0≤x∧x≤1048576
   ·rw[decide_eq_true I,if_neg (by decide)]
    by_cases J:a.2.2.2.1≤(k:Int)∧x≠0
    ·rw[if_pos (decide_eq_true J),decide_eq_false (fun h=>J.2 (h.2.2 J.1)),Y1]
    ·rw[if_neg (by rw[decide_eq_true_iff];exact J),decide_eq_true (p:=0≤x∧x≤1048576∧(a.2.2.2.1≤(k:Int)→x=0)) ⟨I.1,I.2,fun h=>Wc fun Y=>J ⟨h,Y⟩⟩,Xn]
   ·rw[decide_eq_false I,if_pos (by decide),decide_eq_false (fun h=>I ⟨h.1,h.2.1⟩),Y1])
  (by show 4<A.FU;decide)
theorem may_cases (s:Sm):(F.ax s=some true∧OkS s)∨(F.ax s=some false∧¬OkS s):=by
 unfold F.ax F.cx
 simp only[A.bo,A.ba,F.dz,Qa]
 split
 ·rename_i h
  have h:=of_decide_eq_true h
  exact .inr ⟨rfl,fun o=>by have:=o.f;omega⟩
 rename_i W
 have W:=of_decide_eq_false (Ym.2 W)
 split
 ·rename_i h
  have h:=of_decide_eq_true h
  exact .inr ⟨rfl,fun o=>by have:=o.n;omega⟩
 rename_i Y
 have Y:=of_decide_eq_false (Ym.2 Y)
 rw[A.gd1 (fun h=>by have:=of_decide_eq_false h;exact⟨by omega,by omega⟩)]
 split
 ·rename_i h
  have h:=of_decide_eq_true h
  exact .inr ⟨rfl,fun o=>by have:=o.k;have:=o.kn;omega⟩
 rename_i I
 have I:=of_decide_eq_false (Ym.2 I)
 by_cases J:0≤s.2.2.1∧s.2.2.1≤1048576
 case neg=>rw[decide_eq_false J,if_pos (by decide)];exact .inr ⟨rfl,fun o=>J o.a⟩
 rw[decide_eq_true J,if_neg (by decide)]
 split
 ·rename_i h
  have h:=of_decide_eq_true h
  exact .inr ⟨rfl,fun o=>h.2 (o.k0 h.1)⟩
 rename_i N
 have N:=of_decide_eq_false (Ym.2 N)
 rw[may_l2]
 cases hp:pok s.2.2.2.1 0 (pus s)with
 |true=>
  refine .inl ⟨rfl,⟨by omega,by omega,by omega,by omega,J,fun h=>Wc fun I=>N ⟨h,I⟩,fun i x O=>?_⟩⟩
  have:=(Qdr _ 0 _).1 hp i x O
  rw[Wh]at this;exact this
 |false=>
  refine .inr ⟨rfl,fun o=>?_⟩
  have:pok s.2.2.2.1 0 (pus s)=true:=(Qdr _ 0 _).2 fun i x O=>by rw[Wh];exact o.p i x O
  rw[hp]at this;cases this
theorem o_r {s:Sm}(h:OkS s):F.ax s=some true:=(may_cases s).elim (fun h=>h.1) fun I=>absurd h I.2
theorem Check_no {s:Sm}(h: ¬OkS s):F.z s=some 20:=(Qdt s).elim (fun I=>absurd I.2 h) fun h=>h.1
def okT (t:Tm):Prop:=0≤t.1∧t.1≤1073741824∧0≤t.2.1∧t.2.1≤4∧(0≤t.2.2.1∧t.2.2.1≤1048576∧(t.2.1≤0→t.2.2.1=0))∧(0≤t.2.2.2.1∧t.2.2.2.1≤1048576∧(t.2.1≤1→t.2.2.2.1=0))∧(0≤t.2.2.2.2.1∧t.2.2.2.2.1≤1048576∧(t.2.1≤2→t.2.2.2.2.1=0))∧(0≤t.2.2.2.2.2∧t.2.2.2.2.2≤1048576∧(t.2.1≤3→t.2.2.2.2.2=0))
structure ApOk (s:Sm) (t:Tm):Prop where
 ex: ∃(w:Tm) (v:Int),F.fi s t=(if(1048576:Int)<v then some ((0,0,(0,0,0,0)),12)else some (w,0))∧F.fj s t=((F.fg w).bind fun r=>if r≠0 then some ((0,0,(0,0,0,0)),12)else some (w,0))∧(okT w↔¬(1048576:Int)<v)
end Go.Proofs.YtlbnpmfggfbdoaaGreatDoor
end
section
namespace Go.Proofs.YtlbnpmfggfbdoaaGreatDoor
open Go.RowKit Go.Graph
theorem Ins_eq (k:Int):F.ej k=F.d8 k:=rfl
theorem Qfd (k:Int):F.d8 k=some (insK k):=by
 unfold F.d8 insK
 simp only[Bool.cond_decide]
 by_cases J:k<1<;>by_cases N:16<k<;>simp[J,N]
 by_cases I:k=1
 ·simp[I]
 ·by_cases O:k=5<;>by_cases W:k=9<;>simp[I,O,W]
theorem Qhx (c:UInt8):F.d9 c=some (Qau c):=by
 unfold F.d9 Qau
 by_cases I:(97:Int)≤(c.toNat:Int)<;>by_cases J:(c.toNat:Int)≤122<;>simp[I,J]
theorem digit_eq (c:UInt8):F.eT c=some (Qfs c):=by
 unfold F.eT Qfs
 by_cases I:(48:Int)≤(c.toNat:Int)<;>by_cases J:(c.toNat:Int)≤57<;>simp[I,J]
theorem name_eq (s:ByteArray)(hs:s.size≤5000):F.e1 s=some (named s):=by
 have loop:F.bN s A.FU 0=some (Qco s.data.toList):=A.lp0 s.data.toList (fun f y=>F.bN s f y) (fun _ l=>some (Qco l))
  (fun f=>by rw[F.bN,if_neg (by rw[Qei];omega)];rfl)
  (fun f k x N hk O=>by
   have hk':k<s.size:=hk
   rw[F.bN,if_pos (by omega),A.ixn N,Qa,Qhx,Qa]
   cases J:Qau x with
   |true=>
    simp only[Xw,Qy,if_false,F.dC]
    rw[A.gd1 (A.r64n (by omega)),O];simp[Qco,J]
   |false=>
    simp only[Yt,if_true,A.ixn N,Qa,digit_eq,F.dC]
    cases W:Qfs x with
    |true=>simp only[Xw,Qy,if_false];rw[A.gd1 (A.r64n (by omega)),O];simp[Qco,J,W]
    |false=>simp[Qco,J,W])
  (by rw[Qei];have:=Qab;omega)
 unfold F.e1 named
 by_cases I:s=ByteArray.mk #[]
 ·simp[I,F.cY]
 ·by_cases Y:(16:Int)<(s.size:Int)
  ·have h2': ¬(s.size:Int)≤16:=by omega
   simp[I,Y,h2',F.cY]
  ·have h2':(s.size:Int)≤16:=by omega
   have h0:=Qfu I
   have e0:A.ix s.data.toList 0=some (Z.bat s 0):=ixb h0
   simp only[I,Y,h2',decide_false,cond_false,Qy,if_false,e0,Qa,Qhx,F.cY,loop,decide_true,ne_eq,not_false_eq_true,Y7,Xn]
   cases Qau (Z.bat s 0)<;>simp
theorem Qgm (s:ByteArray)(i:Nat):(s.get! i)=Z.bat s i:=by
 cases s;simp[ByteArray.get!,Z.bat,getElem!_def,Option.getD]
 rfl
theorem dec_at (s:ByteArray)(i:Nat):Utf8.decode s i=Lib.decodeN (s.size-i) (Z.bat s i).toNat (Z.bat s (i+1)).toNat (Z.bat s (i+2)).toNat (Z.bat s (i+3)).toNat:=by
 rw[Lib.decode_at,Qgm,Qgm,Qgm,Qgm]
theorem dec_lt {s:ByteArray}{i:Nat}(h:(Z.bat s i).toNat <128):Utf8.decode s i=((Z.bat s i).toNat,1):=by
 rw[dec_at];unfold Lib.decodeN;rw[if_pos h]
theorem dec_ge {s:ByteArray}{i:Nat}(h:128≤(Z.bat s i).toNat):128≤(Utf8.decode s i).1:=by
 rw[dec_at];unfold Lib.decodeN;rw[if_neg (by omega)]
 repeat' split
 all_goals first|(simp only[];omega)|decide
theorem named_eq (s:ByteArray)(hs:s.size≤9223372036854775807):F.ct s=some (named s):=by
 have loop: ∀(n p f:Nat),s.size-p≤n→n<f→F.a6 s f p=some ((if p=0∧0<s.size then Qau (Z.bat s 0)else true)&&Qco (s.data.toList.drop p)&&(decide (s≠ByteArray.mk #[])&&decide ((s.size:Int)≤16))):=by
  intro n
  induction n with
  |zero=>
   intro p f hp hf
   obtain⟨f,rfl⟩: ∃f',f=f'+1:=⟨f-1,by omega⟩
   rw[F.a6,if_neg (by omega),Qfl (by omega),if_neg (by omega)]
   by_cases I:s=ByteArray.mk #[]<;>simp[I,Qco]
  |succ n ih=>
   intro p f hp hf
   obtain⟨f,rfl⟩: ∃f',f=f'+1:=⟨f-1,by omega⟩
   by_cases J:p<s.size
   ·rw[F.a6,if_pos J,Qgf J]
    rcases Y2 (Z.bat s p).toNat 128 with hc|hc
    ·rw[dec_lt hc]
     have W:=ih (p+1) f (by omega) (by omega)
     rw[if_neg (fun h=>by omega)]at W
     simp only[W]
     have e1:(bif decide ((97:Int)≤((Z.bat s p).toNat:Int))then decide (((Z.bat s p).toNat:Int)≤122)else false)=decide ((97:Int)≤((Z.bat s p).toNat:Int)∧((Z.bat s p).toNat:Int)≤122):=by by_cases h:(97:Int)≤((Z.bat s p).toNat:Int)<;>simp[h]
     have e2:(bif decide ((65:Int)≤((Z.bat s p).toNat:Int))then decide (((Z.bat s p).toNat:Int)≤90)else false)=decide ((65:Int)≤((Z.bat s p).toNat:Int)∧((Z.bat s p).toNat:Int)≤90):=by by_cases h:(65:Int)≤((Z.bat s p).toNat:Int)<;>simp[h]
     rw[e1,e2]
     by_cases N:Qau (Z.bat s p)=true
     ·have hL':=N
      simp only[Qau,decide_eq_true_eq]at hL'
      have e3:(if p=0∧0<s.size then Qau (Z.bat s 0)else true)=true:=by split;rename_i h;rw[←h.1];exact N;rfl
      rw[e3]
      simp only[Qco,Xx,N,Bool.true_or,Xn]
      by_cases I:(97:Int)≤((Z.bat s p).toNat:Int)∧((Z.bat s p).toNat:Int)≤122
      ·simp[I]
      ·have h2:=hL'.resolve_left I
       simp[I,h2]
     ·have hL':=N
      simp only[Qau,decide_eq_true_eq,not_or]at hL'
      rw[Bool.not_eq_true]at N
      simp only[hL'.1,hL'.2,decide_false,Qy,if_false,Yt,if_true]
      simp only[Qco,Xx,N,Xv]
      by_cases Y:p=0
      ·subst Y;simp[J,N]
      ·have h0': ¬(p:Int)=0:=by omega
       simp only[Y,h0',decide_false,cond_false,false_and,if_false,Xn]
       by_cases O:Qfs (Z.bat s p)=true
       ·have hd':=O
        simp only[Qfs,decide_eq_true_eq]at hd'
        have a1: ¬((Z.bat s p).toNat:Int)<48:=by omega
        have a2: ¬(57:Int)<((Z.bat s p).toNat:Int):=by omega
        simp[a1,a2,O]
       ·have hd':=O
        simp only[Qfs,decide_eq_true_eq]at hd'
        rw[Bool.not_eq_true]at O
        by_cases a1:((Z.bat s p).toNat:Int)<48
        ·simp[a1,O]
        ·have a2:(57:Int)<((Z.bat s p).toNat:Int):=by omega
         simp[a1,a2,O]
    ·have O:=dec_ge hc
     have N:Qau (Z.bat s p)=false:=by unfold Qau;rw[decide_eq_false_iff_not];omega
     have hD:Qfs (Z.bat s p)=false:=by unfold Qfs;rw[decide_eq_false_iff_not];omega
     have b1: ¬((Utf8.decode s p).1:Int)≤122:=by omega
     have b2: ¬((Utf8.decode s p).1:Int)≤90:=by omega
     have b3:(57:Int)<((Utf8.decode s p).1:Int):=by omega
     have b4: ¬((Utf8.decode s p).1:Int)<48:=by omega
     simp[b1,b2,b3,b4,Qco,N,hD]
   ·rw[F.a6,if_neg J,Qfl J,if_neg (by omega)]
    by_cases I:s=ByteArray.mk #[]<;>simp[I,Qco]
 unfold F.ct
 rw[loop s.size 0 A.FU (by omega) (by have:=Qab;omega)]
 unfold named
 by_cases I:s=ByteArray.mk #[]
 ·simp[I]
 ·have Y:=Qfu I
  simp only[Y,and_self,if_true,Q7,ne_eq,I,not_false_eq_true,decide_true,Xn]
  congr 1
  cases Qau (Z.bat s 0)<;>cases Qco s.data.toList<;>simp
theorem tail_eq (c:UInt8):F.c0 c=some (tail5 c):=by
 unfold F.c0 tail5
 by_cases I:(128:Int)≤(c.toNat:Int)<;>by_cases J:(c.toNat:Int)≤191<;>simp[I,J]
theorem ixk (s:ByteArray)(p k:Nat):A.ix s.data.toList ((p:Int)+(k:Int))=if p+k<s.size then some (Z.bat s (p+k))else none:=by
 have e:(p:Int)+(k:Int)=((p+k:Nat):Int):=by omega
 rw[e]
 by_cases h:p+k<s.size
 ·rw[if_pos h];exact ixb h
 ·rw[if_neg h,A.ix_nat];exact Q5 (by rw[Qei];omega)
def wid (s:ByteArray)(p:Nat):Nat:=if Utf8.decode s p=(65533,1)then 0 else(Utf8.decode s p).2
theorem wid_le {s:ByteArray}{p:Nat}(h:p<s.size):p+wid s p≤s.size:=by
 unfold wid
 split
 ·omega
 ·rw[dec_at]
  unfold Lib.decodeN
  repeat' split
  all_goals simp only[]
  all_goals omega
def widN (n a b c d:Nat):Nat:=
 if a<128 then 1
 else if(194≤a∧a≤223)∧2≤n∧(128≤b∧b≤191)then 2
 else if(224≤a∧a≤239)∧3≤n∧(128≤b∧b≤191)∧(128≤c∧c≤191)∧¬(a=224∧b<160)∧¬(a=237∧159<b)then 3
 else if(240≤a∧a≤244)∧4≤n∧(128≤b∧b≤191)∧(128≤c∧c≤191)∧(128≤d∧d≤191)∧¬(a=240∧b<144)∧¬(a=244∧143<b)then 4
 else 0
theorem pq (c:Prop)[Decidable c](x w:Nat)(I:w≠1):(if(if c then(x,w)else(65533,1))=(65533,1)then 0 else(if c then(x,w)else(65533,1)).2)=if c then w else 0:=by
 by_cases h:c<;>simp[h,I]
theorem widN_eq (n a b c d:Nat)(W:a<256)(Y:b<256)(hc:c<256)(hd:d<256):(if Lib.decodeN n a b c d=(65533,1)then 0 else(Lib.decodeN n a b c d).2)=widN n a b c d:=by
 unfold Lib.decodeN widN
 by_cases I:a<128
 ·simp only[I,if_true,Jh];rw[if_neg (by omega)]
 ·simp only[I,if_false]
  by_cases J:a / 32=6∧1<n∧b / 64=2
  ·simp only[if_pos J]
   rw[pq _ _ _ (by decide)]
   repeat' split
   all_goals omega
  ·simp only[if_neg J]
   by_cases N:a / 16=14∧(1<n∧b / 64=2)∧2<n∧c / 64=2
   ·simp only[if_pos N]
    rw[pq _ _ _ (by decide)]
    repeat' split
    all_goals omega
   ·simp only[if_neg N]
    by_cases O:a / 8=30∧(1<n∧b / 64=2)∧(2<n∧c / 64=2)∧3<n∧d / 64=2
    ·simp only[if_pos O]
     rw[pq _ _ _ (by decide)]
     repeat' split
     all_goals omega
    ·simp only[if_neg O,if_true]
     repeat' split
     all_goals omega
theorem wid_N (s:ByteArray)(p:Nat):wid s p=widN (s.size-p) (Z.bat s p).toNat (Z.bat s (p+1)).toNat (Z.bat s (p+2)).toNat (Z.bat s (p+3)).toNat:=by
 rw[←widN_eq _ _ _ _ _ (UInt8.toNat_lt _) (UInt8.toNat_lt _) (UInt8.toNat_lt _) (UInt8.toNat_lt _),←dec_at];rfl
theorem cnd {α:Type}{p:Prop}[Decidable p](x y:α):(bif decide p then x else y)=if p then x else y:=by by_cases h:p<;>simp[h]
set_option maxHeartbeats 4000000 in
theorem width_eq (s:ByteArray)(p:Nat)(hp:p<s.size)(hs:s.size≤5000):F.es s p=some (wid s p:Int):=by
 have i1:A.ix s.data.toList ((p:Int)+1)=if p+1<s.size then some (Z.bat s (p+1))else none:=ixk s p 1
 have i2:A.ix s.data.toList ((p:Int)+2)=if p+2<s.size then some (Z.bat s (p+2))else none:=ixk s p 2
 have i3:A.ix s.data.toList ((p:Int)+3)=if p+3<s.size then some (Z.bat s (p+3))else none:=ixk s p 3
 have r1:Z.R64 ((p:Int)+1):=⟨by omega,by omega⟩
 have r2:Z.R64 ((p:Int)+2):=⟨by omega,by omega⟩
 have r3:Z.R64 ((p:Int)+3):=⟨by omega,by omega⟩
 unfold F.es
 rw[A.gd1 ⟨by omega,by omega⟩,ixb hp,Qa,A.gd1 r1,i1,wid_N]
 generalize Z.bat s p=c0 at*
 generalize Z.bat s (p+1)=c1 at*
 generalize Z.bat s (p+2)=c2 at*
 generalize Z.bat s (p+3)=c3 at*
 have t (c:UInt8):tail5 c=decide (128≤c.toNat∧c.toNat≤191):=by unfold tail5;congr 1;exact propext ⟨fun h=>by omega,fun h=>by omega⟩
 by_cases h1:(1:Int)<(s.size:Int)-(p:Int)
 ·rw[if_pos h1,if_pos (by omega),Qa]
  simp only[F.db,F.da,F.cI,F.ck,tail_eq,Qa,t,A.gd1 r2,A.gd1 r3,i2,i3]
  unfold widN
  generalize hn:s.size-p=n
  have e2:((2:Int)≤(s.size:Int)-(p:Int))=(2≤n):=propext ⟨fun h=>by omega,fun h=>by omega⟩
  have e3:((3:Int)≤(s.size:Int)-(p:Int))=(3≤n):=propext ⟨fun h=>by omega,fun h=>by omega⟩
  have e4:((4:Int)≤(s.size:Int)-(p:Int))=(4≤n):=propext ⟨fun h=>by omega,fun h=>by omega⟩
  have f2:(p+2<s.size)=(3≤n):=propext ⟨fun h=>by omega,fun h=>by omega⟩
  have f3:(p+3<s.size)=(4≤n):=propext ⟨fun h=>by omega,fun h=>by omega⟩
  have hn2:2≤n:=by omega
  simp only[e2,e3,e4,f2,f3,A.ba,decide_eq_true_eq,hn2,and_true,true_and]
  have q0:((c0.toNat:Int)<128)=(c0.toNat<128):=propext ⟨fun h=>by omega,fun h=>by omega⟩
  have q1:((194:Int)≤(c0.toNat:Int)∧(c0.toNat:Int)≤223)=(194≤c0.toNat∧c0.toNat≤223):=propext ⟨fun h=>by omega,fun h=>by omega⟩
  have q2:((224:Int)≤(c0.toNat:Int)∧(c0.toNat:Int)≤239)=(224≤c0.toNat∧c0.toNat≤239):=propext ⟨fun h=>by omega,fun h=>by omega⟩
  have q3:((240:Int)≤(c0.toNat:Int)∧(c0.toNat:Int)≤244)=(240≤c0.toNat∧c0.toNat≤244):=propext ⟨fun h=>by omega,fun h=>by omega⟩
  have q4:((c0.toNat:Int)=224∧(c1.toNat:Int)<160)=(c0.toNat=224∧c1.toNat<160):=propext ⟨fun h=>by omega,fun h=>by omega⟩
  have q5:((c0.toNat:Int)=237∧(159:Int)<(c1.toNat:Int))=(c0.toNat=237∧159<c1.toNat):=propext ⟨fun h=>by omega,fun h=>by omega⟩
  have q6:((c0.toNat:Int)=240∧(c1.toNat:Int)<144)=(c0.toNat=240∧c1.toNat<144):=propext ⟨fun h=>by omega,fun h=>by omega⟩
  have q7:((c0.toNat:Int)=244∧(143:Int)<(c1.toNat:Int))=(c0.toNat=244∧143<c1.toNat):=propext ⟨fun h=>by omega,fun h=>by omega⟩
  simp only[q0,q1,q2,q3,q4,q5,q6,q7]
  have x1:240≤c0.toNat∧c0.toNat≤244→¬(224≤c0.toNat∧c0.toNat≤239):=fun h h2=>by omega
  have x2:240≤c0.toNat∧c0.toNat≤244→¬(194≤c0.toNat∧c0.toNat≤223):=fun h h2=>by omega
  have x3:224≤c0.toNat∧c0.toNat≤239→¬(194≤c0.toNat∧c0.toNat≤223):=fun h h2=>by omega
  by_cases K0:c0.toNat<128
  ·simp[K0]
  by_cases J:128≤c1.toNat∧c1.toNat≤191
  ·by_cases K1:194≤c0.toNat∧c0.toNat≤223
   ·simp only[if_neg K0,if_pos K1,if_pos J,K1,J,and_self,if_true];rfl
   ·by_cases K2:224≤c0.toNat∧c0.toNat≤239
    ·have K3: ¬(240≤c0.toNat∧c0.toNat≤244):=fun h=>x1 h K2
     by_cases I:3≤n
     ·by_cases N:128≤c2.toNat∧c2.toNat≤191
      ·by_cases O:c0.toNat=224∧c1.toNat<160
       ·simp only[if_neg K0,if_neg K1,if_pos (And.intro K2 I),if_pos J,if_pos I,Qa,if_pos N,eq_true O,if_true,false_and,K1,K3,eq_true O,not_true_eq_false,and_false,if_false];rfl
       ·by_cases Y:c0.toNat=237∧159<c1.toNat
        ·simp only[if_neg K0,if_neg K1,if_pos (And.intro K2 I),if_pos J,if_pos I,Qa,if_pos N,if_neg O,eq_true Y,if_true,false_and,K1,K3,eq_true Y,not_true_eq_false,and_false,if_false];rfl
        ·simp only[if_neg K0,if_neg K1,if_pos (And.intro K2 I),if_pos J,if_pos I,Qa,if_pos N,if_neg O,if_neg Y,false_and,K1,K2,I,J,N,O,Y,not_false_eq_true,and_self,if_true,if_false];rfl
      ·simp only[if_neg K0,if_neg K1,if_pos (And.intro K2 I),if_pos J,if_pos I,Qa,if_neg N,if_neg K3,false_and,K1,K3,N,and_false,if_false,Qy];rfl
     ·simp only[if_neg K0,if_neg K1,I,and_false,if_neg K3,false_and,K1,K3,if_false];rfl
    ·by_cases K3:240≤c0.toNat∧c0.toNat≤244
     ·by_cases W:4≤n
      ·have I:3≤n:=by omega
       by_cases N:128≤c2.toNat∧c2.toNat≤191
       ·by_cases m3:128≤c3.toNat∧c3.toNat≤191
        ·by_cases O:c0.toNat=240∧c1.toNat<144
         ·simp only[if_neg K0,if_neg K1,if_neg K2,K2,false_and,if_pos (And.intro K3 W),if_pos J,if_pos I,if_pos W,Qa,if_pos N,if_pos m3,eq_true O,if_true,K1,eq_true O,not_true_eq_false,and_false,if_false];rfl
         ·by_cases Y:c0.toNat=244∧143<c1.toNat
          ·simp only[if_neg K0,if_neg K1,if_neg K2,K2,false_and,if_pos (And.intro K3 W),if_pos J,if_pos I,if_pos W,Qa,if_pos N,if_pos m3,if_neg O,eq_true Y,if_true,K1,eq_true Y,not_true_eq_false,and_false,if_false];rfl
          ·simp only[if_neg K0,if_neg K1,if_neg K2,K2,false_and,if_pos (And.intro K3 W),if_pos J,if_pos I,if_pos W,Qa,if_pos N,if_pos m3,if_neg O,if_neg Y,K1,K3,W,J,N,m3,O,Y,not_false_eq_true,and_self,if_true,if_false];rfl
        ·simp only[if_neg K0,if_neg K1,if_neg K2,K2,false_and,if_pos (And.intro K3 W),if_pos J,if_pos I,if_pos W,Qa,if_pos N,if_neg m3,K1,m3,and_false,if_false,Qy];rfl
       ·simp only[if_neg K0,if_neg K1,if_neg K2,K2,false_and,if_pos (And.intro K3 W),if_pos J,if_pos I,Qa,if_neg N,K1,N,and_false,if_false,Qy];rfl
      ·simp only[if_neg K0,if_neg K1,if_neg K2,K2,false_and,W,and_false,K1,if_false];rfl
     ·simp only[if_neg K0,if_neg K1,if_neg K2,if_neg K3,K1,K2,K3,false_and,if_false];rfl
  ·simp[K0,J]
 ·rw[if_neg h1]
  simp only[F.db,F.da,F.cI,F.ck,A.ba,decide_eq_true_eq]
  unfold widN
  have w0:(c0.toNat:Int)<128↔c0.toNat<128:=⟨fun h=>by omega,fun h=>by omega⟩
  by_cases h2:c0.toNat<128
  ·rw[if_pos (w0.2 h2),if_pos h2];rfl
  ·have a1: ¬((194≤c0.toNat∧c0.toNat≤223)∧2≤s.size-p∧128≤c1.toNat∧c1.toNat≤191):=fun h=>by omega
   have a2: ¬((224≤c0.toNat∧c0.toNat≤239)∧3≤s.size-p∧(128≤c1.toNat∧c1.toNat≤191)∧(128≤c2.toNat∧c2.toNat≤191)∧¬(c0.toNat=224∧c1.toNat<160)∧¬(c0.toNat=237∧159<c1.toNat)):=fun h=>by omega
   have a3: ¬((240≤c0.toNat∧c0.toNat≤244)∧4≤s.size-p∧(128≤c1.toNat∧c1.toNat≤191)∧(128≤c2.toNat∧c2.toNat≤191)∧(128≤c3.toNat∧c3.toNat≤191)∧¬(c0.toNat=240∧c1.toNat<144)∧¬(c0.toNat=244∧143<c1.toNat)):=fun h=>by omega
   rw[if_neg (fun h=>h2 (w0.1 h)),if_neg h2,if_neg a1,if_neg a2,if_neg a3]
   simp only[Qy,if_false]
   rw[if_neg (fun h=>by omega),if_neg (fun h=>by omega),if_neg (fun h=>by omega)];rfl
def vld (s:ByteArray):Nat→Nat→Bool
 |0,_=>true
 |n+1,p=>if p<s.size then(if wid s p=0 then false else vld s n (p+wid s p))else true
def cnt (s:ByteArray):Nat→Nat→Nat
 |0,_=>0
 |n+1,p=>if p<s.size then 1+cnt s n (p+(Utf8.decode s p).2)else 0
theorem wid_4 (s:ByteArray)(p:Nat):wid s p≤4:=by
 rw[wid_N];unfold widN;repeat' split
 all_goals omega
theorem wid_dec {s:ByteArray}{p:Nat}(h:wid s p≠0):(Utf8.decode s p).2=wid s p:=by
 unfold wid at h ⊢;split at h
 ·exact absurd rfl h
 ·rename_i I;rw[if_neg I]
theorem Valid_eq (s:ByteArray)(J:s.size≤5000):F.eU s=some (vld s s.size 0):=by
 have loop: ∀(n p f:Nat),s.size-p≤n→n<f→p≤5010→F.cJ s f (p:Int)=some (vld s n p):=by
  intro n
  induction n with
  |zero=>
   intro p f hp N _
   obtain⟨f,rfl⟩: ∃f',f=f'+1:=⟨f-1,by omega⟩
   rw[F.cJ,if_neg (by omega)];rfl
  |succ n O=>
   intro p f hp N W
   obtain⟨f,rfl⟩: ∃f',f=f'+1:=⟨f-1,by omega⟩
   rw[F.cJ,vld]
   by_cases h:p<s.size
   ·rw[if_pos (by omega),if_pos h,width_eq s p h J,Qa]
    have:=wid_le h
    by_cases I:wid s p=0
    ·rw[if_pos (by omega),if_pos I]
    ·rw[if_neg (by omega),if_neg I,A.gd1 ⟨by omega,by omega⟩]
     have e:(p:Int)+(wid s p:Int)=((p+wid s p:Nat):Int):=by omega
     rw[e];exact O _ f (by omega) (by omega) (by omega)
   ·rw[if_neg (by omega),if_neg h]
 exact loop s.size 0 A.FU (by omega) (by have:=Qab;omega) (by omega)
theorem Qea (s:ByteArray):Lib.validD s.data.toList=vld s s.size 0:=by
 have loop: ∀(n p:Nat),Lib.validGoD n (s.data.toList.drop p)=vld s n p:=by
  intro n
  induction n with
  |zero=>intro p;rfl
  |succ n O=>
   intro p
   rw[Lib.validGoD,vld]
   by_cases h:p<s.size
   ·have J:s.data.toList.drop p≠[]:=by rw[Qgf h];simp
    rw[if_neg J,if_pos h,Lib.decodeL_drop,X7]
    by_cases I:Utf8.decode s p=(65533,1)
    ·rw[if_pos (by rw[I];exact⟨rfl,rfl⟩),if_pos (by unfold wid;rw[if_pos I])]
    ·have e:wid s p=(Utf8.decode s p).2:=by unfold wid;rw[if_neg I]
     rw[if_neg (fun N=>I (Jt N.1 N.2)),if_neg (by rw[e];have:=Qie s p;omega),O,e]
   ·rw[if_pos (Qfl h),if_neg h]
 have:=loop s.size 0
 rw[Q7]at this
 exact this
theorem Runes_eq (s:ByteArray)(hs:s.size≤5000)(I:vld s s.size 0=true): ∃l,F.e7 s=some l∧l.length=cnt s s.size 0:=by
 have loop: ∀(n p f:Nat) (xs:List (Int×Int)),s.size-p≤n→n<f→xs.length≤p→p≤5010→vld s n p=true→∃l,F.aW s f xs (p:Int)=some l∧l.length=xs.length+cnt s n p:=by
  intro n
  induction n with
  |zero=>
   intro p f xs hp hf _ _ _
   obtain⟨f,rfl⟩: ∃f',f=f'+1:=⟨f-1,by omega⟩
   rw[F.aW,if_neg (by omega)];exact⟨_,rfl,rfl⟩
  |succ n ih=>
   intro p f xs hp hf hxs hp5 I
   obtain⟨f,rfl⟩: ∃f',f=f'+1:=⟨f-1,by omega⟩
   rw[F.aW]
   rw[vld]at I
   rw[cnt]
   by_cases h:p<s.size
   ·rw[if_pos h]at I
    have hl:=wid_le h
    have h4:=wid_4 s p
    by_cases N:wid s p=0
    ·rw[if_pos N]at I;cases I
    rw[if_neg N]at I
    have J: ∀(w c:Int),w=(wid s p:Int)→∃l,F.bU (F.aW s f) xs (p:Int) w c=some l∧l.length=xs.length+(1+cnt s n (p+(Utf8.decode s p).2)):=fun w c O=>by
     subst O
     rw[F.bU,A.gd1 (by simp only[Qj,Qx];omega),A.gd1 ⟨by omega,by omega⟩,wid_dec N]
     have e:(p:Int)+(wid s p:Int)=((p+wid s p:Nat):Int):=by omega
     rw[e]
     obtain⟨l,W,Y⟩:=ih (p+wid s p) f (xs++[((p:Int),c)]) (by omega) (by omega) (by simp only[Ql,Qj,Qx];omega) (by omega) I
     exact⟨l,W,by rw[Y,Ql];simp only[Qj,Qx];omega⟩
    have i0:=ixb (s:=s) h
    have i1:A.ix s.data.toList ((p:Int)+1)=if p+1<s.size then some (Z.bat s (p+1))else none:=ixk s p 1
    have i2:A.ix s.data.toList ((p:Int)+2)=if p+2<s.size then some (Z.bat s (p+2))else none:=ixk s p 2
    have i3:A.ix s.data.toList ((p:Int)+3)=if p+3<s.size then some (Z.bat s (p+3))else none:=ixk s p 3
    have r1:Z.R64 ((p:Int)+1):=⟨by omega,by omega⟩
    have r2:Z.R64 ((p:Int)+2):=⟨by omega,by omega⟩
    have r3:Z.R64 ((p:Int)+3):=⟨by omega,by omega⟩
    rw[if_pos (by omega),if_pos h,width_eq s p h hs,Qa]
    by_cases w1:wid s p=1
    ·rw[if_pos (by omega),i0,Qa];exact J _ _ rfl
    rw[if_neg (by omega)]
    by_cases w2:wid s p=2
    ·rw[if_pos (by omega),A.gd1 r1,i0,Qa,A.gd1 (by decide),i1,if_pos (by omega),Qa,A.gd1 (by decide)];exact J _ _ rfl
    rw[if_neg (by omega)]
    by_cases w3:wid s p=3
    ·rw[if_pos (by omega),A.gd1 ⟨r1,r2⟩,i0,Qa,A.gd1 (by decide),i1,if_pos (by omega),Qa,A.gd1 (by decide),i2,if_pos (by omega),Qa,A.gd1 (by decide)];exact J _ _ rfl
    rw[if_neg (by omega),if_pos (by omega),A.gd1 ⟨r1,r2,r3⟩,i0,Qa,A.gd1 (by decide),i1,if_pos (by omega),Qa,A.gd1 (by decide),i2,if_pos (by omega),Qa,A.gd1 (by decide),i3,if_pos (by omega),Qa,A.gd1 (by decide)];exact J _ _ rfl
   ·rw[if_neg (by omega),if_neg h];exact⟨_,rfl,rfl⟩
 obtain⟨l,W,Y⟩:=loop s.size 0 A.FU [] (by omega) (by have:=Qab;omega) (by simp) (by omega) I
 exact⟨l,W,by simpa using Y⟩
theorem single_eq (s:ByteArray)(N:s.size≤9223372036854775807):F.eO s=some (if cnt s s.size 0=1 then vld s s.size 0 else false):=by
 have loop: ∀(n p f:Nat) (y:Int),s.size-p≤n→n<f→0≤y→y+n≤9223372036854775807→F.cC s f p y=some (if y+(cnt s n p:Int)=1 then vld s s.size 0 else false):=by
  intro n
  induction n with
  |zero=>
   intro p f y hp I _ _
   obtain⟨f,rfl⟩: ∃f',f=f'+1:=⟨f-1,by omega⟩
   rw[F.cC,if_neg (by omega),F.b5,Qea,Qa]
   simp only[F.c3]
   have e:y+(cnt s 0 p:Int)=y:=by rw[cnt];omega
   by_cases h:y=1
   ·rw[if_pos h,if_pos (by omega)]
   ·rw[if_neg h,if_neg (by omega)]
  |succ n J=>
   intro p f y hp I O W
   obtain⟨f,rfl⟩: ∃f',f=f'+1:=⟨f-1,by omega⟩
   rw[F.cC,cnt]
   by_cases h:p<s.size
   ·rw[if_pos h,if_pos h,A.gd1 ⟨by omega,by omega⟩]
    have Y:=Qie s p
    rw[J _ f (y+1) (by omega) (by omega) (by omega) (by omega)]
    congr 2
    exact propext ⟨fun h=>by omega,fun h=>by omega⟩
   ·rw[if_neg h,if_neg h,F.b5,Qea,Qa]
    simp only[F.c3]
    by_cases h:y=1
    ·rw[if_pos h,if_pos (by omega)]
    ·rw[if_neg h,if_neg (by omega)]
 unfold F.eO
 rw[loop s.size 0 A.FU 0 (by omega) (by have:=Qab;omega) (by omega) (by omega)]
 congr 2
 exact propext ⟨fun h=>by omega,fun h=>by omega⟩
theorem one_small {s:ByteArray}(I:cnt s s.size 0=1)(J:vld s s.size 0=true):s.size≤4:=by
 generalize W:s.size=n at I J
 cases n with
 |zero=>omega
 |succ n=>
  rw[cnt,if_pos (by omega)]at I
  rw[vld,if_pos (by omega)]at J
  by_cases N:wid s 0=0
  ·rw[if_pos N]at J;cases J
  rw[wid_dec N]at I
  have:=wid_4 s 0
  cases n with
  |zero=>omega
  |succ n=>
   rw[cnt]at I
   by_cases O:0+wid s 0<s.size
   ·rw[if_pos O]at I;omega
   ·omega
end Go.Proofs.YtlbnpmfggfbdoaaGreatDoor
end
section
end
section
namespace Go.Proofs.YtlbnpmfggfbdoaaGreatDoor
open Go.RowKit Go.Graph
def Qil (f:Fun):Bool:=if f.1=5 then decide (f.2.2≠ByteArray.mk #[])&&decide ((f.2.2.size:Int)≤16)&&vld f.2.2 f.2.2.size 0 else if f.1=12∨f.1=22 then decide (cnt f.2.2 f.2.2.size 0=1)&&vld f.2.2 f.2.2.size 0 else decide (f.2.2=ByteArray.mk #[])
theorem Qgr (f:Fun):F.eN f=some (Qci f):=by
 unfold F.eN F.dI F.dH Qci
 simp only[A.ba,decide_eq_true_eq]
 by_cases N:f.1=3
 ·simp[N]
 ·by_cases I:f.1=13
  ·simp[I]
  ·by_cases h6:f.1=6
   ·simp[h6]
   ·by_cases J:f.1=11<;>simp[N,I,h6,J]
theorem Qfp (f:Fun):F.eY f=some (Qci f):=Qgr f
theorem text_eq (f:Fun)(O:f.2.2.size≤9223372036854775807):F.fa f=some (Qil f):=by
 unfold F.fa Qil
 simp only[F.ex,F.ey,A.ba,single_eq _ O,F.b5,Qea,Qa,decide_eq_true_eq]
 by_cases N:f.1=5
 ·simp only[N,if_true]
  by_cases W:f.2.2=ByteArray.mk #[]<;>by_cases Y:(f.2.2.size:Int)≤16<;>simp[W,Y]
 ·by_cases I:f.1=12
  ·simp[I]
  ·by_cases J:f.1=22<;>simp[N,I,J]
theorem one_le {s:ByteArray}:(1:Int)≤(s.size:Int)↔s≠ByteArray.mk #[]:=by
 constructor
 ·intro h e;subst e;exact absurd h (by decide)
 ·intro h;have:=Qfu h;omega
theorem Qio (f:Fun)(N:f.2.2.size≤5000):F.e2 f=some (Qil f):=by
 have hj: ∀y,F.dE f y=some (if y=true then decide (cnt f.2.2 f.2.2.size 0=1)&&vld f.2.2 f.2.2.size 0 else decide (f.2.2=ByteArray.mk #[])):=by
  intro y
  unfold F.dE
  simp only[F.dD,Valid_eq _ N,Qa]
  cases y with
  |false=>simp
  |true=>
   simp only[if_true]
   by_cases h4:(f.2.2.size:Int)≤4
   ·rw[if_pos h4]
    cases O:vld f.2.2 f.2.2.size 0 with
    |true=>
     obtain⟨l,I,W⟩:=Runes_eq f.2.2 N O
     rw[if_pos rfl,I,Qa,Y7]
     congr 2
     rw[W];exact propext ⟨fun h=>by omega,fun h=>by omega⟩
    |false=>simp
   ·rw[if_neg h4]
    congr 1
    cases O:vld f.2.2 f.2.2.size 0 with
    |false=>simp
    |true=>
     by_cases I:cnt f.2.2 f.2.2.size 0=1
     ·have:=one_small I O;omega
     ·simp[I]
 unfold F.e2 Qil
 simp only[F.ee,hj,A.ba,Valid_eq _ N,Qa,decide_eq_true_eq,one_le]
 by_cases h5:f.1=5
 ·simp only[h5,if_true]
  by_cases I:f.2.2=ByteArray.mk #[]<;>by_cases W:(f.2.2.size:Int)≤16<;>simp[I,W]
 ·by_cases J:f.1=12
  ·simp[J]
  ·by_cases Y:f.1=22<;>simp[h5,J,Y]
def anyF (f:Fun)(l:List Int):Int:=if l.any (fun y=>decide (y=f.1)&&(Qci f&&Qil f))=true then 0 else 60
def kinds (k:Int):List Int:=if k=2 then [1,2,3,4,5,6,7,8]else if k=3 then [11,12,13]else if k=4 then [21,22]else if k=8 then [31,32,33,34]else if k=11 then [41,42]else []
def chk (k:Int)(f:Fun):Int:=if kinds k=[]then(if f=(0,0,ByteArray.mk #[])then 0 else 60)else anyF f (kinds k)
theorem chk_l (f:Fun)(I:f.2.2.size≤9223372036854775807): ∀l,F.bL f l=some (anyF f l)
 | []=>rfl
 |y::l=>by
  have J:=chk_l f I l
  unfold F.bL
  simp only[F.dw,Qgr,text_eq _ I,Qa,J,anyF,X6]
  by_cases h:y=f.1
  ·subst h
   cases N:Qci f<;>cases O:Qil f<;>simp
  ·simp[h]
theorem Qin (k:Int)(f:Fun)(I:f.2.2.size≤9223372036854775807):F.eG k f=some (chk k f):=by
 have u2:F.ch 1 8=some [1,2,3,4,5,6,7,8]:=by kernel_rfl
 have u3:F.ch 11 13=some [11,12,13]:=by kernel_rfl
 have u4:F.ch 21 22=some [21,22]:=by kernel_rfl
 have u8:F.ch 31 34=some [31,32,33,34]:=by kernel_rfl
 have u11:F.ch 41 42=some [41,42]:=by kernel_rfl
 unfold F.eG F.fh F.e9 chk kinds
 by_cases O:k=2
 ·simp[O,u2,chk_l f I]
 ·by_cases W:k=3
  ·simp[W,u3,chk_l f I]
  ·by_cases Y:k=4
   ·simp[Y,u4,chk_l f I]
   ·by_cases h8:k=8
    ·simp[h8,u8,chk_l f I]
    ·by_cases J:k=11
     ·simp[J,u11,chk_l f I]
     ·simp only[O,W,Y,h8,J,if_false,Qa]
      rw[if_pos (by decide),if_pos trivial]
      by_cases N:f=(0,0,ByteArray.mk #[])
      ·rw[if_neg (fun h=>h N),if_pos N]
      ·rw[if_pos N,if_neg N]
theorem R06_l (f:Fun)(I:f.2.2.size≤5000)(l:List Int)(O:l.length≤100):F.bf f l A.FU 0=some (anyF f l):=
 A.lp0 l (fun n y=>F.bf f l n y) (fun _ t=>some (anyF f t))
  (fun n=>by rw[F.bf,if_neg (by omega)];rfl)
  (fun n k x J hk N=>by
   rw[F.bf,if_pos (by omega),A.ixn J,Qa]
   simp only[F.dc,Qfp,Qio _ I,Qa,N,A.gd1 (A.r64n (n:=k) (by omega)),anyF,X6]
   by_cases h:x=f.1
   ·subst h
    cases W:Qci f<;>cases Y:Qil f<;>simp
   ·simp[h])
  (by have:=Qab;omega)
theorem Qhn (k:Int)(f:Fun)(J:f.2.2.size≤5000):F.et k f=some (chk k f):=by
 have u2:F.cZ 2=some [1,2,3,4,5,6,7,8]:=by kernel_rfl
 have u3:F.cZ 3=some [11,12,13]:=by kernel_rfl
 have u4:F.cZ 4=some [21,22]:=by kernel_rfl
 have u8:F.cZ 8=some [31,32,33,34]:=by kernel_rfl
 have u11:F.cZ 11=some [41,42]:=by kernel_rfl
 have u0:F.cg 1 0=some []:=by kernel_rfl
 unfold F.et chk kinds
 by_cases O:k=2
 ·subst O;rw[u2,Qa,if_neg (by simp),F.bu,if_neg (by simp),R06_l f J _ (by simp)];simp
 ·by_cases W:k=3
  ·subst W;rw[u3,Qa,if_neg (by simp),F.bu,if_neg (by simp),R06_l f J _ (by simp)];simp
  ·by_cases Y:k=4
   ·subst Y;rw[u4,Qa,if_neg (by simp),F.bu,if_neg (by simp),R06_l f J _ (by simp)];simp
   ·by_cases h8:k=8
    ·subst h8;rw[u8,Qa,if_neg (by simp),F.bu,if_neg (by simp),R06_l f J _ (by simp)];simp
    ·by_cases I:k=11
     ·subst I;rw[u11,Qa,if_neg (by simp),F.bu,if_neg (by simp),R06_l f J _ (by simp)];simp
     ·have u:F.cZ k=some []:=by unfold F.cZ;simp only[O,W,Y,h8,I,if_false,u0]
      rw[u,Qa,if_pos (by simp),F.bu,R06_l f J _ (by simp)]
      simp only[O,W,Y,h8,I,if_false,if_true,decide_eq_true_eq,anyF,List.any_nil,Qy]
      by_cases N:f=(0,0,ByteArray.mk #[])
      ·rw[if_pos N,if_pos N]
      ·rw[if_neg N,if_neg N]
end Go.Proofs.YtlbnpmfggfbdoaaGreatDoor
end
section
end
section
namespace Go.Proofs.YtlbnpmfggfbdoaaGreatDoor
open Go.RowKit Go.Graph
def Qac (g:List Nd):List (Int×Nd):=g.map fun n=>(n.1,n)
def Inc (g:List Nd):Prop:=g.Pairwise fun a b=>a.1<b.1
theorem Qev (z:Nd)(id:Int): ∀(k:Nat) (l:List Nd),(idxF id k l= -1∧(∀n∈l,n.1≠id)∧Z.mget z (Qac l) id=z∧Z.mhas (Qac l) id=false)∨(∃j n,idxF id k l=((k+j:Nat):Int)∧l[j]?=some n∧n.1=id∧Z.mget z (Qac l) id=n∧Z.mhas (Qac l) id=true)
 |k,[]=>.inl ⟨rfl,by simp,rfl,rfl⟩
 |k,x::r=>by
  unfold idxF Qac
  simp only[Q4,Z.mget,Z.mhas]
  by_cases h:x.1=id
  ·rw[if_pos h,if_pos h.symm,if_pos h.symm]
   exact .inr ⟨0,x,rfl,rfl,h,rfl,rfl⟩
  ·rw[if_neg h,if_neg (fun e=>h e.symm),if_neg (fun e=>h e.symm)]
   rcases Qev z id (k+1) r with⟨I,J,N,O⟩|⟨j,n,I,J,N,O,Y⟩
   ·refine .inl ⟨I,fun n W=>?_,N,O⟩
    rcases Qk.1 W with rfl|W
    ·exact h
    ·exact J n W
   ·exact .inr ⟨j+1,n,by rw[I];congr 1;omega,J,N,O,Y⟩
theorem Qbe (z:Nd)(g:List Nd)(id:Int):(idx g id= -1∧(∀n∈g,n.1≠id)∧Z.mget z (Qac g) id=z∧Z.mhas (Qac g) id=false)∨(∃(j:Nat) (n:Nd),idx g id=(j:Int)∧g[j]?=some n∧n.1=id∧Z.mget z (Qac g) id=n∧Z.mhas (Qac g) id=true):=by
 have:=Qev z id 0 g
 simp only[Wh]at this
 exact this
theorem Inc.lt {g:List Nd}(h:Inc g){i j:Nat}{a b:Nd}(J:g[i]?=some a)(N:g[j]?=some b)(I:i<j):a.1<b.1:=by
 obtain⟨O,rfl⟩:=Qc.1 J
 obtain⟨W,rfl⟩:=Qc.1 N
 exact X0.1 h i j O W I
theorem Inc.inj {g:List Nd}(h:Inc g){i j:Nat}{a b:Nd}(J:g[i]?=some a)(N:g[j]?=some b)(e:a.1=b.1):i=j:=by
 rcases Nat.lt_trichotomy i j with I|I|I
 ·have:=h.lt J N I;omega
 ·exact I
 ·have:=h.lt N J I;omega
theorem Inc.idx {g:List Nd}(h:Inc g){j:Nat}{n:Nd}(J:g[j]?=some n):Graph.idx g n.1=(j:Int):=by
 rcases Qbe z0 g n.1 with⟨_,I,_⟩|⟨i,m,N,I,O,_⟩
 ·exact absurd rfl (I n (Qf J))
 ·rw[N,h.inj I J O]
theorem Inc.mget {g:List Nd}(h:Inc g){j:Nat}{n z:Nd}(I:g[j]?=some n):Z.mget z (Qac g) n.1=n:=by
 rcases Qbe z g n.1 with⟨_,J,_⟩|⟨i,m,W,J,N,O,_⟩
 ·exact absurd rfl (J n (Qf I))
 ·have:=h.inj J I N
  subst this
  rw[J]at I;injection I with I;rw[O,I]
theorem Qbi (g:List Nd)(id:Int)(N:g.length≤100):F.cT g id=some (idx g id):=
 A.lp0 g (fun f y=>F.cH g id f y) (fun k l=>some (idxF id k l))
  (fun f=>by rw[F.cH,if_neg (by omega)];rfl)
  (fun f k x I hk J=>by
   rw[F.cH,if_pos (by omega),A.ixn I,Qa,idxF]
   by_cases h:x.1=id
   ·rw[if_pos h,if_pos h]
   ·rw[if_neg h,if_neg h,A.gd1 (A.r64n (by omega)),J])
  (by have:=Qab;omega)
def ownQ (n:Nd):Bool:=if n.1<1∨255<n.1∨insK n.2.1<0∨(n.2.2.1.length:Int)≠insK n.2.1 then false else if ownC n then false else if n.2.1=1∨n.2.1=15 then named n.2.2.2.2.1 else decide (n.2.2.2.2.1=ByteArray.mk #[])
theorem Qew (k:Int):F.bx k=some (decide (k=1∨k=15)):=by
 unfold F.bx;rw[A.bo]
theorem gIns_eq (k:Int):F.ej k=some (insK k):=(Ins_eq k).trans (Qfd k)
theorem own_eq (n:Nd)(hs:n.2.2.2.2.1.size≤9223372036854775807):F.ek n=some (ownQ n):=by
 have hj: ∀y,F.c2 n y=some (if y=true then false else if ownC n then false else if n.2.1=1∨n.2.1=15 then named n.2.2.2.2.1 else decide (n.2.2.2.2.1=ByteArray.mk #[])):=by
  intro y
  unfold F.c2 F.c1 ownC
  cases y with
  |true=>simp
  |false=>
   simp only[Qy,if_false,A.bo,decide_eq_true_eq,Qew,Qa,named_eq _ hs,A.bn]
   by_cases J:n.2.1=14
   ·simp only[J,if_true,true_and,not_true_eq_false,ne_eq,false_and,or_false,if_false]
    by_cases I:n.2.2.2.2.2.1<1∨8<n.2.2.2.2.2.1∨n.2.2.2.2.2.2<1∨4<n.2.2.2.2.2.2
    ·have hc':((n.2.2.2.2.2.1<1∨8<n.2.2.2.2.2.1)∨n.2.2.2.2.2.2<1)∨4<n.2.2.2.2.2.2:=by omega
     rw[if_pos hc',if_pos I]
    ·have hc': ¬(((n.2.2.2.2.2.1<1∨8<n.2.2.2.2.2.1)∨n.2.2.2.2.2.2<1)∨4<n.2.2.2.2.2.2):=by omega
     rw[if_neg hc',if_neg I]
     simp
   ·simp only[J,if_false,false_and,not_false_eq_true,ne_eq,true_and,false_or,if_true]
    by_cases I: ¬n.2.2.2.2.2.1=0∨¬n.2.2.2.2.2.2=0
    ·rw[if_pos I,if_pos I]
    ·rw[if_neg I,if_neg I]
     by_cases N:n.2.1=1∨n.2.1=15
     ·rw[if_pos N,if_pos N]
     ·rw[if_neg N,if_neg N]
 unfold F.ek ownQ
 simp only[gIns_eq,Qa,hj,A.bo,decide_eq_true_eq,F.c1]
 by_cases O:n.1<1∨255<n.1
 ·rw[if_pos O,if_pos (by omega)]
 ·rw[if_neg O]
  by_cases W:insK n.2.1<0
  ·rw[if_pos W,if_pos trivial,if_pos (by omega)]
  ·rw[if_neg W]
   by_cases Y:(n.2.2.1.length:Int)≠insK n.2.1
   ·rw[if_pos Y,if_pos (by omega)]
   ·have hb: ¬(n.1<1∨255<n.1∨insK n.2.1<0∨(n.2.2.1.length:Int)≠insK n.2.1):=by omega
    rw[if_neg Y,if_neg hb]
def twiceF (l:List Nd)(n:Nd):Bool:=l.any fun x=>decide (x.2.1=n.2.1)&&decide (x.2.2.2.2.1=n.2.2.2.2.1)
theorem twice_eq (l:List Nd)(n:Nd)(Y:l.length≤100):F.l l n=some (twiceF l n):=by
 have loop:F.a l n A.FU 0=some (if twiceF l n=true then(0:Int)else-1)∨∃i:Nat,F.a l n A.FU 0=some (i:Int)∧twiceF l n=true:=by
  have key: ∀(m k f:Nat),k+m=l.length→m<f→(twiceF (l.drop k) n=true∧∃i:Nat,F.a l n f (k:Int)=some (i:Int))∨(twiceF (l.drop k) n=false∧F.a l n f (k:Int)=some (-1)):=by
   intro m
   induction m with
   |zero=>
    intro k f hk O
    obtain⟨f,rfl⟩: ∃f',f=f'+1:=⟨f-1,by omega⟩
    rw[F.a,if_neg (by omega),Q0 (by omega)]
    exact .inr ⟨rfl,rfl⟩
   |succ m W=>
    intro k f hk O
    obtain⟨f,rfl⟩: ∃f',f=f'+1:=⟨f-1,by omega⟩
    have N:l[k]?=some l[k]:=Qd (by omega)
    generalize l[k]=x at N
    rw[F.a,if_pos (by omega),A.ixn N,Qa,F.eg,Qa,A.ba,A.dropx N]
    by_cases h:x.2.1=n.2.1∧x.2.2.2.2.1=n.2.2.2.2.1
    ·left
     exact⟨by simp[twiceF,h.1,h.2],k,by rw[if_pos (by simpa using h)]⟩
    ·rw[if_neg (by simpa using h),A.gd1 (A.r64n (by omega))]
     have e:twiceF (x::l.drop (k+1)) n=twiceF (l.drop (k+1)) n:=by
      simp only[twiceF,X6]
      rw[←Bool.decide_and,decide_eq_false h,Xv]
     rw[e]
     exact W (k+1) f (by omega) (by omega)
  rcases key l.length 0 A.FU (by omega) (by have:=Qab;omega)with⟨I,i,J⟩|⟨I,J⟩
  ·rw[Q7]at I;exact .inr ⟨i,J,I⟩
  ·rw[Q7]at I;left;rw[I];exact J
 unfold F.l F.ak
 rcases loop with h|⟨i,h,J⟩
 ·rw[show F.a l n A.FU 0=_ from h,Qa]
  cases twiceF l n<;>simp
 ·rw[show F.a l n A.FU 0=_ from h,Qa,J]
  simp
theorem Qdd {κ α:Type}[DecidableEq κ]: ∀{m:List (κ×α)} {k:κ} {x:α},Z.mhas m k=false→Z.mins m k x=m++[(k,x)]
 | [],_,_,_=>rfl
 |(a,y)::r,k,x,h=>by
  simp only[Z.mhas]at h
  by_cases hk:k=a
  ·rw[if_pos hk]at h;cases h
  ·rw[if_neg hk]at h
   unfold Z.mins
   rw[if_neg hk,Qdd h];rfl
theorem mhas_mapOf {l:List Nd}{k:Int}(h: ∀n∈l,n.1≠k):Z.mhas (Qac l) k=false:=by
 rcases Qbe z0 l k with⟨_,_,_,I⟩|⟨j,n,_,J,I,_⟩
 ·exact I
 ·exact absurd I (h n (Qf J))
theorem Qcu {α:Type}{l:List α}{k:Nat}{x:α}(h:l[k]?=some x):l.take (k+1)=l.take k++[x]:=by rw[Yk,h];rfl
def okL (g:List Nd):Nat→Int→List Nd→Bool
 |_,_,[]=>true
 |k,last,n::r=>if n.1≤last∨ownQ n=false∨((n.2.1=1∨n.2.1=15)∧twiceF (g.take k) n=true)then false else okL g (k+1) n.1 r
theorem whole_l6 (g:List Nd)(hg:g.length≤100)(hf: ∀x,x∈g→x.2.2.2.2.1.size≤9223372036854775807):F.az g A.FU [] 0 0=if okL g 0 0 g=true then F.aS g (Qac g) A.FU 0 else some (none,80):=
 A.lp g (fun f (s:List (Int×Nd)×Int) y=>F.az g f s.1 s.2 y) (fun k l s=>if okL g k s.2 l=true then F.aS g (Qac g) A.FU 0 else some (none,80)) (fun k s=>s.1=Qac (g.take k)∧∀n∈g.take k,n.1≤s.2)
  (fun f s hp=>by
   rw[F.az,if_neg (by omega),okL,if_pos rfl,hp.1,W8 (Q1 _)])
  (fun f s k x W hk hp ih=>by
   obtain⟨hm,N⟩:=hp
   have hown:=own_eq x (hf x (Qf W))
   have hj: ∀y,F.cB (F.az g f) s.1 s.2 (k:Int) x y=if x.1≤s.2∨ownQ x=false∨y=true then some (none,80)else F.az g f (Z.mins s.1 x.1 x) x.1 ((k:Int)+1):=by
    intro y
    rw[F.cB]
    simp only[F.c6,if_true]
    by_cases O:x.1≤s.2
    ·rw[if_pos O,if_pos (.inl O)]
    ·rw[if_neg O,show F.ek x=_ from hown,Qa,A.gd1 (A.r64n (by omega))]
     cases ownQ x<;>cases y<;>simp[O]
   have hnew: ¬x.1≤s.2→F.az g f (Z.mins s.1 x.1 x) x.1 ((k:Int)+1)=if okL g (k+1) x.1 (g.drop (k+1))=true then F.aS g (Qac g) A.FU 0 else some (none,80):=fun O=>by
    rw[hm,Qdd (mhas_mapOf fun n Y e=>by have:=N n Y;omega)]
    refine ih (Qac (g.take k)++[(x.1,x)],x.1) ⟨?_,fun n Y=>?_⟩
    ·rw[Qcu W];simp[Qac]
    ·rw[Qcu W]at Y
     rcases Qn.1 Y with h2|h2
     ·have:=N n h2;simp only[];omega
     ·rw[Qi]at h2;subst h2;exact Xl _
   rw[F.az,if_pos (by omega),A.ixn W,Qa,Qew,Qa,okL]
   by_cases ho:x.2.1=1∨x.2.1=15
   ·rw[if_pos (by simpa using ho),A.gd1 ⟨by omega,by omega⟩,show((k:Int)).toNat=k from Qr k,
     show F.l (List.take k g) x=_ from twice_eq (g.take k) x (by rw[Qv];omega),Qa,hj]
    by_cases I:x.1≤s.2∨ownQ x=false∨twiceF (g.take k) x=true
    ·have J:x.1≤s.2∨ownQ x=false∨((x.2.1=1∨x.2.1=15)∧twiceF (g.take k) x=true):=by rcases I with h|h|h;exact .inl h;exact .inr (.inl h);exact .inr (.inr ⟨ho,h⟩)
     rw[if_pos I,if_pos J,if_neg Wo]
    ·have J: ¬(x.1≤s.2∨ownQ x=false∨((x.2.1=1∨x.2.1=15)∧twiceF (g.take k) x=true)):=fun h=>I (by rcases h with h|h|h;exact .inl h;exact .inr (.inl h);exact .inr (.inr h.2))
     rw[if_neg I,if_neg J]
     exact hnew fun h=>I (.inl h)
   ·rw[if_neg (by simpa using ho),hj]
    by_cases I:x.1≤s.2∨ownQ x=false
    ·have J:x.1≤s.2∨ownQ x=false∨((x.2.1=1∨x.2.1=15)∧twiceF (g.take k) x=true):=by rcases I with h|h;exact .inl h;exact .inr (.inl h)
     rw[if_pos (by rcases I with h|h;exact .inl h;exact .inr (.inl h)),if_pos J,if_neg Wo]
    ·have J: ¬(x.1≤s.2∨ownQ x=false∨((x.2.1=1∨x.2.1=15)∧twiceF (g.take k) x=true)):=fun h=>I (by rcases h with h|h|h;exact .inl h;exact .inr h;exact absurd h.1 ho)
     rw[if_neg (fun h=>I (by rcases h with h|h|h;exact .inl h;exact .inr h;cases h)),if_neg J]
     exact hnew fun h=>I (.inl h))
  (by have:=Qab;omega) ([],0) ⟨rfl,by simp⟩
theorem whole_l5 (g:List Nd)(m:List (Int×Nd))(W:g.length≤100)(J: ∀x,x∈g→x.2.2.2.1.2.2.size≤9223372036854775807):F.aS g m A.FU 0=if g.all (fun n=>decide (chk n.2.1 n.2.2.2.1=0))=true then F.aD g m A.FU 0 else some (none,60):=
 A.lp0 g (fun f y=>F.aS g m f y) (fun _ l=>if l.all (fun n=>decide (chk n.2.1 n.2.2.2.1=0))=true then F.aD g m A.FU 0 else some (none,60))
  (fun f=>by rw[F.aS,if_neg (by omega)];rfl)
  (fun f k x I hk N=>by
   have h6:chk x.2.1 x.2.2.2.1≠0→chk x.2.1 x.2.2.2.1=60:=by
    intro h;unfold chk anyF at h ⊢;repeat' split
    all_goals first|rfl|(exfalso;simp_all;done)
   rw[F.aS,if_pos (by omega),A.ixn I,Qa,show F.eG x.2.1 x.2.2.2.1=_ from Qin x.2.1 x.2.2.2.1 (J x (Qf I)),Qa,Xx]
   by_cases h:chk x.2.1 x.2.2.2.1=0
   ·rw[if_neg (fun O=>O h),A.gd1 (A.r64n (by omega)),N,decide_eq_true h,Xn]
   ·rw[if_pos h,decide_eq_false h,Y1,if_neg (by simp),h6 h])
  (by have:=Qab;omega)
def inOk (g:List Nd)(k:Int):Bool:=if idx g k<0 then false else decide ((at_ g (idx g k)).2.1≠15)
def sortP (g:List Nd)(m:List (Int×Nd)):Option ((Option ((List (Int×Nd))×(List Int)×(List (Int×Int))))×Int):=
 (F.bl (m,[],[]) g).bind fun r73=>(if(!r73.1)=true then(some (none,81))else((F.bk r73.2).bind fun r79=>(if(!r79.1)=true then(some (none,80))else((F.b6 r79.2 g).bind fun r85=>(if r85=true then(some (none,81))else(some (some r79.2,0)))))))
theorem whole_l4 (g:List Nd)(hg:g.length≤100)(hf: ∀x,x∈g→x.2.2.1.length≤5000):F.aD g (Qac g) A.FU 0=if g.all (fun n=>n.2.2.1.all (inOk g))=true then sortP g (Qac g)else some (none,80):=
 A.lp0 g (fun f y=>F.aD g (Qac g) f y) (fun _ l=>if l.all (fun n=>n.2.2.1.all (inOk g))=true then sortP g (Qac g)else some (none,80))
  (fun f=>by rw[F.aD,if_neg (by omega)];rfl)
  (fun f k x W hk ih=>by
   rw[F.aD,if_pos (by omega),A.ixn W,Qa]
   have hlen:=hf x (Qf W)
   have loop:=A.lp0 x.2.2.1 (fun I y=>F.b7 (F.aD g (Qac g) f) (Qac g) (k:Int) x I y) (fun _ l=>if l.all (inOk g)=true then F.aD g (Qac g) f ((k:Int)+1)else some (none,80))
    (fun I=>by rw[F.b7,if_neg (by omega),A.gd1 (A.r64n (by omega))];rfl)
    (fun I j y hy hj2 J=>by
     rw[F.b7,if_pos (by omega),A.ixn hy,Qa,A.lt,Xx]
     rcases Qbe ((0,0,[],(0,0,(ByteArray.mk #[])),(ByteArray.mk #[]),0,0):Nd) g y with⟨Y,_,h3,N⟩|⟨i,n,Y,h2,h3,N,h5⟩
     ·rw[h3,N]
      have:inOk g y=false:=by unfold inOk;rw[if_pos (by omega)]
      rw[this];simp
     ·rw[N,h5]
      have e:inOk g y=decide (n.2.1≠15):=by unfold inOk;rw[if_neg (by omega),Qav Y h2]
      rw[e,A.gd1 (A.r64n (by omega)),J]
      by_cases O:n.2.1=15<;>simp[O])
    (by have:=Qab;omega)
   rw[loop,ih,Xx]
   cases x.2.2.1.all (inOk g)with
   |true=>rw[if_pos rfl,Xn]
   |false=>rw[if_neg Wo,Y1,if_neg Wo])
  (by have:=Qab;omega)
theorem whole_P (g:List Nd)(J:Few g):F.cu g=if(32:Int)<(g.length:Int)then some (none,80)else if okL g 0 0 g=true then(if g.all (fun n=>decide (chk n.2.1 n.2.2.2.1=0))=true then(if g.all (fun n=>n.2.2.1.all (inOk g))=true then sortP g (Qac g)else some (none,80))else some (none,60))else some (none,80):=by
 have N:=J.1
 unfold F.cu
 rw[whole_l6 g (by omega) (fun x I=>Wj (J.2 x I).2.1 (by decide)),whole_l5 g _ (by omega) (fun x I=>Wj (J.2 x I).2.2 (by decide)),whole_l4 g (by omega) (fun x I=>(J.2 x I).1)]
theorem Named_eq (g:List Nd)(kd:Int)(s:ByteArray)(W:g.length≤100):F.e6 g kd s=some (Qcg kd s g):=
 A.lp0 g (fun f y=>F.bT g kd s f y) (fun _ l=>some (Qcg kd s l))
  (fun f=>by rw[F.bT,if_neg (by omega)];rfl)
  (fun f k x I hk N=>by
   rw[F.bT,if_pos (by omega),A.ixn I,Qa,Qcg]
   simp only[F.dQ,A.ixn I,Qa,A.gd1 (A.r64n (n:=k) (by omega)),N,decide_eq_true_eq,kind,name]
   by_cases J:x.2.1=kd
   ·by_cases O:x.2.2.2.2.1=s<;>simp[J,O]
   ·simp[J])
  (by have:=Qab;omega)
theorem R_own_eq (g:List Nd)(i:Nat)(n:Nd)(hn:g[i]?=some n)(hg:g.length≤100)(hs:n.2.2.2.2.1.size≤5000):F.fc g (i:Int)=some (own g (i:Int) n):=by
 have hi:=(Qc.1 hn).1
 have Y:F.ea g n=some (ownT g n):=by
  unfold F.ea ownT
  simp only[A.ba,decide_eq_true_eq,Named_eq g _ _ hg,name_eq _ hs,Qa]
  by_cases h:n.2.1≠1∧n.2.1≠15
  ·rw[if_pos h,if_pos h]
  ·rw[if_neg h,if_neg h];cases named n.2.2.2.2.1<;>rfl
 have hj: ∀y,F.bC g n y=some (if y=true then false else if ownC n then false else ownT g n):=by
  intro y
  unfold F.bC ownC
  cases y with
  |true=>simp
  |false=>
   simp only[Qy,if_false,A.bo,decide_eq_true_eq,Y]
   by_cases W:n.2.1=14
   ·simp only[W,if_true,true_and,not_true_eq_false,ne_eq,false_and,or_false]
    by_cases I:n.2.2.2.2.2.1<1∨8<n.2.2.2.2.2.1∨n.2.2.2.2.2.2<1∨4<n.2.2.2.2.2.2
    ·rw[if_pos (by omega),if_pos I]
    ·rw[if_neg (by omega),if_neg I]
   ·simp only[W,if_false,false_and,not_false_eq_true,ne_eq,true_and,false_or]
    by_cases I: ¬n.2.2.2.2.2.1=0∨¬n.2.2.2.2.2.2=0
    ·rw[if_pos I,if_pos I]
    ·rw[if_neg I,if_neg I]
 have tail:(if insK n.2.1<0 then F.bC g n true else F.bC g n (decide ((n.2.2.1.length:Int)≠insK n.2.1)))=some (if insK n.2.1<0∨(n.2.2.1.length:Int)≠insK n.2.1 then false else if ownC n then false else ownT g n):=by
  simp only[hj,decide_eq_true_eq]
  by_cases J:insK n.2.1<0
  ·rw[if_pos J,if_pos trivial,if_pos (.inl J)]
  ·by_cases N:(n.2.2.1.length:Int)≠insK n.2.1
   ·rw[if_neg J,if_pos N,if_pos (.inr N)]
   ·have O: ¬(insK n.2.1<0∨(n.2.2.1.length:Int)≠insK n.2.1):=fun h=>h.elim J N
    rw[if_neg J,if_neg N,if_neg O]
 unfold F.fc own
 rw[A.ixn hn,Qa]
 simp only[Qfd,Qa,A.bo,decide_eq_true_eq]
 by_cases J:n.1<1∨255<n.1
 ·rw[if_pos J,hj,if_pos rfl,if_pos (by omega)]
 ·rw[if_neg J]
  by_cases h0:(0:Int)<(i:Int)
  ·rw[if_pos h0,A.gd1 ⟨by omega,by omega⟩]
   have hp:g[i-1]?=some g[i-1]:=Qd (by omega)
   generalize g[i-1]=q at hp
   have e:(i:Int)-1=((i-1:Nat):Int):=by omega
   rw[e,A.ixn hp,Qa,Qav rfl hp]
   by_cases N:n.1≤q.1
   ·rw[if_pos N,hj,if_pos rfl,if_pos (by omega)]
   ·rw[if_neg N,tail]
    by_cases O:insK n.2.1<0∨(n.2.2.1.length:Int)≠insK n.2.1
    ·rw[if_pos O,if_pos (by omega)]
    ·have I: ¬(n.1<1∨255<n.1∨(0:Int)<(i:Int)∧n.1≤q.1∨insK n.2.1<0∨(n.2.2.1.length:Int)≠insK n.2.1):=by omega
     rw[if_neg O,if_neg I]
  ·rw[if_neg h0,tail]
   by_cases O:insK n.2.1<0∨(n.2.2.1.length:Int)≠insK n.2.1
   ·rw[if_pos O,if_pos (by omega)]
   ·have I: ¬(n.1<1∨255<n.1∨(0:Int)<(i:Int)∧n.1≤(at_ g ((i:Int)-1)).1∨insK n.2.1<0∨(n.2.2.1.length:Int)≠insK n.2.1):=by omega
    rw[if_neg O,if_neg I]
def okR (g:List Nd):Nat→List Nd→Bool
 |_,[]=>true
 |k,n::r=>own g (k:Int) n&&okR g (k+1) r
theorem parts_l5 (g:List Nd)(J:g.length≤100)(N: ∀x,x∈g→x.2.2.2.2.1.size≤5000):F.cl g A.FU 0=if okR g 0 g=true then F.bv g A.FU 0 else some 80:=
 A.lp0 g (fun f y=>F.cl g f y) (fun k l=>if okR g k l=true then F.bv g A.FU 0 else some 80)
  (fun f=>by rw[F.cl,if_neg (by omega)];rfl)
  (fun f k x I hk O=>by
   rw[F.cl,if_pos (by omega),R_own_eq g k x I J (N x (Qf I)),Qa,A.gd1 (A.r64n (by omega)),O,okR]
   cases own g (k:Int) x<;>simp)
  (by have:=Qab;omega)
theorem parts_l4 (g:List Nd)(W:g.length≤100)(J: ∀x,x∈g→x.2.2.2.1.2.2.size≤5000):F.bv g A.FU 0=if g.all (fun n=>decide (chk n.2.1 n.2.2.2.1=0))=true then F.aM g A.FU 0 else some 60:=
 A.lp0 g (fun f y=>F.bv g f y) (fun _ l=>if l.all (fun n=>decide (chk n.2.1 n.2.2.2.1=0))=true then F.aM g A.FU 0 else some 60)
  (fun f=>by rw[F.bv,if_neg (by omega)];rfl)
  (fun f k x I hk N=>by
   rw[F.bv,if_pos (by omega),A.ixn I,Qa,Qa,show F.et x.2.1 x.2.2.2.1=_ from Qhn x.2.1 x.2.2.2.1 (J x (Qf I)),Qa,Xx]
   by_cases h:chk x.2.1 x.2.2.2.1=0
   ·rw[if_neg (fun O=>O h),A.gd1 (A.r64n (by omega)),N,decide_eq_true h,Xn]
   ·rw[if_pos h,decide_eq_false h,Y1,if_neg (by simp)])
  (by have:=Qab;omega)
theorem idx_get {g:List Nd}{id:Int}(h:0≤idx g id): ∃n,g[(idx g id).toNat]?=some n∧at_ g (idx g id)=n∧n.1=id:=by
 rcases Qbe z0 g id with⟨I,_⟩|⟨i,n,I,J,N,_⟩
 ·omega
 ·exact⟨n,by rw[I];exact J,Qav I J,N⟩
theorem parts_l3 (g:List Nd)(Y:g.length≤100)(hf: ∀x,x∈g→x.2.2.1.length≤5000):F.aM g A.FU 0=if g.all (fun n=>n.2.2.1.all (inOk g))=true then some 0 else some 80:=
 A.lp0 g (fun f y=>F.aM g f y) (fun _ l=>if l.all (fun n=>n.2.2.1.all (inOk g))=true then some 0 else some 80)
  (fun f=>by rw[F.aM,if_neg (by omega)];rfl)
  (fun f k x J hk ih=>by
   rw[F.aM,if_pos (by omega)]
   have hlen:=hf x (Qf J)
   have loop:=A.lp0 x.2.2.1 (fun N y=>F.bV (F.aM g f) g (k:Int) N y) (fun _ l=>if l.all (inOk g)=true then F.aM g f ((k:Int)+1)else some 80)
    (fun N=>by rw[F.bV,A.ixn J,Qa,if_neg (by omega),A.gd1 (A.r64n (by omega))];rfl)
    (fun N j y hy hj2 O=>by
     rw[F.bV,A.ixn J,Qa,if_pos (by omega),Qa,A.ixn hy,Qa,Qbi g y Y,Qa,Xx]
     simp only[F.dR,if_true,decide_eq_true_eq,A.gd1 (A.r64n (n:=j) (by omega)),O]
     by_cases I:idx g y<0
     ·have:inOk g y=false:=by unfold inOk;rw[if_pos I]
      rw[if_pos I,this];simp
     ·obtain⟨n,h1,h2,_⟩:=idx_get (g:=g) (id:=y) (by omega)
      have e:inOk g y=decide (n.2.1≠15):=by unfold inOk;rw[if_neg I,h2]
      rw[if_neg I,A.ixg (by omega) h1,Qa,e]
      by_cases W:n.2.1=15<;>simp[W])
    (by have:=Qab;omega)
   rw[loop,ih,Xx]
   cases x.2.2.1.all (inOk g)with
   |true=>rw[if_pos rfl,Xn]
   |false=>rw[if_neg Wo,Y1,if_neg Wo])
  (by have:=Qab;omega)
def lastOf (g:List Nd)(k:Nat):Int:=if k=0 then 0 else(at_ g ((k:Int)-1)).1
def BadP (g:List Nd)(k:Nat)(n:Nd):Prop:=n.1≤lastOf g k∨ownQ n=false∨((n.2.1=1∨n.2.1=15)∧twiceF (g.take k) n=true)
theorem Qgd {g:List Nd}{k:Nat}{n:Nd}(h:g[k]?=some n):lastOf g (k+1)=n.1:=by
 unfold lastOf;rw[if_neg (by omega),Qav (k:=k) (by omega) h]
theorem Qiw (g:List Nd): ∀(m k:Nat),k+m=g.length→(okL g k (lastOf g k) (g.drop k)=true↔∀i n,k≤i→g[i]?=some n→¬BadP g i n)
 |0,k,h=>by
  rw[Q0 (by omega),okL]
  exact⟨fun _ i n O I=>by have:=(Qc.1 I).1;omega,fun _=>rfl⟩
 |m+1,k,h=>by
  have J:g[k]?=some g[k]:=Qd (by omega)
  generalize g[k]=x at J
  have W:=Qiw g m (k+1) (by omega)
  rw[Qgd J]at W
  rw[A.dropx J,okL]
  by_cases N:BadP g k x
  ·have hb':x.1≤lastOf g k∨ownQ x=false∨((x.2.1=1∨x.2.1=15)∧twiceF (g.take k) x=true):=N
   rw[if_pos hb']
   exact⟨fun h=>(by cases h),fun h=>absurd N (h k x (Q1 _) J)⟩
  ·have hb': ¬(x.1≤lastOf g k∨ownQ x=false∨((x.2.1=1∨x.2.1=15)∧twiceF (g.take k) x=true)):=N
   rw[if_neg hb',W]
   refine⟨fun h i n O I=>?_,fun h i n O I=>h i n (by omega) I⟩
   rcases Nat.eq_or_lt_of_le O with rfl|Y
   ·rw[J]at I;injection I with I;subst I;exact N
   ·exact h i n Y I
theorem Qit (g:List Nd): ∀(m k:Nat),k+m=g.length→(okR g k (g.drop k)=true↔∀i n,k≤i→g[i]?=some n→own g (i:Int) n=true)
 |0,k,h=>by
  rw[Q0 (by omega),okR]
  exact⟨fun _ i n N I=>by have:=(Qc.1 I).1;omega,fun _=>rfl⟩
 |m+1,k,h=>by
  have J:g[k]?=some g[k]:=Qd (by omega)
  generalize g[k]=x at J
  have O:=Qit g m (k+1) (by omega)
  rw[A.dropx J,okR,Qm,O]
  refine⟨fun h i n N I=>?_,fun h=>⟨h k x (Q1 _) J,fun i n N I=>h i n (by omega) I⟩⟩
  rcases Nat.eq_or_lt_of_le N with rfl|W
  ·rw[J]at I;injection I with I;subst I;exact h.1
  ·exact h.2 i n W I
theorem inc_of {g:List Nd}(h: ∀i n,g[i]?=some n→lastOf g i<n.1):Inc g:=by
 unfold Inc
 have key: ∀(d i:Nat) (a b:Nd),g[i]?=some a→g[i+d+1]?=some b→a.1<b.1:=by
  intro d
  induction d with
  |zero=>intro i a b J I;have:=h _ b I;rw[Qgd J]at this;exact this
  |succ d O=>
   intro i a b J I
   have hl:=(Qc.1 I).1
   have N:g[i+d+1]?=some g[i+d+1]:=Qd (by omega)
   have h1:=O i a _ J N
   have W:=h _ b I
   rw[show i+(d+1)+1=(i+d+1)+1 by omega,Qgd N]at W
   omega
 refine X0.2 fun i j Y hj hij=>?_
 refine key (j-i-1) i _ _ (Qd Y) ?_
 rw[show i+(j-i-1)+1=j by omega]
 exact Qd hj
theorem Qcs (kd:Int)(s:ByteArray): ∀(l:List Nd),(∃(j:Nat) (n:Nd),l[j]?=some n∧n.2.1=kd∧n.2.2.2.2.1=s∧(Qcg kd s l)=(n.1,true)∧∀(i:Nat) (m:Nd),i<j→l[i]?=some m→¬(m.2.1=kd∧m.2.2.2.2.1=s))∨(Qcg kd s l=(0,false)∧∀m∈l,¬(m.2.1=kd∧m.2.2.2.2.1=s))
 | []=>.inr ⟨rfl,by simp⟩
 |x::r=>by
  unfold Qcg
  by_cases h:x.2.1=kd∧x.2.2.2.2.1=s
  ·rw[if_pos h]
   exact .inl ⟨0,x,rfl,h.1,h.2,rfl,fun i m O=>by omega⟩
  ·have h': ¬(kind x=kd∧name x=s):=h
   rw[if_neg h']
   rcases Qcs kd s r with⟨j,n,J,N,W,Y,h5⟩|⟨J,N⟩
   ·refine .inl ⟨j+1,n,J,N,W,Y,fun i m O I=>?_⟩
    cases i with
    |zero=>injection I with I;subst I;exact h
    |succ i=>exact h5 i m (by omega) I
   ·refine .inr ⟨J,fun m I=>?_⟩
    rcases Qk.1 I with rfl|I
    ·exact h
    ·exact N m I
theorem Qhb {l:List Nd}{n:Nd}:twiceF l n=true↔∃m∈l,m.2.1=n.2.1∧m.2.2.2.2.1=n.2.2.2.2.1:=by
 simp only[twiceF,Y0,Qm,decide_eq_true_eq]
theorem own_iff {g:List Nd}(hi:Inc g){k:Nat}{n:Nd}(Y:g[k]?=some n)(hl:lastOf g k<n.1):own g (k:Int) n=true↔¬BadP g k n:=by
 have hname:(n.2.1=1∨n.2.1=15)→((Qcg n.2.1 n.2.2.2.2.1 g).1=n.1↔¬twiceF (g.take k) n=true):=fun _=>by
  rcases Qcs n.2.1 n.2.2.2.2.1 g with⟨j,m,I,N,O,h4,h5⟩|⟨_,N⟩
  ·rw[h4]
   have hjk:j≤k:=by
    rcases Y2 k j with h|h
    ·exact absurd ⟨rfl,rfl⟩ (h5 k n h Y)
    ·exact h
   constructor
   ·intro he W
    have:j=k:=hi.inj I Y he
    subst this
    obtain⟨q,hq,h6⟩:=Qhb.1 W
    obtain⟨i,J⟩:=Wq.1 hq
    rw[Xf]at J
    split at J
    ·rename_i hij;exact h5 i q hij J h6
    ·cases J
   ·intro W
    rcases Y2 j k with h|h
    ·exact absurd (Qhb.2 ⟨m,Wq.2 ⟨j,by rw[Xf,if_pos h];exact I⟩,N,O⟩) W
    ·obtain rfl:j=k:=by omega
     rw[Y]at I;injection I with I;rw[I]
  ·exact absurd ⟨rfl,rfl⟩ (N n (Qf Y))
 have hprev: ¬((0:Int)<(k:Int)∧n.1≤(at_ g ((k:Int)-1)).1):=fun h=>by
  unfold lastOf at hl;rw[if_neg (by omega)]at hl;omega
 unfold own BadP ownQ
 by_cases I:n.1<1∨255<n.1∨insK n.2.1<0∨(n.2.2.1.length:Int)≠insK n.2.1
 ·rw[if_pos (by omega),if_pos I]
  exact⟨fun h=>(by cases h),fun h=>absurd (.inr (.inl rfl)) h⟩
 ·have hc: ¬(n.1<1∨255<n.1∨(0:Int)<(k:Int)∧n.1≤(at_ g ((k:Int)-1)).1∨insK n.2.1<0∨(n.2.2.1.length:Int)≠insK n.2.1):=by omega
  rw[if_neg hc,if_neg I]
  by_cases N:ownC n
  ·rw[if_pos N,if_pos N]
   exact⟨fun h=>(by cases h),fun h=>absurd (.inr (.inl rfl)) h⟩
  ·rw[if_neg N,if_neg N]
   unfold ownT
   by_cases O:n.2.1=1∨n.2.1=15
   ·rw[if_neg (by omega),if_pos O,Qm,decide_eq_true_eq,hname O]
    constructor
    ·rintro⟨a,b⟩ (h|h|h)
     ·omega
     ·rw[a]at h;cases h
     ·exact b h.2
    ·intro h
     refine⟨?_,fun W=>h (.inr (.inr ⟨O,W⟩))⟩
     cases hq:named n.2.2.2.2.1 with
     |true=>rfl
     |false=>exact absurd (.inr (.inl hq)) h
   ·rw[if_pos (by omega),if_neg O]
    constructor
    ·rintro a (h|h|h)
     ·omega
     ·rw[a]at h;cases h
     ·exact O h.1
    ·intro h
     cases hq:decide (n.2.2.2.2.1=ByteArray.mk #[])with
     |true=>rfl
     |false=>exact absurd (.inr (.inl hq)) h
theorem own_last {g:List Nd}{k:Nat}{n:Nd}(h:own g (k:Int) n=true):lastOf g k<n.1:=by
 unfold own at h
 by_cases I:n.1<1∨255<n.1∨(0:Int)<(k:Int)∧n.1≤(at_ g ((k:Int)-1)).1∨insK n.2.1<0∨(n.2.2.1.length:Int)≠insK n.2.1
 ·rw[if_pos I]at h;cases h
 ·unfold lastOf;split<;>omega
theorem ok_eq (g:List Nd):okL g 0 0 g=okR g 0 g:=by
 have N:=Qiw g g.length 0 (by omega)
 have O:=Qit g g.length 0 (by omega)
 rw[Q7]at N O
 rw[show lastOf g 0=0 from rfl]at N
 rw[Y4,N,O]
 constructor
 ·intro h i n _ I
  have J: ∀i n,g[i]?=some n→lastOf g i<n.1:=fun i n I=>by
   have:=h i n (by omega) I
   exact Int.lt_of_not_ge fun W=>this (.inl W)
  exact(own_iff (inc_of J) I (J i n I)).2 (h i n (by omega) I)
 ·intro h i n _ I
  have J: ∀i n,g[i]?=some n→lastOf g i<n.1:=fun i n I=>own_last (h i n (by omega) I)
  exact(own_iff (inc_of J) I (J i n I)).1 (h i n (by omega) I)
theorem ok_inc {g:List Nd}(h:okR g 0 g=true):Inc g:=by
 have I:=Qit g g.length 0 (by omega)
 rw[Q7]at I
 exact inc_of fun i n J=>own_last (I.1 h i n (by omega) J)
theorem parts_eq (g:List Nd)(J:Few g):F.eV g=if(32:Int)<(g.length:Int)then some 80 else if okR g 0 g=true then(if g.all (fun n=>decide (chk n.2.1 n.2.2.2.1=0))=true then(if g.all (fun n=>n.2.2.1.all (inOk g))=true then some 0 else some 80)else some 60)else some 80:=by
 have N:=J.1
 unfold F.eV
 rw[parts_l5 g (by omega) (fun x I=>(J.2 x I).2.1),parts_l4 g (by omega) (fun x I=>(J.2 x I).2.2),parts_l3 g (by omega) (fun x I=>(J.2 x I).1)]
theorem fed_of {g:List Nd}(h:g.all (fun n=>n.2.2.1.all (inOk g))=true):Fed g:=fun x J k hk=>by
 have I:=Qz.1 (Qz.1 h x J) k hk
 unfold inOk at I
 by_cases N:idx g k<0
 ·rw[if_pos N]at I;cases I
 ·omega
theorem bset_len {l:List Bool}{i:Nat}:(l.set i true).length=l.length:=Wr
theorem bget_get {l:List Bool}{i:Nat}(h:i<l.length):l[i]?=some (bget l (i:Int)):=by
 unfold bget;rw[Qr,Qd h];rfl
theorem bix {l:List Bool}{i:Int}(I:0≤i)(h:i<l.length):A.ix l i=some (bget l i):=by
 have e:i=((i.toNat:Nat):Int):=by omega
 rw[e];exact A.ixn (bget_get (by omega))
theorem iix {l:List Int}{i:Int}(I:0≤i)(h:i<l.length):A.ix l i=some (iget l i):=by
 refine A.ixg I ?_
 unfold iget;rw[Qd (by omega)];rfl
theorem ready_eq (g:List Nd)(n:Nd)(done:List Bool)(N:g.length≤100)(hd:done.length=g.length)(hl:n.2.2.1.length≤5000)(O: ∀k∈n.2.2.1,0≤idx g k):F.eW g n done=some (ready g done n):=
 A.lp0 n.2.2.1 (fun f y=>F.bW g n done f y) (fun k l=>some (Qdu g done n.2.1 l))
  (fun f=>by rw[F.bW,if_neg (by omega)];rfl)
  (fun f k x J hk W=>by
   have Y:=O x (Qf J)
   have h2:=(idx_le g x).2
   rw[F.bW,if_pos (by omega),Qdu]
   simp only[F.dS,A.gd1 (A.r64n (n:=k) (by omega)),W]
   by_cases I:n.2.1=14
   ·simp[I]
   ·rw[if_pos I,A.ixn J,Qa,Qbi g x N,Qa,bix Y (by omega),Qa]
    cases bget done (idx g x)<;>simp[I])
  (by have:=Qab;omega)
theorem order_l3 (g:List Nd)(hb:Few g)(hfed:Fed g)(N:List Bool→List Int→Option (List Int×Bool))(done:List Bool)(l:List Int)(hd:done.length=g.length)(hl:l.length≤100):
  F.a2 N g done l A.FU (-1) 0=if Qad g done 0 g (-1)<0 then some ([],false)else N (done.set (Qad g done 0 g (-1)).toNat true) (l++[Qad g done 0 g (-1)]):=
 A.lp g (fun f (a:Int) y=>F.a2 N g done l f a y) (fun k t a=>if Qad g done k t a<0 then some ([],false)else N (done.set (Qad g done k t a).toNat true) (l++[Qad g done k t a])) (fun k a=> -1≤a∧a<g.length)
  (fun f a hp=>by
   rw[F.a2,A.ba,if_neg (by simp),Qad]
   by_cases h:a<0
   ·rw[if_pos h,if_pos h]
   ·rw[if_neg h,if_neg h,bix (by omega) (by omega),Qa,A.gd1 (by simp only[Qj,Qx];omega)])
  (fun f a k x O hk hp W=>by
   have hlen:=hb.1
   rw[F.a2,A.ba,if_pos (by simp;omega),Qad]
   simp only[F.dd,F.dT,A.gd1 (A.r64n (n:=k) (by omega)),Qy,if_false]
   by_cases h:a<0
   ·by_cases I:bget done (k:Int)=true
    ·have e:(if(a<0∧bget done (k:Int)=false)∧ready g done x=true then(k:Int)else a)=a:=if_neg (by rw[I];simp)
     rw[e,if_pos h,bix (by omega) (by omega),Qa,I]
     simp only[Xw,Qy,if_false]
     exact W a hp
    ·rw[Bool.not_eq_true]at I
     have J:F.eW g x done=some (ready g done x):=ready_eq g x done (by omega) hd (hb.in O) (hfed x (Qf O))
     by_cases Y:ready g done x=true
     ·have e:(if(a<0∧bget done (k:Int)=false)∧ready g done x=true then(k:Int)else a)=k:=if_pos ⟨⟨h,I⟩,Y⟩
      rw[e,if_pos h,bix (by omega) (by omega),Qa,I]
      simp only[Yt,if_true,A.ixn O,Qa]
      rw[J,Qa,if_pos Y];exact W k (by omega)
     ·have e:(if(a<0∧bget done (k:Int)=false)∧ready g done x=true then(k:Int)else a)=a:=if_neg (fun h2=>Y h2.2)
      rw[e,if_pos h,bix (by omega) (by omega),Qa,I]
      simp only[Yt,if_true,A.ixn O,Qa]
      rw[J,Qa,if_neg Y];exact W a hp
   ·have e:(if(a<0∧bget done (k:Int)=false)∧ready g done x=true then(k:Int)else a)=a:=if_neg (fun h2=>h h2.1.1)
    rw[e,if_neg h];exact W a hp)
  (by have:=Qab;have:=hb.1;omega) (-1) (by omega)
def ordR (g:List Nd)(r:Nat)(done:List Bool)(l:List Int):List Int×Bool:=match Qap g r done l with
 |some l'=>(l',true)
 |none=>([],false)
theorem order_l4 (g:List Nd)(I:Few g)(hfed:Fed g): ∀(r f:Nat) (done:List Bool) (l:List Int),r<f→l.length+r=g.length→done.length=g.length→F.bw g f done l=some (ordR g r done l)
 |0,f,done,l,N,O,J=>by
  obtain⟨f,rfl⟩: ∃f',f=f'+1:=⟨f-1,by omega⟩
  rw[F.bw,if_neg (by omega)];rfl
 |r+1,f,done,l,N,O,J=>by
  obtain⟨f,rfl⟩: ∃f',f=f'+1:=⟨f-1,by omega⟩
  have:=I.1
  rw[F.bw,if_pos (by omega),order_l3 g I hfed _ done l J (by omega),ordR,Qap]
  by_cases h:Qad g done 0 g (-1)<0
  ·rw[if_pos h,if_pos h]
  ·rw[if_neg h,if_neg h,order_l4 g I hfed r f _ _ (by omega) (by simp only[Ql,Qj,Qx];omega) (by rw[bset_len];exact J)]
   rfl
theorem R_order_eq (g:List Nd)(I:Few g)(hfed:Fed g):F.dU g=some (ordR g g.length (List.replicate g.length false) []):=by
 have:=I.1
 unfold F.dU
 rw[A.gd1 (by omega),order_l4 g I hfed g.length A.FU _ [] (by have:=Qab;omega) (by simp) (by simp)]
def Qdv (m:List (Int×Bool))(n:Nd):Bool:=n.2.2.1.all fun k=>Z.mget false m k||decide (n.2.1=14)
def Qfq (m:List (Int×Bool)):List Nd→Option Nd
 | []=>none
 |n::r=>if Z.mget false m n.1=false∧Qdv m n=true then some n else Qfq m r
def sortS (g:List Nd):Nat→List (Int×Bool)→List Int→List Int
 |0,_,xs=>xs
 |r+1,m,xs=>match Qfq m g with
  |some n=>sortS g r (Z.mins m n.1 true) (xs++[n.1])
  |none=>sortS g r m xs
abbrev PlR:=Option (Bool×((List (Int×Nd))×(List Int)×(List (Int×Int))))
theorem sort_l4 (g:List Nd)(J:Few g)(k29:List Int→List (Int×Bool)→Int→PlR)(xs:List Int)(m:List (Int×Bool))(y:Int)(hxs:xs.length≤100)(hy:0≤y∧y≤100):
  F.ab k29 g xs m y A.FU 0=match Qfq m g with
   |some n=>k29 (xs++[n.1]) (Z.mins m n.1 true) (y+1)
   |none=>k29 xs m (y+1):=
 A.lp0 g (fun f i=>F.ab k29 g xs m y f i) (fun _ l=>match Qfq m l with
   |some n=>k29 (xs++[n.1]) (Z.mins m n.1 true) (y+1)
   |none=>k29 xs m (y+1))
  (fun f=>by rw[F.ab,if_neg (by omega),F.bE,A.gd1 ⟨by omega,by omega⟩];rfl)
  (fun f k x Y hk ih=>by
   have hlen:=J.1
   have hin:=J.in Y
   rw[F.ab,if_pos (by omega),A.ixn Y,Qa,A.lt,Qfq]
   have loop:=A.lp0 x.2.2.1 (fun N j=>F.bb k29 (F.ab k29 g xs m y f) xs m y (k:Int) x N j) (fun _ l=>if l.all (fun k=>Z.mget false m k||decide (x.2.1=14))=true then k29 (xs++[x.1]) (Z.mins m x.1 true) (y+1)else F.ab k29 g xs m y f ((k:Int)+1))
    (fun N=>by rw[F.bb,if_neg (by omega),A.gd1 (by simp only[Qj,Qx];omega),F.bE,A.gd1 ⟨by omega,by omega⟩];rfl)
    (fun N j z hz hj O=>by
     rw[F.bb,if_pos (by omega),A.ixn hz,Qa,A.lt,A.gd1 (A.r64n (by omega)),O,F.bF,A.gd1 (A.r64n (by omega)),Xx]
     cases hm:Z.mget false m z<;>by_cases W:x.2.1=14<;>simp[W])
    (by have:=Qab;omega)
   rw[loop,F.bF,A.gd1 (A.r64n (by omega)),ih]
   cases hm:Z.mget false m x.1 with
   |true=>
    have e: ¬((true:Bool)=false∧Qdv m x=true):=fun h=>by cases h.1
    rw[if_pos rfl,if_neg e]
   |false=>
    rw[if_neg Wo]
    by_cases I:Qdv m x=true
    ·have e:(false:Bool)=false∧Qdv m x=true:=⟨rfl,I⟩
     rw[if_pos (show(x.2.2.1.all fun k=>Z.mget false m k||decide (x.2.1=14))=true from I),if_pos e]
    ·have e: ¬((false:Bool)=false∧Qdv m x=true):=fun h=>I h.2
     rw[if_neg (show ¬(x.2.2.1.all fun k=>Z.mget false m k||decide (x.2.1=14))=true from I),if_neg e])
  (by have:=Qab;have:=J.1;omega)
theorem Qih (g:List Nd)(I:Few g)(a0:(List (Int×Nd))×(List Int)×(List (Int×Int))): ∀(r f:Nat) (m:List (Int×Bool)) (xs:List Int) (y:Nat),r<f→y+r=g.length→xs.length≤y→F.ap a0 g f xs m (y:Int)=some (decide (((sortS g r m xs).length:Int)=(g.length:Int)),(a0.1,sortS g r m xs,a0.2.2))
 |0,f,m,xs,y,J,N,O=>by
  obtain⟨f,rfl⟩: ∃f',f=f'+1:=⟨f-1,by omega⟩
  rw[F.ap,if_neg (by omega)];rfl
 |r+1,f,m,xs,y,J,N,O=>by
  obtain⟨f,rfl⟩: ∃f',f=f'+1:=⟨f-1,by omega⟩
  have:=I.1
  rw[F.ap,if_pos (by omega),sort_l4 g I _ xs m y (by omega) (by omega),sortS]
  have e:(y:Int)+1=((y+1:Nat):Int):=by omega
  cases Qfq m g with
  |none=>simp only[];rw[e,Qih g I a0 r f m xs (y+1) (by omega) (by omega) (by omega)]
  |some n=>simp only[];rw[e,Qih g I a0 r f _ _ (y+1) (by omega) (by omega) (by simp only[Ql,Qj,Qx];omega)]
theorem sort_eq (g:List Nd)(I:Few g)(m:List (Int×Nd)):F.bl (m,[],[]) g=some (decide (((sortS g g.length [] []).length:Int)=(g.length:Int)),(m,sortS g g.length [] [],[])):=by
 unfold F.bl
 exact Qih g I (m,[],[]) g.length A.FU [] [] 0 (by have:=Qab;have:=I.1;omega) (by omega) (by simp)
def Rel (g:List Nd)(done:List Bool)(m:List (Int×Bool)):Prop:=∀(i:Nat) (n:Nd),g[i]?=some n→Z.mget false m n.1=bget done (i:Int)
theorem ready_rel {g:List Nd}{done:List Bool}{m:List (Int×Bool)}(h:Rel g done m){n:Nd}(I: ∀k∈n.2.2.1,0≤idx g k):Qdv m n=ready g done n:=by
 unfold Qdv ready
 generalize n.2.2.1=l at I
 induction l with
 |nil=>rfl
 |cons k r W=>
  rw[Xx,W fun x Y=>I x (Qe _ Y),Qdu]
  have N:=I k (Qg ..)
  obtain⟨q,h1,h2,h3⟩:=idx_get N
  have O:=h _ q h1
  rw[h3,W5 N]at O
  rw[O]
  cases bget done (idx g k)<;>by_cases J:n.2.1=14<;>simp[J]
theorem Qdo (g:List Nd)(done:List Bool): ∀(k:Nat) (l:List Nd) (a:Int),0≤a→Qad g done k l a=a
 |_,[],_,_=>rfl
 |k,x::r,a,h=>by
  unfold Qad
  rw[if_neg (fun I=>by omega)]
  exact Qdo g done (k+1) r a h
theorem Qer {g:List Nd}{done:List Bool}{m:List (Int×Bool)}(h:Rel g done m)(N:Fed g): ∀(r k:Nat),k+r=g.length→(Qad g done k (g.drop k) (-1)= -1∧Qfq m (g.drop k)=none)∨(∃(i:Nat) (n:Nd),Qad g done k (g.drop k) (-1)=(i:Int)∧g[i]?=some n∧Qfq m (g.drop k)=some n∧bget done (i:Int)=false)
 |0,k,hk=>by
  rw[Q0 (by omega)];exact .inl ⟨rfl,rfl⟩
 |r+1,k,hk=>by
  have J:g[k]?=some g[k]:=Qd (by omega)
  generalize g[k]=x at J
  rw[A.dropx J,Qad,Qfq,h k x J,ready_rel h (N x (Qf J))]
  by_cases I:bget done (k:Int)=false∧ready g done x=true
  ·rw[if_pos I,if_pos ⟨⟨by omega,I.1⟩,I.2⟩,Qdo _ _ _ _ _ (by omega)]
   exact .inr ⟨k,x,rfl,J,rfl,I.1⟩
  ·rw[if_neg I,if_neg (fun O=>I ⟨O.1.2,O.2⟩)]
   exact Qer h N r (k+1) (by omega)
def idAt (g:List Nd)(i:Int):Int:=(at_ g i).1
theorem rel_set {g:List Nd}(N:Inc g){done:List Bool}{m:List (Int×Bool)}(h:Rel g done m)(W:done.length=g.length){i:Nat}{n:Nd}(I:g[i]?=some n):Rel g (done.set i true) (Z.mins m n.1 true):=fun j q hq=>by
 rw[Ux]
 have Y:=(Qc.1 I).1
 by_cases e:q.1=n.1
 ·have:=N.inj hq I e
  subst this
  rw[if_pos e]
  unfold bget
  rw[Qr,Yf (by omega)];rfl
 ·rw[if_neg e,h j q hq]
  have J:i≠j:=fun O=>e (by subst O;rw[I]at hq;injection hq with hq;rw[hq])
  unfold bget
  rw[Qr,Jb J]
theorem Qfb {g:List Nd}(O:Inc g)(W:Fed g): ∀(r:Nat) (done:List Bool) (m:List (Int×Bool)) (l:List Int),Rel g done m→done.length=g.length→(∃l',Qap g r done l=some l'∧sortS g r m (l.map (idAt g))=l'.map (idAt g)∧l'.length=l.length+r)∨(Qap g r done l=none∧(sortS g r m (l.map (idAt g))).length <l.length+r)
 |0,done,m,l,_,_=>.inl ⟨l,rfl,rfl,rfl⟩
 |r+1,done,m,l,h,Y=>by
  rw[Qap,sortS]
  rcases Qer h W g.length 0 (by omega)with⟨J,I⟩|⟨i,n,J,I,h3,h4⟩
  ·rw[Q7]at J I
   rw[J,if_pos (by omega),I]
   refine .inr ⟨rfl,?_⟩
   simp only[]
   have stay: ∀(r:Nat) (xs:List Int),sortS g r m xs=xs:=by
    intro r
    induction r with
    |zero=>intro xs;rfl
    |succ r ih=>intro xs;rw[sortS,I];exact ih xs
   rw[stay,Qw];omega
  ·rw[Q7]at J h3
   rw[J,if_neg (by omega),h3,Qr]
   simp only[]
   have e:l.map (idAt g)++[n.1]=(l++[(i:Int)]).map (idAt g):=by
    rw[Yg];simp only[Q4,Xr,idAt,Qav rfl I]
   rw[e]
   rcases Qfb O W r (done.set i true) (Z.mins m n.1 true) (l++[(i:Int)]) (rel_set O h Y I) (by rw[bset_len];exact Y)with⟨l',N,h6,h7⟩|⟨N,h6⟩
   ·exact .inl ⟨l',N,h6,by rw[h7];simp only[Ql,Qj,Qx];omega⟩
   ·exact .inr ⟨N,by simp only[Ql,Qj,Qx]at h6;omega⟩
theorem rel_0 (g:List Nd):Rel g (List.replicate g.length false) []:=fun i n I=>by
 unfold bget
 rw[Qr,Xb]
 split<;>rfl
theorem order_sort {g:List Nd}(N:Few g)(Y:Inc g)(O:Fed g)(m:List (Int×Nd)):(∃l,F.dU g=some (l,true)∧F.bl (m,[],[]) g=some (true,(m,l.map (idAt g),[]))∧l.length=g.length∧Qap g g.length (List.replicate g.length false) []=some l)∨(F.dU g=some ([],false)∧∃p,F.bl (m,[],[]) g=some (false,p)):=by
 rw[R_order_eq g N O,sort_eq g N m,ordR]
 rcases Qfb Y O g.length (List.replicate g.length false) [] [] (rel_0 g) (by simp)with⟨l,J,I,W⟩|⟨J,I⟩
 ·rw[Xr]at I
  rw[J,I]
  left
  refine⟨l,rfl,?_,by simpa using W,rfl⟩
  rw[Qw,decide_eq_true (by simp at W;omega)]
 ·rw[Xr]at I
  rw[J]
  right
  refine⟨rfl,(m,sortS g g.length [] [],[]),?_⟩
  rw[decide_eq_false (by simp at I;omega)]
end Go.Proofs.YtlbnpmfggfbdoaaGreatDoor
end
section
namespace Go.A
theorem mrg_any {α β:Type}[DecidableEq β]{body:α→Option (Option β)}{rest:Option β}{y:β}{p:α→Bool}: ∀{l:List α},(∀x∈l,body x=if p x=true then some (some y)else some none)→mrg body rest l=if l.any p=true then some y else rest
 | [],_=>rfl
 |x::l,h=>by
  have N:=h x (Qg ..)
  have O:=mrg_any (rest:=rest) (l:=l) fun z I=>h z (Qe _ I)
  unfold mrg
  rw[N,X6]
  cases hp:p x with
  |true=>
   simp only[Qa,if_true,Bool.true_or]
   rw[if_pos]
   rw[Qz]
   intro z I
   have J:=h z (Qe _ I)
   refine decide_eq_true ?_
   rw[J]
   cases p z<;>simp
  |false=>
   simp only[Qa,Qy,if_false,Xv]
   exact O
end Go.A
namespace Go.Proofs.YtlbnpmfggfbdoaaGreatDoor
open Go.RowKit Go.Graph
theorem R_depth_eq (n:Nd)(l:List Int)(h5:n.2.1=5∨n.2.1=9→2≤l.length)(hb: -1≤d0 l∧d0 l≤4):F.eu n l=some (depthOf n l):=by
 have O:F.dg n l (d0 l)=some (depthOf n l):=by
  unfold F.dg depthOf Qcv
  have W: ∀y,F.a3 y=some (capd y):=fun y=>by unfold F.a3 F.dV capd;split<;>rfl
  have Y: ∀y,(y=true↔n.2.1=5∨n.2.1=9)→F.df n l (d0 l) y=some (capd (if n.2.1=5∨n.2.1=9 then(if iget l 0≠iget l 1 then-1 else d0 l)else if n.2.1=11∨n.2.1=16∨n.2.1=15 then(if d0 l≠0 then-1 else d0 l)else d0 l)):=fun y hy=>by
   unfold F.df F.de
   simp only[W,decide_eq_true_eq]
   by_cases h:n.2.1=5∨n.2.1=9
   ·have:=h5 h
    rw[if_pos (hy.2 h),if_pos h,iix (i:=0) (by omega) (by omega),Qa,iix (i:=1) (by omega) (by omega),Qa]
    by_cases e:iget l 0=iget l 1
    ·rw[if_neg (fun h=>h e),if_neg (fun h=>h e)]
    ·rw[if_pos e,if_pos e]
   ·rw[if_neg (fun h2=>h (hy.1 h2)),if_neg h]
    by_cases h11:n.2.1=11
    ·simp only[h11,if_true,true_or];split<;>rfl
    ·by_cases h16:n.2.1=16
     ·simp only[h16,if_true,true_or,or_true,if_false,Int.reduceEq];split<;>rfl
     ·by_cases h15:n.2.1=15
      ·simp only[h15,if_true,or_true,if_false,Int.reduceEq];split<;>rfl
      ·simp only[h11,h16,h15,if_false,or_self]
  simp only[W]
  by_cases I:n.2.1=14
  ·rw[if_pos I,if_pos I]
  ·rw[if_neg I,if_neg I]
   by_cases J:n.2.1=12
   ·rw[if_pos J,if_pos J,A.gd1 ⟨by omega,by omega⟩]
   ·rw[if_neg J,if_neg J]
    by_cases N:n.2.1=13
    ·rw[if_pos N,if_pos N,A.gd1 ⟨by omega,by omega⟩]
    ·rw[if_neg N,if_neg N]
     by_cases h5':n.2.1=5
     ·rw[if_pos h5',Y _ (by simp[h5'])]
     ·rw[if_neg h5',Y _ (by simp[h5'])]
 unfold F.eu
 by_cases h:(0:Int)<(l.length:Int)
 ·rw[if_pos h,iix (i:=0) (by omega) (by omega),Qa,Qif];exact O
 ·rw[if_neg h,d0_nil (l:=l) (by omega)];exact O
def Own (g:List Nd):Prop:=∀n,n∈g→ownQ n=true
theorem own_ins {n:Nd}(h:ownQ n=true):0≤insK n.2.1∧(n.2.2.1.length:Int)=insK n.2.1:=by
 unfold ownQ at h
 by_cases I:n.1<1∨255<n.1∨insK n.2.1<0∨(n.2.2.1.length:Int)≠insK n.2.1
 ·rw[if_pos I]at h;cases h
 ·omega
theorem own_id {n:Nd}(h:ownQ n=true):1≤n.1∧n.1≤255:=by
 unfold ownQ at h
 by_cases I:n.1<1∨255<n.1∨insK n.2.1<0∨(n.2.2.1.length:Int)≠insK n.2.1
 ·rw[if_pos I]at h;cases h
 ·omega
theorem own_D {n:Nd}(h:ownQ n=true):(n.2.1=14→1≤n.2.2.2.2.2.2∧n.2.2.2.2.2.2≤4)∧(n.2.1≠14→n.2.2.2.2.2.2=0):=by
 unfold ownQ at h
 by_cases I:n.1<1∨255<n.1∨insK n.2.1<0∨(n.2.2.1.length:Int)≠insK n.2.1
 ·rw[if_pos I]at h;cases h
 ·rw[if_neg I]at h
  by_cases J:ownC n
  ·rw[if_pos J]at h;cases h
  ·unfold ownC at J;omega
theorem insK_cases (k:Int)(h:0≤insK k):(k=1∧insK k=0)∨((k=5∨k=9)∧insK k=2)∨(k≠1∧k≠5∧k≠9∧insK k=1):=by
 unfold insK at h ⊢
 by_cases I:k<1∨16<k
 ·rw[if_pos I]at h;omega
 ·rw[if_neg I]
  by_cases J:k=1
  ·rw[if_pos J];omega
  ·rw[if_neg J]
   by_cases N:k=5∨k=9
   ·rw[if_pos N];omega
   ·rw[if_neg N];omega
theorem own_len {n:Nd}(h:ownQ n=true):(n.2.1=1∧n.2.2.1.length=0)∨((n.2.1=5∨n.2.1=9)∧n.2.2.1.length=2)∨(n.2.1≠1∧n.2.1≠5∧n.2.1≠9∧n.2.2.1.length=1):=by
 have J:=own_ins h
 rcases insK_cases n.2.1 J.1 with I|I|I<;>omega
theorem Qfz {l:List Int}{i:Nat}{v:Int}:(l.set i v).length=l.length:=Wr
theorem depths_l1 (g:List Nd)(l d:List Int)(y:Nat)(p:Nat)(x:Nd)(N:List Int→Int→Option (List Int×Bool))(hb:Few g)(hfed:Fed g)(ho:Own g)(hd:d.length=g.length)(O:InB d)(hp:l[y]?=some (p:Int))(hy:y<100)(W:g[p]?=some x):
  F.b2 N g l d (y:Int) x A.FU [] 0=if depthOf x (inD g d x.2.2.1)<0 then some ([],false)else N (d.set p (depthOf x (inD g d x.2.2.1))) ((y:Int)+1):=by
 have hlen:=hb.1
 have hin:=hb.in W
 have hpl:=(Qc.1 W).1
 have I:=Qf W
 have loop:=A.lp x.2.2.1 (fun f (s:List Int) i=>F.b2 N g l d (y:Int) x f s i) (fun _ t s=>if depthOf x (s++inD g d t)<0 then some ([],false)else N (d.set p (depthOf x (s++inD g d t))) ((y:Int)+1)) (fun k s=>s=inD g d (x.2.2.1.take k))
  (fun f s J=>by
   rw[W8 (Q1 _)]at J
   subst J
   have hdep:F.eu x (inD g d x.2.2.1)=some (depthOf x (inD g d x.2.2.1)):=R_depth_eq x (inD g d x.2.2.1) (fun h=>by rcases own_len (ho x I)with Y|Y|Y<;>simp only[inD,Qw]<;>omega) (O.d0 g _)
   have e:(inD g d x.2.2.1++inD g d ([]:List Int))=inD g d x.2.2.1:=by simp[inD]
   rw[F.b2,if_neg (by omega),A.ixn hp,Qa,hdep,Qa,iix (by omega) (by omega),Qa,Qa,e,iix (by omega) (by rw[Qfz];omega),Qa,A.gd1 (A.r64n (by omega)),Qr]
   have e2:iget (d.set p (depthOf x (inD g d x.2.2.1))) (p:Int)=depthOf x (inD g d x.2.2.1):=by
    unfold iget;rw[Qr,Yf (by omega)];rfl
   rw[e2])
  (fun f s k z hz hk J ih=>by
   have h1:=hfed x I z (Qf hz)
   have Y:=(idx_le g z).2
   rw[F.b2,if_pos (by omega),A.ixn hz,Qa,Qbi g z (by omega),Qa,iix h1 (by omega),Qa]
   have hs2:s++[iget d (idx g z)]=inD g d (x.2.2.1.take (k+1)):=by rw[J];exact inD_take hz
   rw[A.gd1 (by rw[J];simp only[inD,Qw,Qv,Qj,Qx];omega),A.gd1 (A.r64n (by omega)),ih _ hs2]
   simp only[inD,Q4,Wb,X4])
  (by have:=Qab;omega) [] (by simp[inD])
 rw[loop]
 rfl
theorem depths_l3 (g:List Nd)(d:List Int)(W:Few g)(hfed:Fed g)(ho:Own g)(hd:d.length=g.length):F.bh g d A.FU 0=if Qbd g d g=true then some (d,true)else some ([],false):=
 A.lp0 g (fun f y=>F.bh g d f y) (fun _ t=>if Qbd g d t=true then some (d,true)else some ([],false))
  (fun f=>by rw[F.bh,if_neg (by omega)];rfl)
  (fun f k x Y hk ih=>by
   have hlen:=W.1
   have J:=Qf Y
   rw[F.bh,if_pos (by omega),A.ixn Y,Qa,Qbd]
   simp only[F.dv,A.gd1 (A.r64n (n:=k) (by omega)),ih,decide_eq_true_eq]
   by_cases I:x.2.1=14
   ·have hl:x.2.2.1.length=1:=by rcases own_len (ho x J)with O|O|O<;>omega
    have N:x.2.2.1[0]?=some (iget x.2.2.1 0):=by
     unfold iget
     rw[show(0:Int).toNat=0 from rfl,Qd (by omega)];rfl
    have h1:=hfed x J _ (Qf N)
    have O:=(idx_le g (iget x.2.2.1 0)).2
    rw[if_pos I,show A.ix x.2.2.1 0=_ from A.ixn N,Qa,Qbi g _ (by omega),Qa,iix h1 (by omega),Qa]
    by_cases e:iget d (idx g (iget x.2.2.1 0))≠x.2.2.2.2.2.2
    ·rw[if_pos e]
     have e2:x.2.1=14∧iget d (idx g (iget x.2.2.1 0))≠x.2.2.2.2.2.2:=⟨I,e⟩
     rw[if_pos e2,if_neg Wo]
    ·rw[if_neg e]
     have e2: ¬(x.2.1=14∧iget d (idx g (iget x.2.2.1 0))≠x.2.2.2.2.2.2):=fun h=>e h.2
     rw[if_neg e2]
   ·have e2: ¬(x.2.1=14∧iget d (idx g (iget x.2.2.1 0))≠x.2.2.2.2.2.2):=fun h=>I h.1
    rw[if_neg I,if_neg Wo,if_neg e2])
  (by have:=Qab;have:=W.1;omega)
def Plc (g:List Nd)(l:List Int):Prop:=∀(i:Nat) (p:Int),l[i]?=some p→∃(k:Nat) (n:Nd),p=(k:Int)∧g[k]?=some n
theorem depths_l4 (g:List Nd)(l:List Int)(J:Few g)(hfed:Fed g)(W:Own g)(hl:l.length≤60)(hp:Plc g l):F.dq g l=some (depths g l):=by
 have hlen:=J.1
 have loop:=A.lp l (fun f (s:List Int) i=>F.b3 g l f s i) (fun _ t s=>match Qal g t s with
  |some d=>if Qbd g d g=true then some (d,true)else some ([],false)
  |none=>some ([],false)) (fun k s=>s.length=g.length∧InB s)
  (fun f s I=>by rw[F.b3,if_neg (by omega),depths_l3 g s J hfed W I.1];rfl)
  (fun f s k x N hk I Y=>by
   obtain⟨q,n,rfl,O⟩:=hp k x N
   rw[F.b3,if_pos (by omega),A.ixn N,Qa,A.ixn O,Qa,depths_l1 g l s k q n _ J hfed W I.1 I.2 N (by omega) O,Qal,Qav rfl O]
   by_cases h:depthOf n (inD g s n.2.2.1)<0
   ·rw[if_pos h,if_pos h]
   ·rw[if_neg h,if_neg h,Qr]
    exact Y _ ⟨by rw[Qfz];exact I.1,I.2.set q (by omega) (Qet n _)⟩)
  (by have:=Qab;omega) (List.replicate g.length 0) ⟨by simp,InB.rep _⟩
 unfold F.dq depths
 rw[A.gd1 (by omega),loop]
 cases Qal g l (List.replicate g.length 0)with
 |none=>rfl
 |some d=>simp only[];cases Qbd g d g<;>rfl
end Go.Proofs.YtlbnpmfggfbdoaaGreatDoor
end
section
namespace Go.Proofs.YtlbnpmfggfbdoaaGreatDoor
open Go.RowKit Go.Graph
def RelD (g:List Nd)(d:List Int)(dm:List (Int×Int)):Prop:=∀(i:Nat) (n:Nd),g[i]?=some n→Z.mget 0 dm n.1=iget d (i:Int)
theorem RelD.in {g:List Nd}{d:List Int}{dm:List (Int×Int)}(h:RelD g d dm){k:Int}(I:0≤idx g k):Z.mget 0 dm k=iget d (idx g k):=by
 obtain⟨q,N,_,O⟩:=idx_get I
 have J:=h _ q N
 rw[O,W5 I]at J
 exact J
theorem iget_nat {l:List Int}{i:Nat}(h:i<l.length):l[i]?=some (iget l (i:Int)):=by
 unfold iget;rw[Qr,Qd h];rfl
theorem inD_at {g:List Nd}{d l:List Int}{i:Nat}{k:Int}(h:l[i]?=some k):iget (inD g d l) (i:Int)=iget d (idx g k):=by
 unfold iget
 rw[Qr,inD,Qu,h];rfl
theorem out_eq (g:List Nd)(d:List Int)(a0:(List (Int×Nd))×(List Int)×(List (Int×Int)))(n:Nd)(hr:RelD g d a0.2.2)(hib:InB d)(ho:ownQ n=true)(hf: ∀k∈n.2.2.1,0≤idx g k):
  ∃v b,F.cA a0 n=some (v,b)∧((b=false∧depthOf n (inD g d n.2.2.1)<0)∨(b=true∧v=depthOf n (inD g d n.2.2.1)∧0≤v)):=by
 have hlen:=own_len ho
 have hD:=own_D ho
 unfold F.cA
 by_cases h1:n.2.1=1
 ·have hl:n.2.2.1=[]:=Wp (by omega)
  rw[if_pos h1]
  refine⟨0,true,rfl,.inr ⟨rfl,?_,Xl _⟩⟩
  unfold depthOf Qcv capd
  simp only[h1,hl,inD,Xr,d0];simp
 ·rw[if_neg h1]
  by_cases I:n.2.1=14
  ·rw[if_pos I]
   have:=hD.1 I
   refine⟨_,true,rfl,.inr ⟨rfl,?_,by omega⟩⟩
   unfold depthOf Qcv capd
   rw[if_pos I,if_neg (by omega)]
  ·rw[if_neg I]
   have hpos:0<n.2.2.1.length:=by omega
   obtain⟨k0,J⟩: ∃k0,n.2.2.1[0]?=some k0:=⟨_,Qd hpos⟩
   have f0:=hf k0 (Qf J)
   have b0:=hib (idx g k0)
   have e0:d0 (inD g d n.2.2.1)=iget d (idx g k0):=by rw[←Qif];exact inD_at J
   rw[show A.ix n.2.2.1 0=_ from A.ixn J,Qa,A.lt,hr.in f0]
   have hj3: ∀y,(y=true↔(n.2.1=5∨n.2.1=9)∧iget (inD g d n.2.2.1) 0≠iget (inD g d n.2.2.1) 1)→∃v b,F.b0 n (iget d (idx g k0)) y=some (v,b)∧((b=false∧depthOf n (inD g d n.2.2.1)<0)∨(b=true∧v=depthOf n (inD g d n.2.2.1)∧0≤v)):=fun y hy=>by
    unfold F.b0 depthOf Qcv
    rw[if_neg I,e0]
    by_cases N:y=true
    ·have Y:=hy.1 N
     rw[if_pos N]
     refine⟨0,false,rfl,.inl ⟨rfl,?_⟩⟩
     rw[if_neg (by omega),if_neg (by omega),if_pos Y.1,if_pos Y.2];decide
    ·have Y: ¬((n.2.1=5∨n.2.1=9)∧iget (inD g d n.2.2.1) 0≠iget (inD g d n.2.2.1) 1):=fun h=>N (hy.2 h)
     rw[if_neg N]
     simp only[F.bY,F.bZ,A.ba]
     by_cases O:n.2.1=12
     ·rw[if_pos O,if_pos O,A.gd1 ⟨by omega,by omega⟩]
      unfold capd
      by_cases h4:4<iget d (idx g k0)+1
      ·exact⟨_,_,rfl,.inl ⟨decide_eq_false (by omega),by rw[if_pos h4];decide⟩⟩
      ·exact⟨_,_,rfl,.inr ⟨decide_eq_true (by omega),by rw[if_neg h4],by omega⟩⟩
     ·rw[if_neg O,if_neg O]
      by_cases W:n.2.1=13
      ·rw[if_pos W,if_pos W,A.gd1 ⟨by omega,by omega⟩]
       unfold capd
       rw[if_neg (by omega)]
       by_cases h4:0≤iget d (idx g k0)-1
       ·exact⟨_,_,rfl,.inr ⟨decide_eq_true (by omega),rfl,h4⟩⟩
       ·exact⟨_,_,rfl,.inl ⟨decide_eq_false (by omega),by omega⟩⟩
      ·rw[if_neg W,if_neg W]
       have hz: ∀x:Int,n.2.1=11∨n.2.1=16∨n.2.1=15→∃v b,(some (iget d (idx g k0),decide (iget d (idx g k0)=0)):Option (Int×Bool))=some (v,b)∧((b=false∧capd (if n.2.1=5∨n.2.1=9 then if iget (inD g d n.2.2.1) 0≠iget (inD g d n.2.2.1) 1 then-1 else iget d (idx g k0)else if n.2.1=11∨n.2.1=16∨n.2.1=15 then if iget d (idx g k0)≠0 then-1 else iget d (idx g k0)else iget d (idx g k0))<0)∨(b=true∧v=capd (if n.2.1=5∨n.2.1=9 then if iget (inD g d n.2.2.1) 0≠iget (inD g d n.2.2.1) 1 then-1 else iget d (idx g k0)else if n.2.1=11∨n.2.1=16∨n.2.1=15 then if iget d (idx g k0)≠0 then-1 else iget d (idx g k0)else iget d (idx g k0))∧0≤v)):=fun _ hk=>by
        rw[if_neg (by omega),if_pos hk]
        by_cases h0:iget d (idx g k0)=0
        ·rw[h0];exact⟨_,_,rfl,.inr ⟨rfl,rfl,Xl _⟩⟩
        ·rw[if_pos h0];exact⟨_,_,rfl,.inl ⟨decide_eq_false h0,by decide⟩⟩
       by_cases h11:n.2.1=11
       ·rw[if_pos h11];exact hz 0 (.inl h11)
       ·rw[if_neg h11]
        by_cases h16:n.2.1=16
        ·rw[if_pos h16];exact hz 0 (.inr (.inl h16))
        ·rw[if_neg h16]
         by_cases h15:n.2.1=15
         ·rw[if_pos h15];exact hz 0 (.inr (.inr h15))
         ·rw[if_neg h15]
          refine⟨_,_,rfl,.inr ⟨decide_eq_true (by omega),?_,by omega⟩⟩
          by_cases h5:n.2.1=5∨n.2.1=9
          ·rw[if_pos h5,if_neg (fun h=>Y ⟨h5,h⟩)];unfold capd;rw[if_neg (by omega)]
          ·rw[if_neg h5,if_neg (by omega)];unfold capd;rw[if_neg (by omega)]
   by_cases Y:(1:Int)<(n.2.2.1.length:Int)
   ·have h5:n.2.1=5∨n.2.1=9:=by omega
    obtain⟨k1,hk1⟩: ∃k1,n.2.2.1[1]?=some k1:=⟨_,Qd (by omega)⟩
    have f1:=hf k1 (Qf hk1)
    rw[if_pos Y,show A.ix n.2.2.1 1=_ from A.ixn hk1,Qa,A.lt,hr.in f1]
    refine hj3 _ ?_
    rw[decide_eq_true_eq,show iget (inD g d n.2.2.1) 0=_ from inD_at J,show iget (inD g d n.2.2.1) 1=_ from inD_at hk1]
    exact⟨fun h=>⟨h5,fun e=>h e.symm⟩,fun h e=>h.2 e.symm⟩
   ·rw[if_neg Y]
    exact hj3 false ⟨fun h=>(by cases h),fun h=>by omega⟩
theorem relD_set {g:List Nd}(N:Inc g){d:List Int}{dm:List (Int×Int)}(h:RelD g d dm)(W:d.length=g.length){i:Nat}{n:Nd}(I:g[i]?=some n)(v:Int):RelD g (d.set i v) (Z.mins dm n.1 v):=fun j q hq=>by
 rw[Ux]
 have Y:=(Qc.1 I).1
 by_cases e:q.1=n.1
 ·have:=N.inj hq I e
  subst this
  rw[if_pos e]
  unfold iget
  rw[Qr,Yf (by omega)];rfl
 ·rw[if_neg e,h j q hq]
  have J:i≠j:=fun O=>e (by subst O;rw[I]at hq;injection hq with hq;rw[hq])
  unfold iget
  rw[Qr,Jb J]
def KeyD (g:List Nd)(l:List Int)(dm:List (Int×Int)):Prop:=∀id,Z.mhas dm id=l.any fun p=>decide (idAt g p=id)
theorem Qfg (g:List Nd)(l:List Int)(hb:Few g)(hi:Inc g)(hfed:Fed g)(ho:Own g)(hl:l.length≤60)(hp:Plc g l): ∀(r k f:Nat) (d:List Int) (dm:List (Int×Int)),k+r=l.length→r<f→RelD g d dm→InB d→d.length=g.length→KeyD g (l.take k) dm→
  (∃d' dm',Qal g (l.drop k) d=some d'∧F.aj (Qac g,l.map (idAt g),[]) f dm (k:Int)=A.mrg (F.bj (Qac g,l.map (idAt g),[]) dm') (some (true,(Qac g,l.map (idAt g),dm'))) (Qac g)∧RelD g d' dm'∧InB d'∧d'.length=g.length∧KeyD g l dm')∨
  (Qal g (l.drop k) d=none∧∃p,F.aj (Qac g,l.map (idAt g),[]) f dm (k:Int)=some (false,p))
 |0,k,f,d,dm,hk,hf,O,W,Y,h4=>by
  obtain⟨f,rfl⟩: ∃f',f=f'+1:=⟨f-1,by omega⟩
  left
  rw[W8 (by omega)]at h4
  refine⟨d,dm,by rw[Q0 (by omega)];rfl,?_,O,W,Y,h4⟩
  rw[F.aj,if_neg (by simp only[Qw];omega)]
 |r+1,k,f,d,dm,hk,hf,O,W,Y,h4=>by
  obtain⟨f,rfl⟩: ∃f',f=f'+1:=⟨f-1,by omega⟩
  have I:l[k]?=some l[k]:=Qd (by omega)
  generalize l[k]=x at I
  obtain⟨q,n,rfl,J⟩:=hp k x I
  have hng:=Qf J
  have N:idAt g (q:Int)=n.1:=by unfold idAt;rw[Qav rfl J]
  have e1:A.ix (l.map (idAt g)) (k:Int)=some n.1:=A.ixn (by rw[Qu,I,Wl,N])
  obtain⟨v,b,ho1,ho2⟩:=out_eq g d (Qac g,l.map (idAt g),dm) n O W (ho n hng) (hfed n hng)
  have eF:F.aj (Qac g,l.map (idAt g),[]) (f+1) dm (k:Int)=if(!b)=true then some (false,(Qac g,l.map (idAt g),dm))else A.gd (Z.R64 ((k:Int)+1)) (F.aj (Qac g,l.map (idAt g),[]) f (Z.mins dm n.1 v) ((k:Int)+1)):=by
   rw[F.aj,if_pos (by simp only[Qw];omega)]
   simp only[e1,Qa,A.lt,hi.mget J]
   rw[show F.cA (Qac g,l.map (idAt g),dm) n=_ from ho1,Qa]
  rw[A.dropx I,Qal,Qav rfl J,eF]
  rcases ho2 with⟨rfl,h5⟩|⟨rfl,h5,h6⟩
  ·right
   rw[if_pos (show depthOf n (n.2.2.1.map fun k=>iget d (idx g k))<0 from h5)]
   exact⟨rfl,_,if_pos rfl⟩
  ·subst h5
   rw[if_neg (show ¬depthOf n (n.2.2.1.map fun k=>iget d (idx g k))<0 by simp only[inD]at h6;omega),if_neg (by simp),A.gd1 (A.r64n (by omega)),Qr]
   have:=Qfg g l hb hi hfed ho hl hp r (k+1) f (d.set q (depthOf n (inD g d n.2.2.1))) (Z.mins dm n.1 (depthOf n (inD g d n.2.2.1))) (by omega) (by omega) (relD_set hi O Y J _) (W.set q h6 (Qet n _)) (by rw[Qfz];exact Y) (fun id=>by
    rw[Z.mhas_ins,Qcu I,List.any_append,h4 id,X6,List.any_nil,Bool.or_false,N,Bool.or_comm]
    congr 1
    exact decide_eq_decide.2 ⟨fun h=>h.symm,fun h=>h.symm⟩)
   exact this
theorem Qbh (g:List Nd)(d:List Int): ∀l,Qbd g d l= !(l.any fun x=>decide (x.2.1=14∧iget d (idx g (iget x.2.2.1 0))≠x.2.2.2.2.2.2))
 | []=>rfl
 |x::r=>by
  unfold Qbd
  rw[X6]
  by_cases h:x.2.1=14∧iget d (idx g (iget x.2.2.1 0))≠x.2.2.2.2.2.2
  ·rw[if_pos h,decide_eq_true h];rfl
  ·rw[if_neg h,decide_eq_false h,Xv];exact Qbh g d r
theorem Qiq (g:List Nd)(l:List Int)(hb:Few g)(hi:Inc g)(hfed:Fed g)(W:Own g)(hl:l.length≤60)(hp:Plc g l):
  (∃d dm,F.dq g l=some (d,true)∧F.bk (Qac g,l.map (idAt g),[])=some (true,(Qac g,l.map (idAt g),dm))∧RelD g d dm∧InB d∧d.length=g.length∧KeyD g l dm∧Qbd g d g=true∧Qal g l (List.replicate g.length 0)=some d)∨
  (F.dq g l=some ([],false)∧∃p,F.bk (Qac g,l.map (idAt g),[])=some (false,p)):=by
 have h0:RelD g (List.replicate g.length 0) []:=fun i n Y=>by
  unfold iget;rw[Qr,Xb];split<;>rfl
 rw[depths_l4 g l hb hfed W hl hp]
 unfold F.bk depths
 rcases Qfg g l hb hi hfed W hl hp l.length 0 A.FU (List.replicate g.length 0) [] (by omega) (by have:=Qab;omega) h0 (InB.rep _) (by simp) (fun id=>by simp[Z.mhas])with⟨d,dm,N,J,h3,h4,h5,h6⟩|⟨N,p,J⟩
 ·rw[Q7]at N
  rw[N]
  simp only[]
  have hm:A.mrg (F.bj (Qac g,l.map (idAt g),[]) dm) (some (true,(Qac g,l.map (idAt g),dm))) (Qac g)=if(Qac g).any (fun p=>decide (p.2.2.1=14∧iget d (idx g (iget p.2.2.2.1 0))≠p.2.2.2.2.2.2.2))=true then some (false,(Qac g,l.map (idAt g),dm))else some (true,(Qac g,l.map (idAt g),dm)):=by
   refine A.mrg_any fun p hp=>?_
   obtain⟨n,Y,rfl⟩:=Qt.1 hp
   unfold F.bj F.bO
   by_cases I:n.2.1=14
   ·have hl1:n.2.2.1.length=1:=by rcases own_len (W n Y)with J|J|J<;>omega
    have O:n.2.2.1[0]?=some (iget n.2.2.1 0):=iget_nat (i:=0) (by omega)
    have f0:=hfed n Y _ (Qf O)
    rw[if_pos I,show A.ix n.2.2.1 0=_ from A.ixn O,Qa,A.lt,h3.in f0]
    by_cases e:iget d (idx g (iget n.2.2.1 0))≠n.2.2.2.2.2.2
    ·rw[decide_eq_true e,if_pos rfl,decide_eq_true (And.intro I e),if_pos rfl]
    ·rw[decide_eq_false e,if_neg Wo,decide_eq_false (fun h=>e h.2),if_neg Wo]
   ·rw[if_neg I,if_neg Wo,decide_eq_false (fun h=>I h.1),if_neg Wo]
  have hany:(Qac g).any (fun p=>decide (p.2.2.1=14∧iget d (idx g (iget p.2.2.2.1 0))≠p.2.2.2.2.2.2.2))=g.any fun x=>decide (x.2.1=14∧iget d (idx g (iget x.2.2.1 0))≠x.2.2.2.2.2.2):=by
   unfold Qac;rw[List.any_map];rfl
  have h2':F.aj (Qac g,l.map (idAt g),[]) A.FU [] 0=_:=J.trans hm
  rw[h2',hany,Qbh]
  cases hc:g.any fun x=>decide (x.2.1=14∧iget d (idx g (iget x.2.2.1 0))≠x.2.2.2.2.2.2)with
  |true=>right;exact⟨rfl,_,rfl⟩
  |false=>left;exact⟨d,dm,rfl,rfl,h3,h4,h5,h6,by rw[Qbh,hc];rfl,rfl⟩
 ·rw[Q7]at N
  rw[N]
  right
  exact⟨rfl,p,J⟩
theorem Qdb (g:List Nd)(d:List Int)(id:Int): ∀(k:Nat) (l:List Int),(insS g d id k l).length=l.length
 |_,[]=>rfl
 |k,x::r=>by unfold insS;rw[Qj,Qj,Qdb g d id (k+1) r]
theorem Qfx (n:Nd)(v:Int):(outS n v).length≤1:=by unfold outS;split<;>simp
theorem in2 {g:List Nd}(I:Own g){n:Nd}(J:n∈g):n.2.2.1.length≤2:=by rcases own_len (I n J)with h|h|h<;>omega
theorem spots_l2P (g:List Nd)(d:List Int)(a0:(List (Int×Nd))×(List Int)×(List (Int×Int)))(I:List Sp→Int→Option (List Sp))(y:Nat)(x:Nd)(xs:List Sp)(J:RelD g d a0.2.2)(O:g[y]?=some x)(hl:x.2.2.1.length≤2)(W: ∀k∈x.2.2.1,0≤idx g k)(Y:xs.length≤1000)(hy:y≤100):
  F.aO I a0 (y:Int) x A.FU xs 0=I (xs++(insS g d x.1 0 x.2.2.1++outS x (iget d (y:Int)))) ((y:Int)+1):=
 A.lp x.2.2.1 (fun f (s:List Sp) i=>F.aO I a0 (y:Int) x f s i) (fun k t s=>I (s++(insS g d x.1 k t++outS x (iget d (y:Int)))) ((y:Int)+1)) (fun k s=>s.length≤1000+k)
  (fun f s hs=>by
   rw[F.aO,if_neg (by omega),insS,W6,outS,A.lt,J y x O]
   simp only[F.b4,A.gd1 (A.r64n (n:=y) (by omega))]
   by_cases h:x.2.1≠15
   ·rw[if_pos h,if_pos h,A.gd1 (by simp only[Qj,Qx];omega)]
   ·rw[if_neg h,if_neg h,Wg])
  (fun f s k z N hk hs ih=>by
   have h1:=W z (Qf N)
   rw[F.aO,if_pos (by omega),A.ixn N,Qa,A.lt,J.in h1,A.gd1 (by simp only[Qj,Qx];omega),A.gd1 (A.r64n (by omega)),ih _ (by simp only[Ql,Qj,Qx];omega),insS]
   simp only[Wb,X4,Xy,W6])
  (by have:=Qab;omega) xs (by omega)
theorem Qgu (g:List Nd)(d:List Int)(a0:(List (Int×Nd))×(List Int)×(List (Int×Int)))(N:Few g)(hfed:Fed g)(O:Own g)(W:RelD g d a0.2.2):F.bD a0 g=some (spots g d):=by
 have hlen:=N.1
 have loop:=A.lp g (fun f (s:List Sp) i=>F.aH a0 g f s i) (fun k t s=>some (s++spotsF g d k t)) (fun k s=>s.length≤3*k)
  (fun f s Y=>by rw[F.aH,if_neg (by omega),spotsF,Wg])
  (fun f s k x J hk Y ih=>by
   have I:=Qf J
   have h2:=in2 O I
   have h3:=Qfx x (iget d (k:Int))
   rw[F.aH,if_pos (by omega),A.ixn J,Qa,spots_l2P g d a0 _ k x s W J h2 (hfed x I) (by omega) (by omega),ih _ (by rw[Ql,Ql,Qdb];omega),spotsF]
   simp only[Wb])
  (by have:=Qab;omega) [] (by simp)
 unfold F.bD
 rw[loop];rfl
theorem spots_l2R (g:List Nd)(d:List Int)(I:List Sp→Int→Option (List Sp))(y:Nat)(x:Nd)(xs:List Sp)(N:g.length≤100)(hd:d.length=g.length)(O:g[y]?=some x)(hl:x.2.2.1.length≤2)(W: ∀k∈x.2.2.1,0≤idx g k)(Y:xs.length≤1000)(hy:y≤100):
  F.cj I g d (y:Int) x A.FU xs 0=I (xs++(insS g d x.1 0 x.2.2.1++outS x (iget d (y:Int)))) ((y:Int)+1):=
 A.lp x.2.2.1 (fun f (s:List Sp) i=>F.cj I g d (y:Int) x f s i) (fun k t s=>I (s++(insS g d x.1 k t++outS x (iget d (y:Int)))) ((y:Int)+1)) (fun k s=>s.length≤1000+k)
  (fun f s hs=>by
   have hyl:=(Qc.1 O).1
   rw[F.cj,if_neg (by omega),insS,W6,outS]
   simp only[F.dM,A.gd1 (A.r64n (n:=y) (by omega))]
   by_cases h:x.2.1≠15
   ·rw[if_pos h,if_pos h,iix (by omega) (by omega),Qa,A.gd1 (by simp only[Qj,Qx];omega)]
   ·rw[if_neg h,if_neg h,Wg])
  (fun f s k z J hk hs ih=>by
   have h1:=W z (Qf J)
   have h2:=(idx_le g z).2
   rw[F.cj,if_pos (by omega),A.ixn J,Qa,Qbi g z N,Qa,iix h1 (by omega),Qa,A.gd1 (by simp only[Qj,Qx];omega),A.gd1 (A.r64n (by omega)),ih _ (by simp only[Ql,Qj,Qx];omega),insS]
   simp only[Wb,X4,Xy,W6])
  (by have:=Qab;omega) xs (by omega)
theorem Qic (g:List Nd)(d:List Int)(N:Few g)(hfed:Fed g)(O:Own g)(W:d.length=g.length):F.er g d=some (spots g d):=by
 have hlen:=N.1
 have loop:=A.lp g (fun f (s:List Sp) i=>F.bS g d f s i) (fun k t s=>some (s++spotsF g d k t)) (fun k s=>s.length≤3*k)
  (fun f s Y=>by rw[F.bS,A.ba,if_neg (by simp),spotsF,Wg])
  (fun f s k x J hk Y ih=>by
   have I:=Qf J
   have h2:=in2 O I
   have h3:=Qfx x (iget d (k:Int))
   rw[F.bS,A.ba,if_pos (by simp only[decide_eq_true_eq];omega),A.ixn J,Qa,spots_l2R g d _ k x s (by omega) W J h2 (hfed x I) (by omega) (by omega),ih _ (by rw[Ql,Ql,Qdb];omega),spotsF]
   simp only[Wb])
  (by have:=Qab;omega) [] (by simp)
 unfold F.er
 rw[loop];rfl
abbrev Ed:=Pl×Pl×Sm
theorem five {P:Int→Prop}(I:P 0)(J:P 1)(N:P 2)(O:P 3)(W:P 4)(d:Int)(Y:0≤d∧d≤4):P d:=by
 have:d=0∨d=1∨d=2∨d=3∨d=4:=by omega
 rcases this with rfl|rfl|rfl|rfl|rfl<;>assumption
theorem Id_eqP (d:Int)(I:0≤d∧d≤4):F.dx d=some (idP d):=five (P:=fun d=>F.dx d=some (idP d)) (by kernel_rfl) (by kernel_rfl) (by kernel_rfl) (by kernel_rfl) (by kernel_rfl) d I
theorem Enter_eqP (d:Int)(I:0≤d∧d≤4):F.ez d=some (Qaq d):=five (P:=fun d=>F.ez d=some (Qaq d)) (by kernel_rfl) (by kernel_rfl) (by kernel_rfl) (by kernel_rfl) (by kernel_rfl) d I
theorem Leave_eqP (d:Int)(I:0≤d∧d≤4):F.eA d=some (Qas d):=five (P:=fun d=>F.eA d=some (Qas d)) (by kernel_rfl) (by kernel_rfl) (by kernel_rfl) (by kernel_rfl) (by kernel_rfl) d I
theorem Next_eqP (d:Int)(I:0≤d∧d≤4):F.eP d=some (Qch d):=five (P:=fun d=>F.eP d=some (Qch d)) (by kernel_rfl) (by kernel_rfl) (by kernel_rfl) (by kernel_rfl) (by kernel_rfl) d I
theorem Id_eqR (d:Int)(I:0≤d∧d≤4):F.eQ d=some (idP d):=five (P:=fun d=>F.eQ d=some (idP d)) (by kernel_rfl) (by kernel_rfl) (by kernel_rfl) (by kernel_rfl) (by kernel_rfl) d I
theorem Enter_eqR (d:Int)(I:0≤d∧d≤4):F.eR d=some (Qaq d):=five (P:=fun d=>F.eR d=some (Qaq d)) (by kernel_rfl) (by kernel_rfl) (by kernel_rfl) (by kernel_rfl) (by kernel_rfl) d I
theorem Leave_eqR (d:Int)(I:0≤d∧d≤4):F.eS d=some (Qas d):=five (P:=fun d=>F.eS d=some (Qas d)) (by kernel_rfl) (by kernel_rfl) (by kernel_rfl) (by kernel_rfl) (by kernel_rfl) d I
theorem Next_eqR (d:Int)(I:0≤d∧d≤4):F.e0 d=some (Qch d):=five (P:=fun d=>F.e0 d=some (Qch d)) (by kernel_rfl) (by kernel_rfl) (by kernel_rfl) (by kernel_rfl) (by kernel_rfl) d I
theorem within_eqP (n:Nd)(d:Int)(I:0≤d∧d≤4):F.c5 n d=some (Qaj n d):=by
 unfold F.c5 Qaj
 simp only[Id_eqP d I,Enter_eqP d I,Leave_eqP d I,Next_eqP d I,Qa,F.bP]
 repeat' split
 all_goals rfl
theorem within_eqR (n:Nd)(d:Int)(I:0≤d∧d≤4):F.d7 n d=some (Qaj n d):=by
 unfold F.d7 Qaj
 simp only[Id_eqR d I,Enter_eqR d I,Leave_eqR d I,Next_eqR d I,Qa,F.cs]
 repeat' split
 all_goals rfl
def useN (id nd:Int):Nat→List Int→List Pl
 |_,[]=>[]
 |k,z::r=>if z=id then(nd,(k:Int))::useN id nd (k+1) r else useN id nd (k+1) r
def Qar (id:Int):List Nd→List Pl
 | []=>[]
 |n::r=>useN id n.1 0 n.2.2.1++Qar id r
theorem Qdg (id nd:Int): ∀(k:Nat) (l:List Int),(useN id nd k l).length≤l.length
 |_,[]=>Q1 0
 |k,z::r=>by
  unfold useN
  have:=Qdg id nd (k+1) r
  split<;>simp only[Qj]<;>omega
theorem Qay (id:Int): ∀(l:List Nd),(∀n∈l,n.2.2.1.length≤2)→(Qar id l).length≤2*l.length
 | [],_=>Q1 0
 |n::r,h=>by
  unfold Qar
  have J:=Qay id r fun x I=>h x (Qe _ I)
  have N:=Qdg id n.1 0 n.2.2.1
  have O:=h n (Qg ..)
  rw[Ql,Qj];omega
theorem Values_eq (g:List Nd)(N:g.length≤100):F.aJ g=some g:=
 A.lp0 g (fun f y=>F.w g f y) (fun _ l=>some l)
  (fun f=>by rw[F.w,if_neg (by omega)])
  (fun f k x I hk J=>by rw[F.w,if_pos (by omega),A.ixn I,Qa,A.gd1 (A.r64n (by omega)),J];rfl)
  (by have:=Qab;omega)
theorem users_l2 (id:Int)(n:Nd)(I:List Pl→Option (List Pl))(xs:List Pl)(Y:n.2.2.1.length≤2)(N:xs.length≤1000):F.a7 I id n A.FU xs 0=I (xs++useN id n.1 0 n.2.2.1):=
 A.lp n.2.2.1 (fun f (s:List Pl) i=>F.a7 I id n f s i) (fun k t s=>I (s++useN id n.1 k t)) (fun k s=>s.length≤1000+k)
  (fun f s O=>by rw[F.a7,if_neg (by omega),useN,Wg])
  (fun f s k z W hk O J=>by
   rw[F.a7,if_pos (by omega),A.ixn W,Qa,useN]
   simp only[F.c4,A.gd1 (A.r64n (n:=k) (by omega))]
   by_cases h:z=id
   ·rw[if_pos h,if_pos h,A.gd1 (by simp only[Qj,Qx];omega),J _ (by simp only[Ql,Qj,Qx];omega)]
    simp only[Wb,X4,Xy,W6]
   ·rw[if_neg h,if_neg h,J _ (by omega)])
  (by have:=Qab;omega) xs (by omega)
theorem users_l3 (id:Int): ∀(l:List Nd) (xs:List Pl),(∀n∈l,n.2.2.1.length≤2)→xs.length+2*l.length≤900→F.a8 id l xs=some (xs++Qar id l)
 | [],xs,_,_=>by rw[F.a8,Qar,Wg]
 |n::r,xs,h,I=>by
  have J:=h n (Qg ..)
  have N:=Qdg id n.1 0 n.2.2.1
  rw[Qj]at I
  rw[F.a8,users_l2 id n _ xs J (by omega),users_l3 id r _ (fun x I=>h x (Qe _ I)) (by rw[Ql];omega),Qar,Wb]
theorem users_eq (g:List Nd)(id:Int)(I:Few g)(J: ∀n∈g,n.2.2.1.length≤2):F.eb g id=some (Qar id g):=by
 have:=I.1
 unfold F.eb F.a5
 rw[Qa,Values_eq g (by omega),Qa,users_l3 id g [] J (by simp;omega)];rfl
def inE (g:List Nd)(d:List Int)(n:Nd):Nat→List Int→List Ed
 |_,[]=>[]
 |k,z::r=>((n.1,(k:Int)),(n.1,2),Qaj n (iget d (idx g z)))::inE g d n (k+1) r
def outE (g:List Nd)(n:Nd)(v:Int):List Ed:=(Qar n.1 g).map fun u=>((n.1,2),u,(idP v).1)
def edgesF (g:List Nd)(d:List Int):Nat→List Nd→List Ed
 |_,[]=>[]
 |i,n::r=>if n.2.1=15 then edgesF g d (i+1) r else inE g d n 0 n.2.2.1++(outE g n (iget d (i:Int))++edgesF g d (i+1) r)
def edges (g:List Nd)(d:List Int):List Ed:=edgesF g d 0 g
theorem Qga (g:List Nd)(d:List Int)(n:Nd): ∀(k:Nat) (l:List Int),(inE g d n k l).length=l.length
 |_,[]=>rfl
 |k,x::r=>by unfold inE;rw[Qj,Qj,Qga g d n (k+1) r]
theorem edges_l2P (k30:List Ed→Int→Option (List Ed))(y:Nat)(n:Nd)(s:Sm)(us:List Pl)(xs:List Ed)(W:y≤100)(Y:us.length≤1000)(I:xs.length≤10000):
  F.aI k30 (y:Int) n s.1 s.2.1 s.2.2.1 s.2.2.2.1 s.2.2.2.2.1 s.2.2.2.2.2.1 s.2.2.2.2.2.2.1 s.2.2.2.2.2.2.2 us A.FU xs 0=k30 (xs++us.map fun u=>((n.1,2),u,s)) ((y:Int)+1):=
 A.lp us (fun f (t:List Ed) i=>F.aI k30 (y:Int) n s.1 s.2.1 s.2.2.1 s.2.2.2.1 s.2.2.2.2.1 s.2.2.2.2.2.1 s.2.2.2.2.2.2.1 s.2.2.2.2.2.2.2 us f t i) (fun k t e=>k30 (e++t.map fun u=>((n.1,2),u,s)) ((y:Int)+1)) (fun k t=>t.length≤10000+k)
  (fun f t J=>by rw[F.aI,if_neg (by omega),F.bn,A.gd1 (A.r64n (by omega)),Xr,Wg])
  (fun f t k z N hk J O=>by
   rw[F.aI,if_pos (by omega),A.ixn N,Qa,A.gd1 (by simp only[Qj,Qx];omega),A.gd1 (A.r64n (by omega)),O _ (by simp only[Ql,Qj,Qx];omega)]
   simp only[Wb,X4,Xy,W6,Q4])
  (by have:=Qab;omega) xs (by omega)
theorem edges_l4P (g:List Nd)(d:List Int)(a0:(List (Int×Nd))×(List Int)×(List (Int×Int)))(k30:List Ed→Int→Option (List Ed))(y:Nat)(n:Nd)(xs:List Ed)(W:Few g)(I:Own g)(J:InB d)(Y:RelD g d a0.2.2)(N:g[y]?=some n)(hf: ∀k∈n.2.2.1,0≤idx g k)(hxs:xs.length≤9000):
  F.aP k30 a0 g (y:Int) n A.FU xs 0=k30 (xs++(inE g d n 0 n.2.2.1++outE g n (iget d (y:Int)))) ((y:Int)+1):=
 A.lp n.2.2.1 (fun f (t:List Ed) i=>F.aP k30 a0 g (y:Int) n f t i) (fun k t e=>k30 (e++(inE g d n k t++outE g n (iget d (y:Int)))) ((y:Int)+1)) (fun k t=>t.length≤9000+k)
  (fun f t ht=>by
   have hlen:=W.1
   have hyl:=(Qc.1 N).1
   have h2:=in2 I (Qf N)
   have hu:=Qay n.1 g fun x O=>in2 I O
   rw[F.aP,if_neg (by omega),A.lt,Y y n N,Id_eqP _ (J _),Qa,F.cK,users_eq g n.1 W (fun x O=>in2 I O),Qa,
    show F.aI k30 (y:Int) n _ _ _ _ _ _ _ _ (Qar n.1 g) A.FU t 0=_ from edges_l2P k30 y n (idP (iget d (y:Int))).1 (Qar n.1 g) t (by omega) (by omega) (by omega),inE,W6]
   rfl)
  (fun f t k z hz hk ht ih=>by
   have h1:=hf z (Qf hz)
   have h2:=in2 I (Qf N)
   rw[F.aP,if_pos (by omega),A.ixn hz,Qa,A.lt,Y.in h1,show F.c5 n _=_ from within_eqP n _ (J _),Qa,A.gd1 (by simp only[Qj,Qx];omega),A.gd1 (A.r64n (by omega)),ih _ (by simp only[Ql,Qj,Qx];omega),inE]
   simp only[Wb,X4,Xy,W6])
  (by have:=Qab;have:=in2 I (Qf N);omega) xs (by omega)
theorem Qgq (g:List Nd)(d:List Int)(a0:(List (Int×Nd))×(List Int)×(List (Int×Int)))(W:Few g)(hfed:Fed g)(N:Own g)(O:InB d)(hr:RelD g d a0.2.2):F.bc a0 g=some (edges g d):=by
 have hlen:=W.1
 have loop:=A.lp g (fun f (s:List Ed) i=>F.ai a0 g f s i) (fun k t s=>some (s++edgesF g d k t)) (fun k s=>s.length≤83*k)
  (fun f s hs=>by rw[F.ai,if_neg (by omega),edgesF,Wg])
  (fun f s k x I hk hs Y=>by
   have J:=Qf I
   have h2:=in2 N J
   have hu:=Qay x.1 g fun x I=>in2 N I
   rw[F.ai,if_pos (by omega),A.ixn I,Qa,edgesF]
   by_cases h:x.2.1=15
   ·rw[if_pos h,if_pos h,F.bn,A.gd1 (A.r64n (by omega)),Y _ (by omega)]
   ·rw[if_neg h,if_neg h,edges_l4P g d a0 _ k x s W N O hr I (hfed x J) (by omega),Y _ (by rw[Ql,Ql,Qga,outE,Qw];omega)]
    simp only[Wb])
  (by have:=Qab;omega) [] (by simp)
 unfold F.bc
 rw[loop];rfl
theorem Find_eq (g:List Nd)(J:Few g){j:Nat}{n:Nd}(N:Inc g)(I:g[j]?=some n):F.eK g n.1=some (n,true):=by
 have:=J.1
 have O:=J.in I
 unfold F.eK
 rw[Qbi g _ (by omega),Qa,N.idx I,if_neg (by omega),A.ixn I,Qa,A.gd1 (by simp only[Qx];omega)]
 rfl
theorem edges_l4R (g:List Nd)(k37:List Ed→Int→Option (List Ed))(sp:Sp)(r18:Nd×Bool)(r59:Sm×Int)(j:Nat)(m:Nd)(xs:List Ed)(hg:g.length≤100)(I:g[j]?=some m)(hl:m.2.2.1.length≤2)(N:xs.length≤20000):
  F.bs k37 g sp r18 r59 (j:Int) A.FU xs 0=k37 (xs++(useN r18.1.1 m.1 0 m.2.2.1).map fun u=>(sp.1,u,r59.1)) ((j:Int)+1):=
 A.lp m.2.2.1 (fun f (t:List Ed) i=>F.bs k37 g sp r18 r59 (j:Int) f t i) (fun k t e=>k37 (e++(useN r18.1.1 m.1 k t).map fun u=>(sp.1,u,r59.1)) ((j:Int)+1)) (fun k t=>t.length≤20000+k)
  (fun f t O=>by
   have W:=(Qc.1 I).1
   rw[F.bs,A.ixn I,Qa,if_neg (by omega),A.gd1 (A.r64n (by omega)),useN,Xr,Wg])
  (fun f t k z Y hk O J=>by
   rw[F.bs,A.ixn I,Qa,if_pos (by omega),Qa,A.ixn Y,Qa,useN]
   simp only[F.dO,A.gd1 (A.r64n (n:=k) (by omega)),Qa]
   by_cases h:z=r18.1.1
   ·rw[if_pos h,if_pos h,A.gd1 (by simp only[Qj,Qx];omega),J _ (by simp only[Ql,Qj,Qx];omega)]
    simp only[Wb,X4,Xy,W6,Q4]
   ·rw[if_neg h,if_neg h,J _ (by omega)])
  (by have:=Qab;omega) xs (by omega)
theorem edges_l5R (g:List Nd)(k30:List Ed→Int→Option (List Ed))(y:Nat)(sp:Sp)(r18:Nd×Bool)(r59:Sm×Int)(xs:List Ed)(I:Few g)(N:Own g)(O:xs.length≤15000)(hy:y≤1000):
  F.bt k30 g (y:Int) sp r18 r59 A.FU xs 0=k30 (xs++(Qar r18.1.1 g).map fun u=>(sp.1,u,r59.1)) ((y:Int)+1):=
 A.lp g (fun f (t:List Ed) i=>F.bt k30 g (y:Int) sp r18 r59 f t i) (fun k t e=>k30 (e++(Qar r18.1.1 t).map fun u=>(sp.1,u,r59.1)) ((y:Int)+1)) (fun k t=>t.length≤15000+2*k)
  (fun f t W=>by rw[F.bt,if_neg (by omega),F.c9,A.gd1 (A.r64n (by omega)),Qar,Xr,Wg])
  (fun f t k m J hk W Y=>by
   have hlen:=I.1
   have h2:=in2 N (Qf J)
   have h3:=Qdg r18.1.1 m.1 0 m.2.2.1
   rw[F.bt,if_pos (by omega),edges_l4R g _ sp r18 r59 k m t (by omega) J h2 (by omega),Y _ (by rw[Ql,Qw];omega),Qar,Yg,Wb])
  (by have:=Qab;have:=I.1;omega) xs (by omega)
def edOf (g:List Nd)(sp:Sp):List Ed:=if sp.1.2≠2 then(if(find g sp.1.1).1.2.1≠15 then [(sp.1,((find g sp.1.1).1.1,2),Qaj (find g sp.1.1).1 sp.2)]else [])else(Qar (find g sp.1.1).1.1 g).map fun u=>(sp.1,u,(idP sp.2).1)
def edS (g:List Nd):List Sp→List Ed
 | []=>[]
 |sp::r=>edOf g sp++edS g r
def SpOk (g:List Nd)(sp:Sp):Prop:=(∃(j:Nat) (n:Nd),g[j]?=some n∧n.1=sp.1.1)∧0≤sp.2∧sp.2≤4
theorem Qej {g:List Nd}(J:Inc g){j:Nat}{n:Nd}(I:g[j]?=some n):find g n.1=(n,true):=by
 unfold find
 rw[J.idx I,if_neg (by omega),Qav rfl I]
theorem edgesR_l6 (g:List Nd)(l:List Sp)(W:Few g)(hi:Inc g)(ho:Own g)(hl:l.length≤130)(hs: ∀sp∈l,SpOk g sp):F.dP g l=some (edS g l):=by
 have hlen:=W.1
 have loop:=A.lp l (fun f (s:List Ed) i=>F.aL g l f s i) (fun k t s=>some (s++edS g t)) (fun k s=>s.length≤83*k)
  (fun f s hs=>by rw[F.aL,if_neg (by omega),edS,Wg])
  (fun f s k x N hk hp Y=>by
   obtain⟨⟨j,n,hn,J⟩,hd⟩:=hs x (Qf N)
   have hu:=Qay n.1 g fun x N=>in2 ho N
   rw[F.aL,if_pos (by omega),A.ixn N,Qa,←J,Find_eq g W hi hn,Qa,edS,edOf,←J,Qej hi hn]
   simp only[F.dN,F.c9,A.gd1 (A.r64n (n:=k) (by omega)),Qa]
   by_cases O:x.1.2≠2
   ·rw[if_pos O,if_pos O]
    by_cases I:n.2.1≠15
    ·rw[if_pos I,if_pos I,show F.d7 n x.2=_ from within_eqR n x.2 hd,Qa,A.gd1 (by simp only[Qj,Qx];omega),Y _ (by simp only[Ql,Qj,Qx];omega),J]
     simp only[Wb]
    ·rw[if_neg I,if_neg I,Y _ (by omega),W6]
   ·rw[if_neg O,if_neg O,Id_eqR x.2 hd,Qa,edges_l5R g _ k x (n,true) (idP x.2) s W ho (by omega) (by omega),Y _ (by rw[Ql,Qw];show s.length+(Qar n.1 g).length≤_;omega),Wb])
  (by have:=Qab;omega) [] (by simp)
 unfold F.dP
 rw[loop];rfl
theorem Qim (g:List Nd): ∀(a b:List Sp),edS g (a++b)=edS g a++edS g b
 | [],_=>rfl
 |x::a,b=>by rw[Xy,edS,edS,Qim g a b,Wb]
theorem edS_ins {g:List Nd}(J:Inc g)(d:List Int){j:Nat}{n:Nd}(N:g[j]?=some n): ∀(k:Nat) (l:List Int),k+l.length≤2→edS g (insS g d n.1 k l)=if n.2.1=15 then []else inE g d n k l
 |k,[],_=>by unfold insS inE edS;split<;>rfl
 |k,z::r,h=>by
  rw[Qj]at h
  have O:((k:Int):Int)≠2:=by omega
  unfold insS inE
  rw[edS,edS_ins J d N (k+1) r (by omega),edOf]
  simp only[Qej J N]
  rw[if_pos O]
  by_cases I:n.2.1=15
  ·simp[I]
  ·rw[if_neg I,if_neg I,if_pos I];rfl
theorem Qhg {g:List Nd}(N:Inc g)(O:Own g)(d:List Int): ∀(m k:Nat),k+m=g.length→edS g (spotsF g d k (g.drop k))=edgesF g d k (g.drop k)
 |0,k,h=>by rw[Q0 (by omega)];rfl
 |m+1,k,h=>by
  have J:g[k]?=some g[k]:=Qd (by omega)
  generalize g[k]=x at J
  have W:=in2 O (Qf J)
  rw[A.dropx J,spotsF,edgesF,Qim,Qim,Qhg N O d m (k+1) (by omega),edS_ins N d J 0 _ (by omega)]
  by_cases I:x.2.1=15
  ·rw[if_pos I,if_pos I,outS,if_neg (fun h=>h I),edS];rfl
  ·rw[if_neg I,if_neg I,outS,if_pos I,edS,edOf]
   simp only[Qej N J]
   rw[if_neg (fun h=>h rfl),edS,Wg];rfl
theorem o_bT {g:List Nd}{d:List Int}(I:InB d){j:Nat}{n:Nd}(J:g[j]?=some n): ∀(k:Nat) (l:List Int),∀sp∈insS g d n.1 k l,SpOk g sp
 |_,[],sp,h=>by cases h
 |k,z::r,sp,h=>by
  unfold insS at h
  rcases Qk.1 h with rfl|h
  ·exact⟨⟨j,n,J,rfl⟩,I _⟩
  ·exact o_bT I J (k+1) r sp h
theorem o_a0 {g:List Nd}{d:List Int}(J:InB d): ∀(m k:Nat),k+m=g.length→∀sp∈spotsF g d k (g.drop k),SpOk g sp
 |0,k,h,sp,I=>by rw[Q0 (by omega)]at I;cases I
 |m+1,k,h,sp,I=>by
  have N:g[k]?=some g[k]:=Qd (by omega)
  generalize g[k]=x at N
  rw[A.dropx N,spotsF]at I
  rcases Qn.1 I with I|I
  ·exact o_bT J N 0 _ sp I
  ·rcases Qn.1 I with I|I
   ·unfold outS at I
    split at I
    ·rw[Qi]at I;subst I;exact⟨⟨k,x,N,rfl⟩,J _⟩
    ·cases I
   ·exact o_a0 J m (k+1) (by omega) sp I
theorem Qbv {g:List Nd}(J:Own g)(d:List Int): ∀(m k:Nat),k+m=g.length→(spotsF g d k (g.drop k)).length≤3*m
 |0,k,h=>by rw[Q0 (by omega)];exact Q1 0
 |m+1,k,h=>by
  have I:g[k]?=some g[k]:=Qd (by omega)
  generalize g[k]=x at I
  have N:=in2 J (Qf I)
  have O:=Qfx x (iget d (k:Int))
  have W:=Qbv J d m (k+1) (by omega)
  rw[A.dropx I,spotsF,Ql,Ql,Qdb];omega
theorem Qgo (g:List Nd)(d:List Int)(N:Few g)(O:Inc g)(I:Own g)(J:InB d):F.dP g (spots g d)=some (edges g d):=by
 have h1:=Qbv I d g.length 0 (by omega)
 have W:=o_a0 (d:=d) (g:=g) J g.length 0 (by omega)
 have Y:=Qhg O I d g.length 0 (by omega)
 rw[Q7]at h1 W Y
 have:=N.1
 rw[edgesR_l6 g (spots g d) N O I (by unfold spots;omega) W]
 exact congrArg some Y
inductive Rch {α:Type} (R:α→α→Prop) (a:α):α→Prop
 |one {b:α} (h:R a b):Rch R a b
 |step {b c:α} (h:Rch R a b) (h2:R b c):Rch R a c
theorem Qdm (g:List Nd)(d:List Int)(id:Int): ∀(k:Nat) (l:List Int) (p:Pl) (v:Int),(p,v)∈insS g d id k l→p.1=id∧(k:Int)≤p.2∧p.2<(k:Int)+l.length
 |_,[],_,_,h=>by cases h
 |k,z::r,p,v,h=>by
  unfold insS at h
  rw[Qj]
  rcases Qk.1 h with h|h
  ·injection h with I J;subst I;refine⟨rfl,Xl _,?_⟩;simp only[];omega
  ·have:=Qdm g d id (k+1) r p v h;omega
theorem Qem (g:List Nd)(d:List Int)(id:Int): ∀(k:Nat) (l:List Int),((insS g d id k l).map (·.1)).Nodup
 |_,[]=>Xu
 |k,z::r=>by
  unfold insS
  rw[Q4,Wn]
  refine⟨fun h=>?_,Qem g d id (k+1) r⟩
  obtain⟨⟨p,v⟩,J,I⟩:=Qt.1 h
  have:=Qdm g d id (k+1) r p v J
  simp only[]at I
  rw[I]at this;simp only[]at this;omega
theorem Qeu {g:List Nd}(d:List Int): ∀(k:Nat) (l:List Nd) (sp:Sp),sp∈spotsF g d k l→∃n∈l,n.1=sp.1.1
 |_,[],_,h=>by cases h
 |k,n::r,sp,h=>by
  unfold spotsF at h
  rcases Qn.1 h with h|h
  ·exact⟨n,Qg ..,(Qdm g d n.1 0 _ sp.1 sp.2 h).1.symm⟩
  ·rcases Qn.1 h with h|h
   ·unfold outS at h
    split at h
    ·rw[Qi]at h;subst h;exact⟨n,Qg ..,rfl⟩
    ·cases h
   ·obtain⟨m,I,J⟩:=Qeu d (k+1) r sp h
    exact⟨m,Qe _ I,J⟩
theorem Qcw {g:List Nd}(d:List Int): ∀(k:Nat) (l:List Nd),l.Pairwise (fun a b=>a.1<b.1)→(∀n∈l,n.2.2.1.length≤2)→((spotsF g d k l).map (·.1)).Nodup
 |_,[],_,_=>Xu
 |k,n::r,hp,hl=>by
  rw[Wk]at hp
  have h2:=hl n (Qg ..)
  unfold spotsF
  rw[Yg,Wv,Yg,Wv]
  have hrest: ∀p∈(spotsF g d (k+1) r).map (·.1),p.1≠n.1:=fun p I e=>by
   obtain⟨sp,O,rfl⟩:=Qt.1 I
   obtain⟨m,J,h4⟩:=Qeu d (k+1) r sp O
   have:=hp.1 m J;omega
  have hout: ∀p∈(outS n (iget d (k:Int))).map (·.1),p=(n.1,2):=fun p I=>by
   unfold outS at I
   split at I
   ·simpa using I
   ·cases I
  have W: ∀p∈(insS g d n.1 0 n.2.2.1).map (·.1),p.1=n.1∧p.2<2:=fun p I=>by
   obtain⟨⟨q,v⟩,O,rfl⟩:=Qt.1 I
   have:=Qdm g d n.1 0 _ q v O
   simp only[];omega
  refine⟨Qem g d n.1 0 _,⟨?_,Qcw d (k+1) r hp.2 (fun x hx=>hl x (Qe _ hx)),?_⟩,?_⟩
  ·unfold outS;split<;>simp
  ·intro a Y b N e
   have J:=hout a Y
   subst e
   exact hrest a N (by rw[J])
  ·intro a Y b N e
   subst e
   have J:=W a Y
   rcases Qn.1 N with N|N
   ·have:=hout a N;rw[this]at J;simp only[]at J;omega
   ·exact hrest a N J.1
theorem useN_mem (id nd:Int): ∀(k:Nat) (l:List Int) (u:Pl),u∈useN id nd k l→u.1=nd∧∃j:Nat,u.2=(k:Int)+j∧j<l.length
 |_,[],u,h=>by cases h
 |k,z::r,u,h=>by
  unfold useN at h
  have hrec:u∈useN id nd (k+1) r→u.1=nd∧∃j:Nat,u.2=(k:Int)+j∧j<(z::r).length:=fun h=>by
   obtain⟨I,j,J,N⟩:=useN_mem id nd (k+1) r u h
   exact⟨I,j+1,by omega,by rw[Qj];omega⟩
  split at h
  ·rcases Qk.1 h with rfl|h
   ·exact⟨rfl,0,by simp,by rw[Qj];omega⟩
   ·exact hrec h
  ·exact hrec h
theorem insS_get (g:List Nd)(d:List Int)(id:Int): ∀(k:Nat) (l:List Int) (j:Nat),j<l.length→∃v,((id,(k:Int)+j),v)∈insS g d id k l
 |_,[],j,h=>by simp at h
 |k,z::r,j,h=>by
  unfold insS
  cases j with
  |zero=>exact⟨iget d (idx g z),by simp⟩
  |succ j=>
   rw[Qj]at h
   obtain⟨v,I⟩:=insS_get g d id (k+1) r j (by omega)
   refine⟨v,Qe _ ?_⟩
   have e:(k:Int)+((j+1:Nat):Int)=((k+1:Nat):Int)+(j:Int):=by omega
   rw[e];exact I
theorem Qax {g:List Nd}(d:List Int): ∀(k:Nat) (l:List Nd) (n:Nd),n∈l→∀sp∈insS g d n.1 0 n.2.2.1,sp∈spotsF g d k l
 |_,[],_,h,_,_=>by cases h
 |k,m::r,n,h,sp,I=>by
  unfold spotsF
  rcases Qk.1 h with rfl|h
  ·exact Q6 _ I
  ·exact Q9 _ (Q9 _ (Qax d (k+1) r n h sp I))
theorem Qep {g:List Nd}(d:List Int): ∀(k:Nat) (l:List Nd) (n:Nd),n∈l→n.2.1≠15→∃v,((n.1,2),v)∈spotsF g d k l
 |_,[],_,h,_=>by cases h
 |k,m::r,n,h,I=>by
  unfold spotsF
  rcases Qk.1 h with rfl|h
  ·exact⟨iget d (k:Int),Q9 _ (Q6 _ (by unfold outS;rw[if_pos I];simp))⟩
  ·obtain⟨v,J⟩:=Qep d (k+1) r n h I
   exact⟨v,Q9 _ (Q9 _ J)⟩
theorem Qgs (id:Int): ∀(l:List Nd) (u:Pl),u∈Qar id l→∃n∈l,u.1=n.1∧∃j:Nat,u.2=(j:Int)∧j<n.2.2.1.length
 | [],u,h=>by cases h
 |n::r,u,h=>by
  unfold Qar at h
  rcases Qn.1 h with h|h
  ·obtain⟨I,j,J,N⟩:=useN_mem id n.1 0 _ u h
   exact⟨n,Qg ..,I,j,by omega,N⟩
  ·obtain⟨m,I,J⟩:=Qgs id r u h
   exact⟨m,Qe _ I,J⟩
theorem inE_mem (g:List Nd)(d:List Int)(n:Nd): ∀(k:Nat) (l:List Int) (e:Ed),e∈inE g d n k l→e.1.1=n.1∧(k:Int)≤e.1.2∧e.1.2<(k:Int)+l.length∧e.2.1=(n.1,2)
 |_,[],_,h=>by cases h
 |k,z::r,e,h=>by
  unfold inE at h
  rw[Qj]
  rcases Qk.1 h with rfl|h
  ·refine⟨rfl,Xl _,?_,rfl⟩;simp only[];omega
  ·have:=inE_mem g d n (k+1) r e h
   refine⟨this.1,by omega,by omega,this.2.2.2⟩
theorem Qbj {g:List Nd}(d:List Int): ∀(k:Nat) (l:List Nd) (e:Ed),e∈edgesF g d k l→∃n∈l,e.1.1=n.1∧((n.2.1≠15∧e.2.1=(n.1,2)∧0≤e.1.2∧e.1.2<n.2.2.1.length)∨(e.1.2=2∧∃m∈g,e.2.1.1=m.1∧∃j:Nat,e.2.1.2=(j:Int)∧j<m.2.2.1.length))
 |_,[],_,h=>by cases h
 |k,n::r,e,h=>by
  unfold edgesF at h
  have hrec:e∈edgesF g d (k+1) r→∃m∈n::r,e.1.1=m.1∧((m.2.1≠15∧e.2.1=(m.1,2)∧0≤e.1.2∧e.1.2<m.2.2.1.length)∨(e.1.2=2∧∃q∈g,e.2.1.1=q.1∧∃j:Nat,e.2.1.2=(j:Int)∧j<q.2.2.1.length)):=fun h=>by
   obtain⟨m,I,J⟩:=Qbj d (k+1) r e h
   exact⟨m,Qe _ I,J⟩
  split at h
  ·exact hrec h
  ·rename_i N
   rcases Qn.1 h with h|h
   ·obtain⟨I,J,Y,O⟩:=inE_mem g d n 0 _ e h
    exact⟨n,Qg ..,I,.inl ⟨N,O,by omega,by omega⟩⟩
   ·rcases Qn.1 h with h|h
    ·unfold outE at h
     obtain⟨u,W,rfl⟩:=Qt.1 h
     obtain⟨m,I,J⟩:=Qgs n.1 g u W
     exact⟨n,Qg ..,rfl,.inr ⟨rfl,m,I,J⟩⟩
    ·exact hrec h
theorem edge_to {g:List Nd}(d:List Int){e:Ed}(J:e∈edges g d): ∃v,(e.2.1,v)∈spots g d:=by
 obtain⟨n,N,h1,h|h⟩:=Qbj d 0 g e J
 ·obtain⟨v,I⟩:=Qep d 0 g n N h.1
  exact⟨v,by rw[h.2.1];exact I⟩
 ·obtain⟨_,m,O,W,j,Y,h4⟩:=h
  obtain⟨v,I⟩:=insS_get g d m.1 0 m.2.2.1 j h4
  refine⟨v,Qax d 0 g m O _ ?_⟩
  have e1:e.2.1=(m.1,((0:Nat):Int)+(j:Int)):=Jt W (by rw[Y];simp)
  rw[e1];exact I
theorem Qib {g:List Nd}(d:List Int){e:Ed}(I:e∈edges g d): ∃n∈g,e.1.1=n.1:=by
 obtain⟨n,J,N,_⟩:=Qbj d 0 g e I
 exact⟨n,J,N⟩
theorem edge_out {g:List Nd}(d:List Int)(I:Own g){e:Ed}(J:e∈edges g d)(Y:e.2.1.2=2):e.1.1=e.2.1.1∧e.1.2≠2:=by
 obtain⟨n,N,O,h|h⟩:=Qbj d 0 g e J
 ·have:=in2 I N
  exact⟨by rw[O,h.2.1],by omega⟩
 ·obtain⟨_,m,W,_,j,h3,h4⟩:=h
  have:=in2 I W
  omega
theorem atS_mem {p:Pl}: ∀{l:List Sp} {v:Int},(l.map (·.1)).Nodup→(p,v)∈l→atS p l=v
 | [],_,_,h=>by cases h
 |x::r,v,I,h=>by
  rw[Q4,Wn]at I
  unfold atS
  rcases Qk.1 h with rfl|h
  ·rw[if_pos rfl]
  ·rw[if_neg (fun e=>I.1 (by rw[e];exact List.mem_map_of_mem (f:=(·.1)) h))]
   exact atS_mem I.2 h
theorem R_at_eq (l:List Sp)(p:Pl)(N:l.length≤100000):F.fe l p=some (atS p l):=
 A.lp0 l (fun f y=>F.dX l p f y) (fun _ t=>some (atS p t))
  (fun f=>by rw[F.dX,if_neg (by omega)];rfl)
  (fun f k x I hk J=>by
   rw[F.dX,if_pos (by omega),A.ixn I,Qa,Qa,atS]
   by_cases h:x.1=p
   ·rw[if_pos (show x.1=p from h),if_pos h]
   ·rw[if_neg (show ¬x.1=p from h),if_neg h,A.gd1 (A.r64n (by omega)),J])
  (by have:=Qab;omega)
theorem R_on_eq (l:List Pl)(p:Pl)(O:l.length≤100000):F.e3 l p=some (decide (p∈l)):=
 A.lp0 l (fun f y=>F.dW l p f y) (fun _ t=>some (decide (p∈t)))
  (fun f=>by rw[F.dW,if_neg (by omega)];simp)
  (fun f k x J hk N=>by
   rw[F.dW,if_pos (by omega),A.ixn J,Qa]
   by_cases h:x=p
   ·rw[if_pos (show x=p from h)];simp[h]
   ·rw[if_neg (show ¬x=p from h),A.gd1 (A.r64n (by omega)),N]
    congr 1
    exact decide_eq_decide.2 ⟨fun I=>Qe _ I,fun I=>(Qk.1 I).resolve_left fun e=>h e.symm⟩)
  (by have:=Qab;omega)
def Qbl (g:List Nd)(S:List Sp)(dd:Int)(e:Ed):Bool:=decide (dd≤atS e.2.1 S)&&(decide ((find g e.1.1).1.2.1≠14)||decide ((find g e.1.1).1.2.2.2.2.2.2≠dd)||decide (e.1.2=2))
theorem R_open_eq (g:List Nd)(S:List Sp)(e:Ed)(dd:Int)(N:Few g)(I:Inc g)(O:S.length≤100000)(W: ∃n∈g,e.1.1=n.1):F.eL g S e dd=some (Qbl g S dd e):=by
 obtain⟨n,Y,h1⟩:=W
 obtain⟨j,J⟩:=Wq.1 Y
 unfold F.eL Qbl
 rw[h1,Find_eq g N I J,Qa,show F.fe S e.2.1=_ from R_at_eq S e.2.1 O,Qa,Qej I J]
 by_cases h:dd≤atS e.2.1 S
 ·rw[if_pos h,decide_eq_true h,Xn]
  congr 1
 ·rw[if_neg h,decide_eq_false h,Y1]
def addR (g:List Nd)(S:List Sp)(dd:Int)(cur:Pl):List Ed→List Pl→List Pl
 | [],r=>r
 |e::t,r=>addR g S dd cur t (if e.1=cur∧Qbl g S dd e=true∧e.2.1∉r then r++[e.2.1]else r)
theorem round_l3 (g:List Nd)(S:List Sp)(E:List Ed)(from_:Sp)(I:List Pl→List Pl→Int→Option Bool)(y:Nat)(cur:Pl)(r:List Pl)(hb:Few g)(hi:Inc g)(hS:S.length≤100000)(hE:E.length≤5000)(hf: ∀e∈E,∃n∈g,e.1.1=n.1)(hc:(from_.1::r)[y]?=some cur)(hy:y≤10000)(hr:r.length≤9000)(hall: ∀k,(addR g S from_.2 cur (E.take k) r).length≤9000):
  F.aX I g S E from_ (y:Int) A.FU r (from_.1::r) 0=I (addR g S from_.2 cur E r) (from_.1::addR g S from_.2 cur E r) ((y:Int)+1):=
 A.lp E (fun f (s:List Pl×List Pl) i=>F.aX I g S E from_ (y:Int) f s.1 s.2 i) (fun k t s=>I (addR g S from_.2 cur t s.1) (from_.1::addR g S from_.2 cur t s.1) ((y:Int)+1)) (fun k s=>s.2=from_.1::s.1∧s.2[y]?=some cur∧s.1=addR g S from_.2 cur (E.take k) r)
  (fun f s hs=>by
   rw[F.aX,if_neg (by omega),A.gd1 (A.r64n (by omega)),hs.1];rfl)
  (fun f s k e O hk hs ih=>by
   obtain⟨q,r'⟩:=s
   obtain⟨W,J,h3⟩:=hs
   simp only[]at W J h3
   have hlen:q.length≤9000:=by rw[h3];exact hall _
   have hsnoc: ∀(t:List Ed) (e:Ed) (r:List Pl),addR g S from_.2 cur (t++[e]) r=(if e.1=cur∧Qbl g S from_.2 e=true∧e.2.1∉addR g S from_.2 cur t r then addR g S from_.2 cur t r++[e.2.1]else addR g S from_.2 cur t r):=by
    intro t
    induction t with
    |nil=>intro e r;rfl
    |cons x t iht=>intro e r;rw[Xy,addR,addR];exact iht e _
   have hnext:addR g S from_.2 cur (E.take (k+1)) r=if e.1=cur∧Qbl g S from_.2 e=true∧e.2.1∉q then q++[e.2.1]else q:=by
    rw[Qcu O,hsnoc,←h3]
   have hopen:=R_open_eq g S e from_.2 hb hi hS (hf e (Qf O))
   rw[F.aX,if_pos (by omega),A.ixn O,Qa,A.ixn J,Qa,addR]
   simp only[F.dh,F.dY,A.ixn O,Qa,A.gd1 (A.r64n (n:=k) (by omega)),Qy,if_false]
   have stay: ¬(e.1=cur∧Qbl g S from_.2 e=true∧e.2.1∉q)→F.aX I g S E from_ (y:Int) f q r' ((k:Int)+1)=I (addR g S from_.2 cur (E.drop (k+1)) (if e.1=cur∧Qbl g S from_.2 e=true∧e.2.1∉q then q++[e.2.1]else q)) (from_.1::addR g S from_.2 cur (E.drop (k+1)) (if e.1=cur∧Qbl g S from_.2 e=true∧e.2.1∉q then q++[e.2.1]else q)) ((y:Int)+1):=fun hn=>by
    rw[if_neg hn]at hnext ⊢
    exact ih (q,r') ⟨W,J,hnext.symm⟩
   by_cases hcur:e.1=cur
   ·rw[if_pos (show e.1=cur from hcur),show F.eL g S e from_.2=_ from hopen,Qa]
    by_cases Y:Qbl g S from_.2 e=true
    ·rw[if_pos Y,show F.e3 q e.2.1=_ from R_on_eq q e.2.1 (by omega),Qa]
     by_cases hm:e.2.1∈q
     ·rw[decide_eq_true hm,Xw,if_neg Wo]
      exact stay fun h=>h.2.2 hm
     ·have N:e.1=cur∧Qbl g S from_.2 e=true∧e.2.1∉q:=⟨hcur,Y,hm⟩
      rw[decide_eq_false hm,Yt,if_pos rfl,A.gd1 (by simp only[Qj,Qx];omega),A.gd1 (by rw[W];simp only[Qj,Qx];omega),if_pos N]
      rw[if_pos N]at hnext
      refine ih (q++[e.2.1],r'++[e.2.1]) ⟨?_,?_,hnext.symm⟩
      ·simp only[W,Xy]
      ·simp only[]
       rw[Q8 (Qc.1 J).1];exact J
    ·rw[if_neg Y]
     exact stay fun h=>Y h.2.1
   ·rw[if_neg (show ¬e.1=cur from hcur)]
    exact stay fun h=>hcur h.1)
  (by have:=Qab;omega) (r,from_.1::r) ⟨rfl,hc,rfl⟩
def okE (g:List Nd)(S:List Sp)(E:List Ed)(dd:Int)(p q:Pl):Prop:=∃e∈E,e.1=p∧e.2.1=q∧Qbl g S dd e=true
theorem Qby (g:List Nd)(S:List Sp)(dd:Int)(cur:Pl): ∀(t:List Ed) (r:List Pl),∃x,addR g S dd cur t r=r++x∧(∀p∈x,∃e∈t,e.1=cur∧e.2.1=p∧Qbl g S dd e=true)∧(r.Nodup→(r++x).Nodup)∧(∀e∈t,e.1=cur→Qbl g S dd e=true→e.2.1∈r++x)
 | [],r=>⟨[],by rw[addR,Wg],by simp,by simp,by simp⟩
 |e::t,r=>by
  rw[addR]
  by_cases h:e.1=cur∧Qbl g S dd e=true∧e.2.1∉r
  ·rw[if_pos h]
   obtain⟨x,J,N,O,W⟩:=Qby g S dd cur t (r++[e.2.1])
   refine⟨e.2.1::x,by rw[J];simp,fun p hp=>?_,fun hn=>?_,fun e2 I a b=>?_⟩
   ·rcases Qk.1 hp with rfl|hp
    ·exact⟨e,Qg ..,h.1,rfl,h.2.1⟩
    ·obtain⟨e2,a,b⟩:=N p hp;exact⟨e2,Qe _ a,b⟩
   ·have:=O (Wv.2 ⟨hn,by simp,fun a ha b Y=>by rw[Qi]at Y;subst Y;intro e2;subst e2;exact h.2.2 ha⟩)
    simpa using this
   ·rcases Qk.1 I with rfl|I
    ·simp
    ·have:=W e2 I a b;simpa using this
  ·rw[if_neg h]
   obtain⟨x,J,N,O,W⟩:=Qby g S dd cur t r
   refine⟨x,J,fun p hp=>?_,O,fun e2 I a b=>?_⟩
   ·obtain⟨e2,a,b⟩:=N p hp;exact⟨e2,Qe _ a,b⟩
   ·rcases Qk.1 I with rfl|I
    ·refine Q6 _ ?_
     by_cases hm:e2.2.1∈r
     ·exact hm
     ·exact absurd ⟨a,b,hm⟩ h
    ·exact W e2 I a b
theorem nodup_len {α:Type}[DecidableEq α]: ∀{l m:List α},l.Nodup→(∀x∈l,x∈m)→l.length≤m.length
 | [],m,_,_=>Xo _
 |a::l,m,I,h=>by
  rw[Wn]at I
  have J:=h a (Qg ..)
  have:=nodup_len (l:=l) (m:=m.erase a) I.2 fun x N=>(List.mem_erase_of_ne (fun e=>by subst e;exact I.1 N)).2 (h x (Qe _ N))
  rw[Yz J]at this
  have hpos:0<m.length:=Y3 J
  rw[Qj];omega
theorem round_eq (g:List Nd)(S:List Sp)(E:List Ed)(from_:Sp)(hb:Few g)(hi:Inc g)(hS:S.length≤100000)(hE:E.length≤4000)(hf: ∀e∈E,∃n∈g,e.1.1=n.1):
  ∃b,F.ev g S E from_=some b∧(b=true↔Rch (okE g S E from_.2) from_.1 from_.1):=by
 have sub: ∀(r:List Pl),r.Nodup→(∀p∈r,∃e∈E,e.2.1=p)→r.length≤4000:=fun r J h=>by
  have:=nodup_len (m:=E.map fun e=>e.2.1) J fun p hp=>by obtain⟨e,Y,W⟩:=h p hp;exact Qt.2 ⟨e,Y,W⟩
  rw[Qw]at this;omega
 have main: ∀(n f y:Nat) (r:List Pl),y+n=4002→n<f→r.Nodup→y≤1+r.length→(∀p∈r,∃e∈E,e.2.1=p)→(∀p∈r,Rch (okE g S E from_.2) from_.1 p)→(∀i p q,i<y→(from_.1::r)[i]?=some p→okE g S E from_.2 p q→q∈r)→
   ∃b,F.bX g S E from_ f r (from_.1::r) (y:Int)=some b∧(b=true↔Rch (okE g S E from_.2) from_.1 from_.1):=by
  intro n
  induction n with
  |zero=>
   intro f y r hy hf' J hyl hsub _ _
   have:=sub r J hsub
   omega
  |succ n ih=>
   intro f y r hy hf' J hyl hsub hreach hclosed
   obtain⟨f,rfl⟩: ∃f',f=f'+1:=⟨f-1,by omega⟩
   have hl:=sub r J hsub
   rw[F.bX]
   by_cases h:y<1+r.length
   ·obtain⟨cur,hcur⟩: ∃c,(from_.1::r)[y]?=some c:=⟨_,Qd (by rw[Qj];omega)⟩
    obtain⟨x,Y,W,h3,h4⟩:=Qby g S from_.2 cur E r
    have hsub2: ∀p∈r++x,∃e∈E,e.2.1=p:=fun p hp=>by
     rcases Qn.1 hp with hp|hp
     ·exact hsub p hp
     ·obtain⟨e,a,_,b,_⟩:=W p hp;exact⟨e,a,b⟩
    have hall: ∀k,(addR g S from_.2 cur (E.take k) r).length≤9000:=fun k=>by
     obtain⟨x',a,b,c,_⟩:=Qby g S from_.2 cur (E.take k) r
     have:=sub (r++x') (c J) fun p hp=>by
      rcases Qn.1 hp with hp|hp
      ·exact hsub p hp
      ·obtain⟨e,a2,_,b2,_⟩:=b p hp;exact⟨e,Yc a2,b2⟩
     rw[a];omega
    rw[if_pos (by rw[Qj];omega),round_l3 g S E from_ _ y cur r hb hi hS (by omega) hf hcur (by omega) (by omega) hall,Y]
    have e1:(y:Int)+1=((y+1:Nat):Int):=by omega
    rw[e1]
    have I:cur=from_.1∨Rch (okE g S E from_.2) from_.1 cur:=by
     cases y with
     |zero=>injection hcur with hcur;exact .inl hcur.symm
     |succ y=>exact .inr (hreach cur (Qf (by simpa using hcur)))
    refine ih f (y+1) (r++x) (by omega) (by omega) (h3 J) (by rw[Ql];omega) hsub2 (fun p hp=>?_) fun i p q hi2 hp N=>?_
    ·rcases Qn.1 hp with hp|hp
     ·exact hreach p hp
     ·obtain⟨e,a,b,c,d2⟩:=W p hp
      rcases I with I|I
      ·exact .one ⟨e,a,b.trans I,c,d2⟩
      ·exact .step I ⟨e,a,b,c,d2⟩
    ·rw[←Xy,Q8 (by rw[Qj];omega)]at hp
     rcases Y2 i y with h5|h5
     ·exact Q6 _ (hclosed i p q h5 hp N)
     ·obtain rfl:i=y:=by omega
      rw[hcur]at hp;injection hp with hp;subst hp
      obtain⟨e,a,b,c,d2⟩:=N
      rw[←c];exact h4 e a b d2
   ·rw[if_neg (by rw[Qj];omega),show F.e3 r from_.1=_ from R_on_eq r from_.1 (by omega),Qa]
    refine⟨_,rfl,?_⟩
    rw[decide_eq_true_eq]
    refine⟨hreach _,fun hr=>?_⟩
    have hin: ∀q,Rch (okE g S E from_.2) from_.1 q→q∈r:=fun q hq=>by
     induction hq with
     |one h6=>exact hclosed 0 _ _ (by omega) rfl h6
     |step h6 h7 ih2=>
      obtain⟨i,O⟩:=Wq.1 ih2
      have:=(Qc.1 O).1
      exact hclosed (i+1) _ _ (by omega) (by simpa using O) h7
    exact hin _ hr
 exact main 4002 A.FU 0 [] (by omega) (by have:=Qab;omega) Xu (by simp) (by simp) (by simp) (fun i p q h=>by omega)
abbrev Seen:=List (Pl×Bool)
def seen (m:Seen)(v:Pl):Prop:=Z.mget false m v=true
def addP (deep:List Sp)(from_:Pl)(dd:Int):List Pl→Seen→List Pl→Option (Seen×List Pl)
 | [],m,xs=>some (m,xs)
 |t::r,m,xs=>if t=from_ then none else if dd≤Z.mget 0 deep t∧Z.mget false m t=false then addP deep from_ dd r (Z.mins m t true) (xs++[t])else addP deep from_ dd r m xs
theorem reaches_l3 (deep:List Sp)(from_:Pl)(dd:Int)(J:Seen→List Pl→Option Bool)(tos:List Pl)(m:Seen)(xs:List Pl)(hl:tos.length≤4000)(hx:xs.length≤10000):
  F.ac J deep from_ dd tos A.FU m xs 0=match addP deep from_ dd tos m xs with
   |none=>some true
   |some s=>J s.1 s.2:=
 A.lp tos (fun f (s:Seen×List Pl) i=>F.ac J deep from_ dd tos f s.1 s.2 i) (fun _ t s=>match addP deep from_ dd t s.1 s.2 with
   |none=>some true
   |some s=>J s.1 s.2) (fun k s=>s.2.length≤10000+k)
  (fun f s hs=>by rw[F.ac,if_neg (by omega),addP])
  (fun f s k t ht hk hs W=>by
   rw[F.ac,if_pos (by omega),A.ixn ht,Qa,addP,A.lt]
   simp only[F.bH,F.bG,A.lt,A.gd1 (A.r64n (n:=k) (by omega)),Qy,if_false]
   by_cases h:t=from_
   ·rw[if_pos (show t=from_ from h),if_pos h]
   ·rw[if_neg (show ¬t=from_ from h),if_neg h]
    by_cases N:dd≤Z.mget 0 deep t
    ·rw[if_pos (show dd≤Z.mget 0 deep t from N)]
     by_cases O:Z.mget false s.1 t=false
     ·have Y:dd≤Z.mget 0 deep t∧Z.mget false s.1 t=false:=⟨N,O⟩
      rw[if_pos Y,show Z.mget false s.1 t=false from O,Yt,if_pos rfl,A.gd1 (by simp only[Qj,Qx];omega)]
      exact W (Z.mins s.1 t true,s.2++[t]) (by simp only[Ql,Qj,Qx];omega)
     ·have hm2:Z.mget false s.1 t=true:=by cases I:Z.mget false s.1 t with
       |true=>rfl
       |false=>exact absurd I O
      have Y: ¬(dd≤Z.mget 0 deep t∧Z.mget false s.1 t=false):=fun I=>O I.2
      rw[if_neg Y,show Z.mget false s.1 t=true from hm2,Xw,if_neg Wo]
      exact W s (by omega)
    ·rw[if_neg (show ¬dd≤Z.mget 0 deep t from N),if_neg (fun I=>N I.1)]
     exact W s (by omega))
  (by have:=Qab;omega) (m,xs) (by simp only[];omega)
def un (T:List Pl)(m:Seen):Nat:=(T.filter fun t=> !(Z.mget false m t)).length
theorem un_ins {T:List Pl}{m:Seen}{t:Pl}(I:t∈T)(J:Z.mget false m t=false):un T (Z.mins m t true)+1≤un T m:=by
 unfold un
 have mono: ∀(l:List Pl),(l.filter fun t'=> !(Z.mget false (Z.mins m t true) t')).length≤(l.filter fun t'=> !(Z.mget false m t')).length:=by
  intro l
  induction l with
  |nil=>exact Q1 _
  |cons a l N=>
   rw[Xk,Xk,Ux]
   by_cases e:a=t
   ·rw[if_pos e,e,J];simp only[Xw,Qy,if_false,Yt,if_true,Qj];omega
   ·rw[if_neg e];split<;>(try simp only[Qj])<;>omega
 induction T with
 |nil=>cases I
 |cons a l N=>
  rw[Xk,Xk,Ux]
  have:=mono l
  by_cases e:a=t
  ·rw[if_pos e,e,J];simp only[Xw,Qy,if_false,Yt,if_true,Qj];omega
  ·have:=N ((Qk.1 I).resolve_left fun h=>e h.symm)
   rw[if_neg e];split<;>(try simp only[Qj])<;>omega
theorem Qdk {deep:List Sp}{from_:Pl}{dd:Int}: ∀{tos:List Pl} {m:Seen} {xs:List Pl},addP deep from_ dd tos m xs=none→from_∈tos
 | [],_,_,h=>by cases h
 |t::r,m,xs,h=>by
  rw[addP]at h
  by_cases e:t=from_
  ·rw[e];exact Qg ..
  ·rw[if_neg e]at h
   split at h
   ·exact Qe _ (Qdk h)
   ·exact Qe _ (Qdk h)
theorem Qcc {m:Seen}{t v:Pl}:seen (Z.mins m t true) v↔v=t∨seen m v:=by
 unfold seen
 rw[Ux]
 by_cases e:v=t
 ·rw[if_pos e];simp[e]
 ·rw[if_neg e];simp[e]
theorem addP_some {deep:List Sp}{from_:Pl}{dd:Int}{T:List Pl}: ∀{tos:List Pl} {m m':Seen} {xs xs':List Pl},(∀t∈tos,t∈T)→addP deep from_ dd tos m xs=some (m',xs')→
  from_∉tos∧(∀v,seen m v→seen m' v)∧(∀v,seen m' v→seen m v∨(v∈tos∧dd≤Z.mget 0 deep v))∧(∀t∈tos,dd≤Z.mget 0 deep t→seen m' t)∧(∀v∈xs,v∈xs')∧(∀v∈xs',v∈xs∨seen m' v)∧(∀v,seen m' v→seen m v∨v∈xs')∧xs'.length+un T m'≤xs.length+un T m
 | [],m,m',xs,xs',_,h=>by
  injection h with h;injection h with h1 I;subst h1;subst I
  exact⟨by simp,fun v h=>h,fun v h=>.inl h,by simp,fun v h=>h,fun v h=>.inl h,fun v h=>.inl h,Q1 _⟩
 |t::r,m,m',xs,xs',hT,h=>by
  rw[addP]at h
  by_cases e:t=from_
  ·rw[if_pos e]at h;cases h
  ·rw[if_neg e]at h
   by_cases Y:dd≤Z.mget 0 deep t∧Z.mget false m t=false
   ·rw[if_pos Y]at h
    obtain⟨a1,a2,a3,a4,a5,a6,a7,a8⟩:=addP_some (fun x J=>hT x (Qe _ J)) h
    have hun:=un_ins (hT t (Qg ..)) Y.2
    refine⟨fun I=>(Qk.1 I).elim (fun W=>e W.symm) a1,fun v N=>a2 v (Qcc.2 (.inr N)),fun v N=>?_,fun x J O=>?_,fun v N=>a5 v (Q6 _ N),fun v N=>?_,fun v N=>?_,by rw[Ql]at a8;simp only[Qj,Qx]at a8;omega⟩
    ·rcases a3 v N with I|I
     ·rcases Qcc.1 I with rfl|W
      ·exact .inr ⟨Qg ..,Y.1⟩
      ·exact .inl W
     ·exact .inr ⟨Qe _ I.1,I.2⟩
    ·rcases Qk.1 J with rfl|J
     ·exact a2 _ (Qcc.2 (.inl rfl))
     ·exact a4 x J O
    ·rcases a6 v N with I|I
     ·rcases Qn.1 I with I|I
      ·exact .inl I
      ·rw[Qi]at I;subst I;exact .inr (a2 _ (Qcc.2 (.inl rfl)))
     ·exact .inr I
    ·rcases a7 v N with I|I
     ·rcases Qcc.1 I with rfl|W
      ·exact .inr (a5 _ (Q9 _ (Qi.2 rfl)))
      ·exact .inl W
     ·exact .inr I
   ·rw[if_neg Y]at h
    obtain⟨a1,a2,a3,a4,a5,a6,a7,a8⟩:=addP_some (fun x J=>hT x (Qe _ J)) h
    refine⟨fun I=>(Qk.1 I).elim (fun W=>e W.symm) a1,a2,fun v N=>?_,fun x J O=>?_,a5,a6,a7,a8⟩
    ·rcases a3 v N with I|I
     ·exact .inl I
     ·exact .inr ⟨Qe _ I.1,I.2⟩
    ·rcases Qk.1 J with rfl|J
     ·refine a2 _ ?_
      unfold seen
      cases I:Z.mget false m x with
      |true=>rfl
      |false=>exact absurd ⟨O,I⟩ Y
     ·exact a4 x J O
def blk (g:List Nd)(dd:Int)(p:Pl):Prop:=(Z.mget ((0,0,[],(0,0,(ByteArray.mk #[])),(ByteArray.mk #[]),0,0):Nd) (Qac g) p.1).2.1=14∧(Z.mget ((0,0,[],(0,0,(ByteArray.mk #[])),(ByteArray.mk #[]),0,0):Nd) (Qac g) p.1).2.2.2.2.2.2=dd
def okP (g:List Nd)(steps:List (Pl×List Pl))(deep:List Sp)(dd:Int)(p q:Pl):Prop:=q∈Z.mget [] steps p∧¬blk g dd p∧dd≤Z.mget 0 deep q
theorem reaches_eq (g:List Nd)(a0:(List (Int×Nd))×(List Int)×(List (Int×Int)))(h0:a0.1=Qac g)(steps:List (Pl×List Pl))(deep:List Sp)(from_:Pl)(dd:Int)(T:List Pl)(hT:T.length≤4000)(hst: ∀p q,q∈Z.mget [] steps p→q∈T)(hsl: ∀p,(Z.mget [] steps p).length≤4000)(hfd:dd≤Z.mget 0 deep from_):
  ∃b,F.bd a0 steps deep from_ dd=some b∧(b=true↔Rch (okP g steps deep dd) from_ from_):=by
 have main: ∀(n f:Nat) (m:Seen) (xs:List Pl),xs.length+un T m≤n→n<f→xs.length≤9000→xs.length+un T m≤9000→(∀v,seen m v→Rch (okP g steps deep dd) from_ v)→(∀t∈xs,t=from_∨seen m t)→(∀v,v=from_∨seen m v→v∉xs→∀w,okP g steps deep dd v w→w≠from_∧seen m w)→
   ∃b,F.ad a0 steps deep from_ dd f m xs=some b∧(b=true↔Rch (okP g steps deep dd) from_ from_):=by
  intro n
  induction n with
  |zero=>
   intro f m xs hn hf hx900 _ i1 i2 W
   obtain⟨f,rfl⟩: ∃f',f=f'+1:=⟨f-1,by omega⟩
   have hx:xs=[]:=Wp (by omega)
   subst hx
   rw[F.ad,if_neg (by simp)]
   refine⟨false,rfl,fun h=>(by cases h),fun h=>?_⟩
   have Y: ∀q,Rch (okP g steps deep dd) from_ q→q≠from_∧seen m q:=fun q hq=>by
    induction hq with
    |one h6=>exact W from_ (.inl rfl) (by simp) _ h6
    |step h6 h7 ih2=>exact W _ (.inr ih2.2) (by simp) _ h7
   exact absurd rfl (Y _ h).1
  |succ n ih=>
   intro f m xs hn hf hx900 hu900 i1 i2 W
   obtain⟨f,rfl⟩: ∃f',f=f'+1:=⟨f-1,by omega⟩
   rw[F.ad]
   by_cases hne:xs=[]
   ·subst hne
    rw[if_neg (by simp)]
    refine⟨false,rfl,fun h=>(by cases h),fun h=>?_⟩
    have Y: ∀q,Rch (okP g steps deep dd) from_ q→q≠from_∧seen m q:=fun q hq=>by
     induction hq with
     |one h6=>exact W from_ (.inl rfl) (by simp) _ h6
     |step h6 h7 ih2=>exact W _ (.inr ih2.2) (by simp) _ h7
    exact absurd rfl (Y _ h).1
   ·obtain⟨ys,at_,rfl⟩: ∃ys a,xs=ys++[a]:=⟨xs.dropLast,xs.getLast hne,(List.dropLast_concat_getLast hne).symm⟩
    have hl:(ys++[at_]).length=ys.length+1:=by simp
    have e1:(((ys++[at_]).length:Int)-1)=(ys.length:Int):=by rw[hl];omega
    have hat:(ys++[at_])[ys.length]?=some at_:=by simp
    rw[if_pos (by omega),A.gd1 ⟨by omega,by omega⟩,e1,A.ixn hat,Qa,A.gd1 ⟨by omega,by omega⟩,A.gd1 ⟨by omega,by rw[Qr];omega⟩,A.lt,F.co,e1,Qr,A.ba,h0]
    have htake:List.take ys.length (ys++[at_])=ys:=by simp
    rw[htake]
    have hatr:at_=from_∨seen m at_:=i2 at_ (by simp)
    by_cases hb:blk g dd at_
    ·rw[if_pos (show decide ((Z.mget ((0,0,[],(0,0,(ByteArray.mk #[])),(ByteArray.mk #[]),0,0):Nd) (Qac g) at_.1).2.1=14∧(Z.mget ((0,0,[],(0,0,(ByteArray.mk #[])),(ByteArray.mk #[]),0,0):Nd) (Qac g) at_.1).2.2.2.2.2.2=dd)=true from decide_eq_true hb)]
     refine ih f m ys (by omega) (by omega) (by omega) (by omega) i1 (fun t ht=>i2 t (Q6 _ ht)) fun v hv N w O=>?_
     by_cases e:v=at_
     ·subst e;exact absurd hb O.2.1
     ·exact W v hv (fun h=>by
       rcases Qn.1 h with h|h
       ·exact N h
       ·exact e (Qi.1 h)) w O
    ·rw[if_neg (show ¬decide ((Z.mget ((0,0,[],(0,0,(ByteArray.mk #[])),(ByteArray.mk #[]),0,0):Nd) (Qac g) at_.1).2.1=14∧(Z.mget ((0,0,[],(0,0,(ByteArray.mk #[])),(ByteArray.mk #[]),0,0):Nd) (Qac g) at_.1).2.2.2.2.2.2=dd)=true from fun h=>hb (by have h9:=of_decide_eq_true h;exact h9)),A.lt,show Z.mget [] steps at_=Z.mget [] steps at_ from rfl,reaches_l3 deep from_ dd _ _ m ys (hsl at_) (by omega)]
     cases hadd:addP deep from_ dd (Z.mget [] steps at_) m ys with
     |none=>
      have hfrom:=Qdk hadd
      have I:okP g steps deep dd at_ from_:=⟨hfrom,hb,hfd⟩
      refine⟨true,rfl,fun _=>?_,fun _=>rfl⟩
      rcases hatr with h|h
      ·rw[h]at I;exact .one I
      ·exact .step (i1 at_ h) I
     |some s=>
      obtain⟨m',xs'⟩:=s
      obtain⟨a1,a2,a3,a4,a5,a6,a7,a8⟩:=addP_some (T:=T) (hst at_) hadd
      simp only[]
      refine ih f m' xs' (by omega) (by omega) (by omega) (by omega) (fun v hv=>?_) (fun t ht=>?_) fun v hv N w O=>?_
      ·rcases a3 v hv with h|h
       ·exact i1 v h
       ·have I:okP g steps deep dd at_ v:=⟨h.1,hb,h.2⟩
        rcases hatr with J|J
        ·rw[J]at I;exact .one I
        ·exact .step (i1 at_ J) I
      ·rcases a6 t ht with h|h
       ·rcases i2 t (Q6 _ h)with J|J
        ·exact .inl J
        ·exact .inr (a2 t J)
       ·exact .inr h
      ·have hv2:v=from_∨seen m v:=by
        rcases hv with h|h
        ·exact .inl h
        ·rcases a7 v h with J|J
         ·exact .inr J
         ·exact absurd J N
       by_cases e:v=at_
       ·subst e
        exact⟨fun h=>a1 (h▸O.1),a4 w O.1 O.2.2⟩
       ·obtain⟨h1,J⟩:=W v hv2 (fun h=>by
         rcases Qn.1 h with h|h
         ·exact N (a5 v h)
         ·exact e (Qi.1 h)) w O
        exact⟨h1,a2 w J⟩
 have hu:un T []≤T.length:=X5 _ _
 exact main (1+T.length) A.FU [] [from_] (by simp;omega) (by have:=Qab;omega) (by simp) (by simp;omega) (fun v h=>by cases h) (fun t ht=>.inl (Qi.1 ht)) (fun v hv hx w O=>by
  rcases hv with h|h
  ·exact absurd (Qi.2 h) hx
  ·cases h)
end Go.Proofs.YtlbnpmfggfbdoaaGreatDoor
end
