import Derived.Test.YtlbdgahbamalcaaGreatDoorL5
import Derived.Lib.TrimUEq
import Derived.Lib.MapLaws
import Derived.Lib.ValidU
set_option linter.unusedVariables false
set_option linter.unusedSimpArgs false
set_option maxRecDepth 20000
set_option maxHeartbeats 8000000
set_option synthInstance.maxSize 1000000
set_option synthInstance.maxHeartbeats 400000
set_option linter.unusedSectionVars false
section
namespace Go.Proofs.YtlbdgahbamalcaaGreatDoor
open Go.RowKit
abbrev l6a:List Value:=[A.i 0,A.i 0,.slice none 0 0,A.i 0,A.i 0,.string (ByteArray.mk #[]),.string (ByteArray.mk #[]),A.i 0,A.i 0]
abbrev l6b:List Nat:=[0,1,2,3,4,5,6,7,8,9,10,11]
abbrev l6c:List Value:=[A.i 0,.string (ByteArray.mk #[])]
abbrev l6d:List Value:=[.slice none 0 0]
abbrev l6e:List Nat:=[5,6,7,8,9,10,11,422]
abbrev l6f:List Nat:=[5,6,7,8,9,10,11,785]
abbrev l6g:List Nat:=[5,6,7,8,9,10,11,946]
abbrev l6h:List Nat:=[0,3,4,5,6,7,8,9,10,179,183,224,225,264,265]
abbrev l6i:List Nat:=[5,6,7,8,9,10,11]
abbrev l6j:List Nat:=[0,1,2,3,4,5,6,7,8,9]
abbrev l6k:List Nat:=[0,1,2,27,54,55,56]
abbrev l6l:List Nat:=[0,1,6,7]
variable(A0_ A1_ A2_ A4_ A5_ A6_ A7_ A8_ A13_:Option Addr)(b0_ g0_ b1_ c1_ b2_ c2_ g2_ b3_ c3_ b4_ g4_ b5_ c5_ b6_ c6_ g6_ c7_ c8_ c9_ g10_ c14_:Nat)
def F.r (p:((List (Int×D33))×(List (Int×(List D27)))×(List (D131×(List D45)))×(List (Int×(List D72)))))(o:(List D27)):Nat->(List (D27×Int))->Int->Option (((List (Int×D33))×(List (Int×(List D27)))×(List (D131×(List D45)))×(List (Int×(List D72))))×(List (D27×Int)))
 |0,_,_=>none
 |f+1,s,h=>if h<(o.length:Int)then((A.ix o h).bind fun t=>((F.aI s t 1).bind fun u=>(A.gd (Z.R64 (h+1)) ((F.r p o f) u (h+1)))))else(some (p,s))
def F.n (p:D33)(s:D113)(rc:((List (Int×D33))×(List (Int×(List D27)))×(List (D131×(List D45)))×(List (Int×(List D72))))->Int->D113->Option ((List D45)×((List (Int×D33))×(List (Int×(List D27)))×(List (D131×(List D45)))×(List (Int×(List D72)))))):Nat->(List (Int×D33))->(List (Int×(List D27)))->(List (D131×(List D45)))->(List (Int×(List D72)))->(List (D27×Int))->Int->Option (((List (Int×D33))×(List (Int×(List D27)))×(List (D131×(List D45)))×(List (Int×(List D72))))×(List (D27×Int)))
 |0,_,_,_,_,_,_=>none
 |f+1,t,u,z,B,E,o=>if o<(p.2.2.1.length:Int)then((A.ix p.2.2.1 o).bind fun I=>((rc (t,u,z,B) I s).bind fun h=>((F.ac E h.1).bind fun J=>(A.gd (Z.R64 (o+1)) ((F.n p s rc f) h.2.1 h.2.2.1 h.2.2.2.1 h.2.2.2.2 J (o+1))))))else(some ((t,u,z,B),E))
def F.aj (s:D33)(o:D113)(rc:((List (Int×D33))×(List (Int×(List D27)))×(List (D131×(List D45)))×(List (Int×(List D72))))->Int->D113->Option ((List D45)×((List (Int×D33))×(List (Int×(List D27)))×(List (D131×(List D45)))×(List (Int×(List D72)))))):Nat->(List (Int×D33))->(List (Int×(List D27)))->(List (D131×(List D45)))->(List (Int×(List D72)))->(List (D27×Int))->Int->Option (((List (Int×D33))×(List (Int×(List D27)))×(List (D131×(List D45)))×(List (Int×(List D72))))×(List (D27×Int)))
 |0,_,_,_,_,_,_=>none
 |f+1,t,u,z,B,E,p=>if p<9 then((A.ix s.2.2.1 0).bind fun I=>((F.aP (o.1,o.2.1+1,o.2.2) p).bind fun J=>((rc (t,u,z,B) I J).bind fun h=>((F.ac E h.1).bind fun L=>(A.gd (Z.R64 (p+1)) ((F.aj s o rc f) h.2.1 h.2.2.1 h.2.2.2.1 h.2.2.2.2 L (p+1)))))))else(some ((t,u,z,B),E))
def F.z (h:((List (Int×D33))×(List (Int×(List D27)))×(List (D131×(List D45)))×(List (Int×(List D72)))))(s:(List (D27×Int)))(o:D33)(p:D113)(rc:((List (Int×D33))×(List (Int×(List D27)))×(List (D131×(List D45)))×(List (Int×(List D72))))->Int->D113->Option ((List D45)×((List (Int×D33))×(List (Int×(List D27)))×(List (D131×(List D45)))×(List (Int×(List D72))))))(E:Bool):Option (((List (Int×D33))×(List (Int×(List D27)))×(List (D131×(List D45)))×(List (Int×(List D72))))×(List (D27×Int))):=if E=true then(F.n o p rc A.FU h.1 h.2.1 h.2.2.1 h.2.2.2 s 0)else(if o.2.1=12 then((F.aC p).bind fun I=>(if I=0 then((A.ix o.2.2.1 0).bind fun J=>((F.b6 p).bind fun L=>((rc h J L).bind fun u=>((F.ac s u.1).bind fun N=>(some (u.2,N))))))else(some (h,s))))else(if o.2.1=13 then(A.gd (Z.R64 (p.2.1+1)) (F.aj o p rc A.FU h.1 h.2.1 h.2.2.1 h.2.2.2 s 0))else(if o.2.1=14 then((F.aC p).bind fun t=>(A.gd (((decide ((0:Int)<t))=true->Z.R64 (t-1))) (if(bif decide ((0:Int)<t)then decide (t-1<o.2.2.2.2.2.1)else false)=true then(A.gd (Z.R64 (t-1)) ((A.ix o.2.2.1 0).bind fun U=>((F.aP p (t-1)).bind fun W=>((rc h U W).bind fun B=>((F.ac s B.1).bind fun a4=>(some (B.2,a4)))))))else(some (h,s)))))else(none))))
def F.aa (o:((List (Int×D33))×(List (Int×(List D27)))×(List (D131×(List D45)))×(List (Int×(List D72)))))(p:(List (D27×Int)))(h:D33)(s:D113)(rc:((List (Int×D33))×(List (Int×(List D27)))×(List (D131×(List D45)))×(List (Int×(List D72))))->Int->D113->Option ((List D45)×((List (Int×D33))×(List (Int×(List D27)))×(List (D131×(List D45)))×(List (Int×(List D72))))))(t:Bool):Option (((List (Int×D33))×(List (Int×(List D27)))×(List (D131×(List D45)))×(List (Int×(List D72))))×(List (D27×Int))):=if t=true then(none)else(if h.2.1=5 then(F.z o p h s rc (decide (h.2.1=5)))else(if h.2.1=6 then(F.z o p h s rc (decide (h.2.1=6)))else(F.z o p h s rc (decide (h.2.1=15)))))
def F.i (rc:((List (Int×D33))×(List (Int×(List D27)))×(List (D131×(List D45)))×(List (Int×(List D72))))->Int->D113->Option ((List D45)×((List (Int×D33))×(List (Int×(List D27)))×(List (D131×(List D45)))×(List (Int×(List D72))))))(o:((List (Int×D33))×(List (Int×(List D27)))×(List (D131×(List D45)))×(List (Int×(List D72)))))(p:(List (D27×Int)))(h:D33)(s:D113):Option (((List (Int×D33))×(List (Int×(List D27)))×(List (D131×(List D45)))×(List (Int×(List D72))))×(List (D27×Int))):=if h.2.1=1 then(A.lt (Z.mget ([]:(List D27)) o.2.1 h.1) fun t=>(F.r o t A.FU p 0))else(if h.2.1=2 then(F.aa o p h s rc (decide (h.2.1=2)))else(if h.2.1=3 then(F.aa o p h s rc (decide (h.2.1=3)))else(F.aa o p h s rc (decide (h.2.1=4)))))
theorem o_a3(rc:((List (Int×D33))×(List (Int×(List D27)))×(List (D131×(List D45)))×(List (Int×(List D72))))->Int->D113->Option ((List D45)×((List (Int×D33))×(List (Int×(List D27)))×(List (D131×(List D45)))×(List (Int×(List D72))))))(u:((List (Int×D33))×(List (Int×(List D27)))×(List (D131×(List D45)))×(List (Int×(List D72)))))(E:(List (D27×Int)))(o:D33)(p:D113)(m22_:Int)(bt:A.h6 o.1)(bu:A.h6 o.2.1)(bw:A.h6 o.2.2.2.1.1)(bx:A.h6 o.2.2.2.1.2.1)(dj:o.2.2.2.1.2.2.size<=maxLen)(dm:o.2.2.2.2.1.size<=maxLen)(dn:A.h6 o.2.2.2.2.2.1)(dp:A.h6 o.2.2.2.2.2.2)(a4:A.h6 p.1)(ac:A.h6 p.2.1)(a5:A.h6 p.2.2.1)(a6:A.h6 p.2.2.2.1)(a7:A.h6 p.2.2.2.2.1)(a8:A.h6 p.2.2.2.2.2)(ihr: ∀(u:((List (Int×D33))×(List (Int×(List D27)))×(List (D131×(List D45)))×(List (Int×(List D72))))) (E:Int) (o:D113) (g0_:Nat) (b1_:Nat) (b2_:Nat) (b3_:Nat) (b4_:Nat) (m12_:Int) (dq:A.h6 E) (bt:A.h6 o.1) (bu:A.h6 o.2.1) (dt:A.h6 o.2.2.1) (du:A.h6 o.2.2.2.1) (bw:A.h6 o.2.2.2.2.1) (bx:A.h6 o.2.2.2.2.2) (r:(List D45)×((List (Int×D33))×(List (Int×(List D27)))×(List (D131×(List D45)))×(List (Int×(List D72))))),rc u E o=some r->A.Ct Tryz.prog 48 [.pointer (some ⟨g0_,0,none⟩),A.i E,(A.rae o)] [(0,.blk g0_ 87 [.map (some b1_),.map (some b2_),.map (some b3_),.map (some b4_)]),(1,.mp Int (fun i:Int=>A.i i) T33 true b1_ u.1),(2,.mp Int (fun i:Int=>A.i i) (Z.Ty.slice T27) false b2_ u.2.1),(3,.mp D131 (fun x:D131=>(A.raf x)) (Z.Ty.slice T45) false b3_ u.2.2.1),(4,.mp Int (fun i:Int=>A.i i) (Z.Ty.slice T72) false b4_ u.2.2.2),(5,.el none 0 0 A.tabF),(6,.el none 1 0 A.tabA),(7,.el none 2 0 [A.i m12_])] ([g0_]++([b1_]++([b2_]++([b3_]++([b4_]++[]))))) (fun v H'=>∃(A0':Option Addr) (c1':Nat) (b2':Nat) (b3':Nat) (b4':Nat) (b5':Nat),v=.slice A0' r.1.length c1'/\H'=[(0,.sh (.slice T45) [.slice A0' r.1.length c1'] r.1),(1,.blk g0_ 87 [.map (some b2'),.map (some b3'),.map (some b4'),.map (some b5')]),(2,.mp Int (fun i:Int=>A.i i) T33 true b2' r.2.1),(3,.mp Int (fun i:Int=>A.i i) (Z.Ty.slice T27) false b3' r.2.2.1),(4,.mp D131 (fun x:D131=>(A.raf x)) (Z.Ty.slice T45) false b4' r.2.2.2.1),(5,.mp Int (fun i:Int=>A.i i) (Z.Ty.slice T72) false b5' r.2.2.2.2)]))(r:((List (Int×D33))×(List (Int×(List D27)))×(List (D131×(List D45)))×(List (Int×(List D72))))×(List (D27×Int)))(h:F.i rc u E o p=some r):
    A.Ct Tryz.prog 63 [.pointer (some ⟨g0_,0,none⟩),.map (some b5_),(A.rao o A8_ c9_),(A.rae p)] [(0,.blk g0_ 87 [.map (some b1_),.map (some b2_),.map (some b3_),.map (some b4_)]),(1,.mp Int (fun i:Int=>A.i i) T33 true b1_ u.1),(2,.mp Int (fun i:Int=>A.i i) (Z.Ty.slice T27) false b2_ u.2.1),(3,.mp D131 (fun x:D131=>(A.raf x)) (Z.Ty.slice T45) false b3_ u.2.2.1),(4,.mp Int (fun i:Int=>A.i i) (Z.Ty.slice T72) false b4_ u.2.2.2),(5,.mp D27 (fun x:D27=>(A.rar x)) A.ti false b5_ E),(6,.sh A.TI [.slice A8_ o.2.2.1.length c9_] o.2.2.1),(7,.el none 0 0 A.tabF),(8,.el none 1 0 A.tabA),(9,.el none 2 0 [A.i m22_])] ([g0_]++([b1_]++([b2_]++([b3_]++([b4_]++([b5_]++[])))))) (fun v H'=>∃(b0':Nat) (b1':Nat) (b2':Nat) (b3':Nat),v=.tuple #[]/\H'=[(0,.blk g0_ 87 [.map (some b0'),.map (some b1'),.map (some b2'),.map (some b3')]),(1,.mp Int (fun i:Int=>A.i i) T33 true b0' r.1.1),(2,.mp Int (fun i:Int=>A.i i) (Z.Ty.slice T27) false b1' r.1.2.1),(3,.mp D131 (fun x:D131=>(A.raf x)) (Z.Ty.slice T45) false b2' r.1.2.2.1),(4,.mp Int (fun i:Int=>A.i i) (Z.Ty.slice T72) false b3' r.1.2.2.2),(5,.mp D27 (fun x:D27=>(A.rar x)) A.ti false b5_ r.2)]):=by
 refine Jv Tryz.func63 rfl Tryz.ntmps63 rfl fun w0 F0=>?_;rw[F.i]at h;refine J0 1 ?_;refine J1 10 (cs:=(A.rai o A8_ c9_)) fun g1=>?_;refine J1 11 (cs:=(A.rab p)) fun g2=>?_;refine Vk 2 ?_;refine J5 [10] [] [.n,.b 0 1] [(15,A.i o.2.1)] (Vk 3 ?_);refine Vc 2 [(21,.bool (decide (o.2.1=1)))] 1 ?_;refine Uv h ?_ ?_<;>intro B h
 ·refine Um 1 ?_;refine Vj mixed 9 9 (A.mb 9 0) ?_;refine Vm Vd [] l6b [10,0] [] (A.mb 9 319) 2 [(0,.n),(4,.n),(8,.n),(1,.n),(5,.b 0 0),(2,.n),(3,.b 1 1)] [(31,A.i 0),(28,A.i o.1),(26,.map (some b2_))] (Jz 6 ?_);obtain⟨x3,bz,h⟩:=Vi h;refine V8 (t:=(Z.Ty.slice T27)) 2 12 (z:=([]:(List D27))) (zs:=l6d) ky3 o.1 Tryz.zeroValue22 (.inr ⟨rfl,rfl⟩) bz fun dv=>?_;intro A6 c7;refine J2 (A.mb 9 383) l6b ?_;refine Vm Vd l6b [0,1,2,3,4,5,6,7,8,9,10,11,12] [] [] (A.mb 9 511) 0 [(7,.n)] [(30,A.i (x3.length:Int))] (J6 ?_);refine A.ex 2 ?_;refine Vo [1,29,30] [0,1,2,3,4,7,8,9,12] (fun f J L=>∃(m8:List (D27×Int))(N:Int),J=[(31,A.i N)]/\L=[(5,.mp D27 (fun x:D27=>(A.rar x)) A.ti false b5_ m8)]/\A.h6 N/\F.r u x3 f m8 N=some r) ⟨E,0,rfl,rfl,J3,h⟩ ?_;rintro b4 _ _ ⟨m8,N,rfl,rfl,dw,h⟩;rcases b4 with _|b4
  ·exact Vb h
  rw[F.r]at h;refine Vl 1 1 [(32,.bool (decide (N<(x3.length:Int))))] 2 h ?_ ?_<;>intro B h
  ·refine J0 5 ?_;have⟨ao,c0,h⟩:=V6 h;refine Vr 12 97 c0 fun b5=>?_;intro dy dz;refine J5 [] [97] [.e 0 0] [(34,(A.rar ao))] (Jy 98 (cs:=l6c) Tryz.zeroValue28 fun e0=>?_);refine Vg 98 [] (A.ral ao) ?_;refine Vk 1 ?_;refine J5 [98] [] [.n,.b 0 0] [(35,.map (some b5_)),(36,(A.rar ao))] (Vx 99 [] h (o_av b5_ m8 ao 1 b5.1 b5.2 (Vp 1)) (.m 5 .nil) ?_);rintro c1 - h _ _ ⟨rfl,rfl⟩;refine J9 (J8 99 5 [] ?_);refine Vk 2 ?_;have⟨b6,h⟩:=Vs h;refine Uf 2 [Z.R64 (N+1)] [(31,A.i (N+1))] b6 (Ju ?_);exact Vn ⟨_,Qn _,⟨c1,(N+1),rfl,rfl,(Jw b6),h⟩⟩
  refine V1 2 ?_;obtain rfl:=Vf h;exact Ui [(0,0),(1,1),(2,2),(3,3),(4,4),(5,5)] (.tuple #[]) (fun a w hf hh=>Uw rfl w) (⟨b1_,b2_,b3_,b4_,rfl,rfl⟩)
 refine J4 [0,1,6,7,15] l6b (fun J L=>∃(b1:Bool),J=[(39,.bool b1)]/\L=[]/\F.aa u E o p rc b1=some r) ?_ ?_
 ·refine Vl 1 2 [(39,.bool (decide (o.2.1=2)))] 1 h ?_ ?_<;>intro B h
  ·refine V1 1 ?_;exact Vn ⟨(decide (o.2.1=2)),rfl,rfl,h⟩
  refine Vl 1 2 [(39,.bool (decide (o.2.1=3)))] 1 h ?_ ?_<;>intro B h
  ·refine V1 1 ?_;exact Vn ⟨(decide (o.2.1=3)),rfl,rfl,h⟩
  refine Ub 0 2 [(39,.bool (decide (o.2.1=4)))] ?_;refine Ju ?_;exact Vn ⟨(decide (o.2.1=4)),rfl,rfl,h⟩
 rintro _ _ ⟨b1,rfl,rfl,h⟩;rw[F.aa]at h;refine Uk h ?_ ?_<;>intro B h
 ·refine Vy 0 [10,11] [] [.n,.n,.b 0 0,.b 1 0] [(43,.pointer (some ⟨g0_,0,none⟩)),(44,.map (some b5_)),(45,(A.rao o A8_ c9_)),(46,(A.rae p))] ?_;exact Vb h
 refine J4 [0,1,6,7,15] l6b (fun J L=>∃(b2:Bool),J=[(48,.bool b2)]/\L=[]/\F.z u E o p rc b2=some r) ?_ ?_
 ·refine Vl 1 2 [(48,.bool (decide (o.2.1=5)))] 1 h ?_ ?_<;>intro B h
  ·refine V1 1 ?_;exact Vn ⟨(decide (o.2.1=5)),rfl,rfl,h⟩
  refine Vl 1 2 [(48,.bool (decide (o.2.1=6)))] 1 h ?_ ?_<;>intro B h
  ·refine V1 1 ?_;exact Vn ⟨(decide (o.2.1=6)),rfl,rfl,h⟩
  refine Ub 0 2 [(48,.bool (decide (o.2.1=15)))] ?_;refine Ju ?_;exact Vn ⟨(decide (o.2.1=15)),rfl,rfl,h⟩
 rintro _ _ ⟨b2,rfl,rfl,h⟩;rw[F.z]at h;refine Uk h ?_ ?_<;>intro B h
 ·refine Uh 1 [10] [] [.n,.b 0 2,.n,.n] [(53,.slice A8_ o.2.2.1.length c9_),(54,A.i (o.2.2.1.length:Int)),(55,A.i 0)] 2 ?_;refine Vo [0,1,7,53,54] [6,7,8,9,11] (fun f J L=>∃(ap:List (Int×D33))(aq:List (Int×(List D27)))(ar:List (D131×(List D45)))(au:List (Int×(List D72)))(av:List (D27×Int))(U:Int)(ad:Nat)(ae:Nat)(ag:Nat)(ah:Nat),J=[(55,A.i U)]/\L=[(0,.blk g0_ 87 [.map (some ad),.map (some ae),.map (some ag),.map (some ah)]),(1,.mp Int (fun i:Int=>A.i i) T33 true ad ap),(2,.mp Int (fun i:Int=>A.i i) (Z.Ty.slice T27) false ae aq),(3,.mp D131 (fun x:D131=>(A.raf x)) (Z.Ty.slice T45) false ag ar),(4,.mp Int (fun i:Int=>A.i i) (Z.Ty.slice T72) false ah au),(5,.mp D27 (fun x:D27=>(A.rar x)) A.ti false b5_ av)]/\A.h6 U/\F.n o p rc f ap aq ar au av U=some r) ⟨u.1,u.2.1,u.2.2.1,u.2.2.2,E,0,b1_,b2_,b3_,b4_,rfl,rfl,J3,h⟩ ?_;rintro b7 _ _ ⟨ap,aq,ar,au,av,U,ad,ae,ag,ah,rfl,rfl,e1,h⟩;rcases b7 with _|b7
  ·exact Vb h
  rw[F.n]at h;refine Vl 1 1 [(56,.bool (decide (U<(o.2.2.1.length:Int))))] 2 h ?_ ?_<;>intro B h
  ·refine J0 5 ?_;have⟨b3,c2,h⟩:=V6 h;refine Vr 6 301 c2 fun c3=>?_;intro e2 e3;refine J5 [] [301] [.e 0 0,.n] [(11,A.i b3)] (Vk 1 ?_);refine J5 [11] [] [.n,.n,.n,.b 0 0] [(59,.map (some b5_)),(60,.pointer (some ⟨g0_,0,none⟩)),(61,A.i b3),(62,(A.rae p))] ?_;have⟨a9,c4,h⟩:=V6 h;refine V3 302 [] (first:=[]) (cap:=[]) cf48 (ihr (ap,aq,ar,au) b3 p g0_ ad ae ag ah m22_ c3 a4 ac a5 a6 a7 a8 a9 c4) (.m 0 (.m 1 (.m 2 (.m 3 (.m 4 (.s 7 (.s 8 (.s 9 .nil)))))))) ?_;rintro _ _ ⟨c5,c6,c8,c9,ca,cb,rfl,rfl⟩;refine J9 (J8 303 0 [] ?_);refine J8 304 1 [] ?_;refine J8 305 2 [] ?_;refine J8 306 3 [] ?_;refine J8 307 4 [] ?_;refine Vx 342 [] h (o_m c5 b5_ c6 av a9.1) (.m 5 (.l 302 .nil)) ?_;rintro cc - h _ _ ⟨rfl,rfl⟩;refine J9 (J8 342 5 [] ?_);refine Vk 2 ?_;have⟨b9,h⟩:=Vs h;refine Uf 2 [Z.R64 (U+1)] [(55,A.i (U+1))] b9 (Ju ?_);exact Vn ⟨_,Qn _,⟨a9.2.1,a9.2.2.1,a9.2.2.2.1,a9.2.2.2.2,cc,(U+1),c8,c9,ca,cb,rfl,rfl,(Jw b9),h⟩⟩
  refine V1 2 ?_;obtain rfl:=Vf h;exact Ui [(0,0),(1,1),(2,2),(3,3),(4,4),(5,5)] (.tuple #[]) (fun a w hf hh=>Uw rfl w) (⟨ad,ae,ag,ah,rfl,rfl⟩)
 refine Vl 1 2 [(66,.bool (decide (o.2.1=12)))] 1 h ?_ ?_<;>intro B h
 ·refine Vy 1 [11] [] [.b 0 0] [(68,(A.rae p))] ?_;refine Vx 382 [] h (o_aA p a4 ac a5 a6 a7 a8) .nil ?_;rintro cd - h _ _ ⟨rfl,rfl,hr53⟩;refine J9 (Vc 1 [(70,.bool (decide (cd=0)))] 1 ?_);refine Uv h ?_ ?_<;>intro B h
  ·refine Vj mixed 9 10 (A.mb 10 0) ?_;refine Vm Vd [] l6i [11,10] [] (A.mb 10 79) 5 [(0,.n),(1,.n),(2,.n),(6,.b 0 0),(3,.b 1 2)] [(71,.map (some b5_)),(72,.pointer (some ⟨g0_,0,none⟩)),(77,(A.rae p)),(74,.slice A8_ o.2.2.1.length c9_)] ?_;have⟨bb,bc,h⟩:=V6 h;refine A.AH.pks 6 422 bc fun cf=>?_;intro e4 e5 cg;refine V0 Vd l6i l6e 4 (A.mb 10 95) rfl (fun a w hf hh=>Un (t:=A.ti) bc cg hf) ?_;refine Vm Vd l6e l6e [] [422] (A.mb 10 127) 3 [(5,.e 0 0)] [(76,A.i bb)] (Jz 7 ?_);refine Vx 423 [] h (o_bC p a4 ac a5 a6 a7 a8) .nil ?_;rintro ch - h _ _ ⟨rfl,rfl,hr62,hr63,hr64,hr65,hr66,hr67⟩;refine J9 (J2 (A.mb 10 255) l6e ?_);refine Jz 8 ?_;have⟨be,ci,h⟩:=V6 h;refine V3 463 [] (first:=[]) (cap:=[]) cf48 (ihr u bb ch g0_ b1_ b2_ b3_ b4_ m22_ cf hr62 hr63 hr64 hr65 hr66 hr67 be ci) (.m 0 (.m 1 (.m 2 (.m 3 (.m 4 (.s 7 (.s 8 (.s 9 .nil)))))))) ?_;rintro _ _ ⟨cj,cm,cn,co,cp,cq,rfl,rfl⟩;refine J9 (J8 464 0 [] ?_);refine J8 465 1 [] ?_;refine J8 466 2 [] ?_;refine J8 467 3 [] ?_;refine J8 468 4 [] ?_;refine J2 (A.mb 10 511) l6e ?_;refine Jz 9 ?_;refine Vx 503 [] h (o_m cj b5_ cm E be.1) (.m 5 (.l 463 .nil)) ?_;rintro e6 - h _ _ ⟨rfl,rfl⟩;refine J9 (J8 503 5 [] ?_);refine Vv (A.mb 10 1023) ?_;refine J6 ?_;refine A.ee 1 ?_;obtain rfl:=Vf h;exact Ui [(0,0),(1,1),(2,2),(3,3),(4,4),(5,5)] (.tuple #[]) (fun a w hf hh=>Uw rfl w) (⟨cn,co,cp,cq,rfl,rfl⟩)
  refine V1 2 ?_;obtain rfl:=Vf h;exact Ui [(0,0),(1,1),(2,2),(3,3),(4,4),(5,5)] (.tuple #[]) (fun a w hf hh=>Uw rfl w) (⟨b1_,b2_,b3_,b4_,rfl,rfl⟩)
 refine Vl 1 2 [(81,.bool (decide (o.2.1=13)))] 1 h ?_ ?_<;>intro B h
 ·refine J0 1 ?_;have⟨bg,h⟩:=Vs h;refine A.q [11] [] [.n,.b 0 1,.n,.n] [Z.R64 (p.2.1+1)] [(85,A.i (p.2.1+1)),(86,.pointer (some ⟨g2,1,none⟩))] bg (Us 11 [] (new:=[A.i (p.2.1+1)]) (cs':=[A.i p.1,A.i (p.2.1+1),A.i p.2.2.1,A.i p.2.2.2.1,A.i p.2.2.2.2.1,A.i p.2.2.2.2.2]) ?_);refine Vk 2 ?_;refine Vc 1 [(87,A.i 0)] 2 ?_;refine Vo l6l [6,7,8,9,10,11] (fun f J L=>∃(aw:List (Int×D33))(ax:List (Int×(List D27)))(ay:List (D131×(List D45)))(az:List (Int×(List D72)))(b0:List (D27×Int))(I:Int)(ak:Nat)(al:Nat)(am:Nat)(an:Nat),J=[(87,A.i I)]/\L=[(0,.blk g0_ 87 [.map (some ak),.map (some al),.map (some am),.map (some an)]),(1,.mp Int (fun i:Int=>A.i i) T33 true ak aw),(2,.mp Int (fun i:Int=>A.i i) (Z.Ty.slice T27) false al ax),(3,.mp D131 (fun x:D131=>(A.raf x)) (Z.Ty.slice T45) false am ay),(4,.mp Int (fun i:Int=>A.i i) (Z.Ty.slice T72) false an az),(5,.mp D27 (fun x:D27=>(A.rar x)) A.ti false b5_ b0)]/\A.h6 I/\F.aj o p rc f aw ax ay az b0 I=some r) ⟨u.1,u.2.1,u.2.2.1,u.2.2.2,E,0,b1_,b2_,b3_,b4_,rfl,rfl,J3,h⟩ ?_;rintro bh _ _ ⟨aw,ax,ay,az,b0,I,ak,al,am,an,rfl,rfl,cr,h⟩;rcases bh with _|bh
  ·exact Vb h
  rw[F.aj]at h;refine Vl 1 1 [(88,.bool (decide (I<9)))] 2 h ?_ ?_<;>intro B h
  ·refine Va 5 2 [(12,A.i I)] 1 ?_;refine Vj mixed 10 11 (A.mb 11 0) ?_;refine Vm Vd [] l6i [11,10] [] (A.mb 11 207) 5 [(0,.n),(1,.n),(2,.n),(6,.b 0 0),(7,.n),(3,.b 1 2)] [(90,.map (some b5_)),(91,.pointer (some ⟨g0_,0,none⟩)),(96,.agg #[A.i p.1,A.i (p.2.1+1),A.i p.2.2.1,A.i p.2.2.2.1,A.i p.2.2.2.2.1,A.i p.2.2.2.2.2]),(97,A.i I),(93,.slice A8_ o.2.2.1.length c9_)] ?_;have⟨bi,bj,h⟩:=V6 h;refine A.AH.pks 6 785 bj fun ct=>?_;intro e7 e8 cu;refine V0 Vd l6i l6f 4 (A.mb 11 223) rfl (fun a w hf hh=>Un (t:=A.ti) bj cu hf) ?_;refine Vm Vd l6f l6f [] [785] (A.mb 11 255) 3 [(5,.e 0 0)] [(95,A.i bi)] (Jz 8 ?_);refine Vx 786 [] h (o_al (p.1,p.2.1+1,p.2.2) I a4 (Jw bg) a5 a6 a7 a8 cr) .nil ?_;rintro cw - h _ _ ⟨rfl,rfl,hr99,hr100,hr101,hr102,hr103,hr104⟩;refine J9 (J2 (A.mb 11 511) l6f ?_);refine Jz 9 ?_;have⟨ab,cx,h⟩:=V6 h;refine V3 826 [] (first:=[]) (cap:=[]) cf48 (ihr (aw,ax,ay,az) bi cw g0_ ak al am an m22_ ct hr99 hr100 hr101 hr102 hr103 hr104 ab cx) (.m 0 (.m 1 (.m 2 (.m 3 (.m 4 (.s 7 (.s 8 (.s 9 .nil)))))))) ?_;rintro _ _ ⟨cy,cz,d1,d2,d3,d4,rfl,rfl⟩;refine J9 (J8 827 0 [] ?_);refine J8 828 1 [] ?_;refine J8 829 2 [] ?_;refine J8 830 3 [] ?_;refine J8 831 4 [] ?_;refine J2 (A.mb 11 1023) l6f ?_;refine Jz 10 ?_;refine Vx 866 [] h (o_m cy b5_ cz b0 ab.1) (.m 5 (.l 826 .nil)) ?_;rintro d5 - h _ _ ⟨rfl,rfl⟩;refine J9 (J8 866 5 [] ?_);refine Vv (A.mb 11 2047) ?_;refine J6 ?_;refine U1 2 ?_;have⟨bk,h⟩:=Vs h;refine Uf 2 [Z.R64 (I+1)] [(87,A.i (I+1))] bk (Ju ?_);exact Vn ⟨_,Qn _,⟨ab.2.1,ab.2.2.1,ab.2.2.2.1,ab.2.2.2.2,d5,(I+1),d1,d2,d3,d4,rfl,rfl,(Jw bk),h⟩⟩
  refine V1 2 ?_;obtain rfl:=Vf h;exact Ui [(0,0),(1,1),(2,2),(3,3),(4,4),(5,5)] (.tuple #[]) (fun a w hf hh=>Uw rfl w) (⟨ak,al,am,an,rfl,rfl⟩)
 refine Vl 1 2 [(102,.bool (decide (o.2.1=14)))] 1 h ?_ ?_<;>intro B h
 ·refine Vy 1 [11] [] [.b 0 0] [(104,(A.rae p))] ?_;refine Vx 906 [] h (o_aA p a4 ac a5 a6 a7 a8) .nil ?_;rintro W - h _ _ ⟨rfl,rfl,hr118⟩;refine J9 (J7 1 [(13,A.i W)] 2 ?_);have⟨d6,h⟩:=Vs h;refine A.q [10] [] [.n,.n,.n,.sy .n,.sy .n,.sy .n,.sy (.b 0 7),.sy .n,.pk] [(decide ((0:Int)<W))=true->Z.R64 (W-1)] [(114,.bool (bif decide ((0:Int)<W)then decide (W-1<o.2.2.2.2.2.1)else false))] d6 (V4 1 ?_);refine Uk h ?_ ?_<;>intro B h
  ·refine Vj mixed 11 12 (A.mb 12 0) ?_;have⟨bm,h⟩:=Vs h;refine A.AH.q Vd [] l6i [11,10] [] (A.mb 12 463) 5 [(0,.n),(1,.n),(2,.n),(6,.b 0 0),(7,.n),(3,.b 1 2),(8,.n)] [115,116,121,118,123] [Z.R64 (W-1)] [(115,.map (some b5_)),(116,.pointer (some ⟨g0_,0,none⟩)),(121,(A.rae p)),(118,.slice A8_ o.2.2.1.length c9_),(123,A.i (W-1))] bm ?_;have⟨bp,bq,h⟩:=V6 h;refine A.AH.pks 6 946 bq fun d7=>?_;intro e9 ea d8;refine V0 Vd l6i l6g 4 (A.mb 12 479) rfl (fun a w hf hh=>Un (t:=A.ti) bq d8 hf) ?_;refine Vm Vd l6g l6g [] [946] (A.mb 12 511) 3 [(5,.e 0 0)] [(120,A.i bp)] (Jz 9 ?_);refine Vx 947 [] h (o_al p (W-1) a4 ac a5 a6 a7 a8 (Jw bm)) .nil ?_;rintro d9 - h _ _ ⟨rfl,rfl,hr129,hr130,hr131,hr132,hr133,hr134⟩;refine J9 (J2 (A.mb 12 1023) l6g ?_);refine Jz 10 ?_;have⟨br,da,h⟩:=V6 h;refine V3 987 [] (first:=[]) (cap:=[]) cf48 (ihr u bp d9 g0_ b1_ b2_ b3_ b4_ m22_ d7 hr129 hr130 hr131 hr132 hr133 hr134 br da) (.m 0 (.m 1 (.m 2 (.m 3 (.m 4 (.s 7 (.s 8 (.s 9 .nil)))))))) ?_;rintro _ _ ⟨db,dc,dd,df,dh,di,rfl,rfl⟩;refine J9 (J8 988 0 [] ?_);refine J8 989 1 [] ?_;refine J8 990 2 [] ?_;refine J8 991 3 [] ?_;refine J8 992 4 [] ?_;refine J2 (A.mb 12 2047) l6g ?_;refine Jz 11 ?_;refine Vx 1027 [] h (o_m db b5_ dc E br.1) (.m 5 (.l 987 .nil)) ?_;rintro ec - h _ _ ⟨rfl,rfl⟩;refine J9 (J8 1027 5 [] ?_);refine Vv (A.mb 12 4095) ?_;refine J6 ?_;refine A.ee 1 ?_;obtain rfl:=Vf h;exact Ui [(0,0),(1,1),(2,2),(3,3),(4,4),(5,5)] (.tuple #[]) (fun a w hf hh=>Uw rfl w) (⟨dd,df,dh,di,rfl,rfl⟩)
  refine V1 2 ?_;obtain rfl:=Vf h;exact Ui [(0,0),(1,1),(2,2),(3,3),(4,4),(5,5)] (.tuple #[]) (fun a w hf hh=>Uw rfl w) (⟨b1_,b2_,b3_,b4_,rfl,rfl⟩)
 refine Vy 0 [10,11] [] [.n,.n,.b 0 0,.b 1 0] [(16,.pointer (some ⟨g0_,0,none⟩)),(17,.map (some b5_)),(18,(A.rao o A8_ c9_)),(19,(A.rae p))] ?_;exact Vb h
def F.aU (h:List (Int×D33))(o:List (Int×(List D27)))(p:List (D131×(List D45)))(s:List (Int×(List D72)))(t:List D45):Option ((List D45)×((List (Int×D33))×(List (Int×(List D27)))×(List (D131×(List D45)))×(List (Int×(List D72))))):=some (t,(h,o,p,s))
def F.cn (rc:((List (Int×D33))×(List (Int×(List D27)))×(List (D131×(List D45)))×(List (Int×(List D72))))->Int->D113->Option ((List D45)×((List (Int×D33))×(List (Int×(List D27)))×(List (D131×(List D45)))×(List (Int×(List D72))))))(h:((List (Int×D33))×(List (Int×(List D27)))×(List (D131×(List D45)))×(List (Int×(List D72)))))(p:Int)(s:D113):Option ((List D45)×((List (Int×D33))×(List (Int×(List D27)))×(List (D131×(List D45)))×(List (Int×(List D72))))):=A.lt (Z.mget ([]:(List D45)) h.2.2.1 (p,s)) fun u=>(if(!(Z.mhas h.2.2.1 (p,s)))=true then(A.lt (Z.mget ((0,0,[],(0,0,(ByteArray.mk #[])),(ByteArray.mk #[]),0,0):D33) h.1 p) fun z=>((F.i rc h [] z s).bind fun o=>((F.ax o.2).bind fun t=>(F.aU o.1.1 o.1.2.1 (Z.mins o.1.2.2.1 (p,s) t) o.1.2.2.2 t))))else(F.aU h.1 h.2.1 h.2.2.1 h.2.2.2 u))
theorem o_bo(rc:((List (Int×D33))×(List (Int×(List D27)))×(List (D131×(List D45)))×(List (Int×(List D72))))->Int->D113->Option ((List D45)×((List (Int×D33))×(List (Int×(List D27)))×(List (D131×(List D45)))×(List (Int×(List D72))))))(o:((List (Int×D33))×(List (Int×(List D27)))×(List (D131×(List D45)))×(List (Int×(List D72)))))(p:Int)(h:D113)(m12_:Int)(ak:A.h6 p)(ab:A.h6 h.1)(ac:A.h6 h.2.1)(ad:A.h6 h.2.2.1)(ae:A.h6 h.2.2.2.1)(ag:A.h6 h.2.2.2.2.1)(ah:A.h6 h.2.2.2.2.2)(ihr: ∀(o:((List (Int×D33))×(List (Int×(List D27)))×(List (D131×(List D45)))×(List (Int×(List D72))))) (p:Int) (h:D113) (g0_:Nat) (b1_:Nat) (b2_:Nat) (b3_:Nat) (b4_:Nat) (m12_:Int) (ak:A.h6 p) (ab:A.h6 h.1) (ac:A.h6 h.2.1) (ad:A.h6 h.2.2.1) (ae:A.h6 h.2.2.2.1) (ag:A.h6 h.2.2.2.2.1) (ah:A.h6 h.2.2.2.2.2) (r:(List D45)×((List (Int×D33))×(List (Int×(List D27)))×(List (D131×(List D45)))×(List (Int×(List D72))))),rc o p h=some r->A.Ct Tryz.prog 48 [.pointer (some ⟨g0_,0,none⟩),A.i p,(A.rae h)] [(0,.blk g0_ 87 [.map (some b1_),.map (some b2_),.map (some b3_),.map (some b4_)]),(1,.mp Int (fun i:Int=>A.i i) T33 true b1_ o.1),(2,.mp Int (fun i:Int=>A.i i) (Z.Ty.slice T27) false b2_ o.2.1),(3,.mp D131 (fun x:D131=>(A.raf x)) (Z.Ty.slice T45) false b3_ o.2.2.1),(4,.mp Int (fun i:Int=>A.i i) (Z.Ty.slice T72) false b4_ o.2.2.2),(5,.el none 0 0 A.tabF),(6,.el none 1 0 A.tabA),(7,.el none 2 0 [A.i m12_])] ([g0_]++([b1_]++([b2_]++([b3_]++([b4_]++[]))))) (fun v H'=>∃(A0':Option Addr) (c1':Nat) (b2':Nat) (b3':Nat) (b4':Nat) (b5':Nat),v=.slice A0' r.1.length c1'/\H'=[(0,.sh (.slice T45) [.slice A0' r.1.length c1'] r.1),(1,.blk g0_ 87 [.map (some b2'),.map (some b3'),.map (some b4'),.map (some b5')]),(2,.mp Int (fun i:Int=>A.i i) T33 true b2' r.2.1),(3,.mp Int (fun i:Int=>A.i i) (Z.Ty.slice T27) false b3' r.2.2.1),(4,.mp D131 (fun x:D131=>(A.raf x)) (Z.Ty.slice T45) false b4' r.2.2.2.1),(5,.mp Int (fun i:Int=>A.i i) (Z.Ty.slice T72) false b5' r.2.2.2.2)]))(r:(List D45)×((List (Int×D33))×(List (Int×(List D27)))×(List (D131×(List D45)))×(List (Int×(List D72)))))(B:F.cn rc o p h=some r):
    A.Ct Tryz.prog 48 [.pointer (some ⟨g0_,0,none⟩),A.i p,(A.rae h)] [(0,.blk g0_ 87 [.map (some b1_),.map (some b2_),.map (some b3_),.map (some b4_)]),(1,.mp Int (fun i:Int=>A.i i) T33 true b1_ o.1),(2,.mp Int (fun i:Int=>A.i i) (Z.Ty.slice T27) false b2_ o.2.1),(3,.mp D131 (fun x:D131=>(A.raf x)) (Z.Ty.slice T45) false b3_ o.2.2.1),(4,.mp Int (fun i:Int=>A.i i) (Z.Ty.slice T72) false b4_ o.2.2.2),(5,.el none 0 0 A.tabF),(6,.el none 1 0 A.tabA),(7,.el none 2 0 [A.i m12_])] ([g0_]++([b1_]++([b2_]++([b3_]++([b4_]++[]))))) (fun v H'=>∃(A0':Option Addr) (c1':Nat) (b2':Nat) (b3':Nat) (b4':Nat) (b5':Nat),v=.slice A0' r.1.length c1'/\H'=[(0,.sh (.slice T45) [.slice A0' r.1.length c1'] r.1),(1,.blk g0_ 87 [.map (some b2'),.map (some b3'),.map (some b4'),.map (some b5')]),(2,.mp Int (fun i:Int=>A.i i) T33 true b2' r.2.1),(3,.mp Int (fun i:Int=>A.i i) (Z.Ty.slice T27) false b3' r.2.2.1),(4,.mp D131 (fun x:D131=>(A.raf x)) (Z.Ty.slice T45) false b4' r.2.2.2.1),(5,.mp Int (fun i:Int=>A.i i) (Z.Ty.slice T72) false b5' r.2.2.2.2)]):=by
 refine Jv Tryz.func48 rfl Tryz.ntmps48 rfl fun w0 F0=>?_;rw[F.cn]at B;refine J0 1 ?_;refine J1 8 (cs:=(A.rab h)) fun g1=>?_;refine J7 1 [] 2 ?_;refine J5 [8] [] [.n,.b 0 0,.n] [(13,.agg #[A.i p,A.i h.1,A.i h.2.1,A.i h.2.2.1,A.i h.2.2.2.1,A.i h.2.2.2.2.1,A.i h.2.2.2.2.2])] (Jy 9 (cs:=[A.i 0,A.i 0,A.i 0,A.i 0,A.i 0,A.i 0,A.i 0]) Tryz.zeroValue132 fun g2=>?_);refine Vg 9 [] [A.i p,A.i h.1,A.i h.2.1,A.i h.2.2.1,A.i h.2.2.2.1,A.i h.2.2.2.2.1,A.i h.2.2.2.2.2] ?_;refine V4 2 ?_;refine Vj mixed 11 11 (A.mb 11 0) ?_;refine Vm Vd [] l6j [9,0] [] (A.mb 11 31) 6 [(0,.n),(4,.b 0 0),(1,.n),(2,.n),(3,.b 1 2)] [(19,.agg #[A.i p,A.i h.1,A.i h.2.1,A.i h.2.2.1,A.i h.2.2.2.1,A.i h.2.2.2.2.1,A.i h.2.2.2.2.2]),(18,.map (some b3_))] (Jz 5 ?_);obtain⟨x3,al,B⟩:=Vi B;refine A.AL.lk2 (t:=(Z.Ty.slice T45)) 3 10 (z:=([]:(List D45))) (zs:=l6d) ky132 (p,h) Tryz.zeroValue23 (.inr ⟨rfl,rfl⟩) al fun aw=>?_;intro A6 c7;refine J2 (A.mb 11 63) l6j ?_;refine Vm Vd l6j [0,1,2,3,4,5,6,7,8,9,10] [] [] (A.mb 11 2047) 0 [(6,.n),(7,.n),(8,.n),(9,.n),(10,.n)] [(8,.slice A6 x3.length c7),(9,.bool (Z.mhas o.2.2.1 (p,h)))] (J6 ?_);refine A.ex 1 ?_;refine J4 [] [5,6,7] (fun nl nh=>∃(m9:List (Int×D33))(a8:List (Int×(List D27)))(a9:List (D131×(List D45)))(aa:List (Int×(List D72)))(I:List D45)(b8:Nat)(a3:Nat)(a4:Nat)(a5:Nat)(N:Option Addr)(U:Nat),nl=[(8,.slice N I.length U)]/\nh=[(0,.blk g0_ 87 [.map (some b8),.map (some a3),.map (some a4),.map (some a5)]),(1,.mp Int (fun i:Int=>A.i i) T33 true b8 m9),(2,.mp Int (fun i:Int=>A.i i) (Z.Ty.slice T27) false a3 a8),(3,.mp D131 (fun x:D131=>(A.raf x)) (Z.Ty.slice T45) false a4 a9),(4,.mp Int (fun i:Int=>A.i i) (Z.Ty.slice T72) false a5 aa),(93,.sh (.slice T45) [.slice N I.length U] I)]/\F.aU m9 a8 a9 aa I=some r) ?_ ?_
 ·refine Va 1 2 [(24,.bool (!(Z.mhas o.2.2.1 (p,h))))] 1 ?_;refine Uk B ?_ ?_<;>intro hb B
  ·refine J0 1 ?_;refine Uj 11 D27 (fun x:D27=>(A.rar x)) A.ti false fun W=>?_;refine Vc 1 [(10,.map (some W))] 2 ?_;refine Vj mixed 9 10 (A.mb 10 0) ?_;refine Vm Vd [] l6b [8,0] [] (A.mb 10 383) 2 [(0,.n),(1,.n),(2,.n),(6,.n),(8,.b 0 0),(3,.n),(4,.n),(5,.b 1 0)] [(26,.pointer (some ⟨g0_,0,none⟩)),(27,.map (some W)),(32,A.i p),(34,(A.rae h)),(31,.map (some b1_))] (Jz 7 ?_);obtain⟨am,an,B⟩:=Vi B;refine V8 (t:=T33) 1 12 (z:=((0,0,[],(0,0,(ByteArray.mk #[])),(ByteArray.mk #[]),0,0):D33)) (zs:=l6a) ky3 p Tryz.zeroValue34 ⟨⟨rfl,by decide⟩,⟨rfl,by decide⟩,(.inr ⟨rfl,rfl⟩),⟨⟨rfl,by decide⟩,⟨rfl,by decide⟩,⟨rfl,by decide⟩⟩,⟨rfl,by decide⟩,⟨rfl,by decide⟩,⟨rfl,by decide⟩⟩ an fun E=>?_;intro ao ap;refine J2 (A.mb 10 511) l6b ?_;refine Jz 9 ?_;have⟨J,aq,B⟩:=V6 B;refine V3 13 [] (first:=[]) (cap:=[]) cf63 (o_a3 ao g0_ b1_ b2_ b3_ b4_ W ap rc o [] am h m12_ E.1 E.2.1 E.2.2.2.1.1 E.2.2.2.1.2.1 E.2.2.2.1.2.2 E.2.2.2.2.1 E.2.2.2.2.2.1 E.2.2.2.2.2.2 ab ac ad ae ag ah ihr J aq) (.m 0 (.m 1 (.m 2 (.m 3 (.m 4 (.m 11 (.s 12 (.s 5 (.s 6 (.s 7 .nil)))))))))) ?_;rintro _ _ ⟨ar,au,aj,av,rfl,rfl⟩;refine J9 (J8 13 0 [] ?_);refine J8 14 1 [] ?_;refine J8 15 2 [] ?_;refine J8 16 3 [] ?_;refine J8 17 4 [] ?_;refine J8 18 11 [] ?_;refine Vv (A.mb 10 1023) ?_;refine J6 ?_;refine U1 2 ?_;refine V9 1 [(36,.map (some W))] (Vx 53 [] B (o_a2 W J.2) (.m 11 .nil) ?_);rintro L - B _ _ ⟨a6,a7,rfl,rfl⟩;refine J9 (J8 54 11 [] ?_);refine Vc 1 [(8,.slice a6 L.length a7)] 1 ?_;refine Vj mixed 6 7 (A.mb 7 0) ?_;refine Vm Vd [] [0,1,2,3,4,5,6,7,8,9,10,11,12,53] [9,0] [] (A.mb 7 63) 1 [(0,.n),(4,.b 0 0),(5,.n),(1,.n),(2,.n),(3,.b 1 2)] [(42,.agg #[A.i p,A.i h.1,A.i h.2.1,A.i h.2.2.1,A.i h.2.2.2.1,A.i h.2.2.2.2.1,A.i h.2.2.2.2.2]),(43,.slice a6 L.length a7),(41,.map (some aj))] (Jz 6 ?_);refine U3 53 [] ?_;refine Uz (t:=(Z.Ty.slice T45)) 3 [] (cs:=[.slice a6 L.length a7]) (u:=L) ky132 (p,h) (.inl ⟨53,rfl⟩) ?_;refine Vv (A.mb 7 127) ?_;refine J6 ?_;refine A.dup 53 93 ?_;exact Vn ⟨J.1.1,J.1.2.1,(Z.mins J.1.2.2.1 (p,h) L),J.1.2.2.2,L,ar,au,aj,av,a6,a7,rfl,rfl,B⟩
  refine V1 1 ?_;refine A.dup 10 93 ?_;exact Vn ⟨o.1,o.2.1,o.2.2.1,o.2.2.2,x3,b1_,b2_,b3_,b4_,A6,c7,rfl,rfl,B⟩
 rintro _ _ ⟨m9,a8,a9,aa,I,b8,a3,a4,a5,N,U,rfl,rfl,B⟩;rw[F.aU]at B;refine Va 1 2 [(6,.slice N I.length U)] 1 ?_;obtain rfl:=Vf B;exact V7 [(0,93),(1,0),(2,1),(3,2),(4,3),(5,4)] ⟨N,U,b8,a3,a4,a5,rfl,rfl⟩
def F.au:Nat->((List (Int×D33))×(List (Int×(List D27)))×(List (D131×(List D45)))×(List (Int×(List D72))))->Int->D113->Option ((List D45)×((List (Int×D33))×(List (Int×(List D27)))×(List (D131×(List D45)))×(List (Int×(List D72)))))
 |0,_,_,_=>none
 |f+1,h,o,p=>F.cn (F.au f) h o p
theorem o_an: ∀f,∀(o:((List (Int×D33))×(List (Int×(List D27)))×(List (D131×(List D45)))×(List (Int×(List D72))))) (p:Int) (h:D113) (g0_:Nat) (b1_:Nat) (b2_:Nat) (b3_:Nat) (b4_:Nat) (m12_:Int) (t:A.h6 p) (u:A.h6 h.1) (z:A.h6 h.2.1) (B:A.h6 h.2.2.1) (E:A.h6 h.2.2.2.1) (I:A.h6 h.2.2.2.2.1) (J:A.h6 h.2.2.2.2.2) (r:(List D45)×((List (Int×D33))×(List (Int×(List D27)))×(List (D131×(List D45)))×(List (Int×(List D72))))),F.au f o p h=some r->A.Ct Tryz.prog 48 [.pointer (some ⟨g0_,0,none⟩),A.i p,(A.rae h)] [(0,.blk g0_ 87 [.map (some b1_),.map (some b2_),.map (some b3_),.map (some b4_)]),(1,.mp Int (fun i:Int=>A.i i) T33 true b1_ o.1),(2,.mp Int (fun i:Int=>A.i i) (Z.Ty.slice T27) false b2_ o.2.1),(3,.mp D131 (fun x:D131=>(A.raf x)) (Z.Ty.slice T45) false b3_ o.2.2.1),(4,.mp Int (fun i:Int=>A.i i) (Z.Ty.slice T72) false b4_ o.2.2.2),(5,.el none 0 0 A.tabF),(6,.el none 1 0 A.tabA),(7,.el none 2 0 [A.i m12_])] ([g0_]++([b1_]++([b2_]++([b3_]++([b4_]++[]))))) (fun v H'=>∃(A0':Option Addr) (c1':Nat) (b2':Nat) (b3':Nat) (b4':Nat) (b5':Nat),v=.slice A0' r.1.length c1'/\H'=[(0,.sh (.slice T45) [.slice A0' r.1.length c1'] r.1),(1,.blk g0_ 87 [.map (some b2'),.map (some b3'),.map (some b4'),.map (some b5')]),(2,.mp Int (fun i:Int=>A.i i) T33 true b2' r.2.1),(3,.mp Int (fun i:Int=>A.i i) (Z.Ty.slice T27) false b3' r.2.2.1),(4,.mp D131 (fun x:D131=>(A.raf x)) (Z.Ty.slice T45) false b4' r.2.2.2.1),(5,.mp Int (fun i:Int=>A.i i) (Z.Ty.slice T72) false b5' r.2.2.2.2)])
 |0=>fun _ _ _ _ _ _ _ _ _ _ _ _ _ _ _ _ r s=>Vb s
 |f+1=>fun o p h g0_ b1_ b2_ b3_ b4_ m12_ t u z B E I J r s=>o_bo g0_ b1_ b2_ b3_ b4_ (F.au f) o p h m12_ t u z B E I J (o_an f) r s
def F.ba (h:ByteArray):Option Bool:=some (decide (h≠h))
theorem o_ae (h:ByteArray)(p:h.size<=maxLen)(r:Bool)(o:F.ba h=some r):
    A.Ct Tryz.prog 66 [.string h] [] [] (fun v H'=>v=.bool r/\H'=[]):=by
 refine Jv Tryz.func66 rfl Tryz.ntmps66 rfl fun s t=>?_;rw[F.ba]at o;refine J0 1 ?_;refine J7 1 [] 2 ?_;refine Vc 4 [(2,.bool (decide (h≠h)))] 1 ?_;exact A.ke o (Vh ⟨rfl,rfl⟩)
def F.ay (h:ByteArray)(o:ByteArray):Option Int:=(F.ba h).bind fun s=>((F.ba o).bind fun p=>(if s=true then(if p=true then(some 0)else(some (-1)))else(if p=true then(some 1)else(if(Op.bytesLess h.toList o.toList)=true then(some (-1))else(if(!(Op.bytesLess h.toList o.toList||h.toList==o.toList))=true then(some 1)else(some 0))))))
theorem o_aB (o:ByteArray)(p:ByteArray)(z:o.size<=maxLen)(B:p.size<=maxLen)(r:Int)(h:F.ay o p=some r):
    A.Ct Tryz.prog 51 [.string o,.string p] [] [] (fun v H'=>v=A.i r/\H'=[]/\A.h6 r):=by
 refine Jv Tryz.func51 rfl Tryz.ntmps51 rfl fun E I=>?_;rw[F.ay]at h;refine J0 1 ?_;refine J7 1 [] 2 ?_;refine V9 1 [(7,.string o)] (Vx 0 [] h (o_ae o z) .nil ?_);rintro u - h _ _ ⟨rfl,rfl⟩;refine J9 (J7 1 [(5,.bool u)] 2 ?_);refine V9 1 [(9,.string p)] (Vx 40 [] h (o_ae p B) .nil ?_);rintro t - h _ _ ⟨rfl,rfl⟩;refine J9 (J7 1 [(6,.bool t)] 3 ?_);refine Vc 1 [(11,.bool u)] 1 ?_;refine Uk h ?_ ?_<;>intro s h
 ·refine Va 2 1 [(12,.bool t)] 1 ?_;refine Uk h ?_ ?_<;>intro s h
  ·refine Va 1 1 [(4,A.i 0)] 1 ?_;exact A.ke h (Vh ⟨rfl,rfl,J3⟩)
  refine Va 3 1 [(4,A.i (-1))] 1 ?_;exact A.ke h (Vh ⟨rfl,rfl,(Vp (-1))⟩)
 refine Va 4 1 [(13,.bool t)] 1 ?_;refine Uk h ?_ ?_<;>intro s h
 ·refine Va 1 1 [(4,A.i 1)] 1 ?_;exact A.ke h (Vh ⟨rfl,rfl,(Vp 1)⟩)
 refine Va 4 3 [(16,.bool (Op.bytesLess o.toList p.toList))] 1 ?_;refine Uk h ?_ ?_<;>intro s h
 ·refine Va 1 1 [(4,A.i (-1))] 1 ?_;exact A.ke h (Vh ⟨rfl,rfl,(Vp (-1))⟩)
 refine Va 4 3 [(19,.bool (!(Op.bytesLess o.toList p.toList||o.toList==p.toList)))] 1 ?_;refine Uk h ?_ ?_<;>intro s h
 ·refine Va 1 1 [(4,A.i 1)] 1 ?_;exact A.ke h (Vh ⟨rfl,rfl,(Vp 1)⟩)
 refine Va 3 1 [(4,A.i 0)] 1 ?_;exact A.ke h (Vh ⟨rfl,rfl,J3⟩)
def F.aF (h:D48)(o:D48):Option Int:=(F.ay h.1 o.1).bind fun p=>(some p)
theorem o_aL(h:D48)(o:D48)(s:h.1.size<=maxLen)(z:A.h6 h.2.1)(t:o.1.size<=maxLen)(B:A.h6 o.2.1)(r:Int)(p:F.aF h o=some r):
    A.Ct Tryz.prog 50 [(A.rat h A2_ c3_),(A.rat o A6_ c7_)] [(0,.sh (.slice T45) [.slice A2_ h.2.2.length c3_] h.2.2),(1,.sh (.slice T45) [.slice A6_ o.2.2.length c7_] o.2.2)] [] (fun v H'=>v=A.i r/\H'=[]/\A.h6 r):=by
 refine Jv Tryz.func50 rfl Tryz.ntmps50 rfl fun E I=>?_;rw[F.aF]at p;refine J0 1 ?_;refine J1 2 (cs:=[.string h.1,A.i h.2.1,.slice A2_ h.2.2.length c3_]) fun J=>?_;refine J1 3 (cs:=[.string o.1,A.i o.2.1,.slice A6_ o.2.2.length c7_]) fun L=>?_;refine J7 1 [] 2 ?_;refine J5 [2,3] [] [.n,.b 0 0,.n,.b 1 0] [(6,.string h.1),(8,.string o.1)] (Vx 4 [] p (o_aB h.1 o.1 s t) .nil ?_);rintro u - p _ _ ⟨rfl,rfl,hr5⟩;refine J9 (Vc 1 [(4,A.i u)] 1 ?_);exact A.ke p (Vh ⟨rfl,rfl,hr5⟩)
end Go.Proofs.YtlbdgahbamalcaaGreatDoor
end
section
namespace Go.A
open Go.RowKit Go.Z Go.Shelf Go.Proofs Go.Sort
theorem nok_nil: ∀(n k:Nat),nok [] k n=true
 |0,_=>rfl
 |n+1,k=>by rw[nok,nok_nil n (k+1)];rfl
theorem chunks {t:Ty}{w:World}{G:Nat->Prop}{cells:List Value}: ∀(xs:List t.den) (k:Nat),(∀(i:Nat) (x:t.den),xs[i]?=some x->t.rep w G ((cells.drop ((k+i)*t.size)).take t.size) x)->
  ∃zs:List (t.den×List Value),zs.map (·.1)=xs/\(∀(i:Nat) p,zs[i]?=some p->p.2=(cells.drop ((k+i)*t.size)).take t.size)/\∀p∈zs,t.rep w G p.2 p.1
 | [],_,_=>⟨[],rfl,fun i p h=>by simp at h,fun p h=>by cases h⟩
 |x::xs,k,h=>by
  obtain⟨zs,h1,h2,h3⟩:=chunks xs (k+1) fun i y hy=>by
   have:=h (i+1) y (by simpa using hy)
   rw[show k+(i+1)=k+1+i by omega]at this;exact this
  refine⟨(x,(cells.drop (k*t.size)).take t.size)::zs,by rw[Qz,h1],fun i p hp=>?_,fun p hp=>?_⟩
  ·cases i with
   |zero=>simp at hp;subst hp;rw[Yo]
   |succ i=>rw[h2 i p (by simpa using hp),show k+1+i=k+(i+1) by omega]
  ·rcases Qk.1 hp with rfl|hp
   ·have:=h 0 x rfl;rw[Yo]at this;exact this
   ·exact h3 p hp
theorem Ct.sortR {P:Program}{ρ:Ren}{f:Nat}(L:SlLaysF0.n6 P ρ)(hf:ρ.f 6=f){t:Ty}[DecidableEq t.den]{e:TypeId}
  (aE: ∀w,(isAgg (ρ.t 24)).run P w=.ok true w) (zE: ∀w,(Go.sizeOf (ρ.t 24)).run P w=.ok t.size w) (A:Option Addr) (c:Nat) (g:Nat) (cmp:t.den->t.den->Option Int)
  (eg: ∀args w,(callFunc g args).run P w=.ok (.enter g args) w)
  (hc: ∀x y r,t.ok x->t.ok y->cmp x y=some r->tele (lv t) fun ps=>tele (lv t) fun qs=>∃R,Ct P g [.agg (cl t x ps).toArray,.agg (cl t y qs).toArray] (hcat (kx 0 (rs t x ps++rs t y qs)) []) [] R/\∀v H',R v H'->v=.int .i64 r)
  (xs r:List t.den) (hm:xs.length<4611686018427387904) (hr:srtF cmp xs=some r):
  Ct P f [.slice A xs.length c,.func (.func g) #[] #[]] [(0,.own t e A c xs)] (obl A) (fun v H'=>v=.tuple #[]/\H'=[(0,.own t e A c r)]/\r.length=xs.length):=fun w F hh=>by
 subst hf
 obtain⟨hord,hr⟩:ordB cmp xs=true/\srtL (cl0 cmp) xs=r:=by
  unfold srtF at hr
  split at hr
  ·rename_i h;exact⟨h,Ws hr⟩
  ·cases hr
 obtain⟨O,tot⟩:=ordB_on hord
 have hlen:r.length=xs.length:=by rw[<-hr];exact(Qbf (cl0 cmp) xs).length_eq
 obtain⟨cells,hrow,h1,h2⟩:Own t e 0 w (Fh ⟨0,[],w,obl A,F⟩ [(0,.own t e A c xs)]) A c xs:=hh.hold 0 _ rfl
 by_cases hx0:xs=[]
 ·subst hx0
  obtain rfl:r=[]:=by rw[<-hr];rfl
  refine(AnyF.slices_SortFunc_none L A c _ w).mono ?_
  rintro e' w' ⟨rfl,rfl⟩
  exact⟨_,_,rfl,⟨rfl,rfl,rfl⟩,hh⟩
 rcases hrow.2 with⟨hv,hn⟩|⟨b,cap,cur,hv,hb,hg,hnc,hcm,hcs,htake⟩
 ·exact absurd (Wj hn) hx0
 injection hv with hA _ hcap
 subst hA;subst hcap
 obtain⟨G,hGd⟩: ∃G:Nat->Prop,G=Fh ⟨0,[],w,obl (some ⟨b,0,none⟩),F⟩ [(0,.own t e (some ⟨b,0,none⟩) c xs)]:=⟨_,rfl⟩
 rw[<-hGd]at h2
 have hGb: ∀k,G k->k∉[b]:=fun k hk hm=>by
  rw[Qm]at hm
  subst hm
  rw[hGd]at hk
  exact hk.1 0 ⟨_,rfl,by simp[Res.bl,obl]⟩
 have hglt:b<w.heap.size:=(Qp.1 hg).1
 have hk:=Qan t
 have hbound: ∀{n i j:Nat},i<n->j<t.size->i*t.size+j<n*t.size:=fun {n i j} hi hj=>by
  have:=Q5 t.size (show i+1<=n from hi);rw[W6,X7]at this;omega
 obtain⟨zs,hz1,hz2,hz3⟩:=chunks (t:=t) (w:=w) (G:=G) (cells:=cells) xs 0 fun i x hi=>by rw[Wm];exact h2 i x hi
 have hzl:zs.length=xs.length:=by rw[<-hz1,Wb]
 have hzx: ∀p∈zs,p.1∈xs:=fun p hp=>by rw[<-hz1];exact Xx hp
 have hcell: ∀i p,zs[i]?=some p->∀j,j<t.size->cur[i*t.size+j]?=p.2[j]?:=fun i p hp j hj=>by
  have hi:=(Qb.1 hp).1
  rw[hz2 i p hp,Wm,Q6 hj,Q8,<-htake,Wq,Qj (hbound (by omega) hj)]
  simp
 have hz0:zs≠[]:=fun e=>hx0 (by rw[<-hz1,e];rfl)
 haveI:Inhabited {p // p∈zs}:=⟨⟨zs.head hz0,List.head_mem hz0⟩⟩
 let enc:{p // p∈zs}->List Value:=fun p=>p.1.2
 have he: ∀x,(enc x).length=t.size:=fun x=>Qgf t (hz3 x.1 x.2)
 have hone: ∀(x:{p // p∈zs}) (v:Value),v∈enc x->v.oneCell'=true:=fun x v hv=>by
  obtain⟨i,hi⟩:=Yx x.2
  have:enc x=_:=hz2 i x.1 hi
  rw[this]at hv
  exact h1 v (List.mem_of_mem_drop (List.mem_of_mem_take hv))
 let cf:{p // p∈zs}->{p // p∈zs}->Int:=fun x y=>(cmp x.1.1 y.1.1).getD 0
 have hlt: ∀x y,ltOf cf x y=cl0 cmp x.1.1 y.1.1:=fun x y=>by
  obtain⟨c0,h0⟩:=tot x.1.1 (hzx _ x.2) y.1.1 (hzx _ y.2)
  show decide ((cmp x.1.1 y.1.1).getD 0<0)=_
  unfold cl0;rw[h0];rfl
 have hO:SWO (ltOf cf):=by
  refine⟨fun x=>?_,fun x y z h3 h4=>?_,fun x y z h3 h4=>?_⟩
  ·rw[hlt]
   cases h3:cl0 cmp x.1.1 x.1.1 with
   |false=>rfl
   |true=>rw[O.asym _ (hzx _ x.2) _ (hzx _ x.2) h3]at h3;cases h3
  ·rw[hlt]at h3 h4 ⊢;exact O.trans _ (hzx _ x.2) _ (hzx _ y.2) _ (hzx _ z.2) h3 h4
  ·rw[hlt]at h3 h4 ⊢;exact O.nt (hzx _ x.2) (hzx _ y.2) (hzx _ z.2) h3 h4
 obtain⟨d,hd⟩: ∃d:Array {p // p∈zs},d=zs.attach.toArray:=⟨_,rfl⟩
 have hds:d.size=xs.length:=by rw[hd];simp[hzl]
 have hdg: ∀(i:Nat) (x:{p // p∈zs}),d[i]?=some x->zs[i]?=some x.1:=fun i x hx=>by
  rw[hd,W9]at hx
  have:=Qv (Option.map Subtype.val) hx
  rw[<-Qs,Ya]at this;exact this
 have hH:HoldsK enc t.size w b 0 d:=fun j hj=>by
  rw[size_flatK]at hj
  have hi:j / t.size<d.size:=Yf (by rwa[Jg]at hj)
  have hu:=Ja j hk
  have hje:j / t.size*t.size+j%t.size=j:=Jp j t.size
  have hx:d[j / t.size]?=some d[j / t.size]:=Q3 hi
  obtain⟨_,h4⟩:=Qdp enc t.size d hx hu
  rw[hje]at h4
  have h5:=hcell _ _ (hdg _ _ hx) _ hu
  rw[hje]at h5
  refine⟨?_,by simp[World.frozen?,hg]⟩
  rw[Wm,cell_of_row w b j cur e (0,0) hg,h5,h4]
  have hl:j%t.size<(enc d[j / t.size]).length:=by rw[he];exact hu
  have e9:(enc d[j / t.size])[j%t.size]?=some ((enc d[j / t.size])[j%t.size]!):=lgetb hl
  exact e9
 have hchW: ∀(m:Nat) (dk:Array {p // p∈zs}) (os:Array Obj),Ch [b] w (sortWorldK enc t.size w b 0 m dk os):=fun m dk os=>by
  refine⟨rfl,rfl,rfl,?_,fun k hk hn2=>?_⟩
  ·show w.heap.size<=((w.heap.modify b (onCells (putCells id 0 (flatK enc t.size dk))))++os).size
   simp
  ·show((w.heap.modify b (onCells (putCells id 0 (flatK enc t.size dk))))++os)[k]?=_
   rw[Wt (by simpa using hk),X3,Qd (fun e=>hn2 (Qm.2 e.symm))]
 have hcl:CmpLays P g #[] enc t.size cf b 0 d.size w:=fun m os dk _ x y=>by
  obtain⟨c0,h0⟩:=tot x.1.1 (hzx _ x.2) y.1.1 (hzx _ y.2)
  have hcf:cf x y=c0:=by show(cmp x.1.1 y.1.1).getD 0=c0;rw[h0];rfl
  rw[hcf]
  obtain⟨W,hW⟩: ∃W,W=sortWorldK enc t.size w b 0 m dk os:=⟨_,rfl⟩
  have hCW:Ch [b] w W:=by rw[hW];exact hchW m dk os
  rw[<-hW]
  have rp: ∀z:{p // p∈zs},t.rep W (Fh ⟨0,[],W,[],fun _=>True⟩ []) z.1.2 z.1.1:=fun z=>rep_to (hz3 z.1 z.2) hCW fun k hk _=>⟨hGb k hk,⟨fun k2 ⟨_,h,_⟩=>(by cases h),.inl trivial⟩⟩
  obtain⟨ps,hpl,hpc,hps⟩:=rep_cl (B:=Bk []) t (Qac t (rp x))
  obtain⟨qs,hql,hqc,hqs⟩:=rep_cl (B:=Bk []) t (Qac t (rp y))
  obtain⟨R,h3,h4⟩:=Qau (Qau (hc x.1.1 y.1.1 c0 (rep_ok t (hz3 _ x.2)) (rep_ok t (hz3 _ y.2)) h0) ps hpl) qs hql
  have hp:Hp ⟨0,[],W,[],fun _=>True⟩ (hcat (kx 0 (rs t x.1.1 ps++rs t y.1.1 qs)) []) W:=Hp.adds (Hp.none W _) (nok_nil _ _) fun r hr=>by
   rcases Q0.1 hr with hr|hr
   ·exact⟨(hps r hr).2.1,(hps r hr).2.2,(hps r hr).1⟩
   ·exact⟨(hqs r hr).2.1,(hqs r hr).2.2,(hqs r hr).1⟩
  have key:=(Dr.calls (h3 W (fun _=>True) hp)).mono (R':=fun e w'=>e=.returned (.int .i64 c0)/\∃q os',w'=grow (W.drewN q) os') fun e w' ⟨⟨v,H',he,hr,hh⟩,hd⟩=>⟨by rw[he,h4 v H' hr],ch_grow hh.ch (hd v he)⟩
  rw[<-hpc,<-hqc]at key
  exact key
 have key:=AnyQ.slices_SortFunc L t.size aE zE enc he hone cf hO g #[] b 0 c d w eg hcl hH hglt (by rw[hds];exact hm)
 rw[hds]at key
 refine key.mono ?_
 rintro e' w' ⟨rfl,d',n,os,hp,hs,rfl⟩
 clear key
 obtain⟨hsz,_,hperm⟩:=hp
 have hsz2:d'.size=xs.length:=hsz.trans hds
 have hys:d'.toList.map (fun x=>x.1.1)=r:=by
  rw[<-hr]
  refine srt_uniq O ?_ ?_
  ·have h3:d'.toList.Perm d.toList:=by
    have e1:d'.extract 0 xs.length=d':=by rw[<-hsz2];exact Jc
    have e2:d.extract 0 xs.length=d:=by rw[<-hds];exact Jc
    rw[e1,e2]at hperm;exact hperm
   have h4:=h3.map (fun x:{p // p∈zs}=>x.1.1)
   rw[hd]at h4
   have h5:zs.attach.toArray.toList.map (fun x:{p // p∈zs}=>x.1.1)=xs:=by
    rw[<-hz1]
    show zs.attach.map (fun x:{p // p∈zs}=>x.1.1)=_
    have:=Qv (List.map (·.1)) (Ya zs)
    rw[Y1]at this;exact this
   rw[h5]at h4;exact h4
  ·refine Y7.2 fun i j hi hj hij=>?_
   rw[Wb,Xh]at hi hj
   have h3:=hs i j (Xl _) hij (by omega)
   rw[hlt,getElem!_pos d' j (by omega),getElem!_pos d' i (by omega)]at h3
   simpa using h3
 have hrg: ∀(i:Nat) (x:t.den),r[i]?=some x->∃y,d'[i]?=some y/\y.1.1=x:=fun i x hx=>by
  rw[<-hys,Qs,Wh]at hx
  obtain⟨y,h3,h4⟩:=Je.1 hx
  exact⟨y,h3,h4⟩
 have hch:=hchW n d' os
 generalize hcd:putCells id 0 (flatK enc t.size d') cur=cur'
 have hheap:(sortWorldK enc t.size w b 0 n d' os).heap[b]?=some (.cells cur' e (0,0)):=by
  show((w.heap.modify b (onCells (putCells id 0 (flatK enc t.size d'))))++os)[b]?=_
  rw[Wt (by simpa using hglt),X3,Qj rfl,hg]
  simp only[Q7,onCells,hcd]
 have hcs':cur'.size=cur.size:=by rw[<-hcd];simp[putCells]
 have hnk:xs.length*t.size<=cur.size:=by rw[hcs];exact Q5 _ hnc
 have hget: ∀(i:Nat) (y:{p // p∈zs}),d'[i]?=some y->∀j,j<t.size->cur'[i*t.size+j]?=y.1.2[j]?:=fun i y hy j hj=>by
  have hi:=(Qp.1 hy).1
  obtain⟨h3,h4⟩:=Qdp enc t.size d' hy hj
  have hb2:i*t.size+j<cur.size:=Qq (hbound (by omega) hj) hnk
  rw[<-hcd,put_id,Q3 hb2,Q7,Qj (by rw[size_flatK];exact h3),h4]
  have hl:j<(enc y).length:=by rw[he];exact hj
  show some (enc y)[j]! =(enc y)[j]?
  exact(lgetb hl).symm
 have hown: ∀F':Nat->Prop,(∀k,G k->k<w.heap.size->F' k)->Own t e 0 (sortWorldK enc t.size w b 0 n d' os) F' (some ⟨b,0,none⟩) c r:=fun F' hF'=>by
  refine⟨cur'.toList.take (r.length*t.size),⟨?_,.inr ⟨b,c,cur',rfl,Xl _,hheap,by omega,hcm,by rw[hcs',hcs],rfl⟩⟩,fun u hu=>?_,fun i x hx=>?_⟩
  ·rw[Qw,Xh (xs:=cur'),hlen,hcs'];omega
  ·obtain⟨j,hj,rfl⟩:=Xe hu
   rw[Qw]at hj
   have hj2:j<r.length*t.size:=by omega
   have hje:j / t.size*t.size+j%t.size=j:=Jp j t.size
   have hi:j / t.size<d'.size:=by rw[hsz2,<-hlen];exact Yf (by rwa[Jg]at hj2)
   have h3:=hget _ _ (Q3 hi) _ (Ja j hk)
   rw[hje]at h3
   rw[List.getElem_take]
   have hjc:j<cur'.size:=by have:=hj;rw[Xh (xs:=cur')]at this;omega
   rw[Q3 hjc]at h3
   rw[Array.getElem_toList]
   exact hone d'[j / t.size] _ (Qt h3.symm)
  ·obtain⟨y,hy,rfl⟩:=hrg i x hx
   have hi:=(Qb.1 hx).1
   have e1:((cur'.toList.take (r.length*t.size)).drop (i*t.size)).take t.size=y.1.2:=by
    refine Wp fun j=>?_
    by_cases hj:j<t.size
    ·rw[Q6 hj,Q8,Wq,Qj (hbound hi hj),Wh]
     exact hget i y hy j hj
    ·have:=he y
     rw[Q9 (by rw[Qw];omega),Q9 (by show(enc y).length<=j;omega)]
   rw[e1]
   exact rep_to (Qac t (hz3 y.1 y.2)) hch fun k hk _=>⟨hGb k hk.1,hF' k hk.1 hk.2⟩
 refine⟨_,[(0,.own t e (some ⟨b,0,none⟩) c r)],rfl,⟨rfl,rfl,hlen⟩,?_⟩
 have h3:=Hp.ren (Hp.upd (k:=0) (r':=.own t e (some ⟨b,0,none⟩) c r) hh hch (fun k hb2=>⟨_,rfl,hb2⟩) (fun k hb2=>.inl ⟨_,rfl,hb2⟩) (fun j hj=>by cases hj) fun F' B hF' _ _ _ _=>hown F' fun k hk hlt=>hF' k (by rw[hGd]at hk;exact hk) hlt) [(0,0)] rfl rfl
 exact⟨h3.ch,h3.hold,h3.bnd,h3.dis,h3.ref⟩
end Go.A
end
section
namespace Go.Proofs.YtlbdgahbamalcaaGreatDoor
open Go.RowKit
variable(A0_ A1_ A2_ A4_ A5_ A6_ A7_ A8_ A13_:Option Addr)(b0_ g0_ b1_ c1_ b2_ c2_ g2_ b3_ c3_ b4_ g4_ b5_ c5_ b6_ c6_ g6_ c7_ c8_ c9_ g10_ c14_:Nat)
def F.e (h:List D48):Option (List D48):=A.gd (h.length<4611686018427387904) (A.srtF (fun x y=>F.aF x y) h)
theorem o_c(o:List D48)(r:List D48)(p:F.e o=some r):
    A.Ct Tryz.prog 49 [.slice A0_ o.length c1_,.func (.func 50) #[] #[]] [(0,.own T48 49 A0_ c1_ o)] (Z.obl A0_++[]) (fun v H'=>v=.tuple #[]/\H'=[(0,.own T48 49 A0_ c1_ r)]/\r.length=o.length):=by
 have⟨hc,p⟩:=Vs p;rw[W8]
 exact A.Ct.sortR (t:=T48) (e:=49) Tryz.laysSortFunc49 rfl Tryz.isAgg49 Tryz.sizeOf49 A0_ c1_ 50 (fun x y=>F.aF x y) cf50 (fun x y r hx hy h=>fun s u B0 d0=>⟨_,o_aL s B0 u d0 x y hx.1 hx.2.1 hy.1 hy.2.1 r h,fun v H' h=>h.1⟩) o r hc p
def F.ao (k1:(List (Int×D33))->(List (Int×(List D27)))->(List (Int×(List D72)))->(List (D131×(List D45)))->(List D48)->Int->Option ((List D48)×((List (Int×D33))×(List (Int×(List D27)))×(List (D131×(List D45)))×(List (Int×(List D72))))))(h:Int)(o:List (Int×D33))(p:List (Int×(List D27)))(s:List (Int×(List D72)))(t:List (D131×(List D45)))(u:List D48):Option ((List D48)×((List (Int×D33))×(List (Int×(List D27)))×(List (D131×(List D45)))×(List (Int×(List D72))))):=A.gd (Z.R64 (h+1)) (k1 o p s t u (h+1))
def F.az (k1:(List (Int×D33))->(List (Int×(List D27)))->(List (Int×(List D72)))->(List (D131×(List D45)))->(List D48)->Int->Option ((List D48)×((List (Int×D33))×(List (Int×(List D27)))×(List (D131×(List D45)))×(List (Int×(List D72))))))(s:Int)(u:List (Int×D33))(z:List (Int×(List D27)))(B:List (Int×(List D72)))(E:List (D131×(List D45)))(o:List D48)(t:Int)(p:D33)(I:Bool):Option ((List D48)×((List (Int×D33))×(List (Int×(List D27)))×(List (D131×(List D45)))×(List (Int×(List D72))))):=if I=true then(F.ao k1 t u z B E o)else((F.au A.FU (u,z,E,B) p.1 (s,0,(0,0,0,0))).bind fun h=>(if(bif decide (p.2.1=15)then decide ((0:Int)<(h.1.length:Int))else false)=true then(A.gd ((List.length (α:=D48) o+List.length (α:=D48) [(p.2.2.2.2.1,s,h.1)])*48<=140737488355328) (F.ao k1 t h.2.1 h.2.2.1 h.2.2.2.2 h.2.2.2.1 (o++[(p.2.2.2.2.1,s,h.1)])))else(F.ao k1 t h.2.1 h.2.2.1 h.2.2.2.2 h.2.2.2.1 o)))
def F.m (h:D36)(o:Int):Nat->(List (Int×D33))->(List (Int×(List D27)))->(List (Int×(List D72)))->(List (D131×(List D45)))->(List D48)->Int->Option ((List D48)×((List (Int×D33))×(List (Int×(List D27)))×(List (D131×(List D45)))×(List (Int×(List D72)))))
 |0,_,_,_,_,_,_=>none
 |f+1,t,u,z,B,E,p=>if p<(h.length:Int)then((A.ix h p).bind fun s=>(if s.2.1≠15 then((F.b1 s.2.1).bind fun I=>(F.az (F.m h o f) o t u z B E p s (!I)))else(F.az (F.m h o f) o t u z B E p s false)))else((F.e E).bind fun J=>(some (J,(t,u,B,z))))
def F.aV (h:((List (Int×D33))×(List (Int×(List D27)))×(List (D131×(List D45)))×(List (Int×(List D72)))))(o:D36)(p:Int):Option ((List D48)×((List (Int×D33))×(List (Int×(List D27)))×(List (D131×(List D45)))×(List (Int×(List D72))))):=F.m o p A.FU h.1 h.2.1 h.2.2.2 [] [] 0
theorem o_aW(J:((List (Int×D33))×(List (Int×(List D27)))×(List (D131×(List D45)))×(List (Int×(List D72)))))(z:D36)(p:Int)(j3_:Option Nat)(m8_:Int)(am:A.h6 p)(r:(List D48)×((List (Int×D33))×(List (Int×(List D27)))×(List (D131×(List D45)))×(List (Int×(List D72)))))(h:F.aV J z p=some r):
    A.Ct Tryz.prog 28 [.pointer (some ⟨g0_,0,none⟩),.agg #[.slice A5_ z.length c6_],A.i p] [(0,.blk g0_ 87 [.map (some b1_),.map (some b2_),.map j3_,.map (some b4_)]),(1,.mp Int (fun i:Int=>A.i i) T33 true b1_ J.1),(2,.mp Int (fun i:Int=>A.i i) (Z.Ty.slice T27) false b2_ J.2.1),(3,.mp Int (fun i:Int=>A.i i) (Z.Ty.slice T72) false b4_ J.2.2.2),(4,.sh (.slice T33) [.slice A5_ z.length c6_] z),(5,.el none 0 0 A.tabF),(6,.el none 1 0 A.tabA),(7,.el none 2 0 [A.i m8_])] ([g0_]++([b1_]++([b2_]++([b4_]++[])))) (fun v H'=>∃(A0':Option Addr) (c1':Nat) (b2':Nat) (b3':Nat) (b4':Nat) (b5':Nat),v=.slice A0' r.1.length c1'/\H'=[(0,.own T48 49 A0' c1' r.1),(1,.blk g0_ 87 [.map (some b2'),.map (some b3'),.map (some b4'),.map (some b5')]),(2,.mp Int (fun i:Int=>A.i i) T33 true b2' r.2.1),(3,.mp Int (fun i:Int=>A.i i) (Z.Ty.slice T27) false b3' r.2.2.1),(4,.mp D131 (fun x:D131=>(A.raf x)) (Z.Ty.slice T45) false b4' r.2.2.2.1),(5,.mp Int (fun i:Int=>A.i i) (Z.Ty.slice T72) false b5' r.2.2.2.2)]):=by
 refine Jv Tryz.func28 rfl Tryz.ntmps28 rfl fun w0 F0=>?_;rw[F.aV]at h;refine J0 1 ?_;refine J1 8 (cs:=[.slice A5_ z.length c6_]) fun g1=>?_;refine J7 1 [] 2 ?_;refine J7 1 [(7,.slice none 0 0)] 2 ?_;refine V9 1 [(11,.pointer (some ⟨g0_,0,none⟩))] (Uj 9 D131 (fun x:D131=>(A.raf x)) (Z.Ty.slice T45) false fun b2=>?_);refine V9 2 [(14,.pointer (some ⟨g0_,2,none⟩))] (Us 0 [] (new:=[.map (some b2)]) (cs':=[.map (some b1_),.map (some b2_),.map (some b2),.map (some b4_)]) ?_);refine Vk 3 ?_;refine Vw [8] [] [.n,.b 0 0,.n,.n] [(16,.slice A5_ z.length c6_),(17,A.i (z.length:Int)),(18,A.i 0)] 2 ?_;refine Ul 222 T48 49 ?_;refine Vo [0,2,16,17] [4,5,6,7] (fun f nl nh=>∃(L:List (Int×D33))(N:List (Int×(List D27)))(U:List (Int×(List D72)))(W:List (D131×(List D45)))(t:List D48)(B:Int)(b4:Nat)(b6:Nat)(b8:Nat)(a3:Nat)(E:Option Addr)(I:Nat),nl=[(7,.slice E t.length I),(18,A.i B)]/\nh=[(0,.blk g0_ 87 [.map (some b4),.map (some b6),.map (some a3),.map (some b8)]),(1,.mp Int (fun i:Int=>A.i i) T33 true b4 L),(2,.mp Int (fun i:Int=>A.i i) (Z.Ty.slice T27) false b6 N),(3,.mp Int (fun i:Int=>A.i i) (Z.Ty.slice T72) false b8 U),(9,.mp D131 (fun x:D131=>(A.raf x)) (Z.Ty.slice T45) false a3 W),(222,.own T48 49 E I t)]/\A.h6 B/\F.m z p f L N U W t B=some r) ⟨J.1,J.2.1,J.2.2.2,[],[],0,b1_,b2_,b4_,b2,none,0,rfl,rfl,J3,h⟩ ?_;rintro a5 _ _ ⟨L,N,U,W,t,B,b4,b6,b8,a3,E,I,rfl,rfl,b7,h⟩;rcases a5 with _|a5
 ·exact Vb h
 rw[F.m]at h;refine Vl 1 1 [(19,.bool (decide (B<(z.length:Int))))] 2 h ?_ ?_<;>intro hb h
 ·refine Um 2 ?_;refine J4 [0,2,16,17,18] [4,5,6,7] (fun nl nh=>∃(a6:List (Int×D33))(a7:List (Int×(List D27)))(a8:List (Int×(List D72)))(a9:List (D131×(List D45)))(a4:List D48)(aa:Nat)(ab:Nat)(ac:Nat)(ad:Nat)(ae:Option Addr)(ag:Nat),nl=[(7,.slice ae a4.length ag)]/\nh=[(0,.blk g0_ 87 [.map (some aa),.map (some ab),.map (some ad),.map (some ac)]),(1,.mp Int (fun i:Int=>A.i i) T33 true aa a6),(2,.mp Int (fun i:Int=>A.i i) (Z.Ty.slice T27) false ab a7),(3,.mp Int (fun i:Int=>A.i i) (Z.Ty.slice T72) false ac a8),(9,.mp D131 (fun x:D131=>(A.raf x)) (Z.Ty.slice T45) false ad a9),(222,.own T48 49 ae ag a4)]/\F.ao (F.m z p a5) B a6 a7 a8 a9 a4=some r) ?_ ?_
  ·refine J0 2 ?_;have⟨u,b1,h⟩:=V6 h;refine Vr 4 471 b1 fun ah=>?_;intro an ap b9 bb;refine J5 [] [471] [.e 0 0] [(21,(A.rao u an ap))] (Jy 473 (cs:=l6a) Tryz.zeroValue34 fun bc=>?_);refine Vg 473 [] (A.rai u an ap) ?_;refine V4 2 ?_;refine J4 [0,2,7,9,16,17,18] [0,1,2,3,4,5,6,7,9,222,472,473] (fun nl nh=>∃(aj:Bool),nl=[(30,.bool aj)]/\nh=[]/\F.az (F.m z p a5) p L N U W t B u aj=some r) ?_ ?_
   ·refine Vy 0 [473] [] [.n,.b 0 1,.n,.n] [(25,.bool (decide (u.2.1≠15)))] ?_;refine Up (j:=25) rfl h ?_ ?_<;>intro hb h
    ·refine J5 [473] [] [.on .n,.on (.b 0 1)] [(27,A.i u.2.1)] (Vu (dj:=25) rfl rfl ?_);refine Vx 474 [] h (o_aM u.2.1 ah.2.1) .nil ?_;rintro aq - h _ _ ⟨rfl,rfl⟩;refine J9 (J5 [] [] [.on .n,.n] [(30,.bool (!aq))] (Ju ?_));exact Vn ⟨(!aq),rfl,rfl,h⟩
    refine J5 [] [] [.off,.off,.off,.off,.n] [(30,.bool false)] (Ju ?_);exact Vn ⟨false,rfl,rfl,h⟩
   rintro _ _ ⟨aj,rfl,rfl,h⟩;rw[F.az]at h;refine Uk h ?_ ?_<;>intro hb h
   ·refine V1 1 ?_;exact Vn ⟨L,N,U,W,t,b4,b6,b8,a3,E,I,rfl,rfl,h⟩
   refine Vy 3 [473] [] [.n,.n,.b 0 0,.n,.n] [(31,.pointer (some ⟨g0_,0,none⟩)),(33,A.i u.1),(35,.agg #[A.i p,A.i 0,A.i 0,A.i 0,A.i 0,A.i 0])] ?_;have⟨o,b3,h⟩:=V6 h;refine V3 514 [] (first:=[]) (cap:=[]) cf48 (o_an A.FU (L,N,W,U) u.1 (p,0,(0,0,0,0)) g0_ b4 b6 a3 b8 m8_ ah.1 am J3 J3 J3 J3 J3 o b3) (.m 0 (.m 1 (.m 2 (.m 9 (.m 3 (.s 5 (.s 6 (.s 7 .nil)))))))) ?_;rintro _ _ ⟨ak,al,ar,au,av,aw,rfl,rfl⟩;refine J9 (J8 515 0 [] ?_);refine J8 516 1 [] ?_;refine J8 517 2 [] ?_;refine J8 518 9 [] ?_;refine J8 519 3 [] ?_;refine J7 1 [(10,.slice ak o.1.length al)] 2 ?_;refine Vw [473] [] [.n,.b 0 1,.n,.n,.sy .n,.sy .n,.sy .n,.pk] [(44,.bool (bif decide (u.2.1=15)then decide ((0:Int)<(o.1.length:Int))else false))] 1 ?_;refine Uk h ?_ ?_<;>intro hb h
   ·refine Vy 0 [473] [] [.n,.n,.b 0 6,.n,.n,.n] [(45,.slice E t.length I),(50,.agg #[.string u.2.2.2.2.1,A.i p,.slice ak o.1.length al])] ?_;refine Ve 554 (ty:=T48) (cs:=[.string u.2.2.2.2.1,A.i p,.slice ak o.1.length al]) [(u.2.2.2.2.1,p,o.1)] ⟨⟨⟨rfl,ah.2.2.2.2.1⟩,⟨rfl,am⟩,.inl ⟨514,rfl⟩⟩,rfl⟩ (fun be=>?_) Tryz.zeroValue49 Tryz.sizeOf49
    have⟨hl49,h⟩:=Vs h;refine Vt (k:=222) [] (Uc (k:=554) rfl) inf49 hl49 fun ax ay=>?_;refine V9 1 [(7,.slice ax ((t++[(u.2.2.2.2.1,p,o.1)]).length) ay)] (U4 1 ?_);exact Vn ⟨o.2.1,o.2.2.1,o.2.2.2.2,o.2.2.2.1,(t++[(u.2.2.2.2.1,p,o.1)]),ar,au,aw,av,ax,ay,rfl,rfl,h⟩
   refine V1 2 ?_;exact Vn ⟨o.2.1,o.2.2.1,o.2.2.2.2,o.2.2.2.1,t,ar,au,aw,av,E,I,rfl,rfl,h⟩
  rintro _ _ ⟨a6,a7,a8,a9,a4,aa,ab,ac,ad,ae,ag,rfl,rfl,h⟩;rw[F.ao]at h;refine J0 0 ?_;have⟨b0,h⟩:=Vs h;refine Uf 2 [Z.R64 (B+1)] [(18,A.i (B+1))] b0 (Ju ?_);exact Vn ⟨_,Qn _,⟨a6,a7,a8,a9,a4,(B+1),aa,ab,ac,ad,ae,ag,rfl,rfl,(Jw b0),h⟩⟩
 refine Ub 3 1 [(54,.slice E t.length I)] ?_;refine Vx 555 [] h (o_c E I t) (.m 222 .nil) ?_;rintro b5 - h _ _ ⟨rfl,rfl,hr54⟩;refine J9 (J8 555 222 [] ?_);refine Vk 2 ?_;refine Vc 2 [(6,.slice E t.length I)] 1 ?_;obtain rfl:=Vf h;refine A.cst 6 (Ud (show t.length=b5.length from(Eq.symm hr54))) ?_;exact V7 [(0,222),(1,0),(2,1),(3,2),(4,9),(5,3)] ⟨E,I,b4,b6,a3,b8,rfl,rfl⟩
def F.bu (o:(List D72)->Int->Option (List D72))(h:Int)(p:List D72):Option (List D72):=A.gd (Z.R64 (h+1)) (o p (h+1))
def F.aG (t:(List D72)->Int->Option (List D72))(h:Int)(o:(List D72)):Nat->(List D72)->Int->Option (List D72)
 |0,_,_=>none
 |f+1,p,s=>if s<(o.length:Int)then((A.ix o s).bind fun u=>(if u.2.2.2≠0 then(A.gd ((List.length (α:=D72) p+List.length (α:=D72) [u])*40<=140737488355328) (F.bu (F.aG t h o f) s (p++[u])))else(F.bu (F.aG t h o f) s p)))else(A.gd (Z.R64 (h+1)) (t p (h+1)))
def F.aH (p:((List (Int×D33))×(List (Int×(List D27)))×(List (D131×(List D45)))×(List (Int×(List D72)))))(h:D36):Nat->(List D72)->Int->Option (List D72)
 |0,_,_=>none
 |f+1,s,o=>if o<(h.length:Int)then((A.ix h o).bind fun t=>(A.lt (Z.mget ([]:(List D72)) p.2.2.2 t.1) fun u=>(F.aG (F.aH p h f) o u A.FU s 0)))else(some s)
def F.aA (h:((List (Int×D33))×(List (Int×(List D27)))×(List (D131×(List D45)))×(List (Int×(List D72)))))(o:D36):Option (List D72):=F.aH h o A.FU [] 0
theorem o_v(E:((List (Int×D33))×(List (Int×(List D27)))×(List (D131×(List D45)))×(List (Int×(List D72)))))(o:D36)(j1_:Option Nat)(j2_:Option Nat)(j3_:Option Nat)(r:(List D72))(h:F.aA E o=some r):
    A.Ct Tryz.prog 29 [.pointer (some ⟨g0_,0,none⟩),.agg #[.slice A5_ o.length c6_]] [(0,.blk g0_ 87 [.map j1_,.map j2_,.map j3_,.map (some b4_)]),(1,.mp Int (fun i:Int=>A.i i) (Z.Ty.slice T72) false b4_ E.2.2.2),(2,.sh (.slice T33) [.slice A5_ o.length c6_] o)] ([g0_]++([b4_]++[])) (fun v H'=>∃(A0':Option Addr) (c1':Nat),v=.slice A0' r.length c1'/\H'=[(0,.own T72 73 A0' c1' r),(1,.blk g0_ 87 [.map j1_,.map j2_,.map j3_,.map (some b4_)]),(2,.mp Int (fun i:Int=>A.i i) (Z.Ty.slice T72) false b4_ E.2.2.2)]):=by
 refine Jv Tryz.func29 rfl Tryz.ntmps29 rfl fun w0 F0=>?_;rw[F.aA]at h;refine J0 1 ?_;refine J1 3 (cs:=[.slice A5_ o.length c6_]) fun g1=>?_;refine J7 1 [] 2 ?_;refine J7 1 [(5,.slice none 0 0)] 3 ?_;refine Vw [3] [] [.n,.b 0 0,.n,.n] [(11,.slice A5_ o.length c6_),(12,A.i (o.length:Int)),(13,A.i 0)] 2 ?_;refine Ul 27 T72 73 ?_;refine Vo [0,11,12] [0,1,2] (fun f W nh=>∃(I:List D72)(p:Int)(J:Option Addr)(L:Nat),W=[(5,.slice J I.length L),(13,A.i p)]/\nh=[(27,.own T72 73 J L I)]/\A.h6 p/\F.aH E o f I p=some r) ⟨[],0,none,0,rfl,rfl,J3,h⟩ ?_;rintro f7 _ _ ⟨I,p,J,L,rfl,rfl,aj,h⟩;rcases f7 with _|f7
 ·exact Vb h
 rw[F.aH]at h;refine Vl 1 1 [(14,.bool (decide (p<(o.length:Int))))] 2 h ?_ ?_<;>intro hb h
 ·refine J0 5 ?_;have⟨x8,ae,h⟩:=V6 h;refine Vr 2 54 ae fun ak=>?_;intro a8 a9 al am;refine J5 [] [54] [.e 0 0] [(16,(A.rao x8 a8 a9))] (Jy 56 (cs:=l6a) Tryz.zeroValue34 fun an=>?_);refine Vg 56 [] (A.rai x8 a8 a9) ?_;refine V4 2 ?_;refine Vj mixed 9 9 (A.mb 9 0) ?_;refine Vm Vd [] l6k [56,0] [] (A.mb 9 319) 2 [(0,.n),(4,.n),(8,.n),(1,.n),(5,.b 0 0),(2,.n),(3,.b 1 3)] [(25,A.i 0),(22,A.i x8.1),(20,.map (some b4_))] (Jz 6 ?_);obtain⟨a3,ag,h⟩:=Vi h;refine V8 (t:=(Z.Ty.slice T72)) 1 57 (z:=([]:(List D72))) (zs:=l6d) ky3 x8.1 Tryz.zeroValue42 (.inr ⟨rfl,rfl⟩) ag fun ao=>?_;intro ap aq;refine J2 (A.mb 9 383) l6k ?_;refine Vm Vd l6k [0,1,2,27,54,55,56,57] [] [] (A.mb 9 511) 0 [(7,.n)] [(24,A.i (a3.length:Int))] (J6 ?_);refine A.ex 2 ?_;refine Vo [0,11,12,13,23,24] [0,1,2,57] (fun f W nh=>∃(s:List D72)(u:Int)(N:Option Addr)(U:Nat),W=[(5,.slice N s.length U),(25,A.i u)]/\nh=[(27,.own T72 73 N U s)]/\A.h6 u/\F.aG (F.aH E o f7) p a3 f s u=some r) ⟨I,0,J,L,rfl,rfl,J3,h⟩ ?_;rintro a7 _ _ ⟨s,u,N,U,rfl,rfl,ar,h⟩;rcases a7 with _|a7
  ·exact Vb h
  rw[F.aG]at h;refine Vl 1 1 [(26,.bool (decide (u<(a3.length:Int))))] 2 h ?_ ?_<;>intro hb h
  ·refine Um 2 ?_;refine J4 [0,11,12,13,23,24,25] [0,1,2,57] (fun W nh=>∃(a2:List D72)(a4:Option Addr)(a5:Nat),W=[(5,.slice a4 a2.length a5)]/\nh=[(27,.own T72 73 a4 a5 a2)]/\F.bu (F.aG (F.aH E o f7) p a3 a7) u a2=some r) ?_ ?_
   ·refine J0 2 ?_;have⟨B,ah,h⟩:=V6 h;refine Vr 57 64 ah fun a6=>?_;intro au av;refine J5 [] [64] [.e 0 0] [(28,(A.raq B))] (Jy 65 (cs:=[A.i 0,A.i 0,.string (ByteArray.mk #[]),A.i 0]) Tryz.zeroValue73 fun aw=>?_);refine Vg 65 [] (A.rak B) ?_;refine Vk 2 ?_;refine Vw [65] [] [.n,.b 0 3,.n] [(31,.bool (decide (B.2.2.2≠0)))] 1 ?_;refine Uv h ?_ ?_<;>intro hb h
    ·refine Vy 0 [65] [] [.n,.b 0 0] [(32,.slice N s.length U),(33,(A.raq B))] ?_;refine Ve 66 (ty:=T72) (cs:=(A.rak B)) [B] ⟨⟨⟨rfl,a6.1⟩,⟨rfl,a6.2.1⟩,⟨rfl,a6.2.2.1⟩,⟨rfl,a6.2.2.2⟩⟩,rfl⟩ (fun ax=>?_) Tryz.zeroValue73 Tryz.sizeOf73
     have⟨hl40,h⟩:=Vs h;refine Vt (k:=27) [] (Uc (k:=66) rfl) inf73 hl40 fun aa ab=>?_;refine V9 1 [(5,.slice aa ((s++[B]).length) ab)] (U4 1 ?_);exact Vn ⟨(s++[B]),aa,ab,rfl,rfl,h⟩
    refine V1 2 ?_;exact Vn ⟨s,N,U,rfl,rfl,h⟩
   rintro _ _ ⟨a2,a4,a5,rfl,rfl,h⟩;rw[F.bu]at h;refine J0 0 ?_;have⟨ac,h⟩:=Vs h;refine Uf 2 [Z.R64 (u+1)] [(25,A.i (u+1))] ac (Ju ?_);exact Vn ⟨_,Qn _,⟨a2,(u+1),a4,a5,rfl,rfl,(Jw ac),h⟩⟩
  refine J0 3 ?_;have⟨ad,h⟩:=Vs h;refine Uf 2 [Z.R64 (p+1)] [(13,A.i (p+1))] ad (Ju ?_);exact Vn ⟨_,Qn _,⟨s,(p+1),N,U,rfl,rfl,(Jw ad),h⟩⟩
 refine Va 3 2 [(4,.slice J I.length L)] 1 ?_;obtain rfl:=Vf h;exact V7 [(0,27),(1,0),(2,1)] ⟨J,L,rfl,rfl⟩
end Go.Proofs.YtlbdgahbamalcaaGreatDoor
end
section
namespace Go.A
open Go.RowKit Go.Z Go.Lib
section
variable {r:Option Nat}{P:Program}{ops:Array Oper}{Q:Exit->Act->World->Prop}{rest:List Oper}{C:Cx}{l:List (Nat×Value)}{H:List (Nat×Res)}{d:Nat}{T:TypeId}{pos:String}{af:Array Edge}
end
def sh8 (i:Int):Prop:=0<=i/\i*256+255<18446744073709551616
instance (i:Int):Decidable (sh8 i):=by unfold sh8;exact inferInstance
section
variable {P:Program}{l:List (Nat×Value)}{a:Act}{w:World}{d:Option Tmp}{T:TypeId}{pos:String}{af:Array Edge}{gd:Option (Nat×Bool)}{n:Nat}{ds:List Deferred}{tt ty:TypeId}{x y:Operand}{i:Int}
end
section
variable {α β:Type}{k1:Int->Option β}{k:α->Option β}{r0:β}{x:α}{e:Int}
end
section
variable {r:Option Nat}{P:Program}{ops:Array Oper}{Q:Exit->Act->World->Prop}{rest:List Oper}{C:Cx}{l:List (Nat×Value)}{H:List (Nat×Res)}{d:Nat}{T:TypeId}{pos:String}{af:Array Edge}
end
section
variable {P:Program}{C:Cx}{l:List (Nat×Value)}{H:List (Nat×Res)}
end
def npQ (Q:Exit->Act->World->Prop):Exit->Act->World->Prop:=fun e a w=>(∀c,e≠ .panic c)/\Q e a w
theorem pqN {Q:Exit->Act->World->Prop}:Pq (npQ Q):=fun c a d v w h=>(h.1 c rfl).elim
section
variable {r:Option Nat}{P:Program}{Y:Exit->Act->World->Prop}{K:List Kx}{C:Cx}{l:List (Nat×Value)}{H Hq:List (Nat×Res)}{ops:Array Oper}{m f:Nat}{li:List Bool}
theorem AX.drN {id:Nat}{lo:List Oper}(hm:P.follows .mixedOrders=true)(m f:Nat)(li:List Bool)(h:AH r P lo.toArray (npQ (kont r P Y K)) [] m f li C l H)(hf1:lo.toArray.size=f:=by rfl)(hl:(Array.replicate lo.toArray.size false).toList=li:=by kernel_rfl):
  AX r P Y K (.region id lo.toArray true) C l H:=fun a w hf hh=>by
 subst hf1;subst hl
 have:=h a _ hf (Hp.drew hh (Ch.drew w))
 rw[Q4]at this
 exact wpIn_mono (wpIn_region_any hm (Hem.any _ _ _ _ this)) fun e a w h=>h.2
theorem AH.doneN (h:AE r P Y K .normal C l H)(hr:Region.ready .any ops li.toArray=[]:=by kernel_rfl):AH r P ops (npQ (kont r P Y K)) Hq m f li C l H:=fun a w hf hh=>by
 cases f with
 |zero=>exact⟨hr,fun c h=>(by cases h),h a w hf hh⟩
 |succ f=>exact⟨fun _=>⟨fun c h=>(by cases h),h a w hf hh⟩,by rw[hr];simp⟩
end
end Go.A
end
section
namespace Go.Proofs.YtlbdgahbamalcaaGreatDoor
open Go.RowKit
variable(A0_ A1_ A2_ A4_ A5_ A6_ A7_ A8_ A13_:Option Addr)(b0_ g0_ b1_ c1_ b2_ c2_ g2_ b3_ c3_ b4_ g4_ b5_ c5_ b6_ c6_ g6_ c7_ c8_ c9_ g10_ c14_:Nat)
def F.ah (o:(List Int)):Nat->Int->Option (List Int)
 |0,_=>none
 |f+1,h=>if h<(o.length:Int)then((A.ix o h).bind fun p=>(A.cns p (A.gd (Z.R64 (h+1)) ((F.ah o f) (h+1)))))else(some [])
def F.o (h:(List Int)):Option (List Int):=F.ah h A.FU 0
theorem o_j(s:(List Int))(xs:List Int)(h:F.o s=some xs):
    A.Sq Tryz.prog 54 [.pointer (some ⟨g0_,0,none⟩)] [(0,.el none g0_ 0 [.slice A1_ s.length c2_]),(1,.sh A.TI [.slice A1_ s.length c2_] s)] A.ti (fun cs=>[Z.vof false cs]) xs:=by
 refine A.Sq.enter Tryz.func54 rfl Tryz.ntmps54 rfl fun lid E J Jx Φ hY hJ0=>?_;obtain⟨rs0,hrs⟩: ∃rs0,rs0=xs:=⟨_,rfl⟩
 have hR0:A.Rem xs 0 rs0:=hrs▸A.Rem.zero xs
 rw[F.o,<-hrs]at h
 clear hrs
 refine Uh 1 [] [0] [.e 0 0,.n,.n] [(5,.slice A1_ s.length c2_),(6,A.i (s.length:Int)),(7,A.i 0)] 2 ?_;refine A.AX.loopC (A.CY 16 Φ) (0,E) [0,5,6] [1] [1] (fun f i I L=>∃(p:Int)(rs:List Int),I=[(7,A.i p)]/\L=[]/\A.h6 p/\J i.1 i.2/\A.Rem xs i.1 rs/\F.ah s f p=some rs) A.FU [(7,A.i 0)] [] ⟨0,_,rfl,rfl,J3,hJ0,hR0,h⟩ ?_;rintro u ⟨N,w5⟩ _ _ ⟨p,rs8,rfl,rfl,a0,hJ6,hR7,h⟩;rcases u with _|u
 ·exact Vb h
 rw[F.ah]at h;refine Vl 1 1 [(8,.bool (decide (p<(s.length:Int))))] 2 h ?_ ?_<;>intro hb h
 ·refine J0 5 ?_;have⟨t,U,h⟩:=V6 h;refine Vr 1 4 U fun W=>?_;intro a1 a2;refine J5 [] [4] [.e 0 0,.n] [(4,A.i t)] (Vk 2 ?_);refine V9 2 [(11,.func (.yield lid) #[] #[]),(12,A.i t)] ?_;obtain⟨rs14,hqrs14,h⟩:=A.cns_some h;refine A.AL.yield hY hJ6 (hqrs14▸hR7) [A.i t] ⟨rfl,W⟩ (fun z hJ16 hR17=>?_) (fun z hX18=>?_)
  ·refine Vc 1 [(14,.bool false)] 1 ?_;refine V5 rfl ?_;refine J0 3 ?_;have⟨B,h⟩:=Vs h;refine Uf 2 [Z.R64 (p+1)] [(7,A.i (p+1))] B (Ju ?_);exact A.AE.jC (N+1,z) [1] [(7,A.i (p+1))] [] ⟨_,Qn _,⟨(p+1),_,rfl,rfl,(Jw B),hJ16,hR17,h⟩⟩
  refine Vc 1 [(14,.bool true)] 1 ?_;refine Ua rfl ?_;exact A.AX.rtX hY hX18
 refine V1 1 ?_;obtain rfl:=Vf h;exact A.AE.rtY hY hJ6 hR7
def F.co (h:D36)(o:Int×((List (Int×D33))×(List (Int×(List D27)))×(List (D131×(List D45)))×(List (Int×(List D72))))):List Int->Option ((List D48)×(List D72)×Int)
 | []=>(F.aA ([],[],[],o.2.2.2.2) h).bind fun p=>(some ([],p,0))
 |_=>none
def F.cp (h:D36)(t:List (Int×(List D27)))(u:List (Int×D33))(o:List (Int×(List D72)))(p:List D48):Option ((List D48)×(List D72)×Int):=(F.aA ([],[],[],o) h).bind fun s=>(some (p,s,0))
def F.bS (o:D36)(s:(Int×(List (Int×(List D27)))))(p:Int×((List (Int×D33))×(List (Int×(List D27)))×(List (D131×(List D45)))×(List (Int×(List D72))))):List Int->Option ((List D48)×(List D72)×Int)
 | []=>(F.aA ([],[],[],p.2.2.2.2) o).bind fun u=>(some ([],u,0))
 |t::f=>A.gd (f=[]) (A.gd (t=s.1) ((F.aV (p.2.1,s.2,[],p.2.2.2.2) o t).bind fun h=>(A.gd ((List.length (α:=D48) []+List.length (α:=D48) h.1)*48<=140737488355328) (F.cp o h.2.2.1 h.2.1 h.2.2.2.2 ([]++h.1)))))
def F.bp (h:D36)(p:(List D39))(t:(List D72)):Option ((List D48)×(List D72)×Int):=(F.cl h p).bind fun s=>A.om s.1 (if s.2≠0 then none else((F.bD ([],[],[],[]) h t).bind fun u=>(if u.1≠0 then none else((F.bz p).bind fun B=>((F.o B).bind fun E=>F.co h u E))))) fun I=>(if s.2≠0 then none else((F.bD ([],[],[],[]) h t).bind fun z=>(if z.1≠0 then none else((F.bz p).bind fun J=>((F.o J).bind fun L=>F.bS h I z L)))))
theorem o_b6(p:D36)(B:(List D39))(L:(List D72))(m6_:Int)(r:(List D48)×(List D72)×Int)(h:F.bp p B L=some r):
    A.Ct Tryz.prog 7 [.agg #[.slice A0_ p.length c1_],.slice A2_ B.length c3_,.slice A4_ L.length c5_] [(0,.sh (.slice T33) [.slice A0_ p.length c1_] p),(1,.ln T39 A2_ c3_ B),(2,.ln T72 A4_ c5_ L),(3,.el none 0 0 A.tabF),(4,.el none 1 0 A.tabA),(5,.el none 2 0 [A.i m6_])] [] (fun v H'=>∃(A0':Option Addr) (c1':Nat) (A2':Option Addr) (c3':Nat),v=.tuple #[.slice A0' r.1.length c1',.slice A2' r.2.1.length c3',A.i r.2.2]/\H'=[(0,.own T48 49 A0' c1' r.1),(1,.own T72 73 A2' c3' r.2.1)]/\A.h6 r.2.2):=by
 refine A.Ct.enterDM Tryz.func7 rfl Tryz.ntmps7 rfl fun w0 F0=>?_;rw[F.bp]at h;refine J0 1 ?_;refine J1 6 (cs:=[.slice A0_ p.length c1_]) fun g1=>?_;refine Jy 7 (cs:=l6d) Tryz.zeroValue41 fun N=>?_;refine Jy 8 (cs:=l6d) Tryz.zeroValue42 fun g3=>?_;refine Jy 9 (cs:=[A.i 0]) Tryz.zeroValue24 fun g4=>?_;refine Vk 2 ?_;refine A.AL.dfr ?_;refine Vk 2 ?_;refine J5 [6] [] [.b 0 0,.n] [(14,.agg #[.slice A0_ p.length c1_]),(15,.slice A2_ B.length c3_)] (Vx 10 [] h (o_bJ A0_ A2_ c1_ c3_ p B) (.s 0 (.s 1 (.s 3 (.s 4 .nil)))) ?_);rintro r5 - h _ _ (⟨hp105,b7,rfl,rfl,hr8⟩|⟨ag,hp105,ao,a6,rfl,rfl,hr44⟩)
 ·refine J9 ?_;rw[A.om_n hp105]at h
  refine V9 3 [(17,.map (some b7)),(18,A.i r5.2)] (Jy 50 (cs:=[.map none]) Tryz.zeroValue78 fun g9=>?_);refine Vg 50 [] [.map (some b7)] ?_;refine Vg 9 [] [A.i r5.2] ?_;refine Vk 3 ?_;refine Vw [9] [] [.b 0 0,.n] [(20,.bool (decide (r5.2≠0)))] 1 ?_;refine Uv h (fun U h=>Vb h) (fun U h=>?_);refine J0 3 ?_;refine Uj 51 Int (fun i:Int=>A.i i) T33 true fun ap=>?_;refine Uj 52 Int (fun i:Int=>A.i i) (Z.Ty.slice T72) false fun aq=>?_;refine V9 1 [(24,.agg #[.map (some ap),.map none,.map none,.map (some aq)])] (J1 53 (cs:=[.map (some ap),.map none,.map none,.map (some aq)]) fun a7=>?_);refine Jy 54 (cs:=[.pointer none]) Tryz.zeroValue81 fun c3=>?_;refine Vg 54 [] [.pointer (some ⟨a7,0,none⟩)] ?_;refine Vk 3 ?_;refine J5 [54,6] [] [.b 0 0,.b 1 0,.n] [(26,.pointer (some ⟨a7,0,none⟩)),(27,.agg #[.slice A0_ p.length c1_]),(28,.slice A4_ L.length c5_)] ?_;have⟨a8,bb,h⟩:=V6 h;refine V3 55 [] (first:=[]) (cap:=[]) cf27 (o_am A0_ A4_ a7 ap aq c1_ c5_ ([],[],[],[]) p L none none a8 bb) (.m 53 (.m 51 (.m 52 (.s 0 (.s 2 (.s 3 (.s 4 .nil))))))) ?_;rintro _ _ ⟨bc,be,rfl,rfl,hr16⟩;refine J9 (J8 55 53 [] ?_);refine J8 56 51 [] ?_;refine J8 57 52 [] ?_;refine J7 1 [(11,A.i a8.1)] 2 ?_;refine Vc 2 [(31,.bool (decide (a8.1≠0)))] 1 ?_;refine Uv h (fun U h=>Vb h) (fun U h=>?_);refine Ub 4 1 [(33,.slice A2_ B.length c3_)] ?_;refine Vx 95 [] h (o_ax A2_ c3_ B) (.s 1 .nil) ?_;rintro bg - h _ _ ⟨bi,bj,bk,rfl,rfl⟩;refine J9 (V4 2 ?_);have⟨b3,bm,h⟩:=V6 h;refine A.AX.rgf 135 136 137 [0,3,4,5,6,7,8,9,10,50,51,52,53,54,95,96] [0,3,4,5,6,7,8,9,10,50,51,52,53,54,95,96] [136,135,0,3,4,5,6,7,8,9,10,50,51,52,53,54,95,96] (fun k nh=>k=0/\nh=[]/\F.co p a8 b3=some r) [] cf54 (o_j bj bi bk bg b3 bm) (fun _=>rfl) ⟨rfl,rfl,h⟩ ?_ ?_ ?_
  ·rintro bq _ D26 L27 ⟨rfl,rfl,h⟩;exact⟨⟨_,(.b 95 (.s 96 .nil))⟩,rfl,fun o=>rfl⟩
  ·rintro bq _ c4 D26 L27 c5 c6 ⟨rfl,rfl,h⟩ hx34 hxo35 c7;obtain⟨tl,rfl⟩:=A.hd_at hx34
   exact Vb h
  rintro _ D26 L27 ⟨hl40,rfl,h⟩;obtain rfl:=Wj hl40
  rw[F.co]at h;refine A.ex 3 ?_;refine A.AX.drN mixed 4 7 (A.mb 7 0) ?_;refine Vm A.pqN [] [0,3,4,5,6,7,8,9,10,50,51,52,53,54,135] [7,54,6] [] (A.mb 7 7) 4 [(0,.b 0 0),(1,.b 1 0),(2,.b 2 0)] [(48,.slice none 0 0),(49,.pointer (some ⟨a7,0,none⟩)),(50,.agg #[.slice A0_ p.length c1_])] (Jz 3 ?_);refine Vx 138 [] h (o_v A0_ a7 be c1_ ([],[],[],a8.2.2.2.2) p (some bc) none none) (.m 53 (.m 52 (.s 0 .nil))) ?_;rintro b4 - h _ _ ⟨ar,au,rfl,rfl⟩;refine J9 (J8 139 53 [] ?_);refine J8 140 52 [] ?_;refine J2 (A.mb 7 15) [0,3,4,5,6,7,8,9,10,50,51,52,53,54,135] ?_;refine Jz 4 ?_;refine Vg 7 [] [.slice none 0 0] ?_;refine Vv (A.mb 7 31) ?_;refine A.AH.bh 5 ?_;refine Jz 5 ?_;refine Vg 8 [] [.slice ar b4.length au] ?_;refine Vv (A.mb 7 63) ?_;refine A.AH.bh 6 ?_;refine Jz 6 ?_;refine Vg 9 [] [A.i 0] ?_;refine Vv (A.mb 7 127) ?_;refine A.AH.doneN ?_;refine A.ex 1 ?_;refine A.AX.retLM ?_;refine A.LM.mark 135 ?_;refine A.LM.nn (vs:=[.pointer (some ⟨g4,0,none⟩),.pointer (some ⟨N,0,none⟩),.pointer (some ⟨g3,0,none⟩)]) cf25 (Qbd _ _ _) ?_;obtain rfl:=Vf h;refine Ul 178 T48 49 ?_;exact A.LM.nil [(0,178),(1,138)] (.tuple #[.slice none 0 0,.slice ar b4.length au,A.i 0]) (fun a w hf hh=>Z.resv3 rfl (Ur hf rfl Tryz.isAgg41 (Vq hh 7)) (Ur hf rfl Tryz.isAgg42 (Vq hh 8)) (Ur hf rfl Tryz.isAgg24 (Vq hh 9))) (⟨none,0,ar,au,rfl,rfl,J3⟩)
 refine J9 ?_;rw[A.om_s hp105]at h
 refine V9 3 [(17,.map (some ao)),(18,A.i r5.2)] (Jy 179 (cs:=[.map none]) Tryz.zeroValue78 fun c8=>?_);refine Vg 179 [] [.map (some ao)] ?_;refine Vg 9 [] [A.i r5.2] ?_;refine Vk 3 ?_;refine Vw [9] [] [.b 0 0,.n] [(20,.bool (decide (r5.2≠0)))] 1 ?_;refine Uv h (fun U h=>Vb h) (fun U h=>?_);refine J0 3 ?_;refine Uj 180 Int (fun i:Int=>A.i i) T33 true fun av=>?_;refine Uj 181 Int (fun i:Int=>A.i i) (Z.Ty.slice T72) false fun aw=>?_;refine V9 1 [(24,.agg #[.map (some av),.map none,.map none,.map (some aw)])] (J1 182 (cs:=[.map (some av),.map none,.map none,.map (some aw)]) fun t=>?_);refine Jy 183 (cs:=[.pointer none]) Tryz.zeroValue81 fun c9=>?_;refine Vg 183 [] [.pointer (some ⟨t,0,none⟩)] ?_;refine Vk 3 ?_;refine J5 [183,6] [] [.b 0 0,.b 1 0,.n] [(26,.pointer (some ⟨t,0,none⟩)),(27,.agg #[.slice A0_ p.length c1_]),(28,.slice A4_ L.length c5_)] ?_;have⟨u,br,h⟩:=V6 h;refine V3 184 [] (first:=[]) (cap:=[]) cf27 (o_am A0_ A4_ t av aw c1_ c5_ ([],[],[],[]) p L none none u br) (.m 182 (.m 180 (.m 181 (.s 0 (.s 2 (.s 3 (.s 4 .nil))))))) ?_;rintro _ _ ⟨W,a3,rfl,rfl,hr52⟩;refine J9 (J8 184 182 [] ?_);refine J8 185 180 [] ?_;refine J8 186 181 [] ?_;refine J7 1 [(11,A.i u.1)] 2 ?_;refine Vc 2 [(31,.bool (decide (u.1≠0)))] 1 ?_;refine Uv h (fun U h=>Vb h) (fun U h=>?_);refine Ub 4 1 [(33,.slice A2_ B.length c3_)] ?_;refine Vx 224 [] h (o_ax A2_ c3_ B) (.s 1 .nil) ?_;rintro bt - h _ _ ⟨bu,bw,bx,rfl,rfl⟩;refine J9 (V4 2 ?_);have⟨ax,bz,h⟩:=V6 h;refine A.AX.rgf 264 265 266 [0,3,4,5,6,8,9,10,179,183,224,225] [7,11,180,181,182,0,3,4,5,6,8,9,10,179,183,224,225] [265,264,7,11,180,181,182,0,3,4,5,6,8,9,10,179,183,224,225] (fun k nh=>(k=0/\nh=[(7,.blk N 41 [.slice none 0 0]),(11,.mp Int (fun i:Int=>A.i i) (Z.Ty.slice T27) false a6 ag.2),(180,.mp Int (fun i:Int=>A.i i) T33 true W u.2.1),(181,.mp Int (fun i:Int=>A.i i) (Z.Ty.slice T72) false a3 u.2.2.2.2),(182,.blk t 87 [.map (some W),.map none,.map none,.map (some a3)])]/\F.bS p ag u ax=some r)\/(k=1/\List.length ax=1/\∃(a9:List (Int×(List D27)))(aa:List (Int×D33))(a4:List (Int×(List D72)))(E:List D48)(ah:Nat)(aj:Nat)(a5:Nat)(I:Option Addr)(J:Nat)(ab:Option Nat)(ac:Option Nat)(ad:Option Nat),nh=[(7,.blk N 41 [.slice I E.length J]),(11,.mp Int (fun i:Int=>A.i i) (Z.Ty.slice T27) false ah a9),(180,.mp Int (fun i:Int=>A.i i) T33 true aj aa),(181,.mp Int (fun i:Int=>A.i i) (Z.Ty.slice T72) false a5 a4),(182,.blk t 87 [.map ab,.map ac,.map ad,.map (some a5)]),(307,.own T48 49 I J E)]/\F.cp p a9 aa a4 E=some r)) [(7,.blk N 41 [.slice none 0 0]),(11,.mp Int (fun i:Int=>A.i i) (Z.Ty.slice T27) false a6 ag.2),(180,.mp Int (fun i:Int=>A.i i) T33 true W u.2.1),(181,.mp Int (fun i:Int=>A.i i) (Z.Ty.slice T72) false a3 u.2.2.2.2),(182,.blk t 87 [.map (some W),.map none,.map none,.map (some a3)])] cf54 (o_j bw bu bx bt ax bz) (fun _=>rfl) (.inl ⟨rfl,rfl,h⟩) ?_ ?_ ?_
 ·rintro c0 _ D62 L63 (⟨rfl,rfl,h⟩|⟨rfl,hl104,a9,aa,a4,E,ah,aj,a5,I,J,ab,ac,ad,rfl,h⟩)
  ·exact⟨⟨_,(.b 224 (.s 225 .nil))⟩,rfl,fun o=>rfl⟩
  exact⟨⟨_,(.b 224 (.s 225 .nil))⟩,rfl,fun o=>rfl⟩
 ·rintro c0 _ ae D62 L63 ca cb (⟨rfl,rfl,h⟩|⟨rfl,hl104,a9,aa,a4,E,ah,aj,a5,I,J,ab,ac,ad,rfl,h⟩) hx70 hxo71 c1
  ·obtain⟨tl,rfl⟩:=A.hd_at hx70
   rw[F.bS]at h;obtain rfl:=(A.gd_some h).1
   replace h:=(A.gd_some h).2
   refine Ub 0 1 [(12,A.i ae)] ?_;refine Ju ?_;refine A.AE.flip 264 265 fun cc=>?_;refine Vy 2 [183,179] [] [.b 0 0,.b 1 0,.n] [(36,.pointer (some ⟨t,0,none⟩)),(37,.map (some ao)),(38,A.i ae)] ?_;have⟨he88,h⟩:=Vs h;refine A.AL.lko1 10 ky2 ae Tryz.zeroValue84 he88 ?_;refine V9 2 [(41,.pointer (some ⟨t,1,none⟩))] (Us 182 [] (new:=[.map (some a6)]) (cs':=[.map (some W),.map (some a6),.map none,.map (some a3)]) ?_);refine V4 1 ?_;refine A.AX.drN mixed 6 7 (A.mb 7 0) ?_;refine Vm A.pqN [] [0,3,4,5,6,7,8,9,10,179,183,224,225,264,265] [7,183,6] [] (A.mb 7 15) 3 [(0,.b 0 0),(1,.b 1 0),(2,.b 2 0),(3,.n)] [(42,.slice none 0 0),(43,.pointer (some ⟨t,0,none⟩)),(44,.agg #[.slice A0_ p.length c1_]),(45,A.i ae)] (Jz 4 ?_);have⟨z,c2,h⟩:=V6 h;refine V3 267 [] (first:=[]) (cap:=[]) cf28 (o_aW A0_ t W a6 a3 c1_ (u.2.1,ag.2,[],u.2.2.2.2) p ae none m6_ hxo71 z c2) (.m 182 (.m 180 (.m 11 (.m 181 (.s 0 (.s 3 (.s 4 (.s 5 .nil)))))))) ?_;rintro _ _ ⟨cd,cf,ak,al,b5,ay,rfl,rfl⟩;refine J9 (J8 268 182 [] ?_);refine J8 269 180 [] ?_;refine J8 270 11 [] ?_;refine J8 272 181 [] ?_;refine J2 (A.mb 7 31) l6h ?_;refine Jz 5 ?_;refine Ul 307 T48 49 ?_;have⟨hl99,h⟩:=Vs h;refine Vt (k:=307) [] (Uc (k:=267) rfl) inf49 hl99 fun am an=>?_;refine J2 (A.mb 7 63) l6h ?_;refine Jz 6 ?_;refine Vg 7 [] [.slice am (([]++z.1).length) an] ?_;refine Vv (A.mb 7 127) ?_;refine A.AH.doneN ?_;refine A.ee 1 ?_;exact A.AE.bn c1 [265,264,7,11,180,181,182,307,0,6,8,9,10,179,183,224,225] 100000 [(265,100265),(264,100264),(7,100007),(11,100011),(180,100180),(181,100181),(182,100182),(307,100307),(0,100000),(3,3),(4,4),(5,5),(6,100006),(8,100008),(9,100009),(10,100010),(179,100179),(183,100183),(224,100224),(225,100225)] [(7,.blk N 41 [.slice am (([]++z.1).length) an]),(11,.mp Int (fun i:Int=>A.i i) (Z.Ty.slice T27) false al z.2.2.1),(180,.mp Int (fun i:Int=>A.i i) T33 true ak z.2.1),(181,.mp Int (fun i:Int=>A.i i) (Z.Ty.slice T72) false ay z.2.2.2.2),(182,.blk t 87 [.map (some ak),.map (some al),.map (some b5),.map (some ay)]),(307,.own T48 49 am an ([]++z.1))] (.inr ⟨rfl,rfl,z.2.2.1,z.2.1,z.2.2.2.2,([]++z.1),al,ak,ay,am,an,(some ak),(some al),(some b5),rfl,h⟩) rfl rfl
  exact absurd hx70 (by rw[Q9 (by omega)];simp)
 rintro _ D62 L63 (⟨hl104,rfl,h⟩|⟨_,hl104,a9,aa,a4,E,ah,aj,a5,I,J,ab,ac,ad,rfl,h⟩)
 ·obtain rfl:=Wj hl104
  rw[F.bS]at h;refine A.ex 3 ?_;refine A.AX.drN mixed 4 7 (A.mb 7 0) ?_;refine Vm A.pqN [] [0,3,4,5,6,7,8,9,10,11,179,180,181,182,183,264] [7,183,6] [] (A.mb 7 7) 4 [(0,.b 0 0),(1,.b 1 0),(2,.b 2 0)] [(48,.slice none 0 0),(49,.pointer (some ⟨t,0,none⟩)),(50,.agg #[.slice A0_ p.length c1_])] (Jz 3 ?_);refine Vx 308 [] h (o_v A0_ t a3 c1_ ([],[],[],u.2.2.2.2) p (some W) none none) (.m 182 (.m 181 (.s 0 .nil))) ?_;rintro b6 - h _ _ ⟨az,b0,rfl,rfl⟩;refine J9 (J8 309 182 [] ?_);refine J8 310 181 [] ?_;refine J2 (A.mb 7 15) [0,3,4,5,6,7,8,9,10,11,179,180,181,182,183,264] ?_;refine Jz 4 ?_;refine Vg 7 [] [.slice none 0 0] ?_;refine Vv (A.mb 7 31) ?_;refine A.AH.bh 5 ?_;refine Jz 5 ?_;refine Vg 8 [] [.slice az b6.length b0] ?_;refine Vv (A.mb 7 63) ?_;refine A.AH.bh 6 ?_;refine Jz 6 ?_;refine Vg 9 [] [A.i 0] ?_;refine Vv (A.mb 7 127) ?_;refine A.AH.doneN ?_;refine A.ex 1 ?_;refine A.AX.retLM ?_;refine A.LM.mark 264 ?_;refine A.LM.nn (vs:=[.pointer (some ⟨g4,0,none⟩),.pointer (some ⟨N,0,none⟩),.pointer (some ⟨g3,0,none⟩)]) cf25 (Qbd _ _ _) ?_;obtain rfl:=Vf h;refine Ul 348 T48 49 ?_;exact A.LM.nil [(0,348),(1,308)] (.tuple #[.slice none 0 0,.slice az b6.length b0,A.i 0]) (fun a w hf hh=>Z.resv3 rfl (Ur hf rfl Tryz.isAgg41 (Vq hh 7)) (Ur hf rfl Tryz.isAgg42 (Vq hh 8)) (Ur hf rfl Tryz.isAgg24 (Vq hh 9))) (⟨none,0,az,b0,rfl,rfl,J3⟩)
 rw[F.cp]at h;refine A.ex 3 ?_;refine A.AX.drN mixed 4 7 (A.mb 7 0) ?_;refine Vm A.pqN [] [0,3,4,5,6,7,8,9,10,11,179,181,182,183,264,307] [7,183,6] [] (A.mb 7 7) 4 [(0,.b 0 0),(1,.b 1 0),(2,.b 2 0)] [(48,.slice I E.length J),(49,.pointer (some ⟨t,0,none⟩)),(50,.agg #[.slice A0_ p.length c1_])] (Jz 3 ?_);refine Vx 308 [] h (o_v A0_ t a5 c1_ ([],[],[],a4) p ab ac ad) (.m 182 (.m 181 (.s 0 .nil))) ?_;rintro b9 - h _ _ ⟨b1,b2,rfl,rfl⟩;refine J9 (J8 309 182 [] ?_);refine J8 310 181 [] ?_;refine J2 (A.mb 7 15) [0,3,4,5,6,7,8,9,10,11,179,181,182,183,264,307] ?_;refine Jz 4 ?_;refine Vg 7 [] [.slice I E.length J] ?_;refine Vv (A.mb 7 31) ?_;refine A.AH.bh 5 ?_;refine Jz 5 ?_;refine Vg 8 [] [.slice b1 b9.length b2] ?_;refine Vv (A.mb 7 63) ?_;refine A.AH.bh 6 ?_;refine Jz 6 ?_;refine Vg 9 [] [A.i 0] ?_;refine Vv (A.mb 7 127) ?_;refine A.AH.doneN ?_;refine A.ex 1 ?_;refine A.AX.retLM ?_;refine A.LM.mark 264 ?_;refine A.LM.nn (vs:=[.pointer (some ⟨g4,0,none⟩),.pointer (some ⟨N,0,none⟩),.pointer (some ⟨g3,0,none⟩)]) cf25 (Qbd _ _ _) ?_;obtain rfl:=Vf h;exact A.LM.nil [(0,307),(1,308)] (.tuple #[.slice I E.length J,.slice b1 b9.length b2,A.i 0]) (fun a w hf hh=>Z.resv3 rfl (Ur hf rfl Tryz.isAgg41 (Vq hh 7)) (Ur hf rfl Tryz.isAgg42 (Vq hh 8)) (Ur hf rfl Tryz.isAgg24 (Vq hh 9))) (⟨I,J,b1,b2,rfl,rfl,J3⟩)
def F.f (o:(List D45))(p:(List D45)):Nat->Int->Option Bool
 |0,_=>none
 |f+1,h=>if h<(o.length:Int)then((A.ix o h).bind fun s=>((A.ix p h).bind fun t=>(if s≠t then(some false)else(A.gd (Z.R64 (h+1)) ((F.f o p f) (h+1))))))else(some true)
def F.k (h:(List D45))(o:(List D45)):Option Bool:=if(h.length:Int)≠(o.length:Int)then(some false)else(F.f h o A.FU 0)
theorem o_k(p:(List D45))(s:(List D45))(r:Bool)(h:F.k p s=some r):
    A.Ct Tryz.prog 8 [.slice A0_ p.length c1_,.slice A2_ s.length c3_] [(0,.ln T45 A0_ c1_ p),(1,.ln T45 A2_ c3_ s)] [] (fun v H'=>v=.bool r/\H'=[]):=by
 refine Jv Tryz.func8 rfl Tryz.ntmps8 rfl fun w0 F0=>?_;rw[F.k]at h;refine J0 1 ?_;refine J7 1 [] 3 ?_;refine Vc 5 [(10,.bool (decide ((p.length:Int)≠(s.length:Int))))] 1 ?_;refine Uv h ?_ ?_<;>intro u h
 ·refine Va 1 1 [(4,.bool false)] 1 ?_;exact A.ke h (Vh ⟨rfl,rfl⟩)
 refine Va 4 3 [(12,A.i (p.length:Int)),(13,A.i 0)] 2 ?_;refine Vo [0,1,12] [0,1] (fun f N U=>∃(o:Int),N=[(13,A.i o)]/\U=[]/\A.h6 o/\F.f p s f o=some r) ⟨0,rfl,rfl,J3,h⟩ ?_;rintro z _ _ ⟨o,rfl,rfl,a3,h⟩;rcases z with _|z
 ·exact Vb h
 rw[F.f]at h;refine Vl 1 1 [(14,.bool (decide (o<(p.length:Int))))] 2 h ?_ ?_<;>intro u h
 ·refine Va 5 2 [(5,A.i o)] 2 ?_;refine Vj mixed 9 9 (A.mb 9 0) ?_;refine Vm Vd [] [0,1] [] [] (A.mb 9 51) 5 [(0,.n),(1,.n),(4,.n),(5,.n)] [(16,.slice A0_ p.length c1_),(17,A.i o),(20,.slice A2_ s.length c3_),(21,A.i o)] ?_;have⟨B,E,h⟩:=V6 h;refine A.AH.pkl 0 6 E fun a4=>?_;intro b8 o9 W;refine V0 Vd [0,1] [0,1,6] 2 (A.mb 9 55) rfl (fun a w hf hh=>Un (t:=T45) E W hf) ?_;refine Vm Vd [0,1,6] [0,1,6] [] [6] (A.mb 9 63) 3 [(3,.e 0 0)] [(19,(A.ras B))] ?_;have⟨I,J,h⟩:=V6 h;refine A.AH.pkl 1 7 J fun a5=>?_;intro a6 a7 a2;refine V0 Vd [0,1,6] l6l 6 (A.mb 9 127) rfl (fun a w hf hh=>Un (t:=T45) J a2 hf) ?_;refine Vm Vd l6l l6l [] [7] (A.mb 9 255) 1 [(7,.e 0 0)] [(23,(A.ras I))] (V0 Vd l6l l6l 8 (A.mb 9 511) rfl (fun a w hf hh=>eqagg_neq46 (x:=B) (y:=I) (hf.eval rfl) (hf.eval rfl)) ?_);refine J6 ?_;refine A.ex 1 ?_;refine Uv h ?_ ?_<;>intro u h
  ·refine Va 1 1 [(4,.bool false)] 1 ?_;exact A.ke h (Vh ⟨rfl,rfl⟩)
  refine J0 3 ?_;have⟨L,h⟩:=Vs h;refine Uf 2 [Z.R64 (o+1)] [(13,A.i (o+1))] L (Ju ?_);exact Vn ⟨_,Qn _,⟨(o+1),rfl,rfl,(Jw L),h⟩⟩
 refine Va 3 1 [(4,.bool true)] 1 ?_;exact A.ke h (Vh ⟨rfl,rfl⟩)
def F.al (h:(List D45)):Option (List D45):=A.gd ((List.length (α:=D45) []+List.length (α:=D45) h)*32<=140737488355328) (some ([]++h))
theorem o_x(o:(List D45))(r:(List D45))(h:F.al o=some r):
    A.Ct Tryz.prog 32 [.slice A0_ o.length c1_] [(0,.ln T45 A0_ c1_ o)] [] (fun v H'=>∃(A0':Option Addr) (c1':Nat),v=.slice A0' r.length c1'/\H'=[(0,.own T45 46 A0' c1' r)]):=by
 refine Jv Tryz.func32 rfl Tryz.ntmps32 rfl fun u z=>?_;rw[F.al]at h;refine J0 1 ?_;refine J7 1 [] 3 ?_;refine Vc 2 [(4,.bool A0_.isNone)] 1 ?_;refine A.AX.cnn rfl (fun p=>?_) (fun p=>?_)
 ·refine A.nilL 0 p fun p=>?_;subst p
  replace h:some []=some r:=by simpa[A.gd,A.ix] using h
  refine Va 1 1 [(2,.slice none 0 0)] 1 ?_;obtain rfl:=Vf h;refine Ul 2 T45 46 ?_;exact V7 [(0,2)] ⟨none,0,rfl,rfl⟩
 refine J0 3 ?_;refine A.AL.bs0 1 T45 (fun B=>?_) Tryz.sizeOf46
 refine V9 1 [(6,.slice A0_ o.length c1_)] ?_;have⟨hl4,h⟩:=Vs h;refine Vt (k:=1) [] (A.rowL (k:=0) rfl) Qil hl4 fun s t=>?_;refine Vc 1 [(2,.slice s (([]++o).length) t)] 1 ?_;obtain rfl:=Vf h;exact V7 [(0,1)] ⟨s,t,rfl,rfl⟩
def F.cy (h:D48)(o:ByteArray)(p:Int):Option Bool:=some (bif decide (h.1=o)then decide (h.2.1=p)else false)
theorem o_bL(h:D48)(o:ByteArray)(p:Int)(t:h.1.size<=maxLen)(u:A.h6 h.2.1)(z:o.size<=maxLen)(B:A.h6 p)(r:Bool)(s:F.cy h o p=some r):
    A.Ct Tryz.prog 31 [(A.rat h A2_ c3_),.pointer (some ⟨g4_,0,none⟩),.pointer (some ⟨g6_,0,none⟩)] [(0,.sh (.slice T45) [.slice A2_ h.2.2.length c3_] h.2.2),(1,.el none g4_ 0 [.string o]),(2,.el none g6_ 0 [A.i p])] [] (fun v H'=>v=.bool r/\H'=[]):=by
 refine Jv Tryz.func31 rfl Tryz.ntmps31 rfl fun E I=>?_;rw[F.cy]at s;refine J0 1 ?_;refine J1 3 (cs:=[.string h.1,A.i h.2.1,.slice A2_ h.2.2.length c3_]) fun J=>?_;refine J7 1 [] 2 ?_;refine Vw [3] [1,2] [.n,.b 0 0,.e 0 0,.n,.n,.sy .n,.sy (.b 0 1),.sy (.e 1 0),.sy .n,.pk,.n] [(4,.bool (bif decide (h.1=o)then decide (h.2.1=p)else false))] 1 ?_;exact A.ke s (Vh ⟨rfl,rfl⟩)
def F.a (o:(List D48))(p:ByteArray)(s:Int):Nat->Int->Option Int
 |0,_=>none
 |f+1,h=>if h<(o.length:Int)then((A.ix o h).bind fun t=>((F.cy t p s).bind fun u=>(if u=true then(some h)else(A.gd (Z.R64 (h+1)) ((F.a o p s f) (h+1))))))else(some (-1))
def F.l (h:(List D48))(o:ByteArray)(p:Int):Option Int:=F.a h o p A.FU 0
theorem o_h(p:(List D48))(t:ByteArray)(u:Int)(N:t.size<=maxLen)(U:A.h6 u)(r:Int)(h:F.l p t u=some r):
    A.Ct Tryz.prog 30 [.slice A0_ p.length c1_,.func (.func 31) #[] #[.pointer (some ⟨g2_,0,none⟩),.pointer (some ⟨g4_,0,none⟩)]] [(0,.ln T48 A0_ c1_ p),(1,.el none g2_ 0 [.string t]),(2,.el none g4_ 0 [A.i u])] [] (fun v H'=>v=A.i r/\H'=[]/\A.h6 r):=by
 refine Jv Tryz.func30 rfl Tryz.ntmps30 rfl fun w0 F0=>?_;rw[F.l]at h;refine J0 1 ?_;refine J7 1 [] 3 ?_;refine Vc 3 [(7,A.i (p.length:Int)),(8,A.i 0)] 2 ?_;refine Vo [0,1,7] [0,1,2] (fun f W nh=>∃(o:Int),W=[(8,A.i o)]/\nh=[]/\A.h6 o/\F.a p t u f o=some r) ⟨0,rfl,rfl,J3,h⟩ ?_;rintro z _ _ ⟨o,rfl,rfl,a1,h⟩;rcases z with _|z
 ·exact Vb h
 rw[F.a]at h;refine Vl 1 1 [(9,.bool (decide (o<(p.length:Int))))] 2 h ?_ ?_<;>intro hb h
 ·refine J0 5 ?_;refine J7 2 [(5,A.i o)] 2 ?_;refine V9 3 [(11,.func (.func 31) #[] #[.pointer (some ⟨g2_,0,none⟩),.pointer (some ⟨g4_,0,none⟩)]),(12,.slice A0_ p.length c1_),(13,A.i o)] ?_;have⟨B,a2,h⟩:=V6 h;refine Vz 0 87 a2 fun E=>?_;intro I J b9 a5;refine J5 [] [87] [.e 0 0] [(15,(A.rat B I J))] ?_;have⟨a3,a4,h⟩:=V6 h;refine V3 89 [] (first:=[]) (cap:=[.pointer (some ⟨g2_,0,none⟩),.pointer (some ⟨g4_,0,none⟩)]) cf31 (o_bL I J g2_ g4_ B t u E.1 E.2.1 N U a3 a4) (.s 88 (.s 1 (.s 2 .nil))) ?_;rintro _ _ ⟨rfl,rfl⟩;refine J9 (V4 1 ?_);refine Uk h ?_ ?_<;>intro hb h
  ·refine Va 1 2 [(4,A.i o)] 1 ?_;exact A.ke h (Vh ⟨rfl,rfl,a1⟩)
  refine J0 3 ?_;have⟨L,h⟩:=Vs h;refine Uf 2 [Z.R64 (o+1)] [(8,A.i (o+1))] L (Ju ?_);exact Vn ⟨_,Qn _,⟨(o+1),rfl,rfl,(Jw L),h⟩⟩
 refine Va 3 1 [(4,A.i (-1))] 1 ?_;exact A.ke h (Vh ⟨rfl,rfl,(Vp (-1))⟩)
def F.b7 (h:List D45):Option ((List D45)):=some h
def F.cs (h:(List D48))(p:ByteArray)(s:Int):Option ((List D45)):=(F.l h p s).bind fun o=>(if(0:Int)<=o then((A.ix h o).bind fun t=>((F.al t.2.2).bind fun u=>(F.b7 u)))else(F.b7 []))
theorem o_b9(o:(List D48))(p:ByteArray)(t:Int)(a6:p.size<=maxLen)(a7:A.h6 t)(r:((List D45)))(h:F.cs o p t=some r):
    A.Ct Tryz.prog 10 [.slice A0_ o.length c1_,.string p,A.i t] [(0,.ln T48 A0_ c1_ o)] [] (fun v H'=>∃(g0':Nat) (A1':Option Addr) (c2':Nat),v=.func (.func 33) #[] #[.pointer (some ⟨g0',0,none⟩)]/\H'=[(0,.blk g0' 23 [.slice A1' r.length c2']),(1,.sh (.slice T45) [.slice A1' r.length c2'] r)]):=by
 refine Jv Tryz.func10 rfl Tryz.ntmps10 rfl fun w0 F0=>?_;rw[F.cs]at h;refine J0 1 ?_;refine J1 1 (cs:=[.string p]) fun J=>?_;refine J1 2 (cs:=[A.i t]) fun L=>?_;refine J7 1 [] 2 ?_;refine Jy 3 (cs:=l6d) Tryz.zeroValue23 fun E=>?_;refine V4 1 ?_;refine Ul 86 T45 46 ?_;refine J4 [7] [] (fun nl nh=>∃(u:List D45)(z:Option Addr)(B:Nat),nl=[]/\nh=[(3,.blk E 23 [.slice z u.length B]),(169,.own T45 46 z B u)]/\F.b7 u=some r) ?_ ?_
 ·refine Ub 1 2 [(9,.slice A0_ o.length c1_),(10,.func (.func 31) #[] #[.pointer (some ⟨J,0,none⟩),.pointer (some ⟨L,0,none⟩)])] ?_;refine Vx 87 [] h (o_h A0_ c1_ J L o p t a6 a7) (.s 0 (.b 1 (.b 2 .nil))) ?_;rintro I - h _ _ ⟨rfl,rfl,hr9⟩;refine J9 (J7 1 [(8,A.i I)] 2 ?_);refine Vc 2 [(13,.bool (decide ((0:Int)<=I)))] 1 ?_;refine Uv h ?_ ?_<;>intro hb h
  ·refine Ub 0 2 [(14,.slice A0_ o.length c1_),(15,A.i I)] ?_;have⟨N,a8,h⟩:=V6 h;refine Vz 0 127 a8 fun a9=>?_;intro U W aa ab;refine J5 [] [127] [.n,.e 0 2] [(18,.slice U N.2.2.length W)] (Vx 129 [] h (o_x U W N.2.2) (.l 128 .nil) ?_);rintro a3 - h _ _ ⟨a4,a5,rfl,rfl⟩;refine J9 (Vg 3 [] [.slice a4 a3.length a5] ?_);refine Ju ?_;refine A.mv 129 169 [] ?_;exact Vn ⟨a3,a4,a5,rfl,rfl,h⟩
  refine V1 1 ?_;refine A.mv 86 169 [] ?_;exact Vn ⟨[],none,0,rfl,rfl,h⟩
 rintro _ _ ⟨u,z,B,rfl,rfl,h⟩;rw[F.b7]at h;refine Va 1 2 [(6,.func (.func 33) #[] #[.pointer (some ⟨E,0,none⟩)])] 1 ?_;obtain rfl:=Vf h;refine U3 169 [] ?_;exact V7 [(0,3),(1,169)] ⟨E,z,B,rfl,rfl⟩
def F.ap (o:(List D45)):Nat->Int->Option (List (D27×Int))
 |0,_=>none
 |f+1,h=>if h<(o.length:Int)then((A.ix o h).bind fun p=>(A.cns p (A.gd (Z.R64 (h+1)) ((F.ap o f) (h+1)))))else(some [])
def F.b8 (h:(List D45)):Option (List (D27×Int)):=F.ap h A.FU 0
theorem o_a9(p:(List D45))(xs:List (D27×Int))(h:F.b8 p=some xs):
    A.Sq Tryz.prog 33 [.pointer (some ⟨g0_,0,none⟩)] [(0,.el none g0_ 0 [.slice A1_ p.length c2_]),(1,.sh (.slice T45) [.slice A1_ p.length c2_] p)] (Z.Ty.pair T27 A.ti) (fun cs=>[Z.vof true (cs.take 2),Z.vof false (cs.drop 2)]) xs:=by
 refine A.Sq.enter Tryz.func33 rfl Tryz.ntmps33 rfl fun lid I J Jx Φ hY hJ0=>?_;obtain⟨rs0,hrs⟩: ∃rs0,rs0=xs:=⟨_,rfl⟩
 have hR0:A.Rem xs 0 rs0:=hrs▸A.Rem.zero xs
 rw[F.b8,<-hrs]at h
 clear hrs
 refine Uh 1 [] [0] [.e 0 0,.n,.n] [(5,.slice A1_ p.length c2_),(6,A.i (p.length:Int)),(7,A.i 0)] 2 ?_;refine A.AX.loopC (A.CY 19 Φ) (0,I) [0,5,6] [1] [1] (fun f i L N=>∃(o:Int)(rs:List (D27×Int)),L=[(7,A.i o)]/\N=[]/\A.h6 o/\J i.1 i.2/\A.Rem xs i.1 rs/\F.ap p f o=some rs) A.FU [(7,A.i 0)] [] ⟨0,_,rfl,rfl,J3,hJ0,hR0,h⟩ ?_;rintro z ⟨U,w5⟩ _ _ ⟨o,rs8,rfl,rfl,a0,hJ6,hR7,h⟩;rcases z with _|z
 ·exact Vb h
 rw[F.ap]at h;refine Vl 1 1 [(8,.bool (decide (o<(p.length:Int))))] 2 h ?_ ?_<;>intro hb h
 ·refine J0 5 ?_;have⟨s,W,h⟩:=V6 h;refine Vr 1 6 W fun u=>?_;intro a1 a2;refine J5 [] [6] [.e 0 0] [(10,(A.ras s))] (Jy 7 (cs:=[A.i 0,.string (ByteArray.mk #[]),A.i 0]) Tryz.zeroValue46 fun a3=>?_);refine Vg 7 [] (A.ram s) ?_;refine Vk 2 ?_;refine J5 [7] [] [.n,.n,.b 0 0,.n,.b 0 2] [(11,.func (.yield lid) #[] #[]),(13,(A.rar s.1)),(15,A.i s.2)] ?_;obtain⟨rs15,hqrs15,h⟩:=A.cns_some h;refine A.AL.yield (t:=.pair T27 A.ti) (x:=s) hY hJ6 (hqrs15▸hR7) (A.ram s) ⟨⟨⟨rfl,u.1.1⟩,⟨rfl,u.1.2⟩⟩,⟨rfl,u.2⟩⟩ (fun B hJ17 hR18=>?_) (fun B hX19=>?_)
  ·refine Vc 1 [(17,.bool false)] 1 ?_;refine V5 rfl ?_;refine J0 3 ?_;have⟨E,h⟩:=Vs h;refine Uf 2 [Z.R64 (o+1)] [(7,A.i (o+1))] E (Ju ?_);exact A.AE.jC (U+1,B) [1] [(7,A.i (o+1))] [] ⟨_,Qn _,⟨(o+1),_,rfl,rfl,(Jw E),hJ17,hR18,h⟩⟩
  refine Vc 1 [(17,.bool true)] 1 ?_;refine Ua rfl ?_;exact A.AX.rtX hY hX19
 refine V1 1 ?_;obtain rfl:=Vf h;exact A.AE.rtY hY hJ6 hR7
def F.t (o:Int):List (D27×Int)->(List D45)->Option (List D45)
 | [],h=>some h
 |p::f,h=>if o<=(h.length:Int)then(some h)else(A.gd ((List.length (α:=D45) h+List.length (α:=D45) [p])*32<=140737488355328) ((F.t o f) (h++[p])))
def F.aK (h:(List D45))(o:Int):Option (List D45):=(F.b8 h).bind fun p=>F.t o p []
theorem o_ay(E:(List D45))(I:Int)(a4:A.h6 I)(r:(List D45))(p:F.aK E I=some r):
    A.Ct Tryz.prog 9 [.func (.func 33) #[] #[.pointer (some ⟨g0_,0,none⟩)],A.i I] [(0,.el none g0_ 0 [.slice A1_ E.length c2_]),(1,.sh (.slice T45) [.slice A1_ E.length c2_] E)] [] (fun v H'=>∃(A0':Option Addr) (c1':Nat),v=.slice A0' r.length c1'/\H'=[(0,.own T45 46 A0' c1' r)]):=by
 refine A.Ct.enterM Tryz.func9 rfl Tryz.ntmps9 rfl fun w0 F0=>?_;rw[F.aK]at p;refine J0 1 ?_;refine J1 2 (cs:=[A.i I]) fun g1=>?_;refine J7 1 [] 2 ?_;refine Jy 3 (cs:=l6d) Tryz.zeroValue23 fun J=>?_;refine Vk 3 ?_;refine V9 1 [(8,.func (.func 33) #[] #[.pointer (some ⟨g0_,0,none⟩)])] (Uy rfl (fun a w hf hh=>Z.r_eqfn rfl (hf.eval rfl)) ?_);refine V4 1 ?_;refine V5 rfl ?_;refine Va 4 1 [(10,.func (.func 33) #[] #[.pointer (some ⟨g0_,0,none⟩)])] 2 ?_;refine Ul 11 T45 46 ?_;have⟨U,a0,p⟩:=V6 p;refine A.AX.rgf 12 13 14 [0,1,2] [3,11,0,1,2] [13,12,3,11,0,1,2] (fun k nh=>∃(h:List D45)(u:Option Addr)(z:Nat),nh=[(3,.blk J 23 [.slice u h.length z]),(11,.own T45 46 u z h)]/\F.t I (List.drop k U) h=some r) [(3,.blk J 23 [.slice none 0 0]),(11,.own T45 46 none 0 [])] cf33 (o_a9 A1_ g0_ c2_ E U a0) (fun _=>rfl) ⟨[],none,0,rfl,p⟩ ?_ ?_ ?_
 ·rintro a2 _ D17 L18 ⟨h,u,z,rfl,p⟩;exact⟨⟨_,(.s 0 (.s 1 .nil))⟩,rfl,fun o=>rfl⟩
 ·rintro a2 _ B D17 L18 a5 a6 ⟨h,u,z,rfl,p⟩ hx25 hxo26 W;rw[A.drop_at hx25,F.t]at p
  refine J0 1 ?_;refine Jy 19 (cs:=l6c) Tryz.zeroValue28 fun a3=>?_;refine Vg 19 [] (A.ral B.1) ?_;refine Vk 1 ?_;refine V9 1 [(7,A.i B.2)] (Ju ?_);refine A.AE.flip 12 13 fun a7=>?_;refine Uh 3 [3,2] [] [.b 0 0,.n,.b 1 0,.n] [(16,.bool (decide (I<=(h.length:Int))))] 1 ?_;refine Uv p ?_ ?_<;>intro hb p
  ·refine A.AX.bexit W [13,1,2,3,11,12,19] 100000 [(13,100013),(1,100001),(2,100002),(3,100003),(11,100011),(12,100012),(19,100019),(0,0)] [(1,.sh (.slice T45) [.slice A1_ E.length c2_] E),(2,.blk g1 3 [A.i I]),(3,.blk J 23 [.slice u h.length z]),(11,.own T45 46 u z h),(12,.ob D17 A.dfT),(19,.blk a3 28 (A.ral B.1)),(0,.el none g0_ 0 [.slice A1_ E.length c2_])] ?_ rfl rfl
   refine A.AE.x rfl ?_;refine U1 2 ?_;refine Vw [3] [] [.b 0 0,.n] [(4,.slice u h.length z)] 1 ?_;obtain rfl:=Vf p;exact A.AX.rtM (Ds:=[D17]) [12] [(0,11)] (.slice u h.length z) (⟨rfl,trivial⟩) (fun a w hf hh=>Uo rfl (Ux hf rfl)) (⟨u,z,rfl,rfl⟩)
  refine Vy 2 [3,19] [] [.b 0 0,.b 1 0,.n,.n] [(17,.slice u h.length z),(20,(A.ras B))] ?_;refine Ve 20 (ty:=T45) (cs:=(A.ram B)) [B] ⟨⟨⟨⟨rfl,hxo26.1.1⟩,⟨rfl,hxo26.1.2⟩⟩,⟨rfl,hxo26.2⟩⟩,rfl⟩ (fun a8=>?_) Tryz.zeroValue46 Tryz.sizeOf46
  have⟨hl34,p⟩:=Vs p;refine Vt (k:=11) [] (Uc (k:=20) rfl) Qil hl34 fun L N=>?_;refine Vg 3 [] [.slice L ((h++[B]).length) N] ?_;refine U4 1 ?_;exact A.AE.bn W [13,12,3,11,1,2] 100000 [(13,100013),(12,100012),(3,100003),(11,100011),(0,0),(1,100001),(2,100002)] [(3,.blk J 23 [.slice L ((h++[B]).length) N]),(11,.own T45 46 L N (h++[B]))] ⟨(h++[B]),L,N,rfl,p⟩ rfl rfl
 rintro _ D17 L18 ⟨h,u,z,rfl,p⟩;rw[List.drop_length,F.t]at p
 refine U1 3 ?_;refine Vw [3] [] [.b 0 0,.n] [(4,.slice u h.length z)] 1 ?_;obtain rfl:=Vf p;exact A.AX.rtM (Ds:=[D17]) [12] [(0,11)] (.slice u h.length z) (⟨rfl,trivial⟩) (fun a w hf hh=>Uo rfl (Ux hf rfl)) (⟨u,z,rfl,rfl⟩)
def F.bb (h:Bool):Option Bool:=some h
def F.p (s:(List D27))(z:(List D45)×Int)(t:Int)(u:(List D48)×(List D72)×Int):Nat->(List D45)->Int->Option Bool
 |0,_,_=>none
 |f+1,o,h=>if h<(z.1.length:Int)then((A.ix o h).bind fun B=>(A.gd (Z.R64 (B.2*t)) ((A.ix o h).bind fun E=>(A.gd (Z.R64 (h+1)) ((F.p s z t u f) (o.set h.toNat (E.1,B.2*t)) (h+1))))))else(if((List.take ((min (s.length:Int) 24).toNat) s).length:Int)=0 then(F.bb true)else((A.ix u.1 0).bind fun I=>((F.k I.2.2 o).bind fun J=>(if J=true then((F.cs u.1 (ByteArray.mk #[99]) 7).bind fun L=>((F.aK L 999).bind fun N=>((F.k N o).bind fun U=>(F.bb U))))else(F.bb false)))))
def F.d (h:(List D27))(s:(List D45)×Int)(z:List D33)(B:Int)(E:Int):Nat->(List D39)->Int->Option Bool
 |0,_,_=>none
 |f+1,t,o=>if o<((List.take ((min (h.length:Int) 24).toNat) h).length:Int)then((A.ix (List.take ((min (h.length:Int) 24).toNat) h) o).bind fun I=>(A.gd ((List.length (α:=D39) t+List.length (α:=D39) [(1,7,I)])*40<=140737488355328) (A.gd (Z.R64 (o+1)) ((F.d h s z B E f) (t++[(1,7,I)]) (o+1)))))else((F.bp (z++[(99,15,[B],(0,0,ByteArray.mk #[]),ByteArray.mk #[99],0,0)]) t []).bind fun u=>(if(bif decide (u.2.2≠0)then true else decide ((u.1.length:Int)≠min 1 ((List.take ((min (h.length:Int) 24).toNat) h).length:Int)))=true then(some false)else(F.p h s E u A.FU s.1 0)))
def F.af (o:UInt8)(u:UInt8)(z:(List D27))(B:(List D45)×Int):Nat->(List D33)->Int->Int->Int->Option Bool
 |0,_,_,_,_=>none
 |f+1,p,s,t,h=>if h<Int.tmod (u.toNat:Int) 3 then(A.gd (Z.R64 (h+1)/\Z.R64 (10*(h+1))) (A.gd (Z.R64 ((10*(h+1))+1)/\Z.R64 ((10*(h+1))+2)) (A.gd (Z.R64 ((10*(h+1))+2)/\Z.R64 ((10*(h+1))+1)) (A.gd (Z.R64 ((10*(h+1))+3)/\Z.R64 ((10*(h+1))+2)) (A.gd ((List.length (α:=D33) p+List.length (α:=D33) [(10*(h+1),12,[s],(0,0,ByteArray.mk #[]),ByteArray.mk #[],0,0),((10*(h+1))+1,14,[(10*(h+1))+2],(0,0,ByteArray.mk #[]),ByteArray.mk #[],1+(Int.tmod (o.toNat:Int) 3),1),((10*(h+1))+2,5,[10*(h+1),(10*(h+1))+1],(0,0,ByteArray.mk #[]),ByteArray.mk #[],0,0),((10*(h+1))+3,13,[(10*(h+1))+2],(0,0,ByteArray.mk #[]),ByteArray.mk #[],0,0)])*104<=140737488355328) (A.gd (Z.R64 ((10*(h+1))+3)/\Z.R64 ((1+(Int.tmod (o.toNat:Int) 3))+1)/\Z.R64 (t*((1+(Int.tmod (o.toNat:Int) 3))+1))) (A.gd (Z.R64 (h+1)) ((F.af o u z B f) (p++[(10*(h+1),12,[s],(0,0,ByteArray.mk #[]),ByteArray.mk #[],0,0),((10*(h+1))+1,14,[(10*(h+1))+2],(0,0,ByteArray.mk #[]),ByteArray.mk #[],1+(Int.tmod (o.toNat:Int) 3),1),((10*(h+1))+2,5,[10*(h+1),(10*(h+1))+1],(0,0,ByteArray.mk #[]),ByteArray.mk #[],0,0),((10*(h+1))+3,13,[(10*(h+1))+2],(0,0,ByteArray.mk #[]),ByteArray.mk #[],0,0)]) ((10*(h+1))+3) (t*((1+(Int.tmod (o.toNat:Int) 3))+1)) (h+1)))))))))else(A.gd ((List.length (α:=D33) p+List.length (α:=D33) [(99,15,[s],(0,0,ByteArray.mk #[]),ByteArray.mk #[99],0,0)])*104<=140737488355328) (F.d z B p s t A.FU [] 0))
def F.aw (o:UInt8)(s:UInt8)(h:(List D27))(t:(List D45)×Int):Nat->Int->Option Bool
 |0,_=>none
 |f+1,p=>if p<((List.take ((min (h.length:Int) 24).toNat) h).length:Int)then((A.ix (List.take ((min (h.length:Int) 24).toNat) h) p).bind fun u=>(if(64:Int)<(u.2.size:Int)then((F.ct).bind fun z=>(some z))else(A.gd (Z.R64 (p+1)) ((F.aw o s h t f) (p+1)))))else((F.ct).bind fun B=>(if(bif !B then true else decide (t.2≠0))=true then((F.ct).bind fun E=>(some E))else(A.gd (Z.R64 ((o.toNat:Int))/\(3:Int)≠0/\Z.R64 (1+(Int.tmod (o.toNat:Int) 3))) (A.gd ((3:Int)≠0/\Z.R64 (Int.tmod (s.toNat:Int) 3)) (F.af o s h t A.FU [(1,1,[],(0,0,ByteArray.mk #[]),ByteArray.mk #[97],0,0)] 1 1 0)))))
def F.bJ (o:UInt8)(p:UInt8)(h:(List D27)):Option Bool:=A.gd (0<=min (h.length:Int) 24/\(min (h.length:Int) 24).toNat<=h.length) ((F.cI (List.take ((min (h.length:Int) 24).toNat) h)).bind fun s=>(F.aw o p h s A.FU 0))
theorem o_ba(I:UInt8)(a1:UInt8)(z:(List D27))(m2_:Int)(r:Bool)(h:F.bJ I a1 z=some r):
    A.Ct Tryz.prog 3 [.int .u8 (I.toNat:Int),.int .u8 (a1.toNat:Int),.slice A0_ z.length c1_] [(0,.sh (.slice T27) [.slice A0_ z.length c1_] z),(1,.el none 0 0 A.tabF),(2,.el none 1 0 A.tabA),(3,.el none 2 0 [A.i m2_])] [] (fun v H'=>v=.bool r/\H'=[]):=by
 refine Jv Tryz.func3 rfl Tryz.ntmps3 rfl fun w0 F0=>?_;rw[F.bJ]at h;refine J0 1 ?_;refine J7 1 [] 2 ?_;refine V9 4 [(23,.slice A0_ z.length c1_),(26,A.i (min (z.length:Int) 24))] ?_;have⟨au,h⟩:=Vs h;refine A.AL.cuth 0 4 (v:=(min (z.length:Int) 24).toNat) (Xk au.1).symm au.2 fun c3=>?_;refine J7 1 [(2,.slice A0_ ((List.take ((min (z.length:Int) 24).toNat) z).length) c3)] 2 ?_;refine V9 1 [(29,.slice A0_ ((List.take ((min (z.length:Int) 24).toNat) z).length) c3)] (Vx 5 [] h (o_cm A0_ c3 (List.take ((min (z.length:Int) 24).toNat) z)) (.l 4 .nil) ?_);rintro E - h _ _ ⟨A6,c7,rfl,rfl,hr8⟩;refine J9 (J7 5 [(7,.slice A6 E.1.length c7),(8,A.i E.2)] 3 ?_);refine Vc 3 [(33,.slice A0_ ((List.take ((min (z.length:Int) 24).toNat) z).length) c3),(34,A.i ((List.take ((min (z.length:Int) 24).toNat) z).length:Int)),(35,A.i 0)] 2 ?_;refine Vo [0,1,2,7,8,33,34] [1,2,3,4,5] (fun f W nh=>∃(y9:Int),W=[(35,A.i y9)]/\nh=[]/\A.h6 y9/\F.aw I a1 z E f y9=some r) ⟨0,rfl,rfl,J3,h⟩ ?_;rintro av _ _ ⟨y9,rfl,rfl,cm,h⟩;rcases av with _|av
 ·exact Vb h
 rw[F.aw]at h;refine Vl 1 1 [(36,.bool (decide (y9<((List.take ((min (z.length:Int) 24).toNat) z).length:Int))))] 2 h ?_ ?_<;>intro hb h
 ·refine J0 5 ?_;have⟨ae,bx,h⟩:=V6 h;refine Vr 4 13187 bx fun cn=>?_;intro co cp;refine J5 [] [13187] [.e 0 0] [(38,(A.rar ae))] (Jy 13188 (cs:=l6c) Tryz.zeroValue28 fun cq=>?_);refine Vg 13188 [] (A.ral ae) ?_;refine Vk 2 ?_;refine Vw [13188] [] [.n,.b 0 1,.n,.n] [(42,.bool (decide ((64:Int)<(ae.2.size:Int))))] 1 ?_;refine Uv h ?_ ?_<;>intro hb h
  ·refine J0 1 ?_;refine Vx 13189 [] h o_ar .nil ?_;rintro bz - h _ _ ⟨rfl,rfl⟩;refine J9 (Vc 1 [(6,.bool bz)] 1 ?_);exact A.ke h (Vh ⟨rfl,rfl⟩)
  refine J0 3 ?_;have⟨ax,h⟩:=Vs h;refine Uf 2 [Z.R64 (y9+1)] [(35,A.i (y9+1))] ax (Ju ?_);exact Vn ⟨_,Qn _,⟨(y9+1),rfl,rfl,(Jw ax),h⟩⟩
 refine J0 4 ?_;refine Vx 13229 [] h o_ar .nil ?_;rintro c0 - h _ _ ⟨rfl,rfl⟩;refine J9 (Vw [] [] [.n,.n,.sy .n,.sy .n,.pk] [(50,.bool (bif !c0 then true else decide (E.2≠0)))] 1 ?_);refine Uk h ?_ ?_<;>intro hb h
 ·refine J0 1 ?_;refine Vx 13269 [] h o_ar .nil ?_;rintro c1 - h _ _ ⟨rfl,rfl⟩;refine J9 (Vc 1 [(6,.bool c1)] 1 ?_);exact A.ke h (Vh ⟨rfl,rfl⟩)
 refine J0 3 ?_;have⟨ay,h⟩:=Vs h;refine Uf 5 [Z.R64 ((I.toNat:Int)),(3:Int)≠0,Z.R64 (1+(Int.tmod (I.toNat:Int) 3))] [(11,A.i (1+(Int.tmod (I.toNat:Int) 3)))] ay (Vk 2 ?_);refine V9 1 [(56,.agg #[A.i 1,A.i 1,.slice none 0 0,A.i 0,A.i 0,.string (ByteArray.mk #[]),.string (ByteArray.mk #[97]),A.i 0,A.i 0])] (Ve 13309 (ty:=T33) (cs:=[A.i 1,A.i 1,.slice none 0 0,A.i 0,A.i 0,.string (ByteArray.mk #[]),.string (ByteArray.mk #[97]),A.i 0,A.i 0]) [(1,1,[],(0,0,ByteArray.mk #[]),ByteArray.mk #[97],0,0)] ⟨⟨⟨rfl,(Vp 1)⟩,⟨rfl,(Vp 1)⟩,.inr ⟨rfl,rfl⟩,⟨⟨rfl,J3⟩,⟨rfl,J3⟩,⟨rfl,(Uu (ByteArray.mk #[]) rfl)⟩⟩,⟨rfl,(Uu (ByteArray.mk #[97]) rfl)⟩,⟨rfl,J3⟩,⟨rfl,J3⟩⟩,rfl⟩ (fun ag=>?_) Tryz.zeroValue34 Tryz.sizeOf34)
 refine V9 1 [(58,.agg #[.slice (some ⟨ag,0,none⟩) 1 1])] (Jy 13310 (cs:=l6d) Tryz.zeroValue37 fun ah=>?_);refine Vg 13310 [] [.slice (some ⟨ag,0,none⟩) 1 1] ?_;refine Vk 2 ?_;refine J7 2 [(13,A.i 1),(14,A.i 1)] 3 ?_;have⟨c2,h⟩:=Vs h;refine Uf 4 [(3:Int)≠0,Z.R64 (Int.tmod (a1.toNat:Int) 3)] [(61,A.i (Int.tmod (a1.toNat:Int) 3)),(62,A.i 0)] c2 (V4 2 ?_);refine Vo [2,7,11,12,61] [1,2,3,4,5] (fun f W nh=>∃(L:List D33)(B:Int)(J:Int)(u:Int)(a9:Option Addr)(aa:Nat),W=[(13,A.i B),(14,A.i J),(62,A.i u)]/\nh=[(13309,.own T33 34 a9 aa L),(13310,.blk ah 37 [.slice a9 L.length aa])]/\A.h6 B/\A.h6 J/\A.h6 u/\F.af I a1 z E f L B J u=some r) ⟨[(1,1,[],(0,0,ByteArray.mk #[]),ByteArray.mk #[97],0,0)],1,1,0,(some ⟨ag,0,none⟩),1,rfl,rfl,(Vp 1),(Vp 1),J3,h⟩ ?_;rintro az _ _ ⟨L,B,J,u,a9,aa,rfl,rfl,b0,cr,ct,h⟩;rcases az with _|az
 ·exact Vb h
 rw[F.af]at h;refine Vl 1 1 [(63,.bool (decide (u<Int.tmod (a1.toNat:Int) 3)))] 2 h ?_ ?_<;>intro hb h
 ·refine J0 5 ?_;refine J7 2 [(15,A.i u)] 2 ?_;have⟨aj,h⟩:=Vs h;refine Uf 4 [Z.R64 (u+1),Z.R64 (10*(u+1))] [(16,A.i (10*(u+1)))] aj (Vk 2 ?_);refine J5 [13310] [] [.n,.b 0 0,.n,.n] [(69,.slice a9 L.length aa),(70,A.i (10*(u+1))),(71,A.i B)] (Ve 17609 (ty:=A.ti) (cs:=[A.i B]) [B] ⟨⟨rfl,b0⟩,rfl⟩ (fun b1=>?_) Tryz.zeroValue3 Tryz.sizeOf3)
  have⟨ak,h⟩:=Vs h;refine Uf 5 [Z.R64 ((10*(u+1))+1),Z.R64 ((10*(u+1))+2)] [(73,.agg #[A.i (10*(u+1)),A.i 12,.slice (some ⟨b1,0,none⟩) 1 1,A.i 0,A.i 0,.string (ByteArray.mk #[]),.string (ByteArray.mk #[]),A.i 0,A.i 0]),(75,A.i ((10*(u+1))+1)),(77,A.i ((10*(u+1))+2))] ak ?_;refine Ve 17610 (ty:=A.ti) (cs:=[A.i ((10*(u+1))+2)]) [(10*(u+1))+2] ⟨⟨rfl,(Jw ak.2)⟩,rfl⟩ (fun b2=>?_) Tryz.zeroValue3 Tryz.sizeOf3
  have⟨al,h⟩:=Vs h;refine Uf 7 [Z.R64 ((10*(u+1))+2),Z.R64 ((10*(u+1))+1)] [(80,.agg #[A.i ((10*(u+1))+1),A.i 14,.slice (some ⟨b2,0,none⟩) 1 1,A.i 0,A.i 0,.string (ByteArray.mk #[]),.string (ByteArray.mk #[]),A.i (1+(Int.tmod (I.toNat:Int) 3)),A.i 1]),(82,A.i ((10*(u+1))+2)),(83,A.i (10*(u+1))),(85,A.i ((10*(u+1))+1))] al ?_;refine Ve 17611 (ty:=A.ti) (cs:=[A.i (10*(u+1)),A.i ((10*(u+1))+1)]) [10*(u+1),(10*(u+1))+1] ⟨⟨rfl,(Jw aj.2)⟩,⟨⟨rfl,(Jw al.2)⟩,rfl⟩⟩ (fun b3=>?_) Tryz.zeroValue3 Tryz.sizeOf3
  have⟨am,h⟩:=Vs h;refine Uf 5 [Z.R64 ((10*(u+1))+3),Z.R64 ((10*(u+1))+2)] [(87,.agg #[A.i ((10*(u+1))+2),A.i 5,.slice (some ⟨b3,0,none⟩) 2 2,A.i 0,A.i 0,.string (ByteArray.mk #[]),.string (ByteArray.mk #[]),A.i 0,A.i 0]),(89,A.i ((10*(u+1))+3)),(91,A.i ((10*(u+1))+2))] am ?_;refine Ve 17612 (ty:=A.ti) (cs:=[A.i ((10*(u+1))+2)]) [(10*(u+1))+2] ⟨⟨rfl,(Jw am.2)⟩,rfl⟩ (fun b4=>?_) Tryz.zeroValue3 Tryz.sizeOf3
  refine V9 1 [(93,.agg #[A.i ((10*(u+1))+3),A.i 13,.slice (some ⟨b4,0,none⟩) 1 1,A.i 0,A.i 0,.string (ByteArray.mk #[]),.string (ByteArray.mk #[]),A.i 0,A.i 0])] (U3 17609 [] ?_);refine U3 17610 [] ?_;refine U3 17611 [] ?_;refine U3 17612 [] ?_;refine Ve 17613 (ty:=T33) (cs:=[A.i (10*(u+1)),A.i 12,.slice (some ⟨b1,0,none⟩) 1 1,A.i 0,A.i 0,.string (ByteArray.mk #[]),.string (ByteArray.mk #[]),A.i 0,A.i 0,A.i ((10*(u+1))+1),A.i 14,.slice (some ⟨b2,0,none⟩) 1 1,A.i 0,A.i 0,.string (ByteArray.mk #[]),.string (ByteArray.mk #[]),A.i (1+(Int.tmod (I.toNat:Int) 3)),A.i 1,A.i ((10*(u+1))+2),A.i 5,.slice (some ⟨b3,0,none⟩) 2 2,A.i 0,A.i 0,.string (ByteArray.mk #[]),.string (ByteArray.mk #[]),A.i 0,A.i 0,A.i ((10*(u+1))+3),A.i 13,.slice (some ⟨b4,0,none⟩) 1 1,A.i 0,A.i 0,.string (ByteArray.mk #[]),.string (ByteArray.mk #[]),A.i 0,A.i 0]) [(10*(u+1),12,[B],(0,0,ByteArray.mk #[]),ByteArray.mk #[],0,0),((10*(u+1))+1,14,[(10*(u+1))+2],(0,0,ByteArray.mk #[]),ByteArray.mk #[],1+(Int.tmod (I.toNat:Int) 3),1),((10*(u+1))+2,5,[10*(u+1),(10*(u+1))+1],(0,0,ByteArray.mk #[]),ByteArray.mk #[],0,0),((10*(u+1))+3,13,[(10*(u+1))+2],(0,0,ByteArray.mk #[]),ByteArray.mk #[],0,0)] ⟨⟨⟨rfl,(Jw aj.2)⟩,⟨rfl,(Vp 12)⟩,.inl ⟨17609,rfl⟩,⟨⟨rfl,J3⟩,⟨rfl,J3⟩,⟨rfl,(Uu (ByteArray.mk #[]) rfl)⟩⟩,⟨rfl,(Uu (ByteArray.mk #[]) rfl)⟩,⟨rfl,J3⟩,⟨rfl,J3⟩⟩,⟨⟨⟨rfl,(Jw ak.1)⟩,⟨rfl,(Vp 14)⟩,.inl ⟨17610,rfl⟩,⟨⟨rfl,J3⟩,⟨rfl,J3⟩,⟨rfl,(Uu (ByteArray.mk #[]) rfl)⟩⟩,⟨rfl,(Uu (ByteArray.mk #[]) rfl)⟩,⟨rfl,(Jw ay.2.2)⟩,⟨rfl,(Vp 1)⟩⟩,⟨⟨⟨rfl,(Jw al.1)⟩,⟨rfl,(Vp 5)⟩,.inl ⟨17611,rfl⟩,⟨⟨rfl,J3⟩,⟨rfl,J3⟩,⟨rfl,(Uu (ByteArray.mk #[]) rfl)⟩⟩,⟨rfl,(Uu (ByteArray.mk #[]) rfl)⟩,⟨rfl,J3⟩,⟨rfl,J3⟩⟩,⟨⟨⟨rfl,(Jw am.1)⟩,⟨rfl,(Vp 13)⟩,.inl ⟨17612,rfl⟩,⟨⟨rfl,J3⟩,⟨rfl,J3⟩,⟨rfl,(Uu (ByteArray.mk #[]) rfl)⟩⟩,⟨rfl,(Uu (ByteArray.mk #[]) rfl)⟩,⟨rfl,J3⟩,⟨rfl,J3⟩⟩,rfl⟩⟩⟩⟩ (fun cu=>?_) Tryz.zeroValue34 Tryz.sizeOf34
  have⟨hl50,h⟩:=Vs h;refine Vt (k:=13309) [] (Uc (k:=17613) rfl) inf34 hl50 fun b5 b6=>?_;refine V9 1 [(96,.pointer (some ⟨ah,0,none⟩))] (Vg 13310 [] [.slice b5 ((L++[(10*(u+1),12,[B],(0,0,ByteArray.mk #[]),ByteArray.mk #[],0,0),((10*(u+1))+1,14,[(10*(u+1))+2],(0,0,ByteArray.mk #[]),ByteArray.mk #[],1+(Int.tmod (I.toNat:Int) 3),1),((10*(u+1))+2,5,[10*(u+1),(10*(u+1))+1],(0,0,ByteArray.mk #[]),ByteArray.mk #[],0,0),((10*(u+1))+3,13,[(10*(u+1))+2],(0,0,ByteArray.mk #[]),ByteArray.mk #[],0,0)]).length) b6] ?_);refine Vk 1 ?_;have⟨an,h⟩:=Vs h;refine Uf 8 [Z.R64 ((10*(u+1))+3),Z.R64 ((1+(Int.tmod (I.toNat:Int) 3))+1),Z.R64 (J*((1+(Int.tmod (I.toNat:Int) 3))+1))] [(13,A.i ((10*(u+1))+3)),(14,A.i (J*((1+(Int.tmod (I.toNat:Int) 3))+1)))] an (Vk 2 ?_);have⟨b7,h⟩:=Vs h;refine Uf 2 [Z.R64 (u+1)] [(62,A.i (u+1))] b7 (Ju ?_);exact Vn ⟨_,Qn _,⟨(L++[(10*(u+1),12,[B],(0,0,ByteArray.mk #[]),ByteArray.mk #[],0,0),((10*(u+1))+1,14,[(10*(u+1))+2],(0,0,ByteArray.mk #[]),ByteArray.mk #[],1+(Int.tmod (I.toNat:Int) 3),1),((10*(u+1))+2,5,[10*(u+1),(10*(u+1))+1],(0,0,ByteArray.mk #[]),ByteArray.mk #[],0,0),((10*(u+1))+3,13,[(10*(u+1))+2],(0,0,ByteArray.mk #[]),ByteArray.mk #[],0,0)]),((10*(u+1))+3),(J*((1+(Int.tmod (I.toNat:Int) 3))+1)),(u+1),b5,b6,rfl,rfl,(Jw an.1),(Jw an.2.2),(Jw b7),h⟩⟩
 refine Vy 3 [13310] [] [.n,.b 0 0,.n] [(105,.slice a9 L.length aa),(106,A.i B)] ?_;refine Ve 17614 (ty:=A.ti) (cs:=[A.i B]) [B] ⟨⟨rfl,b0⟩,rfl⟩ (fun b9=>?_) Tryz.zeroValue3 Tryz.sizeOf3
 refine V9 1 [(108,.agg #[A.i 99,A.i 15,.slice (some ⟨b9,0,none⟩) 1 1,A.i 0,A.i 0,.string (ByteArray.mk #[]),.string (ByteArray.mk #[99]),A.i 0,A.i 0])] (U3 17614 [] ?_);refine Ve 17615 (ty:=T33) (cs:=[A.i 99,A.i 15,.slice (some ⟨b9,0,none⟩) 1 1,A.i 0,A.i 0,.string (ByteArray.mk #[]),.string (ByteArray.mk #[99]),A.i 0,A.i 0]) [(99,15,[B],(0,0,ByteArray.mk #[]),ByteArray.mk #[99],0,0)] ⟨⟨⟨rfl,(Vp 99)⟩,⟨rfl,(Vp 15)⟩,.inl ⟨17614,rfl⟩,⟨⟨rfl,J3⟩,⟨rfl,J3⟩,⟨rfl,(Uu (ByteArray.mk #[]) rfl)⟩⟩,⟨rfl,(Uu (ByteArray.mk #[99]) rfl)⟩,⟨rfl,J3⟩,⟨rfl,J3⟩⟩,rfl⟩ (fun cw=>?_) Tryz.zeroValue34 Tryz.sizeOf34
 have⟨hl57,h⟩:=Vs h;refine Vt (k:=13309) [] (Uc (k:=17615) rfl) inf34 hl57 fun ao ap=>?_;refine V9 1 [(111,.pointer (some ⟨ah,0,none⟩))] (Vg 13310 [] [.slice ao ((L++[(99,15,[B],(0,0,ByteArray.mk #[]),ByteArray.mk #[99],0,0)]).length) ap] ?_);refine Vk 2 ?_;refine J7 1 [(17,.slice none 0 0)] 3 ?_;refine Vc 3 [(112,.slice A0_ ((List.take ((min (z.length:Int) 24).toNat) z).length) c3),(113,A.i ((List.take ((min (z.length:Int) 24).toNat) z).length:Int)),(114,A.i 0)] 2 ?_;refine Ul 18152 T39 40 ?_;refine Vo [2,7,12,14,112,113] [1,2,3,4,5,13309,13310] (fun f W nh=>∃(a3:List D39)(a6:Int)(a7:Option Addr)(a8:Nat),W=[(17,.slice a7 a3.length a8),(114,A.i a6)]/\nh=[(18152,.own T39 40 a7 a8 a3)]/\A.h6 a6/\F.d z E L B J f a3 a6=some r) ⟨[],0,none,0,rfl,rfl,J3,h⟩ ?_;rintro bc _ _ ⟨a3,a6,a7,a8,rfl,rfl,cx,h⟩;rcases bc with _|bc
 ·exact Vb h
 rw[F.d]at h;refine Vl 1 1 [(115,.bool (decide (a6<((List.take ((min (z.length:Int) 24).toNat) z).length:Int))))] 2 h ?_ ?_<;>intro hb h
 ·refine J0 5 ?_;have⟨a4,c4,h⟩:=V6 h;refine Vr 4 19223 c4 fun be=>?_;intro cy cz;refine J5 [] [19223] [.e 0 0] [(117,(A.rar a4))] (Jy 19224 (cs:=l6c) Tryz.zeroValue28 fun d1=>?_);refine Vg 19224 [] (A.ral a4) ?_;refine Vk 1 ?_;refine J5 [19224] [] [.n,.b 0 0,.n] [(118,.slice a7 a3.length a8),(120,.agg #[A.i 1,A.i 7,A.i a4.1,.string a4.2])] (Ve 19225 (ty:=T39) (cs:=[A.i 1,A.i 7,A.i a4.1,.string a4.2]) [(1,7,a4)] ⟨⟨⟨rfl,(Vp 1)⟩,⟨rfl,(Vp 7)⟩,⟨⟨rfl,be.1⟩,⟨rfl,be.2⟩⟩⟩,rfl⟩ (fun d2=>?_) Tryz.zeroValue40 Tryz.sizeOf40)
  have⟨hl73,h⟩:=Vs h;refine Vt (k:=18152) [] (Uc (k:=19225) rfl) inf40 hl73 fun bg bh=>?_;refine J7 1 [(17,.slice bg ((a3++[(1,7,a4)]).length) bh)] 2 ?_;have⟨bi,h⟩:=Vs h;refine Uf 2 [Z.R64 (a6+1)] [(114,A.i (a6+1))] bi (Ju ?_);exact Vn ⟨_,Qn _,⟨(a3++[(1,7,a4)]),(a6+1),bg,bh,rfl,rfl,(Jw bi),h⟩⟩
 refine Vy 3 [13310] [] [.b 0 0,.n] [(125,.agg #[.slice ao ((L++[(99,15,[B],(0,0,ByteArray.mk #[]),ByteArray.mk #[99],0,0)]).length) ap]),(126,.slice a7 a3.length a8)] ?_;refine U3 13309 [] ?_;have⟨a5,c5,h⟩:=V6 h;refine V3 19226 [] (first:=[]) (cap:=[]) cf7 (o_b6 ao a7 none ap a8 0 (L++[(99,15,[B],(0,0,ByteArray.mk #[]),ByteArray.mk #[99],0,0)]) a3 [] m2_ a5 c5) (.s 13309 (.o 18152 (.nl (.s 1 (.s 2 (.s 3 .nil)))))) ?_;rintro _ _ ⟨ac,ad,d3,d4,rfl,rfl,hr81⟩;refine J9 (J7 7 [(20,.slice ac a5.1.length ad),(8,A.i a5.2.2)] 3 ?_);refine Vw [] [] [.n,.n,.n,.sy .n,.sy .n,.sy .n,.sy .n,.sy .n,.sy .n,.pk] [(140,.bool (bif decide (a5.2.2≠0)then true else decide ((a5.1.length:Int)≠min 1 ((List.take ((min (z.length:Int) 24).toNat) z).length:Int))))] 1 ?_;refine Uk h ?_ ?_<;>intro hb h
 ·refine Va 1 1 [(6,.bool false)] 1 ?_;exact A.ke h (Vh ⟨rfl,rfl⟩)
 refine Va 4 3 [(142,A.i (E.1.length:Int)),(143,A.i 0)] 2 ?_;refine Vo [2,7,14,20,142] [1,2,3,4,19226] (fun f W nh=>∃(U:List D45)(N:Int),W=[(143,A.i N)]/\nh=[(5,.own T45 46 A6 c7 U)]/\E.1.length=U.length/\A.h6 N/\F.p z E J a5 f U N=some r) ⟨E.1,0,rfl,rfl,rfl,J3,h⟩ ?_;rintro bj _ _ ⟨U,N,rfl,rfl,hn85,d5,h⟩;rcases bj with _|bj
 ·exact Vb h
 rw[F.p]at h;refine Vl 1 1 [(144,.bool (decide (N<(E.1.length:Int))))] 2 h ?_ ?_<;>intro hb h
 ·refine J0 5 ?_;refine J7 2 [(22,A.i N)] 1 ?_;refine V9 2 [(146,.slice A6 E.1.length c7),(147,A.i N)] (A.cst 146 (Ud (show E.1.length=U.length from hn85)) ?_);have⟨ab,c6,h⟩:=V6 h;refine Uq 5 19594 c6 fun d6=>?_;intro d7 d8;have⟨bk,h⟩:=Vs h;refine A.q [] [19594] [.n,.e 0 2,.n,.n] [Z.R64 (ab.2*J)] [(152,A.i (ab.2*J))] bk ?_;have⟨aq,bm,h⟩:=V6 h;refine Uq 5 19595 bm fun bp=>?_;intro c8 c9;refine V9 1 [(154,.pointer (some ⟨c8,N.toNat*(T45).size+2,none⟩))] (A.AL.setel 5 19595 [19594,19595] (o:=2) (m:=1) (t:=T45) (new:=[A.i (ab.2*J)]) (es:=(A.ram aq)) (aq.1,ab.2*J) bm c9 ⟨⟨⟨rfl,bp.1.1⟩,⟨rfl,bp.1.2⟩⟩,⟨rfl,(Jw bk)⟩⟩ ?_);refine Vk 2 ?_;have⟨bq,h⟩:=Vs h;refine Uf 2 [Z.R64 (N+1)] [(143,A.i (N+1))] bq (Ju ?_);exact Vn ⟨_,Qn _,⟨(U.set N.toNat (aq.1,ab.2*J)),(N+1),rfl,rfl,(by rw[X0];exact hn85),(Jw bq),h⟩⟩
 refine Um 2 ?_;refine J4 [] [1,2,3] (fun W nh=>∃(ar:Bool),W=[(6,.bool ar)]/\nh=[]/\F.bb ar=some r) ?_ ?_
 ·refine Ub 0 4 [(159,.bool (decide (((List.take ((min (z.length:Int) 24).toNat) z).length:Int)=0)))] ?_;refine Up (j:=159) rfl h ?_ ?_<;>intro hb h
  ·refine J5 [] [] [.off,.off,.off,.off,.off,.off,.off,.off,.off,.off,.off,.off,.off,.n,.n] [(6,.bool true)] (Ju ?_);exact Vn ⟨true,rfl,rfl,h⟩
  refine J5 [] [] [.on .n] [(160,.slice ac a5.1.length ad)] (Vu (dj:=159) rfl rfl ?_);have⟨br,ca,h⟩:=V6 h;refine Uq 19226 19596 ca fun d9=>?_;intro bt bu da db;refine J5 [] [19596] [.on .n,.on (.e 0 2),.on .n] [(163,.slice bt br.2.2.length bu),(164,.slice A6 E.1.length c7)] (Vu (dj:=159) rfl rfl ?_);refine A.cst 164 (Ud (show E.1.length=U.length from hn85)) ?_;refine Vx 19598 [] h (o_k bt A6 bu c7 br.2.2 U) (.l 19597 (.o 5 .nil)) ?_;rintro cb - h _ _ ⟨rfl,rfl⟩;refine J9 (J5 [] [] [.on .n] [(166,.bool cb)] (V2 (j:=166) rfl h (fun h=>?_) (fun h=>?_)))
  ·refine J5 [] [] [.on .n] [(167,.slice ac a5.1.length ad)] (Vu (dj:=166) rfl rfl ?_);refine Vx 19638 [] h (o_b9 ac ad a5.1 (ByteArray.mk #[99]) 7 (Uu (ByteArray.mk #[99]) rfl) (Vp 7)) (.o 19226 .nil) ?_;rintro cc - h _ _ ⟨cd,cf,cg,rfl,rfl⟩;refine J9 (Vu (dj:=166) rfl rfl ?_);refine Vx 19678 [] h (o_ay cf cd cg cc 999 (Vp 999)) (.b 19638 (.s 19639 .nil)) ?_;rintro ch - h _ _ ⟨ci,cj,rfl,rfl⟩;refine J9 (J5 [] [] [.on .n] [(170,.slice A6 E.1.length c7)] (Vu (dj:=166) rfl rfl ?_));refine A.cst 170 (Ud (show E.1.length=U.length from hn85)) ?_;refine Vx 19718 [] h (o_k ci A6 cj c7 ch U) (.o 19678 (.o 5 .nil)) ?_;rintro bw - h _ _ ⟨rfl,rfl⟩;refine J9 (J5 [] [] [.on .n,.n,.n] [(6,.bool bw)] (Ju ?_));exact Vn ⟨bw,rfl,rfl,h⟩
  refine J5 [] [] [.off,.off,.off,.off,.off,.on .n,.n,.n] [(6,.bool false)] (Ju ?_);exact Vn ⟨false,rfl,rfl,h⟩
 rintro _ _ ⟨ar,rfl,rfl,h⟩;rw[F.bb]at h;exact A.ke h (Vh ⟨rfl,rfl⟩)
end Go.Proofs.YtlbdgahbamalcaaGreatDoor
end
section
namespace Go.A
open Go.RowKit Go.Z
def sub (a k:Nat):Bool:=Nat.beq (a&&& k) a
def waitL (n:Nat):List Edge->Nat
 | []=>0
 |e::r=>bif Region.binds .any e then(1<<<(min e.on n))|||waitL n r else waitL n r
def waits (ops:List Oper):List Nat:=ops.map fun o=>waitL ops.length o.after.toList
def maskL:List Nat->Nat
 | []=>0
 |j::r=>(1<<<j)|||maskL r
def badB (ops:Array Oper)(i:Nat)(oi:Oper)(j:Nat):Bool:= !(j==i||match ops[j]? with
 |some oj=>oj.after.any (fun e=>Region.binds .any e&&e.on==i)||oi.apart ops oj
 |none=>true)
def bads (ops:List Oper):List Nat:=(List.range ops.length).map fun i=>match ops[i]? with
 |some oi=>maskL ((List.range ops.length).filter (badB ops.toArray i oi))
 |none=>0
structure Tabs (lo:List Oper) (n:Nat) (ws bs:List Nat):Prop where
 len:lo.length=n
 w:waits lo=ws
 b:bads lo=bs
 ns:(Region.noSelect lo.toArray&&Qbx lo.toArray)=true
section
variable {r:Option Nat}{P:Program}{lo:List Oper}{Q:Exit->Act->World->Prop}{C:Cx}{l:List (Nat×Value)}{H Hq:List (Nat×Res)}{m n:Nat}{ws bs:List Nat}
end
end Go.A
end
section
namespace Go.Proofs.YtlbdgahbamalcaaGreatDoor
open Go.RowKit
end Go.Proofs.YtlbdgahbamalcaaGreatDoor
end
section
namespace Go.A
open Go.RowKit Go.Z
section
variable {r:Option Nat}{P:Program}{ops:Array Oper}{Q:Exit->Act->World->Prop}{C:Cx}{l:List (Nat×Value)}{H Hq:List (Nat×Res)}{m f:Nat}{li:List Bool}
end
end Go.A
end
section
namespace Go.Proofs.YtlbdgahbamalcaaGreatDoor
open Go.RowKit
end Go.Proofs.YtlbdgahbamalcaaGreatDoor
end
section
end
section
namespace Go.A
open Go.RowKit Go.Z Go.Shelf Go.Proofs Go.Lib
def Hall (W:World):List (Nat×Res)->Prop
 | []=>True
 |p::H=>(p.2.bl=[]/\p.2.ref=none/\p.2.holds W (fun _=>True) (fun _ _=>False))/\Hall W H
theorem Hall.at {W:World}: ∀{H:List (Nat×Res)} {k:Nat} {r:Res},Hall W H->hk H k=some r->r.bl=[]/\r.ref=none/\r.holds W (fun _=>True) (fun _ _=>False)
 | [],_,_,_,h=>by cases h
 |(d,u)::H,k,r,ha,h=>by
  rw[Qab]at h
  split at h
  ·injection h with h;subst h;exact ha.1
  ·exact ha.2.at h
theorem Hp.start {W:World}{H:List (Nat×Res)}(h:Hall W H):Hp ⟨0,[],W,[],fun _=>True⟩ H W:=by
 have hb: ∀k b,¬Bk H k b:=fun k b ⟨r,h1,h2⟩=>by rw[(h.at h1).1]at h2;cases h2
 refine⟨Ch.refl W,fun k r hk=>?_,fun k b hB=>(hb k b hB).elim,fun k k' b hB=>(hb k b hB).elim,fun k r j hk hr=>?_⟩
 ·exact Res.to (S:=[]) (h.at hk).2.2 (Ch.refl W) (fun b _ _=>⟨by simp,fun k=>hb k b,.inl trivial⟩) (fun b _ _=>⟨by simp,fun k=>hb k b⟩) (fun i b _ hf=>hf.elim) (by simp)
 ·rw[(h.at hk).2.1]at hr;cases hr
theorem Hall.sh {W:World}{t:Ty}{cs:List Value}{x:t.den}{F:Nat->Prop}(h:t.rep W F cs x):(Res.sh t cs x).bl=[]/\(Res.sh t cs x).ref=none/\(Res.sh t cs x).holds W (fun _=>True) (fun _ _=>False):=
 ⟨rfl,rfl,Qhe h fun _ _ _=>trivial⟩
def putCells (cs:List Value):Obj->Obj
 | .cells _ t frozen=>.cells cs.toArray t frozen
 |o=>o
theorem tab_cells {w:World}{g3 g4:Nat}(h:Lib.Utf8Tabs g3 g4 w):Cells w ⟨g3,0,none⟩ tabF/\Cells w ⟨g4,0,none⟩ tabA:=by
 constructor
 ·intro j u hu
  rw[Addr.add_lit,Wm]
  have hj:j<256:=by have:=(Qb.1 hu).1;simpa[tabF] using this
  have e:tabF[j]?=some (.int .u8 (firstT j)):=by simp[tabF,hj]
  rw[e]at hu;injection hu with hu;subst hu
  exact h.1 j hj
 ·intro j u hu
  rw[Addr.add_lit,Wm]
  have hj:j<32:=by have:=(Qb.1 hu).1;simpa[tabA] using this
  have e:tabA[j]?=some (.int .u8 (if j%2=0 then accLo (j / 2)else accHi (j / 2))):=by simp[tabA,hj]
  rw[e]at hu;injection hu with hu;subst hu
  have:=h.2 (j / 2) (by omega)
  by_cases he:j%2=0
  ·rw[Qj he]
   have hj2:j=2*(j / 2):=by omega
   rw[hj2];simpa using this.1
  ·rw[Qd he]
   have hj2:j=2*(j / 2)+1:=by omega
   have h3:(2*(j / 2)+1) / 2=j / 2:=by omega
   rw[hj2,h3];exact this.2
theorem Hall.tabs {w:World}{g3 g4 i j:Nat}(h:Lib.Utf8Tabs g3 g4 w):Hall w [(i,.el none g3 0 tabF),(j,.el none g4 0 tabA)]:=by
 obtain⟨h1,h2⟩:=tab_cells h
 exact⟨⟨rfl,rfl,h1,World.block_lt_of_cell? w _ (h1 0 (.int .u8 (firstT 0)) (by simp[tabF])),fun _ h=>h⟩,⟨rfl,rfl,h2,World.block_lt_of_cell? w _ (h2 0 (.int .u8 (accLo 0)) (by simp[tabA])),fun _ h=>h⟩,trivial⟩
end Go.A
end
section
namespace Go.Graph
abbrev Fun:=Int×Int×ByteArray
abbrev Nd:=Int×Int×List Int×Fun×ByteArray×Int×Int
abbrev Pl:=Int×Int
abbrev id (x:Nd):Int:=x.1
abbrev kind (x:Nd):Int:=x.2.1
abbrev ins (x:Nd):List Int:=x.2.2.1
abbrev fn (x:Nd):Fun:=x.2.2.2.1
abbrev name (x:Nd):ByteArray:=x.2.2.2.2.1
abbrev cap (x:Nd):Int:=x.2.2.2.2.2.1
def insK (k:Int):Int:=if k<1\/16<k then-1 else if k=1 then 0 else if k=5\/k=9 then 2 else 1
def letter (c:UInt8):Bool:=decide ((97:Int)<=(c.toNat:Int)/\(c.toNat:Int)<=122\/(65:Int)<=(c.toNat:Int)/\(c.toNat:Int)<=90)
def digit (c:UInt8):Bool:=decide ((48:Int)<=(c.toNat:Int)/\(c.toNat:Int)<=57)
def wordy (l:List UInt8):Bool:=l.all fun c=>letter c||digit c
def named (s:ByteArray):Bool:=decide (s≠ByteArray.mk #[])&&decide ((s.size:Int)<=16)&&letter (Z.bat s 0)&&wordy s.data.toList
theorem drop_bat {s:ByteArray}{i:Nat}(h:i<s.size):s.data.toList.drop i=Z.bat s i::s.data.toList.drop (i+1):=by
 have h':i<s.data.toList.length:=by simpa using h
 rw[X2 h']
 have h2:i<s.data.size:=h
 congr 1
 simp[Z.bat,Q3 h2]
theorem drop_end {s:ByteArray}{i:Nat}(h: ¬i<s.size):s.data.toList.drop i=[]:=
 Xd (by have h1:s.data.toList.length=s.size:=rfl;omega)
def idxF (id:Int):Nat->List Nd->Int
 |_,[]=> -1
 |k,x::r=>if x.1=id then(k:Int)else idxF id (k+1) r
def idx (g:List Nd)(id:Int):Int:=idxF id 0 g
def namedF (kd:Int)(s:ByteArray):List Nd->Int×Bool
 | []=>(0,false)
 |x::r=>if kind x=kd/\name x=s then(x.1,true)else namedF kd s r
def z0:Nd:=(0,0,[],(0,0,ByteArray.mk #[]),ByteArray.mk #[],0,0)
def at_ (g:List Nd)(i:Int):Nd:=(g[i.toNat]?).getD z0
def ownT (g:List Nd)(n:Nd):Bool:=if n.2.1≠1/\n.2.1≠15 then decide (n.2.2.2.2.1=ByteArray.mk #[])else named n.2.2.2.2.1&&decide ((namedF n.2.1 n.2.2.2.2.1 g).1=n.1)
def ownC (n:Nd):Prop:=n.2.1=14/\(n.2.2.2.2.2.1<1\/8<n.2.2.2.2.2.1\/n.2.2.2.2.2.2<1\/4<n.2.2.2.2.2.2)\/n.2.1≠14/\(n.2.2.2.2.2.1≠0\/n.2.2.2.2.2.2≠0)
instance (n:Nd):Decidable (ownC n):=by unfold ownC;infer_instance
def own (g:List Nd)(i:Int)(n:Nd):Bool:=
 if n.1<1\/255<n.1\/0<i/\n.1<=(at_ g (i-1)).1\/insK n.2.1<0\/(n.2.2.1.length:Int)≠insK n.2.1 then false else if ownC n then false else ownT g n
def bget (l:List Bool)(i:Int):Bool:=(l[i.toNat]?).getD false
def iget (l:List Int)(i:Int):Int:=(l[i.toNat]?).getD 0
def readyF (g:List Nd)(done:List Bool)(kd:Int):List Int->Bool
 | []=>true
 |k::r=>if kd≠14/\bget done (idx g k)=false then false else readyF g done kd r
def ready (g:List Nd)(done:List Bool)(n:Nd):Bool:=readyF g done n.2.1 n.2.2.1
def firstF (g:List Nd)(done:List Bool):Nat->List Nd->Int->Int
 |_,[],a=>a
 |i,x::r,a=>firstF g done (i+1) r (if(a<0/\bget done i=false)/\ready g done x=true then i else a)
def orderF (g:List Nd):Nat->List Bool->List Int->Option (List Int)
 |0,_,l=>some l
 |f+1,done,l=>if firstF g done 0 g (-1)<0 then none else orderF g f (done.set (firstF g done 0 g (-1)).toNat true) (l++[firstF g done 0 g (-1)])
def order (g:List Nd):List Int×Bool:=match orderF g g.length (List.replicate g.length false) []with
 |some l=>(l,true)
 |none=>([],false)
def d0:List Int->Int
 | []=>0
 |a::_=>a
def InB (d:List Int):Prop:=∀i,0<=iget d i/\iget d i<=4
theorem InB.rep (n:Nat):InB (List.replicate n 0):=fun i=>by
 unfold iget;rw[List.getElem?_replicate];split<;>simp
theorem InB.set {d:List Int}(h:InB d)(p:Nat){v:Int}(h0:0<=v)(h1:v<=4):InB (d.set p v):=fun i=>by
 unfold iget;rw[List.getElem?_set]
 have:=h i
 unfold iget at this
 split
 ·split<;>simp<;>omega
 ·exact this
theorem width_pos (s:ByteArray)(pos:Nat):1<=(Utf8.decode s pos).2:=by
 unfold Utf8.decode;simp only[];repeat' split
 all_goals first|exact Qo 1|(simp;done)|omega
def tail5 (c:UInt8):Bool:=decide (128<=(c.toNat:Int)/\(c.toNat:Int)<=191)
def second (s:ByteArray)(i:Nat):UInt8:=if i+1<s.size then Z.bat s (i+1)else 0
end Go.Graph
end
section
namespace Go.A
open Go.Z
theorem r64n {n:Nat}(h:n<4611686018427387904):R64 ((n:Int)+1):=⟨by omega,by omega⟩
theorem gd1 {α:Type}{p:Prop}[Decidable p](h:p)(x:Option α):gd p x=x:=Qj h
theorem ixn {α:Type}{xs:List α}{k:Nat}{x:α}(h:xs[k]?=some x):ix xs (k:Int)=some x:=by rw[ix_nat];exact h
theorem dropx {α:Type}{xs:List α}{k:Nat}{x:α}(h:xs[k]?=some x):xs.drop k=x::xs.drop (k+1):=by
 obtain⟨h1,h2⟩:=Qb.1 h
 rw[X2 h1,h2]
theorem ba {p q:Prop}[Decidable p][Decidable q]:(bif decide p then decide q else false)=decide (p/\q):=by by_cases h:p<;>simp[h]
theorem bo {p q:Prop}[Decidable p][Decidable q]:(bif decide p then true else decide q)=decide (p\/q):=by by_cases h:p<;>simp[h]
theorem bn {p:Prop}[Decidable p]:(!decide p)=decide (¬p):=by by_cases h:p<;>simp[h]
theorem lp {α σ ρ:Type}(xs:List α)(L:Nat->σ->Int->Option ρ)(G:Nat->List α->σ->Option ρ)(P:Nat->σ->Prop)
  (h0: ∀f s,P xs.length s->L (f+1) s (xs.length:Int)=G xs.length [] s)
  (h1: ∀f s (k:Nat) x,xs[k]?=some x->k<xs.length->P k s->(∀s',P (k+1) s'->L f s' ((k:Int)+1)=G (k+1) (xs.drop (k+1)) s')->L (f+1) s k=G k (x::xs.drop (k+1)) s)
  (hl:xs.length<FU) (s:σ) (hs:P 0 s):L FU s 0=G 0 xs s:=by
 have main: ∀(n k f:Nat) (s:σ),k+n=xs.length->n<f->P k s->L f s (k:Int)=G k (xs.drop k) s:=by
  intro n
  induction n with
  |zero=>
   intro k f s hk hf hp
   obtain⟨f,rfl⟩: ∃f',f=f'+1:=⟨f-1,by omega⟩
   obtain rfl:k=xs.length:=by omega
   rw[Xd (Qo _)];exact h0 f s hp
  |succ n ih=>
   intro k f s hk hf hp
   obtain⟨f,rfl⟩: ∃f',f=f'+1:=⟨f-1,by omega⟩
   have hx:xs[k]?=some xs[k]:=Qh (by omega)
   rw[dropx hx]
   exact h1 f s k _ hx (by omega) hp fun s' hp'=>ih (k+1) f s' (by omega) (by omega) hp'
 have:=main xs.length 0 FU s (by omega) hl hs
 simpa using this
theorem lp0 {α ρ:Type}(xs:List α)(L:Nat->Int->Option ρ)(G:Nat->List α->Option ρ)
  (h0: ∀f,L (f+1) (xs.length:Int)=G xs.length [])
  (h1: ∀f (k:Nat) x,xs[k]?=some x->k<xs.length->L f ((k:Int)+1)=G (k+1) (xs.drop (k+1))->L (f+1) k=G k (x::xs.drop (k+1)))
  (hl:xs.length<FU):L FU 0=G 0 xs:=
 lp xs (fun f (_:Unit) y=>L f y) (fun k l _=>G k l) (fun _ _=>True) (fun f s _=>h0 f) (fun f s k x hx hk _ ih=>h1 f k x hx hk (ih () trivial)) hl () trivial
end Go.A
namespace Go.Proofs.YtlbdgahbamalcaaGreatDoor
open Go.RowKit Go.Graph
theorem Qai:(18446744073709551616:Nat)<A.FU:=by decide
theorem ixb {s:ByteArray}{k:Nat}(h:k<s.size):A.ix s.data.toList (k:Int)=some (Z.bat s k):=by
 refine A.ixn ?_
 have:=drop_bat h
 rw[<-List.head?_drop,this];rfl
theorem size_list (s:ByteArray):s.data.toList.length=s.size:=rfl
end Go.Proofs.YtlbdgahbamalcaaGreatDoor
end
section
namespace Go.Proofs.YtlbdgahbamalcaaGreatDoor
open Go.RowKit Go.Graph
theorem Qgj (s:ByteArray)(i:Nat):(s.get! i)=Z.bat s i:=by
 cases s;simp[ByteArray.get!,Z.bat,getElem!_def,Option.getD]
 rfl
theorem dec_at (s:ByteArray)(i:Nat):Utf8.decode s i=Lib.decodeN (s.size-i) (Z.bat s i).toNat (Z.bat s (i+1)).toNat (Z.bat s (i+2)).toNat (Z.bat s (i+3)).toNat:=by
 rw[Lib.decode_at,Qgj,Qgj,Qgj,Qgj]
end Go.Proofs.YtlbdgahbamalcaaGreatDoor
end
section
namespace Go.Utf
open Go.Lib
abbrev Rn:=List UInt8×Int
structure Ck (c:Rn):Prop where
 ne:c.1≠[]
 four:c.1.length<=4
 enc:(Utf8.encode c.2).data.toList=c.1
 dec: ∀rest,decodeL (c.1++rest)=(c.2.toNat,c.1.length)
 nn:0<=c.2
 top:c.2<=1114111
 ok: ¬(c.2.toNat=65533/\c.1.length=1)
def ckF:Nat->List UInt8->List Rn
 |0,_=>[]
 |n+1,l=>if l=[]then []else(l.take (decodeL l).2,((decodeL l).1:Int))::ckF n (l.drop (decodeL l).2)
def cks (l:List UInt8):List Rn:=ckF l.length l
abbrev flat (cs:List Rn):List UInt8:=cs.flatMap (·.1)
theorem foldl_toList (ns:List Int): ∀s:ByteArray,(ns.foldl (fun r n=>r++Utf8.encode n) s).data.toList=s.data.toList++ns.flatMap fun n=>(Utf8.encode n).data.toList:=by
 induction ns with
 |nil=>intro s;simp
 |cons n ns ih=>intro s;rw[List.foldl_cons,ih];simp[ByteArray.data_append]
theorem ba_eq {s t:ByteArray}(h:s.data.toList=t.data.toList):s=t:=by
 cases s;cases t;congr;exact Yc.1 h
def bd (n:Nat):Nat->List Rn->Nat
 |p,[]=>p
 |p,c::cs=>if p+c.1.length<=n then bd n (p+c.1.length) cs else p
end Go.Utf
end
section
namespace Go.Ent
open Go.Utf
abbrev En:=Int×Int×ByteArray×Int
abbrev Ky:=Int×Int×ByteArray
abbrev key (e:En):Ky:=(e.1,e.2.1,e.2.2.1)
abbrev num (e:En):Int:=e.2.2.2
theorem bL_irr: ∀a:List UInt8,Op.bytesLess a a=false
 | []=>rfl
 |x::a=>by unfold Op.bytesLess;rw[bL_irr a];simp
theorem bL_tr: ∀{a b c:List UInt8},Op.bytesLess a b=true->Op.bytesLess b c=true->Op.bytesLess a c=true
 |_,_,[],_,h=>by cases h':(‹List UInt8›)<;>simp_all [Op.bytesLess]
 |_,[],_::_,h,_=>by simp_all [Op.bytesLess]
 | [],_::_,_::_,_,_=>rfl
 |x::a,y::b,z::c,h1,h2=>by
  unfold Op.bytesLess at h1 h2 ⊢
  simp only[Xz,Qe,Xw,beq_iff_eq]at h1 h2 ⊢
  rcases h1 with h1|⟨rfl,h1⟩
  ·rcases h2 with h2|⟨rfl,h2⟩
   ·exact .inl (UInt8.lt_trans h1 h2)
   ·exact .inl h1
  ·rcases h2 with h2|⟨rfl,h2⟩
   ·exact .inl h2
   ·exact .inr ⟨rfl,bL_tr h1 h2⟩
theorem bL_tri: ∀{a b:List UInt8},Op.bytesLess a b=false->Op.bytesLess b a=false->a=b
 | [],[],_,_=>rfl
 | [],_::_,h,_=>by simp[Op.bytesLess]at h
 |_::_,[],_,h=>by simp[Op.bytesLess]at h
 |x::a,y::b,h1,h2=>by
  unfold Op.bytesLess at h1 h2
  simp only[Yg,decide_eq_false_iff_not,Bool.and_eq_false_iff]at h1 h2
  have e:x=y:=UInt8.le_antisymm (UInt8.not_lt.1 h2.1) (UInt8.not_lt.1 h1.1)
  subst e
  have h3:Op.bytesLess a b=false:=by rcases h1.2 with h|h;simp at h;exact h
  have h4:Op.bytesLess b a=false:=by rcases h2.2 with h|h;simp at h;exact h
  rw[bL_tri h3 h4]
def bl (s t:ByteArray):Bool:=Op.bytesLess s.toList t.toList
theorem bl_irr (s:ByteArray):bl s s=false:=bL_irr _
theorem bl_tr {s t u:ByteArray}(h1:bl s t=true)(h2:bl t u=true):bl s u=true:=bL_tr h1 h2
theorem bl_tri {s t:ByteArray}(h1:bl s t=false)(h2:bl t s=false):s=t:=by
 have:=bL_tri h1 h2
 rw[Lib.toList_data,Lib.toList_data]at this
 exact ba_eq this
def rl (a b:Int×ByteArray):Bool:=decide (a.1<b.1)||(decide (a.1=b.1)&&bl a.2 b.2)
theorem rl_irr (a:Int×ByteArray):rl a a=false:=by unfold rl;rw[bl_irr];simp
theorem rl_tr {a b c:Int×ByteArray}(h1:rl a b=true)(h2:rl b c=true):rl a c=true:=by
 unfold rl at h1 h2 ⊢
 simp only[Xz,Qe,Xw]at h1 h2 ⊢
 rcases h1 with h1|⟨h1,h1'⟩
 ·rcases h2 with h2|⟨h2,h2'⟩
  ·left;omega
  ·left;omega
 ·rcases h2 with h2|⟨h2,h2'⟩
  ·left;omega
  ·exact .inr ⟨h1.trans h2,bl_tr h1' h2'⟩
theorem rl_tri {a b:Int×ByteArray}(h1:rl a b=false)(h2:rl b a=false):a=b:=by
 unfold rl at h1 h2
 simp only[Yg,decide_eq_false_iff_not,Bool.and_eq_false_iff]at h1 h2
 have e:a.1=b.1:=by omega
 have h3:bl a.2 b.2=false:=by rcases h1.2 with h|h;exact absurd e h;exact h
 have h4:bl b.2 a.2=false:=by rcases h2.2 with h|h;exact absurd e.symm h;exact h
 exact Prod.ext e (bl_tri h3 h4)
def kl (a b:Ky):Bool:=decide (a.1<b.1)||(decide (a.1=b.1)&&rl a.2 b.2)
abbrev Srt (l:List En):Prop:=l.Pairwise fun a b=>kl (key a) (key b)=true
def gv:List En->Ky->Int
 | [],_=>0
 |e::l,k=>if key e=k then num e else gv l k
structure Nf (l:List En):Prop where
 srt:Srt l
 nz: ∀e,e∈l->num e≠0
def upd (x e:En)(one:Bool):En:=(x.1,x.2.1,x.2.2.1,if one=true then 1 else min (num x+num e) 1099511627776)
abbrev cap (one:Bool):Int:=if one=true then 1 else 1099511627776
structure Bd (one:Bool) (l:List En):Prop where
 srt:Srt l
 b: ∀e,e∈l->1<=num e/\num e<=cap one
def cs (C:Int)(l:List En)(k:Ky):Int:=l.foldl (fun a e=>if key e=k then min C (a+num e)else a) 0
def sm:List En->Ky->Int
 | [],_=>0
 |e::l,k=>(if key e=k then num e else 0)+sm l k
end Go.Ent
end
section
namespace Go.Opr
open Go.Utf Go.Ent
abbrev Rc:=Int×ByteArray
abbrev Mn:=Rc×Int
abbrev SK {α:Type} (k:α->Rc) (l:List α):Prop:=l.Pairwise fun a b=>rl (k a) (k b)=true
theorem rl_asy {a b:Rc}(h:rl a b=true):rl b a=false:=by
 cases h2:rl b a with
 |false=>rfl
 |true=>have:=rl_tr h h2;rw[rl_irr]at this;cases this
theorem rl_ne {a b:Rc}(h:rl a b=true):a≠b:=fun e=>by subst e;rw[rl_irr]at h;cases h
theorem sk_inj {α:Type}{k:α->Rc}: ∀{l:List α},SK k l->∀{a b},a∈l->b∈l->k a=k b->a=b
 |x::l,h,a,b,ha,hb,e=>by
  obtain⟨h1,h2⟩:=Wi.1 h
  rcases Qk.1 ha with ea|ha2<;>rcases Qk.1 hb with eb|hb2
  ·rw[ea,eb]
  ·rw[ea]at e;exact absurd e (rl_ne (h1 b hb2))
  ·rw[eb]at e;exact absurd e.symm (rl_ne (h1 a ha2))
  ·exact sk_inj h2 ha2 hb2 e
def ins {α:Type}(k:α->Rc)(e:α):List α->List α
 | []=>[e]
 |x::l=>if k x=k e then e::l else if rl (k e) (k x)=true then e::x::l else x::ins k e l
abbrev Fn:=Int×Int×ByteArray
def cut (s:ByteArray):ByteArray:=s.extract 0 (bd 64 0 (cks s.data.toList))
def rns (s:ByteArray):Int:=((cks s.data.toList).length:Int)
def dg:Nat->Nat->List UInt8
 |0,_=>[]
 |f+1,n=>if n / 10=0 then [UInt8.ofNat (48+n%10)]else dg f (n / 10)++[UInt8.ofNat (48+n%10)]
def dec (n:Int):ByteArray:=⟨(dg 20 n.toNat).toArray⟩
def meas (f:Fn)(r:Rc):Int:=if f.1=41 then 1 else rns r.2
def tot (f:Fn)(v:Int)(g:List Mn):Int:=g.foldl (fun v m=>min (v+meas f m.1*m.2) 1099511627776) v
def wS (w:Rc->Int):List Mn->Int
 | []=>0
 |m::l=>w m.1*m.2+wS w l
def bput:List Mn->Rc->Int->List Mn
 | [],r,n=>[(r,n)]
 |x::l,r,n=>if x.1=r then(r,x.2+n)::l else if rl r x.1=true then(r,n)::x::l else x::bput l r n
abbrev SM (l:List Mn):Prop:=SK (fun m:Mn=>m.1) l
theorem Qgq {r r':Rc}{n:Int}: ∀{l:List Mn},r'∈(bput l r n).map (·.1)↔r'=r\/r'∈l.map (·.1)
 | []=>by simp[bput]
 |x::l=>by
  unfold bput
  by_cases h:x.1=r
  ·rw[Qj h,Qz,Qz,Qk,Qk,h]
   exact⟨fun h=>h.elim .inl fun h=>.inr (.inr h),fun h=>h.elim .inl fun h=>h⟩
  ·rw[Qd h]
   split
   ·simp
   ·rw[Qz,Qk,Qgq,Qz,Qk]
    exact⟨fun h=>h.elim (fun h=>.inr (.inl h)) fun h=>h.elim .inl fun h=>.inr (.inr h),fun h=>h.elim (fun h=>.inr (.inl h)) fun h=>h.elim .inl fun h=>.inr (.inr h)⟩
theorem bput_sm {r:Rc}{n:Int}: ∀{l:List Mn},SM l->SM (bput l r n)
 | [],_=>Xr ..
 |x::l,h=>by
  obtain⟨h1,h2⟩:=Wi.1 h
  unfold bput
  by_cases hx:x.1=r
  ·rw[Qj hx];exact Wi.2 ⟨fun b hb=>hx▸h1 b hb,h2⟩
  ·rw[Qd hx]
   by_cases hlt:rl r x.1=true
   ·rw[Qj hlt]
    exact Wi.2 ⟨fun b hb=>(Qk.1 hb).elim (fun e=>e▸hlt) fun hb=>rl_tr hlt (h1 b hb),h⟩
   ·rw[Qd hlt]
    refine Wi.2 ⟨fun b hb=>?_,bput_sm h2⟩
    rcases Qgq.1 (Xx (f:=fun m:Mn=>m.1) hb)with e|hb
    ·show rl x.1 b.1=true
     have e:b.1=r:=e
     rw[e]
     cases hxr:rl x.1 r with
     |true=>rfl
     |false=>exact absurd (rl_tri hxr (by simpa using hlt)) hx
    ·obtain⟨y,hy,e⟩:=Wx.1 hb
     have e:y.1=b.1:=e
     show rl x.1 b.1=true
     rw[<-e];exact h1 y hy
theorem bput_w {w:Rc->Int}{r:Rc}{n:Int}: ∀{l:List Mn},wS w (bput l r n)=wS w l+w r*n
 | []=>by simp[bput,wS]
 |x::l=>by
  unfold bput
  by_cases h:x.1=r
  ·rw[Qj h]
   show w r*(x.2+n)+wS w l=w x.1*x.2+wS w l+w r*n
   rw[h,Int.mul_add];omega
  ·rw[Qd h]
   split
   ·show w r*n+wS w (x::l)=wS w (x::l)+w r*n;omega
   ·unfold wS;rw[bput_w];omega
theorem Qgl {r:Rc}{n:Int}(hn:1<=n): ∀{l:List Mn},(∀m,m∈l->1<=m.2)->∀m,m∈bput l r n->1<=m.2
 | [],_,m,hm=>by obtain rfl:=Qm.1 hm;exact hn
 |x::l,h,m,hm=>by
  have hx:=h x (Qg ..)
  unfold bput at hm
  split at hm
  ·rcases Qk.1 hm with rfl|hm
   ·show 1<=x.2+n;omega
   ·exact h m (Qf _ hm)
  ·split at hm
   ·rcases Qk.1 hm with rfl|hm
    ·exact hn
    ·exact h m hm
   ·rcases Qk.1 hm with rfl|hm
    ·exact hx
    ·exact Qgl hn (fun m hm=>h m (Qf _ hm)) m hm
theorem bput_len {r:Rc}{n:Int}: ∀{l:List Mn},(bput l r n).length<=l.length+1
 | []=>by simp[bput]
 |x::l=>by
  unfold bput
  split
  ·simp
  ·(split)
   ·simp
   ·rw[Qu,Qu];have:=bput_len (r:=r) (n:=n) (l:=l);omega
theorem wS_nn {w:Rc->Int}(hw: ∀r,0<=w r): ∀{l:List Mn},(∀m,m∈l->1<=m.2)->0<=wS w l
 | [],_=>Int.le_refl _
 |m::l,h=>by
  have h1:=wS_nn hw fun m hm=>h m (Qf _ hm)
  have h2:=Jj (hw m.1) (show 0<=m.2 by have:=h m (Qg ..);omega)
  unfold wS;omega
end Go.Opr
end
section
namespace Go.A
theorem dem_all {α β γ:Type}[DecidableEq γ](m:List α)(g:α->β)(L:Nat->List Nat->List β->Option γ)(E:List β->Option γ)(S:α->List β->Option γ->Option γ)(r:γ)
  (hL: ∀f sn xs,L (f+1) sn xs=dem m sn (E xs) fun i p=>S p xs (L f (i::sn) (xs++[g p])))
  (hS: ∀p xs o,p∈m->xs.length<m.length->S p xs o=o)
  (hE: ∀ys,ys.Perm (m.map g)->E ys=some r) (hm:m.length<FU):L FU [] []=some r:=by
 have main: ∀(f:Nat) (sn:List Nat) (xs:List β),sn.Nodup->(∀i,i∈sn->i<m.length)->m.length<f+sn.length->xs.length=sn.length->xs.Perm ((sn.filterMap fun i=>m[i]?).map g)->L f sn xs=some r:=by
  intro f
  induction f with
  |zero=>intro sn xs h1 h2 h3;have:=Qed h1 h2;omega
  |succ f ih=>
   intro sn xs h1 h2 h3 h4 h5
   have hsl:=Qed h1 h2
   rw[hL]
   have dof: ∀{e:Option γ} {k:Nat->α->Option γ},((∀i,i<m.length->i∈sn)->e=some r)->(∀i p,m[i]?=some p->i∉sn->k i p=some r)->dem m sn e k=some r:=by
    intro e k h1 h2
    unfold dem
    have hmem: ∀i,i∈(List.range m.length).filter (fun i=> !(sn.contains i))↔i<m.length/\i∉sn:=fun i=>by
     rw[List.mem_filter,Yw];simp
    split
    ·rename_i hl
     rw[hl]at hmem
     exact h1 fun i hi=>Y6 fun hn=>by have:=(hmem i).2 ⟨hi,hn⟩;cases this
    ·rename_i i js hl
     rw[hl]at hmem
     have hi:=(hmem i).1 (Qg ..)
     rw[Qh hi.1,Qa,h2 i _ (Qh hi.1) hi.2,Qj]
     rw[Qx]
     intro j hj
     have hj:=(hmem j).1 (Qf _ hj)
     rw[Qh hj.1,Qa,h2 j _ (Qh hj.1) hj.2]
     exact Wc rfl
   refine dof (fun hall=>hE xs (h5.trans ?_)) fun i p hp hi=>?_
   ·refine List.Perm.map g ?_
    have hp:sn.Perm (List.range m.length):=by
     refine(Yz h1 List.nodup_range).2 fun i=>?_
     rw[Yw];exact⟨h2 i,hall i⟩
    refine(hp.filterMap _).trans ?_
    have:(List.range m.length).filterMap (fun i=>m[i]?)=m:=by
     have e:(List.range m.length).filterMap (fun i=>m[i]?)=(List.range m.length).pmap (fun i h=>m[i]'h) (fun i h=>Yw.1 h):=by
      have: ∀(l:List Nat) (h: ∀i,i∈l->i<m.length),l.filterMap (fun i=>m[i]?)=l.pmap (fun i h=>m[i]'h) h:=by
       intro l
       induction l with
       |nil=>intro _;rfl
       |cons i l ih=>intro h;rw[List.filterMap_cons,Qh (h i (Qg ..)),List.pmap];simp only[];rw[ih fun j hj=>h j (Qf _ hj)]
      exact this _ _
     rw[e];exact List.ext_getElem (by simp) fun k h1 h2=>by simp
    rw[this]
   ·have hlt:=(Qb.1 hp).1
    have hsn:(i::sn).Nodup:=Wv.2 ⟨hi,h1⟩
    have hsb: ∀j,j∈i::sn->j<m.length:=fun j hj=>(Qk.1 hj).elim (fun e=>e▸hlt) (h2 j)
    have hsl2:=Qed hsn hsb
    rw[Qu]at hsl2
    rw[hS p xs _ (Qt hp) (by omega)]
    refine ih _ _ hsn hsb (by rw[Qu];omega) (by rw[Wg,h4];rfl) ?_
    rw[List.filterMap_cons,hp]
    simp only[Qz]
    exact(List.perm_append_comm (l₁:=xs) (l₂:=[g p])).trans (h5.cons (g p))
 exact main FU [] [] Ji (by simp) (by simpa using hm) rfl (List.Perm.refl _)
end Go.A
namespace Go.Proofs.YtlbdgahbamalcaaGreatDoor
open Go.RowKit Go.Graph Go.Utf Go.Ent Go.Opr
theorem tail_eq (c:UInt8):F.bq c=some (tail5 c):=by
 unfold F.bq tail5
 by_cases h1:(128:Int)<=(c.toNat:Int)<;>by_cases h2:(c.toNat:Int)<=191<;>simp[h1,h2]
theorem ixk (s:ByteArray)(p k:Nat):A.ix s.data.toList ((p:Int)+(k:Int))=if p+k<s.size then some (Z.bat s (p+k))else none:=by
 have e:(p:Int)+(k:Int)=((p+k:Nat):Int):=by omega
 rw[e]
 by_cases h:p+k<s.size
 ·rw[Qj h];exact ixb h
 ·rw[Qd h,A.ix_nat];exact Q9 (by rw[size_list];omega)
def wid (s:ByteArray)(p:Nat):Nat:=if Utf8.decode s p=(65533,1)then 0 else(Utf8.decode s p).2
theorem wid_le {s:ByteArray}{p:Nat}(h:p<s.size):p+wid s p<=s.size:=by
 unfold wid
 split
 ·omega
 ·rw[dec_at]
  unfold Lib.decodeN
  repeat' split
  all_goals simp only[]
  all_goals omega
def widN (n a b c d:Nat):Nat:=
 if a<128 then 1
 else if(194<=a/\a<=223)/\2<=n/\(128<=b/\b<=191)then 2
 else if(224<=a/\a<=239)/\3<=n/\(128<=b/\b<=191)/\(128<=c/\c<=191)/\¬(a=224/\b<160)/\¬(a=237/\159<b)then 3
 else if(240<=a/\a<=244)/\4<=n/\(128<=b/\b<=191)/\(128<=c/\c<=191)/\(128<=d/\d<=191)/\¬(a=240/\b<144)/\¬(a=244/\143<b)then 4
 else 0
theorem pq (c:Prop)[Decidable c](x w:Nat)(hw:w≠1):(if(if c then(x,w)else(65533,1))=(65533,1)then 0 else(if c then(x,w)else(65533,1)).2)=if c then w else 0:=by
 by_cases h:c<;>simp[h,hw]
theorem widN_eq (n a b c d:Nat)(ha:a<256)(hb:b<256)(hc:c<256)(hd:d<256):(if Lib.decodeN n a b c d=(65533,1)then 0 else(Lib.decodeN n a b c d).2)=widN n a b c d:=by
 unfold Lib.decodeN widN
 by_cases h0:a<128
 ·simp only[h0,X6,Qr];rw[Qd (by omega)]
 ·simp only[h0,Wu]
  by_cases h1:a / 32=6/\1<n/\b / 64=2
  ·simp only[Qj h1]
   rw[pq _ _ _ (by decide)]
   repeat' split
   all_goals omega
  ·simp only[Qd h1]
   by_cases h3:a / 16=14/\(1<n/\b / 64=2)/\2<n/\c / 64=2
   ·simp only[Qj h3]
    rw[pq _ _ _ (by decide)]
    repeat' split
    all_goals omega
   ·simp only[Qd h3]
    by_cases h5:a / 8=30/\(1<n/\b / 64=2)/\(2<n/\c / 64=2)/\3<n/\d / 64=2
    ·simp only[Qj h5]
     rw[pq _ _ _ (by decide)]
     repeat' split
     all_goals omega
    ·simp only[Qd h5,X6]
     repeat' split
     all_goals omega
theorem wid_N (s:ByteArray)(p:Nat):wid s p=widN (s.size-p) (Z.bat s p).toNat (Z.bat s (p+1)).toNat (Z.bat s (p+2)).toNat (Z.bat s (p+3)).toNat:=by
 rw[<-widN_eq _ _ _ _ _ (UInt8.toNat_lt _) (UInt8.toNat_lt _) (UInt8.toNat_lt _) (UInt8.toNat_lt _),<-dec_at];rfl
theorem cnd {α:Type}{p:Prop}[Decidable p](x y:α):(bif decide p then x else y)=if p then x else y:=by by_cases h:p<;>simp[h]
set_option maxHeartbeats 4000000 in
theorem width_eq (s:ByteArray)(p:Nat)(hp:p<s.size)(hs:s.size<=5000):F.cu s p=some (wid s p:Int):=by
 have i1:A.ix s.data.toList ((p:Int)+1)=if p+1<s.size then some (Z.bat s (p+1))else none:=ixk s p 1
 have i2:A.ix s.data.toList ((p:Int)+2)=if p+2<s.size then some (Z.bat s (p+2))else none:=ixk s p 2
 have i3:A.ix s.data.toList ((p:Int)+3)=if p+3<s.size then some (Z.bat s (p+3))else none:=ixk s p 3
 have r1:Z.R64 ((p:Int)+1):=⟨by omega,by omega⟩
 have r2:Z.R64 ((p:Int)+2):=⟨by omega,by omega⟩
 have r3:Z.R64 ((p:Int)+3):=⟨by omega,by omega⟩
 unfold F.cu
 rw[A.gd1 ⟨by omega,by omega⟩,ixb hp,Qa,A.gd1 r1,i1,wid_N]
 generalize Z.bat s p=c0 at*
 generalize Z.bat s (p+1)=c1 at*
 generalize Z.bat s (p+2)=c2 at*
 generalize Z.bat s (p+3)=c3 at*
 have t (c:UInt8):tail5 c=decide (128<=c.toNat/\c.toNat<=191):=by unfold tail5;congr 1;exact propext ⟨fun h=>by omega,fun h=>by omega⟩
 by_cases h1:(1:Int)<(s.size:Int)-(p:Int)
 ·rw[Qj h1,Qj (by omega),Qa]
  simp only[F.bw,F.bv,F.a8,F.aQ,tail_eq,Qa,t,A.gd1 r2,A.gd1 r3,i2,i3]
  unfold widN
  generalize hn:s.size-p=n
  have e2:((2:Int)<=(s.size:Int)-(p:Int))=(2<=n):=propext ⟨fun h=>by omega,fun h=>by omega⟩
  have e3:((3:Int)<=(s.size:Int)-(p:Int))=(3<=n):=propext ⟨fun h=>by omega,fun h=>by omega⟩
  have e4:((4:Int)<=(s.size:Int)-(p:Int))=(4<=n):=propext ⟨fun h=>by omega,fun h=>by omega⟩
  have f2:(p+2<s.size)=(3<=n):=propext ⟨fun h=>by omega,fun h=>by omega⟩
  have f3:(p+3<s.size)=(4<=n):=propext ⟨fun h=>by omega,fun h=>by omega⟩
  have hn2:2<=n:=by omega
  simp only[e2,e3,e4,f2,f3,A.ba,Xw,hn2,and_true,true_and]
  have q0:((c0.toNat:Int)<128)=(c0.toNat<128):=propext ⟨fun h=>by omega,fun h=>by omega⟩
  have q1:((194:Int)<=(c0.toNat:Int)/\(c0.toNat:Int)<=223)=(194<=c0.toNat/\c0.toNat<=223):=propext ⟨fun h=>by omega,fun h=>by omega⟩
  have q2:((224:Int)<=(c0.toNat:Int)/\(c0.toNat:Int)<=239)=(224<=c0.toNat/\c0.toNat<=239):=propext ⟨fun h=>by omega,fun h=>by omega⟩
  have q3:((240:Int)<=(c0.toNat:Int)/\(c0.toNat:Int)<=244)=(240<=c0.toNat/\c0.toNat<=244):=propext ⟨fun h=>by omega,fun h=>by omega⟩
  have q4:((c0.toNat:Int)=224/\(c1.toNat:Int)<160)=(c0.toNat=224/\c1.toNat<160):=propext ⟨fun h=>by omega,fun h=>by omega⟩
  have q5:((c0.toNat:Int)=237/\(159:Int)<(c1.toNat:Int))=(c0.toNat=237/\159<c1.toNat):=propext ⟨fun h=>by omega,fun h=>by omega⟩
  have q6:((c0.toNat:Int)=240/\(c1.toNat:Int)<144)=(c0.toNat=240/\c1.toNat<144):=propext ⟨fun h=>by omega,fun h=>by omega⟩
  have q7:((c0.toNat:Int)=244/\(143:Int)<(c1.toNat:Int))=(c0.toNat=244/\143<c1.toNat):=propext ⟨fun h=>by omega,fun h=>by omega⟩
  simp only[q0,q1,q2,q3,q4,q5,q6,q7]
  have x1:240<=c0.toNat/\c0.toNat<=244->¬(224<=c0.toNat/\c0.toNat<=239):=fun h h2=>by omega
  have x2:240<=c0.toNat/\c0.toNat<=244->¬(194<=c0.toNat/\c0.toNat<=223):=fun h h2=>by omega
  have x3:224<=c0.toNat/\c0.toNat<=239->¬(194<=c0.toNat/\c0.toNat<=223):=fun h h2=>by omega
  by_cases K0:c0.toNat<128
  ·simp[K0]
  by_cases m1:128<=c1.toNat/\c1.toNat<=191
  ·by_cases K1:194<=c0.toNat/\c0.toNat<=223
   ·simp only[Qd K0,Qj K1,Qj m1,K1,m1,and_self,X6];rfl
   ·by_cases K2:224<=c0.toNat/\c0.toNat<=239
    ·have K3: ¬(240<=c0.toNat/\c0.toNat<=244):=fun h=>x1 h K2
     by_cases k3:3<=n
     ·by_cases m2:128<=c2.toNat/\c2.toNat<=191
      ·by_cases y1:c0.toNat=224/\c1.toNat<160
       ·simp only[Qd K0,Qd K1,Qj (And.intro K2 k3),Qj m1,Qj k3,Qa,Qj m2,eq_true y1,X6,false_and,K1,K3,eq_true y1,not_true_eq_false,and_false,Wu];rfl
       ·by_cases y2:c0.toNat=237/\159<c1.toNat
        ·simp only[Qd K0,Qd K1,Qj (And.intro K2 k3),Qj m1,Qj k3,Qa,Qj m2,Qd y1,eq_true y2,X6,false_and,K1,K3,eq_true y2,not_true_eq_false,and_false,Wu];rfl
        ·simp only[Qd K0,Qd K1,Qj (And.intro K2 k3),Qj m1,Qj k3,Qa,Qj m2,Qd y1,Qd y2,false_and,K1,K2,k3,m1,m2,y1,y2,not_false_eq_true,and_self,X6,Wu];rfl
      ·simp only[Qd K0,Qd K1,Qj (And.intro K2 k3),Qj m1,Qj k3,Qa,Qd m2,Qd K3,false_and,K1,K3,m2,and_false,Wu,Wo];rfl
     ·simp only[Qd K0,Qd K1,k3,and_false,Qd K3,false_and,K1,K3,Wu];rfl
    ·by_cases K3:240<=c0.toNat/\c0.toNat<=244
     ·by_cases k4:4<=n
      ·have k3:3<=n:=by omega
       by_cases m2:128<=c2.toNat/\c2.toNat<=191
       ·by_cases m3:128<=c3.toNat/\c3.toNat<=191
        ·by_cases y1:c0.toNat=240/\c1.toNat<144
         ·simp only[Qd K0,Qd K1,Qd K2,K2,false_and,Qj (And.intro K3 k4),Qj m1,Qj k3,Qj k4,Qa,Qj m2,Qj m3,eq_true y1,X6,K1,eq_true y1,not_true_eq_false,and_false,Wu];rfl
         ·by_cases y2:c0.toNat=244/\143<c1.toNat
          ·simp only[Qd K0,Qd K1,Qd K2,K2,false_and,Qj (And.intro K3 k4),Qj m1,Qj k3,Qj k4,Qa,Qj m2,Qj m3,Qd y1,eq_true y2,X6,K1,eq_true y2,not_true_eq_false,and_false,Wu];rfl
          ·simp only[Qd K0,Qd K1,Qd K2,K2,false_and,Qj (And.intro K3 k4),Qj m1,Qj k3,Qj k4,Qa,Qj m2,Qj m3,Qd y1,Qd y2,K1,K3,k4,m1,m2,m3,y1,y2,not_false_eq_true,and_self,X6,Wu];rfl
        ·simp only[Qd K0,Qd K1,Qd K2,K2,false_and,Qj (And.intro K3 k4),Qj m1,Qj k3,Qj k4,Qa,Qj m2,Qd m3,K1,m3,and_false,Wu,Wo];rfl
       ·simp only[Qd K0,Qd K1,Qd K2,K2,false_and,Qj (And.intro K3 k4),Qj m1,Qj k3,Qa,Qd m2,K1,m2,and_false,Wu,Wo];rfl
      ·simp only[Qd K0,Qd K1,Qd K2,K2,false_and,k4,and_false,K1,Wu];rfl
     ·simp only[Qd K0,Qd K1,Qd K2,Qd K3,K1,K2,K3,false_and,Wu];rfl
  ·simp[K0,m1]
 ·rw[Qd h1]
  simp only[F.bw,F.bv,F.a8,F.aQ,A.ba,Xw]
  unfold widN
  have w0:(c0.toNat:Int)<128↔c0.toNat<128:=⟨fun h=>by omega,fun h=>by omega⟩
  by_cases h2:c0.toNat<128
  ·rw[Qj (w0.2 h2),Qj h2];rfl
  ·have a1: ¬((194<=c0.toNat/\c0.toNat<=223)/\2<=s.size-p/\128<=c1.toNat/\c1.toNat<=191):=fun h=>by omega
   have a2: ¬((224<=c0.toNat/\c0.toNat<=239)/\3<=s.size-p/\(128<=c1.toNat/\c1.toNat<=191)/\(128<=c2.toNat/\c2.toNat<=191)/\¬(c0.toNat=224/\c1.toNat<160)/\¬(c0.toNat=237/\159<c1.toNat)):=fun h=>by omega
   have a3: ¬((240<=c0.toNat/\c0.toNat<=244)/\4<=s.size-p/\(128<=c1.toNat/\c1.toNat<=191)/\(128<=c2.toNat/\c2.toNat<=191)/\(128<=c3.toNat/\c3.toNat<=191)/\¬(c0.toNat=240/\c1.toNat<144)/\¬(c0.toNat=244/\143<c1.toNat)):=fun h=>by omega
   rw[Qd (fun h=>h2 (w0.1 h)),Qd h2,Qd a1,Qd a2,Qd a3]
   simp only[Wo,Wu]
   rw[Qd (fun h=>by omega),Qd (fun h=>by omega),Qd (fun h=>by omega)];rfl
def vld (s:ByteArray):Nat->Nat->Bool
 |0,_=>true
 |n+1,p=>if p<s.size then(if wid s p=0 then false else vld s n (p+wid s p))else true
def cnt (s:ByteArray):Nat->Nat->Nat
 |0,_=>0
 |n+1,p=>if p<s.size then 1+cnt s n (p+(Utf8.decode s p).2)else 0
theorem Valid_eq (s:ByteArray)(hs:s.size<=5000):F.cD s=some (vld s s.size 0):=by
 have loop: ∀(n p f:Nat),s.size-p<=n->n<f->p<=5010->F.a9 s f (p:Int)=some (vld s n p):=by
  intro n
  induction n with
  |zero=>
   intro p f hp hf _
   obtain⟨f,rfl⟩: ∃f',f=f'+1:=⟨f-1,by omega⟩
   rw[F.a9,Qd (by omega)];rfl
  |succ n ih=>
   intro p f hp hf hp5
   obtain⟨f,rfl⟩: ∃f',f=f'+1:=⟨f-1,by omega⟩
   rw[F.a9,vld]
   by_cases h:p<s.size
   ·rw[Qj (by omega),Qj h,width_eq s p h hs,Qa]
    have:=wid_le h
    by_cases hw:wid s p=0
    ·rw[Qj (by omega),Qj hw]
    ·rw[Qd (by omega),Qd hw,A.gd1 ⟨by omega,by omega⟩]
     have e:(p:Int)+(wid s p:Int)=((p+wid s p:Nat):Int):=by omega
     rw[e];exact ih _ f (by omega) (by omega) (by omega)
   ·rw[Qd (by omega),Qd h]
 exact loop s.size 0 A.FU (by omega) (by have:=Qai;omega) (by omega)
theorem validD_eq (s:ByteArray):Lib.validD s.data.toList=vld s s.size 0:=by
 have loop: ∀(n p:Nat),Lib.validGoD n (s.data.toList.drop p)=vld s n p:=by
  intro n
  induction n with
  |zero=>intro p;rfl
  |succ n ih=>
   intro p
   rw[Lib.validGoD,vld]
   by_cases h:p<s.size
   ·have hne:s.data.toList.drop p≠[]:=by rw[drop_bat h];simp
    rw[Qd hne,Qj h,Lib.decodeL_drop,Xo]
    by_cases hw:Utf8.decode s p=(65533,1)
    ·rw[Qj (by rw[hw];exact⟨rfl,rfl⟩),Qj (by unfold wid;rw[Qj hw])]
    ·have e:wid s p=(Utf8.decode s p).2:=by unfold wid;rw[Qd hw]
     rw[Qd (fun h2=>hw (Prod.ext h2.1 h2.2)),Qd (by rw[e];have:=width_pos s p;omega),ih,e]
   ·rw[Qj (drop_end h),Qd h]
 have:=loop s.size 0
 rw[Yv]at this
 exact this
abbrev Rec:=Int×ByteArray
def okT (s:ByteArray):Bool:=decide (s.size<=64)&&vld s s.size 0
theorem Qgs (r:Rec):F.bE r=some (if okT r.2=true then 0 else 50):=by
 rw[F.bE]
 unfold okT
 by_cases h:r.2.size<=64
 ·rw[Qd (by omega),F.a7,validD_eq,Qa,F.bC,Wc h,Y9]
  cases vld r.2 r.2.size 0<;>rfl
 ·rw[Qj (by omega),F.bC,Qj rfl,Xc h];rfl
theorem Qhk (r:Rec):F.cc r=some (if okT r.2=true then 0 else 50):=by
 rw[F.cc]
 unfold okT
 by_cases h:r.2.size<=64
 ·rw[Qd (by omega),Valid_eq _ (by omega),Qa,F.bx,Wc h,Y9]
  cases vld r.2 r.2.size 0<;>rfl
 ·rw[Qj (by omega),F.bx,Qj rfl,Xc h];rfl
def cI (a b:Int):Int:=if a<b then-1 else if b<a then 1 else 0
theorem cmp64_eq (a b:Int):F.a0 a b=some (cI a b):=by
 rw[F.a0]
 simp only[F.bo,Qa,ne_eq,not_true,decide_false,Wo,Wu]
 unfold cI
 by_cases h1:a<b
 ·rw[Qj h1,Qj h1]
 ·rw[Qd h1,Qd h1]
  by_cases h2:b<a
  ·rw[Qj h2,Qj h2]
  ·rw[Qd h2,Qd h2]
def cS (a b:ByteArray):Int:=if bl a b=true then-1 else if a=b then 0 else 1
theorem tl_eq {a b:ByteArray}:(a.toList==b.toList)=decide (a=b):=by
 rw[Lib.toList_data,Lib.toList_data]
 by_cases h:a=b
 ·subst h;simp
 ·rw[Xc h]
  exact beq_eq_false_iff_ne.2 fun e=>h (ba_eq e)
theorem cmps_eq (a b:ByteArray):F.ay a b=some (cS a b):=by
 rw[F.ay]
 simp only[F.ba,Qa,ne_eq,not_true,decide_false,Wo,Wu,tl_eq]
 unfold cS bl
 by_cases h1:Op.bytesLess a.toList b.toList=true
 ·rw[Qj h1,Qj h1]
 ·rw[Qd h1,Qd h1]
  rw[Bool.not_eq_true]at h1
  by_cases h2:a=b
  ·subst h2;rw[h1];simp
  ·rw[h1,Xc h2];simp[h2]
theorem cB_eq: ∀a b:List UInt8,Lib.compareBytes a b=if Op.bytesLess a b=true then-1 else if a=b then 0 else 1
 | [],[]=>rfl
 | [],_::_=>rfl
 |_::_,[]=>by simp[Lib.compareBytes,Op.bytesLess]
 |x::a,y::b=>by
  unfold Lib.compareBytes Op.bytesLess
  by_cases h1:x<y
  ·simp[h1]
  ·by_cases h2:y<x
   ·have hne:x≠y:=fun e=>by subst e;exact h1 h2
    simp[h1,h2,hne]
   ·have e:x=y:=UInt8.le_antisymm (UInt8.not_lt.1 h2) (UInt8.not_lt.1 h1)
    subst e
    rw[Qd h1,Qd h1,cB_eq a b]
    simp[h1]
theorem scmp_eq (a b:ByteArray):F.bP a b=some (cS a b):=by
 rw[F.bP,cB_eq]
 unfold cS bl
 rw[Lib.toList_data,Lib.toList_data]
 by_cases h:a=b
 ·subst h;simp
 ·have:a.data.toList≠b.data.toList:=fun e=>h (ba_eq e)
  simp[h,this]
theorem or_eq (l:List Int)(hl:l.length<=100):F.cm l=some ((l.find? fun x=>decide (x≠0)).getD 0):=
 A.lp0 l (fun f y=>F.aX l f y) (fun _ r=>some ((r.find? fun x=>decide (x≠0)).getD 0))
  (fun f=>by rw[F.aX,Qd (by omega)];rfl)
  (fun f k x hx hk ih=>by
   rw[F.aX,Qj (by omega),A.ixn hx,Qa,List.find?_cons]
   by_cases h:x=0
   ·rw[Qd (fun h2=>h2 h),A.gd1 ⟨by omega,by omega⟩,ih,Xc (fun h2=>h2 h)]
   ·rw[Qj h,Wc h];rfl)
  (by have:=Qai;omega)
theorem or2 (a b:Int):F.cm [a,b]=some (if a≠0 then a else b):=by
 rw[or_eq _ (by simp)]
 by_cases h:a=0
 ·subst h
  by_cases h2:b=0
  ·subst h2;rfl
  ·simp[h2]
 ·simp[h]
theorem cS_cases (a b:ByteArray):(bl a b=true/\cS a b= -1)\/(a=b/\bl a b=false/\cS a b=0)\/(a≠b/\bl a b=false/\bl b a=true/\cS a b=1):=by
 unfold cS
 cases h:bl a b with
 |true=>exact .inl ⟨rfl,by simp⟩
 |false=>
  by_cases h2:a=b
  ·exact .inr (.inl ⟨h2,rfl,by simp[h2]⟩)
  ·refine .inr (.inr ⟨h2,rfl,?_,by simp[h2]⟩)
   cases h3:bl b a with
   |true=>rfl
   |false=>exact absurd (bl_tri h h3) h2
theorem Qgp (a b:Int):(a<b/\cI a b= -1)\/(a=b/\cI a b=0)\/(b<a/\cI a b=1):=by
 unfold cI
 by_cases h:a<b
 ·exact .inl ⟨h,Qj h⟩
 ·by_cases h2:b<a
  ·exact .inr (.inr ⟨h2,by rw[Qd h,Qj h2]⟩)
  ·exact .inr (.inl ⟨by omega,by rw[Qd h,Qd h2]⟩)
def cR (a b:Int×ByteArray):Int:=if cI a.1 b.1≠0 then cI a.1 b.1 else cS a.2 b.2
theorem cR_lt (a b:Int×ByteArray):decide (cR a b<0)=rl a b:=by
 unfold cR rl
 rcases Qgp a.1 b.1 with⟨h,e⟩|⟨h,e⟩|⟨h,e⟩
 ·rw[e];simp[h]
 ·rw[e,h]
  simp only[ne_eq,not_true,Wu,Int.lt_irrefl,decide_false,Jr,decide_true,Y9]
  rcases cS_cases a.2 b.2 with⟨h2,e2⟩|⟨h2,h3,e2⟩|⟨h2,h3,h4,e2⟩
  ·rw[e2,h2];rfl
  ·rw[e2,h3];rfl
  ·rw[e2,h3];rfl
 ·rw[e]
  have h1: ¬a.1<b.1:=by omega
  have h2: ¬a.1=b.1:=by omega
  simp[h1,h2]
theorem Qez (a b:Int×ByteArray):F.bK a b=some (cR a b):=by
 rw[F.bK]
 unfold cR
 rcases Qgp a.1 b.1 with⟨h,e⟩|⟨h,e⟩|⟨h,e⟩
 ·rw[Qj h,e];rfl
 ·rw[Qd (by omega),Qd (by omega),e]
  simp only[tl_eq]
  unfold cS bl
  by_cases h1:Op.bytesLess a.2.toList b.2.toList=true
  ·rw[Qj h1,Qj h1];rfl
  ·rw[Qd h1,Qd h1]
   rw[Bool.not_eq_true]at h1
   rw[h1]
   by_cases h2:a.2=b.2
   ·simp[h2]
   ·simp[h2]
 ·rw[Qd (by omega),Qj h,e];rfl
theorem Qfb (a b:Rc):F.bM a b=some (cR a b):=by
 rw[F.bM,cmp64_eq,Qa,scmp_eq,Qa,or2,Qa];rfl
theorem put5_eq (l:List Mn)(r:Rc)(v:Int)(hl:l.length<=1000)(hs:SM l)(hv:1<=v/\v<=1048576)(hb: ∀m,m∈l->1<=m.2/\m.2<=4611686018427387904):F.cq l r v=some (bput l r v):=by
 have cr: ∀a b:Rc,(cR a b<0↔rl a b=true)/\(cR a b=0↔a=b):=fun a b=>by
  have h1:=cR_lt a b
  refine⟨by rw[<-h1];simp,?_⟩
  unfold cR
  rcases Qgp a.1 b.1 with⟨h,e⟩|⟨h,e⟩|⟨h,e⟩
  ·rw[e,Qj (by decide)];exact⟨fun h=>by omega,fun e2=>by rw[e2]at h;omega⟩
  ·rw[e,Qd (by simp)]
   rcases cS_cases a.2 b.2 with⟨h2,e2⟩|⟨h2,h3,e2⟩|⟨h2,h3,h4,e2⟩
   ·rw[e2];refine⟨fun h=>by omega,fun e3=>?_⟩;rw[e3,bl_irr]at h2;cases h2
   ·rw[e2];exact⟨fun _=>Prod.ext h h2,fun _=>rfl⟩
   ·rw[e2];exact⟨fun h=>by omega,fun e3=>absurd (by rw[e3]) h2⟩
  ·rw[e,Qj (by decide)];exact⟨fun h=>by omega,fun e2=>by rw[e2]at h;omega⟩
 have:=A.lp l (fun f (s:List Mn×Bool) y=>F.ar l r v f s.1 s.2 y) (fun k t s=>if s.2=true then some (s.1++t)else some (s.1++bput t r v)) (fun k s=>(s.2=false->s.1.length<=k)/\(s.2=true->s.1.length<=k+1/\∀x,x∈l.drop k->rl r x.1=true))
  (fun f s hp=>by
   show F.ar l r v (f+1) s.1 s.2 _=_
   rw[F.ar,Qd (by omega)]
   cases hs2:s.2 with
   |true=>rw[Bool.not_true,Qd (by simp),Qj rfl,F.bU,W8]
   |false=>rw[Bool.not_false,Qj rfl,A.gd1 (by have:=hp.1 hs2;simp only[Qu,Ww];omega),Qd (by simp),F.bU];rfl)
  (fun f s k x hx hk hp ih=>by
   have hxb:=hb x (Qt hx)
   have hsr:SM (x::l.drop (k+1)):=by rw[<-A.dropx hx];exact hs.sublist (List.drop_sublist _ _)
   have hd:=(Wi.1 hsr).1
   have hcr:=cr r x.1
   show F.ar l r v (f+1) s.1 s.2 _=_
   have j2: ∀(xs:List Mn) (d:Bool),(d=false->xs.length<=k)->(d=true->xs.length<=k+1/\∀y,y∈l.drop (k+1)->rl r y.1=true)->r≠x.1->F.bF (F.ar l r v f) l r v (k:Int) (cR r x.1) xs d=if d=true then some (xs++x::l.drop (k+1))else some (xs++x::bput (l.drop (k+1)) r v):=fun xs d h1 h2 hne=>by
    have hlen:xs.length<=k+1:=by
     cases d with
     |false=>have:=h1 rfl;omega
     |true=>exact(h2 rfl).1
    rw[F.bF,Qd (fun h=>hne (hcr.2.1 h)),A.ixn hx,Qa,A.gd1 (by simp only[Qu,Ww];omega),F.bT,A.gd1 ⟨by omega,by omega⟩]
    have:=ih (xs++[x],d) ⟨fun e=>by have:=h1 e;simp only[Wg,Qu,Ww];omega,fun e=>⟨by have:=(h2 e).1;simp only[Wg,Qu,Ww];omega,(h2 e).2⟩⟩
    refine this.trans ?_
    cases d<;>simp
   rw[F.ar,Qj (by omega),A.ixn hx,Qa]
   show(F.bK r x.1).bind _=_
   rw[Qez,Qa]
   cases hs2:s.2 with
   |true=>
    obtain⟨hl1,hl2⟩:=hp.2 hs2
    have hlt:=hl2 x (by rw[A.dropx hx];exact Qg ..)
    rw[Bool.not_true,cond_false,Qd (by simp),Qj rfl,j2 s.1 true (fun h=>by cases h) (fun _=>⟨hl1,fun y hy=>hl2 y (by rw[A.dropx hx];exact Qf _ hy)⟩) (rl_ne hlt)]
    rfl
   |false=>
    have hl1:=hp.1 hs2
    rw[Bool.not_false,cond_true,Qd (show ¬(false=true) by simp)]
    by_cases h1:rl r x.1=true
    ·rw[Qj (Wc (hcr.1.2 h1)),A.gd1 (by simp only[Qu,Ww];omega),j2 (s.1++[(r,v)]) true (fun h=>by cases h) (fun _=>⟨by simp only[Wg,Qu,Ww];omega,fun y hy=>rl_tr h1 (hd y hy)⟩) (rl_ne h1),Qj rfl]
     unfold bput
     rw[Qd (fun e=>rl_ne h1 e.symm),Qj h1]
     simp
    ·rw[Qd (by intro h;exact h1 (hcr.1.1 (Wf h)))]
     by_cases h2:r=x.1
     ·rw[F.bF,Qj (hcr.2.2 h2),A.ixn hx,Qa,A.gd1 ⟨by omega,by omega⟩,A.gd1 (by simp only[Qu,Ww];omega),F.bT,A.gd1 ⟨by omega,by omega⟩]
      have:=ih (s.1++[(r,x.2+v)],true) ⟨fun h=>(by cases h),fun _=>⟨by simp only[Wg,Qu,Ww];omega,fun y hy=>by rw[h2];exact hd y hy⟩⟩
      refine this.trans ?_
      unfold bput
      rw[Qj h2.symm]
      simp
     ·rw[j2 s.1 false (fun _=>hl1) (fun h=>by cases h) h2,Qd (by simp)]
      conv=>rhs;unfold bput
      rw[Qd (fun e=>h2 e.symm),Qd h1])
  (by have:=Qai;omega) ([],false) ⟨by simp,by simp⟩
 rw[F.cq]
 exact this
theorem over_eq (l:List Mn)(hl:l.length<=1000):F.cz l=some (if(l.any fun m=>decide ((1048576:Int)<m.2))=true then 51 else 0):=by
 have:=A.lp0 l (fun f y=>F.br l f y) (fun _ r=>some (if(r.any fun m=>decide ((1048576:Int)<m.2))=true then 51 else 0))
  (fun f=>by rw[F.br,Qd (by omega)];rfl)
  (fun f k x hx hk ih=>by
   rw[F.br,Qj (by omega),A.ixn hx,Qa,Jq]
   by_cases h:(1048576:Int)<x.2
   ·rw[Qj h,Wc h];rfl
   ·rw[Qd h,Xc h,A.gd1 ⟨by omega,by omega⟩,ih];rfl)
  (by have:=Qai;omega)
 rw[F.cz]
 exact this
theorem w1_mem: ∀{l:List Mn},(∀m,m∈l->1<=m.2)->∀m,m∈l->m.2<=wS (fun _=>1) l
 |x::l,h,m,hm=>by
  have h1:=wS_nn (w:=fun _=>1) (fun _=>by decide) fun m hm=>h m (Qf _ hm)
  have hx:=h x (Qg ..)
  unfold wS
  rcases Qk.1 hm with rfl|hm
  ·omega
  ·have:=w1_mem (fun m hm=>h m (Qf _ hm)) m hm;omega
structure Acc (k:Nat) (l:List Mn):Prop where
 sm:SM l
 one: ∀m,m∈l->1<=m.2
 w:wS (fun _=>1) l<=k*1048576
 len:l.length<=k
theorem Acc.put {k:Nat}{l:List Mn}(h:Acc k l){m:Mn}(h1:1<=m.2)(h2:m.2<=1048576):Acc (k+1) (bput l m.1 m.2):=
 ⟨bput_sm h.sm,Qgl h1 h.one,by rw[bput_w];have:=h.w;omega,by have:=h.len;have:=bput_len (r:=m.1) (n:=m.2) (l:=l);omega⟩
theorem Acc.eq {k:Nat}{l:List Mn}(h:Acc k l)(hk:k<=900){m:Mn}(h1:1<=m.2)(h2:m.2<=1048576):F.cq l m.1 m.2=some (bput l m.1 m.2):=
 put5_eq l m.1 m.2 (by have:=h.len;omega) h.sm ⟨h1,h2⟩ fun x hx=>⟨h.one x hx,by have:=w1_mem h.one x hx;have:=h.w;omega⟩
theorem sk_sort {α:Type}[DecidableEq α]{k:α->Rc}{l st:List α}(cmp:α->α->Option Int)(hc: ∀a b,cmp a b=some (cR (k a) (k b)))(hp:l.Perm st)(hs:SK k st):A.srtF cmp l=some st:=by
 have e:A.cl0 cmp=fun a b=>rl (k a) (k b):=by
  funext a b
  show(match cmp a b with|some c=>decide (c<0)|none=>false)=_
  rw[hc];exact cR_lt _ _
 have inj: ∀a,a∈l->∀b,b∈l->k a=k b->a=b:=fun a ha b hb h=>sk_inj hs (hp.mem_iff.1 ha) (hp.mem_iff.1 hb) h
 have O:A.OrdOn (fun a b:α=>rl (k a) (k b)) l:=⟨fun x _ y _ h=>rl_asy h,fun x hx y hy h1 h2=>inj x hx y hy (rl_tri h1 h2),fun x _ y _ z _ h1 h2=>rl_tr h1 h2⟩
 have ob:A.ordB cmp l=true:=by
  unfold A.ordB
  rw[Qx]
  intro x hx
  rw[Qx]
  intro y hy
  rw[e,Qe,Qe]
  refine⟨⟨by rw[hc];rfl,?_⟩,?_⟩
  ·show(bif rl (k x) (k y)then !rl (k y) (k x)else rl (k y) (k x)||decide (x=y))=true
   cases h1:rl (k x) (k y)with
   |true=>rw[rl_asy h1];rfl
   |false=>
    cases h2:rl (k y) (k x)with
    |true=>rfl
    |false=>rw[Wc (inj x hx y hy (rl_tri h1 h2))];rfl
  ·rw[Qx]
   intro z hz
   show(!(rl (k x) (k y)&&rl (k y) (k z))||rl (k x) (k z))=true
   cases h1:rl (k x) (k y)with
   |false=>rfl
   |true=>
    cases h2:rl (k y) (k z)with
    |false=>rfl
    |true=>rw[rl_tr h1 h2];rfl
 rw[A.srtF,Qj ob,e]
 exact Qv some (A.srt_uniq O hp.symm (hs.imp fun h=>rl_asy h)).symm
end Go.Proofs.YtlbdgahbamalcaaGreatDoor
end
section
namespace Go.Proofs.YtlbdgahbamalcaaGreatDoor
open Go.RowKit Go.Graph Go.Utf Go.Ent Go.Opr
structure Bg (B:List Mn):Prop where
 sm:SM B
 num: ∀m,m∈B->1<=m.2/\m.2<=24
 len:B.length<=24
 key: ∀m,m∈B->A.h6 m.1.1/\m.1.2.size<=maxLen
theorem sm_nd {l:List Mn}(h:SM l):(l.map Prod.fst).Nodup:=by
 unfold List.Nodup
 rw[List.pairwise_map]
 exact h.imp fun h=>rl_ne h
theorem nd_of {κ α:Type}{l:List (κ×α)}(h:(l.map Prod.fst).Nodup):l.Nodup:=by
 unfold List.Nodup at h
 rw[List.pairwise_map]at h
 exact h.imp fun h e=>h (Qv _ e)
theorem mem_mins {κ α:Type}[DecidableEq κ]{r:κ}{v:α}{p:κ×α}: ∀{m:List (κ×α)},(m.map Prod.fst).Nodup->(p∈Z.mins m r v↔p=(r,v)\/(p.1≠r/\p∈m))
 | [],_=>by simp[Z.mins]
 |(a,y)::m,h=>by
  rw[Qz,Wv]at h
  unfold Z.mins
  by_cases e:r=a
  ·subst e
   rw[Qj rfl,Qk,Qk]
   constructor
   ·rintro(h2|h2)
    ·exact .inl h2
    ·exact .inr ⟨fun e=>h.1 (e▸(Xx (f:=Prod.fst) h2:p.1∈m.map Prod.fst)),.inr h2⟩
   ·rintro(h2|⟨h2,h3|h3⟩)
    ·exact .inl h2
    ·exact absurd (by rw[h3]) h2
    ·exact .inr h3
  ·rw[Qd e,Qk,Qk,mem_mins h.2]
   constructor
   ·rintro(h2|h2|h2)
    ·exact .inr ⟨by rw[h2];exact fun h=>e h.symm,.inl h2⟩
    ·exact .inl h2
    ·exact .inr ⟨h2.1,.inr h2.2⟩
   ·rintro(h2|⟨h2,h3|h3⟩)
    ·exact .inr (.inl h2)
    ·exact .inl h3
    ·exact .inr (.inr ⟨h2,h3⟩)
theorem mget_of {κ α:Type}[DecidableEq κ]{z:α}{m:List (κ×α)}(h:(m.map Prod.fst).Nodup){r:κ}{v:α}(hp:(r,v)∈m):Z.mget z m r=v:=by
 obtain⟨i,hi⟩:=Wr.1 hp
 exact(Z.mget_get (p:=(r,v)) h hi).1
theorem mget_ext {κ α:Type}[DecidableEq κ]{z:α}{m l:List (κ×α)}(hm:(m.map Prod.fst).Nodup)(hl:(l.map Prod.fst).Nodup)(h: ∀p,p∈m↔p∈l)(r:κ):Z.mget z m r=Z.mget z l r:=by
 cases h1:Z.mhas m r with
 |true=>exact(mget_of hl ((h _).1 (Z.mget_mem (z:=z) h1))).symm
 |false=>
  rw[Z.mget_none h1,Z.mget_none]
  cases h2:Z.mhas l r with
  |false=>rfl
  |true=>rw[(Z.mhas_iff m r).2 (Xx (f:=Prod.fst) ((h _).2 (Z.mget_mem (z:=z) h2)))]at h1;cases h1
theorem mem_bput {r:Rc}{n:Int}{p:Mn}: ∀{l:List Mn},SM l->(p∈bput l r n↔p=(r,Z.mget 0 l r+n)\/(p.1≠r/\p∈l))
 | [],_=>by simp[bput,Z.mget]
 |x::l,h=>by
  have hd:=(Wi.1 h).1
  have ht:=(Wi.1 h).2
  obtain⟨a,y⟩:=x
  show p∈(if a=r then(r,y+n)::l else if rl r a=true then(r,n)::(a,y)::l else(a,y)::bput l r n)↔p=(r,(if r=a then y else Z.mget 0 l r)+n)\/(p.1≠r/\p∈(a,y)::l)
  by_cases e:a=r
  ·subst e
   rw[Qj rfl,Qj rfl,Qk,Qk]
   constructor
   ·rintro(h2|h2)
    ·exact .inl h2
    ·refine .inr ⟨fun e=>?_,.inr h2⟩
     have:rl a p.1=true:=hd _ h2
     rw[e,rl_irr]at this;cases this
   ·rintro(h2|⟨h2,h3|h3⟩)
    ·exact .inl h2
    ·exact absurd (by rw[h3]) h2
    ·exact .inr h3
  ·rw[Qd e,Qd (show ¬r=a from fun h=>e h.symm)]
   by_cases e2:rl r a=true
   ·have hn:Z.mhas l r=false:=by
     cases h2:Z.mhas l r with
     |false=>rfl
     |true=>
      obtain⟨q,hq,rfl⟩:=Wx.1 ((Z.mhas_iff l r).1 h2)
      have:rl a q.1=true:=hd q hq
      rw[rl_asy this]at e2;cases e2
    rw[Qj e2,Z.mget_none hn,Qk]
    constructor
    ·rintro(h2|h2)
     ·rw[h2];exact .inl (by simp)
     ·refine .inr ⟨fun e3=>?_,h2⟩
      rcases Qk.1 h2 with h4|h4
      ·rw[h4]at e3;exact e e3
      ·rw[(Z.mhas_iff l r).2 (e3▸Xx h4)]at hn;cases hn
    ·rintro(h2|h2)
     ·exact .inl (by rw[h2];simp)
     ·exact .inr h2.2
   ·rw[Qd e2,Qk,Qk,mem_bput ht]
    constructor
    ·rintro(h2|h2|h2)
     ·exact .inr ⟨by rw[h2];exact e,.inl h2⟩
     ·exact .inl h2
     ·exact .inr ⟨h2.1,.inr h2.2⟩
    ·rintro(h2|⟨h2,h3|h3⟩)
     ·exact .inr (.inl h2)
     ·exact .inl h3
     ·exact .inr (.inr ⟨h2,h3⟩)
def Qay (l:List Mn)(L:List Rc):List Mn:=L.foldl (fun l r=>bput l r 1) l
def mapF1 (m:List (Rc×Int))(L:List Rc):List (Rc×Int):=L.foldl (fun m r=>Z.mins m r (Z.mget 0 m r+1)) m
theorem o_bb: ∀(L:List Rc) (l:List Mn),SM l->(∀m,m∈l->1<=m.2)->SM (Qay l L)/\(∀m,m∈Qay l L->1<=m.2)/\wS (fun _=>1) (Qay l L)=wS (fun _=>1) l+(L.length:Int)/\(Qay l L).length<=l.length+L.length/\(∀r,r∈(Qay l L).map (·.1)->r∈l.map (·.1)\/r∈L)
 | [],l,h1,h2=>⟨h1,h2,by simp[Qay],by simp[Qay],fun r h=>.inl h⟩
 |x::L,l,h1,h2=>by
  obtain⟨a,b,c,d,e⟩:=o_bb L (bput l x 1) (bput_sm h1) (Qgl (by decide) h2)
  refine⟨a,b,c.trans ?_,?_,fun r h=>?_⟩
  ·rw[bput_w,Qu];omega
  ·have:=bput_len (r:=x) (n:=1) (l:=l)
   have d:(Qay l (x::L)).length<=(bput l x 1).length+L.length:=d
   rw[Qu];omega
  ·rcases e r h with h|h
   ·rcases Qgq.1 h with h|h
    ·exact .inr (by rw[h];exact Qg ..)
    ·exact .inl h
   ·exact .inr (Qf _ h)
theorem o_bc: ∀(L:List Rc) (l:List Mn) (m:List (Rc×Int)),SM l->(m.map Prod.fst).Nodup->(∀p,p∈m↔p∈l)->((mapF1 m L).map Prod.fst).Nodup/\∀p,p∈mapF1 m L↔p∈Qay l L
 | [],l,m,h1,h2,h3=>⟨h2,h3⟩
 |x::L,l,m,h1,h2,h3=>o_bc L _ _ (bput_sm h1) (Z.mins_nodup h2 _ _) fun p=>by
  rw[mem_mins h2,mem_bput h1,mget_ext h2 (sm_nd h1) h3,h3]
theorem Qhi: ∀(L:List Rc) (m:List (Rc×Int)),(mapF1 m L).length<=m.length+L.length
 | [],m=>by simp[mapF1]
 |x::L,m=>by
  have h1:(mapF1 m (x::L)).length<=(Z.mins m x (Z.mget 0 m x+1)).length+L.length:=Qhi L _
  have h2:(Z.mins m x (Z.mget 0 m x+1)).length<=m.length+1:=by
   have:=Qv List.length (Z.mins_keys m x (Z.mget 0 m x+1))
   rw[Wb]at this
   rw[this]
   split<;>simp
  rw[Qu];omega
theorem Bg_of (L:List Rc)(hl:L.length<=24)(hk: ∀r,r∈L->A.h6 r.1/\r.2.size<=maxLen):Bg (Qay [] L):=by
 obtain⟨a,b,c,d,e⟩:=o_bb L [] List.Pairwise.nil (by simp)
 refine⟨a,fun m hm=>⟨b m hm,?_⟩,by simp at d;omega,fun m hm=>?_⟩
 ·have:=w1_mem b m hm
  simp[wS]at c
  omega
 ·rcases e m.1 (Xx hm)with h|h
  ·cases h
  ·exact hk _ h
theorem Bag_eq (L:List Rc)(hl:L.length<=24):F.cI L=some (if(L.all fun r=>okT r.2)=true then(Qay [] L,0)else([],50)):=by
 have hFU:=Qai
 have second:F.aO L A.FU [] 0=some (Qay [] L,0):=
  A.lp L (fun f (s:List Mn) y=>F.aO L f s y) (fun _ r s=>some (Qay s r,0)) (fun k s=>Acc k s/\wS (fun _=>1) s=k)
   (fun f s hp=>by
    show F.aO L (f+1) s _=_
    rw[F.aO,Qd (by omega),over_eq s (by have:=hp.1.len;omega),Qa]
    have:(s.any fun m=>decide ((1048576:Int)<m.2))=false:=by
     rw[Yt]
     intro m hm
     have:=w1_mem hp.1.one m hm
     rw[hp.2]at this
     simp;omega
    rw[this];rfl)
   (fun f s k x hx hk hp ih=>by
    show F.aO L (f+1) s _=_
    rw[F.aO,Qj (by omega),A.ixn hx,Qa]
    show(F.cq s x 1).bind _=_
    rw[hp.1.eq (by omega) (m:=(x,1)) (show(1:Int)<=1 by decide) (show(1:Int)<=1048576 by decide),Qa,A.gd1 ⟨by omega,by omega⟩]
    refine ih (bput s x 1) ⟨hp.1.put (m:=(x,1)) (show(1:Int)<=1 by decide) (show(1:Int)<=1048576 by decide),?_⟩
    rw[bput_w,hp.2];omega)
   (by omega) [] ⟨⟨List.Pairwise.nil,by simp,by simp[wS],by simp⟩,by simp[wS]⟩
 have first:F.bj L A.FU 0=some (if(L.all fun r=>okT r.2)=true then(Qay [] L,0)else([],50)):=
  A.lp0 L (fun f y=>F.bj L f y) (fun k r=>some (if(r.all fun r=>okT r.2)=true then(Qay [] L,0)else([],50)))
   (fun f=>by rw[F.bj,Qd (by omega),second];rfl)
   (fun f k x hx hk ih=>by
    rw[F.bj,Qj (by omega),A.ixn hx,Qa]
    show(F.cc x).bind _=_
    rw[Qhk,Qa,Js]
    cases ho:okT x.2 with
    |true=>rw[Qj rfl,Qd (by simp),A.gd1 ⟨by omega,by omega⟩,ih];rfl
    |false=>rfl)
   (by omega)
 rw[F.cI]
 exact first
theorem add_eq (m:List (Rc×Int))(r:Rc)(n:Int)(h0:0<=Z.mget 0 m r+n)(h1:Z.mget 0 m r+n<=1048576):F.aI m r n=some (Z.mins m r (Z.mget 0 m r+n)):=by
 rw[F.aI]
 show A.gd (Z.R64 (Z.mget 0 m r+n)) (if(1048576:Int)<Z.mget 0 (Z.mins m r (Z.mget 0 m r+n)) r then none else _)=_
 rw[A.gd1 ⟨by omega,by omega⟩,Z.mget_ins,Qj rfl,Qd (by omega)]
theorem cmpM (a b:Mn):F.aN a b=some (cR a.1 b.1):=by
 rw[F.aN]
 show(F.bM a.1 b.1).bind _=_
 rw[Qfb];rfl
theorem list_eq (m:List (Rc×Int))(st:List Mn)(hp:m.Perm st)(hs:SM st)(hl:m.length<=1000000)(hk: ∀p,p∈m->A.h6 p.1.1/\p.1.2.size<=maxLen):F.ax m=some st:=by
 have hFU:=Qai
 rw[F.ax]
 refine A.dem_all m (fun p:Rc×Int=>p) (fun f sn xs=>F.a1 m f sn xs) (fun xs=>(F.b xs).bind fun r25=>some r25)
  (fun p xs o=>A.gd (decide (A.h6 p.1.1)=true/\p.1.2.size<=maxLen) (A.gd ((List.length (α:=Mn) xs+List.length (α:=Mn) [p])*32<=140737488355328) o)) st (fun f sn xs=>rfl) (fun p xs o hp hx=>?_) (fun ys hy=>?_) (by omega)
 ·show A.gd _ (A.gd _ o)=o
  rw[A.gd1 ⟨Wc (hk p hp).1,(hk p hp).2⟩,A.gd1 (by simp only[Qu,Ww];omega)]
 ·rw[List.map_id']at hy
  have hyp:=hy.trans hp
  have hylen:=hy.length_eq
  show(F.b ys).bind (fun r=>some r)=some st
  rw[F.b,A.gd1 (by omega),sk_sort (k:=fun m:Mn=>m.1) _ cmpM hyp hs];rfl
def scB (k:Nat)(B:List Mn):List Mn:=if k=0 then []else B.map fun m=>(m.1,m.2*(k:Int))
theorem scB_sm {B:List Mn}(h:SM B)(k:Nat):SM (scB k B):=by
 unfold scB
 split
 ·exact List.Pairwise.nil
 ·exact List.pairwise_map.2 h
theorem scB_list {B:List Mn}(h:Bg B)(k:Nat):F.ax (scB k B)=some (scB k B):=by
 refine list_eq _ _ (.refl _) (scB_sm h.sm k) ?_ fun p hp=>?_
 ·unfold scB
  have:=h.len
  split
  ·simp
  ·rw[Wb];omega
 ·unfold scB at hp
  split at hp
  ·cases hp
  ·obtain⟨q,hq,rfl⟩:=Wx.1 hp
   exact h.key q hq
theorem mins_at {κ α:Type}[DecidableEq κ]{k:κ}{v w z:α}: ∀{a b:List (κ×α)},k∉a.map Prod.fst->Z.mins (a++(k,v)::b) k w=a++(k,w)::b/\Z.mget z (a++(k,v)::b) k=v
 | [],b,_=>by simp[Z.mins,Z.mget]
 |(c,y)::a,b,h=>by
  rw[Qz,Qk,not_or]at h
  obtain⟨h1,h2⟩:=mins_at (v:=v) (w:=w) (z:=z) (b:=b) h.2
  simp only[Xq,Z.mins,Z.mget,Qd h.1,h1,h2,and_self]
theorem mins_end {κ α:Type}[DecidableEq κ]{k:κ}{w z:α}: ∀{a:List (κ×α)},k∉a.map Prod.fst->Z.mins a k w=a++[(k,w)]/\Z.mget z a k=z
 | [],_=>by simp[Z.mins,Z.mget]
 |(c,y)::a,h=>by
  rw[Qz,Qk,not_or]at h
  obtain⟨h1,h2⟩:=mins_end (w:=w) (z:=z) h.2
  simp only[Xq,Z.mins,Z.mget,Qd h.1,h1,h2,and_self]
def mixB (i j k:Nat)(B:List Mn):List (Rc×Int):=(B.take i).map (fun m=>(m.1,m.2*((j+k:Nat):Int)))++if j=0 then []else(B.drop i).map fun m=>(m.1,m.2*(j:Int))
theorem all_eq {B:List Mn}(h:Bg B)(j k:Nat)(hjk:j+k<=1000):F.ac (scB j B) (scB k B)=some (scB (j+k) B):=by
 have hFU:=Qai
 rw[F.ac]
 by_cases hk:k=0
 ·subst hk
  obtain⟨f,hf⟩: ∃f',A.FU=f'+1:=⟨A.FU-1,by omega⟩
  rw[hf,show scB 0 B=[]from rfl,F.ae,Qd (by simp)];rfl
 have hBl:=h.len
 have hlen:(scB k B).length=B.length:=by unfold scB;rw[Qd hk,Wb]
 have:=A.lp (scB k B) (fun f (s:List (Rc×Int)) y=>F.ae (scB k B) f s y) (fun _ r s=>some (scB (j+k) B)) (fun i s=>s=mixB i j k B)
  (fun f s hp=>by
   show F.ae _ (f+1) s _=_
   have hjk0: ¬j+k=0:=by omega
   rw[F.ae,Qd (by omega),hp,hlen]
   unfold mixB scB
   rw[Qd hjk0,Xj (Qo _),Xd (Qo _)]
   by_cases hj0:j=0
   ·rw[Qj hj0,W8]
   ·rw[Qd hj0,Jh,W8])
  (fun f s i x hx hi hp ih=>by
   show F.ae _ (f+1) s _=_
   rw[hlen]at hi
   obtain⟨y,hy⟩: ∃y,B[i]?=some y:=⟨_,Qh hi⟩
   obtain rfl:x=(y.1,y.2*(k:Int)):=by
    unfold scB at hx
    rw[Qd hk,Qs,hy]at hx
    exact(Ws hx).symm
   have hyb:=h.num y (Qt hy)
   have hnot:y.1∉((B.take i).map fun m=>(m.1,m.2*((j+k:Nat):Int))).map Prod.fst:=by
    rw[Y1]
    intro hm
    obtain⟨q,hq,he⟩:=Wx.1 hm
    obtain⟨q',hq'⟩:=Wr.1 hq
    have hlt:q'<i:=by
     have:=(Qb.1 hq').1
     rw[Qw]at this;omega
    rw[Q6 hlt]at hq'
    have h1:=(Qb.1 hq')
    have h2:=(Qb.1 hy)
    have h3:=Y7.1 h.sm q' i h1.1 h2.1 hlt
    rw[h1.2,h2.2]at h3
    have he:q.1=y.1:=he
    have h3:rl q.1 y.1=true:=h3
    rw[he,rl_irr]at h3;cases h3
   have b1:y.2*(k:Int)<=24*(k:Int):=X4 hyb.2 (by omega)
   have b2:0<=y.2*(k:Int):=Jj (by omega) (by omega)
   have b3:y.2*(j:Int)<=24*(j:Int):=X4 hyb.2 (by omega)
   have b4:0<=y.2*(j:Int):=Jj (by omega) (by omega)
   have step:Z.mget 0 s y.1=y.2*(j:Int)/\Z.mins s y.1 (y.2*(j:Int)+y.2*(k:Int))=mixB (i+1) j k B:=by
    rw[hp]
    unfold mixB
    by_cases hj:j=0
    ·subst hj
     obtain⟨e1,e2⟩:=mins_end (w:=y.2*((0:Nat):Int)+y.2*(k:Int)) (z:=(0:Int)) hnot
     simp only[Qj,W8]
     rw[e1,e2,Xv,hy]
     simp
    ·obtain⟨e1,e2⟩:=mins_at (v:=y.2*(j:Int)) (w:=y.2*(j:Int)+y.2*(k:Int)) (z:=(0:Int)) (b:=(B.drop (i+1)).map fun m=>(m.1,m.2*(j:Int))) hnot
     rw[Qd hj,Qd hj,A.dropx hy,Qz,e1,e2,Xv,hy]
     refine⟨rfl,?_⟩
     simp[Int.mul_add]
   rw[F.ae,Qj (by omega),A.ixn hx,Qa]
   show(F.aI s y.1 (y.2*(k:Int))).bind _=_
   rw[add_eq s y.1 _ (by rw[step.1];omega) (by rw[step.1];omega),Qa,A.gd1 ⟨by omega,by omega⟩,step.1]
   exact ih _ step.2)
  (by omega) (scB j B) (by
   unfold scB mixB
   simp)
 exact this
theorem fill1_eq {α β γ δ:Type}(L:List Rc)(hl:L.length<=24)(a0:_): ∃m,F.r a0 L A.FU [] 0=some (a0,m)/\(m.map Prod.fst).Nodup/\(∀p,p∈m↔p∈Qay [] L)/\m.length<=24:=by
 have hFU:=Qai
 obtain⟨h1,h2⟩:=o_bc L [] [] List.Pairwise.nil (by simp) (by simp)
 refine⟨mapF1 [] L,?_,h1,h2,by have:=Qhi L [];simp at this;omega⟩
 exact A.lp L (fun f (s:List (Rc×Int)) y=>F.r a0 L f s y) (fun _ r s=>some (a0,mapF1 s r)) (fun k s=>∀r,0<=Z.mget 0 s r/\Z.mget 0 s r<=k)
  (fun f s hp=>by
   show F.r a0 L (f+1) s _=_
   rw[F.r,Qd (by omega)];rfl)
  (fun f s k x hx hk hp ih=>by
   show F.r a0 L (f+1) s _=_
   rw[F.r,Qj (by omega),A.ixn hx,Qa]
   show(F.aI s x 1).bind _=_
   have:=hp x
   rw[add_eq s x 1 (by omega) (by omega),Qa,A.gd1 ⟨by omega,by omega⟩]
   refine ih _ fun r=>?_
   rw[Z.mget_ins]
   have:=hp r
   split<;>omega)
  (by omega) [] (fun r=>by simp[Z.mget])
end Go.Proofs.YtlbdgahbamalcaaGreatDoor
end
