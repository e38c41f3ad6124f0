/- Functions on data, what they tell, and that the code computes them. -/
import Derived.Test.YtlbnpmfggfbdoaaGreatDoorE0
import Derived.Test.YtlbnpmfggfbdoaaGreatDoorE1
import Derived.Test.YtlbnpmfggfbdoaaGreatDoorE2
import Derived.Laws.IdiomStrings
import Derived.Laws.Cover4
set_option linter.unusedVariables false
set_option linter.unusedSimpArgs false
set_option maxRecDepth 20000
set_option maxHeartbeats 8000000
set_option synthInstance.maxSize 1000000
set_option synthInstance.maxHeartbeats 400000
set_option linter.unusedSectionVars false
section
namespace Go.Proofs.YtlbnpmfggfbdoaaGreatDoor
open Go.RowKit
abbrev l3a:List Value:=A.zz8
abbrev l3b:List Nat:=[0,2376,2789,2790,2791,2792]
abbrev l3c:List Nat:=[0,2376,2789,2790,2791]
abbrev l3d:List Value:=[.bool false,A.i 0,.bool false,A.i 0,.bool false,A.i 0,.bool false,A.i 0]
abbrev l3e:List Nat:=[0,1,2,83]
abbrev l3f:List Value:=[.bool false,A.i 0]
abbrev l3g:List Nat:=[0,1,162]
abbrev l3h:List Nat:=[0,226,227]
abbrev l3i:List Nat:=[0,241,242]
abbrev l3j:List Nat:=[0,533,534]
abbrev l3k:List Nat:=[0,1,2,83,84]
abbrev l3l:List Nat:=[0,97,98]
abbrev l3m:List Nat:=[0,1]
variable(A0_ A1_ A2_ A4_ A5_ A7_ A10_ A12_ A13_:Option Addr)(b0_ g0_ b1_ c1_ c2_ g2_ c3_ b4_ b5_ c5_ b6_ c6_ c8_ g8_ g10_ c11_ c13_ c14_:Nat)
def F.b9 (o:D23):Option ((List D41)×Int):=(F.bJ o).bind fun k=>A.om k.1 (if k.2≠0 then(some ([],k.2))else(none)) fun p=>(if k.2≠0 then(some ([],k.2))else((F.bB p o).bind fun s=>(some (s,0))))
theorem o_a3(o:D23)(r:(List D41)×Int)(k:F.b9 o=some r):
    A.Ct Tryz.prog 37 [.agg #[.slice A0_ o.length c1_]] [(0,.sh (.slice T83) [.slice A0_ o.length c1_] o),(1,.el none 0 0 A.tabF),(2,.el none 1 0 A.tabA)] [] (fun v H'=>∃(A0':Option Addr) (c1':Nat),v=.tuple #[.slice A0' r.1.length c1',A.i r.2]∧H'=[(0,.own T41 42 A0' c1' r.1)]∧A.h6 r.2):=by
 refine J1 Tryz.func37 rfl Tryz.ntmps37 rfl fun U V=>?_;rw[F.b9]at k;refine Jv 1 ?_;refine Vc 3 (cs:=[.slice A0_ o.length c1_]) fun W=>?_;refine J0 2 [] (Vb 2 ?_);refine Jz [3] [] [.b 0 0] [(7,.agg #[.slice A0_ o.length c1_])] ?_;refine Vw 4 [] k (o_au A0_ c1_ o) (.s 0 (.s 1 (.s 2 .nil))) ?_;rintro p - k _ _ (⟨hp16,rfl,rfl,hr4⟩|⟨z,hp16,u,B,E,J,L,rfl,rfl,hr11⟩)
 ·refine Ve ?_;rw[A.om_n hp16]at k
  refine J0 5 [(4,.pointer none),(5,A.i p.2)] (Vb 3 ?_);refine J0 2 [(12,.bool (decide (p.2≠0)))] (Jw 1 ?_);refine Vr k ?_ ?_<;>intro N k
  ·refine Jv 1 ?_;refine J0 3 [(2,.slice none 0 0),(3,A.i p.2)] (Jw 1 ?_);obtain rfl:=J7 k;refine V9 44 T41 42 ?_;exact V4 [(0,44)] ⟨none,0,rfl,rfl,hr4⟩
  refine Jv 3 ?_;refine Jz [3] [] [.n,.b 0 0] [(14,.pointer none),(15,.agg #[.slice A0_ o.length c1_])] ?_;exact Vm k
 refine Ve ?_;rw[A.om_s hp16]at k
 refine J0 5 [(4,.pointer (some ⟨u,0,none⟩)),(5,A.i p.2)] (Vb 3 ?_);refine J0 2 [(12,.bool (decide (p.2≠0)))] (Jw 1 ?_);refine Vr k ?_ ?_<;>intro N k
 ·refine Jv 1 ?_;refine J0 3 [(2,.slice none 0 0),(3,A.i p.2)] (Jw 1 ?_);obtain rfl:=J7 k;refine V9 45 T41 42 ?_;exact V4 [(0,45)] ⟨none,0,rfl,rfl,hr11⟩
 refine Jv 3 ?_;refine Jz [3] [] [.n,.b 0 0] [(14,.pointer (some ⟨u,0,none⟩)),(15,.agg #[.slice A0_ o.length c1_])] ?_;refine Vw 46 [] k (o_ah E A0_ u B J L c1_ z o) (.m 4 (.m 5 (.m 6 (.m 7 (.s 0 .nil))))) ?_;rintro O - k _ _ ⟨x,y,rfl,rfl⟩;refine Ve ?_;refine V7 47 4 [] ?_;refine V7 48 5 [] ?_;refine V7 49 6 [] ?_;refine V7 50 7 [] ?_;refine J0 2 [(2,.slice x O.length y),(3,A.i 0)] (Jw 1 ?_);obtain rfl:=J7 k;exact V4 [(0,46)] ⟨x,y,rfl,rfl,J5⟩
def F.dh (k:Int):Option Bool:=some (decide (k≠k))
theorem o_ao (k:Int)(p:A.h6 k)(r:Bool)(o:F.dh k=some r):
    A.Ct Tryz.prog 122 [A.i k] [] [] (fun v H'=>v=.bool r∧H'=[]):=by
 refine J1 Tryz.func122 rfl Tryz.ntmps122 rfl fun s u=>?_;rw[F.dh]at o;refine Jv 1 ?_;refine J0 1 [] (Vb 2 ?_);refine J0 4 [(2,.bool (decide (k≠k)))] (Jw 1 ?_);obtain rfl:=J7 o;exact Va [] ⟨rfl,rfl⟩
def F.aM (k:Int)(o:Int):Option Int:=(F.dh k).bind fun s=>((F.dh o).bind fun p=>(if s=true then(if p=true then(some 0)else(some (-1)))else(if p=true then(some 1)else(if k<o then(some (-1))else(if o<k then(some 1)else(some 0))))))
theorem o_d (o:Int)(p:Int)(y:A.h6 o)(z:A.h6 p)(r:Int)(k:F.aM o p=some r):
    A.Ct Tryz.prog 80 [A.i o,A.i p] [] [] (fun v H'=>v=A.i r∧H'=[]∧A.h6 r):=by
 refine J1 Tryz.func80 rfl Tryz.ntmps80 rfl fun B E=>?_;rw[F.aM]at k;refine Jv 1 ?_;refine J0 1 [] (Vb 2 ?_);refine J0 1 [(7,A.i o)] ?_;refine Vw 0 [] k (o_ao o y) .nil ?_;rintro x - k _ _ ⟨rfl,rfl⟩;refine Ve ?_;refine J0 1 [(5,.bool x)] (Vb 2 ?_);refine J0 1 [(9,A.i p)] ?_;refine Vw 40 [] k (o_ao p z) .nil ?_;rintro u - k _ _ ⟨rfl,rfl⟩;refine Ve ?_;refine J0 1 [(6,.bool u)] (Vb 3 ?_);refine J0 1 [(11,.bool x)] (Jw 1 ?_);refine Ud k ?_ ?_<;>intro s k
 ·refine Jv 2 ?_;refine J0 1 [(12,.bool u)] (Jw 1 ?_);refine Ud k ?_ ?_<;>intro s k
  ·refine Jv 1 ?_;refine J0 1 [(4,A.i 0)] (Jw 1 ?_);obtain rfl:=J7 k;exact Va [] ⟨rfl,rfl,J5⟩
  refine Jv 3 ?_;refine J0 1 [(4,A.i (-1))] (Jw 1 ?_);obtain rfl:=J7 k;exact Va [] ⟨rfl,rfl,(Vd .i64 (-1) rfl)⟩
 refine Jv 4 ?_;refine J0 1 [(13,.bool u)] (Jw 1 ?_);refine Ud k ?_ ?_<;>intro s k
 ·refine Jv 1 ?_;refine J0 1 [(4,A.i 1)] (Jw 1 ?_);obtain rfl:=J7 k;exact Va [] ⟨rfl,rfl,(Vd .i64 (1) rfl)⟩
 refine Jv 4 ?_;refine J0 3 [(16,.bool (decide (o<p)))] (Jw 1 ?_);refine Vr k ?_ ?_<;>intro s k
 ·refine Jv 1 ?_;refine J0 1 [(4,A.i (-1))] (Jw 1 ?_);obtain rfl:=J7 k;exact Va [] ⟨rfl,rfl,(Vd .i64 (-1) rfl)⟩
 refine Jv 4 ?_;refine J0 3 [(19,.bool (decide (p<o)))] (Jw 1 ?_);refine Vr k ?_ ?_<;>intro s k
 ·refine Jv 1 ?_;refine J0 1 [(4,A.i 1)] (Jw 1 ?_);obtain rfl:=J7 k;exact Va [] ⟨rfl,rfl,(Vd .i64 (1) rfl)⟩
 refine Jv 3 ?_;refine J0 1 [(4,A.i 0)] (Jw 1 ?_);obtain rfl:=J7 k;exact Va [] ⟨rfl,rfl,J5⟩
def F.cn (o:(List Int)):Nat→Int→Option Int
 |0,_=>none
 |f+1,k=>if k<(o.length:Int)then((A.ix o k).bind fun p=>(if p≠0 then(some p)else(A.gd (Z.R64 (k+1)) ((F.cn o f) (k+1)))))else(some 0)
def F.cM (k:(List Int)):Option Int:=F.cn k A.FU 0
theorem o_v(p:(List Int))(r:Int)(k:F.cM p=some r):
    A.Ct Tryz.prog 44 [.slice A0_ p.length c1_] [(0,.ln A.ti A0_ c1_ p)] [] (fun v H'=>v=A.i r∧H'=[]∧A.h6 r):=by
 refine J1 Tryz.func44 rfl Tryz.ntmps44 rfl fun L N=>?_;rw[F.cM]at k;refine Jv 1 ?_;refine J0 1 [] (Vb 2 ?_);refine J0 1 [(3,A.i 0)] (Vb 3 ?_);refine J0 3 [(6,.slice A0_ p.length c1_),(7,A.i (p.length:Int)),(8,A.i 0)] (Jw 2 ?_);refine Vo [3,6,7] [0] (fun f y z=>∃(o:Int),y=[(8,A.i o)]∧z=[]∧A.h6 o∧F.cn p f o=some r) ⟨0,rfl,rfl,J5,k⟩ ?_;rintro u _ _ ⟨o,rfl,rfl,O,k⟩;rcases u with _|u
 ·exact Vm k
 rw[F.cn]at k;refine Jv 1 ?_;refine J0 1 [(9,.bool (decide (o<(p.length:Int))))] (Jw 2 ?_);refine Vr k ?_ ?_<;>intro B k
 ·refine Jv 5 ?_;have⟨s,E,k⟩:=Vx k;refine Ua 0 3 E fun J=>?_;intro U V;refine Jz [] [3] [.e 0 0,.n] [(5,A.i s)] (Vb 2 ?_);refine J0 3 [(14,.bool (decide (s≠0)))] (Jw 1 ?_);refine Vr k ?_ ?_<;>intro B k
  ·refine Jv 1 ?_;refine J0 2 [(2,A.i s)] (Jw 1 ?_);obtain rfl:=J7 k;exact Va [] ⟨rfl,rfl,J⟩
  refine Jv 3 ?_;have⟨x,k⟩:=Vq k;refine Ub 2 [Z.R64 (o+1)] [(8,A.i (o+1))] x (Jy ?_);exact Vi ⟨_,Qh _,⟨(o+1),rfl,rfl,(J2 x),k⟩⟩
 refine Jv 3 ?_;refine J0 2 [(2,A.i 0)] (Jw 1 ?_);obtain rfl:=J7 k;exact Va [] ⟨rfl,rfl,J5⟩
def F.dp (k:D39)(o:D39):Option Int:=(F.aM k.1 o.1).bind fun p=>((F.aM k.2 o.2).bind fun s=>((F.cM [p,s]).bind fun u=>(some u)))
theorem o_av (k:D39)(p:D39)(y:A.h6 k.1)(z:A.h6 k.2)(B:A.h6 p.1)(E:A.h6 p.2)(r:Int)(s:F.dp k p=some r):
    A.Ct Tryz.prog 73 [(A.rae k),(A.rae p)] [] [] (fun v H'=>v=A.i r∧H'=[]∧A.h6 r):=by
 refine J1 Tryz.func73 rfl Tryz.ntmps73 rfl fun N O=>?_;rw[F.dp]at s;refine Jv 1 ?_;refine Vc 0 (cs:=(A.raa k)) fun U=>?_;refine Vc 1 (cs:=(A.raa p)) fun V=>?_;refine J0 1 [] (Jw 2 ?_);refine Vl mixed 13 13 (A.mb 13 0) ?_;refine Vh J3 [] l3m [0,1] [] (A.mb 13 495) 5 [(0,.n),(2,.n),(5,.n),(7,.n),(1,.b 0 0),(3,.b 1 0),(6,.b 0 1),(8,.b 1 1)] [(6,A.i k.1),(8,A.i p.1),(11,A.i k.2),(13,A.i p.2)] ?_;refine J8 4 ?_;refine Vw 2 [] s (o_d k.1 p.1 y B) .nil ?_;rintro u - s _ _ ⟨rfl,rfl,hr5⟩;refine Ve ?_;refine Vg (A.mb 13 511) l3m ?_;refine J8 9 ?_;refine Vw 42 [] s (o_d k.2 p.2 z E) .nil ?_;rintro x - s _ _ ⟨rfl,rfl,hr8⟩;refine Ve ?_;refine Vg (A.mb 13 1023) l3m ?_;refine J8 10 ?_;refine Vp 82 (ty:=A.ti) (cs:=[A.i u,A.i x]) [u,x] ⟨⟨rfl,hr5⟩,⟨⟨rfl,hr8⟩,rfl⟩⟩ (fun J=>?_) Tryz.zeroValue3 Tryz.sizeOf3
 refine Vg (A.mb 13 2047) l3m ?_;refine J8 11 ?_;refine Vw 83 [] s (o_v (some ⟨J,0,none⟩) 2 [u,x]) (.o 82 .nil) ?_;rintro L - s _ _ ⟨rfl,rfl,hr12⟩;refine Ve ?_;refine Vg (A.mb 13 4095) l3m ?_;refine Vh J3 l3m [0,1,82] [] [] (A.mb 13 8191) 0 [(12,.n)] [(4,A.i L)] (J9 ?_);refine Uy 1 ?_;obtain rfl:=J7 s;exact Va [] ⟨rfl,rfl,hr12⟩
def F.bw (k:D53)(o:D53):Option Int:=(F.dp k.1 o.1).bind fun p=>((F.dp k.2.1 o.2.1).bind fun s=>((F.cM [p,s]).bind fun u=>(some u)))
theorem o_t (k:D53)(p:D53)(y:A.h6 k.1.1)(z:A.h6 k.1.2)(B:A.h6 k.2.1.1)(E:A.h6 k.2.1.2)(W:A.h6 k.2.2.1)(Y:A.h6 k.2.2.2.1)(a2:A.h6 k.2.2.2.2.1)(a3:A.h6 k.2.2.2.2.2.1)(a4:A.h6 k.2.2.2.2.2.2.1)(a5:A.h6 k.2.2.2.2.2.2.2.1)(a6:A.h6 k.2.2.2.2.2.2.2.2.1)(a7:A.h6 k.2.2.2.2.2.2.2.2.2)(J:A.h6 p.1.1)(L:A.h6 p.1.2)(N:A.h6 p.2.1.1)(O:A.h6 p.2.1.2)(a8:A.h6 p.2.2.1)(a9:A.h6 p.2.2.2.1)(aa:A.h6 p.2.2.2.2.1)(ab:A.h6 p.2.2.2.2.2.1)(ac:A.h6 p.2.2.2.2.2.2.1)(ad:A.h6 p.2.2.2.2.2.2.2.1)(ae:A.h6 p.2.2.2.2.2.2.2.2.1)(ag:A.h6 p.2.2.2.2.2.2.2.2.2)(r:Int)(s:F.bw k p=some r):
    A.Ct Tryz.prog 72 [(A.rai k),(A.rai p)] [] [] (fun v H'=>v=A.i r∧H'=[]∧A.h6 r):=by
 refine J1 Tryz.func72 rfl Tryz.ntmps72 rfl fun w0 F0=>?_;rw[F.bw]at s;refine Jv 1 ?_;refine Vc 0 (cs:=(A.rad k)) fun g1=>?_;refine Vc 1 (cs:=(A.rad p)) fun g2=>?_;refine J0 1 [] (Jw 2 ?_);refine Vl mixed 13 13 (A.mb 13 0) ?_;refine Vh J3 [] l3m [0,1] [] (A.mb 13 495) 5 [(0,.n),(2,.n),(5,.n),(7,.n),(1,.b 0 0),(3,.b 1 0),(6,.b 0 2),(8,.b 1 2)] [(6,(A.rae k.1)),(8,(A.rae p.1)),(11,(A.rae k.2.1)),(13,(A.rae p.2.1))] ?_;refine J8 4 ?_;refine Vw 2 [] s (o_av k.1 p.1 y z J L) .nil ?_;rintro u - s _ _ ⟨rfl,rfl,hr5⟩;refine Ve ?_;refine Vg (A.mb 13 511) l3m ?_;refine J8 9 ?_;refine Vw 42 [] s (o_av k.2.1 p.2.1 B E N O) .nil ?_;rintro x - s _ _ ⟨rfl,rfl,hr8⟩;refine Ve ?_;refine Vg (A.mb 13 1023) l3m ?_;refine J8 10 ?_;refine Vp 82 (ty:=A.ti) (cs:=[A.i u,A.i x]) [u,x] ⟨⟨rfl,hr5⟩,⟨⟨rfl,hr8⟩,rfl⟩⟩ (fun U=>?_) Tryz.zeroValue3 Tryz.sizeOf3
 refine Vg (A.mb 13 2047) l3m ?_;refine J8 11 ?_;refine Vw 83 [] s (o_v (some ⟨U,0,none⟩) 2 [u,x]) (.o 82 .nil) ?_;rintro V - s _ _ ⟨rfl,rfl,hr12⟩;refine Ve ?_;refine Vg (A.mb 13 4095) l3m ?_;refine Vh J3 l3m [0,1,82] [] [] (A.mb 13 8191) 0 [(12,.n)] [(4,A.i V)] (J9 ?_);refine Uy 1 ?_;obtain rfl:=J7 s;exact Va [] ⟨rfl,rfl,hr12⟩
def F.k (s:Int→Option Unit)(p:(List D53))(o:Int)(u:Bool):Option Unit:=if u=true then(A.gd (Z.R64 (o-1)∧Z.R64 (o-1)) ((A.ix p (o-1)).bind fun x=>((A.ix p o).bind fun y=>((A.ix p o).bind fun z=>(none)))))else(A.gd (Z.R64 (o+1)) (s (o+1)))
def F.u (s:Int→Option Unit)(p:(List D53))(x:Int)(o:Int):Nat→Option Unit
 |0=>none
 |f+1=>if x<o then(A.gd (Z.R64 (o-1)) ((A.ix p o).bind fun y=>((A.ix p (o-1)).bind fun z=>((F.bw y z).bind fun B=>(F.k s p o (decide (B<0)))))))else(F.k s p o false)
def F.e (k:(List D53))(o:Int)(p:Int):Nat→Int→Option Unit
 |0,_=>none
 |f+1,s=>if s<p then(F.u (F.e k o p f) k o s A.FU)else(some ())
def F.m (o:(List D53))(k:Int)(p:Int):Option Unit:=A.gd (Z.R64 (k+1)) (F.e o k p A.FU (k+1))
theorem o_c(s:(List D53))(z:Int)(B:Int)(aj:A.h6 z)(ak:A.h6 B)(r:Unit)(o:F.m s z B=some r):
    A.Ct Tryz.prog 146 [.slice A0_ s.length c1_,A.i z,A.i B,.func (.func 72) #[] #[]] [(0,.ln T53 A0_ c1_ s)] [] (fun v H'=>v=.tuple #[]∧H'=[]):=by
 refine J1 Tryz.func146 rfl Tryz.ntmps146 rfl fun w0 F0=>?_;rw[F.m]at o;refine Jv 1 ?_;have⟨O,o⟩:=Vq o;refine Ub 3 [Z.R64 (z+1)] [(8,A.i (z+1))] O (Jw 2 ?_);refine Vo [0,1,2,3] [0] (fun f E J=>∃(p:Int),E=[(8,A.i p)]∧J=[]∧A.h6 p∧F.e s z B f p=some r) ⟨(z+1),rfl,rfl,(J2 O),o⟩ ?_;rintro L _ _ ⟨p,rfl,rfl,al,o⟩;rcases L with _|L
 ·exact Vm o
 rw[F.e]at o;refine Jv 2 ?_;refine J0 3 [(14,.bool (decide (p<B)))] (Jw 1 ?_);refine Vr o ?_ ?_<;>intro U o
 ·refine Jv 5 ?_;refine J0 2 [(9,A.i p)] (Jw 2 ?_);refine Vo [0,1,2,3,8,9] [0] (fun f E J=>E=[]∧J=[]∧F.u (F.e s z B L) s z p f=some r) ⟨rfl,rfl,o⟩ ?_;rintro V _ _ ⟨rfl,rfl,o⟩;rcases V with _|V
  ·exact Vm o
  rw[F.u]at o;refine V3 1 ?_;refine J4 [0,1,2,3,8,9] [0] (fun E J=>∃(N:Bool),E=[(34,.bool N)]∧J=[]∧F.k (F.e s z B L) s p N=some r) ?_ ?_
  ·refine Vl mixed 17 17 (A.mb 17 0) ?_;refine Vh J3 [] [0] [] [] (A.mb 17 15) 13 [(0,.n),(1,.n),(2,.n),(3,.n)] [(21,.bool (decide (z<p)))] ?_;refine Ui (j:=21) rfl o ?_ ?_<;>intro U o
   ·have⟨aa,o⟩:=Vq o;refine Us J3 [0] [0] [] [] (A.mb 17 3711) 7 [(4,.on .n),(5,.on .n),(6,.on .n),(9,.on .n),(10,.on .n),(11,.on .n)] [22,23,24,27,29] [Z.R64 (p-1)] [(22,.func (.func 72) #[] #[]),(23,.slice A0_ s.length c1_),(24,A.i p),(27,.slice A0_ s.length c1_),(29,A.i (p-1))] aa ?_;have⟨W,Y,o⟩:=Vx o;refine Vn 0 226 Y fun x=>?_;intro am an ab;refine Ue J3 [0] [0,226] 7 (A.mb 17 3839) (dj:=21) rfl (fun a w hf hh=>Vj (t:=T53) Y ab hf) ?_;refine Vh J3 [0,226] [0,226] [] [226] (A.mb 17 4095) 5 [(8,.on (.e 0 0))] [(26,(A.rai W))] ?_;have⟨a3,a4,o⟩:=Vx o;refine Vn 0 227 a4 fun y=>?_;intro ao ap ac;refine Ue J3 [0,226] l3h 12 (A.mb 17 8191) (dj:=21) rfl (fun a w hf hh=>Vj (t:=T53) a4 ac hf) ?_;refine Vh J3 l3h l3h [] [227] (A.mb 17 16383) 3 [(13,.on (.e 0 0))] [(31,(A.rai a3))] ?_;refine J8 14 ?_;refine Vk (dj:=21) rfl rfl ?_;refine Vw 228 [] o (o_t W a3 x.1.1 x.1.2 x.2.1.1 x.2.1.2 x.2.2.1 x.2.2.2.1 x.2.2.2.2.1 x.2.2.2.2.2.1 x.2.2.2.2.2.2.1 x.2.2.2.2.2.2.2.1 x.2.2.2.2.2.2.2.2.1 x.2.2.2.2.2.2.2.2.2 y.1.1 y.1.2 y.2.1.1 y.2.1.2 y.2.2.1 y.2.2.2.1 y.2.2.2.2.1 y.2.2.2.2.2.1 y.2.2.2.2.2.2.1 y.2.2.2.2.2.2.2.1 y.2.2.2.2.2.2.2.2.1 y.2.2.2.2.2.2.2.2.2) .nil ?_;rintro a5 - o _ _ ⟨rfl,rfl,hr43⟩;refine Ve ?_;refine Vg (A.mb 17 32767) l3h ?_;refine Vh J3 l3h l3h [] [] (A.mb 17 131071) 0 [(15,.on .n),(16,.n)] [(34,.bool (decide (a5<0)))] (J9 ?_);exact Vi ⟨(decide (a5<0)),rfl,rfl,o⟩
   refine Vh J3 [0] [0] [] [] (A.mb 17 131071) 0 [(4,.off),(5,.off),(6,.off),(9,.off),(10,.off),(7,.off),(11,.off),(8,.off),(12,.off),(13,.off),(14,.off),(15,.off),(16,.n)] [(34,.bool false)] (J9 ?_);exact Vi ⟨false,rfl,rfl,o⟩
  rintro _ _ ⟨N,rfl,rfl,o⟩;rw[F.k]at o;refine Ud o ?_ ?_<;>intro U o
  ·refine V3 4 ?_;refine Vl mixed 17 18 (A.mb 18 0) ?_;have⟨ad,o⟩:=Vq o;refine Us J3 [] [] [] [] (A.mb 18 3327) 8 [(0,.n),(1,.n),(2,.n),(3,.n),(5,.n),(6,.n),(10,.n),(11,.n),(4,.n),(7,.n)] [37,38,39,42,47,48,41,44] [Z.R64 (p-1),Z.R64 (p-1)] [(37,.slice A0_ s.length c1_),(38,A.i p),(39,.slice A0_ s.length c1_),(42,.slice A0_ s.length c1_),(47,.slice A0_ s.length c1_),(48,A.i p),(41,A.i (p-1)),(44,A.i (p-1))] ad ?_;have⟨x9,a6,o⟩:=Vx o;refine Vn 0 268 a6 fun aq=>?_;intro ar au ae;refine Vf J3 [] [268] 8 (A.mb 18 3583) rfl (fun a w hf hh=>Vj (t:=T53) a6 ae hf) ?_;refine Vh J3 [268] [268] [] [268] (A.mb 18 4095) 6 [(9,.e 0 0)] [(46,(A.rai x9))] ?_;have⟨ag,a7,o⟩:=Vx o;refine Vn 0 269 a7 fun av=>?_;intro aw ax ah;refine Vf J3 [268] [268,269] 12 (A.mb 18 8191) rfl (fun a w hf hh=>Vj (t:=T53) a7 ah hf) ?_;refine Vh J3 [268,269] [268,269] [] [269] (A.mb 18 16383) 4 [(13,.e 0 0)] [(50,(A.rai ag))] ?_;have⟨ay,a8,o⟩:=Vx o;refine Vn 0 270 a8 fun az=>?_;intro b0 b1 ai;refine Vf J3 [268,269] [0,268,269] 14 (A.mb 18 32767) rfl (fun a w hf hh=>Vj (t:=T53) a8 ai hf) ?_;refine J8 15 ?_;exact Vm o
  refine Jv 3 ?_;have⟨a9,o⟩:=Vq o;refine Ub 3 [Z.R64 (p+1)] [(8,A.i (p+1))] a9 (Jy ?_);exact Vi ⟨_,Qh _,⟨(p+1),rfl,rfl,(J2 a9),o⟩⟩
 refine Vy 1 ?_;obtain rfl:=J7 o;exact A.AE.ret [] (.tuple #[]) (fun a w hf hh=>Z.res0 rfl w) (⟨rfl,rfl⟩)
def F.z (o:(List D53))(k:Int)(p:Int):Nat→Option Unit
 |0=>none
 |f+1=>A.gd (Z.R64 (p-1)) (if k<p-1 then(A.gd (Z.R64 (k+1)∧Z.R64 (k+1)) ((A.ix o (k+1)).bind fun s=>((A.ix o k).bind fun u=>((A.ix o k).bind fun x=>(none)))))else(some ()))
def F.g (p:(List D53))(s:Int):Nat→Int→Int→Option Unit
 |0,_,_=>none
 |f+1,k,o=>if k<o then(A.gd (Z.R64 (k+o)∧(0≤(1:Int)∧(1:Int)≤64)∧Z.R64 ((IntKind.u64.wrap (k+o)) / 2^((1:Int)).toNat)) ((A.ix p ((IntKind.u64.wrap (k+o)) / 2^((1:Int)).toNat)).bind fun u=>((A.ix p s).bind fun x=>((F.bw u x).bind fun y=>(if y<0 then(A.gd (Z.R64 (((IntKind.u64.wrap (k+o)) / 2^((1:Int)).toNat)+1)) ((F.g p s f) (((IntKind.u64.wrap (k+o)) / 2^((1:Int)).toNat)+1) o))else((F.g p s f) k ((IntKind.u64.wrap (k+o)) / 2^((1:Int)).toNat)))))))else(F.z p s k A.FU)
def F.an (o:(List D53))(k:Int)(p:Int):Nat→Option Unit
 |0=>none
 |f+1=>if p<k then(A.gd (Z.R64 (k-1)∧Z.R64 (k-1)) ((A.ix o (k-1)).bind fun s=>((A.ix o k).bind fun u=>((A.ix o k).bind fun x=>(none)))))else(some ())
def F.h (p:(List D53))(s:Int):Nat→Int→Int→Option Unit
 |0,_,_=>none
 |f+1,k,o=>if k<o then(A.gd (Z.R64 (k+o)∧(0≤(1:Int)∧(1:Int)≤64)∧Z.R64 ((IntKind.u64.wrap (k+o)) / 2^((1:Int)).toNat)) ((A.ix p s).bind fun u=>((A.ix p ((IntKind.u64.wrap (k+o)) / 2^((1:Int)).toNat)).bind fun x=>((F.bw u x).bind fun y=>(if(!(decide (y<0)))=true then(A.gd (Z.R64 (((IntKind.u64.wrap (k+o)) / 2^((1:Int)).toNat)+1)) ((F.h p s f) (((IntKind.u64.wrap (k+o)) / 2^((1:Int)).toNat)+1) o))else((F.h p s f) k ((IntKind.u64.wrap (k+o)) / 2^((1:Int)).toNat)))))))else(F.an p s k A.FU)
def F.i (u:(List D53))(o:Int)(p:Int)(k:Int)(rc:(List D53)→Int→Int→Int→Option Unit)(s:Int):Option Unit:=if(bif decide ((IntKind.u64.wrap (o+k)) / 2^((1:Int)).toNat <(((IntKind.u64.wrap (o+k)) / 2^((1:Int)).toNat)+p)-s)then decide ((((IntKind.u64.wrap (o+k)) / 2^((1:Int)).toNat)+p)-s<k)else false)=true then((rc u ((IntKind.u64.wrap (o+k)) / 2^((1:Int)).toNat) ((((IntKind.u64.wrap (o+k)) / 2^((1:Int)).toNat)+p)-s) k).bind fun x=>(some ()))else(some ())
def F.b (x:(List D53))(o:Int)(p:Int)(s:Int)(rc:(List D53)→Int→Int→Int→Option Unit):Nat→Int→Int→Option Unit
 |0,_,_=>none
 |f+1,k,u=>if k<u then(A.gd (Z.R64 (k+u)∧(0≤(1:Int)∧(1:Int)≤64)∧Z.R64 ((IntKind.u64.wrap (k+u)) / 2^((1:Int)).toNat)) (A.gd (Z.R64 (((((IntKind.u64.wrap (o+s)) / 2^((1:Int)).toNat)+p)-1)-((IntKind.u64.wrap (k+u)) / 2^((1:Int)).toNat))) ((A.ix x (((((IntKind.u64.wrap (o+s)) / 2^((1:Int)).toNat)+p)-1)-((IntKind.u64.wrap (k+u)) / 2^((1:Int)).toNat))).bind fun y=>((A.ix x ((IntKind.u64.wrap (k+u)) / 2^((1:Int)).toNat)).bind fun z=>((F.bw y z).bind fun B=>(if(!(decide (B<0)))=true then(A.gd (Z.R64 (((IntKind.u64.wrap (k+u)) / 2^((1:Int)).toNat)+1)) ((F.b x o p s rc f) (((IntKind.u64.wrap (k+u)) / 2^((1:Int)).toNat)+1) u))else((F.b x o p s rc f) k ((IntKind.u64.wrap (k+u)) / 2^((1:Int)).toNat))))))))else(A.gd (Z.R64 ((((IntKind.u64.wrap (o+s)) / 2^((1:Int)).toNat)+p)-k)) (if(bif decide (k<p)then decide (p<(((IntKind.u64.wrap (o+s)) / 2^((1:Int)).toNat)+p)-k)else false)=true then(none)else(if(bif decide (o<k)then decide (k<(IntKind.u64.wrap (o+s)) / 2^((1:Int)).toNat)else false)=true then((rc x o k ((IntKind.u64.wrap (o+s)) / 2^((1:Int)).toNat)).bind fun E=>(F.i x o p s rc k))else(F.i x o p s rc k))))
def F.n (s:(List D53))(k:Int)(o:Int)(p:Int)(rc:(List D53)→Int→Int→Int→Option Unit)(u:Int)(x:Int):Option Unit:=A.gd (Z.R64 ((((IntKind.u64.wrap (k+p)) / 2^((1:Int)).toNat)+o)-1)) (F.b s k o p rc A.FU u x)
def F.ax (rc:(List D53)→Int→Int→Int→Option Unit)(s:(List D53))(k:Int)(o:Int)(p:Int):Option Unit:=A.gd (Z.R64 (o-k)) (if o-k=1 then(F.g s k A.FU o p)else(A.gd (Z.R64 (p-o)) (if p-o=1 then(F.h s o A.FU k o)else(A.gd (Z.R64 (k+p)∧(0≤(1:Int)∧(1:Int)≤64)∧Z.R64 ((IntKind.u64.wrap (k+p)) / 2^((1:Int)).toNat)) (A.gd (Z.R64 (((IntKind.u64.wrap (k+p)) / 2^((1:Int)).toNat)+o)) (if(IntKind.u64.wrap (k+p)) / 2^((1:Int)).toNat <o then(A.gd (Z.R64 ((((IntKind.u64.wrap (k+p)) / 2^((1:Int)).toNat)+o)-p)) (F.n s k o p rc ((((IntKind.u64.wrap (k+p)) / 2^((1:Int)).toNat)+o)-p) ((IntKind.u64.wrap (k+p)) / 2^((1:Int)).toNat)))else(F.n s k o p rc k o)))))))
theorem o_l(rc:(List D53)→Int→Int→Int→Option Unit)(x:(List D53))(o:Int)(p:Int)(u:Int)(aa:A.h6 o)(ab:A.h6 p)(ad:A.h6 u)(ihr: ∀(x:(List D53)) (o:Int) (p:Int) (u:Int) (A0_:Option Addr) (c1_:Nat) (aa:A.h6 o) (ab:A.h6 p) (ad:A.h6 u) (r:Unit),rc x o p u=some r→A.Ct Tryz.prog 147 [.slice A0_ x.length c1_,A.i o,A.i p,A.i u,.func (.func 72) #[] #[]] [(0,.ln T53 A0_ c1_ x)] [] (fun v H'=>v=.tuple #[]∧H'=[]))(r:Unit)(k:F.ax rc x o p u=some r):
    A.Ct Tryz.prog 147 [.slice A0_ x.length c1_,A.i o,A.i p,A.i u,.func (.func 72) #[] #[]] [(0,.ln T53 A0_ c1_ x)] [] (fun v H'=>v=.tuple #[]∧H'=[]):=by
 refine J1 Tryz.func147 rfl Tryz.ntmps147 rfl fun w0 F0=>?_;rw[F.ax]at k;refine Jv 2 ?_;have⟨bg,k⟩:=Vq k;refine Ub 4 [Z.R64 (p-o)] [(28,.bool (decide (p-o=1)))] bg (Jw 1 ?_);refine Vr k ?_ ?_<;>intro O k
 ·refine Jv 1 ?_;refine J0 2 [(10,A.i p)] (Vb 2 ?_);refine J0 2 [(11,A.i u)] (Jw 3 ?_);refine Vo [0,1,4] [0] (fun f U V=>∃(B:Int),∃(L:Int),U=[(10,A.i B),(11,A.i L)]∧V=[]∧A.h6 B∧A.h6 L∧F.g x o f B L=some r) ⟨p,u,rfl,rfl,ab,ad,k⟩ ?_;rintro f6 _ _ ⟨B,L,rfl,rfl,bh,bi,k⟩;rcases f6 with _|f6
  ·exact Vm k
  rw[F.g]at k;refine Jv 2 ?_;refine J0 3 [(33,.bool (decide (B<L)))] (Jw 1 ?_);refine Vr k ?_ ?_<;>intro O k
  ·refine Jv 4 ?_;have⟨ae,k⟩:=Vq k;refine Ub 7 [Z.R64 (B+L),(0≤(1:Int)∧(1:Int)≤64),Z.R64 ((IntKind.u64.wrap (B+L)) / 2^((1:Int)).toNat)] [(12,A.i ((IntKind.u64.wrap (B+L)) / 2^((1:Int)).toNat))] ae (Jw 2 ?_);refine Vl mixed 11 11 (A.mb 11 0) ?_;refine Vh J3 [] [0] [] [] (A.mb 11 103) 6 [(0,.n),(1,.n),(2,.n),(5,.n),(6,.n)] [(40,.func (.func 72) #[] #[]),(41,.slice A0_ x.length c1_),(42,A.i ((IntKind.u64.wrap (B+L)) / 2^((1:Int)).toNat)),(45,.slice A0_ x.length c1_),(46,A.i o)] ?_;have⟨x8,ag,k⟩:=Vx k;refine Vn 0 97 ag fun W=>?_;intro ci cj bj;refine Vf J3 [0] [0,97] 3 (A.mb 11 111) rfl (fun a w hf hh=>Vj (t:=T53) ag bj hf) ?_;refine Vh J3 [0,97] [0,97] [] [97] (A.mb 11 127) 4 [(4,.e 0 0)] [(44,(A.rai x8))] ?_;have⟨ah,ai,k⟩:=Vx k;refine Vn 0 98 ai fun Y=>?_;intro cm cn bk;refine Vf J3 [0,97] l3l 7 (A.mb 11 255) rfl (fun a w hf hh=>Vj (t:=T53) ai bk hf) ?_;refine Vh J3 l3l l3l [] [98] (A.mb 11 511) 2 [(8,.e 0 0)] [(48,(A.rai ah))] ?_;refine J8 9 ?_;refine Vw 99 [] k (o_t x8 ah W.1.1 W.1.2 W.2.1.1 W.2.1.2 W.2.2.1 W.2.2.2.1 W.2.2.2.2.1 W.2.2.2.2.2.1 W.2.2.2.2.2.2.1 W.2.2.2.2.2.2.2.1 W.2.2.2.2.2.2.2.2.1 W.2.2.2.2.2.2.2.2.2 Y.1.1 Y.1.2 Y.2.1.1 Y.2.1.2 Y.2.2.1 Y.2.2.2.1 Y.2.2.2.2.1 Y.2.2.2.2.2.1 Y.2.2.2.2.2.2.1 Y.2.2.2.2.2.2.2.1 Y.2.2.2.2.2.2.2.2.1 Y.2.2.2.2.2.2.2.2.2) .nil ?_;rintro bl - k _ _ ⟨rfl,rfl,hr22⟩;refine Ve ?_;refine Vg (A.mb 11 1023) l3l ?_;refine Vh J3 l3l l3l [] [] (A.mb 11 2047) 0 [(10,.n)] [(50,.bool (decide (bl<0)))] (J9 ?_);refine Uy 1 ?_;refine Vr k ?_ ?_<;>intro O k
   ·refine Jv 0 ?_;have⟨aj,k⟩:=Vq k;refine Ub 3 [Z.R64 (((IntKind.u64.wrap (B+L)) / 2^((1:Int)).toNat)+1)] [(10,A.i (((IntKind.u64.wrap (B+L)) / 2^((1:Int)).toNat)+1))] aj (Ug 1 ?_);exact Vi ⟨_,Qh _,⟨(((IntKind.u64.wrap (B+L)) / 2^((1:Int)).toNat)+1),L,rfl,rfl,(J2 aj),bi,k⟩⟩
   refine Jv 0 ?_;refine J0 2 [(11,A.i ((IntKind.u64.wrap (B+L)) / 2^((1:Int)).toNat))] (Ug 1 ?_);exact Vi ⟨_,Qh _,⟨B,((IntKind.u64.wrap (B+L)) / 2^((1:Int)).toNat),rfl,rfl,bh,(J2 ae.2.2),k⟩⟩
  refine Jv 4 ?_;refine J0 2 [(13,A.i o)] (Jw 2 ?_);refine Vo [0,10,13] [0] (fun f U V=>U=[]∧V=[]∧F.z x o B f=some r) ⟨rfl,rfl,k⟩ ?_;rintro ak _ _ ⟨rfl,rfl,k⟩;rcases ak with _|ak
  ·exact Vm k
  rw[F.z]at k;refine Jv 2 ?_;have⟨bm,k⟩:=Vq k;refine Ub 4 [Z.R64 (B-1)] [(58,.bool (decide (o<B-1)))] bm (Jw 1 ?_);refine Vr k ?_ ?_<;>intro O k
  ·refine V3 4 ?_;refine Vl mixed 17 18 (A.mb 18 0) ?_;have⟨bp,k⟩:=Vq k;refine Us J3 [] [] [] [] (A.mb 18 3327) 8 [(0,.n),(1,.n),(2,.n),(3,.n),(5,.n),(6,.n),(10,.n),(11,.n),(4,.n),(7,.n)] [61,62,63,66,71,72,65,68] [Z.R64 (o+1),Z.R64 (o+1)] [(61,.slice A0_ x.length c1_),(62,A.i o),(63,.slice A0_ x.length c1_),(66,.slice A0_ x.length c1_),(71,.slice A0_ x.length c1_),(72,A.i o),(65,A.i (o+1)),(68,A.i (o+1))] bp ?_;have⟨bq,al,k⟩:=Vx k;refine Vn 0 142 al fun co=>?_;intro cp cq br;refine Vf J3 [] [142] 8 (A.mb 18 3583) rfl (fun a w hf hh=>Vj (t:=T53) al br hf) ?_;refine Vh J3 [142] [142] [] [142] (A.mb 18 4095) 6 [(9,.e 0 0)] [(70,(A.rai bq))] ?_;have⟨bs,am,k⟩:=Vx k;refine Vn 0 143 am fun cr=>?_;intro cs ct bt;refine Vf J3 [142] [142,143] 12 (A.mb 18 8191) rfl (fun a w hf hh=>Vj (t:=T53) am bt hf) ?_;refine Vh J3 [142,143] [142,143] [] [143] (A.mb 18 16383) 4 [(13,.e 0 0)] [(74,(A.rai bs))] ?_;have⟨cu,ao,k⟩:=Vx k;refine Vn 0 144 ao fun cv=>?_;intro cw cx bu;refine Vf J3 [142,143] [0,142,143] 14 (A.mb 18 32767) rfl (fun a w hf hh=>Vj (t:=T53) ao bu hf) ?_;refine J8 15 ?_;exact Vm k
  refine V3 2 ?_;obtain rfl:=J7 k;exact Vv [] (.tuple #[]) (fun a w hf hh=>Z.res0 rfl w) (⟨rfl,rfl⟩)
 refine Jv 4 ?_;have⟨bv,k⟩:=Vq k;refine Ub 4 [Z.R64 (u-p)] [(80,.bool (decide (u-p=1)))] bv (Jw 1 ?_);refine Vr k ?_ ?_<;>intro O k
 ·refine Jv 1 ?_;refine J0 2 [(14,A.i o)] (Vb 2 ?_);refine J0 2 [(15,A.i p)] (Jw 3 ?_);refine Vo [0,2,4] [0] (fun f U V=>∃(E:Int),∃(N:Int),U=[(14,A.i E),(15,A.i N)]∧V=[]∧A.h6 E∧A.h6 N∧F.h x p f E N=some r) ⟨o,p,rfl,rfl,aa,ab,k⟩ ?_;rintro ap _ _ ⟨E,N,rfl,rfl,bw,bx,k⟩;rcases ap with _|ap
  ·exact Vm k
  rw[F.h]at k;refine Jv 2 ?_;refine J0 3 [(85,.bool (decide (E<N)))] (Jw 1 ?_);refine Vr k ?_ ?_<;>intro O k
  ·refine Jv 4 ?_;have⟨aq,k⟩:=Vq k;refine Ub 7 [Z.R64 (E+N),(0≤(1:Int)∧(1:Int)≤64),Z.R64 ((IntKind.u64.wrap (E+N)) / 2^((1:Int)).toNat)] [(16,A.i ((IntKind.u64.wrap (E+N)) / 2^((1:Int)).toNat))] aq (Jw 2 ?_);refine Vl mixed 12 12 (A.mb 12 0) ?_;refine Vh J3 [] [0] [] [] (A.mb 12 103) 7 [(0,.n),(1,.n),(2,.n),(5,.n),(6,.n)] [(92,.func (.func 72) #[] #[]),(93,.slice A0_ x.length c1_),(94,A.i p),(97,.slice A0_ x.length c1_),(98,A.i ((IntKind.u64.wrap (E+N)) / 2^((1:Int)).toNat))] ?_;have⟨ar,au,k⟩:=Vx k;refine Vn 0 241 au fun a4=>?_;intro cy cz bz;refine Vf J3 [0] [0,241] 3 (A.mb 12 111) rfl (fun a w hf hh=>Vj (t:=T53) au bz hf) ?_;refine Vh J3 [0,241] [0,241] [] [241] (A.mb 12 127) 5 [(4,.e 0 0)] [(96,(A.rai ar))] ?_;have⟨av,aw,k⟩:=Vx k;refine Vn 0 242 aw fun a5=>?_;intro d1 d2 c0;refine Vf J3 [0,241] l3i 7 (A.mb 12 255) rfl (fun a w hf hh=>Vj (t:=T53) aw c0 hf) ?_;refine Vh J3 l3i l3i [] [242] (A.mb 12 511) 3 [(8,.e 0 0)] [(100,(A.rai av))] ?_;refine J8 9 ?_;refine Vw 243 [] k (o_t ar av a4.1.1 a4.1.2 a4.2.1.1 a4.2.1.2 a4.2.2.1 a4.2.2.2.1 a4.2.2.2.2.1 a4.2.2.2.2.2.1 a4.2.2.2.2.2.2.1 a4.2.2.2.2.2.2.2.1 a4.2.2.2.2.2.2.2.2.1 a4.2.2.2.2.2.2.2.2.2 a5.1.1 a5.1.2 a5.2.1.1 a5.2.1.2 a5.2.2.1 a5.2.2.2.1 a5.2.2.2.2.1 a5.2.2.2.2.2.1 a5.2.2.2.2.2.2.1 a5.2.2.2.2.2.2.2.1 a5.2.2.2.2.2.2.2.2.1 a5.2.2.2.2.2.2.2.2.2) .nil ?_;rintro c1 - k _ _ ⟨rfl,rfl,hr67⟩;refine Ve ?_;refine Vg (A.mb 12 1023) l3i ?_;refine Vh J3 l3i l3i [] [] (A.mb 12 4095) 0 [(10,.n),(11,.n)] [(103,.bool (!(decide (c1<0))))] (J9 ?_);refine Uy 1 ?_;refine Ud k ?_ ?_<;>intro O k
   ·refine Jv 0 ?_;have⟨ay,k⟩:=Vq k;refine Ub 3 [Z.R64 (((IntKind.u64.wrap (E+N)) / 2^((1:Int)).toNat)+1)] [(14,A.i (((IntKind.u64.wrap (E+N)) / 2^((1:Int)).toNat)+1))] ay (Ug 1 ?_);exact Vi ⟨_,Qh _,⟨(((IntKind.u64.wrap (E+N)) / 2^((1:Int)).toNat)+1),N,rfl,rfl,(J2 ay),bx,k⟩⟩
   refine Jv 0 ?_;refine J0 2 [(15,A.i ((IntKind.u64.wrap (E+N)) / 2^((1:Int)).toNat))] (Ug 1 ?_);exact Vi ⟨_,Qh _,⟨E,((IntKind.u64.wrap (E+N)) / 2^((1:Int)).toNat),rfl,rfl,bw,(J2 aq.2.2),k⟩⟩
  refine Jv 4 ?_;refine J0 2 [(17,A.i p)] (Jw 2 ?_);refine Vo [0,14,17] [0] (fun f U V=>U=[]∧V=[]∧F.an x p E f=some r) ⟨rfl,rfl,k⟩ ?_;rintro az _ _ ⟨rfl,rfl,k⟩;rcases az with _|az
  ·exact Vm k
  rw[F.an]at k;refine Jv 2 ?_;refine J0 3 [(110,.bool (decide (E<p)))] (Jw 1 ?_);refine Vr k ?_ ?_<;>intro O k
  ·refine V3 4 ?_;refine Vl mixed 17 18 (A.mb 18 0) ?_;have⟨c2,k⟩:=Vq k;refine Us J3 [] [] [] [] (A.mb 18 3327) 8 [(0,.n),(1,.n),(2,.n),(3,.n),(5,.n),(6,.n),(10,.n),(11,.n),(4,.n),(7,.n)] [113,114,115,118,123,124,117,120] [Z.R64 (p-1),Z.R64 (p-1)] [(113,.slice A0_ x.length c1_),(114,A.i p),(115,.slice A0_ x.length c1_),(118,.slice A0_ x.length c1_),(123,.slice A0_ x.length c1_),(124,A.i p),(117,A.i (p-1)),(120,A.i (p-1))] c2 ?_;have⟨c3,b0,k⟩:=Vx k;refine Vn 0 286 b0 fun d3=>?_;intro d4 d5 c4;refine Vf J3 [] [286] 8 (A.mb 18 3583) rfl (fun a w hf hh=>Vj (t:=T53) b0 c4 hf) ?_;refine Vh J3 [286] [286] [] [286] (A.mb 18 4095) 6 [(9,.e 0 0)] [(122,(A.rai c3))] ?_;have⟨c5,b1,k⟩:=Vx k;refine Vn 0 287 b1 fun d6=>?_;intro d7 d8 c6;refine Vf J3 [286] [286,287] 12 (A.mb 18 8191) rfl (fun a w hf hh=>Vj (t:=T53) b1 c6 hf) ?_;refine Vh J3 [286,287] [286,287] [] [287] (A.mb 18 16383) 4 [(13,.e 0 0)] [(126,(A.rai c5))] ?_;have⟨d9,b2,k⟩:=Vx k;refine Vn 0 288 b2 fun da=>?_;intro db dc c7;refine Vf J3 [286,287] [0,286,287] 14 (A.mb 18 32767) rfl (fun a w hf hh=>Vj (t:=T53) b2 c7 hf) ?_;refine J8 15 ?_;exact Vm k
  refine V3 2 ?_;obtain rfl:=J7 k;exact Vv [] (.tuple #[]) (fun a w hf hh=>Z.res0 rfl w) (⟨rfl,rfl⟩)
 refine Jv 3 ?_;have⟨ac,k⟩:=Vq k;refine Ub 7 [Z.R64 (o+u),(0≤(1:Int)∧(1:Int)≤64),Z.R64 ((IntKind.u64.wrap (o+u)) / 2^((1:Int)).toNat)] [(18,A.i ((IntKind.u64.wrap (o+u)) / 2^((1:Int)).toNat))] ac (Vb 2 ?_);have⟨c8,k⟩:=Vq k;refine Ub 4 [Z.R64 (((IntKind.u64.wrap (o+u)) / 2^((1:Int)).toNat)+p)] [(19,A.i (((IntKind.u64.wrap (o+u)) / 2^((1:Int)).toNat)+p))] c8 (Vb 2 ?_);refine J0 2 [] (Jw 1 ?_);refine J4 [0,1,2,3,4,18,19] [0] (fun U V=>∃(a8:Int),∃(a9:Int),U=[(20,A.i a8),(21,A.i a9)]∧V=[]∧A.h6 a8∧A.h6 a9∧F.n x o p u rc a8 a9=some r) ?_ ?_
 ·refine Jv 1 ?_;refine J0 3 [(140,.bool (decide ((IntKind.u64.wrap (o+u)) / 2^((1:Int)).toNat <p)))] (Jw 1 ?_);refine Vr k ?_ ?_<;>intro O k
  ·refine Jv 1 ?_;have⟨b3,k⟩:=Vq k;refine Ub 4 [Z.R64 ((((IntKind.u64.wrap (o+u)) / 2^((1:Int)).toNat)+p)-u)] [(20,A.i ((((IntKind.u64.wrap (o+u)) / 2^((1:Int)).toNat)+p)-u))] b3 (Vb 1 ?_);refine J0 2 [(21,A.i ((IntKind.u64.wrap (o+u)) / 2^((1:Int)).toNat))] (Jy ?_);exact Vi ⟨((((IntKind.u64.wrap (o+u)) / 2^((1:Int)).toNat)+p)-u),((IntKind.u64.wrap (o+u)) / 2^((1:Int)).toNat),rfl,rfl,(J2 b3),(J2 ac.2.2),k⟩
  refine Jv 1 ?_;refine J0 2 [(20,A.i o)] (Vb 1 ?_);refine J0 2 [(21,A.i p)] (Jy ?_);exact Vi ⟨o,p,rfl,rfl,aa,ab,k⟩
 rintro _ _ ⟨a8,a9,rfl,rfl,c9,ca,k⟩;rw[F.n]at k;refine Jv 1 ?_;have⟨cb,k⟩:=Vq k;refine Ub 3 [Z.R64 ((((IntKind.u64.wrap (o+u)) / 2^((1:Int)).toNat)+p)-1)] [(22,A.i ((((IntKind.u64.wrap (o+u)) / 2^((1:Int)).toNat)+p)-1))] cb (Jw 3 ?_);refine Vo [0,1,2,3,4,18,19,22] [0] (fun f U V=>∃(y:Int),∃(J:Int),U=[(20,A.i y),(21,A.i J)]∧V=[]∧A.h6 y∧A.h6 J∧F.b x o p u rc f y J=some r) ⟨a8,a9,rfl,rfl,c9,ca,k⟩ ?_;rintro b4 _ _ ⟨y,J,rfl,rfl,b5,cc,k⟩;rcases b4 with _|b4
 ·exact Vm k
 rw[F.b]at k;refine Jv 2 ?_;refine J0 3 [(151,.bool (decide (y<J)))] (Jw 1 ?_);refine Vr k ?_ ?_<;>intro O k
 ·refine Jv 4 ?_;have⟨b6,k⟩:=Vq k;refine Ub 7 [Z.R64 (y+J),(0≤(1:Int)∧(1:Int)≤64),Z.R64 ((IntKind.u64.wrap (y+J)) / 2^((1:Int)).toNat)] [(23,A.i ((IntKind.u64.wrap (y+J)) / 2^((1:Int)).toNat))] b6 (Jw 2 ?_);refine Vl mixed 14 14 (A.mb 14 0) ?_;have⟨cd,k⟩:=Vq k;refine Us J3 [] [0] [] [] (A.mb 14 415) 7 [(0,.n),(1,.n),(2,.n),(3,.n),(7,.n),(8,.n),(4,.n)] [158,159,165,166,162] [Z.R64 (((((IntKind.u64.wrap (o+u)) / 2^((1:Int)).toNat)+p)-1)-((IntKind.u64.wrap (y+J)) / 2^((1:Int)).toNat))] [(158,.func (.func 72) #[] #[]),(159,.slice A0_ x.length c1_),(165,.slice A0_ x.length c1_),(166,A.i ((IntKind.u64.wrap (y+J)) / 2^((1:Int)).toNat)),(162,A.i (((((IntKind.u64.wrap (o+u)) / 2^((1:Int)).toNat)+p)-1)-((IntKind.u64.wrap (y+J)) / 2^((1:Int)).toNat)))] cd ?_;have⟨b7,b9,k⟩:=Vx k;refine Vn 0 533 b9 fun a6=>?_;intro dd df ce;refine Vf J3 [0] [0,533] 5 (A.mb 14 447) rfl (fun a w hf hh=>Vj (t:=T53) b9 ce hf) ?_;refine Vh J3 [0,533] [0,533] [] [533] (A.mb 14 511) 5 [(6,.e 0 0)] [(164,(A.rai b7))] ?_;have⟨bb,bc,k⟩:=Vx k;refine Vn 0 534 bc fun a7=>?_;intro dg dh cf;refine Vf J3 [0,533] l3j 9 (A.mb 14 1023) rfl (fun a w hf hh=>Vj (t:=T53) bc cf hf) ?_;refine Vh J3 l3j l3j [] [534] (A.mb 14 2047) 3 [(10,.e 0 0)] [(168,(A.rai bb))] ?_;refine J8 11 ?_;refine Vw 535 [] k (o_t b7 bb a6.1.1 a6.1.2 a6.2.1.1 a6.2.1.2 a6.2.2.1 a6.2.2.2.1 a6.2.2.2.2.1 a6.2.2.2.2.2.1 a6.2.2.2.2.2.2.1 a6.2.2.2.2.2.2.2.1 a6.2.2.2.2.2.2.2.2.1 a6.2.2.2.2.2.2.2.2.2 a7.1.1 a7.1.2 a7.2.1.1 a7.2.1.2 a7.2.2.1 a7.2.2.2.1 a7.2.2.2.2.1 a7.2.2.2.2.2.1 a7.2.2.2.2.2.2.1 a7.2.2.2.2.2.2.2.1 a7.2.2.2.2.2.2.2.2.1 a7.2.2.2.2.2.2.2.2.2) .nil ?_;rintro ch - k _ _ ⟨rfl,rfl,hr118⟩;refine Ve ?_;refine Vg (A.mb 14 4095) l3j ?_;refine Vh J3 l3j l3j [] [] (A.mb 14 16383) 0 [(12,.n),(13,.n)] [(171,.bool (!(decide (ch<0))))] (J9 ?_);refine Uy 1 ?_;refine Ud k ?_ ?_<;>intro O k
  ·refine Jv 0 ?_;have⟨bd,k⟩:=Vq k;refine Ub 3 [Z.R64 (((IntKind.u64.wrap (y+J)) / 2^((1:Int)).toNat)+1)] [(20,A.i (((IntKind.u64.wrap (y+J)) / 2^((1:Int)).toNat)+1))] bd (Ug 1 ?_);exact Vi ⟨_,Qh _,⟨(((IntKind.u64.wrap (y+J)) / 2^((1:Int)).toNat)+1),J,rfl,rfl,(J2 bd),cc,k⟩⟩
  refine Jv 0 ?_;refine J0 2 [(21,A.i ((IntKind.u64.wrap (y+J)) / 2^((1:Int)).toNat))] (Ug 1 ?_);exact Vi ⟨_,Qh _,⟨y,((IntKind.u64.wrap (y+J)) / 2^((1:Int)).toNat),rfl,rfl,b5,(J2 b6.2.2),k⟩⟩
 refine Jv 3 ?_;have⟨be,k⟩:=Vq k;refine Ub 4 [Z.R64 ((((IntKind.u64.wrap (o+u)) / 2^((1:Int)).toNat)+p)-y)] [(24,A.i ((((IntKind.u64.wrap (o+u)) / 2^((1:Int)).toNat)+p)-y))] be (Vb 3 ?_);refine Jz [] [] [.n,.n,.n,.n,.sy .n,.sy .n,.sy .n,.pk] [(185,.bool (bif decide (y<p)then decide (p<(((IntKind.u64.wrap (o+u)) / 2^((1:Int)).toNat)+p)-y)else false))] (Jw 1 ?_);refine Ud k ?_ ?_<;>intro O k
 ·refine Jv 0 ?_;refine J0 5 [(186,.slice A0_ x.length c1_),(187,A.i y),(188,A.i p),(189,A.i ((((IntKind.u64.wrap (o+u)) / 2^((1:Int)).toNat)+p)-y)),(190,.func (.func 72) #[] #[])] ?_;exact Vm k
 refine V3 2 ?_;refine J4 [0,3,4,18,24] [0] (fun U V=>U=[]∧V=[]∧F.i x o p u rc y=some r) ?_ ?_
 ·refine Jv 1 ?_;refine Jz [] [] [.n,.n,.n,.n,.sy .n,.sy .n,.sy .n,.pk] [(199,.bool (bif decide (o<y)then decide (y<(IntKind.u64.wrap (o+u)) / 2^((1:Int)).toNat)else false))] (Jw 1 ?_);refine Ud k ?_ ?_<;>intro O k
  ·refine Jv 0 ?_;refine J0 5 [(200,.slice A0_ x.length c1_),(201,A.i o),(202,A.i y),(203,A.i ((IntKind.u64.wrap (o+u)) / 2^((1:Int)).toNat)),(204,.func (.func 72) #[] #[])] ?_;refine Vw 575 [] k (ihr x o y ((IntKind.u64.wrap (o+u)) / 2^((1:Int)).toNat) A0_ c1_ aa b5 (J2 ac.2.2)) (.s 0 .nil) ?_;rintro di - k _ _ ⟨rfl,rfl⟩;refine Ve ?_;refine Jy ?_;exact Vi ⟨rfl,rfl,k⟩
  refine Vy 1 ?_;exact Vi ⟨rfl,rfl,k⟩
 rintro _ _ ⟨rfl,rfl,k⟩;rw[F.i]at k;refine Jv 1 ?_;refine Jz [] [] [.n,.n,.n,.n,.sy .n,.sy .n,.sy .n,.pk] [(213,.bool (bif decide ((IntKind.u64.wrap (o+u)) / 2^((1:Int)).toNat <(((IntKind.u64.wrap (o+u)) / 2^((1:Int)).toNat)+p)-y)then decide ((((IntKind.u64.wrap (o+u)) / 2^((1:Int)).toNat)+p)-y<u)else false))] (Jw 1 ?_);refine Ud k ?_ ?_<;>intro O k
 ·refine Jv 0 ?_;refine J0 5 [(214,.slice A0_ x.length c1_),(215,A.i ((IntKind.u64.wrap (o+u)) / 2^((1:Int)).toNat)),(216,A.i ((((IntKind.u64.wrap (o+u)) / 2^((1:Int)).toNat)+p)-y)),(217,A.i u),(218,.func (.func 72) #[] #[])] ?_;refine Vw 615 [] k (ihr x ((IntKind.u64.wrap (o+u)) / 2^((1:Int)).toNat) ((((IntKind.u64.wrap (o+u)) / 2^((1:Int)).toNat)+p)-y) u A0_ c1_ (J2 ac.2.2) (J2 be) ad) (.s 0 .nil) ?_;rintro dj - k _ _ ⟨rfl,rfl⟩;refine Ve ?_;refine Jy ?_;obtain rfl:=J7 k;exact A.AE.ret [] (.tuple #[]) (fun a w hf hh=>Z.res0 rfl w) (⟨rfl,rfl⟩)
 refine Vy 1 ?_;obtain rfl:=J7 k;exact A.AE.ret [] (.tuple #[]) (fun a w hf hh=>Z.res0 rfl w) (⟨rfl,rfl⟩)
def F.c:Nat→(List D53)→Int→Int→Int→Option Unit
 |0,_,_,_,_=>none
 |f+1,k,o,p,s=>F.ax (F.c f) k o p s
theorem o_a: ∀f,∀(k:(List D53)) (o:Int) (p:Int) (s:Int) (A0_:Option Addr) (c1_:Nat) (x:A.h6 o) (y:A.h6 p) (z:A.h6 s) (r:Unit),F.c f k o p s=some r→A.Ct Tryz.prog 147 [.slice A0_ k.length c1_,A.i o,A.i p,A.i s,.func (.func 72) #[] #[]] [(0,.ln T53 A0_ c1_ k)] [] (fun v H'=>v=.tuple #[]∧H'=[])
 |0=>fun _ _ _ _ _ _ _ _ _ r u=>Vm u
 |f+1=>fun k o p s A0_ c1_ x y z r u=>o_l A0_ c1_ (F.c f) k o p s x y z (o_a f) r u
def F.q (o:Int→Option Unit)(k:Int):Option Unit:=A.gd (Z.R64 (k*2)) (o (k*2))
def F.r (u:Int→Option Unit)(x:(List D53))(s:Int)(k:Int):Nat→Int→Int→Option Unit
 |0,_,_=>none
 |f+1,o,p=>if p≤s then(A.gd (Z.R64 (o+k)) ((F.c A.FU x o (o+k) p).bind fun y=>(A.gd (Z.R64 (2*k)∧Z.R64 (p+(2*k))) ((F.r u x s k f) p (p+(2*k))))))else(A.gd (Z.R64 (o+k)) (if o+k<s then((F.c A.FU x o (o+k) s).bind fun z=>(F.q u k))else(F.q u k)))
def F.f (p:(List D53))(o:Int):Nat→Int→Option Unit
 |0,_=>none
 |f+1,k=>if k<o then(A.gd (Z.R64 (2*k)) (F.r (F.f p o f) p o k A.FU 0 (2*k)))else(some ())
def F.s (o:(List D53))(p:Int):Nat→Int→Int→Option Unit
 |0,_,_=>none
 |f+1,u,k=>if k≤p then((F.m o u k).bind fun x=>(A.gd (Z.R64 (k+20)) ((F.s o p f) k (k+20))))else((F.m o u p).bind fun y=>(F.f o p A.FU 20))
def F.aB (k:(List D53))(o:Int):Option Unit:=F.s k o A.FU 0 20
theorem o_q(p:(List D53))(u:Int)(O:A.h6 u)(r:Unit)(k:F.aB p u=some r):
    A.Ct Tryz.prog 105 [.slice A0_ p.length c1_,A.i u,.func (.func 72) #[] #[]] [(0,.ln T53 A0_ c1_ p)] [] (fun v H'=>v=.tuple #[]∧H'=[]):=by
 refine J1 Tryz.func105 rfl Tryz.ntmps105 rfl fun w0 F0=>?_;rw[F.aB]at k;refine Jv 1 ?_;refine J0 1 [(6,A.i 20)] (Vb 2 ?_);refine J0 3 [(7,A.i 0),(8,A.i 20)] (Jw 3 ?_);refine Vo [0,1,2,6] [0] (fun f E J=>∃(B:Int),∃(y:Int),E=[(7,A.i B),(8,A.i y)]∧J=[]∧A.h6 B∧A.h6 y∧F.s p u f B y=some r) ⟨0,20,rfl,rfl,J5,(Vd .i64 (20) rfl),k⟩ ?_;rintro U _ _ ⟨B,y,rfl,rfl,V,W,k⟩;rcases U with _|U
 ·exact Vm k
 rw[F.s]at k;refine Jv 2 ?_;refine J0 3 [(13,.bool (decide (y≤u)))] (Jw 1 ?_);refine Vr k ?_ ?_<;>intro N k
 ·refine Jv 4 ?_;refine J0 4 [(14,.slice A0_ p.length c1_),(15,A.i B),(16,A.i y),(17,.func (.func 72) #[] #[])] ?_;refine Vw 1601 [] k (o_c A0_ c1_ p B y V W) (.s 0 .nil) ?_;rintro r6 - k _ _ ⟨rfl,rfl⟩;refine Ve ?_;refine Vb 2 ?_;refine J0 2 [(7,A.i y)] (Vb 1 ?_);have⟨Y,k⟩:=Vq k;refine Ub 4 [Z.R64 (y+20)] [(8,A.i (y+20))] Y (Ug 1 ?_);exact Vi ⟨_,Qh _,⟨y,(y+20),rfl,rfl,W,(J2 Y),k⟩⟩
 refine Jv 3 ?_;refine J0 4 [(23,.slice A0_ p.length c1_),(24,A.i B),(25,A.i u),(26,.func (.func 72) #[] #[])] ?_;refine Vw 1641 [] k (o_c A0_ c1_ p B u V O) (.s 0 .nil) ?_;rintro r9 - k _ _ ⟨rfl,rfl⟩;refine Ve ?_;refine Jw 2 ?_;refine Vo [0,1,2] [0] (fun f E J=>∃(o:Int),E=[(6,A.i o)]∧J=[]∧A.h6 o∧F.f p u f o=some r) ⟨20,rfl,rfl,(Vd .i64 (20) rfl),k⟩ ?_;rintro L _ _ ⟨o,rfl,rfl,aa,k⟩;rcases L with _|L
 ·exact Vm k
 rw[F.f]at k;refine Jv 2 ?_;refine J0 3 [(30,.bool (decide (o<u)))] (Jw 1 ?_);refine Vr k ?_ ?_<;>intro N k
 ·refine Jv 4 ?_;have⟨a2,k⟩:=Vq k;refine Ub 4 [Z.R64 (2*o)] [(7,A.i 0),(8,A.i (2*o))] a2 (Jw 3 ?_);refine Vo [0,1,2,6] [0] (fun f E J=>∃(x:Int),∃(z:Int),E=[(7,A.i x),(8,A.i z)]∧J=[]∧A.h6 x∧A.h6 z∧F.r (F.f p u L) p u o f x z=some r) ⟨0,(2*o),rfl,rfl,J5,(J2 a2),k⟩ ?_;rintro a3 _ _ ⟨x,z,rfl,rfl,a4,a5,k⟩;rcases a3 with _|a3
  ·exact Vm k
  rw[F.r]at k;refine Jv 2 ?_;refine J0 3 [(35,.bool (decide (z≤u)))] (Jw 1 ?_);refine Vr k ?_ ?_<;>intro N k
  ·refine Jv 4 ?_;have⟨a6,k⟩:=Vq k;refine Ub 7 [Z.R64 (x+o)] [(36,.slice A0_ p.length c1_),(37,A.i x),(40,A.i (x+o)),(41,A.i z),(42,.func (.func 72) #[] #[])] a6 ?_;refine Vw 2321 [] k (o_a A.FU p x (x+o) z A0_ c1_ a4 (J2 a6) a5) (.s 0 .nil) ?_;rintro ab - k _ _ ⟨rfl,rfl⟩;refine Ve ?_;refine Vb 2 ?_;refine J0 2 [(7,A.i z)] (Vb 1 ?_);have⟨a7,k⟩:=Vq k;refine Ub 5 [Z.R64 (2*o),Z.R64 (z+(2*o))] [(8,A.i (z+(2*o)))] a7 (Ug 1 ?_);exact Vi ⟨_,Qh _,⟨z,(z+(2*o)),rfl,rfl,a5,(J2 a7.2),k⟩⟩
  refine V3 2 ?_;refine J4 [0,1,2,6] [0] (fun E J=>E=[]∧J=[]∧F.q (F.f p u L) o=some r) ?_ ?_
  ·refine Jv 1 ?_;have⟨a8,k⟩:=Vq k;refine Ub 4 [Z.R64 (x+o)] [(9,A.i (x+o))] a8 (Vb 2 ?_);refine J0 3 [(54,.bool (decide (x+o<u)))] (Jw 1 ?_);refine Vr k ?_ ?_<;>intro N k
   ·refine Jv 0 ?_;refine J0 5 [(55,.slice A0_ p.length c1_),(56,A.i x),(57,A.i (x+o)),(58,A.i u),(59,.func (.func 72) #[] #[])] ?_;refine Vw 2361 [] k (o_a A.FU p x (x+o) u A0_ c1_ a4 (J2 a8) O) (.s 0 .nil) ?_;rintro ac - k _ _ ⟨rfl,rfl⟩;refine Ve ?_;refine Jy ?_;exact Vi ⟨rfl,rfl,k⟩
   refine Vy 1 ?_;exact Vi ⟨rfl,rfl,k⟩
  rintro _ _ ⟨rfl,rfl,k⟩;rw[F.q]at k;refine Jv 0 ?_;have⟨a9,k⟩:=Vq k;refine Ub 3 [Z.R64 (o*2)] [(6,A.i (o*2))] a9 (Ug 1 ?_);exact Vi ⟨_,Qh _,⟨(o*2),rfl,rfl,(J2 a9),k⟩⟩
 refine Vy 1 ?_;obtain rfl:=J7 k;exact A.AE.ret [] (.tuple #[]) (fun a w hf hh=>Z.res0 rfl w) (⟨rfl,rfl⟩)
def F.v (k:(List D53)):Option Unit:=(F.aB k (k.length:Int)).bind fun o=>(some ())
theorem o_f(k:(List D53))(r:Unit)(o:F.v k=some r):
    A.Ct Tryz.prog 71 [.slice A0_ k.length c1_,.func (.func 72) #[] #[]] [(0,.ln T53 A0_ c1_ k)] [] (fun v H'=>v=.tuple #[]∧H'=[]):=by
 refine J1 Tryz.func71 rfl Tryz.ntmps71 rfl fun p u=>?_;rw[F.v]at o;refine Jv 0 ?_;refine J0 4 [(4,.slice A0_ k.length c1_),(6,A.i (k.length:Int)),(7,.func (.func 72) #[] #[])] ?_;refine A.okl 0 fun hl1=>?_;refine Vw 1 [] o (o_q A0_ c1_ k (k.length:Int) (A.has_len hl1.1)) (.s 0 .nil) ?_;rintro x - o _ _ ⟨rfl,rfl⟩;refine Ve ?_;refine Jy ?_;obtain rfl:=J7 o;exact A.AE.ret [] (.tuple #[]) (fun a w hf hh=>Z.res0 rfl w) (⟨rfl,rfl⟩)
def F.ct (o:D23):Option ((List D53)×Int):=(F.bJ o).bind fun k=>A.om k.1 (if k.2≠0 then(some ([],k.2))else(none)) fun s=>(if k.2≠0 then(some ([],k.2))else((F.bb s o).bind fun p=>((F.v p).bind fun u=>(some (p,0)))))
theorem o_a4(p:D23)(r:(List D53)×Int)(k:F.ct p=some r):
    A.Ct Tryz.prog 38 [.agg #[.slice A0_ p.length c1_]] [(0,.sh (.slice T83) [.slice A0_ p.length c1_] p),(1,.el none 0 0 A.tabF),(2,.el none 1 0 A.tabA)] [] (fun v H'=>∃(A0':Option Addr) (c1':Nat),v=.tuple #[.slice A0' r.1.length c1',A.i r.2]∧H'=[(0,.own T53 54 A0' c1' r.1)]∧A.h6 r.2):=by
 refine J1 Tryz.func38 rfl Tryz.ntmps38 rfl fun V W=>?_;rw[F.ct]at k;refine Jv 1 ?_;refine Vc 3 (cs:=[.slice A0_ p.length c1_]) fun Y=>?_;refine J0 2 [] (Vb 2 ?_);refine Jz [3] [] [.b 0 0] [(8,.agg #[.slice A0_ p.length c1_])] ?_;refine Vw 4 [] k (o_au A0_ c1_ p) (.s 0 (.s 1 (.s 2 .nil))) ?_;rintro u - k _ _ (⟨hp18,rfl,rfl,hr4⟩|⟨E,hp18,B,J,L,N,O,rfl,rfl,hr11⟩)
 ·refine Ve ?_;rw[A.om_n hp18]at k
  refine J0 5 [(4,.pointer none),(5,A.i u.2)] (Vb 3 ?_);refine J0 2 [(13,.bool (decide (u.2≠0)))] (Jw 1 ?_);refine Vr k ?_ ?_<;>intro U k
  ·refine Jv 1 ?_;refine J0 3 [(2,.slice none 0 0),(3,A.i u.2)] (Jw 1 ?_);obtain rfl:=J7 k;refine V9 44 T53 54 ?_;exact V4 [(0,44)] ⟨none,0,rfl,rfl,hr4⟩
  refine Jv 3 ?_;refine Jz [3] [] [.n,.b 0 0] [(15,.pointer none),(16,.agg #[.slice A0_ p.length c1_])] ?_;exact Vm k
 refine Ve ?_;rw[A.om_s hp18]at k
 refine J0 5 [(4,.pointer (some ⟨B,0,none⟩)),(5,A.i u.2)] (Vb 3 ?_);refine J0 2 [(13,.bool (decide (u.2≠0)))] (Jw 1 ?_);refine Vr k ?_ ?_<;>intro U k
 ·refine Jv 1 ?_;refine J0 3 [(2,.slice none 0 0),(3,A.i u.2)] (Jw 1 ?_);obtain rfl:=J7 k;refine V9 45 T53 54 ?_;exact V4 [(0,45)] ⟨none,0,rfl,rfl,hr11⟩
 refine Jv 3 ?_;refine Jz [3] [] [.n,.b 0 0] [(15,.pointer (some ⟨B,0,none⟩)),(16,.agg #[.slice A0_ p.length c1_])] ?_;refine Vw 46 [] k (o_ai L A0_ B J N O c1_ E p) (.m 4 (.m 5 (.m 6 (.m 7 (.s 0 .nil))))) ?_;rintro z - k _ _ ⟨x,y,rfl,rfl⟩;refine Ve ?_;refine V7 47 4 [] ?_;refine V7 48 5 [] ?_;refine V7 49 6 [] ?_;refine V7 50 7 [] ?_;refine J0 1 [(6,.slice x z.length y)] (Vb 2 ?_);refine J0 1 [(18,.slice x z.length y)] ?_;refine Vw 86 [] k (o_f x y z) (.o 46 .nil) ?_;rintro a1 - k _ _ ⟨rfl,rfl⟩;refine Ve ?_;refine Vb 2 ?_;refine J0 3 [(2,.slice x z.length y),(3,A.i 0)] (Jw 1 ?_);obtain rfl:=J7 k;exact V4 [(0,46)] ⟨x,y,rfl,rfl,J5⟩
end Go.Proofs.YtlbnpmfggfbdoaaGreatDoor
end
section
namespace Go.A
open Go.RowKit Go.Z
section
variable {C:Cx}{l:List (Nat×Value)}{H:List (Nat×Res)}{X:Act→World→Prop}
theorem bta (k:Nat)(js:List Nat){t:Ty}{g:Nat}{T:TypeId}{cs:List Value}(xs:List t.den)(hD:Dats H t cs xs)(h: ∀a w,Fr a C.n C.ds l→Hp C ((k,.own t T (some ⟨g,0,none⟩) xs.length xs)::ded js H) w→X a w)
  (J:hk H k=some (.blk g T cs):=by rfl) (hx:Nat.ble xs.length 100000=true:=by rfl) (N:hng [k] js H=true:=by kernel_rfl): ∀a w,Fr a C.n C.ds l→Hp C H w→X a w:=fun a w hf O=>by
 refine h a w hf (Hp.dd (O.upd (S:=[]) (Ch.refl w) (by simp) (fun b W=>.inl ⟨_,J,W⟩) (fun j N=>by cases N) fun F B q1 q2 _ _ _=>?_) N)
 have hB:Blk w g T cs:=O.hold k _ J
 obtain⟨Y,h2,h3⟩:=Dats.all O hD
 have hx:=Q0 hx
 refine⟨cs,⟨Y,.inr ⟨g,xs.length,cs.toArray,rfl,Xq _,hB,Q1 _,by simp only[maxLen];omega,by simp[Y],by simp[←Y]⟩⟩,h2,fun i y hi=>Qcr (h3 i y hi) fun b W hlt=>q1 b W hlt⟩
end
section
variable {r:Option Nat}{P:Program}{ops:Array Oper}{Q:Exit→Act→World→Prop}{rest lst:List Oper}{C:Cx}{l:List (Nat×Value)}{H:List (Nat×Res)}{d:Nat}{T:TypeId}{pos:String}{af:Array Edge}
theorem AL.ixoA (k kn:Nat){t:Ty}{e':TypeId}{g c n:Nat}{xs:List t.den}{x y:Operand}{i:Int}{kd:IntKind}{v:t.den}{e tt:TypeId}(W:ix xs i=some v)(hlen:n=xs.length)
  (h:t.ok v→tele (lv t) fun ps=>AL r P ops Q rest C ((d,.pointer (some ⟨g,i.toNat*t.size,none⟩))::l) (hcat (kx (kn+1) (rs t v ps)) ((kn,.el (some k) g (i.toNat*t.size) (cl t v ps))::H)))
  (Y:hk H k=some (.own t e' (some ⟨g,0,none⟩) c xs):=by rfl) (hx:ev l x=some (.pointer (some ⟨g,0,none⟩)):=by rfl) (hy:ev l y=some (.int kd i):=by rfl) (ht:P.underlying tt=some (.array n e):=by rfl) (hs:szB P e=some t.size:=by kernel_rfl)
  (hd:Nat.ble (d+1) C.n=true:=by rfl) (hn:nok H kn (1+lv t)=true:=by kernel_rfl):AL r P ops Q (⟨some d,.indexAddr tt x y,T,pos,af,none⟩::rest) C l H:=fun a w hf hh=>by
 subst hlen
 obtain⟨j,rfl,hv⟩:=Qaj W
 have hlt:=(Qc.1 hv).1
 obtain⟨G,hR,hG⟩:=rowO Y w hh
 obtain⟨b,o,es,hA,hb,hbl,hc,J⟩:=hR.at hv
 injection hA with hA;injection hA with e1 e2 _;subst e1;subst e2
 obtain⟨ps,hl,rfl,hrs⟩:=rep_cl (B:=Bk H) t (Qaf t J)
 have hn':nok H kn (1+(rs t v ps).length)=true:=by rw[Qbd t v ps hl];exact hn
 have hnk:hk H kn=none:=Qat hn' (Q1 _) (by omega)
 rw[Wf]at hc
 have h1:Hp C ((kn,.el (some k) g (j*t.size) (cl t v ps))::H) w:=hh.add hnk rfl (fun i W r J=>by injection W with W;subst W;rw[Y]at J;injection J with J;subst J;rfl) ⟨hc,hbl,hG g hb⟩
 have hnn: ∀n k',nok H k' n=true→(∀i,k'≤i→i<k'+n→i≠kn)→nok ((kn,.el (some k) g (j*t.size) (cl t v ps))::H) k' n=true:=by
  intro n
  induction n with
  |zero=>intro _ _ _;rfl
  |succ n ih=>
   intro k' h2 h3
   simp only[nok,Qm]at h2 ⊢
   refine⟨?_,ih (k'+1) h2.2 fun i h4 h5=>h3 i (by omega) (by omega)⟩
   rw[Qaa,if_neg (Ne.symm (h3 k' (Q1 _) (by omega)))];exact h2.1
 have hn2:nok H (kn+1) (rs t v ps).length=true:=by
  rw[Yr 1]at hn'
  simp only[nok,Qm]at hn';exact hn'.2
 have h2:Hp C (hcat (kx (kn+1) (rs t v ps)) ((kn,.el (some k) g (j*t.size) (cl t v ps))::H)) w:=by
  refine h1.adds (hnn _ _ hn2 fun i h4 _=>by omega) fun r2 h4=>?_
  obtain⟨h5,h6,h7⟩:=hrs r2 h4
  have N: ∀i b',Bk ((kn,.el (some k) g (j*t.size) (cl t v ps))::H) i b'↔Bk H i b':=fun i b'=>by
   by_cases O:i=kn
   ·subst O
    rw[Bk.cons_eq]
    exact⟨fun h=>by simp[Res.bl]at h,fun⟨_,h8,_⟩=>by rw[hnk]at h8;cases h8⟩
   ·exact Bk.cons_ne O
  exact⟨h6,h7,Res.to h5 (S:=[]) (Ch.refl w) (fun b' hF _=>⟨by simp,⟨fun i O=>hF.1.1 i ((N i b').1 O),hF.1.2⟩,hF.2⟩) (fun b' hB _=>⟨by simp,fun i O=>hB i ((N i b').1 O)⟩) (fun i b' _ hB=>⟨by simp,(N i b').2 hB⟩) (by simp)⟩
 refine Z.val (v:=.pointer (some ⟨g,j*t.size,none⟩)) hf hd ?_ fun a' hf'=>Qam (h (rep_ok t J)) ps hl a' w hf' h2
 have:=r_indexArr (P:=P) (a:=a) (w:=w) (T:=T) (pos:=pos) (af:=af) (dd:=some d) (gd:=none) (o:=0) ht (Qag hs) (hf.eval hx) (hf.eval hy) (by omega) (by omega)
 rw[Wf,Qs]at this
 exact this
end
def b8 (x:Int):UInt8:=UInt8.ofNat (x%256).toNat
def Fz (fz:Nat×Nat)(n:Nat):Prop:=∀j,j<n→¬(fz.1≤j∧j<fz.2)
def Bs (e:TypeId)(c:Nat)(xs:List UInt8):Obj→Prop:=fun o=>∃(cur:Array Value) (fz:Nat×Nat),o=.cells cur e fz∧Fz fz c∧cur.size=c∧c≤maxLen∧xs.length≤c∧∀(j:Nat) (b:UInt8),xs[j]?=some b→cur[j]?=some (.int .u8 (b.toNat:Int))
section
variable {r:Option Nat}{P:Program}{ops:Array Oper}{Q:Exit→Act→World→Prop}{rest:List Oper}{C:Cx}{l:List (Nat×Value)}{H:List (Nat×Res)}{d:Nat}{T:TypeId}{pos:String}{af:Array Edge}
end
end Go.A
end
section
namespace Go.Z
open Go.RowKit Go.Lib
section
variable {P:Program}{a:Act}{w:World}{d:Option Tmp}{T:TypeId}{pos:String}{af:Array Edge}{gd:Option (Nat×Bool)}
theorem r_sliceA_l {t e:TypeId}{x lo:Operand}{n sz g o u:Nat}{k:IntKind}{p:Int}(J:P.underlying t=some (.array n e))(N: ∀w,(sizeOf e).run P w=.ok sz w)(O:a.eval x=.pointer (some ⟨g,o,none⟩))(W:a.eval lo=.int k p)(hp:p=(u:Int))(Y:u≤n):
  (execOp a.eval ⟨d,.slice t x (some lo) none none,T,pos,af,gd⟩).run P w=.ok (.value (.slice (cutA (some ⟨g,o,none⟩) n u sz) (n-u) (n-u))) w:=by
 subst hp
 by_cases hc:n=u<;>simp[execOp,Instr.sliceAt,run_underlying J,O,W,Instr.sureAddr,Instr.sliceBounds,Instr.sliceBound,asIntOf,Y,N,cutA,hc]
end
end Go.Z
namespace Go.A
open Go.RowKit Go.Z
theorem arr4 {τ:Type}{a b c d y:τ}{i:Int}{Q:Int→Prop}(h:ix [a,b,c,d] i=some y)(J:Q 0)(N:Q 1)(O:Q 2)(W:Q 3):Q i:=by
 obtain⟨p,q⟩:=ix_ok h
 simp only[Qi,Qx]at q
 have:i=0∨i=1∨i=2∨i=3:=by omega
 rcases this with rfl|rfl|rfl|rfl<;>assumption
theorem ite_has {k:IntKind}{p:Prop}[Decidable p]{x y:Int}(J:k.has x)(N:k.has y):k.has (if p then x else y):=by split<;>assumption
section
variable {r:Option Nat}{P:Program}{ops:Array Oper}{Q:Exit→Act→World→Prop}{rest lst:List Oper}{C:Cx}{l:List (Nat×Value)}{H:List (Nat×Res)}{d:Nat}{T:TypeId}{pos:String}{af:Array Edge}
theorem AL.stb (k:Nat)(js:List Nat){τ:Type}{vals:List τ}{v0:τ}{t bt:TypeId}{x y:Operand}{g o:Nat}{i:Int}{cs cs':List Value}{v:Value}(hi:ix vals i=some v0)(hc:cs'=cs.set (o+i.toNat*1) v)
  (h:AL r P ops Q rest C l ((k,.blk g bt cs')::ded js H))
  (O:hk H k=some (.blk g bt cs):=by rfl) (hx:ev l x=some (.pointer (some ⟨g,o+i.toNat*1,none⟩)):=by rfl) (hy:ev l y=some v:=by rfl) (hS:szB P t=some 1:=by kernel_rfl)
  (hv:v.cells=[v].toArray:=by rfl) (ho:Nat.ble (o+vals.length) cs.length=true:=by rfl) (h1:v.oneCell'=true:=by rfl) (W:hng [k] js H=true:=by kernel_rfl):
  AL r P ops Q (⟨none,.store t x y,T,pos,af,none⟩::rest) C l H:=fun a w hf hh=>by
 obtain⟨p,q⟩:=ix_ok hi
 have ho:=Q0 ho
 have N:o+i.toNat*1<cs.length:=by omega
 refine Z.st_store (new:=[v]) (cs':=cs') hf (hh.hold k _ O) hx hy (Qag hS) hv rfl (Nat.ble_eq_true_of_le N) (fun u hu=>by simp at hu;subst hu;exact h1) ?_ fun w' a' hs hb' Y hf'=>
  h a' w' hf' (Hp.dd (hh.upd Y (fun b J=>⟨_,O,J⟩) (fun b J=>.inl ⟨_,O,J⟩) (fun j W=>by cases W) fun _ _ _ _ _ _ _=>hb') W)
 rw[hc,List.set_eq_take_append_cons_drop,if_pos N,Wd];rfl
theorem AL.ixv {τ:Type}(f:τ→Value)(vals:List τ){tt e:TypeId}{n:Nat}{x y:Operand}{i:Int}{kd:IntKind}{v:τ}(N:ix vals i=some v)(h:AL r P ops Q rest C ((d,f v)::l) H)
  (W:ev l x=some (.agg (vals.map f).toArray):=by rfl) (Y:ev l y=some (.int kd i):=by rfl) (ht:P.underlying tt=some (.array n e):=by rfl) (hl:vals.length=n:=by rfl) (O:szB P e=some 1:=by kernel_rfl) (hA:aggB P e=some false:=by kernel_rfl) (hd:Nat.ble (d+1) C.n=true:=by rfl):
  AL r P ops Q (⟨some d,.index tt x y,T,pos,af,none⟩::rest) C l H:=fun a w J hh=>by
 subst hl
 obtain⟨p,q⟩:=ix_ok N
 obtain⟨j,rfl,hj⟩:=Qaj N
 refine Z.val J hd ?_ fun a' hf'=>h a' w hf' hh
 have h0:(part e (vals.map f).toArray (((j:Int)).toNat*1)).run P w=.ok (f v) w:=Z.part_one w (Qbz hA) (by simp[hj])
 simp only[execOp,Instr.index,Sem.run_bind,J.eval W,J.eval Y,asIntOf,Sem.run_pure,Result.andThen_ok,run_underlying ht,Qag O w]
 rw[if_pos ⟨p,q⟩]
 simp only[Sem.run_bind,Qag O w,Result.andThen_ok,h0,Sem.run_pure]
theorem AL.cutv (k:Nat){t:Ty}{tt e e':TypeId}{x lo:Operand}{A:Option Addr}{c u:Nat}{xs:List t.den}{O:IntKind}{p:Int}(hp:p=(u:Int))(W:u≤xs.length)
  (h:AL r P ops Q rest C ((d,.slice (cutA A c u t.size) (xs.length-u) (c-u))::l) H)
  (Y:hk H k=some (.own t e' A c xs):=by rfl) (hx:ev l x=some (.slice A xs.length c):=by rfl) (J:ev l lo=some (.int O p):=by rfl) (hS:szB P e=some t.size:=by kernel_rfl)
  (ht:P.underlying tt=some (.slice e):=by rfl) (hd:Nat.ble (d+1) C.n=true:=by rfl):AL r P ops Q (⟨some d,.slice tt x (some lo) none none,T,pos,af,none⟩::rest) C l H:=fun a w N hh=>
 Z.val N hd (Qhs ht (Qag hS) (N.eval hx) (N.eval J) hp W) fun a' hf'=>h a' w hf' hh
theorem Row.drop {t:Ty}{w:World}{F G:Nat→Prop}{A:Option Addr}{c u:Nat}{xs:List t.den}(h:Row t w F G A c xs)(hu:u≤xs.length):Row t w F G (cutA A c u t.size) (c-u) (xs.drop u):=by
 obtain⟨h2,h3,cells,W,J,h6⟩:=h
 refine⟨by rw[Xn];omega,by omega,cells.drop (u*t.size),by rw[Xn,Xn,W,Nat.sub_mul],?_,fun i x N=>?_⟩
 ·rw[Xn]
  by_cases Y:xs.length-u=0
  ·exact .inl Y
  ·rcases J with J|⟨b,o,rfl,hb,hc⟩
   ·omega
   ·refine .inr ⟨b,o+u*t.size,by unfold cutA;rw[if_neg (by omega),Wj,Addr.add_lit],hb,fun j v O=>?_⟩
    rw[Wc]at O
    rw[Y7];exact hc _ v O
 ·rw[Wc]at N
  rw[X5,←Xv]
  exact h6 _ x N
theorem AL.ixw (k kn:Nat){t:Ty}{e':TypeId}{A:Option Addr}{c u O:Nat}{xs:List t.den}{x y:Operand}{i:Int}{kd:IntKind}{v:t.den}{e tt:TypeId}(W:ix (xs.drop u) i=some v)(Y:u≤xs.length)(hlen:O-u=xs.length-u)
  (h:t.ok v→tele (lv t) fun ps=>∀b o,AL r P ops Q rest C ((d,.pointer (some ⟨b,o+i.toNat*t.size,none⟩))::l) (hcat (kx (kn+1) (rs t v ps)) ((kn,.el (some k) b (o+i.toNat*t.size) (cl t v ps))::H)))
  (J:hk H k=some (.own t e' A c xs):=by rfl) (hx:ev l x=some (.slice (cutA A c u t.size) (O-u) (c-u)):=by rfl) (hy:ev l y=some (.int kd i):=by rfl) (ht:P.underlying tt=some (.slice e):=by rfl) (hs:szB P e=some t.size:=by kernel_rfl)
  (hd:Nat.ble (d+1) C.n=true:=by rfl) (hn:nok H kn (1+lv t)=true:=by kernel_rfl):AL r P ops Q (⟨some d,.indexAddr tt x y,T,pos,af,none⟩::rest) C l H:=
 AL.ixc (ko:=some k) (fun w hh=>by
  obtain⟨G,hR,hG⟩:=rowO J w hh
  exact⟨G,hR.drop Y,hG⟩) (fun j h r N=>by injection h with h;subst h;rw[J]at N;injection N with N;subst N;rfl) (by rw[hx,hlen,Xn]) hy W ht hs (fun ho=>Qce (fun ps h b o _=>h b o) (h ho)) hd fun ps hl=>by rw[Qbd t v ps hl];exact hn
end
section
variable {C:Cx}{l:List (Nat×Value)}{H:List (Nat×Res)}{P:Program}
theorem vw {x:Operand}{A:Option Addr}{c J u:Nat}{α:Type}{xs:List α}(N:ev l x=some (.slice A (J-u) c))(h:J-u=xs.length-u):ev l x=some (.slice A (xs.drop u).length c):=by rw[N,h,Xn]
theorem pkw {X:Act→World→Prop}(k kn:Nat){t:Ty}{e:TypeId}{A:Option Addr}{c u:Nat}{xs:List t.den}{i:Int}{v:t.den}(hi:ix (xs.drop u) i=some v)(hu:u≤xs.length)
  (h:t.ok v→tele (lv t) fun ps=>∀b o,cutA A c u t.size=some ⟨b,o,none⟩→∀a w,Fr a C.n C.ds l→Hp C (hcat (kx (kn+1) (rs t v ps)) ((kn,.el (some k) b (o+i.toNat*t.size) (cl t v ps))::H)) w→X a w)
  (Y:hk H k=some (.own t e A c xs):=by rfl) (hn:nok H kn (1+lv t)=true:=by kernel_rfl): ∀a w,Fr a C.n C.ds l→Hp C H w→X a w:=fun a w hf hh=>by
 obtain⟨k',rfl,hv⟩:=Qaj hi
 obtain⟨G,hR,hG⟩:=rowO Y w hh
 obtain⟨b,o,es,hA,hb,hbl,hc,N⟩:=(hR.drop hu).at hv
 obtain⟨ps,hl,rfl,hrs⟩:=rep_cl (B:=Bk H) t (Qaf t N)
 have hnk:hk H kn=none:=Qat hn (Q1 _) (by omega)
 have h1:Hp C ((kn,.el (some k) b (o+k'*t.size) (cl t v ps))::H) w:=hh.add hnk rfl (fun j J r N=>by injection J with J;subst J;rw[Y]at N;injection N with N;subst N;rfl) ⟨hc,hbl,hG b hb⟩
 have hn2:nok H (kn+1) (rs t v ps).length=true:=by
  rw[Qbd t v ps hl]
  rw[Yr 1]at hn
  simp only[nok,Qm]at hn;exact hn.2
 have hnn: ∀n O,nok H O n=true→(∀j,O≤j→j<O+n→j≠kn)→nok ((kn,.el (some k) b (o+k'*t.size) (cl t v ps))::H) O n=true:=by
  intro n
  induction n with
  |zero=>intro _ _ _;rfl
  |succ n ih=>
   intro O h2 h3
   simp only[nok,Qm]at h2 ⊢
   refine⟨?_,ih (O+1) h2.2 fun j h4 h5=>h3 j (by omega) (by omega)⟩
   rw[Qaa,if_neg (Ne.symm (h3 O (Q1 _) (by omega)))];exact h2.1
 have h2:Hp C (hcat (kx (kn+1) (rs t v ps)) ((kn,.el (some k) b (o+k'*t.size) (cl t v ps))::H)) w:=by
  refine h1.adds (hnn _ _ hn2 fun j h4 _=>by omega) fun r2 h4=>?_
  obtain⟨h5,h6,h7⟩:=hrs r2 h4
  have W: ∀j b',Bk ((kn,.el (some k) b (o+k'*t.size) (cl t v ps))::H) j b'↔Bk H j b':=fun j b'=>by
   by_cases J:j=kn
   ·subst J
    rw[Bk.cons_eq]
    exact⟨fun h=>by simp[Res.bl]at h,fun⟨_,h8,_⟩=>by rw[hnk]at h8;cases h8⟩
   ·exact Bk.cons_ne J
  exact⟨h6,h7,Res.to h5 (S:=[]) (Ch.refl w) (fun b' hF _=>⟨by simp,⟨fun j J=>hF.1.1 j ((W j b').1 J),hF.1.2⟩,hF.2⟩) (fun b' hB _=>⟨by simp,fun j J=>hB j ((W j b').1 J)⟩) (fun i b' _ hB=>⟨by simp,(W i b').2 hB⟩) (by simp)⟩
 exact Qam (h (rep_ok t N)) ps hl b o hA a w hf (by rw[Qs];exact h2)
theorem pkb {X:Act→World→Prop}(k kn:Nat){τ:Type}(f:τ→Value)(vals:List τ)(o:Nat){bt:TypeId}{g:Nat}{cs:List Value}{i:Int}{v:τ}(J:ix vals i=some v)
  (h: ∀a w,Fr a C.n C.ds l→Hp C ((kn,.el (some k) g (o+i.toNat*1) [f v])::H) w→X a w)
  (O:hk H k=some (.blk g bt cs):=by rfl) (W:(cs.drop o).take vals.length=vals.map f:=by rfl) (hn:hk H kn=none:=by kernel_rfl): ∀a w,Fr a C.n C.ds l→Hp C H w→X a w:=fun a w hf hh=>by
 obtain⟨j,rfl,hj⟩:=Qaj J
 have hB:Blk w g bt cs:=hh.hold k _ O
 refine h a w hf (hh.add hn rfl (fun i J r N=>by
   simp only[Res.ref,Qr]at J;subst J;rw[O]at N;injection N with N;subst N;rfl) ⟨fun q u Y=>?_,hB.lt,⟨_,O,by simp[Res.bl]⟩⟩)
 cases q with
 |succ q=>simp at Y
 |zero=>
  simp only[Xd,Qr]at Y
  subst Y
  rw[Addr.add_lit,Yz,hB.cell,Qs,Jk]
  have hlt:=(Qc.1 hj).1
  have h3:((cs.drop o).take vals.length)[j]?=some (f v):=by rw[W,Qt,hj];rfl
  rw[Qq hlt,Wc]at h3
  exact h3
end
end Go.A
end
section
namespace Go.Proofs.YtlbnpmfggfbdoaaGreatDoor
open Go.RowKit
def F.dq (k:Int):Option Bool:=some (bif decide ((0:Int)≤k)then decide (k≤1048576)else false)
theorem o_aw (k:Int)(p:A.h6 k)(r:Bool)(o:F.dq k=some r):
    A.Ct Tryz.prog 132 [A.i k] [] [] (fun v H'=>v=.bool r∧H'=[]):=by
 refine J1 Tryz.func132 rfl Tryz.ntmps132 rfl fun s u=>?_;rw[F.dq]at o;refine Jv 1 ?_;refine J0 1 [] (Vb 2 ?_);refine Jz [] [] [.n,.n,.n,.sy .n,.sy .n,.pk,.n] [(2,.bool (bif decide ((0:Int)≤k)then decide (k≤1048576)else false))] (Jw 1 ?_);obtain rfl:=J7 o;exact Va [] ⟨rfl,rfl⟩
def F.cu:Option Bool:=some false
def F.cv (k:D44):Nat→Int→Option Bool
 |0,_=>none
 |f+1,o=>if o<4 then((A.ix [k.2.2.2.2.1,k.2.2.2.2.2.1,k.2.2.2.2.2.2.1,k.2.2.2.2.2.2.2] o).bind fun p=>((F.dq p).bind fun s=>(if(!s)=true then(some false)else(if(bif decide (k.2.2.2.1≤o)then decide (p≠0)else false)=true then(some false)else(A.gd (Z.R64 (o+1)) ((F.cv k f) (o+1)))))))else(some true)
def F.az (k:D44):Option Bool:=if(bif decide (k.1<0)then true else decide ((4:Int)<k.1))=true then(F.cu)else(if(bif decide (k.2.2.2.1<0)then true else decide ((4:Int)<k.2.2.2.1))=true then(F.cu)else(A.gd (((bif decide (k.2.1<0)then true else decide (k.1<k.2.1))=false→Z.R64 (k.2.1+k.2.2.2.1))) (if(bif bif decide (k.2.1<0)then true else decide (k.1<k.2.1)then true else decide ((4:Int)<k.2.1+k.2.2.2.1))=true then(F.cu)else((F.dq k.2.2.1).bind fun o=>(if(!o)=true then(F.cu)else(if(bif decide (k.2.1=0)then decide (k.2.2.1≠0)else false)=true then(F.cu)else(F.cv k A.FU 0)))))))
theorem o_w (o:D44)(a1:A.h6 o.1)(a2:A.h6 o.2.1)(J:A.h6 o.2.2.1)(a3:A.h6 o.2.2.2.1)(L:A.h6 o.2.2.2.2.1)(N:A.h6 o.2.2.2.2.2.1)(O:A.h6 o.2.2.2.2.2.2.1)(U:A.h6 o.2.2.2.2.2.2.2)(r:Bool)(k:F.az o=some r):
    A.Ct Tryz.prog 91 [(A.raf o)] [] [] (fun v H'=>v=.bool r∧H'=[]):=by
 refine J1 Tryz.func91 rfl Tryz.ntmps91 rfl fun w0 F0=>?_;rw[F.az]at k;refine Jv 1 ?_;refine Vc 0 (cs:=(A.rab o)) fun g1=>?_;refine J0 1 [] (Jw 3 ?_);refine J4 [] [] (fun x y=>x=[]∧y=[]∧F.cu=some r) ?_ ?_
 ·refine Jv 7 ?_;refine Jz [0] [] [.n,.b 0 0,.n,.n,.sy .n,.sy (.b 0 0),.sy .n,.pk,.n] [(5,.bool (bif decide (o.1<0)then true else decide ((4:Int)<o.1)))] (Jw 1 ?_);refine Ud k ?_ ?_<;>intro s k
  ·refine Vy 4 ?_;exact Vi ⟨rfl,rfl,k⟩
  refine Jv 4 ?_;refine Jz [0] [] [.n,.b 0 3,.n,.n,.sy .n,.sy (.b 0 3),.sy .n,.pk,.n] [(14,.bool (bif decide (o.2.2.2.1<0)then true else decide ((4:Int)<o.2.2.2.1)))] (Jw 1 ?_);refine Ud k ?_ ?_<;>intro s k
  ·refine Vy 3 ?_;exact Vi ⟨rfl,rfl,k⟩
  refine Jv 4 ?_;have⟨V,k⟩:=Vq k;refine A.q [0] [] [.n,.b 0 1,.n,.n,.sy .n,.sy (.b 0 1),.sy .n,.sy (.b 0 0),.sy .n,.pk,.n,.sy .n,.sy (.b 0 1),.sy .n,.sy (.b 0 3),.sy .n,.sy .n,.pk,.n] [(bif decide (o.2.1<0)then true else decide (o.1<o.2.1))=false→Z.R64 (o.2.1+o.2.2.2.1)] [(23,.bool (bif bif decide (o.2.1<0)then true else decide (o.1<o.2.1)then true else decide ((4:Int)<o.2.1+o.2.2.2.1)))] V (Jw 1 ?_);refine Ud k ?_ ?_<;>intro s k
  ·refine Vy 2 ?_;exact Vi ⟨rfl,rfl,k⟩
  refine Jv 3 ?_;refine Jz [0] [] [.n,.b 0 2] [(44,A.i o.2.2.1)] ?_;refine Vw 1 [] k (o_aw o.2.2.1 J) .nil ?_;rintro W - k _ _ ⟨rfl,rfl⟩;refine Ve ?_;refine J0 2 [(47,.bool (!W))] ?_;refine Vs (j:=47) rfl k (fun k=>?_) (fun k=>?_)
  ·refine Jz [] [] [.off,.off,.off,.off,.off,.off,.off,.off,.n,.n] [(42,.bool true)] (Jw 1 ?_);refine Uo rfl ?_;refine Vy 1 ?_;exact Vi ⟨rfl,rfl,k⟩
  refine Jz [0] [] [.on .n,.on (.b 0 1),.on .n,.on .n,.sy .n,.sy (.b 0 2),.sy .n,.on .pk,.n,.n] [(42,.bool (bif decide (o.2.1=0)then decide (o.2.2.1≠0)else false))] (Jw 1 ?_);refine Ud k ?_ ?_<;>intro s k
  ·refine Vy 1 ?_;exact Vi ⟨rfl,rfl,k⟩
  refine Jv 6 ?_;refine Jz [0] [] [.n,.b 0 4,.n] [(58,.agg #[A.i o.2.2.2.2.1,A.i o.2.2.2.2.2.1,A.i o.2.2.2.2.2.2.1,A.i o.2.2.2.2.2.2.2]),(59,A.i 0)] (Jw 2 ?_);refine Vo [1,58] [0] (fun f x y=>∃(p:Int),x=[(59,A.i p)]∧y=[]∧A.h6 p∧F.cv o f p=some r) ⟨0,rfl,rfl,J5,k⟩ ?_;rintro z _ _ ⟨p,rfl,rfl,a4,k⟩;rcases z with _|z
  ·exact Vm k
  rw[F.cv]at k;refine Jv 1 ?_;refine J0 1 [(60,.bool (decide (p<4)))] (Jw 2 ?_);refine Vr k ?_ ?_<;>intro s k
  ·refine Jv 5 ?_;refine J0 1 [(61,A.i p)] ?_;have⟨u,B,k⟩:=Vx k;refine A.AL.ixv (fun v:Int=>A.i v) [o.2.2.2.2.1,o.2.2.2.2.2.1,o.2.2.2.2.2.2.1,o.2.2.2.2.2.2.2] B ?_;refine J0 2 [(3,A.i p),(4,A.i u)] (Vb 2 ?_);refine J0 1 [(63,A.i u)] ?_;refine Vw 121 [] k (o_aw u (Uj B (Qb.2 ⟨L,(Qb.2 ⟨N,(Qb.2 ⟨O,(Qb.2 ⟨U,(by simp)⟩)⟩)⟩)⟩))) .nil ?_;rintro Y - k _ _ ⟨rfl,rfl⟩;refine Ve ?_;refine J0 2 [(66,.bool (!Y))] ?_;refine Vs (j:=66) rfl k (fun k=>?_) (fun k=>?_)
   ·refine Jz [] [] [.off,.off,.off,.off,.off,.off,.off,.off,.n] [(75,.bool true)] (Jw 1 ?_);refine Uo rfl ?_;refine Jv 1 ?_;refine J0 1 [(2,.bool false)] (Jw 1 ?_);obtain rfl:=J7 k;exact Va [] ⟨rfl,rfl⟩
   refine Jz [0] [] [.on .n,.on .n,.on (.b 0 3),.on .n,.on .n,.sy .n,.sy .n,.on .pk,.n] [(75,.bool (bif decide (o.2.2.2.1≤p)then decide (u≠0)else false))] (Jw 1 ?_);refine Ud k ?_ ?_<;>intro s k
   ·refine Jv 1 ?_;refine J0 1 [(2,.bool false)] (Jw 1 ?_);obtain rfl:=J7 k;exact Va [] ⟨rfl,rfl⟩
   refine Jv 3 ?_;have⟨E,k⟩:=Vq k;refine Ub 2 [Z.R64 (p+1)] [(59,A.i (p+1))] E (Jy ?_);exact Vi ⟨_,Qh _,⟨(p+1),rfl,rfl,(J2 E),k⟩⟩
  refine Jv 3 ?_;refine J0 1 [(2,.bool true)] (Jw 1 ?_);obtain rfl:=J7 k;exact Va [] ⟨rfl,rfl⟩
 rintro _ _ ⟨rfl,rfl,k⟩;rw[F.cu]at k;refine Jv 2 ?_;refine J0 1 [(2,.bool false)] (Jw 1 ?_);obtain rfl:=J7 k;exact Va [] ⟨rfl,rfl⟩
def F.dc (k:D44):Option Int:=(F.az k).bind fun o=>(if(!o)=true then(some 0)else(A.gd (Z.R64 (k.2.1+k.2.2.2.1)) (some (k.2.1+k.2.2.2.1))))
theorem o_aH (k:D44)(s:A.h6 k.1)(u:A.h6 k.2.1)(x:A.h6 k.2.2.1)(y:A.h6 k.2.2.2.1)(z:A.h6 k.2.2.2.2.1)(B:A.h6 k.2.2.2.2.2.1)(E:A.h6 k.2.2.2.2.2.2.1)(J:A.h6 k.2.2.2.2.2.2.2)(r:Int)(o:F.dc k=some r):
    A.Ct Tryz.prog 106 [(A.raf k)] [] [] (fun v H'=>v=A.i r∧H'=[]∧A.h6 r):=by
 refine J1 Tryz.func106 rfl Tryz.ntmps106 rfl fun N O=>?_;rw[F.dc]at o;refine Jv 1 ?_;refine Vc 0 (cs:=(A.rab k)) fun U=>?_;refine J0 1 [] (Vb 3 ?_);refine Jz [0] [] [.b 0 0] [(3,(A.raf k))] ?_;refine Vw 1 [] o (o_w k s u x y z B E J) .nil ?_;rintro L - o _ _ ⟨rfl,rfl⟩;refine Ve ?_;refine J0 1 [(5,.bool (!L))] (Jw 1 ?_);refine Ud o ?_ ?_<;>intro V o
 ·refine Jv 1 ?_;refine J0 1 [(2,A.i 0)] (Jw 1 ?_);obtain rfl:=J7 o;exact Va [] ⟨rfl,rfl,J5⟩
 refine Jv 3 ?_;have⟨p,o⟩:=Vq o;refine A.q [0] [] [.n,.b 0 1,.n,.b 0 3,.n,.n] [Z.R64 (k.2.1+k.2.2.2.1)] [(2,A.i (k.2.1+k.2.2.2.1))] p (Jw 1 ?_);obtain rfl:=J7 o;exact Va [] ⟨rfl,rfl,(J2 p)⟩
def F.cH (k:D44):Option (D44):=some k
theorem o_ap (k:D44)(s:A.h6 k.1)(u:A.h6 k.2.1)(x:A.h6 k.2.2.1)(y:A.h6 k.2.2.2.1)(z:A.h6 k.2.2.2.2.1)(B:A.h6 k.2.2.2.2.2.1)(E:A.h6 k.2.2.2.2.2.2.1)(J:A.h6 k.2.2.2.2.2.2.2)(r:(D44))(o:F.cH k=some r):
    A.Ct Tryz.prog 169 [(A.raf k)] [] [] (fun v H'=>∃(g0':Nat),v=.func (.func 186) #[] #[.pointer (some ⟨g0',0,none⟩)]∧H'=[(0,.blk g0' 45 (A.rab r))]∧A.h6 r.1∧A.h6 r.2.1∧A.h6 r.2.2.1∧A.h6 r.2.2.2.1∧A.h6 r.2.2.2.2.1∧A.h6 r.2.2.2.2.2.1∧A.h6 r.2.2.2.2.2.2.1∧A.h6 r.2.2.2.2.2.2.2):=by
 refine J1 Tryz.func169 rfl Tryz.ntmps169 rfl fun L N=>?_;rw[F.cH]at o;refine Jv 1 ?_;refine Vc 0 (cs:=(A.rab k)) fun p=>?_;refine J0 1 [] (Vb 2 ?_);refine J0 2 [(2,.func (.func 186) #[] #[.pointer (some ⟨p,0,none⟩)])] (Jw 1 ?_);obtain rfl:=J7 o;exact Va [(0,0)] ⟨p,rfl,rfl,s,u,x,y,z,B,E,J⟩
end Go.Proofs.YtlbnpmfggfbdoaaGreatDoor
end
section
namespace Go.A
open Go.RowKit Go.Z
structure In1 (T t:Ty) where
 get:T.den→List t.den
 set:T.den→List t.den→T.den
 pos:Nat
 hlt:pos<T.size
 hcl: ∀x ys p q,cl T (set x ys) [q]=(cl T x [p]).set pos (.slice q.1 ys.length q.2)
 hgs: ∀x ys,get (set x ys)=ys
 hss: ∀x a b,set (set x a) b=set x b
 hsg: ∀x,set x (get x)=x
 hrep: ∀(w:World) (F:Nat→Prop) x ys p q,T.rep w F (cl T x [p]) x→(Ty.slice t).rep w F [.slice q.1 ys.length q.2] ys→T.rep w F (cl T (set x ys) [q]) (set x ys)
section
variable {T t:Ty}{I:In1 T t}{e ei:TypeId}{A:Option Addr}{c:Nat}{xs:List T.den}{As:Lf}{h:Option Nat}
end
section
variable {C:Cx}{l:List (Nat×Value)}{H:List (Nat×Res)}{X:Act→World→Prop}{T t:Ty}{e ei:TypeId}{A:Option Addr}{c:Nat}{xs:List T.den}{As:Lf}
end
section
variable {r:Option Nat}{P:Program}{ops:Array Oper}{Q:Exit→Act→World→Prop}{rest lst:List Oper}{C:Cx}{l:List (Nat×Value)}{H:List (Nat×Res)}{d:Nat}{T0:TypeId}{pos:String}{af:Array Edge}{T t:Ty}{e ei:TypeId}{A:Option Addr}{c:Nat}{xs ys:List T.den}{As Bs:Lf}
end
section
variable {r:Option Nat}{P:Program}{ops:Array Oper}{Q:Exit→Act→World→Prop}{C:Cx}{l:List (Nat×Value)}{H Hq:List (Nat×Res)}{m f:Nat}{li:List Bool}
end
end Go.A
end
section
namespace Go.Z
open Go.RowKit Go.Lib
section
variable {P:Program}{a:Act}{w:World}{d:Option Tmp}{T:TypeId}{pos:String}{af:Array Edge}{gd:Option (Nat×Bool)}
theorem r_sliceA_h {t e:TypeId}{x J:Operand}{n sz g o v:Nat}{k:IntKind}{p:Int}(N:P.underlying t=some (.array n e))(O: ∀w,(sizeOf e).run P w=.ok sz w)(W:a.eval x=.pointer (some ⟨g,o,none⟩))(Y:a.eval J=.int k p)(hp:p=(v:Int))(h1:v≤n):
  (execOp a.eval ⟨d,.slice t x none (some J) none,T,pos,af,gd⟩).run P w=.ok (.value (.slice (some ⟨g,o,none⟩) v n)) w:=by
 subst hp
 by_cases hc:n=0
 ·obtain rfl:v=0:=by omega
  simp[execOp,Instr.sliceAt,run_underlying N,W,Y,Instr.sureAddr,Instr.sliceBounds,Instr.sliceBound,asIntOf,O,hc,Addr.add]
 ·simp[execOp,Instr.sliceAt,run_underlying N,W,Y,Instr.sureAddr,Instr.sliceBounds,Instr.sliceBound,asIntOf,h1,O,hc,Addr.add]
theorem r_sliceA_0 {t e:TypeId}{x:Operand}{n sz g o:Nat}(J:P.underlying t=some (.array n e))(N: ∀w,(sizeOf e).run P w=.ok sz w)(O:a.eval x=.pointer (some ⟨g,o,none⟩)):
  (execOp a.eval ⟨d,.slice t x none none none,T,pos,af,gd⟩).run P w=.ok (.value (.slice (some ⟨g,o,none⟩) n n)) w:=by
 by_cases W:n=0<;>simp[execOp,Instr.sliceAt,run_underlying J,O,Instr.sureAddr,Instr.sliceBounds,Instr.sliceBound,asIntOf,N,W,Addr.add]
end
theorem run_copyZ {P:Program}(w:World)(dT sT ty elem:TypeId)(d a:Option Addr)(dLen dCap sLen sCap m:Nat)(J:P.underlying dT=some (.slice elem))(N:(P.info? elem).map (·.size)=some m)(O:Nat.min sLen dLen=0):
  (Builtin.copy_ #[dT,sT] ty #[.slice d dLen dCap,.slice a sLen sCap]).run P w=.ok (goInt 0) w:=by
 cases hq:P.info? elem with
 |none=>simp[hq]at N
 |some i=>
  have W: ∀(x:Addr),(loadCells x 0).run P w=.ok #[] w:=fun x=>by simpa using run_loadCells_list (P:=P) w x [] (by simp)
  have Y:min sLen dLen=0:=O
  cases d<;>cases a<;>simp[Builtin.copy_,run_underlying J,Builtin.lenOf,Builtin.firstCells,sizeOf,typeInfo,hq,storeCells,W,Y]
end Go.Z
namespace Go.A
open Go.RowKit Go.Z
theorem hp_ch0 {C:Cx}{H:List (Nat×Res)}{w w':World}(h:Hp C H w)(N:Ch [] w w'):Hp C H w':=
 ⟨⟨N.os.trans h.ch.os,N.tape.trans h.ch.tape,N.output.trans h.ch.output,Wh h.ch.size N.size,fun b J O=>by rw[N.block b (Q4 J h.ch.size) (by simp)];exact h.ch.block b J O⟩,
  fun k r hk=>Res.to (h.hold k r hk) N (fun b J _=>⟨by simp,J⟩) (fun b J _=>⟨by simp,J⟩) (fun i b _ W=>⟨by simp,W⟩) (by simp),
  fun k b J=>⟨(h.bnd k b J).1,Q4 (h.bnd k b J).2 N.size⟩,h.dis,h.ref⟩
section
variable {C:Cx}{H:List (Nat×Res)}{w:World}
theorem hp_vbk (k o:Nat)(js:List Nat){t:Ty}(xs:List t.den){g:Nat}{e:TypeId}{cs:List Value}(hD:Dats H t ((cs.drop o).take (xs.length*t.size)) xs)(N:Hp C H w)(h:hk H k=some (.blk g e cs):=by rfl)(Y:Nat.ble xs.length 100000=true:=by rfl)(O:hng [k] js H=true:=by kernel_rfl):
  Hp C ((k,.sh (.slice t) [.slice (some ⟨g,o,none⟩) xs.length xs.length] xs)::ded js H) w:=by
 have hB:Blk w g e cs:=N.hold k _ h
 obtain⟨h1,h2,h3⟩:=Dats.all N hD
 have Y:=Q0 Y
 refine Hp.dd (N.upd (S:=[]) (Ch.refl w) (by simp) (by simp[Res.bl]) (fun j O=>by cases O) fun F B q1 q2 _ _ _=>?_) O
 refine⟨some ⟨g,o,none⟩,xs.length,_,rfl,Q1 _,by simp only[maxLen];omega,h1,.inr ⟨g,o,rfl,q2 g ⟨_,h,by simp[Res.bl]⟩ (by simp[Res.bl]),fun j u J=>?_⟩,fun i y hi=>Qcr (h3 i y hi) fun b hb W=>q1 b hb W⟩
 rw[hB.cell]
 rw[Xe]at J
 split at J
 ·rw[Wc]at J;exact J
 ·cases J
end
section
variable {r:Option Nat}{P:Program}{ops:Array Oper}{Q:Exit→Act→World→Prop}{rest lst:List Oper}{C:Cx}{l:List (Nat×Value)}{H:List (Nat×Res)}{d:Nat}{T:TypeId}{pos:String}{af:Array Edge}
theorem AL.callF {H1:List (Nat×Res)}(Y: ∀w,Hp C H w→Hp C H1 w){f:FuncId}{c:Operand}{xs:List Operand}{vs vs' first cap:List Value}{ts:Array TypeId}{H0:List (Nat×Res)}{ls:List Nat}{R:Value→List (Nat×Res)→Prop}
  (J: ∀args w,(callFunc f args).run P w=.ok (.enter f args) w) (N:Ct P f vs' H0 [] R) (hs:Sub H1 H0 [] ls)
  (h: ∀v H',R v H'→AL r P ops Q rest C ((d,v)::l) H)
  (hc:ev l c=some (.func (.func f) first.toArray cap.toArray):=by rfl) (hx:evs l xs=some vs:=by rfl) (hv:first++vs++cap=vs':=by rfl) (h1:nod (H0.map (·.1))=true:=by rfl) (hd:Nat.ble (d+1) C.n=true:=by rfl):
  AL r P ops Q (⟨some d,.call {callee:=.value c,args:=xs.toArray,argTypes:=ts},T,pos,af,none⟩::rest) C l H:=fun a w O W=>by
 subst hv
 have h3:ls.all (fun k=> !((([]:List (Nat×Nat)).map (·.2)).any (Nat.beq k)))=true:=Qz.2 fun k _=>rfl
 refine Z.call1 O hd (r_callv J O (first:=first) (cap:=cap) (vs:=vs) (xs:=xs) hc hx) (N w (Fh C H1) (hs.hp (Y w W) h1 rfl h3)) fun e w' ⟨v,H',he,hR,hh'⟩=>⟨v,he,fun a' hf'=>?_⟩
 exact h v H' hR a' w' hf' (hp_ch0 W hh'.ch)
theorem r_ixoA {a:Act}{w:World}{dd:Option Tmp}{gd:Option (Nat×Bool)}{tt e:TypeId}{n sz g:Nat}{x y:Operand}{i:Int}{kd:IntKind}{t:Ty}{xs:List t.den}{v:t.den}(J:ix xs i=some v)(N:n=xs.length)(O:P.underlying tt=some (.array n e))(W: ∀w,(sizeOf e).run P w=.ok sz w)(Y:a.eval x=.pointer (some ⟨g,0,none⟩))(hy:a.eval y=.int kd i)(hs:t.size=sz:=by rfl):
  (execOp a.eval ⟨dd,.indexAddr tt x y,T,pos,af,gd⟩).run P w=.ok (.value (.pointer (some ⟨g,i.toNat*t.size,none⟩))) w:=by
 subst N;subst hs
 have h:=r_indexArr (P:=P) (w:=w) (dd:=dd) (gd:=gd) (T:=T) (pos:=pos) (af:=af) O W Y hy (ix_ok J).1 (ix_ok J).2
 rw[Wf]at h;exact h
theorem AL.ixbE (k kn:Nat){τ:Type}(f:τ→Value)(vals:List τ)(off:Nat){tt e:TypeId}{n b o a0:Nat}{ko:Option Nat}{cs:List Value}{x y:Operand}{i:Int}{kd:IntKind}{v:τ}(N:ix vals i=some v)
  (h:AL r P ops Q rest C ((d,.pointer (some ⟨b,a0+i.toNat*1,none⟩))::l) ((kn,.el ko b (a0+i.toNat*1) [f v])::H))
  (hb:hk H k=some (.el ko b o cs):=by rfl) (ha:a0=o+off:=by rfl) (hx:ev l x=some (.pointer (some ⟨b,a0,none⟩)):=by rfl) (hy:ev l y=some (.int kd i):=by rfl) (ht:P.underlying tt=some (.array n e):=by rfl) (hS:szB P e=some 1:=by kernel_rfl) (hl:vals.length=n:=by rfl) (O:(cs.drop off).take n=vals.map f:=by rfl)
  (hd:Nat.ble (d+1) C.n=true:=by rfl) (hn:hk H kn=none:=by kernel_rfl):AL r P ops Q (⟨some d,.indexAddr tt x y,T,pos,af,none⟩::rest) C l H:=fun a w W Y=>by
 subst hl;subst ha
 have J:=ix_ok N
 obtain⟨j,rfl,hj⟩:=Qaj N
 have h0:Res.holds w (Fh C H) (Bk H) (.el ko b o cs):=Y.hold k _ hb
 obtain⟨h1,h2,h3⟩:=h0
 refine Z.val W hd (r_indexArr ht (Qag hS) (W.eval hx) (W.eval hy) J.1 J.2) fun a' hf'=>h a' w hf' (Y.add hn rfl (fun i N r hr=>(Y.ref k _ i hb N).2 r hr) ⟨fun q u hu=>?_,h2,h3⟩)
 cases q with
 |succ q=>simp at hu
 |zero=>
  simp only[Xd,Qr]at hu
  subst hu
  have hlt:=(Qc.1 hj).1
  have h5:((cs.drop off).take vals.length)[j]?=some (f v):=by rw[O,Qt,hj];rfl
  rw[Qq hlt,Wc]at h5
  have h6:=h1 (off+j) _ h5
  rw[Addr.add_lit]at h6 ⊢
  rw[Yz,Qs,Jk,Y7]
  exact h6
end
section
variable {r:Option Nat}{P:Program}{ops:Array Oper}{Q:Exit→Act→World→Prop}{C:Cx}{l:List (Nat×Value)}{H Hq:List (Nat×Res)}{m f:Nat}{li:List Bool}
end
def cp4 (d s:List Int)(u v v2:Int):Option (Int×Int×Int×Int):=
 if 0≤u∧u≤v∧v≤4∧0≤v2∧v2≤4 then
  match d.take u.toNat++s.take (min (v.toNat-u.toNat) v2.toNat)++d.drop (u.toNat+min (v.toNat-u.toNat) v2.toNat)with
  | [a,b,c,e]=>some (a,b,c,e)
  |_=>none
 else none
theorem cp4_some {d s:List Int}{u v J:Int}{y:Int×Int×Int×Int}(h:cp4 d s u v J=some y):(0≤u∧u≤v∧v≤4∧0≤J∧J≤4)∧d.take u.toNat++s.take (min (v.toNat-u.toNat) J.toNat)++d.drop (u.toNat+min (v.toNat-u.toNat) J.toNat)=[y.1,y.2.1,y.2.2.1,y.2.2.2]:=by
 unfold cp4 at h
 split at h
 ·rename_i N
  refine⟨N,?_⟩
  split at h
  ·rename_i e;rw[e];obtain rfl:=Qp h;rfl
  ·cases h
 ·cases h
theorem cp4_has {d s:List Int}{u v O:Int}{y:Int×Int×Int×Int}(h:cp4 d s u v O=some y){k:IntKind}(N: ∀x∈d,k.has x)(W: ∀x∈s,k.has x):k.has y.1∧k.has y.2.1∧k.has y.2.2.1∧k.has y.2.2.2:=by
 obtain⟨_,e⟩:=cp4_some h
 have key: ∀x∈[y.1,y.2.1,y.2.2.1,y.2.2.2],k.has x:=fun x J=>by
  rw[←e]at J
  rcases Qn.1 J with J|J
  ·rcases Qn.1 J with J|J
   ·exact N x (Yc J)
   ·exact W x (Yc J)
  ·exact N x (List.mem_of_mem_drop J)
 exact⟨key _ (by simp),key _ (by simp),key _ (by simp),key _ (by simp)⟩
theorem cutA4 {g o u:Nat}(h:u<4):Z.cutA (some ⟨g,o,none⟩) 4 u 1=some ⟨g,o+u,none⟩:=by
 unfold Z.cutA;rw[if_neg (by omega),Jk];show some (Addr.add ⟨g,o,none⟩ u)=_;rw[Addr.add_lit]
section
variable {r:Option Nat}{P:Program}{ops:Array Oper}{Q:Exit→Act→World→Prop}{rest lst:List Oper}{C:Cx}{l:List (Nat×Value)}{H:List (Nat×Res)}{d:Nat}{T:TypeId}{pos:String}{af:Array Edge}
theorem AL.cpB (k k2:Nat)(js:List Nat){dT sT e2 bt bt2:TypeId}{x y:Operand}{D:Option Addr}{g o Y o2 n1 c1 n2 c2:Nat}{u v O:Int}{ds ss:List Int}{cs cs2 cs':List Value}{z:Int×Int×Int×Int}(hz:cp4 ds ss u v O=some z)
  (h:AL r P ops Q rest C ((d,.int .i64 ((min (v.toNat-u.toNat) O.toNat:Nat):Int))::l) ((k,.blk g bt cs')::ded js H)) (hs:(P.info? e2).map (·.size)=some 1)
  (hD:u.toNat<4→D=some ⟨g,o+u.toNat,none⟩) (hn1:n1=v.toNat-u.toNat) (hn2:n2=O.toNat)
  (J:hk H k=some (.blk g bt cs):=by rfl) (hk2:hk H k2=some (.blk Y bt2 cs2):=by rfl) (hd1:(cs.drop o).take 4=ds.map (.int .i64):=by rfl) (hd2:(cs2.drop o2).take 4=ss.map (.int .i64):=by rfl) (hl1:ds.length=4:=by rfl) (hl2:ss.length=4:=by rfl)
  (hcs:cs'=cs.take o++[.int .i64 z.1,.int .i64 z.2.1,.int .i64 z.2.2.1,.int .i64 z.2.2.2]++cs.drop (o+4):=by rfl) (hx:ev l x=some (.slice D n1 c1):=by rfl) (hy:ev l y=some (.slice (some ⟨Y,o2,none⟩) n2 c2):=by rfl)
  (ht:P.underlying dT=some (.slice e2):=by rfl) (hj:hng [k] js H=true:=by kernel_rfl) (hd:Nat.ble (d+1) C.n=true:=by rfl):AL r P ops Q (⟨some d,.call {callee:=.builtin .copy,args:=#[x,y],argTypes:=#[dT,sT]},T,pos,af,none⟩::rest) C l H:=fun a w hf hh=>by
 subst hn1;subst hn2
 obtain⟨⟨b1,b2,b3,b4,b5⟩,e⟩:=cp4_some hz
 have W:Blk w g bt cs:=hh.hold k _ J
 have hB2:Blk w Y bt2 cs2:=hh.hold k2 _ hk2
 have hcl:o+4≤cs.length:=by
  have:=congrArg List.length hd1
  rw[Qu,Xn,Qw,hl1]at this;omega
 obtain⟨m,hm⟩: ∃m,m=min (v.toNat-u.toNat) O.toNat:=⟨_,rfl⟩
 have hmin:Nat.min O.toNat (v.toNat-u.toNat)=m:=by rw[hm];exact Nat.min_comm _ _
 rw[←hm]at e h
 have hdrop:cs.drop o=ds.map (.int .i64)++cs.drop (o+4):=by
  rw[←hd1,←X5];exact(Xg 4 _).symm
 have hcs2:cs'=cs.take (o+u.toNat)++(ss.take m).map (.int .i64)++cs.drop (o+u.toNat+m):=by
  have e1:([.int .i64 z.1,.int .i64 z.2.1,.int .i64 z.2.2.1,.int .i64 z.2.2.2]:List Value)=[z.1,z.2.1,z.2.2.1,z.2.2.2].map (.int .i64):=rfl
  rw[hcs,e1,←e,Yg,Yg]
  have hu:u.toNat+m≤4:=by rw[hm];omega
  have e2:cs.take (o+u.toNat)=cs.take o++(ds.take u.toNat).map (.int .i64):=by
   rw[List.take_add,hdrop,X0 (by rw[Qw];omega),List.map_take]
  have e3:cs.drop (o+u.toNat+m)=(ds.drop (u.toNat+m)).map (.int .i64)++cs.drop (o+4):=by
   rw[Y7,←X5,hdrop,List.drop_append_of_le_length (by rw[Qw];omega),List.map_drop]
  rw[e2,e3];simp only[Wd]
 by_cases h0:m=0
 ·have hsame:cs'=cs:=by
   rw[hcs2,h0,List.take_zero,Xt,Wk,Yz];exact Xg _ _
  subst hsame
  have hrun:=Z.run_copyZ (P:=P) w dT sT T e2 D (some ⟨Y,o2,none⟩) (v.toNat-u.toNat) c1 O.toNat c2 _ ht hs (hmin.trans h0)
  rw[h0]at h
  refine Z.valw (w':=w) (v:=goInt 0) hf hd ?_ fun a' hf'=>h a' w hf' (Hp.dd (hh.upd (S:=[]) (Ch.refl w) (by simp) (fun b hb=>.inl ⟨_,J,hb⟩) (fun j hj=>by cases hj) fun F B _ _ _ _ _=>W) hj)
  simp only[execOp,resolve,invoke,builtin,Sem.run_bind,Sem.run_pure,Result.andThen_ok,X9,Q3,Xt,hf.eval hx,hf.eval hy,hrun]
 ·have hu4:u.toNat<4:=by omega
  obtain rfl:=hD hu4
  have hcl2:o2+4≤cs2.length:=by
   have:=congrArg List.length hd2
   rw[Qu,Xn,Qw,hl2]at this;omega
  have N:((ss.take m).map (Value.int .i64)).length=m:=by rw[Qw,Qu,hl2];omega
  have hsrc: ∀(j:Nat) (q:Value),((ss.take m).map (Value.int .i64))[j]?=some q→w.cell? (Addr.add ⟨Y,o2,none⟩ j)=some q:=fun j q hq=>by
   have hjm:=(Qc.1 hq).1
   rw[N]at hjm
   rw[List.map_take,Qq hjm,←hd2,Qq (by omega),Wc]at hq
   rw[Addr.add_lit,hB2.cell];exact hq
  have hrun:=Z.run_copyN (P:=P) w dT sT T e2 g (o+u.toNat) (v.toNat-u.toNat) c1 ⟨Y,o2,none⟩ O.toNat c2 1 cs.toArray bt ((ss.take m).map (Value.int .i64)) ht hs W (by rw[N,hmin,Jk]) hsrc (by rw[N];simp;omega) (fun q hq=>by obtain⟨_,_,rfl⟩:=Qv.1 hq;rfl)
  rw[hmin,N,List.toList_toArray,←hcs2]at hrun
  have hch:Ch [g] w (w.setRow g cs'.toArray):=Ch.setRow w g _
  refine Z.valw (w':=w.setRow g cs'.toArray) (v:=goInt m) hf hd ?_ fun a' hf'=>h a' _ hf' (Hp.dd (hh.upd (S:=[g]) hch (fun b hb=>⟨_,J,by simpa[Res.bl] using hb⟩) (fun b hb=>.inl ⟨_,J,hb⟩) (fun j hj=>by cases hj) fun F B _ _ _ _ _=>W.setRow) hj)
  simp only[execOp,resolve,invoke,builtin,Sem.run_bind,Sem.run_pure,Result.andThen_ok,X9,Q3,Xt,hf.eval hx,hf.eval hy,hrun]
end
end Go.A
end
section
namespace Go.Proofs.YtlbnpmfggfbdoaaGreatDoor
open Go.RowKit
variable(A0_ A1_ A2_ A4_ A5_ A7_ A10_ A12_ A13_:Option Addr)(b0_ g0_ b1_ c1_ c2_ g2_ c3_ b4_ b5_ c5_ b6_ c6_ c8_ g8_ g10_ c11_ c13_ c14_:Nat)
def F.aU (o:Int→Option (List (Int×D209)))(p:D44)(k:Int)(s:Int):Option (List (Int×D209)):=A.cns (k,(decide (k<p.2.1),s)) (A.gd (Z.R64 (k+1)) (o (k+1)))
def F.ah (k:D44):Nat→Int→Option (List (Int×D209))
 |0,_=>none
 |f+1,o=>if o<k.2.1+k.2.2.2.1 then(A.gd (Z.R64 (k.2.1-1)) (if o=k.2.1-1 then(F.aU (F.ah k f) k o k.2.2.1)else(if k.2.1≤o then(A.gd (Z.R64 (o-k.2.1)) ((A.ix [k.2.2.2.2.1,k.2.2.2.2.2.1,k.2.2.2.2.2.2.1,k.2.2.2.2.2.2.2] (o-k.2.1)).bind fun p=>(F.aU (F.ah k f) k o p)))else(F.aU (F.ah k f) k o 0))))else(some [])
def F.a0 (k:D44):Option (List (Int×D209)):=A.gd (Z.R64 (k.2.1+k.2.2.2.1)) (F.ah k A.FU 0)
theorem o_ab(k:D44)(ab:A.h6 k.1)(ac:A.h6 k.2.1)(Y:A.h6 k.2.2.1)(ad:A.h6 k.2.2.2.1)(a1:A.h6 k.2.2.2.2.1)(a2:A.h6 k.2.2.2.2.2.1)(a3:A.h6 k.2.2.2.2.2.2.1)(a4:A.h6 k.2.2.2.2.2.2.2)(xs:List (Int×D209))(o:F.a0 k=some xs):
    A.Sq Tryz.prog 186 [.pointer (some ⟨g0_,0,none⟩)] [(0,.el none g0_ 0 (A.rab k))] (Z.Ty.pair A.ti T209) (fun cs=>[Z.vof false (cs.take 1),Z.vof true (cs.drop 1)]) xs:=by
 refine A.Sq.enter Tryz.func186 rfl Tryz.ntmps186 rfl fun lid w0 J Jx Φ hY hJ0=>?_;obtain⟨rs0,hrs⟩: ∃rs0,rs0=xs:=⟨_,rfl⟩
 have hR0:A.Rem xs 0 rs0:=hrs▸A.Rem.zero xs
 rw[F.a0,←hrs]at o
 clear hrs
 refine Jv 1 ?_;have⟨a5,o⟩:=Vq o;refine A.q [] [0] [.n,.e 0 1,.n,.e 0 3,.n,.n] [Z.R64 (k.2.1+k.2.2.2.1)] [(9,A.i (k.2.1+k.2.2.2.1)),(10,A.i 0)] a5 (Jw 2 ?_);refine A.AX.loopC (A.CY 46 Φ) (0,w0) [0,1,9] [0] [0] (fun f i z B=>∃(p:Int),∃(rs:List (Int×D209)),z=[(10,A.i p)]∧B=[]∧A.h6 p∧J i.1 i.2∧A.Rem xs i.1 rs∧F.ah k f p=some rs) A.FU [(10,A.i 0)] [] ⟨0,_,rfl,rfl,J5,hJ0,hR0,o⟩ ?_;rintro E ⟨L,N⟩ _ _ ⟨p,rs9,rfl,rfl,a6,hJ7,hR8,o⟩;rcases E with _|E
 ·exact Vm o
 rw[F.ah]at o;refine Jv 1 ?_;refine J0 1 [(11,.bool (decide (p<k.2.1+k.2.2.2.1)))] (Jw 2 ?_);refine Vr o ?_ ?_<;>intro O o
 ·refine Jv 5 ?_;refine J0 2 [(3,A.i p)] (Vb 2 ?_);refine Jz [] [0] [.n,.n,.e 0 1,.n,.n] [(17,.agg #[.bool (decide (p<k.2.1)),A.i 0])] ?_;refine J6 5 (cs:=l3f) Tryz.zeroValue210 fun u=>?_;refine Vu 5 [] [.bool (decide (p<k.2.1)),A.i 0] ?_;refine Jw 1 ?_;refine A.AX.joinC (A.CY 46 Φ) [0,1,3,4,9,10] [0] (fun i z B=>∃(s:Int),∃(rs:List (Int×D209)),z=[]∧B=[(5,.blk u 210 [.bool (decide (p<k.2.1)),A.i s])]∧A.h6 s∧J i.1 i.2∧A.Rem xs i.1 rs∧F.aU (F.ah k E) k p s=some rs) ?_ ?_
  ·refine Jv 2 ?_;have⟨a7,o⟩:=Vq o;refine A.q [] [0] [.n,.n,.e 0 1,.n,.n,.n] [Z.R64 (k.2.1-1)] [(18,.bool (decide (p=k.2.1-1)))] a7 (Jw 1 ?_);refine Vr o ?_ ?_<;>intro O o
   ·refine Jv 0 ?_;refine Jz [] [0] [.n,.e 0 2,.n] [(25,A.i k.2.2.1),(26,.pointer (some ⟨u,1,none⟩))] ?_;refine Un 5 [] (new:=[A.i k.2.2.1]) (cs':=[.bool (decide (p<k.2.1)),A.i k.2.2.1]) ?_;refine Ug 1 ?_;exact A.AE.jC (L,N) [5,0] [] [(5,.blk u 210 [.bool (decide (p<k.2.1)),A.i k.2.2.1])] ⟨k.2.2.1,_,rfl,rfl,Y,hJ7,hR8,o⟩
   refine Jv 1 ?_;refine Jz [] [0] [.n,.n,.e 0 1,.n,.n] [(27,.bool (decide (k.2.1≤p)))] (Jw 1 ?_);refine Vr o ?_ ?_<;>intro O o
   ·refine Jv 0 ?_;have⟨a8,o⟩:=Vq o;refine A.q [] [0] [.n,.n,.e 0 1,.n,.n] [Z.R64 (p-k.2.1)] [(35,A.i (p-k.2.1)),(36,.pointer (some ⟨g0_,0+4,none⟩))] a8 ?_;have⟨y,U,o⟩:=Vx o;refine A.AL.ixbE 0 6 (fun v:Int=>A.i v) [k.2.2.2.2.1,k.2.2.2.2.2.1,k.2.2.2.2.2.2.1,k.2.2.2.2.2.2.2] 4 U ?_;refine Jz [] [6] [.e 0 0,.n] [(38,A.i y),(39,.pointer (some ⟨u,1,none⟩))] ?_;refine Un 5 [] (new:=[A.i y]) (cs':=[.bool (decide (p<k.2.1)),A.i y]) ?_;refine Ug 1 ?_;exact A.AE.jC (L,N) [5,0] [] [(5,.blk u 210 [.bool (decide (p<k.2.1)),A.i y])] ⟨y,_,rfl,rfl,(Uj U (Qb.2 ⟨a1,(Qb.2 ⟨a2,(Qb.2 ⟨a3,(Qb.2 ⟨a4,(by simp)⟩)⟩)⟩)⟩)),hJ7,hR8,o⟩
   refine Vy 2 ?_;exact A.AE.jC (L,N) [5,0] [] [(5,.blk u 210 [.bool (decide (p<k.2.1)),A.i 0])] ⟨0,_,rfl,rfl,J5,hJ7,hR8,o⟩
  rintro⟨a9,ae⟩ _ _ ⟨s,rs17,rfl,rfl,aa,hJ15,hR16,o⟩
  rw[F.aU]at o;refine Jv 1 ?_;refine Jz [5] [] [.n,.n,.b 0 0] [(40,.func (.yield lid) #[] #[]),(41,A.i p),(42,.agg #[.bool (decide (p<k.2.1)),A.i s])] ?_;obtain⟨rs18,hqrs18,o⟩:=A.cns_some o;refine A.AL.yield (t:=.pair A.ti T209) (x:=(p,(decide (p<k.2.1),s))) hY hJ15 (hqrs18▸hR16) [A.i p,.bool (decide (p<k.2.1)),A.i s] ⟨⟨rfl,a6⟩,⟨rfl,⟨rfl,aa⟩⟩⟩ (fun V hJ20 hR21=>?_) (fun V hX22=>?_)
  ·refine J0 1 [(44,.bool false)] (Jw 1 ?_);refine Ur rfl ?_;refine Jv 3 ?_;have⟨W,o⟩:=Vq o;refine Ub 2 [Z.R64 (p+1)] [(10,A.i (p+1))] W (Jy ?_);exact A.AE.jC (a9+1,V) [0] [(10,A.i (p+1))] [] ⟨_,Qh _,⟨(p+1),_,rfl,rfl,(J2 W),hJ20,hR21,o⟩⟩
  refine J0 1 [(44,.bool true)] (Jw 1 ?_);refine Uo rfl ?_;exact A.AX.rtX hY hX22
 refine Vy 1 ?_;obtain rfl:=J7 o;exact A.AE.rtY hY hJ7 hR8
def F.dr (p:Option Bool)(k:List D209)(o:(Int×D209))(s:Bool):Option Bool:=if s=true then(A.gd (4=k.length) ((A.ix k o.1).bind fun u=>(if u.2≠1048576 then(some false)else(p))))else(A.gd (4=k.length) ((A.ix k o.1).bind fun x=>(if x.2<o.2.2 then(some false)else(p))))
def F.bK (k:List D209):List (Int×D209)→Option Bool
 | []=>some true
 |o::f=>if o.2.1=true then(A.gd (4=k.length) ((A.ix k o.1).bind fun p=>(F.dr (F.bK k f) k o (!p.1))))else(F.dr (F.bK k f) k o false)
def F.cw (p:D44):List (Int×D209)→(List D209)→Option Bool
 | [],k=>(F.cH p).bind fun s=>((F.a0 s).bind fun u=>F.bK k u)
 |o::f,k=>A.gd (4=k.length) ((A.ix k o.1).bind fun x=>((F.cw p f) (k.set o.1.toNat o.2)))
def F.d4 (k:D44)(o:D44)(p:Bool):Option Bool:=if p=true then(some false)else((F.cH o).bind fun s=>((F.a0 s).bind fun u=>F.cw k u [((false,0):D209),((false,0):D209),((false,0):D209),((false,0):D209)]))
def F.dz (k:D44)(o:D44):Option Bool:=(F.az k).bind fun s=>(if(!s)=true then(F.d4 k o true)else((F.az o).bind fun p=>(A.gd (((bif !p then true else decide (k.1≠o.1))=false→Z.R64 (k.2.1+k.2.2.2.1))∧((bif !p then true else decide (k.1≠o.1))=false→Z.R64 (o.2.1+o.2.2.2.1))) (F.d4 k o (bif bif !p then true else decide (k.1≠o.1)then true else decide (k.2.1+k.2.2.2.1≠o.2.1+o.2.2.2.1))))))
theorem o_aR (s:D44)(u:D44)(a3:A.h6 s.1)(a4:A.h6 s.2.1)(a5:A.h6 s.2.2.1)(a6:A.h6 s.2.2.2.1)(a7:A.h6 s.2.2.2.2.1)(a8:A.h6 s.2.2.2.2.2.1)(a9:A.h6 s.2.2.2.2.2.2.1)(aa:A.h6 s.2.2.2.2.2.2.2)(ab:A.h6 u.1)(ac:A.h6 u.2.1)(ad:A.h6 u.2.2.1)(ae:A.h6 u.2.2.2.1)(ag:A.h6 u.2.2.2.2.1)(ah:A.h6 u.2.2.2.2.2.1)(ai:A.h6 u.2.2.2.2.2.2.1)(aj:A.h6 u.2.2.2.2.2.2.2)(r:Bool)(p:F.dz s u=some r):
    A.Ct Tryz.prog 148 [(A.raf s),(A.raf u)] [] [] (fun v H'=>v=.bool r∧H'=[]):=by
 refine A.Ct.enterM Tryz.func148 rfl Tryz.ntmps148 rfl fun w0 F0=>?_;rw[F.dz]at p;refine Jv 1 ?_;refine Vc 0 (cs:=(A.rab s)) fun g1=>?_;refine Vc 1 (cs:=(A.rab u)) fun g2=>?_;refine J6 2 (cs:=[.bool false]) Tryz.zeroValue4 fun g3=>?_;refine Jw 2 ?_;refine J4 [2,3,4] [0,1,2] (fun N B=>∃(O:Bool),N=[(37,.bool O)]∧B=[]∧F.d4 s u O=some r) ?_ ?_
 ·refine Jv 0 ?_;refine Jz [0] [] [.b 0 0] [(10,(A.raf s))] ?_;refine Vw 3 [] p (o_w s a3 a4 a5 a6 a7 a8 a9 aa) .nil ?_;rintro ar - p _ _ ⟨rfl,rfl⟩;refine Ve ?_;refine J0 2 [(13,.bool (!ar))] ?_;refine Vs (j:=13) rfl p (fun p=>?_) (fun p=>?_)
  ·refine Jz [] [] [.off,.off,.off,.n,.n,.off,.off,.off,.off,.off,.n,.n,.off,.off,.off,.off,.off,.off,.off,.off,.off,.off,.off,.n] [(37,.bool true)] (Jy ?_);exact Vi ⟨true,rfl,rfl,p⟩
  refine Jz [1] [] [.on (.b 0 0)] [(14,(A.raf u))] ?_;refine Vk (dj:=13) rfl rfl ?_;refine Vw 43 [] p (o_w u ab ac ad ae ag ah ai aj) .nil ?_;rintro J - p _ _ ⟨rfl,rfl⟩;refine Ve ?_;have⟨au,p⟩:=Vq p;refine A.q [0,1] [] [.on .n,.n,.n,.sy .n,.sy (.b 0 0),.sy .n,.sy (.b 1 0),.sy .n,.pk,.n,.sy .n,.sy (.b 0 1),.sy .n,.sy (.b 0 3),.sy .n,.sy .n,.sy (.b 1 1),.sy .n,.sy (.b 1 3),.sy .n,.sy .n,.pk] [(bif !J then true else decide (s.1≠u.1))=false→Z.R64 (s.2.1+s.2.2.2.1),(bif !J then true else decide (s.1≠u.1))=false→Z.R64 (u.2.1+u.2.2.2.1)] [(37,.bool (bif bif !J then true else decide (s.1≠u.1)then true else decide (s.2.1+s.2.2.2.1≠u.2.1+u.2.2.2.1)))] au (Jy ?_);exact Vi ⟨(bif bif !J then true else decide (s.1≠u.1)then true else decide (s.2.1+s.2.2.2.1≠u.2.1+u.2.2.2.1)),rfl,rfl,p⟩
 rintro _ _ ⟨O,rfl,rfl,p⟩;rw[F.d4]at p;refine Ud p ?_ ?_<;>intro U p
 ·refine Jv 1 ?_;refine Vu 2 [] [.bool false] ?_;refine Jw 1 ?_;obtain rfl:=J7 p;exact A.AX.rtM (Ds:=[]) [] [] (.bool false) (trivial) (fun a w hf hh=>Uz rfl (Z.rv_1 hf rfl Tryz.isAgg4 (Vt hh 2))) (⟨rfl,rfl⟩)
 refine Jv 3 ?_;refine J6 83 (cs:=l3d) Tryz.zeroValue211 fun E=>?_;refine A.bta 83 [] (t:=T209) (cs:=l3d) [((false,0):D209),((false,0):D209),((false,0):D209),((false,0):D209)] ⟨⟨rfl,⟨rfl,by decide⟩⟩,⟨⟨rfl,⟨rfl,by decide⟩⟩,⟨⟨rfl,⟨rfl,by decide⟩⟩,⟨⟨rfl,⟨rfl,by decide⟩⟩,rfl⟩⟩⟩⟩ ?_;refine Vb 3 ?_;refine Jz [1] [] [.b 0 0] [(38,(A.raf u))] ?_;refine Vw 84 [] p (o_ap u ab ac ad ae ag ah ai aj) .nil ?_;rintro r6 - p _ _ ⟨g8,rfl,rfl,hr9,hr10,hr11,hr12,hr13,hr14,hr15,hr16⟩;refine Ve ?_;refine Jw 2 ?_;have⟨ak,av,p⟩:=Vx p;refine A.AX.rgf 124 125 126 [0,2,84] [83,0,2,84] [125,124,83,0,2,84] (fun k B=>∃(y:List D209),B=[(83,.own T209 211 (some ⟨E,0,none⟩) (([((false,0):D209),((false,0):D209),((false,0):D209),((false,0):D209)]).length) y)]∧([((false,0):D209),((false,0):D209),((false,0):D209),((false,0):D209)]).length=y.length∧F.cw s (List.drop k ak) y=some r) [(83,.own T209 211 (some ⟨E,0,none⟩) (([((false,0):D209),((false,0):D209),((false,0):D209),((false,0):D209)]).length) [((false,0):D209),((false,0):D209),((false,0):D209),((false,0):D209)])] cf186 (o_ab g8 r6 hr9 hr10 hr11 hr12 hr13 hr14 hr15 hr16 ak av) (fun _=>rfl) ⟨[((false,0):D209),((false,0):D209),((false,0):D209),((false,0):D209)],rfl,rfl,p⟩ ?_ ?_ ?_
 ·rintro aw _ D19 L20 ⟨y,rfl,hn32,p⟩;exact⟨⟨_,(.b 84 .nil)⟩,rfl,fun o=>rfl⟩
 ·rintro aw _ z D19 L20 b4 b5 ⟨y,rfl,hn32,p⟩ hx27 hxo28 ax;rw[A.drop_at hx27,F.cw]at p
  refine Jv 1 ?_;refine J0 1 [(6,A.i z.1)] (Vb 1 ?_);refine J6 131 (cs:=l3f) Tryz.zeroValue210 fun b6=>?_;refine Vu 131 [] [.bool z.2.1,A.i z.2.2] ?_;refine Jy ?_;refine A.AE.flip 124 125 fun b7=>?_;refine Jv 1 ?_;refine Jz [131] [] [.n,.b 0 0] [(42,A.i z.1),(43,.agg #[.bool z.2.1,A.i z.2.2])] ?_;have⟨hl36,p⟩:=Vq p;have⟨al,am,p⟩:=Vx p;refine A.AL.ixoA 83 132 am hl36 fun b9=>?_;refine A.AL.setel 83 132 [132] (o:=0) (m:=2) (t:=T209) (new:=[.bool z.2.1,A.i z.2.2]) (es:=[.bool al.1,A.i al.2]) z.2 am rfl ⟨rfl,⟨rfl,hxo28.2.2⟩⟩ ?_;refine Ug 1 ?_;exact A.AE.bn ax [125,124,83,0,2,84] 100000 [(125,100125),(124,100124),(83,100083),(0,100000),(2,100002),(84,100084)] [(83,.own T209 211 (some ⟨E,0,none⟩) (([((false,0):D209),((false,0):D209),((false,0):D209),((false,0):D209)]).length) (y.set z.1.toNat z.2))] ⟨(y.set z.1.toNat z.2),rfl,(by rw[W5];exact hn32),p⟩ rfl rfl
 rintro _ D19 L20 ⟨y,rfl,hn32,p⟩;rw[Jq,F.cw]at p
 refine A.el 4 ?_;refine Jz [0] [] [.b 0 0] [(45,(A.raf s))] ?_;refine Vw 133 [] p (o_ap s a3 a4 a5 a6 a7 a8 a9 aa) .nil ?_;rintro V - p _ _ ⟨W,rfl,rfl,hr41,hr42,hr43,hr44,hr45,hr46,hr47,hr48⟩;refine Ve ?_;refine Jw 2 ?_;have⟨Y,ay,p⟩:=Vx p;refine A.AX.rgf 173 174 175 [2,83,124,133] [2,83,124,133] [174,173,2,83,124,133] (fun k B=>B=[]∧F.bK y (List.drop k Y)=some r) [] cf186 (o_ab W V hr41 hr42 hr43 hr44 hr45 hr46 hr47 hr48 Y ay) (fun _=>rfl) ⟨rfl,p⟩ ?_ ?_ ?_
 ·rintro an _ D51 L52 ⟨rfl,p⟩;exact⟨⟨_,(.b 133 .nil)⟩,rfl,fun o=>rfl⟩
 ·rintro an _ x D51 L52 bb bc ⟨rfl,p⟩ hx59 hxo60 L;rw[A.drop_at hx59,F.bK]at p
  refine Jv 1 ?_;refine J0 1 [(8,A.i x.1)] (Vb 1 ?_);refine J6 180 (cs:=l3f) Tryz.zeroValue210 fun ao=>?_;refine Vu 180 [] [.bool x.2.1,A.i x.2.2] ?_;refine Jy ?_;refine A.AE.flip 173 174 fun bd=>?_;refine V3 2 ?_;refine J4 [4,5,8,9] [2,83,124,133,173,174,180] (fun N B=>∃(a2:Bool),N=[(57,.bool a2)]∧B=[]∧F.dr (F.bK y (List.drop (an+1) Y)) y x a2=some r) ?_ ?_
  ·refine Jv 0 ?_;refine Jz [180] [] [.n,.b 0 0,.n] [(51,.bool x.2.1)] ?_;refine Vs (j:=51) rfl p (fun p=>?_) (fun p=>?_)
   ·refine Jz [] [] [.on .n] [(52,A.i x.1)] ?_;refine Vk (dj:=51) rfl rfl ?_;have⟨hl75,p⟩:=Vq p;have⟨ap,az,p⟩:=Vx p;refine A.AL.ixoA 83 181 az hl75 fun be=>?_;refine Jz [] [181] [.on .n,.on (.e 0 0),.on .n,.n] [(57,.bool (!ap.1))] (Jy ?_);exact Vi ⟨(!ap.1),rfl,rfl,p⟩
   refine Jz [] [] [.off,.off,.off,.off,.off,.n] [(57,.bool false)] (Jy ?_);exact Vi ⟨false,rfl,rfl,p⟩
  rintro _ _ ⟨a2,rfl,rfl,p⟩;rw[F.dr]at p;refine Ud p ?_ ?_<;>intro U p
  ·refine Jv 2 ?_;refine J0 1 [(58,A.i x.1)] ?_;have⟨hl65,p⟩:=Vq p;have⟨b0,b1,p⟩:=Vx p;refine A.AL.ixoA 83 182 b1 hl65 fun bg=>?_;refine Jz [] [182] [.n,.e 0 1,.n] [(62,.bool (decide (b0.2≠1048576)))] (Jw 1 ?_);refine Vr p ?_ ?_<;>intro U p
   ·refine Jv 1 ?_;refine Vu 2 [] [.bool false] ?_;refine Jw 1 ?_;refine A.AX.bret L [174,2,83,124,133,173,180] 100000 [(174,100174),(2,100002),(83,100083),(124,100124),(133,100133),(173,100173),(180,100180)] [(2,.blk g3 4 [.bool false]),(83,.own T209 211 (some ⟨E,0,none⟩) (([((false,0):D209),((false,0):D209),((false,0):D209),((false,0):D209)]).length) y),(124,.ob D19 A.dfT),(133,.blk W 45 (A.rab V)),(173,.ob D51 A.dfT),(180,.blk ao 210 [.bool x.2.1,A.i x.2.2])] ?_ rfl rfl
    obtain rfl:=J7 p;exact A.AE.rtM (Ds:=[D51,D19]) [173,124] [] (.bool false) (⟨rfl,⟨rfl,trivial⟩⟩) (fun a w hf hh=>Uz rfl (Z.rv_1 hf rfl Tryz.isAgg4 (Vt hh 2))) (⟨rfl,rfl⟩)
   refine Vy 3 ?_;exact A.AE.bn L [174,173,2,83,124,133] 100000 [(174,100174),(173,100173),(2,100002),(83,100083),(124,100124),(133,100133)] [] ⟨rfl,p⟩ rfl rfl
  refine V3 3 ?_;refine Vl mixed 7 7 (A.mb 7 0) ?_;refine Vh (A.pk_kont A.RQ.pq) [] [2,83,124,133,173,174,180] [180] [] (A.mb 7 7) 4 [(0,.n),(2,.n),(1,.b 0 1)] [(65,A.i x.1),(64,A.i x.2.2)] ?_;have⟨hl69,p⟩:=Vq p;have⟨b2,aq,p⟩:=Vx p;refine Up 83 183 aq fun bh=>?_;intro bi b3;cases b3
  refine Vf (A.pk_kont A.RQ.pq) [2,83,124,133,173,174,180] [2,83,124,133,173,174,180,183] 3 (A.mb 7 15) rfl (fun a w hf hh=>A.r_ixoA (t:=T209) aq hl69 Tryz.underlying211 Tryz.sizeOf210 (hf.eval rfl) (hf.eval rfl)) ?_;refine Vh (A.pk_kont A.RQ.pq) [2,83,124,133,173,174,180,183] [2,83,124,133,173,174,180,183] [] [183] (A.mb 7 127) 0 [(4,.n),(5,.e 0 1),(6,.n)] [(69,.bool (decide (b2.2<x.2.2)))] (J9 ?_);refine Uy 1 ?_;refine Vr p ?_ ?_<;>intro U p
  ·refine Jv 1 ?_;refine Vu 2 [] [.bool false] ?_;refine Jw 1 ?_;refine A.AX.bret L [174,2,83,124,133,173,180] 100000 [(174,100174),(2,100002),(83,100083),(124,100124),(133,100133),(173,100173),(180,100180)] [(2,.blk g3 4 [.bool false]),(83,.own T209 211 (some ⟨E,0,none⟩) (([((false,0):D209),((false,0):D209),((false,0):D209),((false,0):D209)]).length) y),(124,.ob D19 A.dfT),(133,.blk W 45 (A.rab V)),(173,.ob D51 A.dfT),(180,.blk ao 210 [.bool x.2.1,A.i x.2.2])] ?_ rfl rfl
   obtain rfl:=J7 p;exact A.AE.rtM (Ds:=[D51,D19]) [173,124] [] (.bool false) (⟨rfl,⟨rfl,trivial⟩⟩) (fun a w hf hh=>Uz rfl (Z.rv_1 hf rfl Tryz.isAgg4 (Vt hh 2))) (⟨rfl,rfl⟩)
  refine Vy 2 ?_;exact A.AE.bn L [174,173,2,83,124,133] 100000 [(174,100174),(173,100173),(2,100002),(83,100083),(124,100124),(133,100133)] [] ⟨rfl,p⟩ rfl rfl
 rintro _ D51 L52 ⟨rfl,p⟩;rw[Jq,F.bK]at p
 refine A.el 3 ?_;refine Vu 2 [] [.bool true] ?_;refine Jw 1 ?_;obtain rfl:=J7 p;exact A.AX.rtM (Ds:=[D51,D19]) [173,124] [] (.bool true) (⟨rfl,⟨rfl,trivial⟩⟩) (fun a w hf hh=>Uz rfl (Z.rv_1 hf rfl Tryz.isAgg4 (Vt hh 2))) (⟨rfl,rfl⟩)
def F.cN (k:Int):Option Bool:=some (decide (k≠k))
theorem o_ak (k:Int)(p:A.h6 k)(r:Bool)(o:F.cN k=some r):
    A.Ct Tryz.prog 178 [A.i k] [] [] (fun v H'=>v=.bool r∧H'=[]):=by
 refine J1 Tryz.func178 rfl Tryz.ntmps178 rfl fun s u=>?_;rw[F.cN]at o;refine Jv 1 ?_;refine J0 1 [] (Vb 2 ?_);refine J0 4 [(2,.bool (decide (k≠k)))] (Jw 1 ?_);obtain rfl:=J7 o;exact Va [] ⟨rfl,rfl⟩
def F.bZ (k:Int)(o:Int):Option Int:=(F.cN k).bind fun s=>((F.cN o).bind fun p=>(if s=true then(if p=true then(some 0)else(some (-1)))else(if p=true then(some 1)else(if k<o then(some (-1))else(if o<k then(some 1)else(some 0))))))
theorem o_ae (o:Int)(p:Int)(y:A.h6 o)(z:A.h6 p)(r:Int)(k:F.bZ o p=some r):
    A.Ct Tryz.prog 150 [A.i o,A.i p] [] [] (fun v H'=>v=A.i r∧H'=[]∧A.h6 r):=by
 refine J1 Tryz.func150 rfl Tryz.ntmps150 rfl fun B E=>?_;rw[F.bZ]at k;refine Jv 1 ?_;refine J0 1 [] (Vb 2 ?_);refine J0 1 [(7,A.i o)] ?_;refine Vw 0 [] k (o_ak o y) .nil ?_;rintro x - k _ _ ⟨rfl,rfl⟩;refine Ve ?_;refine J0 1 [(5,.bool x)] (Vb 2 ?_);refine J0 1 [(9,A.i p)] ?_;refine Vw 40 [] k (o_ak p z) .nil ?_;rintro u - k _ _ ⟨rfl,rfl⟩;refine Ve ?_;refine J0 1 [(6,.bool u)] (Vb 3 ?_);refine J0 1 [(11,.bool x)] (Jw 1 ?_);refine Ud k ?_ ?_<;>intro s k
 ·refine Jv 2 ?_;refine J0 1 [(12,.bool u)] (Jw 1 ?_);refine Ud k ?_ ?_<;>intro s k
  ·refine Jv 1 ?_;refine J0 1 [(4,A.i 0)] (Jw 1 ?_);obtain rfl:=J7 k;exact Va [] ⟨rfl,rfl,J5⟩
  refine Jv 3 ?_;refine J0 1 [(4,A.i (-1))] (Jw 1 ?_);obtain rfl:=J7 k;exact Va [] ⟨rfl,rfl,(Vd .i64 (-1) rfl)⟩
 refine Jv 4 ?_;refine J0 1 [(13,.bool u)] (Jw 1 ?_);refine Ud k ?_ ?_<;>intro s k
 ·refine Jv 1 ?_;refine J0 1 [(4,A.i 1)] (Jw 1 ?_);obtain rfl:=J7 k;exact Va [] ⟨rfl,rfl,(Vd .i64 (1) rfl)⟩
 refine Jv 4 ?_;refine J0 3 [(16,.bool (decide (o<p)))] (Jw 1 ?_);refine Vr k ?_ ?_<;>intro s k
 ·refine Jv 1 ?_;refine J0 1 [(4,A.i (-1))] (Jw 1 ?_);obtain rfl:=J7 k;exact Va [] ⟨rfl,rfl,(Vd .i64 (-1) rfl)⟩
 refine Jv 4 ?_;refine J0 3 [(19,.bool (decide (p<o)))] (Jw 1 ?_);refine Vr k ?_ ?_<;>intro s k
 ·refine Jv 1 ?_;refine J0 1 [(4,A.i 1)] (Jw 1 ?_);obtain rfl:=J7 k;exact Va [] ⟨rfl,rfl,(Vd .i64 (1) rfl)⟩
 refine Jv 3 ?_;refine J0 1 [(4,A.i 0)] (Jw 1 ?_);obtain rfl:=J7 k;exact Va [] ⟨rfl,rfl,J5⟩
def F.av (o:(List Int))(p:(List Int)):Nat→Int→Option Int
 |0,_=>none
 |f+1,k=>if k<(o.length:Int)then((A.ix o k).bind fun u=>(if(p.length:Int)≤k then(some 1)else((A.ix p k).bind fun x=>((F.bZ u x).bind fun s=>(if s≠0 then(some s)else(A.gd (Z.R64 (k+1)) ((F.av o p f) (k+1))))))))else(if(o.length:Int)<(p.length:Int)then(some (-1))else(some 0))
def F.bx (k:(List Int))(o:(List Int)):Option Int:=F.av k o A.FU 0
theorem o_af(p:(List Int))(s:(List Int))(r:Int)(k:F.bx p s=some r):
    A.Ct Tryz.prog 151 [.slice A0_ p.length c1_,.slice A2_ s.length c3_] [(0,.ln A.ti A0_ c1_ p),(1,.ln A.ti A2_ c3_ s)] [] (fun v H'=>v=A.i r∧H'=[]∧A.h6 r):=by
 refine J1 Tryz.func151 rfl Tryz.ntmps151 rfl fun W Y=>?_;rw[F.bx]at k;refine Jv 1 ?_;refine J0 1 [] (Vb 3 ?_);refine J0 3 [(9,.slice A0_ p.length c1_),(10,A.i (p.length:Int)),(11,A.i 0)] (Jw 2 ?_);refine Vo [0,1,9,10] l3m (fun f J L=>∃(o:Int),J=[(11,A.i o)]∧L=[]∧A.h6 o∧F.av p s f o=some r) ⟨0,rfl,rfl,J5,k⟩ ?_;rintro B _ _ ⟨o,rfl,rfl,a2,k⟩;rcases B with _|B
 ·exact Vm k
 rw[F.av]at k;refine Jv 1 ?_;refine J0 1 [(12,.bool (decide (o<(p.length:Int))))] (Jw 2 ?_);refine Vr k ?_ ?_<;>intro u k
 ·refine Jv 5 ?_;refine J0 1 [(13,A.i o)] ?_;have⟨x,N,k⟩:=Vx k;refine Ua 0 86 N fun O=>?_;intro b7 o8;refine Jz [] [86] [.e 0 0,.n,.n] [(5,A.i o),(6,A.i x)] (Vb 3 ?_);refine J0 4 [(19,.bool (decide ((s.length:Int)≤o)))] (Jw 1 ?_);refine Vr k ?_ ?_<;>intro u k
  ·refine Jv 1 ?_;refine J0 1 [(4,A.i 1)] (Jw 1 ?_);obtain rfl:=J7 k;exact Va [] ⟨rfl,rfl,(Vd .i64 (1) rfl)⟩
  refine Jv 3 ?_;refine J0 2 [(20,.slice A2_ s.length c3_),(21,A.i o)] ?_;have⟨y,U,k⟩:=Vx k;refine Ua 1 87 U fun V=>?_;intro a3 a4;refine Jz [] [87] [.e 0 0,.n] [(7,A.i y)] (Vb 2 ?_);refine J0 2 [(24,A.i x),(25,A.i y)] ?_;refine Vw 88 [] k (o_ae x y O V) .nil ?_;rintro z - k _ _ ⟨rfl,rfl,hr16⟩;refine Ve ?_;refine J0 1 [(8,A.i z)] (Vb 2 ?_);refine J0 2 [(28,.bool (decide (z≠0)))] (Jw 1 ?_);refine Vr k ?_ ?_<;>intro u k
  ·refine Jv 1 ?_;refine J0 2 [(4,A.i z)] (Jw 1 ?_);obtain rfl:=J7 k;exact Va [] ⟨rfl,rfl,hr16⟩
  refine Jv 3 ?_;have⟨E,k⟩:=Vq k;refine Ub 2 [Z.R64 (o+1)] [(11,A.i (o+1))] E (Jy ?_);exact Vi ⟨_,Qh _,⟨(o+1),rfl,rfl,(J2 E),k⟩⟩
 refine Jv 4 ?_;refine J0 5 [(35,.bool (decide ((p.length:Int)<(s.length:Int))))] (Jw 1 ?_);refine Vr k ?_ ?_<;>intro u k
 ·refine Jv 1 ?_;refine J0 1 [(4,A.i (-1))] (Jw 1 ?_);obtain rfl:=J7 k;exact Va [] ⟨rfl,rfl,(Vd .i64 (-1) rfl)⟩
 refine Jv 3 ?_;refine J0 1 [(4,A.i 0)] (Jw 1 ?_);obtain rfl:=J7 k;exact Va [] ⟨rfl,rfl,J5⟩
def F.aV (k:D44)(o:D44):Option Int:=(F.aM k.1 o.1).bind fun s=>((F.aM k.2.1 o.2.1).bind fun u=>((F.bZ k.2.2.1 o.2.2.1).bind fun x=>((F.aM k.2.2.2.1 o.2.2.2.1).bind fun y=>((F.cM [s,u,x,y]).bind fun p=>(if p≠0 then(some p)else((F.bx [k.2.2.2.2.1,k.2.2.2.2.2.1,k.2.2.2.2.2.2.1,k.2.2.2.2.2.2.2] [o.2.2.2.2.1,o.2.2.2.2.2.1,o.2.2.2.2.2.2.1,o.2.2.2.2.2.2.2]).bind fun z=>(some z)))))))
theorem o_aq (k:D44)(p:D44)(N:A.h6 k.1)(O:A.h6 k.2.1)(U:A.h6 k.2.2.1)(V:A.h6 k.2.2.2.1)(W:A.h6 k.2.2.2.2.1)(Y:A.h6 k.2.2.2.2.2.1)(a2:A.h6 k.2.2.2.2.2.2.1)(a3:A.h6 k.2.2.2.2.2.2.2)(a4:A.h6 p.1)(a5:A.h6 p.2.1)(a6:A.h6 p.2.2.1)(a7:A.h6 p.2.2.2.1)(a8:A.h6 p.2.2.2.2.1)(a9:A.h6 p.2.2.2.2.2.1)(aa:A.h6 p.2.2.2.2.2.2.1)(ab:A.h6 p.2.2.2.2.2.2.2)(r:Int)(s:F.aV k p=some r):
    A.Ct Tryz.prog 110 [(A.raf k),(A.raf p)] [] [] (fun v H'=>v=A.i r∧H'=[]∧A.h6 r):=by
 refine J1 Tryz.func110 rfl Tryz.ntmps110 rfl fun w0 F0=>?_;rw[F.aV]at s;refine Jv 1 ?_;refine Vc 0 (cs:=(A.rab k)) fun E=>?_;refine Vc 1 (cs:=(A.rab p)) fun J=>?_;refine J0 1 [] (Jw 3 ?_);refine Vl mixed 23 23 (A.mb 23 0) ?_;refine Vh J3 [] l3m [0,1] [] (A.mb 23 507375) 7 [(0,.n),(2,.n),(5,.n),(7,.n),(10,.n),(12,.n),(15,.n),(17,.n),(1,.b 0 0),(3,.b 1 0),(6,.b 0 1),(8,.b 1 1),(11,.b 0 2),(13,.b 1 2),(16,.b 0 3),(18,.b 1 3)] [(7,A.i k.1),(9,A.i p.1),(12,A.i k.2.1),(14,A.i p.2.1),(17,A.i k.2.2.1),(19,A.i p.2.2.1),(22,A.i k.2.2.2.1),(24,A.i p.2.2.2.1)] ?_;refine J8 4 ?_;refine Vw 2 [] s (o_d k.1 p.1 N a4) .nil ?_;rintro u - s _ _ ⟨rfl,rfl,hr5⟩;refine Ve ?_;refine Vg (A.mb 23 507391) l3m ?_;refine J8 9 ?_;refine Vw 42 [] s (o_d k.2.1 p.2.1 O a5) .nil ?_;rintro x - s _ _ ⟨rfl,rfl,hr8⟩;refine Ve ?_;refine Vg (A.mb 23 507903) l3m ?_;refine J8 14 ?_;refine Vw 82 [] s (o_ae k.2.2.1 p.2.2.1 U a6) .nil ?_;rintro y - s _ _ ⟨rfl,rfl,hr11⟩;refine Ve ?_;refine Vg (A.mb 23 524287) l3m ?_;refine J8 19 ?_;refine Vw 122 [] s (o_d k.2.2.2.1 p.2.2.2.1 V a7) .nil ?_;rintro z - s _ _ ⟨rfl,rfl,hr14⟩;refine Ve ?_;refine Vg (A.mb 23 1048575) l3m ?_;refine J8 20 ?_;refine Vp 162 (ty:=A.ti) (cs:=[A.i u,A.i x,A.i y,A.i z]) [u,x,y,z] ⟨⟨rfl,hr5⟩,⟨⟨rfl,hr8⟩,⟨⟨rfl,hr11⟩,⟨⟨rfl,hr14⟩,rfl⟩⟩⟩⟩ (fun ac=>?_) Tryz.zeroValue3 Tryz.sizeOf3
 refine Vg (A.mb 23 2097151) l3m ?_;refine J8 21 ?_;refine Vw 163 [] s (o_v (some ⟨ac,0,none⟩) 4 [u,x,y,z]) (.o 162 .nil) ?_;rintro B - s _ _ ⟨rfl,rfl,hr18⟩;refine Ve ?_;refine Vg (A.mb 23 4194303) l3m ?_;refine Vh J3 l3m l3g [] [] (A.mb 23 8388607) 0 [(22,.n)] [(5,A.i B)] (J9 ?_);refine A.el 2 ?_;refine J0 2 [(29,.bool (decide (B≠0)))] (Jw 1 ?_);refine Vr s ?_ ?_<;>intro hb s
 ·refine Jv 1 ?_;refine J0 2 [(4,A.i B)] (Jw 1 ?_);obtain rfl:=J7 s;exact Va [] ⟨rfl,rfl,hr18⟩
 refine V3 3 ?_;refine Vl mixed 6 6 (A.mb 6 0) ?_;refine Vh J3 [] l3g [] [] (A.mb 6 5) 4 [(0,.n),(2,.n)] [(31,.pointer (some ⟨E,4,none⟩)),(33,.pointer (some ⟨J,4,none⟩))] ?_;refine Vf J3 l3g l3g 1 (A.mb 6 7) rfl (fun a w hf hh=>Z.r_sliceA_0 Tryz.underlying43 Tryz.sizeOf2 (hf.eval rfl)) ?_;refine Vf J3 l3g l3g 3 (A.mb 6 15) rfl (fun a w hf hh=>Z.r_sliceA_0 Tryz.underlying43 Tryz.sizeOf2 (hf.eval rfl)) ?_;refine J8 4 ?_;have⟨L,ad,s⟩:=Vx s;refine A.AL.callF (fun w hh=>(A.hp_vbk 1 4 [] (t:=A.ti) (cs:=(A.rab p)) [p.2.2.2.2.1,p.2.2.2.2.2.1,p.2.2.2.2.2.2.1,p.2.2.2.2.2.2.2] ⟨⟨rfl,a8⟩,⟨⟨rfl,a9⟩,⟨⟨rfl,aa⟩,⟨⟨rfl,ab⟩,rfl⟩⟩⟩⟩ (A.hp_vbk 0 4 [] (t:=A.ti) (cs:=(A.rab k)) [k.2.2.2.2.1,k.2.2.2.2.2.1,k.2.2.2.2.2.2.1,k.2.2.2.2.2.2.2] ⟨⟨rfl,W⟩,⟨⟨rfl,Y⟩,⟨⟨rfl,a2⟩,⟨⟨rfl,a3⟩,rfl⟩⟩⟩⟩ hh))) (first:=[]) (cap:=[]) cf151 (o_af (some ⟨E,4,none⟩) (some ⟨J,4,none⟩) 4 4 [k.2.2.2.2.1,k.2.2.2.2.2.1,k.2.2.2.2.2.2.1,k.2.2.2.2.2.2.2] [p.2.2.2.2.1,p.2.2.2.2.2.1,p.2.2.2.2.2.2.1,p.2.2.2.2.2.2.2] L ad) (.l 0 (.l 1 .nil)) ?_;rintro _ _ ⟨rfl,rfl,hr21⟩;refine Vg (A.mb 6 31) l3g ?_;refine Vh J3 l3g l3g [] [] (A.mb 6 63) 0 [(5,.n)] [(4,A.i L)] (J9 ?_);refine Uy 1 ?_;obtain rfl:=J7 s;exact Va [] ⟨rfl,rfl,hr21⟩
def F.cA (k:Bool):Option Bool:=some k
def F.ec (k:D44)(o:D44):Option Bool:=if k≠o then((F.dz k o).bind fun p=>(if p=true then((F.dz o k).bind fun s=>(if(!s)=true then(F.cA true)else((F.aV k o).bind fun u=>(F.cA (decide (u<0))))))else(F.cA false)))else(F.cA false)
theorem o_bl (o:D44)(p:D44)(s:A.h6 o.1)(u:A.h6 o.2.1)(z:A.h6 o.2.2.1)(B:A.h6 o.2.2.2.1)(E:A.h6 o.2.2.2.2.1)(J:A.h6 o.2.2.2.2.2.1)(L:A.h6 o.2.2.2.2.2.2.1)(N:A.h6 o.2.2.2.2.2.2.2)(O:A.h6 p.1)(U:A.h6 p.2.1)(V:A.h6 p.2.2.1)(W:A.h6 p.2.2.2.1)(Y:A.h6 p.2.2.2.2.1)(a2:A.h6 p.2.2.2.2.2.1)(a3:A.h6 p.2.2.2.2.2.2.1)(a4:A.h6 p.2.2.2.2.2.2.2)(r:Bool)(k:F.ec o p=some r):
    A.Ct Tryz.prog 108 [(A.raf o),(A.raf p)] [] [] (fun v H'=>v=.bool r∧H'=[]):=by
 refine J1 Tryz.func108 rfl Tryz.ntmps108 rfl fun w0 F0=>?_;rw[F.ec]at k;refine Jv 1 ?_;refine Vc 0 (cs:=(A.rab o)) fun g1=>?_;refine Vc 1 (cs:=(A.rab p)) fun g2=>?_;refine J0 1 [] (Jw 1 ?_);refine J4 [] [] (fun nl nh=>∃(y3:Bool),nl=[(4,.bool y3)]∧nh=[]∧F.cA y3=some r) ?_ ?_
 ·refine Jv 0 ?_;refine Jz [0,1] [] [.b 0 0,.b 1 0] [(5,(A.raf o)),(6,(A.raf p))] ?_;refine Uc rfl (fun a w hf hh=>eqagg_neq45 (x:=o) (y:=p) (hf.eval rfl) (hf.eval rfl)) ?_;refine J0 1 [(8,.bool (decide (o≠p)))] ?_;refine V6 (j:=8) rfl k ?_ ?_<;>intro hb k
  ·refine Jz [0,1] [] [.on (.b 0 0),.on (.b 1 0)] [(9,(A.raf o)),(10,(A.raf p))] ?_;refine Vk (dj:=8) rfl rfl ?_;refine Vw 2 [] k (o_aR o p s u z B E J L N O U V W Y a2 a3 a4) .nil ?_;rintro r4 - k _ _ ⟨rfl,rfl⟩;refine Ve ?_;refine J0 2 [(13,.bool r4)] ?_;refine Vs (j:=13) rfl k (fun k=>?_) (fun k=>?_)
   ·refine Jz [1,0] [] [.on (.b 0 0),.on (.b 1 0)] [(14,(A.raf p)),(15,(A.raf o))] ?_;refine Vk (dj:=13) rfl rfl ?_;refine Vw 42 [] k (o_aR p o O U V W Y a2 a3 a4 s u z B E J L N) .nil ?_;rintro r6 - k _ _ ⟨rfl,rfl⟩;refine Ve ?_;refine Jz [] [] [.on .n,.on .n] [(18,.bool (!r6))] ?_;refine Vs (j:=18) rfl k (fun k=>?_) (fun k=>?_)
    ·refine Jz [] [] [.off,.off,.off,.off,.on .n,.n,.n] [(4,.bool true)] (Jy ?_);exact Vi ⟨true,rfl,rfl,k⟩
    refine Jz [0,1] [] [.on (.b 0 0),.on (.b 1 0)] [(19,(A.raf o)),(20,(A.raf p))] ?_;refine Vk (dj:=18) rfl rfl ?_;refine Vw 82 [] k (o_aq o p s u z B E J L N O U V W Y a2 a3 a4) .nil ?_;rintro r8 - k _ _ ⟨rfl,rfl,hr10⟩;refine Ve ?_;refine Jz [] [] [.on .n,.on .n,.n,.n] [(4,.bool (decide (r8<0)))] (Jy ?_);exact Vi ⟨(decide (r8<0)),rfl,rfl,k⟩
   refine Jz [] [] [.off,.off,.off,.off,.off,.off,.off,.off,.off,.off,.n,.n] [(4,.bool false)] (Jy ?_);exact Vi ⟨false,rfl,rfl,k⟩
  refine Jz [] [] [.off,.off,.off,.n,.n,.off,.off,.off,.off,.off,.off,.off,.off,.off,.off,.n,.n] [(4,.bool false)] (Jy ?_);exact Vi ⟨false,rfl,rfl,k⟩
 rintro _ _ ⟨y3,rfl,rfl,k⟩;rw[F.cA]at k;obtain rfl:=J7 k;exact Va [] ⟨rfl,rfl⟩
def F.aw (o:(List D44)→Int→Int→Option (List D44))(k:Int)(p:List D44)(s:Int):Option (List D44):=A.gd (Z.R64 (k+1)) (o p s (k+1))
def F.p (x:(List D44))(s:Int):Nat→(List D44)→Int→Int→Option (List D44)
 |0,_,_,_=>none
 |f+1,k,o,u=>if u<((x.length -s.toNat:Nat):Int)then(A.gd (Z.R64 (u-1)) (A.gd (s.toNat≤k.length) ((A.ix (List.drop s.toNat k) u).bind fun y=>(A.gd (s.toNat≤k.length) ((A.ix (List.drop s.toNat k) (u-1)).bind fun z=>(if y≠z then(A.gd (s.toNat≤k.length) ((A.ix (List.drop s.toNat k) u).bind fun B=>((A.ix k o).bind fun E=>(A.gd (Z.R64 (o+1)) (F.aw (F.p x s f) u (k.set o.toNat B) (o+1))))))else(F.aw (F.p x s f) u k o)))))))else(A.gd (0≤o∧o.toNat≤k.length) (A.gd (0≤o∧o.toNat≤(List.take o.toNat k++List.replicate (k.length -o.toNat) ((0,0,0,0,0,0,0,0):D44)).length) (some (List.take o.toNat (List.take o.toNat k++List.replicate (k.length -o.toNat) ((0,0,0,0,0,0,0,0):D44))))))
def F.x (o:(List D44)):Nat→Int→Option (List D44)
 |0,_=>none
 |f+1,k=>if k<(o.length:Int)then(A.gd (Z.R64 (k-1)) ((A.ix o k).bind fun s=>((A.ix o (k-1)).bind fun u=>(if s=u then(A.gd (0≤k∧k.toNat≤o.length) (F.p o k A.FU o k 1))else(A.gd (Z.R64 (k+1)) ((F.x o f) (k+1)))))))else(some o)
def F.ao (k:(List D44)):Option (List D44):=if(k.length:Int)<2 then(some k)else(F.x k A.FU 1)
theorem o_aa(B:(List D44))(r:(List D44))(k:F.ao B=some r):
    A.Ct Tryz.prog 111 [.slice A0_ B.length c1_] [(0,.own T44 45 A0_ c1_ B)] (Z.obl A0_++[]) (fun v H'=>∃(A0':Option Addr) (c1':Nat),v=.slice A0' r.length c1'∧H'=[(0,.sh (.slice T44) [.slice A0' r.length c1'] r)]):=by
 refine J1 Tryz.func111 rfl Tryz.ntmps111 rfl fun w0 F0=>?_;rw[F.ao]at k;refine Jv 1 ?_;refine J0 1 [] (Vb 3 ?_);refine J0 3 [(8,.bool (decide ((B.length:Int)<2)))] (Jw 1 ?_);refine Vr k ?_ ?_<;>intro Y k
 ·refine Jv 1 ?_;refine J0 2 [(2,.slice A0_ B.length c1_)] (Jw 1 ?_);obtain rfl:=J7 k;refine A.frz 0 [] ?_;exact Va [(0,0)] ⟨A0_,c1_,rfl,rfl⟩
 refine Jv 4 ?_;refine J0 1 [(3,A.i 1)] (Jw 2 ?_);refine Vo [0] [0] (fun f O U=>∃(s:Int),O=[(3,A.i s)]∧U=[]∧A.h6 s∧F.x B f s=some r) ⟨1,rfl,rfl,(Vd .i64 (1) rfl),k⟩ ?_;rintro f3 _ _ ⟨s,rfl,rfl,ai,k⟩;rcases f3 with _|f3
 ·exact Vm k
 rw[F.x]at k;refine Jv 2 ?_;refine J0 4 [(13,.bool (decide (s<(B.length:Int))))] (Jw 1 ?_);refine Vr k ?_ ?_<;>intro Y k
 ·refine V3 5 ?_;refine Vl mixed 10 10 (A.mb 10 0) ?_;have⟨aj,k⟩:=Vq k;refine Us J3 [] [0] [] [] (A.mb 10 115) 5 [(0,.n),(1,.n),(4,.n),(5,.n),(6,.n)] [16,17,20,22] [Z.R64 (s-1)] [(16,.slice A0_ B.length c1_),(17,A.i s),(20,.slice A0_ B.length c1_),(22,A.i (s-1))] aj ?_;have⟨x5,a3,k⟩:=Vx k;refine Up 0 35 a3 fun ay=>?_;intro g9 ak;refine Vf J3 [0] [0,35] 2 (A.mb 10 119) rfl (fun a w hf hh=>Uu (t:=T44) a3 ak hf) ?_;refine Vh J3 [0,35] [0,35] [] [35] (A.mb 10 127) 3 [(3,.e 0 0)] [(19,(A.raf x5))] ?_;have⟨a4,a5,k⟩:=Vx k;refine Up 0 36 a5 fun az=>?_;intro b0 al;refine Vf J3 [0,35] [0,35,36] 7 (A.mb 10 255) rfl (fun a w hf hh=>Uu (t:=T44) a5 al hf) ?_;refine Vh J3 [0,35,36] [0,35,36] [] [36] (A.mb 10 511) 1 [(8,.e 0 0)] [(24,(A.raf a4))] ?_;refine Vf J3 [0,35,36] [0,35,36] 9 (A.mb 10 1023) rfl (fun a w hf hh=>eqagg_eql45 (x:=x5) (y:=a4) (hf.eval rfl) (hf.eval rfl)) ?_;refine J9 ?_;refine Uy 1 ?_;refine Vr k ?_ ?_<;>intro Y k
  ·refine Jv 1 ?_;refine J0 2 [(26,.slice A0_ B.length c1_),(27,A.i s)] ?_;have⟨a6,k⟩:=Vq k;refine A.AL.cutv 0 (u:=s.toNat) (Ww a6.1).symm a6.2 ?_;refine J0 1 [(4,.slice (Z.cutA A0_ c1_ s.toNat (T44).size) (B.length-s.toNat) (c1_-s.toNat))] (Vb 3 ?_);refine J0 1 [(5,A.i 1)] (Jw 2 ?_);refine Vo [0,4] [] (fun f O U=>∃(L:List D44),∃(E:Int),∃(J:Int),O=[(3,A.i E),(5,A.i J)]∧U=[(0,.own T44 45 A0_ c1_ L)]∧B.length=L.length∧A.h6 E∧A.h6 J∧F.p B s f L E J=some r) ⟨B,s,1,rfl,rfl,rfl,ai,(Vd .i64 (1) rfl),k⟩ ?_;rintro a2 _ _ ⟨L,E,J,rfl,rfl,hn19,am,b1,k⟩;rcases a2 with _|a2
   ·exact Vm k
   rw[F.p]at k;refine Jv 2 ?_;refine J0 4 [(32,.bool (decide (J<((B.length -s.toNat:Nat):Int))))] (Jw 1 ?_);refine Vr k ?_ ?_<;>intro Y k
   ·refine V3 2 ?_;refine J4 [0,4,5] [] (fun O U=>∃(V:List D44),∃(W:Int),O=[(3,A.i W)]∧U=[(0,.own T44 45 A0_ c1_ V)]∧B.length=V.length∧A.h6 W∧F.aw (F.p B s a2) J V W=some r) ?_ ?_
    ·refine V3 2 ?_;refine Vl mixed 10 10 (A.mb 10 0) ?_;have⟨an,k⟩:=Vq k;refine Us J3 [] [0] [] [] (A.mb 10 115) 5 [(0,.n),(1,.n),(4,.n),(5,.n),(6,.n)] [35,36,39,41] [Z.R64 (J-1)] [(35,.slice (Z.cutA A0_ c1_ s.toNat (T44).size) (B.length-s.toNat) (c1_-s.toNat)),(36,A.i J),(39,.slice (Z.cutA A0_ c1_ s.toNat (T44).size) (B.length-s.toNat) (c1_-s.toNat)),(41,A.i (J-1))] an ?_;have⟨hu37,k⟩:=Vq k;have⟨a7,a8,k⟩:=Vx k;refine A.pkw 0 47 a8 hu37 fun b2=>?_;intro b3 b4 ap;refine Vf J3 [0] [0,47] 2 (A.mb 10 119) rfl (fun a w hf hh=>Vj (t:=T44) a8 ap hf (A.vw rfl (congrArg (fun z=>z-s.toNat) hn19))) ?_;refine Vh J3 [0,47] [0,47] [] [47] (A.mb 10 127) 3 [(3,.e 0 0)] [(38,(A.raf a7))] ?_;have⟨hu44,k⟩:=Vq k;have⟨a9,aa,k⟩:=Vx k;refine A.pkw 0 48 aa hu44 fun b5=>?_;intro b6 b7 aq;refine Vf J3 [0,47] [0,47,48] 7 (A.mb 10 255) rfl (fun a w hf hh=>Vj (t:=T44) aa aq hf (A.vw rfl (congrArg (fun z=>z-s.toNat) hn19))) ?_;refine Vh J3 [0,47,48] [0,47,48] [] [48] (A.mb 10 511) 1 [(8,.e 0 0)] [(43,(A.raf a9))] ?_;refine Vf J3 [0,47,48] [0,47,48] 9 (A.mb 10 1023) rfl (fun a w hf hh=>eqagg_neq45 (x:=a7) (y:=a9) (hf.eval rfl) (hf.eval rfl)) ?_;refine J9 ?_;refine Uy 1 ?_;refine Vr k ?_ ?_<;>intro Y k
     ·refine Jv 1 ?_;refine J0 4 [(45,.slice A0_ B.length c1_),(46,A.i E),(47,.slice (Z.cutA A0_ c1_ s.toNat (T44).size) (B.length-s.toNat) (c1_-s.toNat)),(48,A.i J)] ?_;have⟨hu52,k⟩:=Vq k;have⟨a1,ar,k⟩:=Vx k;refine A.AL.ixw 0 49 ar hu52 (congrArg (fun z=>z-s.toNat) hn19) fun N=>?_;intro b9 bb;refine Jz [] [49] [.e 0 0] [(50,(A.raf a1))] ?_;refine U3 45 (Ul (show B.length=L.length from hn19)) ?_;have⟨au,ab,k⟩:=Vx k;refine Um 0 50 ab fun bc=>?_;intro bd av;refine A.AL.setel 0 50 [47,48,49,50] (o:=0) (m:=8) (t:=T44) (new:=(A.rab a1)) (es:=(A.rab au)) a1 ab av ⟨⟨rfl,N.1⟩,⟨rfl,N.2.1⟩,⟨rfl,N.2.2.1⟩,⟨rfl,N.2.2.2.1⟩,⟨⟨rfl,N.2.2.2.2.1⟩,⟨rfl,N.2.2.2.2.2.1⟩,⟨rfl,N.2.2.2.2.2.2.1⟩,⟨rfl,N.2.2.2.2.2.2.2⟩⟩⟩ ?_;refine Vb 1 ?_;have⟨ac,k⟩:=Vq k;refine Ub 3 [Z.R64 (E+1)] [(3,A.i (E+1))] ac (Ug 1 ?_);exact Vi ⟨(L.set E.toNat a1),(E+1),rfl,rfl,(by rw[W5];exact hn19),(J2 ac),k⟩
     refine Vy 2 ?_;exact Vi ⟨L,E,rfl,rfl,hn19,am,k⟩
    rintro _ _ ⟨V,W,rfl,rfl,hn28,ax,k⟩;rw[F.aw]at k;refine Jv 0 ?_;have⟨ad,k⟩:=Vq k;refine Ub 3 [Z.R64 (J+1)] [(5,A.i (J+1))] ad (Jy ?_);exact Vi ⟨_,Qh _,⟨V,W,(J+1),rfl,rfl,hn28,ax,(J2 ad),k⟩⟩
   refine Jv 3 ?_;refine J0 2 [(54,.slice A0_ B.length c1_),(55,A.i E)] ?_;refine U3 54 (Ul (show B.length=L.length from hn19)) ?_;have⟨ae,k⟩:=Vq k;refine A.AL.clr 0 [] (t:=T44) (u:=E.toNat) (zs:=l3a) ((0,0,0,0,0,0,0,0):D44) (Ww ae.1).symm ae.2 Tryz.zeroValue45 ⟨⟨rfl,by decide⟩,⟨rfl,by decide⟩,⟨rfl,by decide⟩,⟨rfl,by decide⟩,⟨⟨rfl,by decide⟩,⟨rfl,by decide⟩,⟨rfl,by decide⟩,⟨rfl,by decide⟩⟩⟩ ?_ Tryz.sizeOf45
   refine Vb 2 ?_;refine J0 2 [(57,.slice A0_ B.length c1_),(58,A.i E)] ?_;refine U3 57 (Ul (show B.length=(List.take E.toNat L++List.replicate (L.length -E.toNat) ((0,0,0,0,0,0,0,0):D44)).length from(Eq.trans hn19 (by rw[Ql,Qu,Xb];omega)))) ?_;have⟨ag,k⟩:=Vq k;refine A.AL.cuto 0 [] (v:=E.toNat) (Ww ag.1).symm ag.2 ?_;refine J0 1 [(2,.slice A0_ ((List.take E.toNat (List.take E.toNat L++List.replicate (L.length -E.toNat) ((0,0,0,0,0,0,0,0):D44))).length) c1_)] (Jw 1 ?_);obtain rfl:=J7 k;refine A.frz 0 [] ?_;exact Va [(0,0)] ⟨A0_,c1_,rfl,rfl⟩
  refine Jv 3 ?_;have⟨ah,k⟩:=Vq k;refine Ub 3 [Z.R64 (s+1)] [(3,A.i (s+1))] ah (Jy ?_);exact Vi ⟨_,Qh _,⟨(s+1),rfl,rfl,(J2 ah),k⟩⟩
 refine Jv 3 ?_;refine J0 2 [(2,.slice A0_ B.length c1_)] (Jw 1 ?_);obtain rfl:=J7 k;refine A.frz 0 [] ?_;exact Va [(0,0)] ⟨A0_,c1_,rfl,rfl⟩
def F.eq (k:D44)(o:D44):Option Bool:=(F.ec k o).bind fun p=>(some p)
theorem o_a0(k:D44)(o:D44)(s:A.h6 k.1)(u:A.h6 k.2.1)(x:A.h6 k.2.2.1)(y:A.h6 k.2.2.2.1)(z:A.h6 k.2.2.2.2.1)(B:A.h6 k.2.2.2.2.2.1)(E:A.h6 k.2.2.2.2.2.2.1)(J:A.h6 k.2.2.2.2.2.2.2)(L:A.h6 o.1)(N:A.h6 o.2.1)(O:A.h6 o.2.2.1)(U:A.h6 o.2.2.2.1)(V:A.h6 o.2.2.2.2.1)(W:A.h6 o.2.2.2.2.2.1)(Y:A.h6 o.2.2.2.2.2.2.1)(a1:A.h6 o.2.2.2.2.2.2.2)(r:Bool)(p:F.eq k o=some r):
    A.Ct Tryz.prog 107 [(A.raf k),.pointer (some ⟨g8_,0,none⟩)] [(0,.el none g8_ 0 (A.rab o))] [] (fun v H'=>v=.bool r∧H'=[]):=by
 refine J1 Tryz.func107 rfl Tryz.ntmps107 rfl fun w0 F0=>?_;rw[F.eq]at p;refine Jv 1 ?_;refine Vc 1 (cs:=(A.rab k)) fun g1=>?_;refine J0 1 [] (Vb 2 ?_);refine Jz [1] [0] [.b 0 0,.e 0 0] [(4,(A.raf k)),(5,(A.raf o))] ?_;refine Vw 2 [] p (o_bl k o s u x y z B E J L N O U V W Y a1) .nil ?_;rintro r2 - p _ _ ⟨rfl,rfl⟩;refine Ve ?_;refine J0 1 [(3,.bool r2)] (Jw 1 ?_);obtain rfl:=J7 p;exact Va [] ⟨rfl,rfl⟩
def F.d (o:(List D44))(p:D44):Nat→Int→Option Int
 |0,_=>none
 |f+1,k=>if k<(o.length:Int)then((A.ix o k).bind fun s=>((F.eq s p).bind fun u=>(if u=true then(some k)else(A.gd (Z.R64 (k+1)) ((F.d o p f) (k+1))))))else(some (-1))
def F.ay (k:(List D44))(o:D44):Option Int:=F.d k o A.FU 0
theorem o_m(x:(List D44))(o:D44)(E:A.h6 o.1)(J:A.h6 o.2.1)(L:A.h6 o.2.2.1)(N:A.h6 o.2.2.2.1)(O:A.h6 o.2.2.2.2.1)(U:A.h6 o.2.2.2.2.2.1)(V:A.h6 o.2.2.2.2.2.2.1)(W:A.h6 o.2.2.2.2.2.2.2)(r:Int)(k:F.ay x o=some r):
    A.Ct Tryz.prog 52 [.slice A0_ x.length c1_,.func (.func 107) #[] #[.pointer (some ⟨g2_,0,none⟩)]] [(0,.ln T44 A0_ c1_ x),(1,.el none g2_ 0 (A.rab o))] [] (fun v H'=>v=A.i r∧H'=[]∧A.h6 r):=by
 refine J1 Tryz.func52 rfl Tryz.ntmps52 rfl fun w0 F0=>?_;rw[F.ay]at k;refine Jv 1 ?_;refine J0 1 [] (Vb 3 ?_);refine J0 3 [(7,A.i (x.length:Int)),(8,A.i 0)] (Jw 2 ?_);refine Vo [0,1,7] l3m (fun f Y nh=>∃(p:Int),Y=[(8,A.i p)]∧nh=[]∧A.h6 p∧F.d x o f p=some r) ⟨0,rfl,rfl,J5,k⟩ ?_;rintro y _ _ ⟨p,rfl,rfl,a1,k⟩;rcases y with _|y
 ·exact Vm k
 rw[F.d]at k;refine Jv 1 ?_;refine J0 1 [(9,.bool (decide (p<(x.length:Int))))] (Jw 2 ?_);refine Vr k ?_ ?_<;>intro hb k
 ·refine Jv 5 ?_;refine J0 2 [(5,A.i p)] (Vb 2 ?_);refine J0 3 [(11,.func (.func 107) #[] #[.pointer (some ⟨g2_,0,none⟩)]),(12,.slice A0_ x.length c1_),(13,A.i p)] ?_;have⟨z,a2,k⟩:=Vx k;refine Ua 0 84 a2 fun u=>?_;intro b7 o8;refine Jz [] [84] [.e 0 0] [(15,(A.raf z))] ?_;have⟨r9,a3,k⟩:=Vx k;refine A.AL.call 85 [] (first:=[]) (cap:=[.pointer (some ⟨g2_,0,none⟩)]) cf107 (o_a0 g2_ z o u.1 u.2.1 u.2.2.1 u.2.2.2.1 u.2.2.2.2.1 u.2.2.2.2.2.1 u.2.2.2.2.2.2.1 u.2.2.2.2.2.2.2 E J L N O U V W r9 a3) (.s 1 .nil) ?_;rintro _ _ ⟨rfl,rfl⟩;refine Ve ?_;refine Jw 1 ?_;refine Ud k ?_ ?_<;>intro hb k
  ·refine Jv 1 ?_;refine J0 2 [(4,A.i p)] (Jw 1 ?_);obtain rfl:=J7 k;exact Va [] ⟨rfl,rfl,a1⟩
  refine Jv 3 ?_;have⟨B,k⟩:=Vq k;refine Ub 2 [Z.R64 (p+1)] [(8,A.i (p+1))] B (Jy ?_);exact Vi ⟨_,Qh _,⟨(p+1),rfl,rfl,(J2 B),k⟩⟩
 refine Jv 3 ?_;refine J0 1 [(4,A.i (-1))] (Jw 1 ?_);obtain rfl:=J7 k;exact Va [] ⟨rfl,rfl,(Vd .i64 (-1) rfl)⟩
def F.o (k:(List D44))(p:D44):Option Bool:=(F.ay k p).bind fun s=>(some (decide ((0:Int)≤s)))
theorem o_i(p:(List D44))(k:D44)(x:A.h6 k.1)(y:A.h6 k.2.1)(z:A.h6 k.2.2.1)(B:A.h6 k.2.2.2.1)(E:A.h6 k.2.2.2.2.1)(J:A.h6 k.2.2.2.2.2.1)(L:A.h6 k.2.2.2.2.2.2.1)(N:A.h6 k.2.2.2.2.2.2.2)(r:Bool)(u:F.o p k=some r):
    A.Ct Tryz.prog 16 [.slice A0_ p.length c1_,.func (.func 107) #[] #[.pointer (some ⟨g2_,0,none⟩)]] [(0,.ln T44 A0_ c1_ p),(1,.el none g2_ 0 (A.rab k))] [] (fun v H'=>v=.bool r∧H'=[]):=by
 refine J1 Tryz.func16 rfl Tryz.ntmps16 rfl fun U V=>?_;rw[F.o]at u;refine Jv 1 ?_;refine J0 1 [] (Vb 2 ?_);refine J0 2 [(5,.slice A0_ p.length c1_),(6,.func (.func 107) #[] #[.pointer (some ⟨g2_,0,none⟩)])] ?_;refine Vw 2 [] u (o_m A0_ c1_ g2_ p k x y z B E J L N) (.s 0 (.s 1 .nil)) ?_;rintro O - u _ _ ⟨rfl,rfl,hr3⟩;refine Ve ?_;refine J0 2 [(4,.bool (decide ((0:Int)≤O)))] (Jw 1 ?_);obtain rfl:=J7 u;exact Va [] ⟨rfl,rfl⟩
def F.ac (k:List D44):Option (List D44):=A.gd (k.length<4611686018427387904) (A.srtF (fun x y=>F.aV x y) k)
theorem o_o(k:List D44)(r:List D44)(o:F.ac k=some r):
    A.Ct Tryz.prog 109 [.slice A0_ k.length c1_,.func (.func 110) #[] #[]] [(0,.own T44 45 A0_ c1_ k)] (Z.obl A0_++[]) (fun v H'=>v=.tuple #[]∧H'=[(0,.own T44 45 A0_ c1_ r)]∧r.length=k.length):=by
 have⟨hc,o⟩:=Vq o;rw[Wk]
 exact A.Ct.sortF (t:=T44) (e:=45) Tryz.laysSortFunc109 rfl rfl Tryz.isAgg45 Tryz.sizeOf45 A0_ c1_ 110 (fun x y=>F.aV x y) cf110 (fun x y r hx hy h=>⟨_,o_aq x y hx.1 hx.2.1 hx.2.2.1 hx.2.2.2.1 hx.2.2.2.2.1 hx.2.2.2.2.2.1 hx.2.2.2.2.2.2.1 hx.2.2.2.2.2.2.2 hy.1 hy.2.1 hy.2.2.1 hy.2.2.2.1 hy.2.2.2.2.1 hy.2.2.2.2.2.1 hy.2.2.2.2.2.2.1 hy.2.2.2.2.2.2.2 r h,fun v H' h=>h.1⟩) k r hc o
def F.di (o:(List D44)→Int→Option ((List D44)×Int))(k:Int)(p:List D44):Option ((List D44)×Int):=A.gd (Z.R64 (k+1)) (o p (k+1))
def F.dj (s:(List D44)→Int→Option ((List D44)×Int))(x:(List D44))(k:List D44)(u:Int)(p:D44)(y:Bool):Option ((List D44)×Int):=if y=true then(some ([],11))else((F.o x p).bind fun z=>(if(!z)=true then(A.gd ((List.length (α:=D44) k+List.length (α:=D44) [p])*64≤140737488355328) (F.di s u (k++[p])))else(F.di s u k)))
def F.a1 (k:(List D44)):Nat→(List D44)→Int→Option ((List D44)×Int)
 |0,_,_=>none
 |f+1,s,o=>if o<(k.length:Int)then((A.ix k o).bind fun p=>((A.ix k 0).bind fun u=>(if p.1≠u.1 then(F.dj (F.a1 k f) k s o p true)else((A.ix k 0).bind fun x=>((F.dc p).bind fun y=>((F.dc x).bind fun z=>(F.dj (F.a1 k f) k s o p (decide (y≠z)))))))))else((F.ac s).bind fun B=>((F.ao B).bind fun E=>(some (E,0))))
def F.co (k:(List D44)):Nat→Int→Option ((List D44)×Int)
 |0,_=>none
 |f+1,o=>if o<(k.length:Int)then((A.ix k o).bind fun p=>((F.az p).bind fun s=>(if(!s)=true then(some ([],20))else(A.gd (Z.R64 (o+1)) ((F.co k f) (o+1))))))else(F.a1 k A.FU [] 0)
def F.dT (k:(List D44)):Option ((List D44)×Int):=F.co k A.FU 0
theorem o_a9(u:(List D44))(r:(List D44)×Int)(o:F.dT u=some r):
    A.Ct Tryz.prog 75 [.slice A0_ u.length c1_] [(0,.ln T44 A0_ c1_ u)] [] (fun v H'=>∃(A0':Option Addr) (c1':Nat),v=.tuple #[.slice A0' r.1.length c1',A.i r.2]∧H'=[(0,.sh (.slice T44) [.slice A0' r.1.length c1'] r.1)]∧A.h6 r.2):=by
 refine J1 Tryz.func75 rfl Tryz.ntmps75 rfl fun w0 F0=>?_;rw[F.dT]at o;refine Jv 1 ?_;refine J0 2 [] (Vb 3 ?_);refine J0 3 [(9,.slice A0_ u.length c1_),(10,A.i (u.length:Int)),(11,A.i 0)] (Jw 2 ?_);refine Vo [0,9,10] [0] (fun f O U=>∃(J:Int),O=[(11,A.i J)]∧U=[]∧A.h6 J∧F.co u f J=some r) ⟨0,rfl,rfl,J5,o⟩ ?_;rintro f3 _ _ ⟨J,rfl,rfl,ar,o⟩;rcases f3 with _|f3
 ·exact Vm o
 rw[F.co]at o;refine Jv 1 ?_;refine J0 1 [(12,.bool (decide (J<(u.length:Int))))] (Jw 2 ?_);refine Vr o ?_ ?_<;>intro V o
 ·refine Jv 5 ?_;have⟨Y,aj,o⟩:=Vx o;refine Ua 0 1997 aj fun L=>?_;intro b7 o8;refine Jz [] [1997] [.e 0 0] [(14,(A.raf Y))] ?_;refine J6 1998 (cs:=l3a) Tryz.zeroValue45 fun g9=>?_;refine Vu 1998 [] (A.rab Y) ?_;refine Vb 2 ?_;refine Jz [1998] [] [.b 0 0] [(15,(A.raf Y))] ?_;refine Vw 1999 [] o (o_w Y L.1 L.2.1 L.2.2.1 L.2.2.2.1 L.2.2.2.2.1 L.2.2.2.2.2.1 L.2.2.2.2.2.2.1 L.2.2.2.2.2.2.2) .nil ?_;rintro ak - o _ _ ⟨rfl,rfl⟩;refine Ve ?_;refine J0 1 [(17,.bool (!ak))] (Jw 1 ?_);refine Ud o ?_ ?_<;>intro V o
  ·refine Jv 1 ?_;refine J0 2 [(2,.slice none 0 0),(3,A.i 20)] (Jw 1 ?_);obtain rfl:=J7 o;refine A.snil 2039 T44 ?_;exact V4 [(0,2039)] ⟨none,0,rfl,rfl,(Vd .i64 (20) rfl)⟩
  refine Jv 3 ?_;have⟨a5,o⟩:=Vq o;refine Ub 2 [Z.R64 (J+1)] [(11,A.i (J+1))] a5 (Jy ?_);exact Vi ⟨_,Qh _,⟨(J+1),rfl,rfl,(J2 a5),o⟩⟩
 refine Jv 3 ?_;refine J0 1 [(6,.slice none 0 0)] (Vb 3 ?_);refine J0 3 [(19,.slice A0_ u.length c1_),(20,A.i (u.length:Int)),(21,A.i 0)] (Jw 2 ?_);refine V9 2376 T44 45 ?_;refine Vo [0,19,20] [0] (fun f O U=>∃(x:List D44),∃(z:Int),∃(B:Option Addr),∃(E:Nat),O=[(6,.slice B x.length E),(21,A.i z)]∧U=[(2376,.own T44 45 B E x)]∧A.h6 z∧F.a1 u f x z=some r) ⟨[],0,none,0,rfl,rfl,J5,o⟩ ?_;rintro a2 _ _ ⟨x,z,B,E,rfl,rfl,au,o⟩;rcases a2 with _|a2
 ·exact Vm o
 rw[F.a1]at o;refine Jv 1 ?_;refine J0 1 [(22,.bool (decide (z<(u.length:Int))))] (Jw 2 ?_);refine Vr o ?_ ?_<;>intro V o
 ·refine V3 2 ?_;refine J4 [0,19,20,21] [0] (fun O U=>∃(W:List D44),∃(a3:Option Addr),∃(c20:Nat),O=[(6,.slice a3 W.length c20)]∧U=[(2376,.own T44 45 a3 c20 W)]∧F.di (F.a1 u a2) z W=some r) ?_ ?_
  ·refine Jv 2 ?_;have⟨y,al,o⟩:=Vx o;refine Ua 0 2789 al fun p=>?_;intro av aw;refine Jz [] [2789] [.e 0 0] [(24,(A.raf y))] ?_;refine J6 2790 (cs:=l3a) Tryz.zeroValue45 fun a6=>?_;refine Vu 2790 [] (A.rab y) ?_;refine Jw 2 ?_;refine J4 [0,6,8,19,20,21] [0,2376,2790] (fun O U=>∃(a4:Bool),O=[(40,.bool a4)]∧U=[]∧F.dj (F.a1 u a2) u x z y a4=some r) ?_ ?_
   ·refine Vl mixed 16 16 (A.mb 16 0) ?_;refine Vh J3 [] [0,2376,2789,2790] [2790] [] (A.mb 16 7) 13 [(0,.n),(2,.n),(1,.b 0 0)] [(27,.slice A0_ u.length c1_),(26,A.i y.1)] ?_;have⟨am,a7,o⟩:=Vx o;refine Vn 0 2791 a7 fun ax=>?_;intro ay az an;refine Vf J3 [0,2376,2789,2790] l3c 3 (A.mb 16 15) rfl (fun a w hf hh=>Vj (t:=T44) a7 an hf) ?_;refine Vh J3 l3c l3c [] [2791] (A.mb 16 255) 8 [(4,.n),(5,.e 0 0),(6,.n),(7,.n)] [(32,.bool (decide (y.1≠am.1)))] ?_;refine Ui (j:=32) rfl o ?_ ?_<;>intro V o
    ·refine Vh J3 l3c l3c [] [] (A.mb 16 65535) 0 [(8,.off),(10,.off),(9,.off),(11,.off),(12,.off),(13,.off),(14,.off),(15,.n)] [(40,.bool true)] (J9 ?_);exact Vi ⟨true,rfl,rfl,o⟩
    refine Vh J3 l3c l3c [2790] [] (A.mb 16 1535) 6 [(8,.on (.b 0 0)),(10,.on .n)] [(33,(A.raf y)),(35,.slice A0_ u.length c1_)] ?_;have⟨a8,a9,o⟩:=Vx o;refine Vn 0 2792 a9 fun N=>?_;intro b0 b1 ao;refine Ue J3 l3c l3b 11 (A.mb 16 3583) (dj:=32) rfl (fun a w hf hh=>Vj (t:=T44) a9 ao hf) ?_;refine Vh J3 l3b l3b [] [2792] (A.mb 16 7679) 4 [(12,.on (.e 0 0))] [(37,(A.raf a8))] ?_;refine J8 9 ?_;refine Vk (dj:=32) rfl rfl ?_;refine Vw 2793 [] o (o_aH y p.1 p.2.1 p.2.2.1 p.2.2.2.1 p.2.2.2.2.1 p.2.2.2.2.2.1 p.2.2.2.2.2.2.1 p.2.2.2.2.2.2.2) .nil ?_;rintro aa - o _ _ ⟨rfl,rfl,hr50⟩;refine Ve ?_;refine Vg (A.mb 16 8191) l3b ?_;refine J8 13 ?_;refine Vk (dj:=32) rfl rfl ?_;refine Vw 2833 [] o (o_aH a8 N.1 N.2.1 N.2.2.1 N.2.2.2.1 N.2.2.2.2.1 N.2.2.2.2.2.1 N.2.2.2.2.2.2.1 N.2.2.2.2.2.2.2) .nil ?_;rintro ab - o _ _ ⟨rfl,rfl,hr53⟩;refine Ve ?_;refine Vg (A.mb 16 16383) l3b ?_;refine Vh J3 l3b l3b [] [] (A.mb 16 65535) 0 [(14,.on .n),(15,.n)] [(40,.bool (decide (aa≠ab)))] (J9 ?_);exact Vi ⟨(decide (aa≠ab)),rfl,rfl,o⟩
   rintro _ _ ⟨a4,rfl,rfl,o⟩;rw[F.dj]at o;refine Ud o ?_ ?_<;>intro V o
   ·refine Jv 1 ?_;refine J0 2 [(2,.slice none 0 0),(3,A.i 11)] (Jw 1 ?_);obtain rfl:=J7 o;refine A.snil 2873 T44 ?_;exact V4 [(0,2873)] ⟨none,0,rfl,rfl,(Vd .i64 (11) rfl)⟩
   refine Jv 3 ?_;refine J0 2 [(41,.slice A0_ u.length c1_),(42,.func (.func 107) #[] #[.pointer (some ⟨a6,0,none⟩)])] ?_;refine Vw 2874 [] o (o_i A0_ c1_ a6 u y p.1 p.2.1 p.2.2.1 p.2.2.2.1 p.2.2.2.2.1 p.2.2.2.2.2.1 p.2.2.2.2.2.2.1 p.2.2.2.2.2.2.2) (.s 0 (.b 2790 .nil)) ?_;rintro ap - o _ _ ⟨rfl,rfl⟩;refine Ve ?_;refine J0 1 [(44,.bool (!ap))] (Jw 1 ?_);refine Ud o ?_ ?_<;>intro V o
   ·refine Jv 0 ?_;refine Jz [2790] [] [.n,.b 0 0] [(45,.slice B x.length E),(46,(A.raf y))] ?_;refine Vp 2914 (ty:=T44) (cs:=(A.rab y)) [y] ⟨⟨⟨rfl,p.1⟩,⟨rfl,p.2.1⟩,⟨rfl,p.2.2.1⟩,⟨rfl,p.2.2.2.1⟩,⟨⟨rfl,p.2.2.2.2.1⟩,⟨rfl,p.2.2.2.2.2.1⟩,⟨rfl,p.2.2.2.2.2.2.1⟩,⟨rfl,p.2.2.2.2.2.2.2⟩⟩⟩,rfl⟩ (fun b2=>?_) Tryz.zeroValue45 Tryz.sizeOf45
    have⟨hl35,o⟩:=Vq o;refine V1 (k:=2376) [] (Uk (k:=2914) rfl) Qir hl35 fun ac ad=>?_;refine J0 1 [(6,.slice ac ((x++[y]).length) ad)] (Ug 1 ?_);exact Vi ⟨(x++[y]),ac,ad,rfl,rfl,o⟩
   refine Vy 2 ?_;exact Vi ⟨x,B,E,rfl,rfl,o⟩
  rintro _ _ ⟨W,a3,c20,rfl,rfl,o⟩;rw[F.di]at o;refine Jv 0 ?_;have⟨ae,o⟩:=Vq o;refine Ub 2 [Z.R64 (z+1)] [(21,A.i (z+1))] ae (Jy ?_);exact Vi ⟨_,Qh _,⟨W,(z+1),a3,c20,rfl,rfl,(J2 ae),o⟩⟩
 refine Jv 3 ?_;refine J0 1 [(50,.slice B x.length E)] ?_;refine Vw 2915 [] o (o_o B E x) (.m 2376 .nil) ?_;rintro ag - o _ _ ⟨rfl,rfl,hr56⟩;refine Ve ?_;refine V7 2915 2376 [] ?_;refine Vb 2 ?_;refine J0 1 [(52,.slice B x.length E)] ?_;refine U3 52 (Ul (show x.length=ag.length from(Eq.symm hr56))) ?_;refine Vw 2955 [] o (o_aa B E ag) (.m 2376 .nil) ?_;rintro aq - o _ _ ⟨ah,ai,rfl,rfl⟩;refine Ve ?_;refine J0 2 [(2,.slice ah aq.length ai),(3,A.i 0)] (Jw 1 ?_);obtain rfl:=J7 o;exact V4 [(0,2955)] ⟨ah,ai,rfl,rfl,J5⟩
def F.aj (o:(List D44))(p:(List D44)):Nat→Int→Option Bool
 |0,_=>none
 |f+1,k=>if k<(o.length:Int)then((A.ix o k).bind fun s=>((A.ix p k).bind fun u=>(if s≠u then(some false)else(A.gd (Z.R64 (k+1)) ((F.aj o p f) (k+1))))))else(some true)
def F.aH (k:(List D44))(o:(List D44)):Option Bool:=if(k.length:Int)≠(o.length:Int)then(some false)else(F.aj k o A.FU 0)
theorem o_ac(p:(List D44))(s:(List D44))(r:Bool)(k:F.aH p s=some r):
    A.Ct Tryz.prog 76 [.slice A0_ p.length c1_,.slice A2_ s.length c3_] [(0,.ln T44 A0_ c1_ p),(1,.ln T44 A2_ c3_ s)] [] (fun v H'=>v=.bool r∧H'=[]):=by
 refine J1 Tryz.func76 rfl Tryz.ntmps76 rfl fun Y F0=>?_;rw[F.aH]at k;refine Jv 1 ?_;refine J0 1 [] (Vb 3 ?_);refine J0 5 [(10,.bool (decide ((p.length:Int)≠(s.length:Int))))] (Jw 1 ?_);refine Vr k ?_ ?_<;>intro u k
 ·refine Jv 1 ?_;refine J0 1 [(4,.bool false)] (Jw 1 ?_);obtain rfl:=J7 k;exact Va [] ⟨rfl,rfl⟩
 refine Jv 4 ?_;refine J0 3 [(12,A.i (p.length:Int)),(13,A.i 0)] (Jw 2 ?_);refine Vo [0,1,12] l3m (fun f O U=>∃(o:Int),O=[(13,A.i o)]∧U=[]∧A.h6 o∧F.aj p s f o=some r) ⟨0,rfl,rfl,J5,k⟩ ?_;rintro z _ _ ⟨o,rfl,rfl,a2,k⟩;rcases z with _|z
 ·exact Vm k
 rw[F.aj]at k;refine Jv 1 ?_;refine J0 1 [(14,.bool (decide (o<(p.length:Int))))] (Jw 2 ?_);refine Vr k ?_ ?_<;>intro u k
 ·refine Jv 5 ?_;refine J0 2 [(5,A.i o)] (Jw 2 ?_);refine Vl mixed 9 9 (A.mb 9 0) ?_;refine Vh J3 [] l3m [] [] (A.mb 9 51) 5 [(0,.n),(1,.n),(4,.n),(5,.n)] [(16,.slice A0_ p.length c1_),(17,A.i o),(20,.slice A2_ s.length c3_),(21,A.i o)] ?_;have⟨B,E,k⟩:=Vx k;refine Vn 0 6 E fun a3=>?_;intro b8 o9 V;refine Vf J3 l3m [0,1,6] 2 (A.mb 9 55) rfl (fun a w hf hh=>Vj (t:=T44) E V hf) ?_;refine Vh J3 [0,1,6] [0,1,6] [] [6] (A.mb 9 63) 3 [(3,.e 0 0)] [(19,(A.raf B))] ?_;have⟨J,L,k⟩:=Vx k;refine Vn 1 7 L fun a4=>?_;intro a5 a6 W;refine Vf J3 [0,1,6] [0,1,6,7] 6 (A.mb 9 127) rfl (fun a w hf hh=>Vj (t:=T44) L W hf) ?_;refine Vh J3 [0,1,6,7] [0,1,6,7] [] [7] (A.mb 9 255) 1 [(7,.e 0 0)] [(23,(A.raf J))] ?_;refine Vf J3 [0,1,6,7] [0,1,6,7] 8 (A.mb 9 511) rfl (fun a w hf hh=>eqagg_neq45 (x:=B) (y:=J) (hf.eval rfl) (hf.eval rfl)) ?_;refine J9 ?_;refine Uy 1 ?_;refine Vr k ?_ ?_<;>intro u k
  ·refine Jv 1 ?_;refine J0 1 [(4,.bool false)] (Jw 1 ?_);obtain rfl:=J7 k;exact Va [] ⟨rfl,rfl⟩
  refine Jv 3 ?_;have⟨N,k⟩:=Vq k;refine Ub 2 [Z.R64 (o+1)] [(13,A.i (o+1))] N (Jy ?_);exact Vi ⟨_,Qh _,⟨(o+1),rfl,rfl,(J2 N),k⟩⟩
 refine Jv 3 ?_;refine J0 1 [(4,.bool true)] (Jw 1 ?_);obtain rfl:=J7 k;exact Va [] ⟨rfl,rfl⟩
def F.bd (k:(List (D88×(List D44))))(o:D88)(p:(List D44)×Int)(s:Bool):Option (Bool×(List (D88×(List D44)))):=if s=true then(some (false,k))else(some (true,Z.mins k o p.1))
def F.ap (o:(List (D88×(List D44))))(p:D88)(s:(List D44)):Option (Bool×(List (D88×(List D44)))):=A.lt (Z.mget ([]:(List D44)) o p) fun u=>((F.ad u).bind fun x=>(A.gd ((List.length (α:=D44) x+List.length (α:=D44) s)*64≤140737488355328) ((F.dT (x++s)).bind fun k=>(if k.2≠0 then(F.bd o p k true)else((F.aH u k.1).bind fun y=>(F.bd o p k y))))))
theorem o_al(U:(List (D88×(List D44))))(s:D88)(B:(List D44))(a4:A.h6 s.1.1)(a5:A.h6 s.1.2)(a6:A.h6 s.2.1)(a7:A.h6 s.2.2)(r:Bool×(List (D88×(List D44))))(p:F.ap U s B=some r):
    A.Ct Tryz.prog 40 [.map (some b0_),(A.rah s),.slice A5_ B.length c6_] [(0,.mp D88 (fun x:D88=>(A.rah x)) (Z.Ty.slice T44) false b0_ U),(1,.ln T44 A5_ c6_ B)] ([b0_]++[]) (fun v H'=>v=.bool r.1∧H'=[(0,.mp D88 (fun x:D88=>(A.rah x)) (Z.Ty.slice T44) false b0_ r.2)]):=by
 refine J1 Tryz.func40 rfl Tryz.ntmps40 rfl fun w0 F0=>?_;rw[F.ap]at p;refine Jv 1 ?_;refine Vc 2 (cs:=[A.i s.1.1,A.i s.1.2,A.i s.2.1,A.i s.2.2]) fun g1=>?_;refine J0 1 [] (Vb 2 ?_);refine Jz [2] [] [.n,.b 0 0] [(10,.map (some b0_)),(11,(A.rah s))] ?_;obtain⟨E,Y,p⟩:=V5 p;refine Ux (t:=(Z.Ty.slice T44)) 0 3 (z:=([]:(List D44))) (zs:=[.slice none 0 0]) ky89 s Tryz.zeroValue49 (.inr ⟨rfl,rfl⟩) Y fun a8=>?_;intro J L;refine J0 1 [(7,.slice J E.length L)] (Vb 2 ?_);refine J0 1 [(14,.slice J E.length L)] ?_;refine Vw 4 [] p (o_p J L E) (.l 3 .nil) ?_;rintro r7 - p _ _ ⟨A9,c10,rfl,rfl⟩;refine Ve ?_;refine J0 1 [(16,.slice A5_ B.length c6_)] ?_;have⟨hl13,p⟩:=Vq p;refine V1 (k:=4) [] (A.rowL (k:=1) rfl) Qir hl13 fun a3 c12=>?_;refine Vw 44 [] p (o_a9 a3 c12 (r7++B)) (.o 4 .nil) ?_;rintro y - p _ _ ⟨N,O,rfl,rfl,hr18⟩;refine Ve ?_;refine J0 5 [(8,.slice N y.1.length O),(9,A.i y.2)] (Jw 2 ?_);refine J4 [0,4,8] [0,2,44] (fun nl nh=>∃(V:Bool),nl=[(27,.bool V)]∧nh=[]∧F.bd U s y V=some r) ?_ ?_
 ·refine Jv 0 ?_;refine J0 3 [(23,.bool (decide (y.2≠0)))] ?_;refine V6 (j:=23) rfl p ?_ ?_<;>intro hb p
  ·refine Jz [] [] [.off,.off,.off,.n] [(27,.bool true)] (Jy ?_);exact Vi ⟨true,rfl,rfl,p⟩
  refine Jz [] [] [.on .n,.on .n] [(24,.slice J E.length L),(25,.slice N y.1.length O)] ?_;refine Vk (dj:=23) rfl rfl ?_;refine Vw 84 [] p (o_ac J N L O E y.1) (.l 3 (.l 44 .nil)) ?_;rintro W - p _ _ ⟨rfl,rfl⟩;refine Ve ?_;refine J0 1 [(27,.bool W)] (Jy ?_);exact Vi ⟨W,rfl,rfl,p⟩
 rintro _ _ ⟨V,rfl,rfl,p⟩;rw[F.bd]at p;refine Ud p ?_ ?_<;>intro hb p
 ·refine Jv 1 ?_;refine J0 1 [(6,.bool false)] (Jw 1 ?_);obtain rfl:=J7 p;exact Va [(0,0)] ⟨rfl,rfl⟩
 refine Jv 3 ?_;refine Jz [2] [] [.n,.b 0 0,.n] [(28,.map (some b0_)),(29,(A.rah s)),(30,.slice N y.1.length O)] ?_;refine A.AL.mup (t:=(Z.Ty.slice T44)) 0 [] (cs:=[.slice N y.1.length O]) (u:=y.1) ky89 s (.inl ⟨44,rfl⟩) ?_;refine Vb 2 ?_;refine J0 1 [(6,.bool true)] (Jw 1 ?_);obtain rfl:=J7 p;exact Va [(0,0)] ⟨rfl,rfl⟩
def F.bn (o:D44)(p:Int)(k:Int)(s:Int)(u:Int)(x:Int)(y:Int)(z:Int):Option (D44×Int):=if(1048576:Int)<k then(some ((0,0,0,0,(0,0,0,0)),12))else(some ((o.1,p,k,s,(u,x,y,z)),0))
def F.bO (o:D44)(k:D44)(x:Bool):Option (D44×Int):=if x=true then(some ((0,0,0,0,(0,0,0,0)),20))else(A.gd (Z.R64 (o.2.1+o.2.2.2.1)) (if o.2.1+o.2.2.2.1≠k.1 then(some ((0,0,0,0,(0,0,0,0)),11))else(if k.2.1=o.2.1 then(A.gd (Z.R64 (k.2.2.1+o.2.2.1)) (F.bn o k.2.1 (k.2.2.1+o.2.2.1) k.2.2.2.1 k.2.2.2.2.1 k.2.2.2.2.2.1 k.2.2.2.2.2.2.1 k.2.2.2.2.2.2.2))else(if o.2.1<k.2.1 then(A.gd (Z.R64 (k.2.1-o.2.1)) (A.gd (Z.R64 ((k.2.1-o.2.1)+k.2.2.2.1)) (A.gd (0≤k.2.1-o.2.1∧k.2.1-o.2.1≤4) (A.gd (0≤k.2.1-o.2.1∧k.2.1-o.2.1≤4) ((A.cp4 [0,0,0,0] [o.2.2.2.2.1,o.2.2.2.2.2.1,o.2.2.2.2.2.2.1,o.2.2.2.2.2.2.2] 0 (k.2.1-o.2.1) (k.2.1-o.2.1)).bind fun u=>(A.gd (0≤k.2.1-o.2.1∧k.2.1-o.2.1≤4) (A.gd (0≤k.2.2.2.1∧k.2.2.2.1≤4) ((A.cp4 [u.1,u.2.1,u.2.2.1,u.2.2.2] [k.2.2.2.2.1,k.2.2.2.2.2.1,k.2.2.2.2.2.2.1,k.2.2.2.2.2.2.2] (k.2.1-o.2.1) 4 k.2.2.2.1).bind fun p=>(A.gd (Z.R64 ((k.2.1-o.2.1)-1)) ((A.ix [p.1,p.2.1,p.2.2.1,p.2.2.2] ((k.2.1-o.2.1)-1)).bind fun s=>(A.gd (Z.R64 (s+k.2.2.1)) ((A.ix [p.1,p.2.1,p.2.2.1,p.2.2.2] ((k.2.1-o.2.1)-1)).bind fun z=>(A.gd (Z.R64 ((k.2.1-o.2.1)-1)) ((A.ix [(if(k.2.1-o.2.1)-1=0 then s+k.2.2.1 else p.1),(if(k.2.1-o.2.1)-1=1 then s+k.2.2.1 else p.2.1),(if(k.2.1-o.2.1)-1=2 then s+k.2.2.1 else p.2.2.1),(if(k.2.1-o.2.1)-1=3 then s+k.2.2.1 else p.2.2.2)] ((k.2.1-o.2.1)-1)).bind fun y=>(if(1048576:Int)<y then(some ((0,0,0,0,(0,0,0,0)),12))else(F.bn o o.2.1 o.2.2.1 ((k.2.1-o.2.1)+k.2.2.2.1) (if(k.2.1-o.2.1)-1=0 then s+k.2.2.1 else p.1) (if(k.2.1-o.2.1)-1=1 then s+k.2.2.1 else p.2.1) (if(k.2.1-o.2.1)-1=2 then s+k.2.2.1 else p.2.2.1) (if(k.2.1-o.2.1)-1=3 then s+k.2.2.1 else p.2.2.2)))))))))))))))))else(F.bn o k.2.1 k.2.2.1 k.2.2.2.1 k.2.2.2.2.1 k.2.2.2.2.2.1 k.2.2.2.2.2.2.1 k.2.2.2.2.2.2.2)))))
def F.bG (k:D44)(o:D44):Option (D44×Int):=(F.az k).bind fun p=>(if(!p)=true then(F.bO k o true)else((F.az o).bind fun s=>(F.bO k o (!s))))
theorem o_bm (p:D44)(k:D44)(ae:A.h6 p.1)(ag:A.h6 p.2.1)(ah:A.h6 p.2.2.1)(am:A.h6 p.2.2.2.1)(y:A.h6 p.2.2.2.2.1)(z:A.h6 p.2.2.2.2.2.1)(B:A.h6 p.2.2.2.2.2.2.1)(E:A.h6 p.2.2.2.2.2.2.2)(an:A.h6 k.1)(ab:A.h6 k.2.1)(ai:A.h6 k.2.2.1)(ac:A.h6 k.2.2.2.1)(U:A.h6 k.2.2.2.2.1)(V:A.h6 k.2.2.2.2.2.1)(W:A.h6 k.2.2.2.2.2.2.1)(Y:A.h6 k.2.2.2.2.2.2.2)(r:D44×Int)(s:F.bG p k=some r):
    A.Ct Tryz.prog 77 [(A.raf p),(A.raf k)] [] [] (fun v H'=>v=.tuple #[(A.raf r.1),A.i r.2]∧H'=[]∧A.h6 r.1.1∧A.h6 r.1.2.1∧A.h6 r.1.2.2.1∧A.h6 r.1.2.2.2.1∧A.h6 r.1.2.2.2.2.1∧A.h6 r.1.2.2.2.2.2.1∧A.h6 r.1.2.2.2.2.2.2.1∧A.h6 r.1.2.2.2.2.2.2.2∧A.h6 r.2):=by
 refine J1 Tryz.func77 rfl Tryz.ntmps77 rfl fun w0 F0=>?_;rw[F.bG]at s;refine Jv 1 ?_;refine Vc 0 (cs:=(A.rab p)) fun g1=>?_;refine Vc 1 (cs:=(A.rab k)) fun g2=>?_;refine J6 2 (cs:=l3a) Tryz.zeroValue45 fun g3=>?_;refine J0 1 [] (Jw 3 ?_);refine J4 [2,3,4] [0,1,2] (fun nl nh=>∃(y4:Bool),nl=[(8,.bool y4)]∧nh=[]∧F.bO p k y4=some r) ?_ ?_
 ·refine Jv 0 ?_;refine Jz [0] [] [.b 0 0] [(9,(A.raf p))] ?_;refine Vw 3 [] s (o_w p ae ag ah am y z B E) .nil ?_;rintro ao - s _ _ ⟨rfl,rfl⟩;refine Ve ?_;refine J0 2 [(12,.bool (!ao))] ?_;refine Vs (j:=12) rfl s (fun s=>?_) (fun s=>?_)
  ·refine Jz [] [] [.off,.off,.off,.n,.n] [(8,.bool true)] (Jy ?_);exact Vi ⟨true,rfl,rfl,s⟩
  refine Jz [1] [] [.on (.b 0 0)] [(13,(A.raf k))] ?_;refine Vk (dj:=12) rfl rfl ?_;refine Vw 43 [] s (o_w k an ab ai ac U V W Y) .nil ?_;rintro aj - s _ _ ⟨rfl,rfl⟩;refine Ve ?_;refine Jz [] [] [.on .n,.n,.n] [(8,.bool (!aj))] (Jy ?_);exact Vi ⟨(!aj),rfl,rfl,s⟩
 rintro _ _ ⟨y4,rfl,rfl,s⟩;rw[F.bO]at s;refine Ud s ?_ ?_<;>intro hb s
 ·refine Jv 1 ?_;refine J0 1 [(17,.agg #[A.i 0,A.i 0,A.i 0,A.i 0,A.i 0,A.i 0,A.i 0,A.i 0])] ?_;refine Vu 2 [] A.zz8 ?_;refine J0 1 [(5,A.i 20)] (Jw 1 ?_);obtain rfl:=J7 s;exact Vv [] (.tuple #[.agg #[A.i 0,A.i 0,A.i 0,A.i 0,A.i 0,A.i 0,A.i 0,A.i 0],A.i 20]) (fun a w hf hh=>V8 rfl (Uf hf rfl Tryz.isAgg45 Tryz.sizeOf45 (Vt hh 2) rfl) (Vz hf rfl)) (⟨rfl,rfl,J5,J5,J5,J5,J5,J5,J5,J5,(Vd .i64 (20) rfl)⟩)
 refine Jv 1 ?_;have⟨ap,s⟩:=Vq s;refine A.q [0,1] [] [.n,.b 0 1,.n,.b 0 3,.n,.n,.b 1 0,.n,.n] [Z.R64 (p.2.1+p.2.2.2.1)] [(18,.bool (decide (p.2.1+p.2.2.2.1≠k.1)))] ap (Jw 1 ?_);refine Vr s ?_ ?_<;>intro hb s
 ·refine Jv 1 ?_;refine J0 1 [(27,.agg #[A.i 0,A.i 0,A.i 0,A.i 0,A.i 0,A.i 0,A.i 0,A.i 0])] ?_;refine Vu 2 [] A.zz8 ?_;refine J0 1 [(5,A.i 11)] (Jw 1 ?_);obtain rfl:=J7 s;exact Vv [] (.tuple #[.agg #[A.i 0,A.i 0,A.i 0,A.i 0,A.i 0,A.i 0,A.i 0,A.i 0],A.i 11]) (fun a w hf hh=>V8 rfl (Uf hf rfl Tryz.isAgg45 Tryz.sizeOf45 (Vt hh 2) rfl) (Vz hf rfl)) (⟨rfl,rfl,J5,J5,J5,J5,J5,J5,J5,J5,(Vd .i64 (11) rfl)⟩)
 refine Jv 4 ?_;refine Jz [1] [] [.b 0 0] [(28,(A.raf k))] ?_;refine J6 83 (cs:=l3a) Tryz.zeroValue45 fun N=>?_;refine Vu 83 [] (A.rab k) ?_;refine Vb 2 ?_;refine Jz [0] [] [.n,.b 0 0,.n] [(30,A.i p.1),(31,.pointer (some ⟨N,0,none⟩))] ?_;refine Un 83 [] (new:=[A.i p.1]) (cs':=[A.i p.1,A.i k.2.1,A.i k.2.2.1,A.i k.2.2.2.1,A.i k.2.2.2.2.1,A.i k.2.2.2.2.2.1,A.i k.2.2.2.2.2.2.1,A.i k.2.2.2.2.2.2.2]) ?_;refine Jw 1 ?_;refine J4 [4,6] [2] (fun nl nh=>∃(y7:Int),∃(O:Int),∃(a2:Int),∃(a3:Int),∃(a4:Int),∃(a5:Int),∃(a6:Int),nl=[]∧nh=[(83,.blk N 45 [A.i p.1,A.i y7,A.i O,A.i a2,A.i a3,A.i a4,A.i a5,A.i a6])]∧A.h6 y7∧A.h6 O∧A.h6 a2∧A.h6 a3∧A.h6 a4∧A.h6 a5∧A.h6 a6∧F.bn p y7 O a2 a3 a4 a5 a6=some r) ?_ ?_
 ·refine Jv 2 ?_;refine Jz [1,0] [] [.n,.b 0 1,.n,.b 1 1,.n,.n] [(32,.bool (decide (k.2.1=p.2.1)))] (Jw 1 ?_);refine Vr s ?_ ?_<;>intro hb s
  ·refine Jv 0 ?_;have⟨ak,s⟩:=Vq s;refine A.q [83,0] [] [.n,.b 0 2,.n,.b 1 2,.n,.n] [Z.R64 (k.2.2.1+p.2.2.1)] [(42,A.i (k.2.2.1+p.2.2.1)),(43,.pointer (some ⟨N,2,none⟩))] ak ?_;refine Un 83 [] (new:=[A.i (k.2.2.1+p.2.2.1)]) (cs':=[A.i p.1,A.i k.2.1,A.i (k.2.2.1+p.2.2.1),A.i k.2.2.2.1,A.i k.2.2.2.2.1,A.i k.2.2.2.2.2.1,A.i k.2.2.2.2.2.2.1,A.i k.2.2.2.2.2.2.2]) ?_;refine Ug 1 ?_;exact Vi ⟨k.2.1,(k.2.2.1+p.2.2.1),k.2.2.2.1,k.2.2.2.2.1,k.2.2.2.2.2.1,k.2.2.2.2.2.2.1,k.2.2.2.2.2.2.2,rfl,rfl,ab,(J2 ak),ac,U,V,W,Y,s⟩
  refine Jv 1 ?_;refine Jz [1,0] [] [.n,.b 0 1,.n,.b 1 1,.n,.n] [(44,.bool (decide (p.2.1<k.2.1)))] (Jw 1 ?_);refine Vr s ?_ ?_<;>intro hb s
  ·refine Jv 1 ?_;have⟨aq,s⟩:=Vq s;refine A.q [1,0] [] [.n,.b 0 1,.n,.b 1 1,.n,.n] [Z.R64 (k.2.1-p.2.1)] [(7,A.i (k.2.1-p.2.1))] aq (Vb 2 ?_);have⟨al,s⟩:=Vq s;refine A.q [0,1] [] [.n,.b 0 0,.n,.b 0 1,.n,.b 0 2,.n,.n,.b 1 3,.n,.n] [Z.R64 ((k.2.1-p.2.1)+k.2.2.2.1)] [(65,.agg #[A.i p.1,A.i p.2.1,A.i p.2.2.1,A.i ((k.2.1-p.2.1)+k.2.2.2.1),A.i 0,A.i 0,A.i 0,A.i 0])] al ?_;refine Vu 83 [] [A.i p.1,A.i p.2.1,A.i p.2.2.1,A.i ((k.2.1-p.2.1)+k.2.2.2.1),A.i 0,A.i 0,A.i 0,A.i 0] ?_;refine Jw 2 ?_;refine Vl mixed 6 7 (A.mb 7 0) ?_;refine Vh J3 [] l3e [] [] (A.mb 7 27) 3 [(0,.n),(1,.n),(3,.n),(4,.n)] [(66,.pointer (some ⟨N,4,none⟩)),(67,A.i (k.2.1-p.2.1)),(69,.pointer (some ⟨g1,4,none⟩)),(70,A.i (k.2.1-p.2.1))] ?_;have⟨ar,s⟩:=Vq s;refine Vf J3 l3e l3e 2 (A.mb 7 31) rfl (fun a w hf hh=>Z.r_sliceA_h (v:=(k.2.1-p.2.1).toNat) Tryz.underlying43 Tryz.sizeOf2 (hf.eval rfl) (hf.eval rfl) (Ww ar.1).symm (by omega)) ?_;have⟨au,s⟩:=Vq s;refine Vf J3 l3e l3e 5 (A.mb 7 63) rfl (fun a w hf hh=>Z.r_sliceA_h (v:=(k.2.1-p.2.1).toNat) Tryz.underlying43 Tryz.sizeOf2 (hf.eval rfl) (hf.eval rfl) (Ww au.1).symm (by omega)) ?_;refine J8 6 ?_;have⟨aa,J,s⟩:=Vx s;refine A.AL.cpB 83 0 [] (o:=4) (o2:=4) (cs':=[A.i p.1,A.i p.2.1,A.i p.2.2.1,A.i ((k.2.1-p.2.1)+k.2.2.2.1),A.i aa.1,A.i aa.2.1,A.i aa.2.2.1,A.i aa.2.2.2]) J ?_ inf2.sz (fun _=>rfl) rfl rfl
   refine Ut (A.mb 7 127) ?_;refine J9 ?_;refine Uy 2 ?_;refine Vl mixed 7 8 (A.mb 8 0) ?_;refine Vh J3 [] l3e [1] [] (A.mb 8 59) 3 [(0,.n),(1,.n),(3,.n),(4,.n),(5,.b 0 3)] [(73,.pointer (some ⟨N,4,none⟩)),(74,A.i (k.2.1-p.2.1)),(76,.pointer (some ⟨g2,4,none⟩)),(78,A.i k.2.2.2.1)] ?_;have⟨av,s⟩:=Vq s;refine Vf J3 l3e l3e 2 (A.mb 8 63) rfl (fun a w hf hh=>Z.r_sliceA_l (u:=(k.2.1-p.2.1).toNat) Tryz.underlying43 Tryz.sizeOf2 (hf.eval rfl) (hf.eval rfl) (Ww av.1).symm (by omega)) ?_;have⟨aw,s⟩:=Vq s;refine Vf J3 l3e l3e 6 (A.mb 8 127) rfl (fun a w hf hh=>Z.r_sliceA_h (v:=k.2.2.2.1.toNat) Tryz.underlying43 Tryz.sizeOf2 (hf.eval rfl) (hf.eval rfl) (Ww aw.1).symm (by omega)) ?_;refine J8 7 ?_;have⟨x,a7,s⟩:=Vx s;refine A.AL.cpB 83 1 [] (o:=4) (o2:=4) (cs':=[A.i p.1,A.i p.2.1,A.i p.2.2.1,A.i ((k.2.1-p.2.1)+k.2.2.2.1),A.i x.1,A.i x.2.1,A.i x.2.2.1,A.i x.2.2.2]) a7 ?_ inf2.sz A.cutA4 rfl rfl
   refine Ut (A.mb 8 255) ?_;refine J9 ?_;refine Uy 2 ?_;refine Vl mixed 10 11 (A.mb 11 0) ?_;have⟨ax,s⟩:=Vq s;refine Us J3 [] l3e [1] [] (A.mb 11 359) 5 [(0,.n),(2,.n),(5,.n),(8,.n),(1,.n),(6,.b 0 2)] [83,89,82,87] [Z.R64 ((k.2.1-p.2.1)-1)] [(83,.pointer (some ⟨N,4,none⟩)),(89,.pointer (some ⟨N,4,none⟩)),(82,A.i ((k.2.1-p.2.1)-1)),(87,A.i k.2.2.1)] ax ?_;have⟨L,ad,s⟩:=Vx s;refine A.pkb 83 84 (fun v:Int=>A.i v) [x.1,x.2.1,x.2.2.1,x.2.2.2] 4 ad ?_;refine Vf J3 l3e l3k 3 (A.mb 11 367) rfl (fun a w hf hh=>V0 Tryz.underlying43 Tryz.sizeOf2 (hf.eval rfl) (hf.eval rfl) (Uq ad).1 (Uq ad).2) ?_;have⟨a8,s⟩:=Vq s;refine Us J3 l3k l3k [] [84] (A.mb 11 511) 2 [(4,.e 0 0),(7,.n)] [88] [Z.R64 (L+k.2.2.1)] [(88,A.i (L+k.2.2.1))] a8 ?_;have⟨b9,a9,s⟩:=Vx s;refine A.pkb 83 85 (fun v:Int=>A.i v) [x.1,x.2.1,x.2.2.1,x.2.2.2] 4 a9 ?_;refine Vf J3 l3k [0,1,2,83,84,85] 9 (A.mb 11 1023) rfl (fun a w hf hh=>V0 Tryz.underlying43 Tryz.sizeOf2 (hf.eval rfl) (hf.eval rfl) (Uq a9).1 (Uq a9).2) ?_;refine J8 10 ?_;refine A.AL.stb 83 [84,85] a9 (A.arr4 (Q:=fun i=>[A.i p.1,A.i p.2.1,A.i p.2.2.1,A.i ((k.2.1-p.2.1)+k.2.2.2.1),A.i (if i=0 then L+k.2.2.1 else x.1),A.i (if i=1 then L+k.2.2.1 else x.2.1),A.i (if i=2 then L+k.2.2.1 else x.2.2.1),A.i (if i=3 then L+k.2.2.1 else x.2.2.2)]=List.set [A.i p.1,A.i p.2.1,A.i p.2.2.1,A.i ((k.2.1-p.2.1)+k.2.2.2.1),A.i x.1,A.i x.2.1,A.i x.2.2.1,A.i x.2.2.2] (4+i.toNat*1) (A.i (L+k.2.2.1))) a9 rfl rfl rfl rfl) ?_;refine Ut (A.mb 11 2047) ?_;refine J9 ?_;refine A.el 2 ?_;have⟨ay,s⟩:=Vq s;refine Ub 3 [Z.R64 ((k.2.1-p.2.1)-1)] [(92,A.i ((k.2.1-p.2.1)-1)),(93,.pointer (some ⟨N,4,none⟩))] ay ?_;have⟨az,b0,s⟩:=Vx s;refine A.AL.ixb 83 86 (fun v:Int=>A.i v) [(if(k.2.1-p.2.1)-1=0 then L+k.2.2.1 else x.1),(if(k.2.1-p.2.1)-1=1 then L+k.2.2.1 else x.2.1),(if(k.2.1-p.2.1)-1=2 then L+k.2.2.1 else x.2.2.1),(if(k.2.1-p.2.1)-1=3 then L+k.2.2.1 else x.2.2.2)] b0 ?_;refine Jz [] [86] [.e 0 0,.n] [(96,.bool (decide ((1048576:Int)<az)))] (Jw 1 ?_);refine Vr s ?_ ?_<;>intro hb s
   ·refine Jv 1 ?_;refine J0 1 [(97,.agg #[A.i 0,A.i 0,A.i 0,A.i 0,A.i 0,A.i 0,A.i 0,A.i 0])] ?_;refine Vu 2 [] A.zz8 ?_;refine J0 1 [(5,A.i 12)] (Jw 1 ?_);obtain rfl:=J7 s;exact Vv [] (.tuple #[.agg #[A.i 0,A.i 0,A.i 0,A.i 0,A.i 0,A.i 0,A.i 0,A.i 0],A.i 12]) (fun a w hf hh=>V8 rfl (Uf hf rfl Tryz.isAgg45 Tryz.sizeOf45 (Vt hh 2) rfl) (Vz hf rfl)) (⟨rfl,rfl,J5,J5,J5,J5,J5,J5,J5,J5,(Vd .i64 (12) rfl)⟩)
   refine Vy 2 ?_;exact Vi ⟨p.2.1,p.2.2.1,((k.2.1-p.2.1)+k.2.2.2.1),(if(k.2.1-p.2.1)-1=0 then L+k.2.2.1 else x.1),(if(k.2.1-p.2.1)-1=1 then L+k.2.2.1 else x.2.1),(if(k.2.1-p.2.1)-1=2 then L+k.2.2.1 else x.2.2.1),(if(k.2.1-p.2.1)-1=3 then L+k.2.2.1 else x.2.2.2),rfl,rfl,ag,ah,(J2 al),(A.ite_has (J2 a8) (A.cp4_has a7 (Qb.2 ⟨(A.cp4_has J (Qb.2 ⟨J5,(Qb.2 ⟨J5,(Qb.2 ⟨J5,(Qb.2 ⟨J5,(by simp)⟩)⟩)⟩)⟩) (Qb.2 ⟨y,(Qb.2 ⟨z,(Qb.2 ⟨B,(Qb.2 ⟨E,(by simp)⟩)⟩)⟩)⟩)).1,(Qb.2 ⟨(A.cp4_has J (Qb.2 ⟨J5,(Qb.2 ⟨J5,(Qb.2 ⟨J5,(Qb.2 ⟨J5,(by simp)⟩)⟩)⟩)⟩) (Qb.2 ⟨y,(Qb.2 ⟨z,(Qb.2 ⟨B,(Qb.2 ⟨E,(by simp)⟩)⟩)⟩)⟩)).2.1,(Qb.2 ⟨(A.cp4_has J (Qb.2 ⟨J5,(Qb.2 ⟨J5,(Qb.2 ⟨J5,(Qb.2 ⟨J5,(by simp)⟩)⟩)⟩)⟩) (Qb.2 ⟨y,(Qb.2 ⟨z,(Qb.2 ⟨B,(Qb.2 ⟨E,(by simp)⟩)⟩)⟩)⟩)).2.2.1,(Qb.2 ⟨(A.cp4_has J (Qb.2 ⟨J5,(Qb.2 ⟨J5,(Qb.2 ⟨J5,(Qb.2 ⟨J5,(by simp)⟩)⟩)⟩)⟩) (Qb.2 ⟨y,(Qb.2 ⟨z,(Qb.2 ⟨B,(Qb.2 ⟨E,(by simp)⟩)⟩)⟩)⟩)).2.2.2,(by simp)⟩)⟩)⟩)⟩) (Qb.2 ⟨U,(Qb.2 ⟨V,(Qb.2 ⟨W,(Qb.2 ⟨Y,(by simp)⟩)⟩)⟩)⟩)).1),(A.ite_has (J2 a8) (A.cp4_has a7 (Qb.2 ⟨(A.cp4_has J (Qb.2 ⟨J5,(Qb.2 ⟨J5,(Qb.2 ⟨J5,(Qb.2 ⟨J5,(by simp)⟩)⟩)⟩)⟩) (Qb.2 ⟨y,(Qb.2 ⟨z,(Qb.2 ⟨B,(Qb.2 ⟨E,(by simp)⟩)⟩)⟩)⟩)).1,(Qb.2 ⟨(A.cp4_has J (Qb.2 ⟨J5,(Qb.2 ⟨J5,(Qb.2 ⟨J5,(Qb.2 ⟨J5,(by simp)⟩)⟩)⟩)⟩) (Qb.2 ⟨y,(Qb.2 ⟨z,(Qb.2 ⟨B,(Qb.2 ⟨E,(by simp)⟩)⟩)⟩)⟩)).2.1,(Qb.2 ⟨(A.cp4_has J (Qb.2 ⟨J5,(Qb.2 ⟨J5,(Qb.2 ⟨J5,(Qb.2 ⟨J5,(by simp)⟩)⟩)⟩)⟩) (Qb.2 ⟨y,(Qb.2 ⟨z,(Qb.2 ⟨B,(Qb.2 ⟨E,(by simp)⟩)⟩)⟩)⟩)).2.2.1,(Qb.2 ⟨(A.cp4_has J (Qb.2 ⟨J5,(Qb.2 ⟨J5,(Qb.2 ⟨J5,(Qb.2 ⟨J5,(by simp)⟩)⟩)⟩)⟩) (Qb.2 ⟨y,(Qb.2 ⟨z,(Qb.2 ⟨B,(Qb.2 ⟨E,(by simp)⟩)⟩)⟩)⟩)).2.2.2,(by simp)⟩)⟩)⟩)⟩) (Qb.2 ⟨U,(Qb.2 ⟨V,(Qb.2 ⟨W,(Qb.2 ⟨Y,(by simp)⟩)⟩)⟩)⟩)).2.1),(A.ite_has (J2 a8) (A.cp4_has a7 (Qb.2 ⟨(A.cp4_has J (Qb.2 ⟨J5,(Qb.2 ⟨J5,(Qb.2 ⟨J5,(Qb.2 ⟨J5,(by simp)⟩)⟩)⟩)⟩) (Qb.2 ⟨y,(Qb.2 ⟨z,(Qb.2 ⟨B,(Qb.2 ⟨E,(by simp)⟩)⟩)⟩)⟩)).1,(Qb.2 ⟨(A.cp4_has J (Qb.2 ⟨J5,(Qb.2 ⟨J5,(Qb.2 ⟨J5,(Qb.2 ⟨J5,(by simp)⟩)⟩)⟩)⟩) (Qb.2 ⟨y,(Qb.2 ⟨z,(Qb.2 ⟨B,(Qb.2 ⟨E,(by simp)⟩)⟩)⟩)⟩)).2.1,(Qb.2 ⟨(A.cp4_has J (Qb.2 ⟨J5,(Qb.2 ⟨J5,(Qb.2 ⟨J5,(Qb.2 ⟨J5,(by simp)⟩)⟩)⟩)⟩) (Qb.2 ⟨y,(Qb.2 ⟨z,(Qb.2 ⟨B,(Qb.2 ⟨E,(by simp)⟩)⟩)⟩)⟩)).2.2.1,(Qb.2 ⟨(A.cp4_has J (Qb.2 ⟨J5,(Qb.2 ⟨J5,(Qb.2 ⟨J5,(Qb.2 ⟨J5,(by simp)⟩)⟩)⟩)⟩) (Qb.2 ⟨y,(Qb.2 ⟨z,(Qb.2 ⟨B,(Qb.2 ⟨E,(by simp)⟩)⟩)⟩)⟩)).2.2.2,(by simp)⟩)⟩)⟩)⟩) (Qb.2 ⟨U,(Qb.2 ⟨V,(Qb.2 ⟨W,(Qb.2 ⟨Y,(by simp)⟩)⟩)⟩)⟩)).2.2.1),(A.ite_has (J2 a8) (A.cp4_has a7 (Qb.2 ⟨(A.cp4_has J (Qb.2 ⟨J5,(Qb.2 ⟨J5,(Qb.2 ⟨J5,(Qb.2 ⟨J5,(by simp)⟩)⟩)⟩)⟩) (Qb.2 ⟨y,(Qb.2 ⟨z,(Qb.2 ⟨B,(Qb.2 ⟨E,(by simp)⟩)⟩)⟩)⟩)).1,(Qb.2 ⟨(A.cp4_has J (Qb.2 ⟨J5,(Qb.2 ⟨J5,(Qb.2 ⟨J5,(Qb.2 ⟨J5,(by simp)⟩)⟩)⟩)⟩) (Qb.2 ⟨y,(Qb.2 ⟨z,(Qb.2 ⟨B,(Qb.2 ⟨E,(by simp)⟩)⟩)⟩)⟩)).2.1,(Qb.2 ⟨(A.cp4_has J (Qb.2 ⟨J5,(Qb.2 ⟨J5,(Qb.2 ⟨J5,(Qb.2 ⟨J5,(by simp)⟩)⟩)⟩)⟩) (Qb.2 ⟨y,(Qb.2 ⟨z,(Qb.2 ⟨B,(Qb.2 ⟨E,(by simp)⟩)⟩)⟩)⟩)).2.2.1,(Qb.2 ⟨(A.cp4_has J (Qb.2 ⟨J5,(Qb.2 ⟨J5,(Qb.2 ⟨J5,(Qb.2 ⟨J5,(by simp)⟩)⟩)⟩)⟩) (Qb.2 ⟨y,(Qb.2 ⟨z,(Qb.2 ⟨B,(Qb.2 ⟨E,(by simp)⟩)⟩)⟩)⟩)).2.2.2,(by simp)⟩)⟩)⟩)⟩) (Qb.2 ⟨U,(Qb.2 ⟨V,(Qb.2 ⟨W,(Qb.2 ⟨Y,(by simp)⟩)⟩)⟩)⟩)).2.2.2),s⟩
  refine Vy 2 ?_;exact Vi ⟨k.2.1,k.2.2.1,k.2.2.2.1,k.2.2.2.2.1,k.2.2.2.2.2.1,k.2.2.2.2.2.2.1,k.2.2.2.2.2.2.2,rfl,rfl,ab,ai,ac,U,V,W,Y,s⟩
 rintro _ _ ⟨y7,O,a2,a3,a4,a5,a6,rfl,rfl,b1,b2,b3,b4,b5,b6,b7,s⟩;rw[F.bn]at s;refine Jv 2 ?_;refine Jz [83] [] [.n,.b 0 2,.n] [(100,.bool (decide ((1048576:Int)<O)))] (Jw 1 ?_);refine Vr s ?_ ?_<;>intro hb s
 ·refine Jv 1 ?_;refine J0 1 [(101,.agg #[A.i 0,A.i 0,A.i 0,A.i 0,A.i 0,A.i 0,A.i 0,A.i 0])] ?_;refine Vu 2 [] A.zz8 ?_;refine J0 1 [(5,A.i 12)] (Jw 1 ?_);obtain rfl:=J7 s;exact Vv [] (.tuple #[.agg #[A.i 0,A.i 0,A.i 0,A.i 0,A.i 0,A.i 0,A.i 0,A.i 0],A.i 12]) (fun a w hf hh=>V8 rfl (Uf hf rfl Tryz.isAgg45 Tryz.sizeOf45 (Vt hh 2) rfl) (Vz hf rfl)) (⟨rfl,rfl,J5,J5,J5,J5,J5,J5,J5,J5,(Vd .i64 (12) rfl)⟩)
 refine Jv 3 ?_;refine Jz [83] [] [.b 0 0] [(102,.agg #[A.i p.1,A.i y7,A.i O,A.i a2,A.i a3,A.i a4,A.i a5,A.i a6])] ?_;refine Vu 2 [] [A.i p.1,A.i y7,A.i O,A.i a2,A.i a3,A.i a4,A.i a5,A.i a6] ?_;refine J0 1 [(5,A.i 0)] (Jw 1 ?_);obtain rfl:=J7 s;exact Vv [] (.tuple #[.agg #[A.i p.1,A.i y7,A.i O,A.i a2,A.i a3,A.i a4,A.i a5,A.i a6],A.i 0]) (fun a w hf hh=>V8 rfl (Uf hf rfl Tryz.isAgg45 Tryz.sizeOf45 (Vt hh 2) rfl) (Vz hf rfl)) (⟨rfl,rfl,ae,b1,b2,b3,b4,b5,b6,b7,J5⟩)
end Go.Proofs.YtlbnpmfggfbdoaaGreatDoor
end
