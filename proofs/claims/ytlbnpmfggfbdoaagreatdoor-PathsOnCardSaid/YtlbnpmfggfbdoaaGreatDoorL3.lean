/- Functions on data, what they tell, and that the code computes them. -/
import Derived.Test.YtlbnpmfggfbdoaaGreatDoorL0
import Derived.Test.YtlbnpmfggfbdoaaGreatDoorL1
import Derived.Test.YtlbnpmfggfbdoaaGreatDoorL2
import Derived.Laws.IdiomStrings
import Derived.Laws.Cover4
set_option linter.unusedVariables false
set_option linter.unusedSimpArgs false
set_option maxRecDepth 20000
set_option maxHeartbeats 8000000
set_option synthInstance.maxSize 1000000
set_option synthInstance.maxHeartbeats 400000
set_option linter.unusedSectionVars false
section
namespace Go.Proofs.YtlbnpmfggfbdoaaGreatDoor
open Go.RowKit
abbrev l3a:List Value:=A.zz8
abbrev l3b:List Nat:=[0,2376,2789,2790,2791,2792]
abbrev l3c:List Nat:=[0,2376,2789,2790,2791]
abbrev l3d:List Value:=[.bool false,A.i 0,.bool false,A.i 0,.bool false,A.i 0,.bool false,A.i 0]
abbrev l3e:List Nat:=[0,1,2,83]
abbrev l3f:List Value:=[.bool false,A.i 0]
abbrev l3g:List Nat:=[0,1,162]
abbrev l3h:List Nat:=[0,226,227]
abbrev l3i:List Nat:=[0,241,242]
abbrev l3j:List Nat:=[0,533,534]
abbrev l3k:List Nat:=[0,1,2,83,84]
abbrev l3l:List Nat:=[0,97,98]
abbrev l3m:List Nat:=[0,1]
variable(A0_ A1_ A2_ A4_ A5_ A7_ A10_ A12_ A13_:Option Addr)(b0_ g0_ b1_ c1_ c2_ g2_ c3_ b4_ b5_ c5_ b6_ c6_ c8_ g8_ g9_ g10_ c11_ c13_ c14_ g15_:Nat)
def F.cm (o:D23):Option ((List D41)×Int):=(F.bW o).bind fun k=>A.om k.1 (if k.2≠0 then(some ([],k.2))else(none)) fun p=>(if k.2≠0 then(some ([],k.2))else((F.bM p o).bind fun s=>(some (s,0))))
theorem o_a9(o:D23)(r:(List D41)×Int)(k:F.cm o=some r):
    A.Ct Tryz.prog 37 [.agg #[.slice A0_ o.length c1_]] [(0,.sh (.slice T83) [.slice A0_ o.length c1_] o),(1,.el none 0 0 A.tabF),(2,.el none 1 0 A.tabA)] [] (fun v H'=>∃(A0':Option Addr) (c1':Nat),v=.tuple #[.slice A0' r.1.length c1',A.i r.2]∧H'=[(0,.own T41 42 A0' c1' r.1)]∧A.h6 r.2):=by
 refine J1 Tryz.func37 rfl Tryz.ntmps37 rfl fun U V=>?_;rw[F.cm]at k;refine Jw 1 ?_;refine Va 3 (cs:=[.slice A0_ o.length c1_]) fun W=>?_;refine J3 2 [] (Vb 2 ?_);refine J2 [3] [] [.b 0 0] [(7,.agg #[.slice A0_ o.length c1_])] ?_;refine Vv 4 [] k (o_aE A0_ c1_ o) (.s 0 (.s 1 (.s 2 .nil))) ?_;rintro p - k _ _ (⟨hp16,rfl,rfl,hr4⟩|⟨z,hp16,u,B,E,J,L,rfl,rfl,hr11⟩)
 ·refine Vf ?_;rw[A.om_n hp16]at k
  refine J3 5 [(4,.pointer none),(5,A.i p.2)] (Vb 3 ?_);refine J3 2 [(12,.bool (decide (p.2≠0)))] (Jy 1 ?_);refine Vu k ?_ ?_<;>intro N k
  ·refine Jw 1 ?_;refine J3 3 [(2,.slice none 0 0),(3,A.i p.2)] (Jy 1 ?_);obtain rfl:=J8 k;refine Uf 44 T41 42 ?_;exact V8 [(0,44)] ⟨none,0,rfl,rfl,hr4⟩
  refine Jw 3 ?_;refine J2 [3] [] [.n,.b 0 0] [(14,.pointer none),(15,.agg #[.slice A0_ o.length c1_])] ?_;exact Vm k
 refine Vf ?_;rw[A.om_s hp16]at k
 refine J3 5 [(4,.pointer (some ⟨u,0,none⟩)),(5,A.i p.2)] (Vb 3 ?_);refine J3 2 [(12,.bool (decide (p.2≠0)))] (Jy 1 ?_);refine Vu k ?_ ?_<;>intro N k
 ·refine Jw 1 ?_;refine J3 3 [(2,.slice none 0 0),(3,A.i p.2)] (Jy 1 ?_);obtain rfl:=J8 k;refine Uf 45 T41 42 ?_;exact V8 [(0,45)] ⟨none,0,rfl,rfl,hr11⟩
 refine Jw 3 ?_;refine J2 [3] [] [.n,.b 0 0] [(14,.pointer (some ⟨u,0,none⟩)),(15,.agg #[.slice A0_ o.length c1_])] ?_;refine Vv 46 [] k (o_an E A0_ u B J L c1_ z o) (.m 4 (.m 5 (.m 6 (.m 7 (.s 0 .nil))))) ?_;rintro O - k _ _ ⟨x,y,rfl,rfl⟩;refine Vf ?_;refine V9 47 4 [] ?_;refine V9 48 5 [] ?_;refine V9 49 6 [] ?_;refine V9 50 7 [] ?_;refine J3 2 [(2,.slice x O.length y),(3,A.i 0)] (Jy 1 ?_);obtain rfl:=J8 k;exact V8 [(0,46)] ⟨x,y,rfl,rfl,J0⟩
def F.ds (k:Int):Option Bool:=some (decide (k≠k))
theorem o_aA (k:Int)(p:A.h6 k)(r:Bool)(o:F.ds k=some r):
    A.Ct Tryz.prog 122 [A.i k] [] [] (fun v H'=>v=.bool r∧H'=[]):=by
 refine J1 Tryz.func122 rfl Tryz.ntmps122 rfl fun s u=>?_;rw[F.ds]at o;refine Jw 1 ?_;refine J3 1 [] (Vb 2 ?_);refine J3 4 [(2,.bool (decide (k≠k)))] (Jy 1 ?_);obtain rfl:=J8 o;exact J9 [] ⟨rfl,rfl⟩
def F.aX (k:Int)(o:Int):Option Int:=(F.ds k).bind fun s=>((F.ds o).bind fun p=>(if s=true then(if p=true then(some 0)else(some (-1)))else(if p=true then(some 1)else(if k<o then(some (-1))else(if o<k then(some 1)else(some 0))))))
theorem o_f (o:Int)(p:Int)(y:A.h6 o)(z:A.h6 p)(r:Int)(k:F.aX o p=some r):
    A.Ct Tryz.prog 80 [A.i o,A.i p] [] [] (fun v H'=>v=A.i r∧H'=[]∧A.h6 r):=by
 refine J1 Tryz.func80 rfl Tryz.ntmps80 rfl fun B E=>?_;rw[F.aX]at k;refine Jw 1 ?_;refine J3 1 [] (Vb 2 ?_);refine J3 1 [(7,A.i o)] ?_;refine Vv 0 [] k (o_aA o y) .nil ?_;rintro x - k _ _ ⟨rfl,rfl⟩;refine Vf ?_;refine J3 1 [(5,.bool x)] (Vb 2 ?_);refine J3 1 [(9,A.i p)] ?_;refine Vv 40 [] k (o_aA p z) .nil ?_;rintro u - k _ _ ⟨rfl,rfl⟩;refine Vf ?_;refine J3 1 [(6,.bool u)] (Vb 3 ?_);refine J3 1 [(11,.bool x)] (Jy 1 ?_);refine Ue k ?_ ?_<;>intro s k
 ·refine Jw 2 ?_;refine J3 1 [(12,.bool u)] (Jy 1 ?_);refine Ue k ?_ ?_<;>intro s k
  ·refine Jw 1 ?_;refine J3 1 [(4,A.i 0)] (Jy 1 ?_);obtain rfl:=J8 k;exact J9 [] ⟨rfl,rfl,J0⟩
  refine Jw 3 ?_;refine J3 1 [(4,A.i (-1))] (Jy 1 ?_);obtain rfl:=J8 k;exact J9 [] ⟨rfl,rfl,(Vd .i64 (-1) rfl)⟩
 refine Jw 4 ?_;refine J3 1 [(13,.bool u)] (Jy 1 ?_);refine Ue k ?_ ?_<;>intro s k
 ·refine Jw 1 ?_;refine J3 1 [(4,A.i 1)] (Jy 1 ?_);obtain rfl:=J8 k;exact J9 [] ⟨rfl,rfl,(Vd .i64 (1) rfl)⟩
 refine Jw 4 ?_;refine J3 3 [(16,.bool (decide (o<p)))] (Jy 1 ?_);refine Vu k ?_ ?_<;>intro s k
 ·refine Jw 1 ?_;refine J3 1 [(4,A.i (-1))] (Jy 1 ?_);obtain rfl:=J8 k;exact J9 [] ⟨rfl,rfl,(Vd .i64 (-1) rfl)⟩
 refine Jw 4 ?_;refine J3 3 [(19,.bool (decide (p<o)))] (Jy 1 ?_);refine Vu k ?_ ?_<;>intro s k
 ·refine Jw 1 ?_;refine J3 1 [(4,A.i 1)] (Jy 1 ?_);obtain rfl:=J8 k;exact J9 [] ⟨rfl,rfl,(Vd .i64 (1) rfl)⟩
 refine Jw 3 ?_;refine J3 1 [(4,A.i 0)] (Jy 1 ?_);obtain rfl:=J8 k;exact J9 [] ⟨rfl,rfl,J0⟩
def F.cA (o:(List Int)):Nat→Int→Option Int
 |0,_=>none
 |f+1,k=>if k<(o.length:Int)then((A.ix o k).bind fun p=>(if p≠0 then(some p)else(A.gd (Z.R64 (k+1)) ((F.cA o f) (k+1)))))else(some 0)
def F.cY (k:(List Int)):Option Int:=F.cA k A.FU 0
theorem o_z(p:(List Int))(r:Int)(k:F.cY p=some r):
    A.Ct Tryz.prog 44 [.slice A0_ p.length c1_] [(0,.ln A.ti A0_ c1_ p)] [] (fun v H'=>v=A.i r∧H'=[]∧A.h6 r):=by
 refine J1 Tryz.func44 rfl Tryz.ntmps44 rfl fun L N=>?_;rw[F.cY]at k;refine Jw 1 ?_;refine J3 1 [] (Vb 2 ?_);refine J3 1 [(3,A.i 0)] (Vb 3 ?_);refine J3 3 [(6,.slice A0_ p.length c1_),(7,A.i (p.length:Int)),(8,A.i 0)] (Jy 2 ?_);refine Vo [3,6,7] [0] (fun f y z=>∃(o:Int),y=[(8,A.i o)]∧z=[]∧A.h6 o∧F.cA p f o=some r) ⟨0,rfl,rfl,J0,k⟩ ?_;rintro u _ _ ⟨o,rfl,rfl,O,k⟩;rcases u with _|u
 ·exact Vm k
 rw[F.cA]at k;refine Jw 1 ?_;refine J3 1 [(9,.bool (decide (o<(p.length:Int))))] (Jy 2 ?_);refine Vu k ?_ ?_<;>intro B k
 ·refine Jw 5 ?_;have⟨s,E,k⟩:=Vy k;refine Ud 0 3 E fun J=>?_;intro U V;refine J2 [] [3] [.e 0 0,.n] [(5,A.i s)] (Vb 2 ?_);refine J3 3 [(14,.bool (decide (s≠0)))] (Jy 1 ?_);refine Vu k ?_ ?_<;>intro B k
  ·refine Jw 1 ?_;refine J3 2 [(2,A.i s)] (Jy 1 ?_);obtain rfl:=J8 k;exact J9 [] ⟨rfl,rfl,J⟩
  refine Jw 3 ?_;have⟨x,k⟩:=Vt k;refine Uc 2 [Z.R64 (o+1)] [(8,A.i (o+1))] x (Jz ?_);exact Vk ⟨_,Qi _,⟨(o+1),rfl,rfl,(J4 x),k⟩⟩
 refine Jw 3 ?_;refine J3 2 [(2,A.i 0)] (Jy 1 ?_);obtain rfl:=J8 k;exact J9 [] ⟨rfl,rfl,J0⟩
def F.dA (k:D39)(o:D39):Option Int:=(F.aX k.1 o.1).bind fun p=>((F.aX k.2 o.2).bind fun s=>((F.cY [p,s]).bind fun u=>(some u)))
theorem o_aF (k:D39)(p:D39)(y:A.h6 k.1)(z:A.h6 k.2)(B:A.h6 p.1)(E:A.h6 p.2)(r:Int)(s:F.dA k p=some r):
    A.Ct Tryz.prog 73 [(A.raf k),(A.raf p)] [] [] (fun v H'=>v=A.i r∧H'=[]∧A.h6 r):=by
 refine J1 Tryz.func73 rfl Tryz.ntmps73 rfl fun N O=>?_;rw[F.dA]at s;refine Jw 1 ?_;refine Va 0 (cs:=(A.raa k)) fun U=>?_;refine Va 1 (cs:=(A.raa p)) fun V=>?_;refine J3 1 [] (Jy 2 ?_);refine Vl mixed 13 13 (A.mb 13 0) ?_;refine Vj J6 [] l3m [0,1] [] (A.mb 13 495) 5 [(0,.n),(2,.n),(5,.n),(7,.n),(1,.b 0 0),(3,.b 1 0),(6,.b 0 1),(8,.b 1 1)] [(6,A.i k.1),(8,A.i p.1),(11,A.i k.2),(13,A.i p.2)] ?_;refine Vc 4 ?_;refine Vv 2 [] s (o_f k.1 p.1 y B) .nil ?_;rintro u - s _ _ ⟨rfl,rfl,hr5⟩;refine Vf ?_;refine Vg (A.mb 13 511) l3m ?_;refine Vc 9 ?_;refine Vv 42 [] s (o_f k.2 p.2 z E) .nil ?_;rintro x - s _ _ ⟨rfl,rfl,hr8⟩;refine Vf ?_;refine Vg (A.mb 13 1023) l3m ?_;refine Vc 10 ?_;refine Vx 82 (ty:=A.ti) (cs:=[A.i u,A.i x]) [u,x] ⟨⟨rfl,hr5⟩,⟨⟨rfl,hr8⟩,rfl⟩⟩ (fun J=>?_) Tryz.zeroValue3 Tryz.sizeOf3
 refine Vg (A.mb 13 2047) l3m ?_;refine Vc 11 ?_;refine Vv 83 [] s (o_z (some ⟨J,0,none⟩) 2 [u,x]) (.o 82 .nil) ?_;rintro L - s _ _ ⟨rfl,rfl,hr12⟩;refine Vf ?_;refine Vg (A.mb 13 4095) l3m ?_;refine Vj J6 l3m [0,1,82] [] [] (A.mb 13 8191) 0 [(12,.n)] [(4,A.i L)] (Ve ?_);refine U2 1 ?_;obtain rfl:=J8 s;exact J9 [] ⟨rfl,rfl,hr12⟩
def F.bH (k:D53)(o:D53):Option Int:=(F.dA k.1 o.1).bind fun p=>((F.dA k.2.1 o.2.1).bind fun s=>((F.cY [p,s]).bind fun u=>(some u)))
theorem o_x (k:D53)(p:D53)(y:A.h6 k.1.1)(z:A.h6 k.1.2)(B:A.h6 k.2.1.1)(E:A.h6 k.2.1.2)(W:A.h6 k.2.2.1)(Y:A.h6 k.2.2.2.1)(a2:A.h6 k.2.2.2.2.1)(a3:A.h6 k.2.2.2.2.2.1)(a4:A.h6 k.2.2.2.2.2.2.1)(a5:A.h6 k.2.2.2.2.2.2.2.1)(a6:A.h6 k.2.2.2.2.2.2.2.2.1)(a7:A.h6 k.2.2.2.2.2.2.2.2.2)(J:A.h6 p.1.1)(L:A.h6 p.1.2)(N:A.h6 p.2.1.1)(O:A.h6 p.2.1.2)(a8:A.h6 p.2.2.1)(a9:A.h6 p.2.2.2.1)(aa:A.h6 p.2.2.2.2.1)(ab:A.h6 p.2.2.2.2.2.1)(ac:A.h6 p.2.2.2.2.2.2.1)(ad:A.h6 p.2.2.2.2.2.2.2.1)(ae:A.h6 p.2.2.2.2.2.2.2.2.1)(ag:A.h6 p.2.2.2.2.2.2.2.2.2)(r:Int)(s:F.bH k p=some r):
    A.Ct Tryz.prog 72 [(A.ral k),(A.ral p)] [] [] (fun v H'=>v=A.i r∧H'=[]∧A.h6 r):=by
 refine J1 Tryz.func72 rfl Tryz.ntmps72 rfl fun w0 F0=>?_;rw[F.bH]at s;refine Jw 1 ?_;refine Va 0 (cs:=(A.rae k)) fun g1=>?_;refine Va 1 (cs:=(A.rae p)) fun g2=>?_;refine J3 1 [] (Jy 2 ?_);refine Vl mixed 13 13 (A.mb 13 0) ?_;refine Vj J6 [] l3m [0,1] [] (A.mb 13 495) 5 [(0,.n),(2,.n),(5,.n),(7,.n),(1,.b 0 0),(3,.b 1 0),(6,.b 0 2),(8,.b 1 2)] [(6,(A.raf k.1)),(8,(A.raf p.1)),(11,(A.raf k.2.1)),(13,(A.raf p.2.1))] ?_;refine Vc 4 ?_;refine Vv 2 [] s (o_aF k.1 p.1 y z J L) .nil ?_;rintro u - s _ _ ⟨rfl,rfl,hr5⟩;refine Vf ?_;refine Vg (A.mb 13 511) l3m ?_;refine Vc 9 ?_;refine Vv 42 [] s (o_aF k.2.1 p.2.1 B E N O) .nil ?_;rintro x - s _ _ ⟨rfl,rfl,hr8⟩;refine Vf ?_;refine Vg (A.mb 13 1023) l3m ?_;refine Vc 10 ?_;refine Vx 82 (ty:=A.ti) (cs:=[A.i u,A.i x]) [u,x] ⟨⟨rfl,hr5⟩,⟨⟨rfl,hr8⟩,rfl⟩⟩ (fun U=>?_) Tryz.zeroValue3 Tryz.sizeOf3
 refine Vg (A.mb 13 2047) l3m ?_;refine Vc 11 ?_;refine Vv 83 [] s (o_z (some ⟨U,0,none⟩) 2 [u,x]) (.o 82 .nil) ?_;rintro V - s _ _ ⟨rfl,rfl,hr12⟩;refine Vf ?_;refine Vg (A.mb 13 4095) l3m ?_;refine Vj J6 l3m [0,1,82] [] [] (A.mb 13 8191) 0 [(12,.n)] [(4,A.i V)] (Ve ?_);refine U2 1 ?_;obtain rfl:=J8 s;exact J9 [] ⟨rfl,rfl,hr12⟩
def F.p (s:Int→Option Unit)(o:(List D53))(k:Int)(u:Bool):Option Unit:=if u=true then(A.gd (Z.R64 (k-1)∧Z.R64 (k-1)) ((A.ix o (k-1)).bind fun x=>((A.ix o k).bind fun y=>((A.ix o k).bind fun z=>(none)))))else(A.gd (Z.R64 (k+1)) (s (k+1)))
def F.aa (s:Int→Option Unit)(o:(List D53))(u:Int)(k:Int):Nat→Option Unit
 |0=>none
 |f+1=>if u<k then(A.gd (Z.R64 (k-1)) ((A.ix o k).bind fun x=>((A.ix o (k-1)).bind fun y=>((F.bH x y).bind fun z=>(F.p s o k (decide (z<0)))))))else(F.p s o k false)
def F.g (k:(List D53))(o:Int)(p:Int):Nat→Int→Option Unit
 |0,_=>none
 |f+1,s=>if s<p then(F.aa (F.g k o p f) k o s A.FU)else(some ())
def F.r (o:(List D53))(k:Int)(p:Int):Option Unit:=A.gd (Z.R64 (k+1)) (F.g o k p A.FU (k+1))
theorem o_e(s:(List D53))(y:Int)(z:Int)(aj:A.h6 y)(ak:A.h6 z)(r:Unit)(k:F.r s y z=some r):
    A.Ct Tryz.prog 146 [.slice A0_ s.length c1_,A.i y,A.i z,.func (.func 72) #[] #[]] [(0,.ln T53 A0_ c1_ s)] [] (fun v H'=>v=.tuple #[]∧H'=[]):=by
 refine J1 Tryz.func146 rfl Tryz.ntmps146 rfl fun w0 F0=>?_;rw[F.r]at k;refine Jw 1 ?_;have⟨N,k⟩:=Vt k;refine Uc 3 [Z.R64 (y+1)] [(8,A.i (y+1))] N (Jy 2 ?_);refine Vo [0,1,2,3] [0] (fun f B E=>∃(o:Int),B=[(8,A.i o)]∧E=[]∧A.h6 o∧F.g s y z f o=some r) ⟨(y+1),rfl,rfl,(J4 N),k⟩ ?_;rintro J _ _ ⟨o,rfl,rfl,al,k⟩;rcases J with _|J
 ·exact Vm k
 rw[F.g]at k;refine Jw 2 ?_;refine J3 3 [(14,.bool (decide (o<z)))] (Jy 1 ?_);refine Vu k ?_ ?_<;>intro O k
 ·refine Jw 5 ?_;refine J3 2 [(9,A.i o)] (Jy 2 ?_);refine Vo [0,1,2,3,8,9] [0] (fun f B E=>B=[]∧E=[]∧F.aa (F.g s y z J) s y o f=some r) ⟨rfl,rfl,k⟩ ?_;rintro U _ _ ⟨rfl,rfl,k⟩;rcases U with _|U
  ·exact Vm k
  rw[F.aa]at k;refine V6 1 ?_;refine J7 [0,1,2,3,8,9] [0] (fun B E=>∃(L:Bool),B=[(34,.bool L)]∧E=[]∧F.p (F.g s y z J) s o L=some r) ?_ ?_
  ·refine Vl mixed 17 17 (A.mb 17 0) ?_;refine Vj J6 [] [0] [] [] (A.mb 17 15) 13 [(0,.n),(1,.n),(2,.n),(3,.n)] [(21,.bool (decide (y<o)))] ?_;refine Uj (j:=21) rfl k ?_ ?_<;>intro O k
   ·have⟨a9,k⟩:=Vt k;refine Uq J6 [0] [0] [] [] (A.mb 17 3711) 7 [(4,.on .n),(5,.on .n),(6,.on .n),(9,.on .n),(10,.on .n),(11,.on .n)] [22,23,24,27,29] [Z.R64 (o-1)] [(22,.func (.func 72) #[] #[]),(23,.slice A0_ s.length c1_),(24,A.i o),(27,.slice A0_ s.length c1_),(29,A.i (o-1))] a9 ?_;have⟨V,W,k⟩:=Vy k;refine Vw 0 226 W fun u=>?_;intro am an ab;refine Un J6 [0] [0,226] 7 (A.mb 17 3839) (dj:=21) rfl (fun a w hf hh=>Vn (t:=T53) W ab hf) ?_;refine Vj J6 [0,226] [0,226] [] [226] (A.mb 17 4095) 5 [(8,.on (.e 0 0))] [(26,(A.ral V))] ?_;have⟨Y,a3,k⟩:=Vy k;refine Vw 0 227 a3 fun x=>?_;intro ao aq ac;refine Un J6 [0,226] l3h 12 (A.mb 17 8191) (dj:=21) rfl (fun a w hf hh=>Vn (t:=T53) a3 ac hf) ?_;refine Vj J6 l3h l3h [] [227] (A.mb 17 16383) 3 [(13,.on (.e 0 0))] [(31,(A.ral Y))] ?_;refine Vc 14 ?_;refine Vi (dj:=21) rfl rfl ?_;refine Vv 228 [] k (o_x V Y u.1.1 u.1.2 u.2.1.1 u.2.1.2 u.2.2.1 u.2.2.2.1 u.2.2.2.2.1 u.2.2.2.2.2.1 u.2.2.2.2.2.2.1 u.2.2.2.2.2.2.2.1 u.2.2.2.2.2.2.2.2.1 u.2.2.2.2.2.2.2.2.2 x.1.1 x.1.2 x.2.1.1 x.2.1.2 x.2.2.1 x.2.2.2.1 x.2.2.2.2.1 x.2.2.2.2.2.1 x.2.2.2.2.2.2.1 x.2.2.2.2.2.2.2.1 x.2.2.2.2.2.2.2.2.1 x.2.2.2.2.2.2.2.2.2) .nil ?_;rintro a4 - k _ _ ⟨rfl,rfl,hr43⟩;refine Vf ?_;refine Vg (A.mb 17 32767) l3h ?_;refine Vj J6 l3h l3h [] [] (A.mb 17 131071) 0 [(15,.on .n),(16,.n)] [(34,.bool (decide (a4<0)))] (Ve ?_);exact Vk ⟨(decide (a4<0)),rfl,rfl,k⟩
   refine Vj J6 [0] [0] [] [] (A.mb 17 131071) 0 [(4,.off),(5,.off),(6,.off),(9,.off),(10,.off),(7,.off),(11,.off),(8,.off),(12,.off),(13,.off),(14,.off),(15,.off),(16,.n)] [(34,.bool false)] (Ve ?_);exact Vk ⟨false,rfl,rfl,k⟩
  rintro _ _ ⟨L,rfl,rfl,k⟩;rw[F.p]at k;refine Ue k ?_ ?_<;>intro O k
  ·refine V6 4 ?_;refine Vl mixed 17 18 (A.mb 18 0) ?_;have⟨ad,k⟩:=Vt k;refine Uq J6 [] [] [] [] (A.mb 18 3327) 8 [(0,.n),(1,.n),(2,.n),(3,.n),(5,.n),(6,.n),(10,.n),(11,.n),(4,.n),(7,.n)] [37,38,39,42,47,48,41,44] [Z.R64 (o-1),Z.R64 (o-1)] [(37,.slice A0_ s.length c1_),(38,A.i o),(39,.slice A0_ s.length c1_),(42,.slice A0_ s.length c1_),(47,.slice A0_ s.length c1_),(48,A.i o),(41,A.i (o-1)),(44,A.i (o-1))] ad ?_;have⟨x9,a5,k⟩:=Vy k;refine Vw 0 268 a5 fun ar=>?_;intro au av ae;refine Vh J6 [] [268] 8 (A.mb 18 3583) rfl (fun a w hf hh=>Vn (t:=T53) a5 ae hf) ?_;refine Vj J6 [268] [268] [] [268] (A.mb 18 4095) 6 [(9,.e 0 0)] [(46,(A.ral x9))] ?_;have⟨ag,a6,k⟩:=Vy k;refine Vw 0 269 a6 fun aw=>?_;intro ax ay ah;refine Vh J6 [268] [268,269] 12 (A.mb 18 8191) rfl (fun a w hf hh=>Vn (t:=T53) a6 ah hf) ?_;refine Vj J6 [268,269] [268,269] [] [269] (A.mb 18 16383) 4 [(13,.e 0 0)] [(50,(A.ral ag))] ?_;have⟨az,a7,k⟩:=Vy k;refine Vw 0 270 a7 fun b0=>?_;intro b1 b2 ai;refine Vh J6 [268,269] [0,268,269] 14 (A.mb 18 32767) rfl (fun a w hf hh=>Vn (t:=T53) a7 ai hf) ?_;refine Vc 15 ?_;exact Vm k
  refine Jw 3 ?_;have⟨a8,k⟩:=Vt k;refine Uc 3 [Z.R64 (o+1)] [(8,A.i (o+1))] a8 (Jz ?_);exact Vk ⟨_,Qi _,⟨(o+1),rfl,rfl,(J4 a8),k⟩⟩
 refine V1 1 ?_;obtain rfl:=J8 k;exact A.AE.ret [] (.tuple #[]) (fun a w hf hh=>Z.res0 rfl w) (⟨rfl,rfl⟩)
def F.ai (o:(List D53))(k:Int)(p:Int):Nat→Option Unit
 |0=>none
 |f+1=>A.gd (Z.R64 (p-1)) (if k<p-1 then(A.gd (Z.R64 (k+1)∧Z.R64 (k+1)) ((A.ix o (k+1)).bind fun s=>((A.ix o k).bind fun u=>((A.ix o k).bind fun x=>(none)))))else(some ()))
def F.l (p:(List D53))(s:Int):Nat→Int→Int→Option Unit
 |0,_,_=>none
 |f+1,k,o=>if k<o then(A.gd (Z.R64 (k+o)∧(0≤(1:Int)∧(1:Int)≤64)∧Z.R64 ((IntKind.u64.wrap (k+o)) / 2^((1:Int)).toNat)) ((A.ix p ((IntKind.u64.wrap (k+o)) / 2^((1:Int)).toNat)).bind fun u=>((A.ix p s).bind fun x=>((F.bH u x).bind fun y=>(if y<0 then(A.gd (Z.R64 (((IntKind.u64.wrap (k+o)) / 2^((1:Int)).toNat)+1)) ((F.l p s f) (((IntKind.u64.wrap (k+o)) / 2^((1:Int)).toNat)+1) o))else((F.l p s f) k ((IntKind.u64.wrap (k+o)) / 2^((1:Int)).toNat)))))))else(F.ai p s k A.FU)
def F.aA (o:(List D53))(k:Int)(p:Int):Nat→Option Unit
 |0=>none
 |f+1=>if p<k then(A.gd (Z.R64 (k-1)∧Z.R64 (k-1)) ((A.ix o (k-1)).bind fun s=>((A.ix o k).bind fun u=>((A.ix o k).bind fun x=>(none)))))else(some ())
def F.m (p:(List D53))(s:Int):Nat→Int→Int→Option Unit
 |0,_,_=>none
 |f+1,k,o=>if k<o then(A.gd (Z.R64 (k+o)∧(0≤(1:Int)∧(1:Int)≤64)∧Z.R64 ((IntKind.u64.wrap (k+o)) / 2^((1:Int)).toNat)) ((A.ix p s).bind fun u=>((A.ix p ((IntKind.u64.wrap (k+o)) / 2^((1:Int)).toNat)).bind fun x=>((F.bH u x).bind fun y=>(if(!(decide (y<0)))=true then(A.gd (Z.R64 (((IntKind.u64.wrap (k+o)) / 2^((1:Int)).toNat)+1)) ((F.m p s f) (((IntKind.u64.wrap (k+o)) / 2^((1:Int)).toNat)+1) o))else((F.m p s f) k ((IntKind.u64.wrap (k+o)) / 2^((1:Int)).toNat)))))))else(F.aA p s k A.FU)
def F.n (u:(List D53))(o:Int)(p:Int)(k:Int)(rc:(List D53)→Int→Int→Int→Option Unit)(s:Int):Option Unit:=if(bif decide ((IntKind.u64.wrap (o+k)) / 2^((1:Int)).toNat <(((IntKind.u64.wrap (o+k)) / 2^((1:Int)).toNat)+p)-s)then decide ((((IntKind.u64.wrap (o+k)) / 2^((1:Int)).toNat)+p)-s<k)else false)=true then((rc u ((IntKind.u64.wrap (o+k)) / 2^((1:Int)).toNat) ((((IntKind.u64.wrap (o+k)) / 2^((1:Int)).toNat)+p)-s) k).bind fun x=>(some ()))else(some ())
def F.b (x:(List D53))(o:Int)(p:Int)(s:Int)(rc:(List D53)→Int→Int→Int→Option Unit):Nat→Int→Int→Option Unit
 |0,_,_=>none
 |f+1,k,u=>if k<u then(A.gd (Z.R64 (k+u)∧(0≤(1:Int)∧(1:Int)≤64)∧Z.R64 ((IntKind.u64.wrap (k+u)) / 2^((1:Int)).toNat)) (A.gd (Z.R64 (((((IntKind.u64.wrap (o+s)) / 2^((1:Int)).toNat)+p)-1)-((IntKind.u64.wrap (k+u)) / 2^((1:Int)).toNat))) ((A.ix x (((((IntKind.u64.wrap (o+s)) / 2^((1:Int)).toNat)+p)-1)-((IntKind.u64.wrap (k+u)) / 2^((1:Int)).toNat))).bind fun y=>((A.ix x ((IntKind.u64.wrap (k+u)) / 2^((1:Int)).toNat)).bind fun z=>((F.bH y z).bind fun B=>(if(!(decide (B<0)))=true then(A.gd (Z.R64 (((IntKind.u64.wrap (k+u)) / 2^((1:Int)).toNat)+1)) ((F.b x o p s rc f) (((IntKind.u64.wrap (k+u)) / 2^((1:Int)).toNat)+1) u))else((F.b x o p s rc f) k ((IntKind.u64.wrap (k+u)) / 2^((1:Int)).toNat))))))))else(A.gd (Z.R64 ((((IntKind.u64.wrap (o+s)) / 2^((1:Int)).toNat)+p)-k)) (if(bif decide (k<p)then decide (p<(((IntKind.u64.wrap (o+s)) / 2^((1:Int)).toNat)+p)-k)else false)=true then(none)else(if(bif decide (o<k)then decide (k<(IntKind.u64.wrap (o+s)) / 2^((1:Int)).toNat)else false)=true then((rc x o k ((IntKind.u64.wrap (o+s)) / 2^((1:Int)).toNat)).bind fun E=>(F.n x o p s rc k))else(F.n x o p s rc k))))
def F.t (s:(List D53))(k:Int)(o:Int)(p:Int)(rc:(List D53)→Int→Int→Int→Option Unit)(u:Int)(x:Int):Option Unit:=A.gd (Z.R64 ((((IntKind.u64.wrap (k+p)) / 2^((1:Int)).toNat)+o)-1)) (F.b s k o p rc A.FU u x)
def F.aK (rc:(List D53)→Int→Int→Int→Option Unit)(s:(List D53))(k:Int)(o:Int)(p:Int):Option Unit:=A.gd (Z.R64 (o-k)) (if o-k=1 then(F.l s k A.FU o p)else(A.gd (Z.R64 (p-o)) (if p-o=1 then(F.m s o A.FU k o)else(A.gd (Z.R64 (k+p)∧(0≤(1:Int)∧(1:Int)≤64)∧Z.R64 ((IntKind.u64.wrap (k+p)) / 2^((1:Int)).toNat)) (A.gd (Z.R64 (((IntKind.u64.wrap (k+p)) / 2^((1:Int)).toNat)+o)) (if(IntKind.u64.wrap (k+p)) / 2^((1:Int)).toNat <o then(A.gd (Z.R64 ((((IntKind.u64.wrap (k+p)) / 2^((1:Int)).toNat)+o)-p)) (F.t s k o p rc ((((IntKind.u64.wrap (k+p)) / 2^((1:Int)).toNat)+o)-p) ((IntKind.u64.wrap (k+p)) / 2^((1:Int)).toNat)))else(F.t s k o p rc k o)))))))
theorem o_q(rc:(List D53)→Int→Int→Int→Option Unit)(x:(List D53))(o:Int)(p:Int)(u:Int)(a9:A.h6 o)(aa:A.h6 p)(ac:A.h6 u)(ihr: ∀(x:(List D53)) (o:Int) (p:Int) (u:Int) (A0_:Option Addr) (c1_:Nat) (a9:A.h6 o) (aa:A.h6 p) (ac:A.h6 u) (r:Unit),rc x o p u=some r→A.Ct Tryz.prog 147 [.slice A0_ x.length c1_,A.i o,A.i p,A.i u,.func (.func 72) #[] #[]] [(0,.ln T53 A0_ c1_ x)] [] (fun v H'=>v=.tuple #[]∧H'=[]))(r:Unit)(k:F.aK rc x o p u=some r):
    A.Ct Tryz.prog 147 [.slice A0_ x.length c1_,A.i o,A.i p,A.i u,.func (.func 72) #[] #[]] [(0,.ln T53 A0_ c1_ x)] [] (fun v H'=>v=.tuple #[]∧H'=[]):=by
 refine J1 Tryz.func147 rfl Tryz.ntmps147 rfl fun w0 F0=>?_;rw[F.aK]at k;refine Jw 2 ?_;have⟨be,k⟩:=Vt k;refine Uc 4 [Z.R64 (p-o)] [(28,.bool (decide (p-o=1)))] be (Jy 1 ?_);refine Vu k ?_ ?_<;>intro N k
 ·refine Jw 1 ?_;refine J3 2 [(10,A.i p)] (Vb 2 ?_);refine J3 2 [(11,A.i u)] (Jy 3 ?_);refine Vo [0,1,4] [0] (fun f O U=>∃(z:Int),∃(J:Int),O=[(10,A.i z),(11,A.i J)]∧U=[]∧A.h6 z∧A.h6 J∧F.l x o f z J=some r) ⟨p,u,rfl,rfl,aa,ac,k⟩ ?_;rintro f6 _ _ ⟨z,J,rfl,rfl,bg,bh,k⟩;rcases f6 with _|f6
  ·exact Vm k
  rw[F.l]at k;refine Jw 2 ?_;refine J3 3 [(33,.bool (decide (z<J)))] (Jy 1 ?_);refine Vu k ?_ ?_<;>intro N k
  ·refine Jw 4 ?_;have⟨ad,k⟩:=Vt k;refine Uc 7 [Z.R64 (z+J),(0≤(1:Int)∧(1:Int)≤64),Z.R64 ((IntKind.u64.wrap (z+J)) / 2^((1:Int)).toNat)] [(12,A.i ((IntKind.u64.wrap (z+J)) / 2^((1:Int)).toNat))] ad (Jy 2 ?_);refine Vl mixed 11 11 (A.mb 11 0) ?_;refine Vj J6 [] [0] [] [] (A.mb 11 103) 6 [(0,.n),(1,.n),(2,.n),(5,.n),(6,.n)] [(40,.func (.func 72) #[] #[]),(41,.slice A0_ x.length c1_),(42,A.i ((IntKind.u64.wrap (z+J)) / 2^((1:Int)).toNat)),(45,.slice A0_ x.length c1_),(46,A.i o)] ?_;have⟨x8,ae,k⟩:=Vy k;refine Vw 0 97 ae fun V=>?_;intro ch ci bi;refine Vh J6 [0] [0,97] 3 (A.mb 11 111) rfl (fun a w hf hh=>Vn (t:=T53) ae bi hf) ?_;refine Vj J6 [0,97] [0,97] [] [97] (A.mb 11 127) 4 [(4,.e 0 0)] [(44,(A.ral x8))] ?_;have⟨ag,ah,k⟩:=Vy k;refine Vw 0 98 ah fun W=>?_;intro cj cm bj;refine Vh J6 [0,97] l3l 7 (A.mb 11 255) rfl (fun a w hf hh=>Vn (t:=T53) ah bj hf) ?_;refine Vj J6 l3l l3l [] [98] (A.mb 11 511) 2 [(8,.e 0 0)] [(48,(A.ral ag))] ?_;refine Vc 9 ?_;refine Vv 99 [] k (o_x x8 ag V.1.1 V.1.2 V.2.1.1 V.2.1.2 V.2.2.1 V.2.2.2.1 V.2.2.2.2.1 V.2.2.2.2.2.1 V.2.2.2.2.2.2.1 V.2.2.2.2.2.2.2.1 V.2.2.2.2.2.2.2.2.1 V.2.2.2.2.2.2.2.2.2 W.1.1 W.1.2 W.2.1.1 W.2.1.2 W.2.2.1 W.2.2.2.1 W.2.2.2.2.1 W.2.2.2.2.2.1 W.2.2.2.2.2.2.1 W.2.2.2.2.2.2.2.1 W.2.2.2.2.2.2.2.2.1 W.2.2.2.2.2.2.2.2.2) .nil ?_;rintro bk - k _ _ ⟨rfl,rfl,hr22⟩;refine Vf ?_;refine Vg (A.mb 11 1023) l3l ?_;refine Vj J6 l3l l3l [] [] (A.mb 11 2047) 0 [(10,.n)] [(50,.bool (decide (bk<0)))] (Ve ?_);refine U2 1 ?_;refine Vu k ?_ ?_<;>intro N k
   ·refine Jw 0 ?_;have⟨aj,k⟩:=Vt k;refine Uc 3 [Z.R64 (((IntKind.u64.wrap (z+J)) / 2^((1:Int)).toNat)+1)] [(10,A.i (((IntKind.u64.wrap (z+J)) / 2^((1:Int)).toNat)+1))] aj (Uh 1 ?_);exact Vk ⟨_,Qi _,⟨(((IntKind.u64.wrap (z+J)) / 2^((1:Int)).toNat)+1),J,rfl,rfl,(J4 aj),bh,k⟩⟩
   refine Jw 0 ?_;refine J3 2 [(11,A.i ((IntKind.u64.wrap (z+J)) / 2^((1:Int)).toNat))] (Uh 1 ?_);exact Vk ⟨_,Qi _,⟨z,((IntKind.u64.wrap (z+J)) / 2^((1:Int)).toNat),rfl,rfl,bg,(J4 ad.2.2),k⟩⟩
  refine Jw 4 ?_;refine J3 2 [(13,A.i o)] (Jy 2 ?_);refine Vo [0,10,13] [0] (fun f O U=>O=[]∧U=[]∧F.ai x o z f=some r) ⟨rfl,rfl,k⟩ ?_;rintro ak _ _ ⟨rfl,rfl,k⟩;rcases ak with _|ak
  ·exact Vm k
  rw[F.ai]at k;refine Jw 2 ?_;have⟨bl,k⟩:=Vt k;refine Uc 4 [Z.R64 (z-1)] [(58,.bool (decide (o<z-1)))] bl (Jy 1 ?_);refine Vu k ?_ ?_<;>intro N k
  ·refine V6 4 ?_;refine Vl mixed 17 18 (A.mb 18 0) ?_;have⟨bm,k⟩:=Vt k;refine Uq J6 [] [] [] [] (A.mb 18 3327) 8 [(0,.n),(1,.n),(2,.n),(3,.n),(5,.n),(6,.n),(10,.n),(11,.n),(4,.n),(7,.n)] [61,62,63,66,71,72,65,68] [Z.R64 (o+1),Z.R64 (o+1)] [(61,.slice A0_ x.length c1_),(62,A.i o),(63,.slice A0_ x.length c1_),(66,.slice A0_ x.length c1_),(71,.slice A0_ x.length c1_),(72,A.i o),(65,A.i (o+1)),(68,A.i (o+1))] bm ?_;have⟨bp,al,k⟩:=Vy k;refine Vw 0 142 al fun cn=>?_;intro co cp bq;refine Vh J6 [] [142] 8 (A.mb 18 3583) rfl (fun a w hf hh=>Vn (t:=T53) al bq hf) ?_;refine Vj J6 [142] [142] [] [142] (A.mb 18 4095) 6 [(9,.e 0 0)] [(70,(A.ral bp))] ?_;have⟨br,am,k⟩:=Vy k;refine Vw 0 143 am fun cq=>?_;intro cr cs bs;refine Vh J6 [142] [142,143] 12 (A.mb 18 8191) rfl (fun a w hf hh=>Vn (t:=T53) am bs hf) ?_;refine Vj J6 [142,143] [142,143] [] [143] (A.mb 18 16383) 4 [(13,.e 0 0)] [(74,(A.ral br))] ?_;have⟨ct,an,k⟩:=Vy k;refine Vw 0 144 an fun cu=>?_;intro cv cw bt;refine Vh J6 [142,143] [0,142,143] 14 (A.mb 18 32767) rfl (fun a w hf hh=>Vn (t:=T53) an bt hf) ?_;refine Vc 15 ?_;exact Vm k
  refine V6 2 ?_;obtain rfl:=J8 k;exact Vr [] (.tuple #[]) (fun a w hf hh=>Z.res0 rfl w) (⟨rfl,rfl⟩)
 refine Jw 4 ?_;have⟨bu,k⟩:=Vt k;refine Uc 4 [Z.R64 (u-p)] [(80,.bool (decide (u-p=1)))] bu (Jy 1 ?_);refine Vu k ?_ ?_<;>intro N k
 ·refine Jw 1 ?_;refine J3 2 [(14,A.i o)] (Vb 2 ?_);refine J3 2 [(15,A.i p)] (Jy 3 ?_);refine Vo [0,2,4] [0] (fun f O U=>∃(B:Int),∃(L:Int),O=[(14,A.i B),(15,A.i L)]∧U=[]∧A.h6 B∧A.h6 L∧F.m x p f B L=some r) ⟨o,p,rfl,rfl,a9,aa,k⟩ ?_;rintro ao _ _ ⟨B,L,rfl,rfl,bv,bw,k⟩;rcases ao with _|ao
  ·exact Vm k
  rw[F.m]at k;refine Jw 2 ?_;refine J3 3 [(85,.bool (decide (B<L)))] (Jy 1 ?_);refine Vu k ?_ ?_<;>intro N k
  ·refine Jw 4 ?_;have⟨aq,k⟩:=Vt k;refine Uc 7 [Z.R64 (B+L),(0≤(1:Int)∧(1:Int)≤64),Z.R64 ((IntKind.u64.wrap (B+L)) / 2^((1:Int)).toNat)] [(16,A.i ((IntKind.u64.wrap (B+L)) / 2^((1:Int)).toNat))] aq (Jy 2 ?_);refine Vl mixed 12 12 (A.mb 12 0) ?_;refine Vj J6 [] [0] [] [] (A.mb 12 103) 7 [(0,.n),(1,.n),(2,.n),(5,.n),(6,.n)] [(92,.func (.func 72) #[] #[]),(93,.slice A0_ x.length c1_),(94,A.i p),(97,.slice A0_ x.length c1_),(98,A.i ((IntKind.u64.wrap (B+L)) / 2^((1:Int)).toNat))] ?_;have⟨ar,au,k⟩:=Vy k;refine Vw 0 241 au fun Y=>?_;intro cx cy bx;refine Vh J6 [0] [0,241] 3 (A.mb 12 111) rfl (fun a w hf hh=>Vn (t:=T53) au bx hf) ?_;refine Vj J6 [0,241] [0,241] [] [241] (A.mb 12 127) 5 [(4,.e 0 0)] [(96,(A.ral ar))] ?_;have⟨av,aw,k⟩:=Vy k;refine Vw 0 242 aw fun a4=>?_;intro cz d1 bz;refine Vh J6 [0,241] l3i 7 (A.mb 12 255) rfl (fun a w hf hh=>Vn (t:=T53) aw bz hf) ?_;refine Vj J6 l3i l3i [] [242] (A.mb 12 511) 3 [(8,.e 0 0)] [(100,(A.ral av))] ?_;refine Vc 9 ?_;refine Vv 243 [] k (o_x ar av Y.1.1 Y.1.2 Y.2.1.1 Y.2.1.2 Y.2.2.1 Y.2.2.2.1 Y.2.2.2.2.1 Y.2.2.2.2.2.1 Y.2.2.2.2.2.2.1 Y.2.2.2.2.2.2.2.1 Y.2.2.2.2.2.2.2.2.1 Y.2.2.2.2.2.2.2.2.2 a4.1.1 a4.1.2 a4.2.1.1 a4.2.1.2 a4.2.2.1 a4.2.2.2.1 a4.2.2.2.2.1 a4.2.2.2.2.2.1 a4.2.2.2.2.2.2.1 a4.2.2.2.2.2.2.2.1 a4.2.2.2.2.2.2.2.2.1 a4.2.2.2.2.2.2.2.2.2) .nil ?_;rintro c0 - k _ _ ⟨rfl,rfl,hr67⟩;refine Vf ?_;refine Vg (A.mb 12 1023) l3i ?_;refine Vj J6 l3i l3i [] [] (A.mb 12 4095) 0 [(10,.n),(11,.n)] [(103,.bool (!(decide (c0<0))))] (Ve ?_);refine U2 1 ?_;refine Ue k ?_ ?_<;>intro N k
   ·refine Jw 0 ?_;have⟨ax,k⟩:=Vt k;refine Uc 3 [Z.R64 (((IntKind.u64.wrap (B+L)) / 2^((1:Int)).toNat)+1)] [(14,A.i (((IntKind.u64.wrap (B+L)) / 2^((1:Int)).toNat)+1))] ax (Uh 1 ?_);exact Vk ⟨_,Qi _,⟨(((IntKind.u64.wrap (B+L)) / 2^((1:Int)).toNat)+1),L,rfl,rfl,(J4 ax),bw,k⟩⟩
   refine Jw 0 ?_;refine J3 2 [(15,A.i ((IntKind.u64.wrap (B+L)) / 2^((1:Int)).toNat))] (Uh 1 ?_);exact Vk ⟨_,Qi _,⟨B,((IntKind.u64.wrap (B+L)) / 2^((1:Int)).toNat),rfl,rfl,bv,(J4 aq.2.2),k⟩⟩
  refine Jw 4 ?_;refine J3 2 [(17,A.i p)] (Jy 2 ?_);refine Vo [0,14,17] [0] (fun f O U=>O=[]∧U=[]∧F.aA x p B f=some r) ⟨rfl,rfl,k⟩ ?_;rintro ay _ _ ⟨rfl,rfl,k⟩;rcases ay with _|ay
  ·exact Vm k
  rw[F.aA]at k;refine Jw 2 ?_;refine J3 3 [(110,.bool (decide (B<p)))] (Jy 1 ?_);refine Vu k ?_ ?_<;>intro N k
  ·refine V6 4 ?_;refine Vl mixed 17 18 (A.mb 18 0) ?_;have⟨c1,k⟩:=Vt k;refine Uq J6 [] [] [] [] (A.mb 18 3327) 8 [(0,.n),(1,.n),(2,.n),(3,.n),(5,.n),(6,.n),(10,.n),(11,.n),(4,.n),(7,.n)] [113,114,115,118,123,124,117,120] [Z.R64 (p-1),Z.R64 (p-1)] [(113,.slice A0_ x.length c1_),(114,A.i p),(115,.slice A0_ x.length c1_),(118,.slice A0_ x.length c1_),(123,.slice A0_ x.length c1_),(124,A.i p),(117,A.i (p-1)),(120,A.i (p-1))] c1 ?_;have⟨c2,az,k⟩:=Vy k;refine Vw 0 286 az fun d2=>?_;intro d3 d4 c3;refine Vh J6 [] [286] 8 (A.mb 18 3583) rfl (fun a w hf hh=>Vn (t:=T53) az c3 hf) ?_;refine Vj J6 [286] [286] [] [286] (A.mb 18 4095) 6 [(9,.e 0 0)] [(122,(A.ral c2))] ?_;have⟨c4,b0,k⟩:=Vy k;refine Vw 0 287 b0 fun d5=>?_;intro d6 d7 c5;refine Vh J6 [286] [286,287] 12 (A.mb 18 8191) rfl (fun a w hf hh=>Vn (t:=T53) b0 c5 hf) ?_;refine Vj J6 [286,287] [286,287] [] [287] (A.mb 18 16383) 4 [(13,.e 0 0)] [(126,(A.ral c4))] ?_;have⟨d8,b1,k⟩:=Vy k;refine Vw 0 288 b1 fun d9=>?_;intro da db c6;refine Vh J6 [286,287] [0,286,287] 14 (A.mb 18 32767) rfl (fun a w hf hh=>Vn (t:=T53) b1 c6 hf) ?_;refine Vc 15 ?_;exact Vm k
  refine V6 2 ?_;obtain rfl:=J8 k;exact Vr [] (.tuple #[]) (fun a w hf hh=>Z.res0 rfl w) (⟨rfl,rfl⟩)
 refine Jw 3 ?_;have⟨ab,k⟩:=Vt k;refine Uc 7 [Z.R64 (o+u),(0≤(1:Int)∧(1:Int)≤64),Z.R64 ((IntKind.u64.wrap (o+u)) / 2^((1:Int)).toNat)] [(18,A.i ((IntKind.u64.wrap (o+u)) / 2^((1:Int)).toNat))] ab (Vb 2 ?_);have⟨c7,k⟩:=Vt k;refine Uc 4 [Z.R64 (((IntKind.u64.wrap (o+u)) / 2^((1:Int)).toNat)+p)] [(19,A.i (((IntKind.u64.wrap (o+u)) / 2^((1:Int)).toNat)+p))] c7 (Vb 2 ?_);refine J3 2 [] (Jy 1 ?_);refine J7 [0,1,2,3,4,18,19] [0] (fun O U=>∃(a7:Int),∃(a8:Int),O=[(20,A.i a7),(21,A.i a8)]∧U=[]∧A.h6 a7∧A.h6 a8∧F.t x o p u rc a7 a8=some r) ?_ ?_
 ·refine Jw 1 ?_;refine J3 3 [(140,.bool (decide ((IntKind.u64.wrap (o+u)) / 2^((1:Int)).toNat <p)))] (Jy 1 ?_);refine Vu k ?_ ?_<;>intro N k
  ·refine Jw 1 ?_;have⟨b2,k⟩:=Vt k;refine Uc 4 [Z.R64 ((((IntKind.u64.wrap (o+u)) / 2^((1:Int)).toNat)+p)-u)] [(20,A.i ((((IntKind.u64.wrap (o+u)) / 2^((1:Int)).toNat)+p)-u))] b2 (Vb 1 ?_);refine J3 2 [(21,A.i ((IntKind.u64.wrap (o+u)) / 2^((1:Int)).toNat))] (Jz ?_);exact Vk ⟨((((IntKind.u64.wrap (o+u)) / 2^((1:Int)).toNat)+p)-u),((IntKind.u64.wrap (o+u)) / 2^((1:Int)).toNat),rfl,rfl,(J4 b2),(J4 ab.2.2),k⟩
  refine Jw 1 ?_;refine J3 2 [(20,A.i o)] (Vb 1 ?_);refine J3 2 [(21,A.i p)] (Jz ?_);exact Vk ⟨o,p,rfl,rfl,a9,aa,k⟩
 rintro _ _ ⟨a7,a8,rfl,rfl,c8,c9,k⟩;rw[F.t]at k;refine Jw 1 ?_;have⟨ca,k⟩:=Vt k;refine Uc 3 [Z.R64 ((((IntKind.u64.wrap (o+u)) / 2^((1:Int)).toNat)+p)-1)] [(22,A.i ((((IntKind.u64.wrap (o+u)) / 2^((1:Int)).toNat)+p)-1))] ca (Jy 3 ?_);refine Vo [0,1,2,3,4,18,19,22] [0] (fun f O U=>∃(y:Int),∃(E:Int),O=[(20,A.i y),(21,A.i E)]∧U=[]∧A.h6 y∧A.h6 E∧F.b x o p u rc f y E=some r) ⟨a7,a8,rfl,rfl,c8,c9,k⟩ ?_;rintro b3 _ _ ⟨y,E,rfl,rfl,b4,cb,k⟩;rcases b3 with _|b3
 ·exact Vm k
 rw[F.b]at k;refine Jw 2 ?_;refine J3 3 [(151,.bool (decide (y<E)))] (Jy 1 ?_);refine Vu k ?_ ?_<;>intro N k
 ·refine Jw 4 ?_;have⟨b5,k⟩:=Vt k;refine Uc 7 [Z.R64 (y+E),(0≤(1:Int)∧(1:Int)≤64),Z.R64 ((IntKind.u64.wrap (y+E)) / 2^((1:Int)).toNat)] [(23,A.i ((IntKind.u64.wrap (y+E)) / 2^((1:Int)).toNat))] b5 (Jy 2 ?_);refine Vl mixed 14 14 (A.mb 14 0) ?_;have⟨cc,k⟩:=Vt k;refine Uq J6 [] [0] [] [] (A.mb 14 415) 7 [(0,.n),(1,.n),(2,.n),(3,.n),(7,.n),(8,.n),(4,.n)] [158,159,165,166,162] [Z.R64 (((((IntKind.u64.wrap (o+u)) / 2^((1:Int)).toNat)+p)-1)-((IntKind.u64.wrap (y+E)) / 2^((1:Int)).toNat))] [(158,.func (.func 72) #[] #[]),(159,.slice A0_ x.length c1_),(165,.slice A0_ x.length c1_),(166,A.i ((IntKind.u64.wrap (y+E)) / 2^((1:Int)).toNat)),(162,A.i (((((IntKind.u64.wrap (o+u)) / 2^((1:Int)).toNat)+p)-1)-((IntKind.u64.wrap (y+E)) / 2^((1:Int)).toNat)))] cc ?_;have⟨b6,b7,k⟩:=Vy k;refine Vw 0 533 b7 fun a5=>?_;intro dc dd cd;refine Vh J6 [0] [0,533] 5 (A.mb 14 447) rfl (fun a w hf hh=>Vn (t:=T53) b7 cd hf) ?_;refine Vj J6 [0,533] [0,533] [] [533] (A.mb 14 511) 5 [(6,.e 0 0)] [(164,(A.ral b6))] ?_;have⟨b9,bb,k⟩:=Vy k;refine Vw 0 534 bb fun a6=>?_;intro df dg ce;refine Vh J6 [0,533] l3j 9 (A.mb 14 1023) rfl (fun a w hf hh=>Vn (t:=T53) bb ce hf) ?_;refine Vj J6 l3j l3j [] [534] (A.mb 14 2047) 3 [(10,.e 0 0)] [(168,(A.ral b9))] ?_;refine Vc 11 ?_;refine Vv 535 [] k (o_x b6 b9 a5.1.1 a5.1.2 a5.2.1.1 a5.2.1.2 a5.2.2.1 a5.2.2.2.1 a5.2.2.2.2.1 a5.2.2.2.2.2.1 a5.2.2.2.2.2.2.1 a5.2.2.2.2.2.2.2.1 a5.2.2.2.2.2.2.2.2.1 a5.2.2.2.2.2.2.2.2.2 a6.1.1 a6.1.2 a6.2.1.1 a6.2.1.2 a6.2.2.1 a6.2.2.2.1 a6.2.2.2.2.1 a6.2.2.2.2.2.1 a6.2.2.2.2.2.2.1 a6.2.2.2.2.2.2.2.1 a6.2.2.2.2.2.2.2.2.1 a6.2.2.2.2.2.2.2.2.2) .nil ?_;rintro cf - k _ _ ⟨rfl,rfl,hr118⟩;refine Vf ?_;refine Vg (A.mb 14 4095) l3j ?_;refine Vj J6 l3j l3j [] [] (A.mb 14 16383) 0 [(12,.n),(13,.n)] [(171,.bool (!(decide (cf<0))))] (Ve ?_);refine U2 1 ?_;refine Ue k ?_ ?_<;>intro N k
  ·refine Jw 0 ?_;have⟨bc,k⟩:=Vt k;refine Uc 3 [Z.R64 (((IntKind.u64.wrap (y+E)) / 2^((1:Int)).toNat)+1)] [(20,A.i (((IntKind.u64.wrap (y+E)) / 2^((1:Int)).toNat)+1))] bc (Uh 1 ?_);exact Vk ⟨_,Qi _,⟨(((IntKind.u64.wrap (y+E)) / 2^((1:Int)).toNat)+1),E,rfl,rfl,(J4 bc),cb,k⟩⟩
  refine Jw 0 ?_;refine J3 2 [(21,A.i ((IntKind.u64.wrap (y+E)) / 2^((1:Int)).toNat))] (Uh 1 ?_);exact Vk ⟨_,Qi _,⟨y,((IntKind.u64.wrap (y+E)) / 2^((1:Int)).toNat),rfl,rfl,b4,(J4 b5.2.2),k⟩⟩
 refine Jw 3 ?_;have⟨bd,k⟩:=Vt k;refine Uc 4 [Z.R64 ((((IntKind.u64.wrap (o+u)) / 2^((1:Int)).toNat)+p)-y)] [(24,A.i ((((IntKind.u64.wrap (o+u)) / 2^((1:Int)).toNat)+p)-y))] bd (Vb 3 ?_);refine J2 [] [] [.n,.n,.n,.n,.sy .n,.sy .n,.sy .n,.pk] [(185,.bool (bif decide (y<p)then decide (p<(((IntKind.u64.wrap (o+u)) / 2^((1:Int)).toNat)+p)-y)else false))] (Jy 1 ?_);refine Ue k ?_ ?_<;>intro N k
 ·refine Jw 0 ?_;refine J3 5 [(186,.slice A0_ x.length c1_),(187,A.i y),(188,A.i p),(189,A.i ((((IntKind.u64.wrap (o+u)) / 2^((1:Int)).toNat)+p)-y)),(190,.func (.func 72) #[] #[])] ?_;exact Vm k
 refine V6 2 ?_;refine J7 [0,3,4,18,24] [0] (fun O U=>O=[]∧U=[]∧F.n x o p u rc y=some r) ?_ ?_
 ·refine Jw 1 ?_;refine J2 [] [] [.n,.n,.n,.n,.sy .n,.sy .n,.sy .n,.pk] [(199,.bool (bif decide (o<y)then decide (y<(IntKind.u64.wrap (o+u)) / 2^((1:Int)).toNat)else false))] (Jy 1 ?_);refine Ue k ?_ ?_<;>intro N k
  ·refine Jw 0 ?_;refine J3 5 [(200,.slice A0_ x.length c1_),(201,A.i o),(202,A.i y),(203,A.i ((IntKind.u64.wrap (o+u)) / 2^((1:Int)).toNat)),(204,.func (.func 72) #[] #[])] ?_;refine Vv 575 [] k (ihr x o y ((IntKind.u64.wrap (o+u)) / 2^((1:Int)).toNat) A0_ c1_ a9 b4 (J4 ab.2.2)) (.s 0 .nil) ?_;rintro dh - k _ _ ⟨rfl,rfl⟩;refine Vf ?_;refine Jz ?_;exact Vk ⟨rfl,rfl,k⟩
  refine V1 1 ?_;exact Vk ⟨rfl,rfl,k⟩
 rintro _ _ ⟨rfl,rfl,k⟩;rw[F.n]at k;refine Jw 1 ?_;refine J2 [] [] [.n,.n,.n,.n,.sy .n,.sy .n,.sy .n,.pk] [(213,.bool (bif decide ((IntKind.u64.wrap (o+u)) / 2^((1:Int)).toNat <(((IntKind.u64.wrap (o+u)) / 2^((1:Int)).toNat)+p)-y)then decide ((((IntKind.u64.wrap (o+u)) / 2^((1:Int)).toNat)+p)-y<u)else false))] (Jy 1 ?_);refine Ue k ?_ ?_<;>intro N k
 ·refine Jw 0 ?_;refine J3 5 [(214,.slice A0_ x.length c1_),(215,A.i ((IntKind.u64.wrap (o+u)) / 2^((1:Int)).toNat)),(216,A.i ((((IntKind.u64.wrap (o+u)) / 2^((1:Int)).toNat)+p)-y)),(217,A.i u),(218,.func (.func 72) #[] #[])] ?_;refine Vv 615 [] k (ihr x ((IntKind.u64.wrap (o+u)) / 2^((1:Int)).toNat) ((((IntKind.u64.wrap (o+u)) / 2^((1:Int)).toNat)+p)-y) u A0_ c1_ (J4 ab.2.2) (J4 bd) ac) (.s 0 .nil) ?_;rintro di - k _ _ ⟨rfl,rfl⟩;refine Vf ?_;refine Jz ?_;obtain rfl:=J8 k;exact A.AE.ret [] (.tuple #[]) (fun a w hf hh=>Z.res0 rfl w) (⟨rfl,rfl⟩)
 refine V1 1 ?_;obtain rfl:=J8 k;exact A.AE.ret [] (.tuple #[]) (fun a w hf hh=>Z.res0 rfl w) (⟨rfl,rfl⟩)
def F.c:Nat→(List D53)→Int→Int→Int→Option Unit
 |0,_,_,_,_=>none
 |f+1,k,o,p,s=>F.aK (F.c f) k o p s
theorem o_b: ∀f,∀(k:(List D53)) (o:Int) (p:Int) (s:Int) (A0_:Option Addr) (c1_:Nat) (x:A.h6 o) (y:A.h6 p) (z:A.h6 s) (r:Unit),F.c f k o p s=some r→A.Ct Tryz.prog 147 [.slice A0_ k.length c1_,A.i o,A.i p,A.i s,.func (.func 72) #[] #[]] [(0,.ln T53 A0_ c1_ k)] [] (fun v H'=>v=.tuple #[]∧H'=[])
 |0=>fun _ _ _ _ _ _ _ _ _ r u=>Vm u
 |f+1=>fun k o p s A0_ c1_ x y z r u=>o_q A0_ c1_ (F.c f) k o p s x y z (o_b f) r u
def F.w (o:Int→Option Unit)(k:Int):Option Unit:=A.gd (Z.R64 (k*2)) (o (k*2))
def F.x (u:Int→Option Unit)(y:(List D53))(s:Int)(k:Int):Nat→Int→Int→Option Unit
 |0,_,_=>none
 |f+1,o,p=>if p≤s then(A.gd (Z.R64 (o+k)) ((F.c A.FU y o (o+k) p).bind fun z=>(A.gd (Z.R64 (2*k)∧Z.R64 (p+(2*k))) ((F.x u y s k f) p (p+(2*k))))))else(A.gd (Z.R64 (o+k)) (if o+k<s then((F.c A.FU y o (o+k) s).bind fun B=>(F.w u k))else(F.w u k)))
def F.i (p:(List D53))(o:Int):Nat→Int→Option Unit
 |0,_=>none
 |f+1,k=>if k<o then(A.gd (Z.R64 (2*k)) (F.x (F.i p o f) p o k A.FU 0 (2*k)))else(some ())
def F.y (o:(List D53))(p:Int):Nat→Int→Int→Option Unit
 |0,_,_=>none
 |f+1,s,k=>if k≤p then((F.r o s k).bind fun u=>(A.gd (Z.R64 (k+20)) ((F.y o p f) k (k+20))))else((F.r o s p).bind fun x=>(F.i o p A.FU 20))
def F.aM (k:(List D53))(o:Int):Option Unit:=F.y k o A.FU 0 20
theorem o_u(p:(List D53))(u:Int)(V:A.h6 u)(r:Unit)(k:F.aM p u=some r):
    A.Ct Tryz.prog 105 [.slice A0_ p.length c1_,A.i u,.func (.func 72) #[] #[]] [(0,.ln T53 A0_ c1_ p)] [] (fun v H'=>v=.tuple #[]∧H'=[]):=by
 refine J1 Tryz.func105 rfl Tryz.ntmps105 rfl fun w0 F0=>?_;rw[F.aM]at k;refine Jw 1 ?_;refine J3 1 [(6,A.i 20)] (Vb 2 ?_);refine J3 3 [(7,A.i 0),(8,A.i 20)] (Jy 3 ?_);refine Vo [0,1,2,6] [0] (fun f L N=>∃(J:Int),∃(B:Int),L=[(7,A.i J),(8,A.i B)]∧N=[]∧A.h6 J∧A.h6 B∧F.y p u f J B=some r) ⟨0,20,rfl,rfl,J0,(Vd .i64 (20) rfl),k⟩ ?_;rintro W _ _ ⟨J,B,rfl,rfl,Y,a2,k⟩;rcases W with _|W
 ·exact Vm k
 rw[F.y]at k;refine Jw 2 ?_;refine J3 3 [(13,.bool (decide (B≤u)))] (Jy 1 ?_);refine Vu k ?_ ?_<;>intro U k
 ·refine Jw 4 ?_;refine J3 4 [(14,.slice A0_ p.length c1_),(15,A.i J),(16,A.i B),(17,.func (.func 72) #[] #[])] ?_;refine Vv 1601 [] k (o_e A0_ c1_ p J B Y a2) (.s 0 .nil) ?_;rintro r6 - k _ _ ⟨rfl,rfl⟩;refine Vf ?_;refine Vb 2 ?_;refine J3 2 [(7,A.i B)] (Vb 1 ?_);have⟨a3,k⟩:=Vt k;refine Uc 4 [Z.R64 (B+20)] [(8,A.i (B+20))] a3 (Uh 1 ?_);exact Vk ⟨_,Qi _,⟨B,(B+20),rfl,rfl,a2,(J4 a3),k⟩⟩
 refine Jw 3 ?_;refine J3 4 [(23,.slice A0_ p.length c1_),(24,A.i J),(25,A.i u),(26,.func (.func 72) #[] #[])] ?_;refine Vv 1641 [] k (o_e A0_ c1_ p J u Y V) (.s 0 .nil) ?_;rintro r9 - k _ _ ⟨rfl,rfl⟩;refine Vf ?_;refine Jy 2 ?_;refine Vo [0,1,2] [0] (fun f L N=>∃(o:Int),L=[(6,A.i o)]∧N=[]∧A.h6 o∧F.i p u f o=some r) ⟨20,rfl,rfl,(Vd .i64 (20) rfl),k⟩ ?_;rintro O _ _ ⟨o,rfl,rfl,ac,k⟩;rcases O with _|O
 ·exact Vm k
 rw[F.i]at k;refine Jw 2 ?_;refine J3 3 [(30,.bool (decide (o<u)))] (Jy 1 ?_);refine Vu k ?_ ?_<;>intro U k
 ·refine Jw 4 ?_;have⟨a4,k⟩:=Vt k;refine Uc 4 [Z.R64 (2*o)] [(7,A.i 0),(8,A.i (2*o))] a4 (Jy 3 ?_);refine Vo [0,1,2,6] [0] (fun f L N=>∃(z:Int),∃(E:Int),L=[(7,A.i z),(8,A.i E)]∧N=[]∧A.h6 z∧A.h6 E∧F.x (F.i p u O) p u o f z E=some r) ⟨0,(2*o),rfl,rfl,J0,(J4 a4),k⟩ ?_;rintro a5 _ _ ⟨z,E,rfl,rfl,a6,a7,k⟩;rcases a5 with _|a5
  ·exact Vm k
  rw[F.x]at k;refine Jw 2 ?_;refine J3 3 [(35,.bool (decide (E≤u)))] (Jy 1 ?_);refine Vu k ?_ ?_<;>intro U k
  ·refine Jw 4 ?_;have⟨a8,k⟩:=Vt k;refine Uc 7 [Z.R64 (z+o)] [(36,.slice A0_ p.length c1_),(37,A.i z),(40,A.i (z+o)),(41,A.i E),(42,.func (.func 72) #[] #[])] a8 ?_;refine Vv 2321 [] k (o_b A.FU p z (z+o) E A0_ c1_ a6 (J4 a8) a7) (.s 0 .nil) ?_;rintro ad - k _ _ ⟨rfl,rfl⟩;refine Vf ?_;refine Vb 2 ?_;refine J3 2 [(7,A.i E)] (Vb 1 ?_);have⟨a9,k⟩:=Vt k;refine Uc 5 [Z.R64 (2*o),Z.R64 (E+(2*o))] [(8,A.i (E+(2*o)))] a9 (Uh 1 ?_);exact Vk ⟨_,Qi _,⟨E,(E+(2*o)),rfl,rfl,a7,(J4 a9.2),k⟩⟩
  refine V6 2 ?_;refine J7 [0,1,2,6] [0] (fun L N=>L=[]∧N=[]∧F.w (F.i p u O) o=some r) ?_ ?_
  ·refine Jw 1 ?_;have⟨aa,k⟩:=Vt k;refine Uc 4 [Z.R64 (z+o)] [(9,A.i (z+o))] aa (Vb 2 ?_);refine J3 3 [(54,.bool (decide (z+o<u)))] (Jy 1 ?_);refine Vu k ?_ ?_<;>intro U k
   ·refine Jw 0 ?_;refine J3 5 [(55,.slice A0_ p.length c1_),(56,A.i z),(57,A.i (z+o)),(58,A.i u),(59,.func (.func 72) #[] #[])] ?_;refine Vv 2361 [] k (o_b A.FU p z (z+o) u A0_ c1_ a6 (J4 aa) V) (.s 0 .nil) ?_;rintro ae - k _ _ ⟨rfl,rfl⟩;refine Vf ?_;refine Jz ?_;exact Vk ⟨rfl,rfl,k⟩
   refine V1 1 ?_;exact Vk ⟨rfl,rfl,k⟩
  rintro _ _ ⟨rfl,rfl,k⟩;rw[F.w]at k;refine Jw 0 ?_;have⟨ab,k⟩:=Vt k;refine Uc 3 [Z.R64 (o*2)] [(6,A.i (o*2))] ab (Uh 1 ?_);exact Vk ⟨_,Qi _,⟨(o*2),rfl,rfl,(J4 ab),k⟩⟩
 refine V1 1 ?_;obtain rfl:=J8 k;exact A.AE.ret [] (.tuple #[]) (fun a w hf hh=>Z.res0 rfl w) (⟨rfl,rfl⟩)
def F.ab (k:(List D53)):Option Unit:=(F.aM k (k.length:Int)).bind fun o=>(some ())
theorem o_g(k:(List D53))(r:Unit)(o:F.ab k=some r):
    A.Ct Tryz.prog 71 [.slice A0_ k.length c1_,.func (.func 72) #[] #[]] [(0,.ln T53 A0_ c1_ k)] [] (fun v H'=>v=.tuple #[]∧H'=[]):=by
 refine J1 Tryz.func71 rfl Tryz.ntmps71 rfl fun p u=>?_;rw[F.ab]at o;refine Jw 0 ?_;refine J3 4 [(4,.slice A0_ k.length c1_),(6,A.i (k.length:Int)),(7,.func (.func 72) #[] #[])] ?_;refine A.okl 0 fun hl1=>?_;refine Vv 1 [] o (o_u A0_ c1_ k (k.length:Int) (A.has_len hl1.1)) (.s 0 .nil) ?_;rintro x - o _ _ ⟨rfl,rfl⟩;refine Vf ?_;refine Jz ?_;obtain rfl:=J8 o;exact A.AE.ret [] (.tuple #[]) (fun a w hf hh=>Z.res0 rfl w) (⟨rfl,rfl⟩)
def F.cF (o:D23):Option ((List D53)×Int):=(F.bW o).bind fun k=>A.om k.1 (if k.2≠0 then(some ([],k.2))else(none)) fun s=>(if k.2≠0 then(some ([],k.2))else((F.bm s o).bind fun p=>((F.ab p).bind fun u=>(some (p,0)))))
theorem o_ba(p:D23)(r:(List D53)×Int)(k:F.cF p=some r):
    A.Ct Tryz.prog 38 [.agg #[.slice A0_ p.length c1_]] [(0,.sh (.slice T83) [.slice A0_ p.length c1_] p),(1,.el none 0 0 A.tabF),(2,.el none 1 0 A.tabA)] [] (fun v H'=>∃(A0':Option Addr) (c1':Nat),v=.tuple #[.slice A0' r.1.length c1',A.i r.2]∧H'=[(0,.own T53 54 A0' c1' r.1)]∧A.h6 r.2):=by
 refine J1 Tryz.func38 rfl Tryz.ntmps38 rfl fun V W=>?_;rw[F.cF]at k;refine Jw 1 ?_;refine Va 3 (cs:=[.slice A0_ p.length c1_]) fun Y=>?_;refine J3 2 [] (Vb 2 ?_);refine J2 [3] [] [.b 0 0] [(8,.agg #[.slice A0_ p.length c1_])] ?_;refine Vv 4 [] k (o_aE A0_ c1_ p) (.s 0 (.s 1 (.s 2 .nil))) ?_;rintro u - k _ _ (⟨hp18,rfl,rfl,hr4⟩|⟨E,hp18,B,J,L,N,O,rfl,rfl,hr11⟩)
 ·refine Vf ?_;rw[A.om_n hp18]at k
  refine J3 5 [(4,.pointer none),(5,A.i u.2)] (Vb 3 ?_);refine J3 2 [(13,.bool (decide (u.2≠0)))] (Jy 1 ?_);refine Vu k ?_ ?_<;>intro U k
  ·refine Jw 1 ?_;refine J3 3 [(2,.slice none 0 0),(3,A.i u.2)] (Jy 1 ?_);obtain rfl:=J8 k;refine Uf 44 T53 54 ?_;exact V8 [(0,44)] ⟨none,0,rfl,rfl,hr4⟩
  refine Jw 3 ?_;refine J2 [3] [] [.n,.b 0 0] [(15,.pointer none),(16,.agg #[.slice A0_ p.length c1_])] ?_;exact Vm k
 refine Vf ?_;rw[A.om_s hp18]at k
 refine J3 5 [(4,.pointer (some ⟨B,0,none⟩)),(5,A.i u.2)] (Vb 3 ?_);refine J3 2 [(13,.bool (decide (u.2≠0)))] (Jy 1 ?_);refine Vu k ?_ ?_<;>intro U k
 ·refine Jw 1 ?_;refine J3 3 [(2,.slice none 0 0),(3,A.i u.2)] (Jy 1 ?_);obtain rfl:=J8 k;refine Uf 45 T53 54 ?_;exact V8 [(0,45)] ⟨none,0,rfl,rfl,hr11⟩
 refine Jw 3 ?_;refine J2 [3] [] [.n,.b 0 0] [(15,.pointer (some ⟨B,0,none⟩)),(16,.agg #[.slice A0_ p.length c1_])] ?_;refine Vv 46 [] k (o_ao L A0_ B J N O c1_ E p) (.m 4 (.m 5 (.m 6 (.m 7 (.s 0 .nil))))) ?_;rintro z - k _ _ ⟨x,y,rfl,rfl⟩;refine Vf ?_;refine V9 47 4 [] ?_;refine V9 48 5 [] ?_;refine V9 49 6 [] ?_;refine V9 50 7 [] ?_;refine J3 1 [(6,.slice x z.length y)] (Vb 2 ?_);refine J3 1 [(18,.slice x z.length y)] ?_;refine Vv 86 [] k (o_g x y z) (.o 46 .nil) ?_;rintro a1 - k _ _ ⟨rfl,rfl⟩;refine Vf ?_;refine Vb 2 ?_;refine J3 3 [(2,.slice x z.length y),(3,A.i 0)] (Jy 1 ?_);obtain rfl:=J8 k;exact V8 [(0,46)] ⟨x,y,rfl,rfl,J0⟩
end Go.Proofs.YtlbnpmfggfbdoaaGreatDoor
end
section
namespace Go.A
open Go.RowKit Go.Z
section
variable {C:Cx}{l:List (Nat×Value)}{H:List (Nat×Res)}{X:Act→World→Prop}
theorem bta (k:Nat)(js:List Nat){t:Ty}{g:Nat}{T:TypeId}{cs:List Value}(xs:List t.den)(hD:Dats H t cs xs)(h: ∀a w,Fr a C.n C.ds l→Hp C ((k,.own t T (some ⟨g,0,none⟩) xs.length xs)::ded js H) w→X a w)
  (J:hk H k=some (.blk g T cs):=by rfl) (hx:Nat.ble xs.length 100000=true:=by rfl) (N:hng [k] js H=true:=by kernel_rfl): ∀a w,Fr a C.n C.ds l→Hp C H w→X a w:=fun a w hf O=>by
 refine h a w hf (Hp.dd (O.upd (S:=[]) (Ch.refl w) (by simp) (fun b W=>.inl ⟨_,J,W⟩) (fun j N=>by cases N) fun F B q1 q2 _ _ _=>?_) N)
 have hB:Blk w g T cs:=O.hold k _ J
 obtain⟨Y,h2,h3⟩:=Dats.all O hD
 have hx:=Q1 hx
 refine⟨cs,⟨Y,.inr ⟨g,xs.length,cs.toArray,rfl,Xn _,hB,Q0 _,by simp only[maxLen];omega,by simp[Y],by simp[←Y]⟩⟩,h2,fun i y hi=>Qcz (h3 i y hi) fun b W hlt=>q1 b W hlt⟩
end
section
variable {r:Option Nat}{P:Program}{ops:Array Oper}{Q:Exit→Act→World→Prop}{rest lst:List Oper}{C:Cx}{l:List (Nat×Value)}{H:List (Nat×Res)}{d:Nat}{T:TypeId}{pos:String}{af:Array Edge}
theorem AL.ixoA (k kn:Nat){t:Ty}{e':TypeId}{g c n:Nat}{xs:List t.den}{x y:Operand}{i:Int}{kd:IntKind}{v:t.den}{e tt:TypeId}(W:ix xs i=some v)(hlen:n=xs.length)
  (h:t.ok v→tele (lv t) fun ps=>AL r P ops Q rest C ((d,.pointer (some ⟨g,i.toNat*t.size,none⟩))::l) (hcat (kx (kn+1) (rs t v ps)) ((kn,.el (some k) g (i.toNat*t.size) (cl t v ps))::H)))
  (Y:hk H k=some (.own t e' (some ⟨g,0,none⟩) c xs):=by rfl) (hx:ev l x=some (.pointer (some ⟨g,0,none⟩)):=by rfl) (hy:ev l y=some (.int kd i):=by rfl) (ht:P.underlying tt=some (.array n e):=by rfl) (hs:szB P e=some t.size:=by kernel_rfl)
  (hd:Nat.ble (d+1) C.n=true:=by rfl) (hn:nok H kn (1+lv t)=true:=by kernel_rfl):AL r P ops Q (⟨some d,.indexAddr tt x y,T,pos,af,none⟩::rest) C l H:=fun a w hf hh=>by
 subst hlen
 obtain⟨j,rfl,hv⟩:=Qal W
 have hlt:=(Qc.1 hv).1
 obtain⟨G,hR,hG⟩:=rowO Y w hh
 obtain⟨b,o,es,hA,hb,hbl,hc,J⟩:=hR.at hv
 injection hA with hA;injection hA with e1 e2 _;subst e1;subst e2
 obtain⟨ps,hl,rfl,hrs⟩:=rep_cl (B:=Bk H) t (Qah t J)
 have hn':nok H kn (1+(rs t v ps).length)=true:=by rw[Qbg t v ps hl];exact hn
 have hnk:hk H kn=none:=Qaw hn' (Q0 _) (by omega)
 rw[Wh]at hc
 have h1:Hp C ((kn,.el (some k) g (j*t.size) (cl t v ps))::H) w:=hh.add hnk rfl (fun i W r J=>by injection W with W;subst W;rw[Y]at J;injection J with J;subst J;rfl) ⟨hc,hbl,hG g hb⟩
 have hnn: ∀n k',nok H k' n=true→(∀i,k'≤i→i<k'+n→i≠kn)→nok ((kn,.el (some k) g (j*t.size) (cl t v ps))::H) k' n=true:=by
  intro n
  induction n with
  |zero=>intro _ _ _;rfl
  |succ n ih=>
   intro k' h2 h3
   simp only[nok,Ql]at h2 ⊢
   refine⟨?_,ih (k'+1) h2.2 fun i h4 h5=>h3 i (by omega) (by omega)⟩
   rw[Qaa,if_neg (Ne.symm (h3 k' (Q0 _) (by omega)))];exact h2.1
 have hn2:nok H (kn+1) (rs t v ps).length=true:=by
  rw[Yr 1]at hn'
  simp only[nok,Ql]at hn';exact hn'.2
 have h2:Hp C (hcat (kx (kn+1) (rs t v ps)) ((kn,.el (some k) g (j*t.size) (cl t v ps))::H)) w:=by
  refine h1.adds (hnn _ _ hn2 fun i h4 _=>by omega) fun r2 h4=>?_
  obtain⟨h5,h6,h7⟩:=hrs r2 h4
  have N: ∀i b',Bk ((kn,.el (some k) g (j*t.size) (cl t v ps))::H) i b'↔Bk H i b':=fun i b'=>by
   by_cases O:i=kn
   ·subst O
    rw[Bk.cons_eq]
    exact⟨fun h=>by simp[Res.bl]at h,fun⟨_,h8,_⟩=>by rw[hnk]at h8;cases h8⟩
   ·exact Bk.cons_ne O
  exact⟨h6,h7,Res.to h5 (S:=[]) (Ch.refl w) (fun b' hF _=>⟨by simp,⟨fun i O=>hF.1.1 i ((N i b').1 O),hF.1.2⟩,hF.2⟩) (fun b' hB _=>⟨by simp,fun i O=>hB i ((N i b').1 O)⟩) (fun i b' _ hB=>⟨by simp,(N i b').2 hB⟩) (by simp)⟩
 refine Z.val (v:=.pointer (some ⟨g,j*t.size,none⟩)) hf hd ?_ fun a' hf'=>Qaq (h (rep_ok t J)) ps hl a' w hf' h2
 have:=r_indexArr (P:=P) (a:=a) (w:=w) (T:=T) (pos:=pos) (af:=af) (dd:=some d) (gd:=none) (o:=0) ht (Qai hs) (hf.eval hx) (hf.eval hy) (by omega) (by omega)
 rw[Wh,Qq]at this
 exact this
end
def b8 (x:Int):UInt8:=UInt8.ofNat (x%256).toNat
def Fz (fz:Nat×Nat)(n:Nat):Prop:=∀j,j<n→¬(fz.1≤j∧j<fz.2)
def Bs (e:TypeId)(c:Nat)(xs:List UInt8):Obj→Prop:=fun o=>∃(cur:Array Value) (fz:Nat×Nat),o=.cells cur e fz∧Fz fz c∧cur.size=c∧c≤maxLen∧xs.length≤c∧∀(j:Nat) (b:UInt8),xs[j]?=some b→cur[j]?=some (.int .u8 (b.toNat:Int))
section
variable {r:Option Nat}{P:Program}{ops:Array Oper}{Q:Exit→Act→World→Prop}{rest:List Oper}{C:Cx}{l:List (Nat×Value)}{H:List (Nat×Res)}{d:Nat}{T:TypeId}{pos:String}{af:Array Edge}
end
end Go.A
end
section
namespace Go.Z
open Go.RowKit Go.Lib
section
variable {P:Program}{a:Act}{w:World}{d:Option Tmp}{T:TypeId}{pos:String}{af:Array Edge}{gd:Option (Nat×Bool)}
theorem r_sliceA_l {t e:TypeId}{x lo:Operand}{n sz g o u:Nat}{k:IntKind}{p:Int}(J:P.underlying t=some (.array n e))(N: ∀w,(sizeOf e).run P w=.ok sz w)(O:a.eval x=.pointer (some ⟨g,o,none⟩))(W:a.eval lo=.int k p)(hp:p=(u:Int))(Y:u≤n):
  (execOp a.eval ⟨d,.slice t x (some lo) none none,T,pos,af,gd⟩).run P w=.ok (.value (.slice (cutA (some ⟨g,o,none⟩) n u sz) (n-u) (n-u))) w:=by
 subst hp
 by_cases hc:n=u<;>simp[execOp,Instr.sliceAt,run_underlying J,O,W,Instr.sureAddr,Instr.sliceBounds,Instr.sliceBound,asIntOf,Y,N,cutA,hc]
end
end Go.Z
namespace Go.A
open Go.RowKit Go.Z
theorem arr4 {τ:Type}{a b c d y:τ}{i:Int}{Q:Int→Prop}(h:ix [a,b,c,d] i=some y)(J:Q 0)(N:Q 1)(O:Q 2)(W:Q 3):Q i:=by
 obtain⟨p,q⟩:=ix_ok h
 simp only[Qh,Qx]at q
 have:i=0∨i=1∨i=2∨i=3:=by omega
 rcases this with rfl|rfl|rfl|rfl<;>assumption
theorem ite_has {k:IntKind}{p:Prop}[Decidable p]{x y:Int}(J:k.has x)(N:k.has y):k.has (if p then x else y):=by split<;>assumption
section
variable {r:Option Nat}{P:Program}{ops:Array Oper}{Q:Exit→Act→World→Prop}{rest lst:List Oper}{C:Cx}{l:List (Nat×Value)}{H:List (Nat×Res)}{d:Nat}{T:TypeId}{pos:String}{af:Array Edge}
theorem AL.stb (k:Nat)(js:List Nat){τ:Type}{vals:List τ}{v0:τ}{t bt:TypeId}{x y:Operand}{g o:Nat}{i:Int}{cs cs':List Value}{v:Value}(hi:ix vals i=some v0)(hc:cs'=cs.set (o+i.toNat*1) v)
  (h:AL r P ops Q rest C l ((k,.blk g bt cs')::ded js H))
  (O:hk H k=some (.blk g bt cs):=by rfl) (hx:ev l x=some (.pointer (some ⟨g,o+i.toNat*1,none⟩)):=by rfl) (hy:ev l y=some v:=by rfl) (hS:szB P t=some 1:=by kernel_rfl)
  (hv:v.cells=[v].toArray:=by rfl) (ho:Nat.ble (o+vals.length) cs.length=true:=by rfl) (h1:v.oneCell'=true:=by rfl) (W:hng [k] js H=true:=by kernel_rfl):
  AL r P ops Q (⟨none,.store t x y,T,pos,af,none⟩::rest) C l H:=fun a w hf hh=>by
 obtain⟨p,q⟩:=ix_ok hi
 have ho:=Q1 ho
 have N:o+i.toNat*1<cs.length:=by omega
 refine Z.st_store (new:=[v]) (cs':=cs') hf (hh.hold k _ O) hx hy (Qai hS) hv rfl (Nat.ble_eq_true_of_le N) (fun u hu=>by simp at hu;subst hu;exact h1) ?_ fun w' a' hs hb' Y hf'=>
  h a' w' hf' (Hp.dd (hh.upd Y (fun b J=>⟨_,O,J⟩) (fun b J=>.inl ⟨_,O,J⟩) (fun j W=>by cases W) fun _ _ _ _ _ _ _=>hb') W)
 rw[hc,List.set_eq_take_append_cons_drop,if_pos N,Wf];rfl
theorem AL.ixv {τ:Type}(f:τ→Value)(vals:List τ){tt e:TypeId}{n:Nat}{x y:Operand}{i:Int}{kd:IntKind}{v:τ}(N:ix vals i=some v)(h:AL r P ops Q rest C ((d,f v)::l) H)
  (W:ev l x=some (.agg (vals.map f).toArray):=by rfl) (Y:ev l y=some (.int kd i):=by rfl) (ht:P.underlying tt=some (.array n e):=by rfl) (hl:vals.length=n:=by rfl) (O:szB P e=some 1:=by kernel_rfl) (hA:aggB P e=some false:=by kernel_rfl) (hd:Nat.ble (d+1) C.n=true:=by rfl):
  AL r P ops Q (⟨some d,.index tt x y,T,pos,af,none⟩::rest) C l H:=fun a w J hh=>by
 subst hl
 obtain⟨p,q⟩:=ix_ok N
 obtain⟨j,rfl,hj⟩:=Qal N
 refine Z.val J hd ?_ fun a' hf'=>h a' w hf' hh
 have h0:(part e (vals.map f).toArray (((j:Int)).toNat*1)).run P w=.ok (f v) w:=Z.part_one w (Qce hA) (by simp[hj])
 simp only[execOp,Instr.index,Sem.run_bind,J.eval W,J.eval Y,asIntOf,Sem.run_pure,Result.andThen_ok,run_underlying ht,Qai O w]
 rw[if_pos ⟨p,q⟩]
 simp only[Sem.run_bind,Qai O w,Result.andThen_ok,h0,Sem.run_pure]
theorem AL.cutv (k:Nat){t:Ty}{tt e e':TypeId}{x lo:Operand}{A:Option Addr}{c u:Nat}{xs:List t.den}{O:IntKind}{p:Int}(hp:p=(u:Int))(W:u≤xs.length)
  (h:AL r P ops Q rest C ((d,.slice (cutA A c u t.size) (xs.length-u) (c-u))::l) H)
  (Y:hk H k=some (.own t e' A c xs):=by rfl) (hx:ev l x=some (.slice A xs.length c):=by rfl) (J:ev l lo=some (.int O p):=by rfl) (hS:szB P e=some t.size:=by kernel_rfl)
  (ht:P.underlying tt=some (.slice e):=by rfl) (hd:Nat.ble (d+1) C.n=true:=by rfl):AL r P ops Q (⟨some d,.slice tt x (some lo) none none,T,pos,af,none⟩::rest) C l H:=fun a w N hh=>
 Z.val N hd (Qii ht (Qai hS) (N.eval hx) (N.eval J) hp W) fun a' hf'=>h a' w hf' hh
theorem Row.drop {t:Ty}{w:World}{F G:Nat→Prop}{A:Option Addr}{c u:Nat}{xs:List t.den}(h:Row t w F G A c xs)(hu:u≤xs.length):Row t w F G (cutA A c u t.size) (c-u) (xs.drop u):=by
 obtain⟨h2,h3,cells,W,J,h6⟩:=h
 refine⟨by rw[Xp];omega,by omega,cells.drop (u*t.size),by rw[Xp,Xp,W,Nat.sub_mul],?_,fun i x N=>?_⟩
 ·rw[Xp]
  by_cases Y:xs.length-u=0
  ·exact .inl Y
  ·rcases J with J|⟨b,o,rfl,hb,hc⟩
   ·omega
   ·refine .inr ⟨b,o+u*t.size,by unfold cutA;rw[if_neg (by omega),Wl,Addr.add_lit],hb,fun j v O=>?_⟩
    rw[We]at O
    rw[Y9];exact hc _ v O
 ·rw[We]at N
  rw[X5,←Xz]
  exact h6 _ x N
theorem AL.ixw (k kn:Nat){t:Ty}{e':TypeId}{A:Option Addr}{c u O:Nat}{xs:List t.den}{x y:Operand}{i:Int}{kd:IntKind}{v:t.den}{e tt:TypeId}(W:ix (xs.drop u) i=some v)(Y:u≤xs.length)(hlen:O-u=xs.length-u)
  (h:t.ok v→tele (lv t) fun ps=>∀b o,AL r P ops Q rest C ((d,.pointer (some ⟨b,o+i.toNat*t.size,none⟩))::l) (hcat (kx (kn+1) (rs t v ps)) ((kn,.el (some k) b (o+i.toNat*t.size) (cl t v ps))::H)))
  (J:hk H k=some (.own t e' A c xs):=by rfl) (hx:ev l x=some (.slice (cutA A c u t.size) (O-u) (c-u)):=by rfl) (hy:ev l y=some (.int kd i):=by rfl) (ht:P.underlying tt=some (.slice e):=by rfl) (hs:szB P e=some t.size:=by kernel_rfl)
  (hd:Nat.ble (d+1) C.n=true:=by rfl) (hn:nok H kn (1+lv t)=true:=by kernel_rfl):AL r P ops Q (⟨some d,.indexAddr tt x y,T,pos,af,none⟩::rest) C l H:=
 AL.ixc (ko:=some k) (fun w hh=>by
  obtain⟨G,hR,hG⟩:=rowO J w hh
  exact⟨G,hR.drop Y,hG⟩) (fun j h r N=>by injection h with h;subst h;rw[J]at N;injection N with N;subst N;rfl) (by rw[hx,hlen,Xp]) hy W ht hs (fun ho=>Qch (fun ps h b o _=>h b o) (h ho)) hd fun ps hl=>by rw[Qbg t v ps hl];exact hn
end
section
variable {C:Cx}{l:List (Nat×Value)}{H:List (Nat×Res)}{P:Program}
theorem vw {x:Operand}{A:Option Addr}{c J u:Nat}{α:Type}{xs:List α}(N:ev l x=some (.slice A (J-u) c))(h:J-u=xs.length-u):ev l x=some (.slice A (xs.drop u).length c):=by rw[N,h,Xp]
theorem pkw {X:Act→World→Prop}(k kn:Nat){t:Ty}{e:TypeId}{A:Option Addr}{c u:Nat}{xs:List t.den}{i:Int}{v:t.den}(hi:ix (xs.drop u) i=some v)(hu:u≤xs.length)
  (h:t.ok v→tele (lv t) fun ps=>∀b o,cutA A c u t.size=some ⟨b,o,none⟩→∀a w,Fr a C.n C.ds l→Hp C (hcat (kx (kn+1) (rs t v ps)) ((kn,.el (some k) b (o+i.toNat*t.size) (cl t v ps))::H)) w→X a w)
  (Y:hk H k=some (.own t e A c xs):=by rfl) (hn:nok H kn (1+lv t)=true:=by kernel_rfl): ∀a w,Fr a C.n C.ds l→Hp C H w→X a w:=fun a w hf hh=>by
 obtain⟨k',rfl,hv⟩:=Qal hi
 obtain⟨G,hR,hG⟩:=rowO Y w hh
 obtain⟨b,o,es,hA,hb,hbl,hc,N⟩:=(hR.drop hu).at hv
 obtain⟨ps,hl,rfl,hrs⟩:=rep_cl (B:=Bk H) t (Qah t N)
 have hnk:hk H kn=none:=Qaw hn (Q0 _) (by omega)
 have h1:Hp C ((kn,.el (some k) b (o+k'*t.size) (cl t v ps))::H) w:=hh.add hnk rfl (fun j J r N=>by injection J with J;subst J;rw[Y]at N;injection N with N;subst N;rfl) ⟨hc,hbl,hG b hb⟩
 have hn2:nok H (kn+1) (rs t v ps).length=true:=by
  rw[Qbg t v ps hl]
  rw[Yr 1]at hn
  simp only[nok,Ql]at hn;exact hn.2
 have hnn: ∀n O,nok H O n=true→(∀j,O≤j→j<O+n→j≠kn)→nok ((kn,.el (some k) b (o+k'*t.size) (cl t v ps))::H) O n=true:=by
  intro n
  induction n with
  |zero=>intro _ _ _;rfl
  |succ n ih=>
   intro O h2 h3
   simp only[nok,Ql]at h2 ⊢
   refine⟨?_,ih (O+1) h2.2 fun j h4 h5=>h3 j (by omega) (by omega)⟩
   rw[Qaa,if_neg (Ne.symm (h3 O (Q0 _) (by omega)))];exact h2.1
 have h2:Hp C (hcat (kx (kn+1) (rs t v ps)) ((kn,.el (some k) b (o+k'*t.size) (cl t v ps))::H)) w:=by
  refine h1.adds (hnn _ _ hn2 fun j h4 _=>by omega) fun r2 h4=>?_
  obtain⟨h5,h6,h7⟩:=hrs r2 h4
  have W: ∀j b',Bk ((kn,.el (some k) b (o+k'*t.size) (cl t v ps))::H) j b'↔Bk H j b':=fun j b'=>by
   by_cases J:j=kn
   ·subst J
    rw[Bk.cons_eq]
    exact⟨fun h=>by simp[Res.bl]at h,fun⟨_,h8,_⟩=>by rw[hnk]at h8;cases h8⟩
   ·exact Bk.cons_ne J
  exact⟨h6,h7,Res.to h5 (S:=[]) (Ch.refl w) (fun b' hF _=>⟨by simp,⟨fun j J=>hF.1.1 j ((W j b').1 J),hF.1.2⟩,hF.2⟩) (fun b' hB _=>⟨by simp,fun j J=>hB j ((W j b').1 J)⟩) (fun i b' _ hB=>⟨by simp,(W i b').2 hB⟩) (by simp)⟩
 exact Qaq (h (rep_ok t N)) ps hl b o hA a w hf (by rw[Qq];exact h2)
theorem pkb {X:Act→World→Prop}(k kn:Nat){τ:Type}(f:τ→Value)(vals:List τ)(o:Nat){bt:TypeId}{g:Nat}{cs:List Value}{i:Int}{v:τ}(J:ix vals i=some v)
  (h: ∀a w,Fr a C.n C.ds l→Hp C ((kn,.el (some k) g (o+i.toNat*1) [f v])::H) w→X a w)
  (O:hk H k=some (.blk g bt cs):=by rfl) (W:(cs.drop o).take vals.length=vals.map f:=by rfl) (hn:hk H kn=none:=by kernel_rfl): ∀a w,Fr a C.n C.ds l→Hp C H w→X a w:=fun a w hf hh=>by
 obtain⟨j,rfl,hj⟩:=Qal J
 have hB:Blk w g bt cs:=hh.hold k _ O
 refine h a w hf (hh.add hn rfl (fun i J r N=>by
   simp only[Res.ref,Qt]at J;subst J;rw[O]at N;injection N with N;subst N;rfl) ⟨fun q u Y=>?_,hB.lt,⟨_,O,by simp[Res.bl]⟩⟩)
 cases q with
 |succ q=>simp at Y
 |zero=>
  simp only[Xd,Qt]at Y
  subst Y
  rw[Addr.add_lit,Yx,hB.cell,Qq,Jk]
  have hlt:=(Qc.1 hj).1
  have h3:((cs.drop o).take vals.length)[j]?=some (f v):=by rw[W,Qu,hj];rfl
  rw[Qr hlt,We]at h3
  exact h3
end
end Go.A
end
section
namespace Go.Proofs.YtlbnpmfggfbdoaaGreatDoor
open Go.RowKit
def F.dB (k:Int):Option Bool:=some (bif decide ((0:Int)≤k)then decide (k≤1048576)else false)
theorem o_aG (k:Int)(p:A.h6 k)(r:Bool)(o:F.dB k=some r):
    A.Ct Tryz.prog 132 [A.i k] [] [] (fun v H'=>v=.bool r∧H'=[]):=by
 refine J1 Tryz.func132 rfl Tryz.ntmps132 rfl fun s u=>?_;rw[F.dB]at o;refine Jw 1 ?_;refine J3 1 [] (Vb 2 ?_);refine J2 [] [] [.n,.n,.n,.sy .n,.sy .n,.pk,.n] [(2,.bool (bif decide ((0:Int)≤k)then decide (k≤1048576)else false))] (Jy 1 ?_);obtain rfl:=J8 o;exact J9 [] ⟨rfl,rfl⟩
def F.cG:Option Bool:=some false
def F.cH (k:D44):Nat→Int→Option Bool
 |0,_=>none
 |f+1,o=>if o<4 then((A.ix [k.2.2.2.2.1,k.2.2.2.2.2.1,k.2.2.2.2.2.2.1,k.2.2.2.2.2.2.2] o).bind fun p=>((F.dB p).bind fun s=>(if(!s)=true then(some false)else(if(bif decide (k.2.2.2.1≤o)then decide (p≠0)else false)=true then(some false)else(A.gd (Z.R64 (o+1)) ((F.cH k f) (o+1)))))))else(some true)
def F.am (k:D44):Option Bool:=if(bif decide (k.1<0)then true else decide ((4:Int)<k.1))=true then(F.cG)else(if(bif decide (k.2.2.2.1<0)then true else decide ((4:Int)<k.2.2.2.1))=true then(F.cG)else(A.gd (((bif decide (k.2.1<0)then true else decide (k.1<k.2.1))=false→Z.R64 (k.2.1+k.2.2.2.1))) (if(bif bif decide (k.2.1<0)then true else decide (k.1<k.2.1)then true else decide ((4:Int)<k.2.1+k.2.2.2.1))=true then(F.cG)else((F.dB k.2.2.1).bind fun o=>(if(!o)=true then(F.cG)else(if(bif decide (k.2.1=0)then decide (k.2.2.1≠0)else false)=true then(F.cG)else(F.cH k A.FU 0)))))))
theorem o_v (o:D44)(a1:A.h6 o.1)(a2:A.h6 o.2.1)(J:A.h6 o.2.2.1)(a3:A.h6 o.2.2.2.1)(L:A.h6 o.2.2.2.2.1)(N:A.h6 o.2.2.2.2.2.1)(O:A.h6 o.2.2.2.2.2.2.1)(U:A.h6 o.2.2.2.2.2.2.2)(r:Bool)(k:F.am o=some r):
    A.Ct Tryz.prog 91 [(A.rai o)] [] [] (fun v H'=>v=.bool r∧H'=[]):=by
 refine J1 Tryz.func91 rfl Tryz.ntmps91 rfl fun w0 F0=>?_;rw[F.am]at k;refine Jw 1 ?_;refine Va 0 (cs:=(A.rac o)) fun g1=>?_;refine J3 1 [] (Jy 3 ?_);refine J7 [] [] (fun x y=>x=[]∧y=[]∧F.cG=some r) ?_ ?_
 ·refine Jw 7 ?_;refine J2 [0] [] [.n,.b 0 0,.n,.n,.sy .n,.sy (.b 0 0),.sy .n,.pk,.n] [(5,.bool (bif decide (o.1<0)then true else decide ((4:Int)<o.1)))] (Jy 1 ?_);refine Ue k ?_ ?_<;>intro s k
  ·refine V1 4 ?_;exact Vk ⟨rfl,rfl,k⟩
  refine Jw 4 ?_;refine J2 [0] [] [.n,.b 0 3,.n,.n,.sy .n,.sy (.b 0 3),.sy .n,.pk,.n] [(14,.bool (bif decide (o.2.2.2.1<0)then true else decide ((4:Int)<o.2.2.2.1)))] (Jy 1 ?_);refine Ue k ?_ ?_<;>intro s k
  ·refine V1 3 ?_;exact Vk ⟨rfl,rfl,k⟩
  refine Jw 4 ?_;have⟨V,k⟩:=Vt k;refine A.q [0] [] [.n,.b 0 1,.n,.n,.sy .n,.sy (.b 0 1),.sy .n,.sy (.b 0 0),.sy .n,.pk,.n,.sy .n,.sy (.b 0 1),.sy .n,.sy (.b 0 3),.sy .n,.sy .n,.pk,.n] [(bif decide (o.2.1<0)then true else decide (o.1<o.2.1))=false→Z.R64 (o.2.1+o.2.2.2.1)] [(23,.bool (bif bif decide (o.2.1<0)then true else decide (o.1<o.2.1)then true else decide ((4:Int)<o.2.1+o.2.2.2.1)))] V (Jy 1 ?_);refine Ue k ?_ ?_<;>intro s k
  ·refine V1 2 ?_;exact Vk ⟨rfl,rfl,k⟩
  refine Jw 3 ?_;refine J2 [0] [] [.n,.b 0 2] [(44,A.i o.2.2.1)] ?_;refine Vv 1 [] k (o_aG o.2.2.1 J) .nil ?_;rintro W - k _ _ ⟨rfl,rfl⟩;refine Vf ?_;refine J3 2 [(47,.bool (!W))] ?_;refine Vs (j:=47) rfl k (fun k=>?_) (fun k=>?_)
  ·refine J2 [] [] [.off,.off,.off,.off,.off,.off,.off,.off,.n,.n] [(42,.bool true)] (Jy 1 ?_);refine Ui rfl ?_;refine V1 1 ?_;exact Vk ⟨rfl,rfl,k⟩
  refine J2 [0] [] [.on .n,.on (.b 0 1),.on .n,.on .n,.sy .n,.sy (.b 0 2),.sy .n,.on .pk,.n,.n] [(42,.bool (bif decide (o.2.1=0)then decide (o.2.2.1≠0)else false))] (Jy 1 ?_);refine Ue k ?_ ?_<;>intro s k
  ·refine V1 1 ?_;exact Vk ⟨rfl,rfl,k⟩
  refine Jw 6 ?_;refine J2 [0] [] [.n,.b 0 4,.n] [(58,(A.rag o.2.2.2.2)),(59,A.i 0)] (Jy 2 ?_);refine Vo [1,58] [0] (fun f x y=>∃(p:Int),x=[(59,A.i p)]∧y=[]∧A.h6 p∧F.cH o f p=some r) ⟨0,rfl,rfl,J0,k⟩ ?_;rintro z _ _ ⟨p,rfl,rfl,a4,k⟩;rcases z with _|z
  ·exact Vm k
  rw[F.cH]at k;refine Jw 1 ?_;refine J3 1 [(60,.bool (decide (p<4)))] (Jy 2 ?_);refine Vu k ?_ ?_<;>intro s k
  ·refine Jw 5 ?_;refine J3 1 [(61,A.i p)] ?_;have⟨u,B,k⟩:=Vy k;refine A.AL.ixv (fun v:Int=>A.i v) [o.2.2.2.2.1,o.2.2.2.2.2.1,o.2.2.2.2.2.2.1,o.2.2.2.2.2.2.2] B ?_;refine J3 2 [(3,A.i p),(4,A.i u)] (Vb 2 ?_);refine J3 1 [(63,A.i u)] ?_;refine Vv 121 [] k (o_aG u (Ux B (Qa.2 ⟨L,(Qa.2 ⟨N,(Qa.2 ⟨O,(Qa.2 ⟨U,(by simp)⟩)⟩)⟩)⟩))) .nil ?_;rintro Y - k _ _ ⟨rfl,rfl⟩;refine Vf ?_;refine J3 2 [(66,.bool (!Y))] ?_;refine Vs (j:=66) rfl k (fun k=>?_) (fun k=>?_)
   ·refine J2 [] [] [.off,.off,.off,.off,.off,.off,.off,.off,.n] [(75,.bool true)] (Jy 1 ?_);refine Ui rfl ?_;refine Jw 1 ?_;refine J3 1 [(2,.bool false)] (Jy 1 ?_);obtain rfl:=J8 k;exact J9 [] ⟨rfl,rfl⟩
   refine J2 [0] [] [.on .n,.on .n,.on (.b 0 3),.on .n,.on .n,.sy .n,.sy .n,.on .pk,.n] [(75,.bool (bif decide (o.2.2.2.1≤p)then decide (u≠0)else false))] (Jy 1 ?_);refine Ue k ?_ ?_<;>intro s k
   ·refine Jw 1 ?_;refine J3 1 [(2,.bool false)] (Jy 1 ?_);obtain rfl:=J8 k;exact J9 [] ⟨rfl,rfl⟩
   refine Jw 3 ?_;have⟨E,k⟩:=Vt k;refine Uc 2 [Z.R64 (p+1)] [(59,A.i (p+1))] E (Jz ?_);exact Vk ⟨_,Qi _,⟨(p+1),rfl,rfl,(J4 E),k⟩⟩
  refine Jw 3 ?_;refine J3 1 [(2,.bool true)] (Jy 1 ?_);obtain rfl:=J8 k;exact J9 [] ⟨rfl,rfl⟩
 rintro _ _ ⟨rfl,rfl,k⟩;rw[F.cG]at k;refine Jw 2 ?_;refine J3 1 [(2,.bool false)] (Jy 1 ?_);obtain rfl:=J8 k;exact J9 [] ⟨rfl,rfl⟩
def F.dn (k:D44):Option Int:=(F.am k).bind fun o=>(if(!o)=true then(some 0)else(A.gd (Z.R64 (k.2.1+k.2.2.2.1)) (some (k.2.1+k.2.2.2.1))))
theorem o_aO (k:D44)(s:A.h6 k.1)(u:A.h6 k.2.1)(x:A.h6 k.2.2.1)(y:A.h6 k.2.2.2.1)(z:A.h6 k.2.2.2.2.1)(B:A.h6 k.2.2.2.2.2.1)(E:A.h6 k.2.2.2.2.2.2.1)(J:A.h6 k.2.2.2.2.2.2.2)(r:Int)(o:F.dn k=some r):
    A.Ct Tryz.prog 106 [(A.rai k)] [] [] (fun v H'=>v=A.i r∧H'=[]∧A.h6 r):=by
 refine J1 Tryz.func106 rfl Tryz.ntmps106 rfl fun N O=>?_;rw[F.dn]at o;refine Jw 1 ?_;refine Va 0 (cs:=(A.rac k)) fun U=>?_;refine J3 1 [] (Vb 3 ?_);refine J2 [0] [] [.b 0 0] [(3,(A.rai k))] ?_;refine Vv 1 [] o (o_v k s u x y z B E J) .nil ?_;rintro L - o _ _ ⟨rfl,rfl⟩;refine Vf ?_;refine J3 1 [(5,.bool (!L))] (Jy 1 ?_);refine Ue o ?_ ?_<;>intro V o
 ·refine Jw 1 ?_;refine J3 1 [(2,A.i 0)] (Jy 1 ?_);obtain rfl:=J8 o;exact J9 [] ⟨rfl,rfl,J0⟩
 refine Jw 3 ?_;have⟨p,o⟩:=Vt o;refine A.q [0] [] [.n,.b 0 1,.n,.b 0 3,.n,.n] [Z.R64 (k.2.1+k.2.2.2.1)] [(2,A.i (k.2.1+k.2.2.2.1))] p (Jy 1 ?_);obtain rfl:=J8 o;exact J9 [] ⟨rfl,rfl,(J4 p)⟩
def F.cW (k:D44):Option (D44):=some k
theorem o_aB (k:D44)(s:A.h6 k.1)(u:A.h6 k.2.1)(x:A.h6 k.2.2.1)(y:A.h6 k.2.2.2.1)(z:A.h6 k.2.2.2.2.1)(B:A.h6 k.2.2.2.2.2.1)(E:A.h6 k.2.2.2.2.2.2.1)(J:A.h6 k.2.2.2.2.2.2.2)(r:(D44))(o:F.cW k=some r):
    A.Ct Tryz.prog 169 [(A.rai k)] [] [] (fun v H'=>∃(g0':Nat),v=.func (.func 186) #[] #[.pointer (some ⟨g0',0,none⟩)]∧H'=[(0,.blk g0' 45 (A.rac r))]∧A.h6 r.1∧A.h6 r.2.1∧A.h6 r.2.2.1∧A.h6 r.2.2.2.1∧A.h6 r.2.2.2.2.1∧A.h6 r.2.2.2.2.2.1∧A.h6 r.2.2.2.2.2.2.1∧A.h6 r.2.2.2.2.2.2.2):=by
 refine J1 Tryz.func169 rfl Tryz.ntmps169 rfl fun L N=>?_;rw[F.cW]at o;refine Jw 1 ?_;refine Va 0 (cs:=(A.rac k)) fun p=>?_;refine J3 1 [] (Vb 2 ?_);refine J3 2 [(2,.func (.func 186) #[] #[.pointer (some ⟨p,0,none⟩)])] (Jy 1 ?_);obtain rfl:=J8 o;exact J9 [(0,0)] ⟨p,rfl,rfl,s,u,x,y,z,B,E,J⟩
end Go.Proofs.YtlbnpmfggfbdoaaGreatDoor
end
section
namespace Go.A
open Go.RowKit Go.Z
structure In1 (T t:Ty) where
 get:T.den→List t.den
 set:T.den→List t.den→T.den
 pos:Nat
 hlt:pos<T.size
 hcl: ∀x ys p q,cl T (set x ys) [q]=(cl T x [p]).set pos (.slice q.1 ys.length q.2)
 hgs: ∀x ys,get (set x ys)=ys
 hss: ∀x a b,set (set x a) b=set x b
 hsg: ∀x,set x (get x)=x
 hrep: ∀(w:World) (F:Nat→Prop) x ys p q,T.rep w F (cl T x [p]) x→(Ty.slice t).rep w F [.slice q.1 ys.length q.2] ys→T.rep w F (cl T (set x ys) [q]) (set x ys)
section
variable {T t:Ty}{I:In1 T t}{e ei:TypeId}{A:Option Addr}{c:Nat}{xs:List T.den}{As:Lf}{h:Option Nat}
end
section
variable {C:Cx}{l:List (Nat×Value)}{H:List (Nat×Res)}{X:Act→World→Prop}{T t:Ty}{e ei:TypeId}{A:Option Addr}{c:Nat}{xs:List T.den}{As:Lf}
end
section
variable {r:Option Nat}{P:Program}{ops:Array Oper}{Q:Exit→Act→World→Prop}{rest lst:List Oper}{C:Cx}{l:List (Nat×Value)}{H:List (Nat×Res)}{d:Nat}{T0:TypeId}{pos:String}{af:Array Edge}{T t:Ty}{e ei:TypeId}{A:Option Addr}{c:Nat}{xs ys:List T.den}{As Bs:Lf}
end
section
variable {r:Option Nat}{P:Program}{ops:Array Oper}{Q:Exit→Act→World→Prop}{C:Cx}{l:List (Nat×Value)}{H Hq:List (Nat×Res)}{m f:Nat}{li:List Bool}
end
end Go.A
end
section
namespace Go.Z
open Go.RowKit Go.Lib
section
variable {P:Program}{a:Act}{w:World}{d:Option Tmp}{T:TypeId}{pos:String}{af:Array Edge}{gd:Option (Nat×Bool)}
theorem r_sliceA_h {t e:TypeId}{x J:Operand}{n sz g o v:Nat}{k:IntKind}{p:Int}(N:P.underlying t=some (.array n e))(O: ∀w,(sizeOf e).run P w=.ok sz w)(W:a.eval x=.pointer (some ⟨g,o,none⟩))(Y:a.eval J=.int k p)(hp:p=(v:Int))(h1:v≤n):
  (execOp a.eval ⟨d,.slice t x none (some J) none,T,pos,af,gd⟩).run P w=.ok (.value (.slice (some ⟨g,o,none⟩) v n)) w:=by
 subst hp
 by_cases hc:n=0
 ·obtain rfl:v=0:=by omega
  simp[execOp,Instr.sliceAt,run_underlying N,W,Y,Instr.sureAddr,Instr.sliceBounds,Instr.sliceBound,asIntOf,O,hc,Addr.add]
 ·simp[execOp,Instr.sliceAt,run_underlying N,W,Y,Instr.sureAddr,Instr.sliceBounds,Instr.sliceBound,asIntOf,h1,O,hc,Addr.add]
theorem r_sliceA_0 {t e:TypeId}{x:Operand}{n sz g o:Nat}(J:P.underlying t=some (.array n e))(N: ∀w,(sizeOf e).run P w=.ok sz w)(O:a.eval x=.pointer (some ⟨g,o,none⟩)):
  (execOp a.eval ⟨d,.slice t x none none none,T,pos,af,gd⟩).run P w=.ok (.value (.slice (some ⟨g,o,none⟩) n n)) w:=by
 by_cases W:n=0<;>simp[execOp,Instr.sliceAt,run_underlying J,O,Instr.sureAddr,Instr.sliceBounds,Instr.sliceBound,asIntOf,N,W,Addr.add]
end
theorem run_copyZ {P:Program}(w:World)(dT sT ty elem:TypeId)(d a:Option Addr)(dLen dCap sLen sCap m:Nat)(J:P.underlying dT=some (.slice elem))(N:(P.info? elem).map (·.size)=some m)(O:Nat.min sLen dLen=0):
  (Builtin.copy_ #[dT,sT] ty #[.slice d dLen dCap,.slice a sLen sCap]).run P w=.ok (goInt 0) w:=by
 cases hq:P.info? elem with
 |none=>simp[hq]at N
 |some i=>
  have W: ∀(x:Addr),(loadCells x 0).run P w=.ok #[] w:=fun x=>by simpa using run_loadCells_list (P:=P) w x [] (by simp)
  have Y:min sLen dLen=0:=O
  cases d<;>cases a<;>simp[Builtin.copy_,run_underlying J,Builtin.lenOf,Builtin.firstCells,sizeOf,typeInfo,hq,storeCells,W,Y]
end Go.Z
namespace Go.A
open Go.RowKit Go.Z
theorem hp_ch0 {C:Cx}{H:List (Nat×Res)}{w w':World}(h:Hp C H w)(N:Ch [] w w'):Hp C H w':=
 ⟨⟨N.os.trans h.ch.os,N.tape.trans h.ch.tape,N.output.trans h.ch.output,Wk h.ch.size N.size,fun b J O=>by rw[N.block b (Q5 J h.ch.size) (by simp)];exact h.ch.block b J O⟩,
  fun k r hk=>Res.to (h.hold k r hk) N (fun b J _=>⟨by simp,J⟩) (fun b J _=>⟨by simp,J⟩) (fun i b _ W=>⟨by simp,W⟩) (by simp),
  fun k b J=>⟨(h.bnd k b J).1,Q5 (h.bnd k b J).2 N.size⟩,h.dis,h.ref⟩
section
variable {C:Cx}{H:List (Nat×Res)}{w:World}
theorem hp_vbk (k o:Nat)(js:List Nat){t:Ty}(xs:List t.den){g:Nat}{e:TypeId}{cs:List Value}(hD:Dats H t ((cs.drop o).take (xs.length*t.size)) xs)(N:Hp C H w)(h:hk H k=some (.blk g e cs):=by rfl)(Y:Nat.ble xs.length 100000=true:=by rfl)(O:hng [k] js H=true:=by kernel_rfl):
  Hp C ((k,.sh (.slice t) [.slice (some ⟨g,o,none⟩) xs.length xs.length] xs)::ded js H) w:=by
 have hB:Blk w g e cs:=N.hold k _ h
 obtain⟨h1,h2,h3⟩:=Dats.all N hD
 have Y:=Q1 Y
 refine Hp.dd (N.upd (S:=[]) (Ch.refl w) (by simp) (by simp[Res.bl]) (fun j O=>by cases O) fun F B q1 q2 _ _ _=>?_) O
 refine⟨some ⟨g,o,none⟩,xs.length,_,rfl,Q0 _,by simp only[maxLen];omega,h1,.inr ⟨g,o,rfl,q2 g ⟨_,h,by simp[Res.bl]⟩ (by simp[Res.bl]),fun j u J=>?_⟩,fun i y hi=>Qcz (h3 i y hi) fun b hb W=>q1 b hb W⟩
 rw[hB.cell]
 rw[Xg]at J
 split at J
 ·rw[We]at J;exact J
 ·cases J
end
section
variable {r:Option Nat}{P:Program}{ops:Array Oper}{Q:Exit→Act→World→Prop}{rest lst:List Oper}{C:Cx}{l:List (Nat×Value)}{H:List (Nat×Res)}{d:Nat}{T:TypeId}{pos:String}{af:Array Edge}
theorem AL.callF {H1:List (Nat×Res)}(Y: ∀w,Hp C H w→Hp C H1 w){f:FuncId}{c:Operand}{xs:List Operand}{vs vs' first cap:List Value}{ts:Array TypeId}{H0:List (Nat×Res)}{ls:List Nat}{R:Value→List (Nat×Res)→Prop}
  (J: ∀args w,(callFunc f args).run P w=.ok (.enter f args) w) (N:Ct P f vs' H0 [] R) (hs:Sub H1 H0 [] ls)
  (h: ∀v H',R v H'→AL r P ops Q rest C ((d,v)::l) H)
  (hc:ev l c=some (.func (.func f) first.toArray cap.toArray):=by rfl) (hx:evs l xs=some vs:=by rfl) (hv:first++vs++cap=vs':=by rfl) (h1:nod (H0.map (·.1))=true:=by rfl) (hd:Nat.ble (d+1) C.n=true:=by rfl):
  AL r P ops Q (⟨some d,.call {callee:=.value c,args:=xs.toArray,argTypes:=ts},T,pos,af,none⟩::rest) C l H:=fun a w O W=>by
 subst hv
 have h3:ls.all (fun k=> !((([]:List (Nat×Nat)).map (·.2)).any (Nat.beq k)))=true:=Qy.2 fun k _=>rfl
 refine Z.call1 O hd (r_callv J O (first:=first) (cap:=cap) (vs:=vs) (xs:=xs) hc hx) (N w (Fh C H1) (hs.hp (Y w W) h1 rfl h3)) fun e w' ⟨v,H',he,hR,hh'⟩=>⟨v,he,fun a' hf'=>?_⟩
 exact h v H' hR a' w' hf' (hp_ch0 W hh'.ch)
theorem r_ixoA {a:Act}{w:World}{dd:Option Tmp}{gd:Option (Nat×Bool)}{tt e:TypeId}{n sz g:Nat}{x y:Operand}{i:Int}{kd:IntKind}{t:Ty}{xs:List t.den}{v:t.den}(J:ix xs i=some v)(N:n=xs.length)(O:P.underlying tt=some (.array n e))(W: ∀w,(sizeOf e).run P w=.ok sz w)(Y:a.eval x=.pointer (some ⟨g,0,none⟩))(hy:a.eval y=.int kd i)(hs:t.size=sz:=by rfl):
  (execOp a.eval ⟨dd,.indexAddr tt x y,T,pos,af,gd⟩).run P w=.ok (.value (.pointer (some ⟨g,i.toNat*t.size,none⟩))) w:=by
 subst N;subst hs
 have h:=r_indexArr (P:=P) (w:=w) (dd:=dd) (gd:=gd) (T:=T) (pos:=pos) (af:=af) O W Y hy (ix_ok J).1 (ix_ok J).2
 rw[Wh]at h;exact h
theorem AL.ixbE (k kn:Nat){τ:Type}(f:τ→Value)(vals:List τ)(off:Nat){tt e:TypeId}{n b o a0:Nat}{ko:Option Nat}{cs:List Value}{x y:Operand}{i:Int}{kd:IntKind}{v:τ}(N:ix vals i=some v)
  (h:AL r P ops Q rest C ((d,.pointer (some ⟨b,a0+i.toNat*1,none⟩))::l) ((kn,.el ko b (a0+i.toNat*1) [f v])::H))
  (hb:hk H k=some (.el ko b o cs):=by rfl) (ha:a0=o+off:=by rfl) (hx:ev l x=some (.pointer (some ⟨b,a0,none⟩)):=by rfl) (hy:ev l y=some (.int kd i):=by rfl) (ht:P.underlying tt=some (.array n e):=by rfl) (hS:szB P e=some 1:=by kernel_rfl) (hl:vals.length=n:=by rfl) (O:(cs.drop off).take n=vals.map f:=by rfl)
  (hd:Nat.ble (d+1) C.n=true:=by rfl) (hn:hk H kn=none:=by kernel_rfl):AL r P ops Q (⟨some d,.indexAddr tt x y,T,pos,af,none⟩::rest) C l H:=fun a w W Y=>by
 subst hl;subst ha
 have J:=ix_ok N
 obtain⟨j,rfl,hj⟩:=Qal N
 have h0:Res.holds w (Fh C H) (Bk H) (.el ko b o cs):=Y.hold k _ hb
 obtain⟨h1,h2,h3⟩:=h0
 refine Z.val W hd (r_indexArr ht (Qai hS) (W.eval hx) (W.eval hy) J.1 J.2) fun a' hf'=>h a' w hf' (Y.add hn rfl (fun i N r hr=>(Y.ref k _ i hb N).2 r hr) ⟨fun q u hu=>?_,h2,h3⟩)
 cases q with
 |succ q=>simp at hu
 |zero=>
  simp only[Xd,Qt]at hu
  subst hu
  have hlt:=(Qc.1 hj).1
  have h5:((cs.drop off).take vals.length)[j]?=some (f v):=by rw[O,Qu,hj];rfl
  rw[Qr hlt,We]at h5
  have h6:=h1 (off+j) _ h5
  rw[Addr.add_lit]at h6 ⊢
  rw[Yx,Qq,Jk,Y9]
  exact h6
end
section
variable {r:Option Nat}{P:Program}{ops:Array Oper}{Q:Exit→Act→World→Prop}{C:Cx}{l:List (Nat×Value)}{H Hq:List (Nat×Res)}{m f:Nat}{li:List Bool}
theorem AH.thr (i j k:Nat){oi oj ok:Oper}(Y:AL r P ops (HZ r P ops Q (Hp C Hq) m f li.toArray i) [oi] C l H)(h2:AL r P ops (HZ r P ops Q (Hp C Hq) m f li.toArray j) [oj] C l H)(h3:AL r P ops (HZ r P ops Q (Hp C Hq) m f li.toArray k) [ok] C l H)
  (hi:ops[i]?=some oi:=by rfl) (hj:ops[j]?=some oj:=by rfl) (hk:ops[k]?=some ok:=by rfl) (O:Region.ready .any ops li.toArray=[i,j,k]:=by kernel_rfl):AH r P ops Q Hq m (f+1) li C l H:=fun a w J N=>
 ⟨fun W=>(by rw[O]at W;cases W),fun q hq=>by
  rw[O]at hq
  simp only[Qk,Jq,or_false]at hq
  rcases hq with rfl|rfl|rfl
  ·exact Hem.list hi (Y a w J N)
  ·exact Hem.list hj (h2 a w J N)
  ·exact Hem.list hk (h3 a w J N)⟩
end
def cp4 (d s:List Int)(u v v2:Int):Option (Int×Int×Int×Int):=
 if 0≤u∧u≤v∧v≤4∧0≤v2∧v2≤4 then
  match d.take u.toNat++s.take (min (v.toNat-u.toNat) v2.toNat)++d.drop (u.toNat+min (v.toNat-u.toNat) v2.toNat)with
  | [a,b,c,e]=>some (a,b,c,e)
  |_=>none
 else none
theorem cp4_some {d s:List Int}{u v J:Int}{y:Int×Int×Int×Int}(h:cp4 d s u v J=some y):(0≤u∧u≤v∧v≤4∧0≤J∧J≤4)∧d.take u.toNat++s.take (min (v.toNat-u.toNat) J.toNat)++d.drop (u.toNat+min (v.toNat-u.toNat) J.toNat)=[y.1,y.2.1,y.2.2.1,y.2.2.2]:=by
 unfold cp4 at h
 split at h
 ·rename_i N
  refine⟨N,?_⟩
  split at h
  ·rename_i e;rw[e];obtain rfl:=Qo h;rfl
  ·cases h
 ·cases h
theorem cp4_has {d s:List Int}{u v O:Int}{y:Int×Int×Int×Int}(h:cp4 d s u v O=some y){k:IntKind}(N: ∀x∈d,k.has x)(W: ∀x∈s,k.has x):k.has y.1∧k.has y.2.1∧k.has y.2.2.1∧k.has y.2.2.2:=by
 obtain⟨_,e⟩:=cp4_some h
 have key: ∀x∈[y.1,y.2.1,y.2.2.1,y.2.2.2],k.has x:=fun x J=>by
  rw[←e]at J
  rcases Qn.1 J with J|J
  ·rcases Qn.1 J with J|J
   ·exact N x (Yc J)
   ·exact W x (Yc J)
  ·exact N x (List.mem_of_mem_drop J)
 exact⟨key _ (by simp),key _ (by simp),key _ (by simp),key _ (by simp)⟩
theorem cutA4 {g o u:Nat}(h:u<4):Z.cutA (some ⟨g,o,none⟩) 4 u 1=some ⟨g,o+u,none⟩:=by
 unfold Z.cutA;rw[if_neg (by omega),Jk];show some (Addr.add ⟨g,o,none⟩ u)=_;rw[Addr.add_lit]
section
variable {r:Option Nat}{P:Program}{ops:Array Oper}{Q:Exit→Act→World→Prop}{rest lst:List Oper}{C:Cx}{l:List (Nat×Value)}{H:List (Nat×Res)}{d:Nat}{T:TypeId}{pos:String}{af:Array Edge}
theorem AL.cpB (k k2:Nat)(js:List Nat){dT sT Y bt bt2:TypeId}{x y:Operand}{D:Option Addr}{g o g2 o2 n1 c1 n2 c2:Nat}{u v O:Int}{ds ss:List Int}{cs cs2 cs':List Value}{z:Int×Int×Int×Int}(hz:cp4 ds ss u v O=some z)
  (h:AL r P ops Q rest C ((d,.int .i64 ((min (v.toNat-u.toNat) O.toNat:Nat):Int))::l) ((k,.blk g bt cs')::ded js H)) (hs:(P.info? Y).map (·.size)=some 1)
  (hD:u.toNat<4→D=some ⟨g,o+u.toNat,none⟩) (hn1:n1=v.toNat-u.toNat) (hn2:n2=O.toNat)
  (J:hk H k=some (.blk g bt cs):=by rfl) (hk2:hk H k2=some (.blk g2 bt2 cs2):=by rfl) (hd1:(cs.drop o).take 4=ds.map (.int .i64):=by rfl) (hd2:(cs2.drop o2).take 4=ss.map (.int .i64):=by rfl) (hl1:ds.length=4:=by rfl) (hl2:ss.length=4:=by rfl)
  (hcs:cs'=cs.take o++[.int .i64 z.1,.int .i64 z.2.1,.int .i64 z.2.2.1,.int .i64 z.2.2.2]++cs.drop (o+4):=by rfl) (hx:ev l x=some (.slice D n1 c1):=by rfl) (hy:ev l y=some (.slice (some ⟨g2,o2,none⟩) n2 c2):=by rfl)
  (ht:P.underlying dT=some (.slice Y):=by rfl) (hj:hng [k] js H=true:=by kernel_rfl) (hd:Nat.ble (d+1) C.n=true:=by rfl):AL r P ops Q (⟨some d,.call {callee:=.builtin .copy,args:=#[x,y],argTypes:=#[dT,sT]},T,pos,af,none⟩::rest) C l H:=fun a w hf hh=>by
 subst hn1;subst hn2
 obtain⟨⟨b1,b2,b3,b4,b5⟩,e⟩:=cp4_some hz
 have W:Blk w g bt cs:=hh.hold k _ J
 have hB2:Blk w g2 bt2 cs2:=hh.hold k2 _ hk2
 have hcl:o+4≤cs.length:=by
  have:=congrArg List.length hd1
  rw[Qs,Xp,Qw,hl1]at this;omega
 obtain⟨m,hm⟩: ∃m,m=min (v.toNat-u.toNat) O.toNat:=⟨_,rfl⟩
 have hmin:Nat.min O.toNat (v.toNat-u.toNat)=m:=by rw[hm];exact Nat.min_comm _ _
 rw[←hm]at e h
 have hdrop:cs.drop o=ds.map (.int .i64)++cs.drop (o+4):=by
  rw[←hd1,←X5];exact(Xj 4 _).symm
 have hcs2:cs'=cs.take (o+u.toNat)++(ss.take m).map (.int .i64)++cs.drop (o+u.toNat+m):=by
  have e1:([.int .i64 z.1,.int .i64 z.2.1,.int .i64 z.2.2.1,.int .i64 z.2.2.2]:List Value)=[z.1,z.2.1,z.2.2.1,z.2.2.2].map (.int .i64):=rfl
  rw[hcs,e1,←e,Yg,Yg]
  have hu:u.toNat+m≤4:=by rw[hm];omega
  have Y:cs.take (o+u.toNat)=cs.take o++(ds.take u.toNat).map (.int .i64):=by
   rw[List.take_add,hdrop,Xm (by rw[Qw];omega),List.map_take]
  have e3:cs.drop (o+u.toNat+m)=(ds.drop (u.toNat+m)).map (.int .i64)++cs.drop (o+4):=by
   rw[Y9,←X5,hdrop,List.drop_append_of_le_length (by rw[Qw];omega),List.map_drop]
  rw[Y,e3];simp only[Wf]
 by_cases h0:m=0
 ·have hsame:cs'=cs:=by
   rw[hcs2,h0,List.take_zero,Xv,Wm,Yx];exact Xj _ _
  subst hsame
  have hrun:=Z.run_copyZ (P:=P) w dT sT T Y D (some ⟨g2,o2,none⟩) (v.toNat-u.toNat) c1 O.toNat c2 _ ht hs (hmin.trans h0)
  rw[h0]at h
  refine Z.valw (w':=w) (v:=goInt 0) hf hd ?_ fun a' hf'=>h a' w hf' (Hp.dd (hh.upd (S:=[]) (Ch.refl w) (by simp) (fun b hb=>.inl ⟨_,J,hb⟩) (fun j hj=>by cases hj) fun F B _ _ _ _ _=>W) hj)
  simp only[execOp,resolve,invoke,builtin,Sem.run_bind,Sem.run_pure,Result.andThen_ok,Ya,Q3,Xv,hf.eval hx,hf.eval hy,hrun]
 ·have hu4:u.toNat<4:=by omega
  obtain rfl:=hD hu4
  have hcl2:o2+4≤cs2.length:=by
   have:=congrArg List.length hd2
   rw[Qs,Xp,Qw,hl2]at this;omega
  have N:((ss.take m).map (Value.int .i64)).length=m:=by rw[Qw,Qs,hl2];omega
  have hsrc: ∀(j:Nat) (q:Value),((ss.take m).map (Value.int .i64))[j]?=some q→w.cell? (Addr.add ⟨g2,o2,none⟩ j)=some q:=fun j q hq=>by
   have hjm:=(Qc.1 hq).1
   rw[N]at hjm
   rw[List.map_take,Qr hjm,←hd2,Qr (by omega),We]at hq
   rw[Addr.add_lit,hB2.cell];exact hq
  have hrun:=Z.run_copyN (P:=P) w dT sT T Y g (o+u.toNat) (v.toNat-u.toNat) c1 ⟨g2,o2,none⟩ O.toNat c2 1 cs.toArray bt ((ss.take m).map (Value.int .i64)) ht hs W (by rw[N,hmin,Jk]) hsrc (by rw[N];simp;omega) (fun q hq=>by obtain⟨_,_,rfl⟩:=Qv.1 hq;rfl)
  rw[hmin,N,List.toList_toArray,←hcs2]at hrun
  have hch:Ch [g] w (w.setRow g cs'.toArray):=Ch.setRow w g _
  refine Z.valw (w':=w.setRow g cs'.toArray) (v:=goInt m) hf hd ?_ fun a' hf'=>h a' _ hf' (Hp.dd (hh.upd (S:=[g]) hch (fun b hb=>⟨_,J,by simpa[Res.bl] using hb⟩) (fun b hb=>.inl ⟨_,J,hb⟩) (fun j hj=>by cases hj) fun F B _ _ _ _ _=>W.setRow) hj)
  simp only[execOp,resolve,invoke,builtin,Sem.run_bind,Sem.run_pure,Result.andThen_ok,Ya,Q3,Xv,hf.eval hx,hf.eval hy,hrun]
end
end Go.A
end
section
namespace Go.Proofs.YtlbnpmfggfbdoaaGreatDoor
open Go.RowKit
variable(A0_ A1_ A2_ A4_ A5_ A7_ A10_ A12_ A13_:Option Addr)(b0_ g0_ b1_ c1_ c2_ g2_ c3_ b4_ b5_ c5_ b6_ c6_ c8_ g8_ g9_ g10_ c11_ c13_ c14_ g15_:Nat)
def F.a4 (o:Int→Option (List (Int×D209)))(p:D44)(k:Int)(s:Int):Option (List (Int×D209)):=A.cns (k,(decide (k<p.2.1),s)) (A.gd (Z.R64 (k+1)) (o (k+1)))
def F.ar (k:D44):Nat→Int→Option (List (Int×D209))
 |0,_=>none
 |f+1,o=>if o<k.2.1+k.2.2.2.1 then(A.gd (Z.R64 (k.2.1-1)) (if o=k.2.1-1 then(F.a4 (F.ar k f) k o k.2.2.1)else(if k.2.1≤o then(A.gd (Z.R64 (o-k.2.1)) ((A.ix [k.2.2.2.2.1,k.2.2.2.2.2.1,k.2.2.2.2.2.2.1,k.2.2.2.2.2.2.2] (o-k.2.1)).bind fun p=>(F.a4 (F.ar k f) k o p)))else(F.a4 (F.ar k f) k o 0))))else(some [])
def F.ba (k:D44):Option (List (Int×D209)):=A.gd (Z.R64 (k.2.1+k.2.2.2.1)) (F.ar k A.FU 0)
theorem o_ag(k:D44)(ab:A.h6 k.1)(ac:A.h6 k.2.1)(Y:A.h6 k.2.2.1)(ad:A.h6 k.2.2.2.1)(a0:A.h6 k.2.2.2.2.1)(a1:A.h6 k.2.2.2.2.2.1)(a2:A.h6 k.2.2.2.2.2.2.1)(a3:A.h6 k.2.2.2.2.2.2.2)(xs:List (Int×D209))(o:F.ba k=some xs):
    A.Sq Tryz.prog 186 [.pointer (some ⟨g0_,0,none⟩)] [(0,.el none g0_ 0 (A.rac k))] (Z.Ty.pair A.ti T209) (fun cs=>[Z.vof false (cs.take 1),Z.vof true (cs.drop 1)]) xs:=by
 refine A.Sq.enter Tryz.func186 rfl Tryz.ntmps186 rfl fun lid w0 J Jx Φ hY hJ0=>?_;obtain⟨rs0,hrs⟩: ∃rs0,rs0=xs:=⟨_,rfl⟩
 have hR0:A.Rem xs 0 rs0:=hrs▸A.Rem.zero xs
 rw[F.ba,←hrs]at o
 clear hrs
 refine Jw 1 ?_;have⟨a5,o⟩:=Vt o;refine A.q [] [0] [.n,.e 0 1,.n,.e 0 3,.n,.n] [Z.R64 (k.2.1+k.2.2.2.1)] [(9,A.i (k.2.1+k.2.2.2.1)),(10,A.i 0)] a5 (Jy 2 ?_);refine A.AX.loopC (A.CY 46 Φ) (0,w0) [0,1,9] [0] [0] (fun f i z B=>∃(p:Int),∃(rs:List (Int×D209)),z=[(10,A.i p)]∧B=[]∧A.h6 p∧J i.1 i.2∧A.Rem xs i.1 rs∧F.ar k f p=some rs) A.FU [(10,A.i 0)] [] ⟨0,_,rfl,rfl,J0,hJ0,hR0,o⟩ ?_;rintro E ⟨L,N⟩ _ _ ⟨p,rs9,rfl,rfl,a6,hJ7,hR8,o⟩;rcases E with _|E
 ·exact Vm o
 rw[F.ar]at o;refine Jw 1 ?_;refine J3 1 [(11,.bool (decide (p<k.2.1+k.2.2.2.1)))] (Jy 2 ?_);refine Vu o ?_ ?_<;>intro O o
 ·refine Jw 5 ?_;refine J3 2 [(3,A.i p)] (Vb 2 ?_);refine J2 [] [0] [.n,.n,.e 0 1,.n,.n] [(17,.agg #[.bool (decide (p<k.2.1)),A.i 0])] ?_;refine J5 5 (cs:=l3f) Tryz.zeroValue210 fun u=>?_;refine Vp 5 [] [.bool (decide (p<k.2.1)),A.i 0] ?_;refine Jy 1 ?_;refine A.AX.joinC (A.CY 46 Φ) [0,1,3,4,9,10] [0] (fun i z B=>∃(s:Int),∃(rs:List (Int×D209)),z=[]∧B=[(5,.blk u 210 [.bool (decide (p<k.2.1)),A.i s])]∧A.h6 s∧J i.1 i.2∧A.Rem xs i.1 rs∧F.a4 (F.ar k E) k p s=some rs) ?_ ?_
  ·refine Jw 2 ?_;have⟨a7,o⟩:=Vt o;refine A.q [] [0] [.n,.n,.e 0 1,.n,.n,.n] [Z.R64 (k.2.1-1)] [(18,.bool (decide (p=k.2.1-1)))] a7 (Jy 1 ?_);refine Vu o ?_ ?_<;>intro O o
   ·refine Jw 0 ?_;refine J2 [] [0] [.n,.e 0 2,.n] [(25,A.i k.2.2.1),(26,.pointer (some ⟨u,1,none⟩))] ?_;refine Uz 5 [] (new:=[A.i k.2.2.1]) (cs':=[.bool (decide (p<k.2.1)),A.i k.2.2.1]) ?_;refine Uh 1 ?_;exact A.AE.jC (L,N) [5,0] [] [(5,.blk u 210 [.bool (decide (p<k.2.1)),A.i k.2.2.1])] ⟨k.2.2.1,_,rfl,rfl,Y,hJ7,hR8,o⟩
   refine Jw 1 ?_;refine J2 [] [0] [.n,.n,.e 0 1,.n,.n] [(27,.bool (decide (k.2.1≤p)))] (Jy 1 ?_);refine Vu o ?_ ?_<;>intro O o
   ·refine Jw 0 ?_;have⟨a8,o⟩:=Vt o;refine A.q [] [0] [.n,.n,.e 0 1,.n,.n] [Z.R64 (p-k.2.1)] [(35,A.i (p-k.2.1)),(36,.pointer (some ⟨g0_,0+4,none⟩))] a8 ?_;have⟨y,U,o⟩:=Vy o;refine A.AL.ixbE 0 6 (fun v:Int=>A.i v) [k.2.2.2.2.1,k.2.2.2.2.2.1,k.2.2.2.2.2.2.1,k.2.2.2.2.2.2.2] 4 U ?_;refine J2 [] [6] [.e 0 0,.n] [(38,A.i y),(39,.pointer (some ⟨u,1,none⟩))] ?_;refine Uz 5 [] (new:=[A.i y]) (cs':=[.bool (decide (p<k.2.1)),A.i y]) ?_;refine Uh 1 ?_;exact A.AE.jC (L,N) [5,0] [] [(5,.blk u 210 [.bool (decide (p<k.2.1)),A.i y])] ⟨y,_,rfl,rfl,(Ux U (Qa.2 ⟨a0,(Qa.2 ⟨a1,(Qa.2 ⟨a2,(Qa.2 ⟨a3,(by simp)⟩)⟩)⟩)⟩)),hJ7,hR8,o⟩
   refine V1 2 ?_;exact A.AE.jC (L,N) [5,0] [] [(5,.blk u 210 [.bool (decide (p<k.2.1)),A.i 0])] ⟨0,_,rfl,rfl,J0,hJ7,hR8,o⟩
  rintro⟨a9,ae⟩ _ _ ⟨s,rs17,rfl,rfl,aa,hJ15,hR16,o⟩
  rw[F.a4]at o;refine Jw 1 ?_;refine J2 [5] [] [.n,.n,.b 0 0] [(40,.func (.yield lid) #[] #[]),(41,A.i p),(42,.agg #[.bool (decide (p<k.2.1)),A.i s])] ?_;obtain⟨rs18,hqrs18,o⟩:=A.cns_some o;refine A.AL.yield (t:=.pair A.ti T209) (x:=(p,(decide (p<k.2.1),s))) hY hJ15 (hqrs18▸hR16) [A.i p,.bool (decide (p<k.2.1)),A.i s] ⟨⟨rfl,a6⟩,⟨rfl,⟨rfl,aa⟩⟩⟩ (fun V hJ20 hR21=>?_) (fun V hX22=>?_)
  ·refine J3 1 [(44,.bool false)] (Jy 1 ?_);refine Ur rfl ?_;refine Jw 3 ?_;have⟨W,o⟩:=Vt o;refine Uc 2 [Z.R64 (p+1)] [(10,A.i (p+1))] W (Jz ?_);exact A.AE.jC (a9+1,V) [0] [(10,A.i (p+1))] [] ⟨_,Qi _,⟨(p+1),_,rfl,rfl,(J4 W),hJ20,hR21,o⟩⟩
  refine J3 1 [(44,.bool true)] (Jy 1 ?_);refine Ui rfl ?_;exact A.AX.rtX hY hX22
 refine V1 1 ?_;obtain rfl:=J8 o;exact A.AE.rtY hY hJ7 hR8
def F.dC (p:Option Bool)(k:List D209)(o:(Int×D209))(s:Bool):Option Bool:=if s=true then(A.gd (4=k.length) ((A.ix k o.1).bind fun u=>(if u.2≠1048576 then(some false)else(p))))else(A.gd (4=k.length) ((A.ix k o.1).bind fun x=>(if x.2<o.2.2 then(some false)else(p))))
def F.bX (k:List D209):List (Int×D209)→Option Bool
 | []=>some true
 |o::f=>if o.2.1=true then(A.gd (4=k.length) ((A.ix k o.1).bind fun p=>(F.dC (F.bX k f) k o (!p.1))))else(F.dC (F.bX k f) k o false)
def F.cI (p:D44):List (Int×D209)→(List D209)→Option Bool
 | [],k=>(F.cW p).bind fun s=>((F.ba s).bind fun u=>F.bX k u)
 |o::f,k=>A.gd (4=k.length) ((A.ix k o.1).bind fun x=>((F.cI p f) (k.set o.1.toNat o.2)))
def F.d7 (k:D44)(o:D44)(p:Bool):Option Bool:=if p=true then(some false)else((F.cW o).bind fun s=>((F.ba s).bind fun u=>F.cI k u [((false,0):D209),((false,0):D209),((false,0):D209),((false,0):D209)]))
def F.dK (k:D44)(o:D44):Option Bool:=(F.am k).bind fun s=>(if(!s)=true then(F.d7 k o true)else((F.am o).bind fun p=>(A.gd (((bif !p then true else decide (k.1≠o.1))=false→Z.R64 (k.2.1+k.2.2.2.1))∧((bif !p then true else decide (k.1≠o.1))=false→Z.R64 (o.2.1+o.2.2.2.1))) (F.d7 k o (bif bif !p then true else decide (k.1≠o.1)then true else decide (k.2.1+k.2.2.2.1≠o.2.1+o.2.2.2.1))))))
theorem o_aW (s:D44)(u:D44)(a3:A.h6 s.1)(a4:A.h6 s.2.1)(a5:A.h6 s.2.2.1)(a6:A.h6 s.2.2.2.1)(a7:A.h6 s.2.2.2.2.1)(a8:A.h6 s.2.2.2.2.2.1)(a9:A.h6 s.2.2.2.2.2.2.1)(aa:A.h6 s.2.2.2.2.2.2.2)(ab:A.h6 u.1)(ac:A.h6 u.2.1)(ad:A.h6 u.2.2.1)(ae:A.h6 u.2.2.2.1)(ag:A.h6 u.2.2.2.2.1)(ah:A.h6 u.2.2.2.2.2.1)(ai:A.h6 u.2.2.2.2.2.2.1)(aj:A.h6 u.2.2.2.2.2.2.2)(r:Bool)(p:F.dK s u=some r):
    A.Ct Tryz.prog 148 [(A.rai s),(A.rai u)] [] [] (fun v H'=>v=.bool r∧H'=[]):=by
 refine A.Ct.enterM Tryz.func148 rfl Tryz.ntmps148 rfl fun w0 F0=>?_;rw[F.dK]at p;refine Jw 1 ?_;refine Va 0 (cs:=(A.rac s)) fun g1=>?_;refine Va 1 (cs:=(A.rac u)) fun g2=>?_;refine J5 2 (cs:=[.bool false]) Tryz.zeroValue4 fun g3=>?_;refine Jy 2 ?_;refine J7 [2,3,4] [0,1,2] (fun N B=>∃(O:Bool),N=[(37,.bool O)]∧B=[]∧F.d7 s u O=some r) ?_ ?_
 ·refine Jw 0 ?_;refine J2 [0] [] [.b 0 0] [(10,(A.rai s))] ?_;refine Vv 3 [] p (o_v s a3 a4 a5 a6 a7 a8 a9 aa) .nil ?_;rintro au - p _ _ ⟨rfl,rfl⟩;refine Vf ?_;refine J3 2 [(13,.bool (!au))] ?_;refine Vs (j:=13) rfl p (fun p=>?_) (fun p=>?_)
  ·refine J2 [] [] [.off,.off,.off,.n,.n,.off,.off,.off,.off,.off,.n,.n,.off,.off,.off,.off,.off,.off,.off,.off,.off,.off,.off,.n] [(37,.bool true)] (Jz ?_);exact Vk ⟨true,rfl,rfl,p⟩
  refine J2 [1] [] [.on (.b 0 0)] [(14,(A.rai u))] ?_;refine Vi (dj:=13) rfl rfl ?_;refine Vv 43 [] p (o_v u ab ac ad ae ag ah ai aj) .nil ?_;rintro J - p _ _ ⟨rfl,rfl⟩;refine Vf ?_;have⟨av,p⟩:=Vt p;refine A.q [0,1] [] [.on .n,.n,.n,.sy .n,.sy (.b 0 0),.sy .n,.sy (.b 1 0),.sy .n,.pk,.n,.sy .n,.sy (.b 0 1),.sy .n,.sy (.b 0 3),.sy .n,.sy .n,.sy (.b 1 1),.sy .n,.sy (.b 1 3),.sy .n,.sy .n,.pk] [(bif !J then true else decide (s.1≠u.1))=false→Z.R64 (s.2.1+s.2.2.2.1),(bif !J then true else decide (s.1≠u.1))=false→Z.R64 (u.2.1+u.2.2.2.1)] [(37,.bool (bif bif !J then true else decide (s.1≠u.1)then true else decide (s.2.1+s.2.2.2.1≠u.2.1+u.2.2.2.1)))] av (Jz ?_);exact Vk ⟨(bif bif !J then true else decide (s.1≠u.1)then true else decide (s.2.1+s.2.2.2.1≠u.2.1+u.2.2.2.1)),rfl,rfl,p⟩
 rintro _ _ ⟨O,rfl,rfl,p⟩;rw[F.d7]at p;refine Ue p ?_ ?_<;>intro U p
 ·refine Jw 1 ?_;refine Vp 2 [] [.bool false] ?_;refine Jy 1 ?_;obtain rfl:=J8 p;exact A.AX.rtM (Ds:=[]) [] [] (.bool false) (trivial) (fun a w hf hh=>U0 rfl (Z.rv_1 hf rfl Tryz.isAgg4 (Vq hh 2))) (⟨rfl,rfl⟩)
 refine Jw 3 ?_;refine J5 83 (cs:=l3d) Tryz.zeroValue211 fun E=>?_;refine A.bta 83 [] (t:=T209) (cs:=l3d) [((false,0):D209),((false,0):D209),((false,0):D209),((false,0):D209)] ⟨⟨rfl,⟨rfl,by decide⟩⟩,⟨⟨rfl,⟨rfl,by decide⟩⟩,⟨⟨rfl,⟨rfl,by decide⟩⟩,⟨⟨rfl,⟨rfl,by decide⟩⟩,rfl⟩⟩⟩⟩ ?_;refine Vb 3 ?_;refine J2 [1] [] [.b 0 0] [(38,(A.rai u))] ?_;refine Vv 84 [] p (o_aB u ab ac ad ae ag ah ai aj) .nil ?_;rintro r6 - p _ _ ⟨g8,rfl,rfl,hr9,hr10,hr11,hr12,hr13,hr14,hr15,hr16⟩;refine Vf ?_;refine Jy 2 ?_;have⟨ak,aw,p⟩:=Vy p;refine A.AX.rgf 124 125 126 [0,2,84] [83,0,2,84] [125,124,83,0,2,84] (fun k B=>∃(y:List D209),B=[(83,.own T209 211 (some ⟨E,0,none⟩) (([((false,0):D209),((false,0):D209),((false,0):D209),((false,0):D209)]).length) y)]∧([((false,0):D209),((false,0):D209),((false,0):D209),((false,0):D209)]).length=y.length∧F.cI s (List.drop k ak) y=some r) [(83,.own T209 211 (some ⟨E,0,none⟩) (([((false,0):D209),((false,0):D209),((false,0):D209),((false,0):D209)]).length) [((false,0):D209),((false,0):D209),((false,0):D209),((false,0):D209)])] cf186 (o_ag g8 r6 hr9 hr10 hr11 hr12 hr13 hr14 hr15 hr16 ak aw) (fun _=>rfl) ⟨[((false,0):D209),((false,0):D209),((false,0):D209),((false,0):D209)],rfl,rfl,p⟩ ?_ ?_ ?_
 ·rintro ax _ D19 L20 ⟨y,rfl,hn32,p⟩;exact⟨⟨_,(.b 84 .nil)⟩,rfl,fun o=>rfl⟩
 ·rintro ax _ z D19 L20 b5 b6 ⟨y,rfl,hn32,p⟩ hx27 hxo28 ay;rw[A.drop_at hx27,F.cI]at p
  refine Jw 1 ?_;refine J3 1 [(6,A.i z.1)] (Vb 1 ?_);refine J5 131 (cs:=l3f) Tryz.zeroValue210 fun b7=>?_;refine Vp 131 [] [.bool z.2.1,A.i z.2.2] ?_;refine Jz ?_;refine A.AE.flip 124 125 fun b9=>?_;refine Jw 1 ?_;refine J2 [131] [] [.n,.b 0 0] [(42,A.i z.1),(43,.agg #[.bool z.2.1,A.i z.2.2])] ?_;have⟨hl36,p⟩:=Vt p;have⟨al,am,p⟩:=Vy p;refine A.AL.ixoA 83 132 am hl36 fun bb=>?_;refine A.AL.setel 83 132 [132] (o:=0) (m:=2) (t:=T209) (new:=[.bool z.2.1,A.i z.2.2]) (es:=[.bool al.1,A.i al.2]) z.2 am rfl ⟨rfl,⟨rfl,hxo28.2.2⟩⟩ ?_;refine Uh 1 ?_;exact A.AE.bn ay [125,124,83,0,2,84] 100000 [(125,100125),(124,100124),(83,100083),(0,100000),(2,100002),(84,100084)] [(83,.own T209 211 (some ⟨E,0,none⟩) (([((false,0):D209),((false,0):D209),((false,0):D209),((false,0):D209)]).length) (y.set z.1.toNat z.2))] ⟨(y.set z.1.toNat z.2),rfl,(by rw[Wx];exact hn32),p⟩ rfl rfl
 rintro _ D19 L20 ⟨y,rfl,hn32,p⟩;rw[Js,F.cI]at p
 refine A.el 4 ?_;refine J2 [0] [] [.b 0 0] [(45,(A.rai s))] ?_;refine Vv 133 [] p (o_aB s a3 a4 a5 a6 a7 a8 a9 aa) .nil ?_;rintro V - p _ _ ⟨W,rfl,rfl,hr41,hr42,hr43,hr44,hr45,hr46,hr47,hr48⟩;refine Vf ?_;refine Jy 2 ?_;have⟨Y,az,p⟩:=Vy p;refine A.AX.rgf 173 174 175 [2,83,124,133] [2,83,124,133] [174,173,2,83,124,133] (fun k B=>B=[]∧F.bX y (List.drop k Y)=some r) [] cf186 (o_ag W V hr41 hr42 hr43 hr44 hr45 hr46 hr47 hr48 Y az) (fun _=>rfl) ⟨rfl,p⟩ ?_ ?_ ?_
 ·rintro an _ D51 L52 ⟨rfl,p⟩;exact⟨⟨_,(.b 133 .nil)⟩,rfl,fun o=>rfl⟩
 ·rintro an _ x D51 L52 bc bd ⟨rfl,p⟩ hx59 hxo60 L;rw[A.drop_at hx59,F.bX]at p
  refine Jw 1 ?_;refine J3 1 [(8,A.i x.1)] (Vb 1 ?_);refine J5 180 (cs:=l3f) Tryz.zeroValue210 fun ao=>?_;refine Vp 180 [] [.bool x.2.1,A.i x.2.2] ?_;refine Jz ?_;refine A.AE.flip 173 174 fun be=>?_;refine V6 2 ?_;refine J7 [4,5,8,9] [2,83,124,133,173,174,180] (fun N B=>∃(a2:Bool),N=[(57,.bool a2)]∧B=[]∧F.dC (F.bX y (List.drop (an+1) Y)) y x a2=some r) ?_ ?_
  ·refine Jw 0 ?_;refine J2 [180] [] [.n,.b 0 0,.n] [(51,.bool x.2.1)] ?_;refine Vs (j:=51) rfl p (fun p=>?_) (fun p=>?_)
   ·refine J2 [] [] [.on .n] [(52,A.i x.1)] ?_;refine Vi (dj:=51) rfl rfl ?_;have⟨hl75,p⟩:=Vt p;have⟨aq,b0,p⟩:=Vy p;refine A.AL.ixoA 83 181 b0 hl75 fun bg=>?_;refine J2 [] [181] [.on .n,.on (.e 0 0),.on .n,.n] [(57,.bool (!aq.1))] (Jz ?_);exact Vk ⟨(!aq.1),rfl,rfl,p⟩
   refine J2 [] [] [.off,.off,.off,.off,.off,.n] [(57,.bool false)] (Jz ?_);exact Vk ⟨false,rfl,rfl,p⟩
  rintro _ _ ⟨a2,rfl,rfl,p⟩;rw[F.dC]at p;refine Ue p ?_ ?_<;>intro U p
  ·refine Jw 2 ?_;refine J3 1 [(58,A.i x.1)] ?_;have⟨hl65,p⟩:=Vt p;have⟨b1,b2,p⟩:=Vy p;refine A.AL.ixoA 83 182 b2 hl65 fun bh=>?_;refine J2 [] [182] [.n,.e 0 1,.n] [(62,.bool (decide (b1.2≠1048576)))] (Jy 1 ?_);refine Vu p ?_ ?_<;>intro U p
   ·refine Jw 1 ?_;refine Vp 2 [] [.bool false] ?_;refine Jy 1 ?_;refine A.AX.bret L [174,2,83,124,133,173,180] 100000 [(174,100174),(2,100002),(83,100083),(124,100124),(133,100133),(173,100173),(180,100180)] [(2,.blk g3 4 [.bool false]),(83,.own T209 211 (some ⟨E,0,none⟩) (([((false,0):D209),((false,0):D209),((false,0):D209),((false,0):D209)]).length) y),(124,.ob D19 A.dfT),(133,.blk W 45 (A.rac V)),(173,.ob D51 A.dfT),(180,.blk ao 210 [.bool x.2.1,A.i x.2.2])] ?_ rfl rfl
    obtain rfl:=J8 p;exact A.AE.rtM (Ds:=[D51,D19]) [173,124] [] (.bool false) (⟨rfl,⟨rfl,trivial⟩⟩) (fun a w hf hh=>U0 rfl (Z.rv_1 hf rfl Tryz.isAgg4 (Vq hh 2))) (⟨rfl,rfl⟩)
   refine V1 3 ?_;exact A.AE.bn L [174,173,2,83,124,133] 100000 [(174,100174),(173,100173),(2,100002),(83,100083),(124,100124),(133,100133)] [] ⟨rfl,p⟩ rfl rfl
  refine V6 3 ?_;refine Vl mixed 7 7 (A.mb 7 0) ?_;refine Vj (A.pk_kont A.RQ.pq) [] [2,83,124,133,173,174,180] [180] [] (A.mb 7 7) 4 [(0,.n),(2,.n),(1,.b 0 1)] [(65,A.i x.1),(64,A.i x.2.2)] ?_;have⟨hl69,p⟩:=Vt p;have⟨b3,ar,p⟩:=Vy p;refine Up 83 183 ar fun bi=>?_;intro bj b4;cases b4
  refine Vh (A.pk_kont A.RQ.pq) [2,83,124,133,173,174,180] [2,83,124,133,173,174,180,183] 3 (A.mb 7 15) rfl (fun a w hf hh=>A.r_ixoA (t:=T209) ar hl69 Tryz.underlying211 Tryz.sizeOf210 (hf.eval rfl) (hf.eval rfl)) ?_;refine Vj (A.pk_kont A.RQ.pq) [2,83,124,133,173,174,180,183] [2,83,124,133,173,174,180,183] [] [183] (A.mb 7 127) 0 [(4,.n),(5,.e 0 1),(6,.n)] [(69,.bool (decide (b3.2<x.2.2)))] (Ve ?_);refine U2 1 ?_;refine Vu p ?_ ?_<;>intro U p
  ·refine Jw 1 ?_;refine Vp 2 [] [.bool false] ?_;refine Jy 1 ?_;refine A.AX.bret L [174,2,83,124,133,173,180] 100000 [(174,100174),(2,100002),(83,100083),(124,100124),(133,100133),(173,100173),(180,100180)] [(2,.blk g3 4 [.bool false]),(83,.own T209 211 (some ⟨E,0,none⟩) (([((false,0):D209),((false,0):D209),((false,0):D209),((false,0):D209)]).length) y),(124,.ob D19 A.dfT),(133,.blk W 45 (A.rac V)),(173,.ob D51 A.dfT),(180,.blk ao 210 [.bool x.2.1,A.i x.2.2])] ?_ rfl rfl
   obtain rfl:=J8 p;exact A.AE.rtM (Ds:=[D51,D19]) [173,124] [] (.bool false) (⟨rfl,⟨rfl,trivial⟩⟩) (fun a w hf hh=>U0 rfl (Z.rv_1 hf rfl Tryz.isAgg4 (Vq hh 2))) (⟨rfl,rfl⟩)
  refine V1 2 ?_;exact A.AE.bn L [174,173,2,83,124,133] 100000 [(174,100174),(173,100173),(2,100002),(83,100083),(124,100124),(133,100133)] [] ⟨rfl,p⟩ rfl rfl
 rintro _ D51 L52 ⟨rfl,p⟩;rw[Js,F.bX]at p
 refine A.el 3 ?_;refine Vp 2 [] [.bool true] ?_;refine Jy 1 ?_;obtain rfl:=J8 p;exact A.AX.rtM (Ds:=[D51,D19]) [173,124] [] (.bool true) (⟨rfl,⟨rfl,trivial⟩⟩) (fun a w hf hh=>U0 rfl (Z.rv_1 hf rfl Tryz.isAgg4 (Vq hh 2))) (⟨rfl,rfl⟩)
def F.cZ (k:Int):Option Bool:=some (decide (k≠k))
theorem o_ar (k:Int)(p:A.h6 k)(r:Bool)(o:F.cZ k=some r):
    A.Ct Tryz.prog 178 [A.i k] [] [] (fun v H'=>v=.bool r∧H'=[]):=by
 refine J1 Tryz.func178 rfl Tryz.ntmps178 rfl fun s u=>?_;rw[F.cZ]at o;refine Jw 1 ?_;refine J3 1 [] (Vb 2 ?_);refine J3 4 [(2,.bool (decide (k≠k)))] (Jy 1 ?_);obtain rfl:=J8 o;exact J9 [] ⟨rfl,rfl⟩
def F.cc (k:Int)(o:Int):Option Int:=(F.cZ k).bind fun s=>((F.cZ o).bind fun p=>(if s=true then(if p=true then(some 0)else(some (-1)))else(if p=true then(some 1)else(if k<o then(some (-1))else(if o<k then(some 1)else(some 0))))))
theorem o_aj (o:Int)(p:Int)(y:A.h6 o)(z:A.h6 p)(r:Int)(k:F.cc o p=some r):
    A.Ct Tryz.prog 150 [A.i o,A.i p] [] [] (fun v H'=>v=A.i r∧H'=[]∧A.h6 r):=by
 refine J1 Tryz.func150 rfl Tryz.ntmps150 rfl fun B E=>?_;rw[F.cc]at k;refine Jw 1 ?_;refine J3 1 [] (Vb 2 ?_);refine J3 1 [(7,A.i o)] ?_;refine Vv 0 [] k (o_ar o y) .nil ?_;rintro x - k _ _ ⟨rfl,rfl⟩;refine Vf ?_;refine J3 1 [(5,.bool x)] (Vb 2 ?_);refine J3 1 [(9,A.i p)] ?_;refine Vv 40 [] k (o_ar p z) .nil ?_;rintro u - k _ _ ⟨rfl,rfl⟩;refine Vf ?_;refine J3 1 [(6,.bool u)] (Vb 3 ?_);refine J3 1 [(11,.bool x)] (Jy 1 ?_);refine Ue k ?_ ?_<;>intro s k
 ·refine Jw 2 ?_;refine J3 1 [(12,.bool u)] (Jy 1 ?_);refine Ue k ?_ ?_<;>intro s k
  ·refine Jw 1 ?_;refine J3 1 [(4,A.i 0)] (Jy 1 ?_);obtain rfl:=J8 k;exact J9 [] ⟨rfl,rfl,J0⟩
  refine Jw 3 ?_;refine J3 1 [(4,A.i (-1))] (Jy 1 ?_);obtain rfl:=J8 k;exact J9 [] ⟨rfl,rfl,(Vd .i64 (-1) rfl)⟩
 refine Jw 4 ?_;refine J3 1 [(13,.bool u)] (Jy 1 ?_);refine Ue k ?_ ?_<;>intro s k
 ·refine Jw 1 ?_;refine J3 1 [(4,A.i 1)] (Jy 1 ?_);obtain rfl:=J8 k;exact J9 [] ⟨rfl,rfl,(Vd .i64 (1) rfl)⟩
 refine Jw 4 ?_;refine J3 3 [(16,.bool (decide (o<p)))] (Jy 1 ?_);refine Vu k ?_ ?_<;>intro s k
 ·refine Jw 1 ?_;refine J3 1 [(4,A.i (-1))] (Jy 1 ?_);obtain rfl:=J8 k;exact J9 [] ⟨rfl,rfl,(Vd .i64 (-1) rfl)⟩
 refine Jw 4 ?_;refine J3 3 [(19,.bool (decide (p<o)))] (Jy 1 ?_);refine Vu k ?_ ?_<;>intro s k
 ·refine Jw 1 ?_;refine J3 1 [(4,A.i 1)] (Jy 1 ?_);obtain rfl:=J8 k;exact J9 [] ⟨rfl,rfl,(Vd .i64 (1) rfl)⟩
 refine Jw 3 ?_;refine J3 1 [(4,A.i 0)] (Jy 1 ?_);obtain rfl:=J8 k;exact J9 [] ⟨rfl,rfl,J0⟩
def F.aG (o:(List Int))(p:(List Int)):Nat→Int→Option Int
 |0,_=>none
 |f+1,k=>if k<(o.length:Int)then((A.ix o k).bind fun u=>(if(p.length:Int)≤k then(some 1)else((A.ix p k).bind fun x=>((F.cc u x).bind fun s=>(if s≠0 then(some s)else(A.gd (Z.R64 (k+1)) ((F.aG o p f) (k+1))))))))else(if(o.length:Int)<(p.length:Int)then(some (-1))else(some 0))
def F.bI (k:(List Int))(o:(List Int)):Option Int:=F.aG k o A.FU 0
theorem o_al(p:(List Int))(s:(List Int))(r:Int)(k:F.bI p s=some r):
    A.Ct Tryz.prog 151 [.slice A0_ p.length c1_,.slice A2_ s.length c3_] [(0,.ln A.ti A0_ c1_ p),(1,.ln A.ti A2_ c3_ s)] [] (fun v H'=>v=A.i r∧H'=[]∧A.h6 r):=by
 refine J1 Tryz.func151 rfl Tryz.ntmps151 rfl fun W Y=>?_;rw[F.bI]at k;refine Jw 1 ?_;refine J3 1 [] (Vb 3 ?_);refine J3 3 [(9,.slice A0_ p.length c1_),(10,A.i (p.length:Int)),(11,A.i 0)] (Jy 2 ?_);refine Vo [0,1,9,10] l3m (fun f J L=>∃(o:Int),J=[(11,A.i o)]∧L=[]∧A.h6 o∧F.aG p s f o=some r) ⟨0,rfl,rfl,J0,k⟩ ?_;rintro B _ _ ⟨o,rfl,rfl,a2,k⟩;rcases B with _|B
 ·exact Vm k
 rw[F.aG]at k;refine Jw 1 ?_;refine J3 1 [(12,.bool (decide (o<(p.length:Int))))] (Jy 2 ?_);refine Vu k ?_ ?_<;>intro u k
 ·refine Jw 5 ?_;refine J3 1 [(13,A.i o)] ?_;have⟨x,N,k⟩:=Vy k;refine Ud 0 86 N fun O=>?_;intro b7 o8;refine J2 [] [86] [.e 0 0,.n,.n] [(5,A.i o),(6,A.i x)] (Vb 3 ?_);refine J3 4 [(19,.bool (decide ((s.length:Int)≤o)))] (Jy 1 ?_);refine Vu k ?_ ?_<;>intro u k
  ·refine Jw 1 ?_;refine J3 1 [(4,A.i 1)] (Jy 1 ?_);obtain rfl:=J8 k;exact J9 [] ⟨rfl,rfl,(Vd .i64 (1) rfl)⟩
  refine Jw 3 ?_;refine J3 2 [(20,.slice A2_ s.length c3_),(21,A.i o)] ?_;have⟨y,U,k⟩:=Vy k;refine Ud 1 87 U fun V=>?_;intro a3 a4;refine J2 [] [87] [.e 0 0,.n] [(7,A.i y)] (Vb 2 ?_);refine J3 2 [(24,A.i x),(25,A.i y)] ?_;refine Vv 88 [] k (o_aj x y O V) .nil ?_;rintro z - k _ _ ⟨rfl,rfl,hr16⟩;refine Vf ?_;refine J3 1 [(8,A.i z)] (Vb 2 ?_);refine J3 2 [(28,.bool (decide (z≠0)))] (Jy 1 ?_);refine Vu k ?_ ?_<;>intro u k
  ·refine Jw 1 ?_;refine J3 2 [(4,A.i z)] (Jy 1 ?_);obtain rfl:=J8 k;exact J9 [] ⟨rfl,rfl,hr16⟩
  refine Jw 3 ?_;have⟨E,k⟩:=Vt k;refine Uc 2 [Z.R64 (o+1)] [(11,A.i (o+1))] E (Jz ?_);exact Vk ⟨_,Qi _,⟨(o+1),rfl,rfl,(J4 E),k⟩⟩
 refine Jw 4 ?_;refine J3 5 [(35,.bool (decide ((p.length:Int)<(s.length:Int))))] (Jy 1 ?_);refine Vu k ?_ ?_<;>intro u k
 ·refine Jw 1 ?_;refine J3 1 [(4,A.i (-1))] (Jy 1 ?_);obtain rfl:=J8 k;exact J9 [] ⟨rfl,rfl,(Vd .i64 (-1) rfl)⟩
 refine Jw 3 ?_;refine J3 1 [(4,A.i 0)] (Jy 1 ?_);obtain rfl:=J8 k;exact J9 [] ⟨rfl,rfl,J0⟩
def F.a5 (k:D44)(o:D44):Option Int:=(F.aX k.1 o.1).bind fun s=>((F.aX k.2.1 o.2.1).bind fun u=>((F.cc k.2.2.1 o.2.2.1).bind fun x=>((F.aX k.2.2.2.1 o.2.2.2.1).bind fun y=>((F.cY [s,u,x,y]).bind fun p=>(if p≠0 then(some p)else((F.bI [k.2.2.2.2.1,k.2.2.2.2.2.1,k.2.2.2.2.2.2.1,k.2.2.2.2.2.2.2] [o.2.2.2.2.1,o.2.2.2.2.2.1,o.2.2.2.2.2.2.1,o.2.2.2.2.2.2.2]).bind fun z=>(some z)))))))
theorem o_aC (k:D44)(p:D44)(N:A.h6 k.1)(O:A.h6 k.2.1)(U:A.h6 k.2.2.1)(V:A.h6 k.2.2.2.1)(W:A.h6 k.2.2.2.2.1)(Y:A.h6 k.2.2.2.2.2.1)(a2:A.h6 k.2.2.2.2.2.2.1)(a3:A.h6 k.2.2.2.2.2.2.2)(a4:A.h6 p.1)(a6:A.h6 p.2.1)(a7:A.h6 p.2.2.1)(a8:A.h6 p.2.2.2.1)(a9:A.h6 p.2.2.2.2.1)(aa:A.h6 p.2.2.2.2.2.1)(ab:A.h6 p.2.2.2.2.2.2.1)(ac:A.h6 p.2.2.2.2.2.2.2)(r:Int)(s:F.a5 k p=some r):
    A.Ct Tryz.prog 110 [(A.rai k),(A.rai p)] [] [] (fun v H'=>v=A.i r∧H'=[]∧A.h6 r):=by
 refine J1 Tryz.func110 rfl Tryz.ntmps110 rfl fun w0 F0=>?_;rw[F.a5]at s;refine Jw 1 ?_;refine Va 0 (cs:=(A.rac k)) fun E=>?_;refine Va 1 (cs:=(A.rac p)) fun J=>?_;refine J3 1 [] (Jy 3 ?_);refine Vl mixed 23 23 (A.mb 23 0) ?_;refine Vj J6 [] l3m [0,1] [] (A.mb 23 507375) 7 [(0,.n),(2,.n),(5,.n),(7,.n),(10,.n),(12,.n),(15,.n),(17,.n),(1,.b 0 0),(3,.b 1 0),(6,.b 0 1),(8,.b 1 1),(11,.b 0 2),(13,.b 1 2),(16,.b 0 3),(18,.b 1 3)] [(7,A.i k.1),(9,A.i p.1),(12,A.i k.2.1),(14,A.i p.2.1),(17,A.i k.2.2.1),(19,A.i p.2.2.1),(22,A.i k.2.2.2.1),(24,A.i p.2.2.2.1)] ?_;refine Vc 4 ?_;refine Vv 2 [] s (o_f k.1 p.1 N a4) .nil ?_;rintro u - s _ _ ⟨rfl,rfl,hr5⟩;refine Vf ?_;refine Vg (A.mb 23 507391) l3m ?_;refine Vc 9 ?_;refine Vv 42 [] s (o_f k.2.1 p.2.1 O a6) .nil ?_;rintro x - s _ _ ⟨rfl,rfl,hr8⟩;refine Vf ?_;refine Vg (A.mb 23 507903) l3m ?_;refine Vc 14 ?_;refine Vv 82 [] s (o_aj k.2.2.1 p.2.2.1 U a7) .nil ?_;rintro y - s _ _ ⟨rfl,rfl,hr11⟩;refine Vf ?_;refine Vg (A.mb 23 524287) l3m ?_;refine Vc 19 ?_;refine Vv 122 [] s (o_f k.2.2.2.1 p.2.2.2.1 V a8) .nil ?_;rintro z - s _ _ ⟨rfl,rfl,hr14⟩;refine Vf ?_;refine Vg (A.mb 23 1048575) l3m ?_;refine Vc 20 ?_;refine Vx 162 (ty:=A.ti) (cs:=[A.i u,A.i x,A.i y,A.i z]) [u,x,y,z] ⟨⟨rfl,hr5⟩,⟨⟨rfl,hr8⟩,⟨⟨rfl,hr11⟩,⟨⟨rfl,hr14⟩,rfl⟩⟩⟩⟩ (fun ad=>?_) Tryz.zeroValue3 Tryz.sizeOf3
 refine Vg (A.mb 23 2097151) l3m ?_;refine Vc 21 ?_;refine Vv 163 [] s (o_z (some ⟨ad,0,none⟩) 4 [u,x,y,z]) (.o 162 .nil) ?_;rintro B - s _ _ ⟨rfl,rfl,hr18⟩;refine Vf ?_;refine Vg (A.mb 23 4194303) l3m ?_;refine Vj J6 l3m l3g [] [] (A.mb 23 8388607) 0 [(22,.n)] [(5,A.i B)] (Ve ?_);refine A.el 2 ?_;refine J3 2 [(29,.bool (decide (B≠0)))] (Jy 1 ?_);refine Vu s ?_ ?_<;>intro hb s
 ·refine Jw 1 ?_;refine J3 2 [(4,A.i B)] (Jy 1 ?_);obtain rfl:=J8 s;exact J9 [] ⟨rfl,rfl,hr18⟩
 refine V6 3 ?_;refine Vl mixed 6 6 (A.mb 6 0) ?_;refine Vj J6 [] l3g [] [] (A.mb 6 5) 4 [(0,.n),(2,.n)] [(31,.pointer (some ⟨E,4,none⟩)),(33,.pointer (some ⟨J,4,none⟩))] ?_;refine Vh J6 l3g l3g 1 (A.mb 6 7) rfl (fun a w hf hh=>Z.r_sliceA_0 Tryz.underlying43 Tryz.sizeOf2 (hf.eval rfl)) ?_;refine Vh J6 l3g l3g 3 (A.mb 6 15) rfl (fun a w hf hh=>Z.r_sliceA_0 Tryz.underlying43 Tryz.sizeOf2 (hf.eval rfl)) ?_;refine Vc 4 ?_;have⟨L,ae,s⟩:=Vy s;refine A.AL.callF (fun w hh=>(A.hp_vbk 1 4 [] (t:=A.ti) (cs:=(A.rac p)) [p.2.2.2.2.1,p.2.2.2.2.2.1,p.2.2.2.2.2.2.1,p.2.2.2.2.2.2.2] ⟨⟨rfl,a9⟩,⟨⟨rfl,aa⟩,⟨⟨rfl,ab⟩,⟨⟨rfl,ac⟩,rfl⟩⟩⟩⟩ (A.hp_vbk 0 4 [] (t:=A.ti) (cs:=(A.rac k)) [k.2.2.2.2.1,k.2.2.2.2.2.1,k.2.2.2.2.2.2.1,k.2.2.2.2.2.2.2] ⟨⟨rfl,W⟩,⟨⟨rfl,Y⟩,⟨⟨rfl,a2⟩,⟨⟨rfl,a3⟩,rfl⟩⟩⟩⟩ hh))) (first:=[]) (cap:=[]) cf151 (o_al (some ⟨E,4,none⟩) (some ⟨J,4,none⟩) 4 4 [k.2.2.2.2.1,k.2.2.2.2.2.1,k.2.2.2.2.2.2.1,k.2.2.2.2.2.2.2] [p.2.2.2.2.1,p.2.2.2.2.2.1,p.2.2.2.2.2.2.1,p.2.2.2.2.2.2.2] L ae) (.l 0 (.l 1 .nil)) ?_;rintro _ _ ⟨rfl,rfl,hr21⟩;refine Vg (A.mb 6 31) l3g ?_;refine Vj J6 l3g l3g [] [] (A.mb 6 63) 0 [(5,.n)] [(4,A.i L)] (Ve ?_);refine U2 1 ?_;obtain rfl:=J8 s;exact J9 [] ⟨rfl,rfl,hr21⟩
def F.cO (k:Bool):Option Bool:=some k
def F.eg (k:D44)(o:D44):Option Bool:=if k≠o then((F.dK k o).bind fun p=>(if p=true then((F.dK o k).bind fun s=>(if(!s)=true then(F.cO true)else((F.a5 k o).bind fun u=>(F.cO (decide (u<0))))))else(F.cO false)))else(F.cO false)
theorem o_bv (o:D44)(p:D44)(s:A.h6 o.1)(u:A.h6 o.2.1)(z:A.h6 o.2.2.1)(B:A.h6 o.2.2.2.1)(E:A.h6 o.2.2.2.2.1)(J:A.h6 o.2.2.2.2.2.1)(L:A.h6 o.2.2.2.2.2.2.1)(N:A.h6 o.2.2.2.2.2.2.2)(O:A.h6 p.1)(U:A.h6 p.2.1)(V:A.h6 p.2.2.1)(W:A.h6 p.2.2.2.1)(Y:A.h6 p.2.2.2.2.1)(a2:A.h6 p.2.2.2.2.2.1)(a3:A.h6 p.2.2.2.2.2.2.1)(a4:A.h6 p.2.2.2.2.2.2.2)(r:Bool)(k:F.eg o p=some r):
    A.Ct Tryz.prog 108 [(A.rai o),(A.rai p)] [] [] (fun v H'=>v=.bool r∧H'=[]):=by
 refine J1 Tryz.func108 rfl Tryz.ntmps108 rfl fun w0 F0=>?_;rw[F.eg]at k;refine Jw 1 ?_;refine Va 0 (cs:=(A.rac o)) fun g1=>?_;refine Va 1 (cs:=(A.rac p)) fun g2=>?_;refine J3 1 [] (Jy 1 ?_);refine J7 [] [] (fun nl nh=>∃(y3:Bool),nl=[(4,.bool y3)]∧nh=[]∧F.cO y3=some r) ?_ ?_
 ·refine Jw 0 ?_;refine J2 [0,1] [] [.b 0 0,.b 1 0] [(5,(A.rai o)),(6,(A.rai p))] ?_;refine Uu rfl (fun a w hf hh=>eqagg_neq45 (x:=o) (y:=p) (hf.eval rfl) (hf.eval rfl)) ?_;refine J3 1 [(8,.bool (decide (o≠p)))] ?_;refine V2 (j:=8) rfl k ?_ ?_<;>intro hb k
  ·refine J2 [0,1] [] [.on (.b 0 0),.on (.b 1 0)] [(9,(A.rai o)),(10,(A.rai p))] ?_;refine Vi (dj:=8) rfl rfl ?_;refine Vv 2 [] k (o_aW o p s u z B E J L N O U V W Y a2 a3 a4) .nil ?_;rintro r4 - k _ _ ⟨rfl,rfl⟩;refine Vf ?_;refine J3 2 [(13,.bool r4)] ?_;refine Vs (j:=13) rfl k (fun k=>?_) (fun k=>?_)
   ·refine J2 [1,0] [] [.on (.b 0 0),.on (.b 1 0)] [(14,(A.rai p)),(15,(A.rai o))] ?_;refine Vi (dj:=13) rfl rfl ?_;refine Vv 42 [] k (o_aW p o O U V W Y a2 a3 a4 s u z B E J L N) .nil ?_;rintro r6 - k _ _ ⟨rfl,rfl⟩;refine Vf ?_;refine J2 [] [] [.on .n,.on .n] [(18,.bool (!r6))] ?_;refine Vs (j:=18) rfl k (fun k=>?_) (fun k=>?_)
    ·refine J2 [] [] [.off,.off,.off,.off,.on .n,.n,.n] [(4,.bool true)] (Jz ?_);exact Vk ⟨true,rfl,rfl,k⟩
    refine J2 [0,1] [] [.on (.b 0 0),.on (.b 1 0)] [(19,(A.rai o)),(20,(A.rai p))] ?_;refine Vi (dj:=18) rfl rfl ?_;refine Vv 82 [] k (o_aC o p s u z B E J L N O U V W Y a2 a3 a4) .nil ?_;rintro r8 - k _ _ ⟨rfl,rfl,hr10⟩;refine Vf ?_;refine J2 [] [] [.on .n,.on .n,.n,.n] [(4,.bool (decide (r8<0)))] (Jz ?_);exact Vk ⟨(decide (r8<0)),rfl,rfl,k⟩
   refine J2 [] [] [.off,.off,.off,.off,.off,.off,.off,.off,.off,.off,.n,.n] [(4,.bool false)] (Jz ?_);exact Vk ⟨false,rfl,rfl,k⟩
  refine J2 [] [] [.off,.off,.off,.n,.n,.off,.off,.off,.off,.off,.off,.off,.off,.off,.off,.n,.n] [(4,.bool false)] (Jz ?_);exact Vk ⟨false,rfl,rfl,k⟩
 rintro _ _ ⟨y3,rfl,rfl,k⟩;rw[F.cO]at k;obtain rfl:=J8 k;exact J9 [] ⟨rfl,rfl⟩
def F.aH (o:(List D44)→Int→Int→Option (List D44))(k:Int)(p:List D44)(s:Int):Option (List D44):=A.gd (Z.R64 (k+1)) (o p s (k+1))
def F.v (u:(List D44))(p:Int):Nat→(List D44)→Int→Int→Option (List D44)
 |0,_,_,_=>none
 |f+1,k,o,s=>if s<((u.length -p.toNat:Nat):Int)then(A.gd (Z.R64 (s-1)) (A.gd (p.toNat≤k.length) ((A.ix (List.drop p.toNat k) s).bind fun x=>(A.gd (p.toNat≤k.length) ((A.ix (List.drop p.toNat k) (s-1)).bind fun y=>(if x≠y then(A.gd (p.toNat≤k.length) ((A.ix (List.drop p.toNat k) s).bind fun z=>((A.ix k o).bind fun B=>(A.gd (Z.R64 (o+1)) (F.aH (F.v u p f) s (k.set o.toNat z) (o+1))))))else(F.aH (F.v u p f) s k o)))))))else(A.gd (0≤o∧o.toNat≤k.length) (A.gd (0≤o∧o.toNat≤(List.take o.toNat k++List.replicate (k.length -o.toNat) ((0,0,0,0,0,0,0,0):D44)).length) (some (List.take o.toNat (List.take o.toNat k++List.replicate (k.length -o.toNat) ((0,0,0,0,0,0,0,0):D44))))))
def F.ah (o:(List D44)):Nat→Int→Option (List D44)
 |0,_=>none
 |f+1,k=>if k<(o.length:Int)then(A.gd (Z.R64 (k-1)) ((A.ix o k).bind fun p=>((A.ix o (k-1)).bind fun s=>(if p=s then(A.gd (0≤k∧k.toNat≤o.length) (F.v o k A.FU o k 1))else(A.gd (Z.R64 (k+1)) ((F.ah o f) (k+1)))))))else(some o)
def F.aB (k:(List D44)):Option (List D44):=if(k.length:Int)<2 then(some k)else(F.ah k A.FU 1)
theorem o_ae(s:(List D44))(r:(List D44))(k:F.aB s=some r):
    A.Ct Tryz.prog 111 [.slice A0_ s.length c1_] [(0,.own T44 45 A0_ c1_ s)] (Z.obl A0_++[]) (fun v H'=>∃(A0':Option Addr) (c1':Nat),v=.slice A0' r.length c1'∧H'=[(0,.sh (.slice T44) [.slice A0' r.length c1'] r)]):=by
 refine J1 Tryz.func111 rfl Tryz.ntmps111 rfl fun w0 F0=>?_;rw[F.aB]at k;refine Jw 1 ?_;refine J3 1 [] (Vb 3 ?_);refine J3 3 [(8,.bool (decide ((s.length:Int)<2)))] (Jy 1 ?_);refine Vu k ?_ ?_<;>intro W k
 ·refine Jw 1 ?_;refine J3 2 [(2,.slice A0_ s.length c1_)] (Jy 1 ?_);obtain rfl:=J8 k;refine A.frz 0 [] ?_;exact J9 [(0,0)] ⟨A0_,c1_,rfl,rfl⟩
 refine Jw 4 ?_;refine J3 1 [(3,A.i 1)] (Jy 2 ?_);refine Vo [0] [0] (fun f N O=>∃(p:Int),N=[(3,A.i p)]∧O=[]∧A.h6 p∧F.ah s f p=some r) ⟨1,rfl,rfl,(Vd .i64 (1) rfl),k⟩ ?_;rintro f3 _ _ ⟨p,rfl,rfl,ai,k⟩;rcases f3 with _|f3
 ·exact Vm k
 rw[F.ah]at k;refine Jw 2 ?_;refine J3 4 [(13,.bool (decide (p<(s.length:Int))))] (Jy 1 ?_);refine Vu k ?_ ?_<;>intro W k
 ·refine V6 5 ?_;refine Vl mixed 10 10 (A.mb 10 0) ?_;have⟨aj,k⟩:=Vt k;refine Uq J6 [] [0] [] [] (A.mb 10 115) 5 [(0,.n),(1,.n),(4,.n),(5,.n),(6,.n)] [16,17,20,22] [Z.R64 (p-1)] [(16,.slice A0_ s.length c1_),(17,A.i p),(20,.slice A0_ s.length c1_),(22,A.i (p-1))] aj ?_;have⟨x5,a2,k⟩:=Vy k;refine Up 0 35 a2 fun ax=>?_;intro g9 ak;refine Vh J6 [0] [0,35] 2 (A.mb 10 119) rfl (fun a w hf hh=>Uy (t:=T44) a2 ak hf) ?_;refine Vj J6 [0,35] [0,35] [] [35] (A.mb 10 127) 3 [(3,.e 0 0)] [(19,(A.rai x5))] ?_;have⟨a3,a4,k⟩:=Vy k;refine Up 0 36 a4 fun ay=>?_;intro az al;refine Vh J6 [0,35] [0,35,36] 7 (A.mb 10 255) rfl (fun a w hf hh=>Uy (t:=T44) a4 al hf) ?_;refine Vj J6 [0,35,36] [0,35,36] [] [36] (A.mb 10 511) 1 [(8,.e 0 0)] [(24,(A.rai a3))] ?_;refine Vh J6 [0,35,36] [0,35,36] 9 (A.mb 10 1023) rfl (fun a w hf hh=>eqagg_eql45 (x:=x5) (y:=a3) (hf.eval rfl) (hf.eval rfl)) ?_;refine Ve ?_;refine U2 1 ?_;refine Vu k ?_ ?_<;>intro W k
  ·refine Jw 1 ?_;refine J3 2 [(26,.slice A0_ s.length c1_),(27,A.i p)] ?_;have⟨a5,k⟩:=Vt k;refine A.AL.cutv 0 (u:=p.toNat) (Wb a5.1).symm a5.2 ?_;refine J3 1 [(4,.slice (Z.cutA A0_ c1_ p.toNat (T44).size) (s.length-p.toNat) (c1_-p.toNat))] (Vb 3 ?_);refine J3 1 [(5,A.i 1)] (Jy 2 ?_);refine Vo [0,4] [] (fun f N O=>∃(J:List D44),∃(B:Int),∃(E:Int),N=[(3,A.i B),(5,A.i E)]∧O=[(0,.own T44 45 A0_ c1_ J)]∧s.length=J.length∧A.h6 B∧A.h6 E∧F.v s p f J B E=some r) ⟨s,p,1,rfl,rfl,rfl,ai,(Vd .i64 (1) rfl),k⟩ ?_;rintro a1 _ _ ⟨J,B,E,rfl,rfl,hn19,am,b0,k⟩;rcases a1 with _|a1
   ·exact Vm k
   rw[F.v]at k;refine Jw 2 ?_;refine J3 4 [(32,.bool (decide (E<((s.length -p.toNat:Nat):Int))))] (Jy 1 ?_);refine Vu k ?_ ?_<;>intro W k
   ·refine V6 2 ?_;refine J7 [0,4,5] [] (fun N O=>∃(U:List D44),∃(V:Int),N=[(3,A.i V)]∧O=[(0,.own T44 45 A0_ c1_ U)]∧s.length=U.length∧A.h6 V∧F.aH (F.v s p a1) E U V=some r) ?_ ?_
    ·refine V6 2 ?_;refine Vl mixed 10 10 (A.mb 10 0) ?_;have⟨an,k⟩:=Vt k;refine Uq J6 [] [0] [] [] (A.mb 10 115) 5 [(0,.n),(1,.n),(4,.n),(5,.n),(6,.n)] [35,36,39,41] [Z.R64 (E-1)] [(35,.slice (Z.cutA A0_ c1_ p.toNat (T44).size) (s.length-p.toNat) (c1_-p.toNat)),(36,A.i E),(39,.slice (Z.cutA A0_ c1_ p.toNat (T44).size) (s.length-p.toNat) (c1_-p.toNat)),(41,A.i (E-1))] an ?_;have⟨hu37,k⟩:=Vt k;have⟨a6,a7,k⟩:=Vy k;refine A.pkw 0 47 a7 hu37 fun b1=>?_;intro b2 b3 ao;refine Vh J6 [0] [0,47] 2 (A.mb 10 119) rfl (fun a w hf hh=>Vn (t:=T44) a7 ao hf (A.vw rfl (congrArg (fun z=>z-p.toNat) hn19))) ?_;refine Vj J6 [0,47] [0,47] [] [47] (A.mb 10 127) 3 [(3,.e 0 0)] [(38,(A.rai a6))] ?_;have⟨hu44,k⟩:=Vt k;have⟨a8,a9,k⟩:=Vy k;refine A.pkw 0 48 a9 hu44 fun b4=>?_;intro b5 b6 aq;refine Vh J6 [0,47] [0,47,48] 7 (A.mb 10 255) rfl (fun a w hf hh=>Vn (t:=T44) a9 aq hf (A.vw rfl (congrArg (fun z=>z-p.toNat) hn19))) ?_;refine Vj J6 [0,47,48] [0,47,48] [] [48] (A.mb 10 511) 1 [(8,.e 0 0)] [(43,(A.rai a8))] ?_;refine Vh J6 [0,47,48] [0,47,48] 9 (A.mb 10 1023) rfl (fun a w hf hh=>eqagg_neq45 (x:=a6) (y:=a8) (hf.eval rfl) (hf.eval rfl)) ?_;refine Ve ?_;refine U2 1 ?_;refine Vu k ?_ ?_<;>intro W k
     ·refine Jw 1 ?_;refine J3 4 [(45,.slice A0_ s.length c1_),(46,A.i B),(47,.slice (Z.cutA A0_ c1_ p.toNat (T44).size) (s.length-p.toNat) (c1_-p.toNat)),(48,A.i E)] ?_;have⟨hu52,k⟩:=Vt k;have⟨Y,ar,k⟩:=Vy k;refine A.AL.ixw 0 49 ar hu52 (congrArg (fun z=>z-p.toNat) hn19) fun L=>?_;intro b7 b9;refine J2 [] [49] [.e 0 0] [(50,(A.rai Y))] ?_;refine U3 45 (Ub (show s.length=J.length from hn19)) ?_;have⟨au,aa,k⟩:=Vy k;refine Uk 0 50 aa fun bb=>?_;intro bc av;refine A.AL.setel 0 50 [47,48,49,50] (o:=0) (m:=8) (t:=T44) (new:=(A.rac Y)) (es:=(A.rac au)) Y aa av ⟨⟨rfl,L.1⟩,⟨rfl,L.2.1⟩,⟨rfl,L.2.2.1⟩,⟨rfl,L.2.2.2.1⟩,⟨⟨rfl,L.2.2.2.2.1⟩,⟨rfl,L.2.2.2.2.2.1⟩,⟨rfl,L.2.2.2.2.2.2.1⟩,⟨rfl,L.2.2.2.2.2.2.2⟩⟩⟩ ?_;refine Vb 1 ?_;have⟨ab,k⟩:=Vt k;refine Uc 3 [Z.R64 (B+1)] [(3,A.i (B+1))] ab (Uh 1 ?_);exact Vk ⟨(J.set B.toNat Y),(B+1),rfl,rfl,(by rw[Wx];exact hn19),(J4 ab),k⟩
     refine V1 2 ?_;exact Vk ⟨J,B,rfl,rfl,hn19,am,k⟩
    rintro _ _ ⟨U,V,rfl,rfl,hn28,aw,k⟩;rw[F.aH]at k;refine Jw 0 ?_;have⟨ac,k⟩:=Vt k;refine Uc 3 [Z.R64 (E+1)] [(5,A.i (E+1))] ac (Jz ?_);exact Vk ⟨_,Qi _,⟨U,V,(E+1),rfl,rfl,hn28,aw,(J4 ac),k⟩⟩
   refine Jw 3 ?_;refine J3 2 [(54,.slice A0_ s.length c1_),(55,A.i B)] ?_;refine U3 54 (Ub (show s.length=J.length from hn19)) ?_;have⟨ad,k⟩:=Vt k;refine A.AL.clr 0 [] (t:=T44) (u:=B.toNat) (zs:=l3a) ((0,0,0,0,0,0,0,0):D44) (Wb ad.1).symm ad.2 Tryz.zeroValue45 ⟨⟨rfl,by decide⟩,⟨rfl,by decide⟩,⟨rfl,by decide⟩,⟨rfl,by decide⟩,⟨⟨rfl,by decide⟩,⟨rfl,by decide⟩,⟨rfl,by decide⟩,⟨rfl,by decide⟩⟩⟩ ?_ Tryz.sizeOf45
   refine Vb 2 ?_;refine J3 2 [(57,.slice A0_ s.length c1_),(58,A.i B)] ?_;refine U3 57 (Ub (show s.length=(List.take B.toNat J++List.replicate (J.length -B.toNat) ((0,0,0,0,0,0,0,0):D44)).length from(Eq.trans hn19 (by rw[Qm,Qs,W8];omega)))) ?_;have⟨ae,k⟩:=Vt k;refine A.AL.cuto 0 [] (v:=B.toNat) (Wb ae.1).symm ae.2 ?_;refine J3 1 [(2,.slice A0_ ((List.take B.toNat (List.take B.toNat J++List.replicate (J.length -B.toNat) ((0,0,0,0,0,0,0,0):D44))).length) c1_)] (Jy 1 ?_);obtain rfl:=J8 k;refine A.frz 0 [] ?_;exact J9 [(0,0)] ⟨A0_,c1_,rfl,rfl⟩
  refine Jw 3 ?_;have⟨ag,k⟩:=Vt k;refine Uc 3 [Z.R64 (p+1)] [(3,A.i (p+1))] ag (Jz ?_);exact Vk ⟨_,Qi _,⟨(p+1),rfl,rfl,(J4 ag),k⟩⟩
 refine Jw 3 ?_;refine J3 2 [(2,.slice A0_ s.length c1_)] (Jy 1 ?_);obtain rfl:=J8 k;refine A.frz 0 [] ?_;exact J9 [(0,0)] ⟨A0_,c1_,rfl,rfl⟩
def F.es (k:D44)(o:D44):Option Bool:=(F.eg k o).bind fun p=>(some p)
theorem o_a6(k:D44)(o:D44)(s:A.h6 k.1)(u:A.h6 k.2.1)(x:A.h6 k.2.2.1)(y:A.h6 k.2.2.2.1)(z:A.h6 k.2.2.2.2.1)(B:A.h6 k.2.2.2.2.2.1)(E:A.h6 k.2.2.2.2.2.2.1)(J:A.h6 k.2.2.2.2.2.2.2)(L:A.h6 o.1)(N:A.h6 o.2.1)(O:A.h6 o.2.2.1)(U:A.h6 o.2.2.2.1)(V:A.h6 o.2.2.2.2.1)(W:A.h6 o.2.2.2.2.2.1)(Y:A.h6 o.2.2.2.2.2.2.1)(a1:A.h6 o.2.2.2.2.2.2.2)(r:Bool)(p:F.es k o=some r):
    A.Ct Tryz.prog 107 [(A.rai k),.pointer (some ⟨g8_,0,none⟩)] [(0,.el none g8_ 0 (A.rac o))] [] (fun v H'=>v=.bool r∧H'=[]):=by
 refine J1 Tryz.func107 rfl Tryz.ntmps107 rfl fun w0 F0=>?_;rw[F.es]at p;refine Jw 1 ?_;refine Va 1 (cs:=(A.rac k)) fun g1=>?_;refine J3 1 [] (Vb 2 ?_);refine J2 [1] [0] [.b 0 0,.e 0 0] [(4,(A.rai k)),(5,(A.rai o))] ?_;refine Vv 2 [] p (o_bv k o s u x y z B E J L N O U V W Y a1) .nil ?_;rintro r2 - p _ _ ⟨rfl,rfl⟩;refine Vf ?_;refine J3 1 [(3,.bool r2)] (Jy 1 ?_);obtain rfl:=J8 p;exact J9 [] ⟨rfl,rfl⟩
def F.f (o:(List D44))(p:D44):Nat→Int→Option Int
 |0,_=>none
 |f+1,k=>if k<(o.length:Int)then((A.ix o k).bind fun s=>((F.es s p).bind fun u=>(if u=true then(some k)else(A.gd (Z.R64 (k+1)) ((F.f o p f) (k+1))))))else(some (-1))
def F.aL (k:(List D44))(o:D44):Option Int:=F.f k o A.FU 0
theorem o_r(x:(List D44))(o:D44)(E:A.h6 o.1)(J:A.h6 o.2.1)(L:A.h6 o.2.2.1)(N:A.h6 o.2.2.2.1)(O:A.h6 o.2.2.2.2.1)(U:A.h6 o.2.2.2.2.2.1)(V:A.h6 o.2.2.2.2.2.2.1)(W:A.h6 o.2.2.2.2.2.2.2)(r:Int)(k:F.aL x o=some r):
    A.Ct Tryz.prog 52 [.slice A0_ x.length c1_,.func (.func 107) #[] #[.pointer (some ⟨g2_,0,none⟩)]] [(0,.ln T44 A0_ c1_ x),(1,.el none g2_ 0 (A.rac o))] [] (fun v H'=>v=A.i r∧H'=[]∧A.h6 r):=by
 refine J1 Tryz.func52 rfl Tryz.ntmps52 rfl fun w0 F0=>?_;rw[F.aL]at k;refine Jw 1 ?_;refine J3 1 [] (Vb 3 ?_);refine J3 3 [(7,A.i (x.length:Int)),(8,A.i 0)] (Jy 2 ?_);refine Vo [0,1,7] l3m (fun f Y nh=>∃(p:Int),Y=[(8,A.i p)]∧nh=[]∧A.h6 p∧F.f x o f p=some r) ⟨0,rfl,rfl,J0,k⟩ ?_;rintro y _ _ ⟨p,rfl,rfl,a1,k⟩;rcases y with _|y
 ·exact Vm k
 rw[F.f]at k;refine Jw 1 ?_;refine J3 1 [(9,.bool (decide (p<(x.length:Int))))] (Jy 2 ?_);refine Vu k ?_ ?_<;>intro hb k
 ·refine Jw 5 ?_;refine J3 2 [(5,A.i p)] (Vb 2 ?_);refine J3 3 [(11,.func (.func 107) #[] #[.pointer (some ⟨g2_,0,none⟩)]),(12,.slice A0_ x.length c1_),(13,A.i p)] ?_;have⟨z,a2,k⟩:=Vy k;refine Ud 0 84 a2 fun u=>?_;intro b7 o8;refine J2 [] [84] [.e 0 0] [(15,(A.rai z))] ?_;have⟨r9,a3,k⟩:=Vy k;refine A.AL.call 85 [] (first:=[]) (cap:=[.pointer (some ⟨g2_,0,none⟩)]) cf107 (o_a6 g2_ z o u.1 u.2.1 u.2.2.1 u.2.2.2.1 u.2.2.2.2.1 u.2.2.2.2.2.1 u.2.2.2.2.2.2.1 u.2.2.2.2.2.2.2 E J L N O U V W r9 a3) (.s 1 .nil) ?_;rintro _ _ ⟨rfl,rfl⟩;refine Vf ?_;refine Jy 1 ?_;refine Ue k ?_ ?_<;>intro hb k
  ·refine Jw 1 ?_;refine J3 2 [(4,A.i p)] (Jy 1 ?_);obtain rfl:=J8 k;exact J9 [] ⟨rfl,rfl,a1⟩
  refine Jw 3 ?_;have⟨B,k⟩:=Vt k;refine Uc 2 [Z.R64 (p+1)] [(8,A.i (p+1))] B (Jz ?_);exact Vk ⟨_,Qi _,⟨(p+1),rfl,rfl,(J4 B),k⟩⟩
 refine Jw 3 ?_;refine J3 1 [(4,A.i (-1))] (Jy 1 ?_);obtain rfl:=J8 k;exact J9 [] ⟨rfl,rfl,(Vd .i64 (-1) rfl)⟩
def F.u (k:(List D44))(o:D44):Option Bool:=(F.aL k o).bind fun p=>(some (decide ((0:Int)≤p)))
theorem o_k(o:(List D44))(k:D44)(x:A.h6 k.1)(y:A.h6 k.2.1)(z:A.h6 k.2.2.1)(B:A.h6 k.2.2.2.1)(E:A.h6 k.2.2.2.2.1)(J:A.h6 k.2.2.2.2.2.1)(L:A.h6 k.2.2.2.2.2.2.1)(N:A.h6 k.2.2.2.2.2.2.2)(r:Bool)(p:F.u o k=some r):
    A.Ct Tryz.prog 16 [.slice A0_ o.length c1_,.func (.func 107) #[] #[.pointer (some ⟨g2_,0,none⟩)]] [(0,.ln T44 A0_ c1_ o),(1,.el none g2_ 0 (A.rac k))] [] (fun v H'=>v=.bool r∧H'=[]):=by
 refine J1 Tryz.func16 rfl Tryz.ntmps16 rfl fun U V=>?_;rw[F.u]at p;refine Jw 1 ?_;refine J3 1 [] (Vb 2 ?_);refine J3 2 [(5,.slice A0_ o.length c1_),(6,.func (.func 107) #[] #[.pointer (some ⟨g2_,0,none⟩)])] ?_;refine Vv 2 [] p (o_r A0_ c1_ g2_ o k x y z B E J L N) (.s 0 (.s 1 .nil)) ?_;rintro O - p _ _ ⟨rfl,rfl,hr3⟩;refine Vf ?_;refine J3 2 [(4,.bool (decide ((0:Int)≤O)))] (Jy 1 ?_);obtain rfl:=J8 p;exact J9 [] ⟨rfl,rfl⟩
def F.ak (k:List D44):Option (List D44):=A.gd (k.length<4611686018427387904) (A.srtF (fun x y=>F.a5 x y) k)
theorem o_s(k:List D44)(r:List D44)(o:F.ak k=some r):
    A.Ct Tryz.prog 109 [.slice A0_ k.length c1_,.func (.func 110) #[] #[]] [(0,.own T44 45 A0_ c1_ k)] (Z.obl A0_++[]) (fun v H'=>v=.tuple #[]∧H'=[(0,.own T44 45 A0_ c1_ r)]∧r.length=k.length):=by
 have⟨hc,o⟩:=Vt o;rw[Wm]
 exact A.Ct.sortF (t:=T44) (e:=45) Tryz.laysSortFunc109 rfl rfl Tryz.isAgg45 Tryz.sizeOf45 A0_ c1_ 110 (fun x y=>F.a5 x y) cf110 (fun x y r hx hy h=>⟨_,o_aC x y hx.1 hx.2.1 hx.2.2.1 hx.2.2.2.1 hx.2.2.2.2.1 hx.2.2.2.2.2.1 hx.2.2.2.2.2.2.1 hx.2.2.2.2.2.2.2 hy.1 hy.2.1 hy.2.2.1 hy.2.2.2.1 hy.2.2.2.2.1 hy.2.2.2.2.2.1 hy.2.2.2.2.2.2.1 hy.2.2.2.2.2.2.2 r h,fun v H' h=>h.1⟩) k r hc o
def F.dt (o:(List D44)→Int→Option ((List D44)×Int))(k:Int)(p:List D44):Option ((List D44)×Int):=A.gd (Z.R64 (k+1)) (o p (k+1))
def F.du (p:(List D44)→Int→Option ((List D44)×Int))(x:(List D44))(k:List D44)(s:Int)(o:D44)(y:Bool):Option ((List D44)×Int):=if y=true then(some ([],11))else((F.u x o).bind fun z=>(if(!z)=true then(A.gd ((List.length (α:=D44) k+List.length (α:=D44) [o])*64≤140737488355328) (F.dt p s (k++[o])))else(F.dt p s k)))
def F.bb (k:(List D44)):Nat→(List D44)→Int→Option ((List D44)×Int)
 |0,_,_=>none
 |f+1,s,o=>if o<(k.length:Int)then((A.ix k o).bind fun p=>((A.ix k 0).bind fun u=>(if p.1≠u.1 then(F.du (F.bb k f) k s o p true)else((A.ix k 0).bind fun x=>((F.dn p).bind fun y=>((F.dn x).bind fun z=>(F.du (F.bb k f) k s o p (decide (y≠z)))))))))else((F.ak s).bind fun B=>((F.aB B).bind fun E=>(some (E,0))))
def F.cB (k:(List D44)):Nat→Int→Option ((List D44)×Int)
 |0,_=>none
 |f+1,o=>if o<(k.length:Int)then((A.ix k o).bind fun p=>((F.am p).bind fun s=>(if(!s)=true then(some ([],20))else(A.gd (Z.R64 (o+1)) ((F.cB k f) (o+1))))))else(F.bb k A.FU [] 0)
def F.dY (k:(List D44)):Option ((List D44)×Int):=F.cB k A.FU 0
theorem o_bi(u:(List D44))(r:(List D44)×Int)(o:F.dY u=some r):
    A.Ct Tryz.prog 75 [.slice A0_ u.length c1_] [(0,.ln T44 A0_ c1_ u)] [] (fun v H'=>∃(A0':Option Addr) (c1':Nat),v=.tuple #[.slice A0' r.1.length c1',A.i r.2]∧H'=[(0,.sh (.slice T44) [.slice A0' r.1.length c1'] r.1)]∧A.h6 r.2):=by
 refine J1 Tryz.func75 rfl Tryz.ntmps75 rfl fun w0 F0=>?_;rw[F.dY]at o;refine Jw 1 ?_;refine J3 2 [] (Vb 3 ?_);refine J3 3 [(9,.slice A0_ u.length c1_),(10,A.i (u.length:Int)),(11,A.i 0)] (Jy 2 ?_);refine Vo [0,9,10] [0] (fun f O U=>∃(J:Int),O=[(11,A.i J)]∧U=[]∧A.h6 J∧F.cB u f J=some r) ⟨0,rfl,rfl,J0,o⟩ ?_;rintro f3 _ _ ⟨J,rfl,rfl,ar,o⟩;rcases f3 with _|f3
 ·exact Vm o
 rw[F.cB]at o;refine Jw 1 ?_;refine J3 1 [(12,.bool (decide (J<(u.length:Int))))] (Jy 2 ?_);refine Vu o ?_ ?_<;>intro V o
 ·refine Jw 5 ?_;have⟨Y,ai,o⟩:=Vy o;refine Ud 0 1997 ai fun L=>?_;intro b7 o8;refine J2 [] [1997] [.e 0 0] [(14,(A.rai Y))] ?_;refine J5 1998 (cs:=l3a) Tryz.zeroValue45 fun g9=>?_;refine Vp 1998 [] (A.rac Y) ?_;refine Vb 2 ?_;refine J2 [1998] [] [.b 0 0] [(15,(A.rai Y))] ?_;refine Vv 1999 [] o (o_v Y L.1 L.2.1 L.2.2.1 L.2.2.2.1 L.2.2.2.2.1 L.2.2.2.2.2.1 L.2.2.2.2.2.2.1 L.2.2.2.2.2.2.2) .nil ?_;rintro aj - o _ _ ⟨rfl,rfl⟩;refine Vf ?_;refine J3 1 [(17,.bool (!aj))] (Jy 1 ?_);refine Ue o ?_ ?_<;>intro V o
  ·refine Jw 1 ?_;refine J3 2 [(2,.slice none 0 0),(3,A.i 20)] (Jy 1 ?_);obtain rfl:=J8 o;refine A.snil 2039 T44 ?_;exact V8 [(0,2039)] ⟨none,0,rfl,rfl,(Vd .i64 (20) rfl)⟩
  refine Jw 3 ?_;have⟨a4,o⟩:=Vt o;refine Uc 2 [Z.R64 (J+1)] [(11,A.i (J+1))] a4 (Jz ?_);exact Vk ⟨_,Qi _,⟨(J+1),rfl,rfl,(J4 a4),o⟩⟩
 refine Jw 3 ?_;refine J3 1 [(6,.slice none 0 0)] (Vb 3 ?_);refine J3 3 [(19,.slice A0_ u.length c1_),(20,A.i (u.length:Int)),(21,A.i 0)] (Jy 2 ?_);refine Uf 2376 T44 45 ?_;refine Vo [0,19,20] [0] (fun f O U=>∃(x:List D44),∃(z:Int),∃(B:Option Addr),∃(E:Nat),O=[(6,.slice B x.length E),(21,A.i z)]∧U=[(2376,.own T44 45 B E x)]∧A.h6 z∧F.bb u f x z=some r) ⟨[],0,none,0,rfl,rfl,J0,o⟩ ?_;rintro a1 _ _ ⟨x,z,B,E,rfl,rfl,au,o⟩;rcases a1 with _|a1
 ·exact Vm o
 rw[F.bb]at o;refine Jw 1 ?_;refine J3 1 [(22,.bool (decide (z<(u.length:Int))))] (Jy 2 ?_);refine Vu o ?_ ?_<;>intro V o
 ·refine V6 2 ?_;refine J7 [0,19,20,21] [0] (fun O U=>∃(W:List D44),∃(a2:Option Addr),∃(c20:Nat),O=[(6,.slice a2 W.length c20)]∧U=[(2376,.own T44 45 a2 c20 W)]∧F.dt (F.bb u a1) z W=some r) ?_ ?_
  ·refine Jw 2 ?_;have⟨y,ak,o⟩:=Vy o;refine Ud 0 2789 ak fun p=>?_;intro av aw;refine J2 [] [2789] [.e 0 0] [(24,(A.rai y))] ?_;refine J5 2790 (cs:=l3a) Tryz.zeroValue45 fun a5=>?_;refine Vp 2790 [] (A.rac y) ?_;refine Jy 2 ?_;refine J7 [0,6,8,19,20,21] [0,2376,2790] (fun O U=>∃(a3:Bool),O=[(40,.bool a3)]∧U=[]∧F.du (F.bb u a1) u x z y a3=some r) ?_ ?_
   ·refine Vl mixed 16 16 (A.mb 16 0) ?_;refine Vj J6 [] [0,2376,2789,2790] [2790] [] (A.mb 16 7) 13 [(0,.n),(2,.n),(1,.b 0 0)] [(27,.slice A0_ u.length c1_),(26,A.i y.1)] ?_;have⟨al,a6,o⟩:=Vy o;refine Vw 0 2791 a6 fun ax=>?_;intro ay az am;refine Vh J6 [0,2376,2789,2790] l3c 3 (A.mb 16 15) rfl (fun a w hf hh=>Vn (t:=T44) a6 am hf) ?_;refine Vj J6 l3c l3c [] [2791] (A.mb 16 255) 8 [(4,.n),(5,.e 0 0),(6,.n),(7,.n)] [(32,.bool (decide (y.1≠al.1)))] ?_;refine Uj (j:=32) rfl o ?_ ?_<;>intro V o
    ·refine Vj J6 l3c l3c [] [] (A.mb 16 65535) 0 [(8,.off),(10,.off),(9,.off),(11,.off),(12,.off),(13,.off),(14,.off),(15,.n)] [(40,.bool true)] (Ve ?_);exact Vk ⟨true,rfl,rfl,o⟩
    refine Vj J6 l3c l3c [2790] [] (A.mb 16 1535) 6 [(8,.on (.b 0 0)),(10,.on .n)] [(33,(A.rai y)),(35,.slice A0_ u.length c1_)] ?_;have⟨a7,a8,o⟩:=Vy o;refine Vw 0 2792 a8 fun N=>?_;intro b0 b1 an;refine Un J6 l3c l3b 11 (A.mb 16 3583) (dj:=32) rfl (fun a w hf hh=>Vn (t:=T44) a8 an hf) ?_;refine Vj J6 l3b l3b [] [2792] (A.mb 16 7679) 4 [(12,.on (.e 0 0))] [(37,(A.rai a7))] ?_;refine Vc 9 ?_;refine Vi (dj:=32) rfl rfl ?_;refine Vv 2793 [] o (o_aO y p.1 p.2.1 p.2.2.1 p.2.2.2.1 p.2.2.2.2.1 p.2.2.2.2.2.1 p.2.2.2.2.2.2.1 p.2.2.2.2.2.2.2) .nil ?_;rintro a9 - o _ _ ⟨rfl,rfl,hr50⟩;refine Vf ?_;refine Vg (A.mb 16 8191) l3b ?_;refine Vc 13 ?_;refine Vi (dj:=32) rfl rfl ?_;refine Vv 2833 [] o (o_aO a7 N.1 N.2.1 N.2.2.1 N.2.2.2.1 N.2.2.2.2.1 N.2.2.2.2.2.1 N.2.2.2.2.2.2.1 N.2.2.2.2.2.2.2) .nil ?_;rintro aa - o _ _ ⟨rfl,rfl,hr53⟩;refine Vf ?_;refine Vg (A.mb 16 16383) l3b ?_;refine Vj J6 l3b l3b [] [] (A.mb 16 65535) 0 [(14,.on .n),(15,.n)] [(40,.bool (decide (a9≠aa)))] (Ve ?_);exact Vk ⟨(decide (a9≠aa)),rfl,rfl,o⟩
   rintro _ _ ⟨a3,rfl,rfl,o⟩;rw[F.du]at o;refine Ue o ?_ ?_<;>intro V o
   ·refine Jw 1 ?_;refine J3 2 [(2,.slice none 0 0),(3,A.i 11)] (Jy 1 ?_);obtain rfl:=J8 o;refine A.snil 2873 T44 ?_;exact V8 [(0,2873)] ⟨none,0,rfl,rfl,(Vd .i64 (11) rfl)⟩
   refine Jw 3 ?_;refine J3 2 [(41,.slice A0_ u.length c1_),(42,.func (.func 107) #[] #[.pointer (some ⟨a5,0,none⟩)])] ?_;refine Vv 2874 [] o (o_k A0_ c1_ a5 u y p.1 p.2.1 p.2.2.1 p.2.2.2.1 p.2.2.2.2.1 p.2.2.2.2.2.1 p.2.2.2.2.2.2.1 p.2.2.2.2.2.2.2) (.s 0 (.b 2790 .nil)) ?_;rintro ao - o _ _ ⟨rfl,rfl⟩;refine Vf ?_;refine J3 1 [(44,.bool (!ao))] (Jy 1 ?_);refine Ue o ?_ ?_<;>intro V o
   ·refine Jw 0 ?_;refine J2 [2790] [] [.n,.b 0 0] [(45,.slice B x.length E),(46,(A.rai y))] ?_;refine Vx 2914 (ty:=T44) (cs:=(A.rac y)) [y] ⟨⟨⟨rfl,p.1⟩,⟨rfl,p.2.1⟩,⟨rfl,p.2.2.1⟩,⟨rfl,p.2.2.2.1⟩,⟨⟨rfl,p.2.2.2.2.1⟩,⟨rfl,p.2.2.2.2.2.1⟩,⟨rfl,p.2.2.2.2.2.2.1⟩,⟨rfl,p.2.2.2.2.2.2.2⟩⟩⟩,rfl⟩ (fun b2=>?_) Tryz.zeroValue45 Tryz.sizeOf45
    have⟨hl35,o⟩:=Vt o;refine V4 (k:=2376) [] (Um (k:=2914) rfl) inf45 hl35 fun ab ac=>?_;refine J3 1 [(6,.slice ab ((x++[y]).length) ac)] (Uh 1 ?_);exact Vk ⟨(x++[y]),ab,ac,rfl,rfl,o⟩
   refine V1 2 ?_;exact Vk ⟨x,B,E,rfl,rfl,o⟩
  rintro _ _ ⟨W,a2,c20,rfl,rfl,o⟩;rw[F.dt]at o;refine Jw 0 ?_;have⟨ad,o⟩:=Vt o;refine Uc 2 [Z.R64 (z+1)] [(21,A.i (z+1))] ad (Jz ?_);exact Vk ⟨_,Qi _,⟨W,(z+1),a2,c20,rfl,rfl,(J4 ad),o⟩⟩
 refine Jw 3 ?_;refine J3 1 [(50,.slice B x.length E)] ?_;refine Vv 2915 [] o (o_s B E x) (.m 2376 .nil) ?_;rintro ae - o _ _ ⟨rfl,rfl,hr56⟩;refine Vf ?_;refine V9 2915 2376 [] ?_;refine Vb 2 ?_;refine J3 1 [(52,.slice B x.length E)] ?_;refine U3 52 (Ub (show x.length=ae.length from(Eq.symm hr56))) ?_;refine Vv 2955 [] o (o_ae B E ae) (.m 2376 .nil) ?_;rintro aq - o _ _ ⟨ag,ah,rfl,rfl⟩;refine Vf ?_;refine J3 2 [(2,.slice ag aq.length ah),(3,A.i 0)] (Jy 1 ?_);obtain rfl:=J8 o;exact V8 [(0,2955)] ⟨ag,ah,rfl,rfl,J0⟩
def F.aw (o:(List D44))(p:(List D44)):Nat→Int→Option Bool
 |0,_=>none
 |f+1,k=>if k<(o.length:Int)then((A.ix o k).bind fun s=>((A.ix p k).bind fun u=>(if s≠u then(some false)else(A.gd (Z.R64 (k+1)) ((F.aw o p f) (k+1))))))else(some true)
def F.aS (k:(List D44))(o:(List D44)):Option Bool:=if(k.length:Int)≠(o.length:Int)then(some false)else(F.aw k o A.FU 0)
theorem o_ah(p:(List D44))(s:(List D44))(r:Bool)(k:F.aS p s=some r):
    A.Ct Tryz.prog 76 [.slice A0_ p.length c1_,.slice A2_ s.length c3_] [(0,.ln T44 A0_ c1_ p),(1,.ln T44 A2_ c3_ s)] [] (fun v H'=>v=.bool r∧H'=[]):=by
 refine J1 Tryz.func76 rfl Tryz.ntmps76 rfl fun Y F0=>?_;rw[F.aS]at k;refine Jw 1 ?_;refine J3 1 [] (Vb 3 ?_);refine J3 5 [(10,.bool (decide ((p.length:Int)≠(s.length:Int))))] (Jy 1 ?_);refine Vu k ?_ ?_<;>intro u k
 ·refine Jw 1 ?_;refine J3 1 [(4,.bool false)] (Jy 1 ?_);obtain rfl:=J8 k;exact J9 [] ⟨rfl,rfl⟩
 refine Jw 4 ?_;refine J3 3 [(12,A.i (p.length:Int)),(13,A.i 0)] (Jy 2 ?_);refine Vo [0,1,12] l3m (fun f O U=>∃(o:Int),O=[(13,A.i o)]∧U=[]∧A.h6 o∧F.aw p s f o=some r) ⟨0,rfl,rfl,J0,k⟩ ?_;rintro z _ _ ⟨o,rfl,rfl,a2,k⟩;rcases z with _|z
 ·exact Vm k
 rw[F.aw]at k;refine Jw 1 ?_;refine J3 1 [(14,.bool (decide (o<(p.length:Int))))] (Jy 2 ?_);refine Vu k ?_ ?_<;>intro u k
 ·refine Jw 5 ?_;refine J3 2 [(5,A.i o)] (Jy 2 ?_);refine Vl mixed 9 9 (A.mb 9 0) ?_;refine Vj J6 [] l3m [] [] (A.mb 9 51) 5 [(0,.n),(1,.n),(4,.n),(5,.n)] [(16,.slice A0_ p.length c1_),(17,A.i o),(20,.slice A2_ s.length c3_),(21,A.i o)] ?_;have⟨B,E,k⟩:=Vy k;refine Vw 0 6 E fun a3=>?_;intro b8 o9 V;refine Vh J6 l3m [0,1,6] 2 (A.mb 9 55) rfl (fun a w hf hh=>Vn (t:=T44) E V hf) ?_;refine Vj J6 [0,1,6] [0,1,6] [] [6] (A.mb 9 63) 3 [(3,.e 0 0)] [(19,(A.rai B))] ?_;have⟨J,L,k⟩:=Vy k;refine Vw 1 7 L fun a4=>?_;intro a5 a6 W;refine Vh J6 [0,1,6] [0,1,6,7] 6 (A.mb 9 127) rfl (fun a w hf hh=>Vn (t:=T44) L W hf) ?_;refine Vj J6 [0,1,6,7] [0,1,6,7] [] [7] (A.mb 9 255) 1 [(7,.e 0 0)] [(23,(A.rai J))] ?_;refine Vh J6 [0,1,6,7] [0,1,6,7] 8 (A.mb 9 511) rfl (fun a w hf hh=>eqagg_neq45 (x:=B) (y:=J) (hf.eval rfl) (hf.eval rfl)) ?_;refine Ve ?_;refine U2 1 ?_;refine Vu k ?_ ?_<;>intro u k
  ·refine Jw 1 ?_;refine J3 1 [(4,.bool false)] (Jy 1 ?_);obtain rfl:=J8 k;exact J9 [] ⟨rfl,rfl⟩
  refine Jw 3 ?_;have⟨N,k⟩:=Vt k;refine Uc 2 [Z.R64 (o+1)] [(13,A.i (o+1))] N (Jz ?_);exact Vk ⟨_,Qi _,⟨(o+1),rfl,rfl,(J4 N),k⟩⟩
 refine Jw 3 ?_;refine J3 1 [(4,.bool true)] (Jy 1 ?_);obtain rfl:=J8 k;exact J9 [] ⟨rfl,rfl⟩
def F.bo (k:(List (D88×(List D44))))(o:D88)(p:(List D44)×Int)(s:Bool):Option (Bool×(List (D88×(List D44)))):=if s=true then(some (false,k))else(some (true,Z.mins k o p.1))
def F.aC (o:(List (D88×(List D44))))(p:D88)(s:(List D44)):Option (Bool×(List (D88×(List D44)))):=A.lt (Z.mget ([]:(List D44)) o p) fun u=>((F.an u).bind fun x=>(A.gd ((List.length (α:=D44) x+List.length (α:=D44) s)*64≤140737488355328) ((F.dY (x++s)).bind fun k=>(if k.2≠0 then(F.bo o p k true)else((F.aS u k.1).bind fun y=>(F.bo o p k y))))))
theorem o_au(U:(List (D88×(List D44))))(s:D88)(B:(List D44))(a4:A.h6 s.1.1)(a5:A.h6 s.1.2)(a6:A.h6 s.2.1)(a7:A.h6 s.2.2)(r:Bool×(List (D88×(List D44))))(p:F.aC U s B=some r):
    A.Ct Tryz.prog 40 [.map (some b0_),(A.rak s),.slice A5_ B.length c6_] [(0,.mp D88 (fun x:D88=>(A.rak x)) (Z.Ty.slice T44) false b0_ U),(1,.ln T44 A5_ c6_ B)] ([b0_]++[]) (fun v H'=>v=.bool r.1∧H'=[(0,.mp D88 (fun x:D88=>(A.rak x)) (Z.Ty.slice T44) false b0_ r.2)]):=by
 refine J1 Tryz.func40 rfl Tryz.ntmps40 rfl fun w0 F0=>?_;rw[F.aC]at p;refine Jw 1 ?_;refine Va 2 (cs:=[A.i s.1.1,A.i s.1.2,A.i s.2.1,A.i s.2.2]) fun g1=>?_;refine J3 1 [] (Vb 2 ?_);refine J2 [2] [] [.n,.b 0 0] [(10,.map (some b0_)),(11,(A.rak s))] ?_;obtain⟨E,Y,p⟩:=V7 p;refine Uw (t:=(Z.Ty.slice T44)) 0 3 (z:=([]:(List D44))) (zs:=[.slice none 0 0]) ky89 s Tryz.zeroValue49 (.inr ⟨rfl,rfl⟩) Y fun a8=>?_;intro J L;refine J3 1 [(7,.slice J E.length L)] (Vb 2 ?_);refine J3 1 [(14,.slice J E.length L)] ?_;refine Vv 4 [] p (o_t J L E) (.l 3 .nil) ?_;rintro r7 - p _ _ ⟨A9,c10,rfl,rfl⟩;refine Vf ?_;refine J3 1 [(16,.slice A5_ B.length c6_)] ?_;have⟨hl13,p⟩:=Vt p;refine V4 (k:=4) [] (A.rowL (k:=1) rfl) inf45 hl13 fun a3 c12=>?_;refine Vv 44 [] p (o_bi a3 c12 (r7++B)) (.o 4 .nil) ?_;rintro y - p _ _ ⟨N,O,rfl,rfl,hr18⟩;refine Vf ?_;refine J3 5 [(8,.slice N y.1.length O),(9,A.i y.2)] (Jy 2 ?_);refine J7 [0,4,8] [0,2,44] (fun nl nh=>∃(V:Bool),nl=[(27,.bool V)]∧nh=[]∧F.bo U s y V=some r) ?_ ?_
 ·refine Jw 0 ?_;refine J3 3 [(23,.bool (decide (y.2≠0)))] ?_;refine V2 (j:=23) rfl p ?_ ?_<;>intro hb p
  ·refine J2 [] [] [.off,.off,.off,.n] [(27,.bool true)] (Jz ?_);exact Vk ⟨true,rfl,rfl,p⟩
  refine J2 [] [] [.on .n,.on .n] [(24,.slice J E.length L),(25,.slice N y.1.length O)] ?_;refine Vi (dj:=23) rfl rfl ?_;refine Vv 84 [] p (o_ah J N L O E y.1) (.l 3 (.l 44 .nil)) ?_;rintro W - p _ _ ⟨rfl,rfl⟩;refine Vf ?_;refine J3 1 [(27,.bool W)] (Jz ?_);exact Vk ⟨W,rfl,rfl,p⟩
 rintro _ _ ⟨V,rfl,rfl,p⟩;rw[F.bo]at p;refine Ue p ?_ ?_<;>intro hb p
 ·refine Jw 1 ?_;refine J3 1 [(6,.bool false)] (Jy 1 ?_);obtain rfl:=J8 p;exact J9 [(0,0)] ⟨rfl,rfl⟩
 refine Jw 3 ?_;refine J2 [2] [] [.n,.b 0 0,.n] [(28,.map (some b0_)),(29,(A.rak s)),(30,.slice N y.1.length O)] ?_;refine A.AL.mup (t:=(Z.Ty.slice T44)) 0 [] (cs:=[.slice N y.1.length O]) (u:=y.1) ky89 s (.inl ⟨44,rfl⟩) ?_;refine Vb 2 ?_;refine J3 1 [(6,.bool true)] (Jy 1 ?_);obtain rfl:=J8 p;exact J9 [(0,0)] ⟨rfl,rfl⟩
def F.bx (o:D44)(p:Int)(k:Int)(s:Int)(u:Int)(x:Int)(y:Int)(z:Int):Option (D44×Int):=if(1048576:Int)<k then(some ((0,0,0,0,(0,0,0,0)),12))else(some ((o.1,p,k,s,(u,x,y,z)),0))
def F.b2 (o:D44)(k:D44)(x:Bool):Option (D44×Int):=if x=true then(some ((0,0,0,0,(0,0,0,0)),20))else(A.gd (Z.R64 (o.2.1+o.2.2.2.1)) (if o.2.1+o.2.2.2.1≠k.1 then(some ((0,0,0,0,(0,0,0,0)),11))else(if k.2.1=o.2.1 then(A.gd (Z.R64 (k.2.2.1+o.2.2.1)) (F.bx o k.2.1 (k.2.2.1+o.2.2.1) k.2.2.2.1 k.2.2.2.2.1 k.2.2.2.2.2.1 k.2.2.2.2.2.2.1 k.2.2.2.2.2.2.2))else(if o.2.1<k.2.1 then(A.gd (Z.R64 (k.2.1-o.2.1)) (A.gd (Z.R64 ((k.2.1-o.2.1)+k.2.2.2.1)) (A.gd (0≤k.2.1-o.2.1∧k.2.1-o.2.1≤4) (A.gd (0≤k.2.1-o.2.1∧k.2.1-o.2.1≤4) ((A.cp4 [0,0,0,0] [o.2.2.2.2.1,o.2.2.2.2.2.1,o.2.2.2.2.2.2.1,o.2.2.2.2.2.2.2] 0 (k.2.1-o.2.1) (k.2.1-o.2.1)).bind fun u=>(A.gd (0≤k.2.1-o.2.1∧k.2.1-o.2.1≤4) (A.gd (0≤k.2.2.2.1∧k.2.2.2.1≤4) ((A.cp4 [u.1,u.2.1,u.2.2.1,u.2.2.2] [k.2.2.2.2.1,k.2.2.2.2.2.1,k.2.2.2.2.2.2.1,k.2.2.2.2.2.2.2] (k.2.1-o.2.1) 4 k.2.2.2.1).bind fun p=>(A.gd (Z.R64 ((k.2.1-o.2.1)-1)) ((A.ix [p.1,p.2.1,p.2.2.1,p.2.2.2] ((k.2.1-o.2.1)-1)).bind fun s=>(A.gd (Z.R64 (s+k.2.2.1)) ((A.ix [p.1,p.2.1,p.2.2.1,p.2.2.2] ((k.2.1-o.2.1)-1)).bind fun z=>(A.gd (Z.R64 ((k.2.1-o.2.1)-1)) ((A.ix [(if(k.2.1-o.2.1)-1=0 then s+k.2.2.1 else p.1),(if(k.2.1-o.2.1)-1=1 then s+k.2.2.1 else p.2.1),(if(k.2.1-o.2.1)-1=2 then s+k.2.2.1 else p.2.2.1),(if(k.2.1-o.2.1)-1=3 then s+k.2.2.1 else p.2.2.2)] ((k.2.1-o.2.1)-1)).bind fun y=>(if(1048576:Int)<y then(some ((0,0,0,0,(0,0,0,0)),12))else(F.bx o o.2.1 o.2.2.1 ((k.2.1-o.2.1)+k.2.2.2.1) (if(k.2.1-o.2.1)-1=0 then s+k.2.2.1 else p.1) (if(k.2.1-o.2.1)-1=1 then s+k.2.2.1 else p.2.1) (if(k.2.1-o.2.1)-1=2 then s+k.2.2.1 else p.2.2.1) (if(k.2.1-o.2.1)-1=3 then s+k.2.2.1 else p.2.2.2)))))))))))))))))else(F.bx o k.2.1 k.2.2.1 k.2.2.2.1 k.2.2.2.2.1 k.2.2.2.2.2.1 k.2.2.2.2.2.2.1 k.2.2.2.2.2.2.2)))))
def F.bS (k:D44)(o:D44):Option (D44×Int):=(F.am k).bind fun p=>(if(!p)=true then(F.b2 k o true)else((F.am o).bind fun s=>(F.b2 k o (!s))))
theorem o_bw (p:D44)(k:D44)(ae:A.h6 p.1)(ag:A.h6 p.2.1)(ah:A.h6 p.2.2.1)(am:A.h6 p.2.2.2.1)(y:A.h6 p.2.2.2.2.1)(z:A.h6 p.2.2.2.2.2.1)(B:A.h6 p.2.2.2.2.2.2.1)(E:A.h6 p.2.2.2.2.2.2.2)(an:A.h6 k.1)(ab:A.h6 k.2.1)(ai:A.h6 k.2.2.1)(ac:A.h6 k.2.2.2.1)(U:A.h6 k.2.2.2.2.1)(V:A.h6 k.2.2.2.2.2.1)(W:A.h6 k.2.2.2.2.2.2.1)(Y:A.h6 k.2.2.2.2.2.2.2)(r:D44×Int)(s:F.bS p k=some r):
    A.Ct Tryz.prog 77 [(A.rai p),(A.rai k)] [] [] (fun v H'=>v=.tuple #[(A.rai r.1),A.i r.2]∧H'=[]∧A.h6 r.1.1∧A.h6 r.1.2.1∧A.h6 r.1.2.2.1∧A.h6 r.1.2.2.2.1∧A.h6 r.1.2.2.2.2.1∧A.h6 r.1.2.2.2.2.2.1∧A.h6 r.1.2.2.2.2.2.2.1∧A.h6 r.1.2.2.2.2.2.2.2∧A.h6 r.2):=by
 refine J1 Tryz.func77 rfl Tryz.ntmps77 rfl fun w0 F0=>?_;rw[F.bS]at s;refine Jw 1 ?_;refine Va 0 (cs:=(A.rac p)) fun g1=>?_;refine Va 1 (cs:=(A.rac k)) fun g2=>?_;refine J5 2 (cs:=l3a) Tryz.zeroValue45 fun g3=>?_;refine J3 1 [] (Jy 3 ?_);refine J7 [2,3,4] [0,1,2] (fun nl nh=>∃(y4:Bool),nl=[(8,.bool y4)]∧nh=[]∧F.b2 p k y4=some r) ?_ ?_
 ·refine Jw 0 ?_;refine J2 [0] [] [.b 0 0] [(9,(A.rai p))] ?_;refine Vv 3 [] s (o_v p ae ag ah am y z B E) .nil ?_;rintro ao - s _ _ ⟨rfl,rfl⟩;refine Vf ?_;refine J3 2 [(12,.bool (!ao))] ?_;refine Vs (j:=12) rfl s (fun s=>?_) (fun s=>?_)
  ·refine J2 [] [] [.off,.off,.off,.n,.n] [(8,.bool true)] (Jz ?_);exact Vk ⟨true,rfl,rfl,s⟩
  refine J2 [1] [] [.on (.b 0 0)] [(13,(A.rai k))] ?_;refine Vi (dj:=12) rfl rfl ?_;refine Vv 43 [] s (o_v k an ab ai ac U V W Y) .nil ?_;rintro aj - s _ _ ⟨rfl,rfl⟩;refine Vf ?_;refine J2 [] [] [.on .n,.n,.n] [(8,.bool (!aj))] (Jz ?_);exact Vk ⟨(!aj),rfl,rfl,s⟩
 rintro _ _ ⟨y4,rfl,rfl,s⟩;rw[F.b2]at s;refine Ue s ?_ ?_<;>intro hb s
 ·refine Jw 1 ?_;refine J3 1 [(17,.agg #[A.i 0,A.i 0,A.i 0,A.i 0,A.i 0,A.i 0,A.i 0,A.i 0])] ?_;refine Vp 2 [] A.zz8 ?_;refine J3 1 [(5,A.i 20)] (Jy 1 ?_);obtain rfl:=J8 s;exact Vr [] (.tuple #[.agg #[A.i 0,A.i 0,A.i 0,A.i 0,A.i 0,A.i 0,A.i 0,A.i 0],A.i 20]) (fun a w hf hh=>V3 rfl (V5 hf rfl Tryz.isAgg45 Tryz.sizeOf45 (Vq hh 2) rfl) (Vz hf rfl)) (⟨rfl,rfl,J0,J0,J0,J0,J0,J0,J0,J0,(Vd .i64 (20) rfl)⟩)
 refine Jw 1 ?_;have⟨aq,s⟩:=Vt s;refine A.q [0,1] [] [.n,.b 0 1,.n,.b 0 3,.n,.n,.b 1 0,.n,.n] [Z.R64 (p.2.1+p.2.2.2.1)] [(18,.bool (decide (p.2.1+p.2.2.2.1≠k.1)))] aq (Jy 1 ?_);refine Vu s ?_ ?_<;>intro hb s
 ·refine Jw 1 ?_;refine J3 1 [(27,.agg #[A.i 0,A.i 0,A.i 0,A.i 0,A.i 0,A.i 0,A.i 0,A.i 0])] ?_;refine Vp 2 [] A.zz8 ?_;refine J3 1 [(5,A.i 11)] (Jy 1 ?_);obtain rfl:=J8 s;exact Vr [] (.tuple #[.agg #[A.i 0,A.i 0,A.i 0,A.i 0,A.i 0,A.i 0,A.i 0,A.i 0],A.i 11]) (fun a w hf hh=>V3 rfl (V5 hf rfl Tryz.isAgg45 Tryz.sizeOf45 (Vq hh 2) rfl) (Vz hf rfl)) (⟨rfl,rfl,J0,J0,J0,J0,J0,J0,J0,J0,(Vd .i64 (11) rfl)⟩)
 refine Jw 4 ?_;refine J2 [1] [] [.b 0 0] [(28,(A.rai k))] ?_;refine J5 83 (cs:=l3a) Tryz.zeroValue45 fun N=>?_;refine Vp 83 [] (A.rac k) ?_;refine Vb 2 ?_;refine J2 [0] [] [.n,.b 0 0,.n] [(30,A.i p.1),(31,.pointer (some ⟨N,0,none⟩))] ?_;refine Uz 83 [] (new:=[A.i p.1]) (cs':=[A.i p.1,A.i k.2.1,A.i k.2.2.1,A.i k.2.2.2.1,A.i k.2.2.2.2.1,A.i k.2.2.2.2.2.1,A.i k.2.2.2.2.2.2.1,A.i k.2.2.2.2.2.2.2]) ?_;refine Jy 1 ?_;refine J7 [4,6] [2] (fun nl nh=>∃(y7:Int),∃(O:Int),∃(a2:Int),∃(a3:Int),∃(a4:Int),∃(a5:Int),∃(a6:Int),nl=[]∧nh=[(83,.blk N 45 [A.i p.1,A.i y7,A.i O,A.i a2,A.i a3,A.i a4,A.i a5,A.i a6])]∧A.h6 y7∧A.h6 O∧A.h6 a2∧A.h6 a3∧A.h6 a4∧A.h6 a5∧A.h6 a6∧F.bx p y7 O a2 a3 a4 a5 a6=some r) ?_ ?_
 ·refine Jw 2 ?_;refine J2 [1,0] [] [.n,.b 0 1,.n,.b 1 1,.n,.n] [(32,.bool (decide (k.2.1=p.2.1)))] (Jy 1 ?_);refine Vu s ?_ ?_<;>intro hb s
  ·refine Jw 0 ?_;have⟨ak,s⟩:=Vt s;refine A.q [83,0] [] [.n,.b 0 2,.n,.b 1 2,.n,.n] [Z.R64 (k.2.2.1+p.2.2.1)] [(42,A.i (k.2.2.1+p.2.2.1)),(43,.pointer (some ⟨N,2,none⟩))] ak ?_;refine Uz 83 [] (new:=[A.i (k.2.2.1+p.2.2.1)]) (cs':=[A.i p.1,A.i k.2.1,A.i (k.2.2.1+p.2.2.1),A.i k.2.2.2.1,A.i k.2.2.2.2.1,A.i k.2.2.2.2.2.1,A.i k.2.2.2.2.2.2.1,A.i k.2.2.2.2.2.2.2]) ?_;refine Uh 1 ?_;exact Vk ⟨k.2.1,(k.2.2.1+p.2.2.1),k.2.2.2.1,k.2.2.2.2.1,k.2.2.2.2.2.1,k.2.2.2.2.2.2.1,k.2.2.2.2.2.2.2,rfl,rfl,ab,(J4 ak),ac,U,V,W,Y,s⟩
  refine Jw 1 ?_;refine J2 [1,0] [] [.n,.b 0 1,.n,.b 1 1,.n,.n] [(44,.bool (decide (p.2.1<k.2.1)))] (Jy 1 ?_);refine Vu s ?_ ?_<;>intro hb s
  ·refine Jw 1 ?_;have⟨ar,s⟩:=Vt s;refine A.q [1,0] [] [.n,.b 0 1,.n,.b 1 1,.n,.n] [Z.R64 (k.2.1-p.2.1)] [(7,A.i (k.2.1-p.2.1))] ar (Vb 2 ?_);have⟨al,s⟩:=Vt s;refine A.q [0,1] [] [.n,.b 0 0,.n,.b 0 1,.n,.b 0 2,.n,.n,.b 1 3,.n,.n] [Z.R64 ((k.2.1-p.2.1)+k.2.2.2.1)] [(65,.agg #[A.i p.1,A.i p.2.1,A.i p.2.2.1,A.i ((k.2.1-p.2.1)+k.2.2.2.1),A.i 0,A.i 0,A.i 0,A.i 0])] al ?_;refine Vp 83 [] [A.i p.1,A.i p.2.1,A.i p.2.2.1,A.i ((k.2.1-p.2.1)+k.2.2.2.1),A.i 0,A.i 0,A.i 0,A.i 0] ?_;refine Jy 2 ?_;refine Vl mixed 6 7 (A.mb 7 0) ?_;refine Vj J6 [] l3e [] [] (A.mb 7 27) 3 [(0,.n),(1,.n),(3,.n),(4,.n)] [(66,.pointer (some ⟨N,4,none⟩)),(67,A.i (k.2.1-p.2.1)),(69,.pointer (some ⟨g1,4,none⟩)),(70,A.i (k.2.1-p.2.1))] ?_;have⟨au,s⟩:=Vt s;refine Vh J6 l3e l3e 2 (A.mb 7 31) rfl (fun a w hf hh=>Z.r_sliceA_h (v:=(k.2.1-p.2.1).toNat) Tryz.underlying43 Tryz.sizeOf2 (hf.eval rfl) (hf.eval rfl) (Wb au.1).symm (by omega)) ?_;have⟨av,s⟩:=Vt s;refine Vh J6 l3e l3e 5 (A.mb 7 63) rfl (fun a w hf hh=>Z.r_sliceA_h (v:=(k.2.1-p.2.1).toNat) Tryz.underlying43 Tryz.sizeOf2 (hf.eval rfl) (hf.eval rfl) (Wb av.1).symm (by omega)) ?_;refine Vc 6 ?_;have⟨aa,J,s⟩:=Vy s;refine A.AL.cpB 83 0 [] (o:=4) (o2:=4) (cs':=[A.i p.1,A.i p.2.1,A.i p.2.2.1,A.i ((k.2.1-p.2.1)+k.2.2.2.1),A.i aa.1,A.i aa.2.1,A.i aa.2.2.1,A.i aa.2.2.2]) J ?_ inf2.sz (fun _=>rfl) rfl rfl
   refine Us (A.mb 7 127) ?_;refine Ve ?_;refine U2 2 ?_;refine Vl mixed 7 8 (A.mb 8 0) ?_;refine Vj J6 [] l3e [1] [] (A.mb 8 59) 3 [(0,.n),(1,.n),(3,.n),(4,.n),(5,.b 0 3)] [(73,.pointer (some ⟨N,4,none⟩)),(74,A.i (k.2.1-p.2.1)),(76,.pointer (some ⟨g2,4,none⟩)),(78,A.i k.2.2.2.1)] ?_;have⟨aw,s⟩:=Vt s;refine Vh J6 l3e l3e 2 (A.mb 8 63) rfl (fun a w hf hh=>Z.r_sliceA_l (u:=(k.2.1-p.2.1).toNat) Tryz.underlying43 Tryz.sizeOf2 (hf.eval rfl) (hf.eval rfl) (Wb aw.1).symm (by omega)) ?_;have⟨ax,s⟩:=Vt s;refine Vh J6 l3e l3e 6 (A.mb 8 127) rfl (fun a w hf hh=>Z.r_sliceA_h (v:=k.2.2.2.1.toNat) Tryz.underlying43 Tryz.sizeOf2 (hf.eval rfl) (hf.eval rfl) (Wb ax.1).symm (by omega)) ?_;refine Vc 7 ?_;have⟨x,a7,s⟩:=Vy s;refine A.AL.cpB 83 1 [] (o:=4) (o2:=4) (cs':=[A.i p.1,A.i p.2.1,A.i p.2.2.1,A.i ((k.2.1-p.2.1)+k.2.2.2.1),A.i x.1,A.i x.2.1,A.i x.2.2.1,A.i x.2.2.2]) a7 ?_ inf2.sz A.cutA4 rfl rfl
   refine Us (A.mb 8 255) ?_;refine Ve ?_;refine U2 2 ?_;refine Vl mixed 10 11 (A.mb 11 0) ?_;have⟨ay,s⟩:=Vt s;refine Uq J6 [] l3e [1] [] (A.mb 11 359) 5 [(0,.n),(2,.n),(5,.n),(8,.n),(1,.n),(6,.b 0 2)] [83,89,82,87] [Z.R64 ((k.2.1-p.2.1)-1)] [(83,.pointer (some ⟨N,4,none⟩)),(89,.pointer (some ⟨N,4,none⟩)),(82,A.i ((k.2.1-p.2.1)-1)),(87,A.i k.2.2.1)] ay ?_;have⟨L,ad,s⟩:=Vy s;refine A.pkb 83 84 (fun v:Int=>A.i v) [x.1,x.2.1,x.2.2.1,x.2.2.2] 4 ad ?_;refine Vh J6 l3e l3k 3 (A.mb 11 367) rfl (fun a w hf hh=>Ua Tryz.underlying43 Tryz.sizeOf2 (hf.eval rfl) (hf.eval rfl) (Uo ad).1 (Uo ad).2) ?_;have⟨a8,s⟩:=Vt s;refine Uq J6 l3k l3k [] [84] (A.mb 11 511) 2 [(4,.e 0 0),(7,.n)] [88] [Z.R64 (L+k.2.2.1)] [(88,A.i (L+k.2.2.1))] a8 ?_;have⟨bc,a9,s⟩:=Vy s;refine A.pkb 83 85 (fun v:Int=>A.i v) [x.1,x.2.1,x.2.2.1,x.2.2.2] 4 a9 ?_;refine Vh J6 l3k [0,1,2,83,84,85] 9 (A.mb 11 1023) rfl (fun a w hf hh=>Ua Tryz.underlying43 Tryz.sizeOf2 (hf.eval rfl) (hf.eval rfl) (Uo a9).1 (Uo a9).2) ?_;refine Vc 10 ?_;refine A.AL.stb 83 [84,85] a9 (A.arr4 (Q:=fun i=>[A.i p.1,A.i p.2.1,A.i p.2.2.1,A.i ((k.2.1-p.2.1)+k.2.2.2.1),A.i (if i=0 then L+k.2.2.1 else x.1),A.i (if i=1 then L+k.2.2.1 else x.2.1),A.i (if i=2 then L+k.2.2.1 else x.2.2.1),A.i (if i=3 then L+k.2.2.1 else x.2.2.2)]=List.set [A.i p.1,A.i p.2.1,A.i p.2.2.1,A.i ((k.2.1-p.2.1)+k.2.2.2.1),A.i x.1,A.i x.2.1,A.i x.2.2.1,A.i x.2.2.2] (4+i.toNat*1) (A.i (L+k.2.2.1))) a9 rfl rfl rfl rfl) ?_;refine Us (A.mb 11 2047) ?_;refine Ve ?_;refine A.el 2 ?_;have⟨az,s⟩:=Vt s;refine Uc 3 [Z.R64 ((k.2.1-p.2.1)-1)] [(92,A.i ((k.2.1-p.2.1)-1)),(93,.pointer (some ⟨N,4,none⟩))] az ?_;have⟨b0,b1,s⟩:=Vy s;refine Ul 83 86 (fun v:Int=>A.i v) [(if(k.2.1-p.2.1)-1=0 then L+k.2.2.1 else x.1),(if(k.2.1-p.2.1)-1=1 then L+k.2.2.1 else x.2.1),(if(k.2.1-p.2.1)-1=2 then L+k.2.2.1 else x.2.2.1),(if(k.2.1-p.2.1)-1=3 then L+k.2.2.1 else x.2.2.2)] b1 ?_;refine J2 [] [86] [.e 0 0,.n] [(96,.bool (decide ((1048576:Int)<b0)))] (Jy 1 ?_);refine Vu s ?_ ?_<;>intro hb s
   ·refine Jw 1 ?_;refine J3 1 [(97,.agg #[A.i 0,A.i 0,A.i 0,A.i 0,A.i 0,A.i 0,A.i 0,A.i 0])] ?_;refine Vp 2 [] A.zz8 ?_;refine J3 1 [(5,A.i 12)] (Jy 1 ?_);obtain rfl:=J8 s;exact Vr [] (.tuple #[.agg #[A.i 0,A.i 0,A.i 0,A.i 0,A.i 0,A.i 0,A.i 0,A.i 0],A.i 12]) (fun a w hf hh=>V3 rfl (V5 hf rfl Tryz.isAgg45 Tryz.sizeOf45 (Vq hh 2) rfl) (Vz hf rfl)) (⟨rfl,rfl,J0,J0,J0,J0,J0,J0,J0,J0,(Vd .i64 (12) rfl)⟩)
   refine V1 2 ?_;exact Vk ⟨p.2.1,p.2.2.1,((k.2.1-p.2.1)+k.2.2.2.1),(if(k.2.1-p.2.1)-1=0 then L+k.2.2.1 else x.1),(if(k.2.1-p.2.1)-1=1 then L+k.2.2.1 else x.2.1),(if(k.2.1-p.2.1)-1=2 then L+k.2.2.1 else x.2.2.1),(if(k.2.1-p.2.1)-1=3 then L+k.2.2.1 else x.2.2.2),rfl,rfl,ag,ah,(J4 al),(A.ite_has (J4 a8) (A.cp4_has a7 (Qa.2 ⟨(A.cp4_has J (Qa.2 ⟨J0,(Qa.2 ⟨J0,(Qa.2 ⟨J0,(Qa.2 ⟨J0,(by simp)⟩)⟩)⟩)⟩) (Qa.2 ⟨y,(Qa.2 ⟨z,(Qa.2 ⟨B,(Qa.2 ⟨E,(by simp)⟩)⟩)⟩)⟩)).1,(Qa.2 ⟨(A.cp4_has J (Qa.2 ⟨J0,(Qa.2 ⟨J0,(Qa.2 ⟨J0,(Qa.2 ⟨J0,(by simp)⟩)⟩)⟩)⟩) (Qa.2 ⟨y,(Qa.2 ⟨z,(Qa.2 ⟨B,(Qa.2 ⟨E,(by simp)⟩)⟩)⟩)⟩)).2.1,(Qa.2 ⟨(A.cp4_has J (Qa.2 ⟨J0,(Qa.2 ⟨J0,(Qa.2 ⟨J0,(Qa.2 ⟨J0,(by simp)⟩)⟩)⟩)⟩) (Qa.2 ⟨y,(Qa.2 ⟨z,(Qa.2 ⟨B,(Qa.2 ⟨E,(by simp)⟩)⟩)⟩)⟩)).2.2.1,(Qa.2 ⟨(A.cp4_has J (Qa.2 ⟨J0,(Qa.2 ⟨J0,(Qa.2 ⟨J0,(Qa.2 ⟨J0,(by simp)⟩)⟩)⟩)⟩) (Qa.2 ⟨y,(Qa.2 ⟨z,(Qa.2 ⟨B,(Qa.2 ⟨E,(by simp)⟩)⟩)⟩)⟩)).2.2.2,(by simp)⟩)⟩)⟩)⟩) (Qa.2 ⟨U,(Qa.2 ⟨V,(Qa.2 ⟨W,(Qa.2 ⟨Y,(by simp)⟩)⟩)⟩)⟩)).1),(A.ite_has (J4 a8) (A.cp4_has a7 (Qa.2 ⟨(A.cp4_has J (Qa.2 ⟨J0,(Qa.2 ⟨J0,(Qa.2 ⟨J0,(Qa.2 ⟨J0,(by simp)⟩)⟩)⟩)⟩) (Qa.2 ⟨y,(Qa.2 ⟨z,(Qa.2 ⟨B,(Qa.2 ⟨E,(by simp)⟩)⟩)⟩)⟩)).1,(Qa.2 ⟨(A.cp4_has J (Qa.2 ⟨J0,(Qa.2 ⟨J0,(Qa.2 ⟨J0,(Qa.2 ⟨J0,(by simp)⟩)⟩)⟩)⟩) (Qa.2 ⟨y,(Qa.2 ⟨z,(Qa.2 ⟨B,(Qa.2 ⟨E,(by simp)⟩)⟩)⟩)⟩)).2.1,(Qa.2 ⟨(A.cp4_has J (Qa.2 ⟨J0,(Qa.2 ⟨J0,(Qa.2 ⟨J0,(Qa.2 ⟨J0,(by simp)⟩)⟩)⟩)⟩) (Qa.2 ⟨y,(Qa.2 ⟨z,(Qa.2 ⟨B,(Qa.2 ⟨E,(by simp)⟩)⟩)⟩)⟩)).2.2.1,(Qa.2 ⟨(A.cp4_has J (Qa.2 ⟨J0,(Qa.2 ⟨J0,(Qa.2 ⟨J0,(Qa.2 ⟨J0,(by simp)⟩)⟩)⟩)⟩) (Qa.2 ⟨y,(Qa.2 ⟨z,(Qa.2 ⟨B,(Qa.2 ⟨E,(by simp)⟩)⟩)⟩)⟩)).2.2.2,(by simp)⟩)⟩)⟩)⟩) (Qa.2 ⟨U,(Qa.2 ⟨V,(Qa.2 ⟨W,(Qa.2 ⟨Y,(by simp)⟩)⟩)⟩)⟩)).2.1),(A.ite_has (J4 a8) (A.cp4_has a7 (Qa.2 ⟨(A.cp4_has J (Qa.2 ⟨J0,(Qa.2 ⟨J0,(Qa.2 ⟨J0,(Qa.2 ⟨J0,(by simp)⟩)⟩)⟩)⟩) (Qa.2 ⟨y,(Qa.2 ⟨z,(Qa.2 ⟨B,(Qa.2 ⟨E,(by simp)⟩)⟩)⟩)⟩)).1,(Qa.2 ⟨(A.cp4_has J (Qa.2 ⟨J0,(Qa.2 ⟨J0,(Qa.2 ⟨J0,(Qa.2 ⟨J0,(by simp)⟩)⟩)⟩)⟩) (Qa.2 ⟨y,(Qa.2 ⟨z,(Qa.2 ⟨B,(Qa.2 ⟨E,(by simp)⟩)⟩)⟩)⟩)).2.1,(Qa.2 ⟨(A.cp4_has J (Qa.2 ⟨J0,(Qa.2 ⟨J0,(Qa.2 ⟨J0,(Qa.2 ⟨J0,(by simp)⟩)⟩)⟩)⟩) (Qa.2 ⟨y,(Qa.2 ⟨z,(Qa.2 ⟨B,(Qa.2 ⟨E,(by simp)⟩)⟩)⟩)⟩)).2.2.1,(Qa.2 ⟨(A.cp4_has J (Qa.2 ⟨J0,(Qa.2 ⟨J0,(Qa.2 ⟨J0,(Qa.2 ⟨J0,(by simp)⟩)⟩)⟩)⟩) (Qa.2 ⟨y,(Qa.2 ⟨z,(Qa.2 ⟨B,(Qa.2 ⟨E,(by simp)⟩)⟩)⟩)⟩)).2.2.2,(by simp)⟩)⟩)⟩)⟩) (Qa.2 ⟨U,(Qa.2 ⟨V,(Qa.2 ⟨W,(Qa.2 ⟨Y,(by simp)⟩)⟩)⟩)⟩)).2.2.1),(A.ite_has (J4 a8) (A.cp4_has a7 (Qa.2 ⟨(A.cp4_has J (Qa.2 ⟨J0,(Qa.2 ⟨J0,(Qa.2 ⟨J0,(Qa.2 ⟨J0,(by simp)⟩)⟩)⟩)⟩) (Qa.2 ⟨y,(Qa.2 ⟨z,(Qa.2 ⟨B,(Qa.2 ⟨E,(by simp)⟩)⟩)⟩)⟩)).1,(Qa.2 ⟨(A.cp4_has J (Qa.2 ⟨J0,(Qa.2 ⟨J0,(Qa.2 ⟨J0,(Qa.2 ⟨J0,(by simp)⟩)⟩)⟩)⟩) (Qa.2 ⟨y,(Qa.2 ⟨z,(Qa.2 ⟨B,(Qa.2 ⟨E,(by simp)⟩)⟩)⟩)⟩)).2.1,(Qa.2 ⟨(A.cp4_has J (Qa.2 ⟨J0,(Qa.2 ⟨J0,(Qa.2 ⟨J0,(Qa.2 ⟨J0,(by simp)⟩)⟩)⟩)⟩) (Qa.2 ⟨y,(Qa.2 ⟨z,(Qa.2 ⟨B,(Qa.2 ⟨E,(by simp)⟩)⟩)⟩)⟩)).2.2.1,(Qa.2 ⟨(A.cp4_has J (Qa.2 ⟨J0,(Qa.2 ⟨J0,(Qa.2 ⟨J0,(Qa.2 ⟨J0,(by simp)⟩)⟩)⟩)⟩) (Qa.2 ⟨y,(Qa.2 ⟨z,(Qa.2 ⟨B,(Qa.2 ⟨E,(by simp)⟩)⟩)⟩)⟩)).2.2.2,(by simp)⟩)⟩)⟩)⟩) (Qa.2 ⟨U,(Qa.2 ⟨V,(Qa.2 ⟨W,(Qa.2 ⟨Y,(by simp)⟩)⟩)⟩)⟩)).2.2.2),s⟩
  refine V1 2 ?_;exact Vk ⟨k.2.1,k.2.2.1,k.2.2.2.1,k.2.2.2.2.1,k.2.2.2.2.2.1,k.2.2.2.2.2.2.1,k.2.2.2.2.2.2.2,rfl,rfl,ab,ai,ac,U,V,W,Y,s⟩
 rintro _ _ ⟨y7,O,a2,a3,a4,a5,a6,rfl,rfl,b3,b4,b5,b6,b7,b9,bb,s⟩;rw[F.bx]at s;refine Jw 2 ?_;refine J2 [83] [] [.n,.b 0 2,.n] [(100,.bool (decide ((1048576:Int)<O)))] (Jy 1 ?_);refine Vu s ?_ ?_<;>intro hb s
 ·refine Jw 1 ?_;refine J3 1 [(101,.agg #[A.i 0,A.i 0,A.i 0,A.i 0,A.i 0,A.i 0,A.i 0,A.i 0])] ?_;refine Vp 2 [] A.zz8 ?_;refine J3 1 [(5,A.i 12)] (Jy 1 ?_);obtain rfl:=J8 s;exact Vr [] (.tuple #[.agg #[A.i 0,A.i 0,A.i 0,A.i 0,A.i 0,A.i 0,A.i 0,A.i 0],A.i 12]) (fun a w hf hh=>V3 rfl (V5 hf rfl Tryz.isAgg45 Tryz.sizeOf45 (Vq hh 2) rfl) (Vz hf rfl)) (⟨rfl,rfl,J0,J0,J0,J0,J0,J0,J0,J0,(Vd .i64 (12) rfl)⟩)
 refine Jw 3 ?_;refine J2 [83] [] [.b 0 0] [(102,.agg #[A.i p.1,A.i y7,A.i O,A.i a2,A.i a3,A.i a4,A.i a5,A.i a6])] ?_;refine Vp 2 [] [A.i p.1,A.i y7,A.i O,A.i a2,A.i a3,A.i a4,A.i a5,A.i a6] ?_;refine J3 1 [(5,A.i 0)] (Jy 1 ?_);obtain rfl:=J8 s;exact Vr [] (.tuple #[.agg #[A.i p.1,A.i y7,A.i O,A.i a2,A.i a3,A.i a4,A.i a5,A.i a6],A.i 0]) (fun a w hf hh=>V3 rfl (V5 hf rfl Tryz.isAgg45 Tryz.sizeOf45 (Vq hh 2) rfl) (Vz hf rfl)) (⟨rfl,rfl,ae,b3,b4,b5,b6,b7,b9,bb,J0⟩)
end Go.Proofs.YtlbnpmfggfbdoaaGreatDoor
end
