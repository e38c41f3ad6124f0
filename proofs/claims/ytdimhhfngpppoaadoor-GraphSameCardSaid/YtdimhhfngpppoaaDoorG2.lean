/- Functions on data, what they tell, and that the code computes them. -/
import Derived.Test.YtdimhhfngpppoaaDoorG0
import Derived.Test.YtdimhhfngpppoaaDoorG1
import Derived.Calls
import GoSem.Step
import Derived.Shelf.SlSortCmp.NoneTotal
import Derived.Laws.IdiomStrings
import Derived.Laws.Cover4
import Derived.Lib.TrimU
import Derived.Shelf.Small.Strs
set_option linter.unusedVariables false
set_option linter.unusedSimpArgs false
set_option maxRecDepth 20000
set_option maxHeartbeats 8000000
set_option synthInstance.maxSize 1000000
set_option synthInstance.maxHeartbeats 400000
set_option linter.unusedSectionVars false
section
namespace Go.Proofs.YtdimhhfngpppoaaDoor
open Go.RowKit
abbrev l2a:List Value:=[A.i 0,A.i 0,.slice none 0 0,A.i 0,A.i 0,.string (ByteArray.mk #[]),.string (ByteArray.mk #[]),A.i 0,A.i 0]
abbrev l2b:List Nat:=[0,1,2,3,4,5,3600,6676,6677,6678]
abbrev l2c:List Value:=[A.i 0,A.i 0,A.i 0,A.i 0,A.i 0,A.i 0,A.i 0,A.i 0]
abbrev l2d:List Nat:=[0,1,2,3,4,5,6676,6677,6678,7701]
abbrev l2e:List Nat:=[0,1,2,3,4,5,6]
abbrev l2f:List Nat:=[0,1,2,3,138,139,140,141]
abbrev l2g:List Nat:=[0,1,2,3,4,64,65,72]
abbrev l2h:List Nat:=[0,1,2,3,4,64,65]
abbrev l2i:List Nat:=[0,1,2,3,4,5,6,7,8,588]
abbrev l2j:List Nat:=[0,1,2,3,138,139,140]
abbrev l2k:List Nat:=[0,1,2,3,4,5,6,7]
abbrev l2l:List Nat:=[0,1,2,3,4,5,3600,6676,6677,6678,8073]
abbrev l2m:List Nat:=[0,1,2,3,4,5,6,2908,2909]
abbrev l2n:List Value:=[A.i 0]
abbrev l2o:List Nat:=[0,1,2,3,4,5]
abbrev l2p:List Value:=[A.i 0,A.i 0]
variable(A0_ A1_ A2_ A5_ A7_ A12_ A13_:Option Addr)(g0_ b1_ c1_ c2_ g2_ c3_ b4_ b5_ b6_ c6_ c8_ g10_ c13_ c14_:Nat)
def F.ae (k:Int):Option (Int×Bool):=some (k,bif decide ((0:Int)≤k)then decide (k≤4)else false)
def F.af (k:Int):Option (Int×Bool):=some (k,decide (k=0))
def F.aA (o:D32)(k:Int)(s:Bool):Option (Int×Bool):=if s=true then(some (0,false))else(if o.2.1=12 then(A.gd (Z.R64 (k+1)) (F.ae (k+1)))else(if o.2.1=13 then(A.gd (Z.R64 (k-1)) (F.ae (k-1)))else(if o.2.1=11 then(F.af k)else(if o.2.1=16 then(F.af k)else(if o.2.1=15 then(F.af k)else(F.ae k))))))
def F.bb (s:((List (Int×D32))×(List Int)×(List (Int×Int))))(k:D32):Option (Int×Bool):=if k.2.1=1 then(some (0,true))else(if k.2.1=14 then(some (k.2.2.2.2.2.2,true))else((A.ix k.2.2.1 0).bind fun u=>(A.lt (Z.mget (0:Int) s.2.2 u) fun o=>(if(1:Int)<(k.2.2.1.length:Int)then((A.ix k.2.2.1 1).bind fun x=>(A.lt (Z.mget (0:Int) s.2.2 x) fun y=>(F.aA k o (decide (y≠o)))))else(F.aA k o false)))))
theorem o_ab(u:((List (Int×D32))×(List Int)×(List (Int×Int))))(o:D32)(a9:A.h6 o.1)(aa:A.h6 o.2.1)(ab:A.h6 o.2.2.2.1.1)(ac:A.h6 o.2.2.2.1.2.1)(ad:o.2.2.2.1.2.2.size≤maxLen)(ag:o.2.2.2.2.1.size≤maxLen)(ah:A.h6 o.2.2.2.2.2.1)(a5:A.h6 o.2.2.2.2.2.2)(r:Int×Bool)(k:F.bb u o=some r):
    A.Ct Tryd.prog 35 [.pointer (some ⟨g0_,0,none⟩),.agg #[A.i o.1,A.i o.2.1,.slice A7_ o.2.2.1.length c8_,A.i o.2.2.2.1.1,A.i o.2.2.2.1.2.1,.string o.2.2.2.1.2.2,.string o.2.2.2.2.1,A.i o.2.2.2.2.2.1,A.i o.2.2.2.2.2.2]] [(0,.blk g0_ 53 [.map (some b1_),.slice A2_ u.2.1.length c3_,.map (some b4_)]),(1,.mp Int (fun i:Int=>A.i i) T32 true b1_ u.1),(2,.own A.ti 3 A2_ c3_ u.2.1),(3,.mp Int (fun i:Int=>A.i i) A.ti false b4_ u.2.2),(4,.sh A.TI [.slice A7_ o.2.2.1.length c8_] o.2.2.1)] ([g0_]++([b1_]++(Z.obl A2_++([b4_]++[])))) (fun v H'=>v=.tuple #[A.i r.1,.bool r.2]∧H'=[(0,.blk g0_ 53 [.map (some b1_),.slice A2_ u.2.1.length c3_,.map (some b4_)]),(1,.mp Int (fun i:Int=>A.i i) T32 true b1_ u.1),(2,.own A.ti 3 A2_ c3_ u.2.1),(3,.mp Int (fun i:Int=>A.i i) A.ti false b4_ u.2.2)]∧A.h6 r.1):=by
 refine Xs Tryd.func35 rfl Tryd.ntmps35 rfl fun w0 F0=>?_;rw[F.bb]at k;refine Xn 1 ?_;refine X2 5 (cs:=[A.i o.1,A.i o.2.1,.slice A7_ o.2.2.1.length c8_,A.i o.2.2.2.1.1,A.i o.2.2.2.1.2.1,.string o.2.2.2.1.2.2,.string o.2.2.2.2.1,A.i o.2.2.2.2.2.1,A.i o.2.2.2.2.2.2]) fun g1=>?_;refine Xt 2 [] (Xw 3 ?_);refine Xq [5] [] [.n,.b 0 1] [(8,A.i o.2.1)] (Xw 3 ?_);refine Xt 2 [(9,.bool (decide (o.2.1=1)))] (Xo 1 ?_);refine Yn k ?_ ?_<;>intro x k
 ·refine Xn 1 ?_;refine Xt 2 [(4,A.i 0),(5,.bool true)] (Xo 1 ?_);obtain rfl:=Xx k;exact Ym [(0,0),(1,1),(2,2),(3,3)] ⟨rfl,rfl,Xy⟩
 refine Xn 1 ?_;refine Xt 2 [(11,.bool (decide (o.2.1=14)))] (Xo 1 ?_);refine Yn k ?_ ?_<;>intro x k
 ·refine Xn 1 ?_;refine Xq [5] [] [.n,.b 0 8,.n,.n] [(4,A.i o.2.2.2.2.2.2),(5,.bool true)] (Xo 1 ?_);obtain rfl:=Xx k;exact Ym [(0,0),(1,1),(2,2),(3,3)] ⟨rfl,rfl,a5⟩
 refine Y6 4 ?_;refine Yi mixed 10 10 (A.mb 10 0) ?_;refine X8 X5 [] l2o [5,0] [] (A.mb 10 63) 4 [(0,.n),(4,.n),(1,.n),(5,.b 0 2),(2,.n),(3,.b 1 2)] [(20,.slice A7_ o.2.2.1.length c8_),(18,.map (some b4_))] ?_;have⟨J,O,k⟩:=Yz k;refine Y2 4 6 O fun ai=>?_;intro b6 o7 a6;refine Yu X5 l2o l2e 6 (A.mb 10 127) rfl (fun a w hf hh=>Y0 (t:=A.ti) O a6 hf) ?_;refine X8 X5 l2e l2e [] [6] (A.mb 10 255) 2 [(7,.e 0 0)] [(22,A.i J)] ?_;obtain⟨s,U,k⟩:=X7 k;refine A.okm (t:=A.ti) 3 J (z:=(0:Int)) (zs:=l2n) ⟨rfl,by decide⟩ U fun V=>?_;refine Yu X5 l2e l2e 8 (A.mb 10 511) rfl (fun a w hf hh=>A.r_lkf (t:=A.ti) (ok:=false) (z:=(0:Int)) (zs:=l2n) 3 ky3 J Tryd.zeroValue3 ⟨rfl,by decide⟩ U rfl hf hh) ?_;refine X8 X5 l2e l2e [] [] (A.mb 10 1023) 0 [(9,.n)] [(6,A.i s)] (X3 ?_);refine A.ex 2 ?_;refine Xz [3,6] l2o (fun B E=>∃(L:Bool),B=[(40,.bool L)]∧E=[]∧F.aA o s L=some r) ?_ ?_
 ·refine Yi mixed 17 17 (A.mb 17 0) ?_;refine X8 X5 [] l2e [5] [] (A.mb 17 31) 12 [(0,.n),(1,.b 0 2),(2,.n),(3,.n),(4,.n)] [(28,.bool (decide ((1:Int)<(o.2.2.1.length:Int))))] ?_;refine A.AH.cnp (j:=28) rfl k ?_ ?_<;>intro x k
  ·refine X8 X5 l2e l2e [5,0] [] (A.mb 17 18431) 5 [(5,.on .n),(9,.on .n),(14,.on .n),(6,.on .n),(10,.on (.b 0 2)),(7,.on .n),(8,.on (.b 1 2))] [(38,A.i s),(34,.slice A7_ o.2.2.1.length c8_),(32,.map (some b4_))] ?_;have⟨N,W,k⟩:=Yz k;refine Y2 4 7 W fun aj=>?_;intro ak al a7;refine A.AH.vg X5 l2e l2k 11 (A.mb 17 20479) (dj:=28) rfl (fun a w hf hh=>Y0 (t:=A.ti) W a7 hf) ?_;refine X8 X5 l2k l2k [] [7] (A.mb 17 24575) 3 [(12,.on (.e 0 0))] [(36,A.i N)] ?_;obtain⟨Y,a2,k⟩:=X7 k;refine A.okm (t:=A.ti) 3 N (z:=(0:Int)) (zs:=l2n) ⟨rfl,by decide⟩ a2 fun am=>?_;refine A.AH.vg X5 l2k l2k 13 (A.mb 17 32767) (dj:=28) rfl (fun a w hf hh=>A.r_lkf (t:=A.ti) (ok:=false) (z:=(0:Int)) (zs:=l2n) 3 ky3 N Tryd.zeroValue3 ⟨rfl,by decide⟩ a2 rfl hf hh) ?_;refine X8 X5 l2k l2k [] [] (A.mb 17 131071) 0 [(15,.on .n),(16,.n)] [(40,.bool (decide (Y≠s)))] (X3 ?_);exact Yd ⟨(decide (Y≠s)),rfl,rfl,k⟩
  refine X8 X5 l2e l2e [] [] (A.mb 17 131071) 0 [(5,.off),(9,.off),(14,.off),(6,.off),(10,.off),(7,.off),(11,.off),(8,.off),(12,.off),(13,.off),(15,.off),(16,.n)] [(40,.bool false)] (X3 ?_);exact Yd ⟨false,rfl,rfl,k⟩
 rintro _ _ ⟨L,rfl,rfl,k⟩;rw[F.aA]at k;refine Y7 k ?_ ?_<;>intro x k
 ·refine Xn 1 ?_;refine Xt 2 [(4,A.i 0),(5,.bool false)] (Xo 1 ?_);obtain rfl:=Xx k;exact Ym [(0,0),(1,1),(2,2),(3,3)] ⟨rfl,rfl,Xy⟩
 refine Y6 2 ?_;refine Xz [] [0,1,2,3] (fun B E=>∃(y:Int),B=[(6,A.i y)]∧E=[]∧A.h6 y∧F.ae y=some r) ?_ ?_
 ·refine Xn 1 ?_;refine Xq [5] [] [.n,.b 0 1] [(42,A.i o.2.1)] (Xo 2 ?_);refine Xz [6] [0,1,2,3] (fun B E=>B=[]∧E=[]∧F.af s=some r) ?_ ?_
  ·refine Xn 10 ?_;refine Xt 2 [(43,.bool (decide (o.2.1=12)))] (Xo 1 ?_);refine Yn k ?_ ?_<;>intro x k
   ·refine Xn 3 ?_;have⟨a3,k⟩:=Yv k;refine Y8 3 [Z.R64 (s+1)] [(6,A.i (s+1))] a3 (A.de 2 ?_);exact Yd ⟨(s+1),rfl,rfl,(Xv a3),k⟩
   refine Xn 4 ?_;refine Xt 2 [(45,.bool (decide (o.2.1=13)))] (Xo 1 ?_);refine Yn k ?_ ?_<;>intro x k
   ·refine Xn 3 ?_;have⟨a4,k⟩:=Yv k;refine Y8 3 [Z.R64 (s-1)] [(6,A.i (s-1))] a4 (A.de 2 ?_);exact Yd ⟨(s-1),rfl,rfl,(Xv a4),k⟩
   refine Xn 4 ?_;refine Xt 2 [(47,.bool (decide (o.2.1=11)))] (Xo 1 ?_);refine Yn k ?_ ?_<;>intro x k
   ·refine Yt 3 ?_;exact Yd ⟨rfl,rfl,k⟩
   refine Xn 4 ?_;refine Xt 2 [(49,.bool (decide (o.2.1=16)))] (Xo 1 ?_);refine Yn k ?_ ?_<;>intro x k
   ·refine Yt 2 ?_;exact Yd ⟨rfl,rfl,k⟩
   refine Xn 3 ?_;refine Xt 2 [(51,.bool (decide (o.2.1=15)))] (Xo 1 ?_);refine Yn k ?_ ?_<;>intro x k
   ·refine Yt 1 ?_;exact Yd ⟨rfl,rfl,k⟩
   refine Yt 3 ?_;exact Yd ⟨s,rfl,rfl,V,k⟩
  rintro _ _ ⟨rfl,rfl,k⟩;rw[F.af]at k;refine Xn 2 ?_;refine Xt 5 [(4,A.i s),(5,.bool (decide (s=0)))] (Xo 1 ?_);obtain rfl:=Xx k;exact Ym [(0,0),(1,1),(2,2),(3,3)] ⟨rfl,rfl,V⟩
 rintro _ _ ⟨y,rfl,rfl,a8,k⟩;rw[F.ae]at k;refine Xn 1 ?_;refine Xq [] [] [.n,.n,.n,.n,.sy .n,.sy .n,.pk,.n,.n] [(4,A.i y),(5,.bool (bif decide ((0:Int)≤y)then decide (y≤4)else false))] (Xo 1 ?_);obtain rfl:=Xx k;exact Ym [(0,0),(1,1),(2,2),(3,3)] ⟨rfl,rfl,a8⟩
def F.ag (k:((List (Int×D32))×(List Int)×(List (Int×Int))))(o:List (Int×Int))(s:Bool):Option (Option (Bool×((List (Int×D32))×(List Int)×(List (Int×Int))))):=if s=true then(some (some (false,(k.1,k.2.1,o))))else(some none)
def F.aD (s:((List (Int×D32))×(List Int)×(List (Int×Int))))(k:List (Int×Int))(o:Int×D32):Option (Option (Bool×((List (Int×D32))×(List Int)×(List (Int×Int))))):=if o.2.2.1=14 then((A.ix o.2.2.2.1 0).bind fun u=>(A.lt (Z.mget (0:Int) k u) fun x=>(F.ag s k (decide (x≠o.2.2.2.2.2.2.2)))))else(F.ag s k false)
def F.ah (k:((List (Int×D32))×(List Int)×(List (Int×Int)))):Nat→(List (Int×Int))→Int→Option (Bool×((List (Int×D32))×(List Int)×(List (Int×Int))))
 |0,_,_=>none
 |f+1,o,s=>if s<(k.2.1.length:Int)then((A.ix k.2.1 s).bind fun u=>(A.lt (Z.mget ((0,0,[],(0,0,(ByteArray.mk #[])),(ByteArray.mk #[]),0,0):D32) k.1 u) fun y=>((F.bb (k.1,k.2.1,o) y).bind fun x=>(if(!x.2)=true then(some (false,(k.1,k.2.1,o)))else(A.gd (Z.R64 (s+1)) ((F.ah k f) (Z.mins o u x.1) (s+1)))))))else(A.mrg (F.aD k o) (some (true,(k.1,k.2.1,o))) k.1)
def F.aU (k:((List (Int×D32))×(List Int)×(List (Int×Int)))):Option (Bool×((List (Int×D32))×(List Int)×(List (Int×Int)))):=F.ah k A.FU k.2.2 0
theorem o_r(x:((List (Int×D32))×(List Int)×(List (Int×Int))))(r:Bool×((List (Int×D32))×(List Int)×(List (Int×Int))))(k:F.aU x=some r):
    A.Ct Tryd.prog 26 [.pointer (some ⟨g0_,0,none⟩)] [(0,.blk g0_ 53 [.map (some b1_),.slice A2_ x.2.1.length c3_,.map (some b4_)]),(1,.mp Int (fun i:Int=>A.i i) T32 true b1_ x.1),(2,.own A.ti 3 A2_ c3_ x.2.1),(3,.mp Int (fun i:Int=>A.i i) A.ti false b4_ x.2.2)] ([g0_]++([b1_]++(Z.obl A2_++([b4_]++[])))) (fun v H'=>∃(b0':Nat) (A1':Option Addr) (c2':Nat) (b3':Nat),v=.bool r.1∧H'=[(0,.blk g0_ 53 [.map (some b0'),.slice A1' r.2.2.1.length c2',.map (some b3')]),(1,.mp Int (fun i:Int=>A.i i) T32 true b0' r.2.1),(2,.own A.ti 3 A1' c2' r.2.2.1),(3,.mp Int (fun i:Int=>A.i i) A.ti false b3' r.2.2.2)]):=by
 refine Xs Tryd.func26 rfl Tryd.ntmps26 rfl fun w0 F0=>?_;rw[F.aU]at k;refine Xn 1 ?_;refine Xt 1 [] (Xw 3 ?_);refine Xq [0] [] [.n,.n,.n,.b 0 1,.n,.n] [(12,.slice A2_ x.2.1.length c3_),(13,A.i (x.2.1.length:Int)),(14,A.i 0)] (Xo 2 ?_);refine Yf [0,12,13] [0,1,2] (fun f N O=>∃(E:List (Int×Int)),∃(y:Int),N=[(14,A.i y)]∧O=[(3,.mp Int (fun i:Int=>A.i i) A.ti false b4_ E)]∧A.h6 y∧F.ah x f E y=some r) ⟨x.2.2,0,rfl,rfl,Xy,k⟩ ?_;rintro f4 _ _ ⟨E,y,rfl,rfl,ai,k⟩;rcases f4 with _|f4
 ·exact Yc k
 rw[F.ah]at k;refine Xn 1 ?_;refine Xt 1 [(15,.bool (decide (y<(x.2.1.length:Int))))] (Xo 2 ?_);refine Yn k ?_ ?_<;>intro W k
 ·refine Xn 5 ?_;have⟨L,a7,k⟩:=Yz k;refine Y3 2 96 a7 fun aj=>?_;intro g8 ak;refine Xq [] [96] [.e 0 0,.n] [(4,A.i L)] (Xw 2 ?_);refine Xq [0] [] [.n,.n,.n,.n,.b 0 0,.n] [(19,.pointer (some ⟨g0_,0,none⟩)),(23,.map (some b1_)),(24,A.i L)] ?_;obtain⟨a8,a9,k⟩:=X7 k;refine Yw (t:=T32) 1 97 (z:=((0,0,[],(0,0,(ByteArray.mk #[])),(ByteArray.mk #[]),0,0):D32)) (zs:=l2a) ky3 L Tryd.zeroValue33 ⟨⟨rfl,by decide⟩,⟨rfl,by decide⟩,(.inr ⟨rfl,rfl⟩),⟨⟨rfl,by decide⟩,⟨rfl,by decide⟩,⟨rfl,by decide⟩⟩,⟨rfl,by decide⟩,⟨rfl,by decide⟩,⟨rfl,by decide⟩⟩ a9 fun B=>?_;intro aa ab;refine Yo 98 [96] k (o_ab A2_ aa g0_ b1_ c3_ b4_ ab (x.1,x.2.1,E) a8 B.1 B.2.1 B.2.2.2.1.1 B.2.2.2.1.2.1 B.2.2.2.1.2.2 B.2.2.2.2.1 B.2.2.2.2.2.1 B.2.2.2.2.2.2) (.m 0 (.m 1 (.m 2 (.m 3 (.s 97 .nil))))) ?_;rintro J - k _ _ ⟨rfl,rfl,hr17⟩;refine X6 ?_;refine Yk 98 0 [] ?_;refine Yk 99 1 [] ?_;refine Yk 100 2 [] ?_;refine Yk 101 3 [] ?_;refine Xt 5 [(5,A.i J.1),(6,.bool J.2)] (Xw 3 ?_);refine Xt 2 [(30,.bool (!J.2))] (Xo 1 ?_);refine Y7 k ?_ ?_<;>intro W k
  ·refine Xn 1 ?_;refine Xt 1 [(2,.bool false)] (Xo 1 ?_);obtain rfl:=Xx k;exact X1 [(0,0),(1,1),(2,2),(3,3)] ⟨b1_,A2_,c3_,b4_,rfl,rfl⟩
  refine Xn 2 ?_;refine Xq [0] [] [.n,.n,.n,.b 0 2,.n,.n] [(34,.map (some b4_)),(35,A.i L),(36,A.i J.1)] ?_;refine A.AL.mup (t:=A.ti) 3 [] (cs:=[A.i J.1]) (u:=J.1) ky3 L ⟨rfl,hr17⟩ ?_;refine Xw 2 ?_;have⟨a3,k⟩:=Yv k;refine Y8 2 [Z.R64 (y+1)] [(14,A.i (y+1))] a3 (Xp ?_);exact Yd ⟨_,Qg _,⟨(Z.mins E L J.1),(y+1),rfl,rfl,(Xv a3),k⟩⟩
 refine Xn 4 ?_;refine Xq [0] [] [.n,.n,.n,.b 0 0] [(41,.map (some b1_))] ?_;refine A.AL.rgm 1 138 fun Y=>?_;refine Xo 2 ?_;obtain⟨hev,hend⟩:=A.mrg_all k;refine A.AX.loop [0,42] [0,1,2,3] [138,0,1,2,3] (fun f N O=>∃(sn:List Nat) (la:Option (Value×Value)),N=[]∧O=[(138,.mit 1 Y b1_ x.1.length sn la)]∧sn.Nodup∧(∀i∈sn,i<x.1.length)∧(∀i∈sn,∀p,(x.1)[i]?=some p→F.aD x E p=some none)∧f+sn.length=x.1.length+1) (x.1.length+1) [] [(138,.mit 1 Y b1_ x.1.length [] none)] ⟨[],none,rfl,rfl,List.nodup_nil,by simp,by simp,rfl⟩ ?_;rintro al _ _ ⟨ac,la21,rfl,rfl,hnd,hbd,hse,hff⟩;refine Xn 1 ?_;refine A.AL.nxm 1 138 139 (fun hall=>?_) (fun ad o hp25 hs26 am=>?_)
 ·replace k:=hend (A.seen_all hse hall)
  refine Xt 1 [(44,.bool false)] (Xo 2 ?_);refine Yq rfl ?_;refine Xn 3 ?_;refine Xt 1 [(2,.bool true)] (Xo 1 ?_);obtain rfl:=Xx k;exact X1 [(0,0),(1,1),(2,2),(3,3)] ⟨b1_,A2_,c3_,b4_,rfl,rfl⟩
 intro U V;obtain⟨q,hB,hq⟩:=hev o (Qq hp25)
 have k:=hB
 rw[F.aD]at k;refine Xt 1 [(44,.bool true)] (Xo 2 ?_);refine Y1 rfl ?_;refine Xn 4 ?_;refine A.AL.ent 138 ?_;refine Xt 1 [(46,.agg #[A.i o.2.1,A.i o.2.2.1,.slice U o.2.2.2.1.length V,A.i o.2.2.2.2.1.1,A.i o.2.2.2.2.1.2.1,.string o.2.2.2.2.1.2.2,.string o.2.2.2.2.2.1,A.i o.2.2.2.2.2.2.1,A.i o.2.2.2.2.2.2.2])] ?_;refine Xr 140 (cs:=l2a) Tryd.zeroValue33 fun an=>?_;refine Ya 140 [] [A.i o.2.1,A.i o.2.2.1,.slice U o.2.2.2.1.length V,A.i o.2.2.2.2.1.1,A.i o.2.2.2.2.1.2.1,.string o.2.2.2.2.1.2.2,.string o.2.2.2.2.2.1,A.i o.2.2.2.2.2.2.1,A.i o.2.2.2.2.2.2.2] ?_;refine Xo 1 ?_;refine Xz [0,42] [0,1,2,3,138] (fun N O=>∃(a1:Bool),N=[(63,.bool a1)]∧O=[]∧F.ag x E a1=some q) ?_ ?_
 ·refine Yi mixed 17 17 (A.mb 17 0) ?_;refine X8 X5 [] l2j [140] [] (A.mb 17 15) 13 [(0,.n),(1,.b 0 1),(2,.n),(3,.n)] [(50,.bool (decide (o.2.2.1=14)))] ?_;refine A.AH.cnp (j:=50) rfl k ?_ ?_<;>intro W k
  ·refine X8 X5 l2j l2j [140,0] [] (A.mb 17 25599) 5 [(4,.on .n),(8,.on .n),(13,.on .n),(5,.on .n),(9,.on (.b 0 2)),(14,.on (.b 0 8)),(6,.on .n),(7,.on (.b 1 2))] [(56,.slice U o.2.2.2.1.length V),(61,A.i o.2.2.2.2.2.2.2),(54,.map (some b4_))] ?_;have⟨a2,a4,k⟩:=Yz k;refine Y2 139 141 a4 fun ao=>?_;intro ap aq ae;refine A.AH.vg X5 l2j l2f 10 (A.mb 17 26623) (dj:=50) rfl (fun a w hf hh=>Y0 (t:=A.ti) a4 ae hf) ?_;refine X8 X5 l2f l2f [] [141] (A.mb 17 28671) 3 [(11,.on (.e 0 0))] [(58,A.i a2)] ?_;obtain⟨a5,a6,k⟩:=X7 k;refine A.okm (t:=A.ti) 3 a2 (z:=(0:Int)) (zs:=l2n) ⟨rfl,by decide⟩ a6 fun ar=>?_;refine A.AH.vg X5 l2f l2f 12 (A.mb 17 32767) (dj:=50) rfl (fun a w hf hh=>A.r_lkf (t:=A.ti) (ok:=false) (z:=(0:Int)) (zs:=l2n) 3 ky3 a2 Tryd.zeroValue3 ⟨rfl,by decide⟩ a6 rfl hf hh) ?_;refine X8 X5 l2f l2f [] [] (A.mb 17 131071) 0 [(15,.on .n),(16,.n)] [(63,.bool (decide (a5≠o.2.2.2.2.2.2.2)))] (X3 ?_);exact Yd ⟨(decide (a5≠o.2.2.2.2.2.2.2)),rfl,rfl,k⟩
  refine X8 X5 l2j l2j [] [] (A.mb 17 131071) 0 [(4,.off),(8,.off),(13,.off),(5,.off),(9,.off),(14,.off),(6,.off),(10,.off),(7,.off),(11,.off),(12,.off),(15,.off),(16,.n)] [(63,.bool false)] (X3 ?_);exact Yd ⟨false,rfl,rfl,k⟩
 rintro _ _ ⟨a1,rfl,rfl,k⟩;rw[F.ag]at k;refine Y7 k ?_ ?_<;>intro W k
 ·refine Xn 1 ?_;refine Xt 1 [(2,.bool false)] (Xo 1 ?_);obtain rfl:=Xx k;obtain rfl:=Wq (hq.resolve_left (by intro h;cases h))
  exact X1 [(0,0),(1,1),(2,2),(3,3)] ⟨b1_,A2_,c3_,b4_,rfl,rfl⟩
 refine Yt 2 ?_;obtain rfl:=Xx k;exact A.AE.j [138,0,1,2,3] [] [(138,.mit 1 Y b1_ x.1.length (ad::ac) (some (A.i o.1,.agg #[A.i o.2.1,A.i o.2.2.1,.slice U o.2.2.2.1.length V,A.i o.2.2.2.2.1.1,A.i o.2.2.2.2.1.2.1,.string o.2.2.2.2.1.2.2,.string o.2.2.2.2.2.1,A.i o.2.2.2.2.2.2.1,A.i o.2.2.2.2.2.2.2])))] ⟨_,(A.seen_f hnd (Y4 hbd hp25) hs26 hff).1,_,_,rfl,rfl,Wf.2 ⟨hs26,hnd⟩,Y4 hbd hp25,A.seen_cons hse hp25 hB,(A.seen_f hnd (Y4 hbd hp25) hs26 hff).2⟩
def F.am (o:(List D75)→Int→Option (List D75))(k:Int)(s:List D75):Option (List D75):=A.gd (Z.R64 (k+1)) (o s (k+1))
def F.an (u:(List D75)→Int→Option (List D75))(x:((List (Int×D32))×(List Int)×(List (Int×Int))))(y:Int)(k:D32):Nat→(List D75)→Int→Option (List D75)
 |0,_,_=>none
 |f+1,s,o=>if o<(k.2.2.1.length:Int)then((A.ix k.2.2.1 o).bind fun E=>(A.lt (Z.mget (0:Int) x.2.2 E) fun z=>(A.gd ((List.length (α:=D75) s+List.length (α:=D75) [((k.1,o),z)])*24≤140737488355328) (A.gd (Z.R64 (o+1)) ((F.an u x y k f) (s++[((k.1,o),z)]) (o+1))))))else(if k.2.1≠15 then(A.lt (Z.mget (0:Int) x.2.2 k.1) fun B=>(A.gd ((List.length (α:=D75) s+List.length (α:=D75) [((k.1,2),B)])*24≤140737488355328) (F.am u y (s++[((k.1,2),B)]))))else(F.am u y s))
def F.t (s:((List (Int×D32))×(List Int)×(List (Int×Int))))(k:D23):Nat→(List D75)→Int→Option (List D75)
 |0,_,_=>none
 |f+1,u,o=>if o<(k.length:Int)then((A.ix k o).bind fun x=>(F.an (F.t s k f) s o x A.FU u 0))else(some u)
def F.aZ (k:((List (Int×D32))×(List Int)×(List (Int×Int))))(o:D23):Option (List D75):=F.t k o A.FU [] 0
theorem o_u(x:((List (Int×D32))×(List Int)×(List (Int×Int))))(y:D23)(r:(List D75))(o:F.aZ x y=some r):
    A.Ct Tryd.prog 36 [.pointer (some ⟨g0_,0,none⟩),.agg #[.slice A5_ y.length c6_]] [(0,.blk g0_ 53 [.map (some b1_),.slice A2_ x.2.1.length c3_,.map (some b4_)]),(1,.mp Int (fun i:Int=>A.i i) T32 true b1_ x.1),(2,.own A.ti 3 A2_ c3_ x.2.1),(3,.mp Int (fun i:Int=>A.i i) A.ti false b4_ x.2.2),(4,.sh (.slice T32) [.slice A5_ y.length c6_] y)] ([g0_]++([b1_]++(Z.obl A2_++([b4_]++[])))) (fun v H'=>∃(A0':Option Addr) (c1':Nat),v=.slice A0' r.length c1'∧H'=[(0,.own T75 76 A0' c1' r),(1,.blk g0_ 53 [.map (some b1_),.slice A2_ x.2.1.length c3_,.map (some b4_)]),(2,.mp Int (fun i:Int=>A.i i) T32 true b1_ x.1),(3,.own A.ti 3 A2_ c3_ x.2.1),(4,.mp Int (fun i:Int=>A.i i) A.ti false b4_ x.2.2)]):=by
 refine Xs Tryd.func36 rfl Tryd.ntmps36 rfl fun w0 F0=>?_;rw[F.aZ]at o;refine Xn 1 ?_;refine X2 5 (cs:=[.slice A5_ y.length c6_]) fun g1=>?_;refine Xt 1 [] (Xw 2 ?_);refine Xt 1 [(5,.slice none 0 0)] (Xw 3 ?_);refine Xq [5] [] [.n,.b 0 0,.n,.n] [(11,.slice A5_ y.length c6_),(12,A.i (y.length:Int)),(13,A.i 0)] (Xo 2 ?_);refine A.nil 38 T75 76 ?_;refine Yf [0,11,12] [0,1,2,3,4] (fun f V W=>∃(J:List D75),∃(E:Int),∃(L:Option Addr),∃(N:Nat),V=[(5,.slice L J.length N),(13,A.i E)]∧W=[(38,.own T75 76 L N J)]∧A.h6 E∧F.t x y f J E=some r) ⟨[],0,none,0,rfl,rfl,Xy,o⟩ ?_;rintro f7 _ _ ⟨J,E,L,N,rfl,rfl,ap,o⟩;rcases f7 with _|f7
 ·exact Yc o
 rw[F.t]at o;refine Xn 1 ?_;refine Xt 1 [(14,.bool (decide (E<(y.length:Int))))] (Xo 2 ?_);refine Yn o ?_ ?_<;>intro hb o
 ·refine Y6 2 ?_;refine Xz [0,11,12,13] [0,1,2,3,4] (fun V W=>∃(Y:List D75),∃(A8:Option Addr),∃(c9:Nat),V=[(5,.slice A8 Y.length c9)]∧W=[(38,.own T75 76 A8 c9 Y)]∧F.am (F.t x y f7) E Y=some r) ?_ ?_
  ·refine Xn 2 ?_;have⟨s,ai,o⟩:=Yz o;refine Yh 4 63 ai fun a7=>?_;intro a5 a6 aq ar;refine Xq [] [63] [.e 0 0] [(16,.agg #[A.i s.1,A.i s.2.1,.slice a5 s.2.2.1.length a6,A.i s.2.2.2.1.1,A.i s.2.2.2.1.2.1,.string s.2.2.2.1.2.2,.string s.2.2.2.2.1,A.i s.2.2.2.2.2.1,A.i s.2.2.2.2.2.2])] ?_;refine Xr 65 (cs:=l2a) Tryd.zeroValue33 fun au=>?_;refine Ya 65 [] [A.i s.1,A.i s.2.1,.slice a5 s.2.2.1.length a6,A.i s.2.2.2.1.1,A.i s.2.2.2.1.2.1,.string s.2.2.2.1.2.2,.string s.2.2.2.2.1,A.i s.2.2.2.2.2.1,A.i s.2.2.2.2.2.2] ?_;refine Xw 3 ?_;refine Xq [65] [] [.n,.b 0 2,.n,.n] [(18,.slice a5 s.2.2.1.length a6),(19,A.i (s.2.2.1.length:Int)),(20,A.i 0)] (Xo 2 ?_);refine Yf [0,7,11,12,13,18,19] l2h (fun f V W=>∃(B:List D75),∃(u:Int),∃(O:Option Addr),∃(U:Nat),V=[(5,.slice O B.length U),(20,A.i u)]∧W=[(38,.own T75 76 O U B)]∧A.h6 u∧F.an (F.t x y f7) x E s f B u=some r) ⟨J,0,L,N,rfl,rfl,Xy,o⟩ ?_;rintro a8 _ _ ⟨B,u,O,U,rfl,rfl,aj,o⟩;rcases a8 with _|a8
   ·exact Yc o
   rw[F.an]at o;refine Xn 1 ?_;refine Xt 1 [(21,.bool (decide (u<(s.2.2.1.length:Int))))] (Xo 2 ?_);refine Yn o ?_ ?_<;>intro hb o
   ·refine Xn 5 ?_;refine Xt 1 [(22,A.i u)] ?_;have⟨a4,ak,o⟩:=Yz o;refine Yh 64 72 ak fun av=>?_;intro aw ax;refine Xq [] [72] [.e 0 0,.n,.n] [(8,A.i u),(9,A.i a4)] (Xo 1 ?_);refine Yi mixed 15 15 (A.mb 15 0) ?_;refine X8 X5 [] l2g [65,0] [] (A.mb 15 1023) 5 [(0,.n),(1,.n),(3,.n),(5,.n),(9,.n),(2,.b 0 0),(6,.n),(4,.n),(7,.n),(8,.b 1 2)] [(25,.slice O B.length U),(34,A.i a4),(29,.agg #[A.i s.1,A.i u]),(33,.map (some b4_))] ?_;obtain⟨a2,a9,o⟩:=X7 o;refine A.okm (t:=A.ti) 3 a4 (z:=(0:Int)) (zs:=l2n) ⟨rfl,by decide⟩ a9 fun al=>?_;refine Yu X5 l2g l2g 10 (A.mb 15 2047) rfl (fun a w hf hh=>A.r_lkf (t:=A.ti) (ok:=false) (z:=(0:Int)) (zs:=l2n) 3 ky3 a4 Tryd.zeroValue3 ⟨rfl,by decide⟩ a9 rfl hf hh) ?_;refine X8 X5 l2g l2g [] [] (A.mb 15 4095) 3 [(11,.n)] [(36,.agg #[A.i s.1,A.i u,A.i a2])] ?_;refine X0 12 ?_;refine X9 73 (ty:=T75) (cs:=[A.i s.1,A.i u,A.i a2]) [((s.1,u),a2)] ⟨⟨⟨⟨rfl,a7.1⟩,⟨rfl,aj⟩⟩,⟨rfl,al⟩⟩,rfl⟩ (fun ay=>?_) Tryd.zeroValue76 Tryd.sizeOf76
    refine X4 (A.mb 15 8191) l2g ?_;refine X0 13 ?_;have⟨hl37,o⟩:=Yv o;refine Yp (k:=38) [] (A.rowO (k:=73) rfl) inf76 hl37 fun aa ab=>?_;refine X4 (A.mb 15 16383) l2g ?_;refine X8 X5 l2g [0,1,2,3,4,38,64,65,72,73] [] [] (A.mb 15 32767) 0 [(14,.n)] [(5,.slice aa ((B++[((s.1,u),a2)]).length) ab)] (X3 ?_);refine A.el 2 ?_;have⟨ac,o⟩:=Yv o;refine Y8 2 [Z.R64 (u+1)] [(20,A.i (u+1))] ac (Xp ?_);exact Yd ⟨_,Qg _,⟨(B++[((s.1,u),a2)]),(u+1),aa,ab,rfl,rfl,(Xv ac),o⟩⟩
   refine Xn 3 ?_;refine Xq [65] [] [.n,.b 0 1,.n] [(42,.bool (decide (s.2.1≠15)))] (Xo 1 ?_);refine Yn o ?_ ?_<;>intro hb o
   ·refine Yi mixed 15 15 (A.mb 15 0) ?_;refine X8 X5 [] l2h [65,0] [] (A.mb 15 1023) 5 [(0,.n),(1,.n),(4,.n),(8,.n),(2,.b 0 0),(5,.n),(9,.b 0 0),(3,.n),(6,.n),(7,.b 1 2)] [(43,.slice O B.length U),(52,A.i s.1),(46,.agg #[A.i s.1,A.i 2]),(50,.map (some b4_))] ?_;obtain⟨a3,ad,o⟩:=X7 o;refine A.okm (t:=A.ti) 3 s.1 (z:=(0:Int)) (zs:=l2n) ⟨rfl,by decide⟩ ad fun ao=>?_;refine Yu X5 l2h l2h 10 (A.mb 15 2047) rfl (fun a w hf hh=>A.r_lkf (t:=A.ti) (ok:=false) (z:=(0:Int)) (zs:=l2n) 3 ky3 s.1 Tryd.zeroValue3 ⟨rfl,by decide⟩ ad rfl hf hh) ?_;refine X8 X5 l2h l2h [] [] (A.mb 15 4095) 3 [(11,.n)] [(54,.agg #[A.i s.1,A.i 2,A.i a3])] ?_;refine X0 12 ?_;refine X9 74 (ty:=T75) (cs:=[A.i s.1,A.i 2,A.i a3]) [((s.1,2),a3)] ⟨⟨⟨⟨rfl,a7.1⟩,⟨rfl,(Xu .i64 (2) rfl)⟩⟩,⟨rfl,ao⟩⟩,rfl⟩ (fun az=>?_) Tryd.zeroValue76 Tryd.sizeOf76
    refine X4 (A.mb 15 8191) l2h ?_;refine X0 13 ?_;have⟨hl45,o⟩:=Yv o;refine Yp (k:=38) [] (A.rowO (k:=74) rfl) inf76 hl45 fun ae ag=>?_;refine X4 (A.mb 15 16383) l2h ?_;refine X8 X5 l2h [0,1,2,3,4,38,64,65,74] [] [] (A.mb 15 32767) 0 [(14,.n)] [(5,.slice ae ((B++[((s.1,2),a3)]).length) ag)] (X3 ?_);refine A.ee 1 ?_;exact Yd ⟨(B++[((s.1,2),a3)]),ae,ag,rfl,rfl,o⟩
   refine Yt 2 ?_;exact Yd ⟨B,O,U,rfl,rfl,o⟩
  rintro _ _ ⟨Y,A8,c9,rfl,rfl,o⟩;rw[F.am]at o;refine Xn 0 ?_;have⟨ah,o⟩:=Yv o;refine Y8 2 [Z.R64 (E+1)] [(13,A.i (E+1))] ah (Xp ?_);exact Yd ⟨_,Qg _,⟨Y,(E+1),A8,c9,rfl,rfl,(Xv ah),o⟩⟩
 refine Xn 3 ?_;refine Xt 2 [(4,.slice L J.length N)] (Xo 1 ?_);obtain rfl:=Xx o;exact X1 [(0,38),(1,0),(2,1),(3,2),(4,3)] ⟨L,N,rfl,rfl⟩
def F.a3 (o:Int)(s:Int)(u:Int)(k:D81):Option (D81×Int):=if(bif decide (o<s)then true else decide (u<o))=true then(some ((0,0,0,0,(0,0,0,0)),11))else(some ((o,k.2.1,k.2.2.1,k.2.2.2.1,k.2.2.2.2),0))
theorem o_k (o:Int)(u:Int)(x:Int)(k:D81)(y:A.h6 o)(V:A.h6 u)(W:A.h6 x)(Y:A.h6 k.1)(z:A.h6 k.2.1)(B:A.h6 k.2.2.1)(E:A.h6 k.2.2.2.1)(J:A.h6 k.2.2.2.2.1)(L:A.h6 k.2.2.2.2.2.1)(N:A.h6 k.2.2.2.2.2.2.1)(O:A.h6 k.2.2.2.2.2.2.2)(r:D81×Int)(s:F.a3 o u x k=some r):
    A.Ct Tryd.prog 49 [A.i o,A.i u,A.i x,(A.rad k)] [] [] (fun v H'=>v=.tuple #[(A.rad r.1),A.i r.2]∧H'=[]∧A.h6 r.1.1∧A.h6 r.1.2.1∧A.h6 r.1.2.2.1∧A.h6 r.1.2.2.2.1∧A.h6 r.1.2.2.2.2.1∧A.h6 r.1.2.2.2.2.2.1∧A.h6 r.1.2.2.2.2.2.2.1∧A.h6 r.1.2.2.2.2.2.2.2∧A.h6 r.2):=by
 refine Xs Tryd.func49 rfl Tryd.ntmps49 rfl fun w0 F0=>?_;rw[F.a3]at s;refine Xn 1 ?_;refine X2 0 (cs:=(A.rab k)) fun U=>?_;refine Xr 1 (cs:=l2c) Tryd.zeroValue82 fun g2=>?_;refine Xt 1 [] (Xw 3 ?_);refine Xq [] [] [.n,.n,.n,.n,.sy .n,.sy .n,.sy .n,.pk] [(17,.bool (bif decide (o<u)then true else decide (x<o)))] (Xo 1 ?_);refine Y7 s ?_ ?_<;>intro hb s
 ·refine Xn 1 ?_;refine Xt 1 [(18,.agg #[A.i 0,A.i 0,A.i 0,A.i 0,A.i 0,A.i 0,A.i 0,A.i 0])] ?_;refine Ya 1 [] [A.i 0,A.i 0,A.i 0,A.i 0,A.i 0,A.i 0,A.i 0,A.i 0] ?_;refine Xt 1 [(9,A.i 11)] (Xo 1 ?_);obtain rfl:=Xx s;exact Ys [] (.tuple #[.agg #[A.i 0,A.i 0,A.i 0,A.i 0,A.i 0,A.i 0,A.i 0,A.i 0],A.i 11]) (fun a w hf hh=>Z.resv2 rfl (Y5 hf rfl Tryd.isAgg82 Tryd.sizeOf82 (Yj hh 1) rfl) (Z.rv_t hf rfl)) (⟨rfl,rfl,Xy,Xy,Xy,Xy,Xy,Xy,Xy,Xy,(Xu .i64 (11) rfl)⟩)
 refine Xn 3 ?_;refine Xt 2 [(19,A.i o),(20,.pointer (some ⟨U,0,none⟩))] ?_;refine A.AL.store 0 [] (new:=[A.i o]) (cs':=[A.i o,A.i k.2.1,A.i k.2.2.1,A.i k.2.2.2.1,A.i k.2.2.2.2.1,A.i k.2.2.2.2.2.1,A.i k.2.2.2.2.2.2.1,A.i k.2.2.2.2.2.2.2]) ?_;refine Xw 2 ?_;refine Xq [0] [] [.b 0 0] [(21,.agg #[A.i o,A.i k.2.1,A.i k.2.2.1,A.i k.2.2.2.1,A.i k.2.2.2.2.1,A.i k.2.2.2.2.2.1,A.i k.2.2.2.2.2.2.1,A.i k.2.2.2.2.2.2.2])] ?_;refine Ya 1 [] [A.i o,A.i k.2.1,A.i k.2.2.1,A.i k.2.2.2.1,A.i k.2.2.2.2.1,A.i k.2.2.2.2.2.1,A.i k.2.2.2.2.2.2.1,A.i k.2.2.2.2.2.2.2] ?_;refine Xt 1 [(9,A.i 0)] (Xo 1 ?_);obtain rfl:=Xx s;exact Ys [] (.tuple #[.agg #[A.i o,A.i k.2.1,A.i k.2.2.1,A.i k.2.2.2.1,A.i k.2.2.2.2.1,A.i k.2.2.2.2.2.1,A.i k.2.2.2.2.2.2.1,A.i k.2.2.2.2.2.2.2],A.i 0]) (fun a w hf hh=>Z.resv2 rfl (Y5 hf rfl Tryd.isAgg82 Tryd.sizeOf82 (Yj hh 1) rfl) (Z.rv_t hf rfl)) (⟨rfl,rfl,y,z,B,E,J,L,N,O,Xy⟩)
def F.bw (k:Int):Option (D81×Int):=(F.a3 k 1 4 (0,k,1,0,(0,0,0,0))).bind fun o=>(some o)
theorem o_ay (k:Int)(u:A.h6 k)(r:D81×Int)(s:F.bw k=some r):
    A.Ct Tryd.prog 48 [A.i k] [] [] (fun v H'=>v=.tuple #[(A.rad r.1),A.i r.2]∧H'=[]∧A.h6 r.1.1∧A.h6 r.1.2.1∧A.h6 r.1.2.2.1∧A.h6 r.1.2.2.2.1∧A.h6 r.1.2.2.2.2.1∧A.h6 r.1.2.2.2.2.2.1∧A.h6 r.1.2.2.2.2.2.2.1∧A.h6 r.1.2.2.2.2.2.2.2∧A.h6 r.2):=by
 refine Xs Tryd.func48 rfl Tryd.ntmps48 rfl fun x y=>?_;rw[F.bw]at s;refine Xn 1 ?_;refine Xr 0 (cs:=l2c) Tryd.zeroValue82 fun z=>?_;refine Xt 1 [] (Xw 2 ?_);refine Xt 3 [(4,A.i k),(6,.agg #[A.i 0,A.i k,A.i 1,A.i 0,A.i 0,A.i 0,A.i 0,A.i 0])] ?_;refine Yo 1 [] s (o_k k 1 4 (0,k,1,0,(0,0,0,0)) u (Xu .i64 (1) rfl) (Xu .i64 (4) rfl) Xy u (Xu .i64 (1) rfl) Xy Xy Xy Xy Xy) .nil ?_;rintro o - s _ _ ⟨rfl,rfl,hr4,hr5,hr6,hr7,hr8,hr9,hr10,hr11,hr12⟩;refine X6 ?_;refine Xt 2 [(8,(A.rad o.1)),(9,A.i o.2)] ?_;refine Ya 0 [] (A.rab o.1) ?_;refine Xt 1 [(3,A.i o.2)] (Xo 1 ?_);obtain rfl:=Xx s;exact Ys [] (.tuple #[(A.rad o.1),A.i o.2]) (fun a w hf hh=>Z.resv2 rfl (Y5 hf rfl Tryd.isAgg82 Tryd.sizeOf82 (Yj hh 0) rfl) (Z.rv_t hf rfl)) (⟨rfl,rfl,hr4,hr5,hr6,hr7,hr8,hr9,hr10,hr11,hr12⟩)
def F.bz (k:Int):Option (D81×Int):=(F.a3 k 0 4 (0,k,0,0,(0,0,0,0))).bind fun o=>(some o)
theorem o_s (k:Int)(u:A.h6 k)(r:D81×Int)(s:F.bz k=some r):
    A.Ct Tryd.prog 43 [A.i k] [] [] (fun v H'=>v=.tuple #[(A.rad r.1),A.i r.2]∧H'=[]∧A.h6 r.1.1∧A.h6 r.1.2.1∧A.h6 r.1.2.2.1∧A.h6 r.1.2.2.2.1∧A.h6 r.1.2.2.2.2.1∧A.h6 r.1.2.2.2.2.2.1∧A.h6 r.1.2.2.2.2.2.2.1∧A.h6 r.1.2.2.2.2.2.2.2∧A.h6 r.2):=by
 refine Xs Tryd.func43 rfl Tryd.ntmps43 rfl fun x y=>?_;rw[F.bz]at s;refine Xn 1 ?_;refine Xr 0 (cs:=l2c) Tryd.zeroValue82 fun z=>?_;refine Xt 1 [] (Xw 2 ?_);refine Xt 3 [(4,A.i k),(6,.agg #[A.i 0,A.i k,A.i 0,A.i 0,A.i 0,A.i 0,A.i 0,A.i 0])] ?_;refine Yo 1 [] s (o_k k 0 4 (0,k,0,0,(0,0,0,0)) u Xy (Xu .i64 (4) rfl) Xy u Xy Xy Xy Xy Xy Xy) .nil ?_;rintro o - s _ _ ⟨rfl,rfl,hr4,hr5,hr6,hr7,hr8,hr9,hr10,hr11,hr12⟩;refine X6 ?_;refine Xt 2 [(8,(A.rad o.1)),(9,A.i o.2)] ?_;refine Ya 0 [] (A.rab o.1) ?_;refine Xt 1 [(3,A.i o.2)] (Xo 1 ?_);obtain rfl:=Xx s;exact Ys [] (.tuple #[(A.rad o.1),A.i o.2]) (fun a w hf hh=>Z.resv2 rfl (Y5 hf rfl Tryd.isAgg82 Tryd.sizeOf82 (Yj hh 0) rfl) (Z.rv_t hf rfl)) (⟨rfl,rfl,hr4,hr5,hr6,hr7,hr8,hr9,hr10,hr11,hr12⟩)
def F.br (k:Int):Option (D81×Int):=(F.a3 k 0 3 (0,k,0,1,(0,0,0,0))).bind fun o=>(some o)
theorem o_ao (k:Int)(u:A.h6 k)(r:D81×Int)(s:F.br k=some r):
    A.Ct Tryd.prog 46 [A.i k] [] [] (fun v H'=>v=.tuple #[(A.rad r.1),A.i r.2]∧H'=[]∧A.h6 r.1.1∧A.h6 r.1.2.1∧A.h6 r.1.2.2.1∧A.h6 r.1.2.2.2.1∧A.h6 r.1.2.2.2.2.1∧A.h6 r.1.2.2.2.2.2.1∧A.h6 r.1.2.2.2.2.2.2.1∧A.h6 r.1.2.2.2.2.2.2.2∧A.h6 r.2):=by
 refine Xs Tryd.func46 rfl Tryd.ntmps46 rfl fun x y=>?_;rw[F.br]at s;refine Xn 1 ?_;refine Xr 0 (cs:=l2c) Tryd.zeroValue82 fun z=>?_;refine Xt 1 [] (Xw 2 ?_);refine Xt 3 [(4,A.i k),(6,.agg #[A.i 0,A.i k,A.i 0,A.i 1,A.i 0,A.i 0,A.i 0,A.i 0])] ?_;refine Yo 1 [] s (o_k k 0 3 (0,k,0,1,(0,0,0,0)) u Xy (Xu .i64 (3) rfl) Xy u Xy (Xu .i64 (1) rfl) Xy Xy Xy Xy) .nil ?_;rintro o - s _ _ ⟨rfl,rfl,hr4,hr5,hr6,hr7,hr8,hr9,hr10,hr11,hr12⟩;refine X6 ?_;refine Xt 2 [(8,(A.rad o.1)),(9,A.i o.2)] ?_;refine Ya 0 [] (A.rab o.1) ?_;refine Xt 1 [(3,A.i o.2)] (Xo 1 ?_);obtain rfl:=Xx s;exact Ys [] (.tuple #[(A.rad o.1),A.i o.2]) (fun a w hf hh=>Z.resv2 rfl (Y5 hf rfl Tryd.isAgg82 Tryd.sizeOf82 (Yj hh 0) rfl) (Z.rv_t hf rfl)) (⟨rfl,rfl,hr4,hr5,hr6,hr7,hr8,hr9,hr10,hr11,hr12⟩)
def F.bs (k:Int):Option (D81×Int):=A.gd (Z.R64 (k-1)) ((F.a3 k 1 4 (0,k-1,0,0,(0,0,0,0))).bind fun o=>(some o))
theorem o_ap (k:Int)(x:A.h6 k)(r:D81×Int)(o:F.bs k=some r):
    A.Ct Tryd.prog 47 [A.i k] [] [] (fun v H'=>v=.tuple #[(A.rad r.1),A.i r.2]∧H'=[]∧A.h6 r.1.1∧A.h6 r.1.2.1∧A.h6 r.1.2.2.1∧A.h6 r.1.2.2.2.1∧A.h6 r.1.2.2.2.2.1∧A.h6 r.1.2.2.2.2.2.1∧A.h6 r.1.2.2.2.2.2.2.1∧A.h6 r.1.2.2.2.2.2.2.2∧A.h6 r.2):=by
 refine Xs Tryd.func47 rfl Tryd.ntmps47 rfl fun y z=>?_;rw[F.bs]at o;refine Xn 1 ?_;refine Xr 0 (cs:=l2c) Tryd.zeroValue82 fun B=>?_;refine Xt 1 [] (Xw 2 ?_);have⟨u,o⟩:=Yv o;refine Y8 4 [Z.R64 (k-1)] [(4,A.i k),(7,.agg #[A.i 0,A.i (k-1),A.i 0,A.i 0,A.i 0,A.i 0,A.i 0,A.i 0])] u ?_;refine Yo 1 [] o (o_k k 1 4 (0,k-1,0,0,(0,0,0,0)) x (Xu .i64 (1) rfl) (Xu .i64 (4) rfl) Xy (Xv u) Xy Xy Xy Xy Xy Xy) .nil ?_;rintro s - o _ _ ⟨rfl,rfl,hr5,hr6,hr7,hr8,hr9,hr10,hr11,hr12,hr13⟩;refine X6 ?_;refine Xt 2 [(9,(A.rad s.1)),(10,A.i s.2)] ?_;refine Ya 0 [] (A.rab s.1) ?_;refine Xt 1 [(3,A.i s.2)] (Xo 1 ?_);obtain rfl:=Xx o;exact Ys [] (.tuple #[(A.rad s.1),A.i s.2]) (fun a w hf hh=>Z.resv2 rfl (Y5 hf rfl Tryd.isAgg82 Tryd.sizeOf82 (Yj hh 0) rfl) (Z.rv_t hf rfl)) (⟨rfl,rfl,hr5,hr6,hr7,hr8,hr9,hr10,hr11,hr12,hr13⟩)
def F.aa (k:Int)(o:Int)(s:Int)(u:Int)(x:Int)(y:Int)(z:Int)(B:Int):Option D81:=some (k,o,s,u,(x,y,z,B))
def F.bk (y:D32)(x:Int):Option D81:=if y.2.1=12 then((F.br x).bind fun k=>(F.aa k.1.1 k.1.2.1 k.1.2.2.1 k.1.2.2.2.1 k.1.2.2.2.2.1 k.1.2.2.2.2.2.1 k.1.2.2.2.2.2.2.1 k.1.2.2.2.2.2.2.2))else(if y.2.1=13 then((F.bs x).bind fun o=>(F.aa o.1.1 o.1.2.1 o.1.2.2.1 o.1.2.2.2.1 o.1.2.2.2.2.1 o.1.2.2.2.2.2.1 o.1.2.2.2.2.2.2.1 o.1.2.2.2.2.2.2.2))else(if y.2.1=14 then((F.bw x).bind fun s=>(F.aa s.1.1 s.1.2.1 s.1.2.2.1 s.1.2.2.2.1 s.1.2.2.2.2.1 s.1.2.2.2.2.2.1 s.1.2.2.2.2.2.2.1 s.1.2.2.2.2.2.2.2))else((F.bz x).bind fun u=>(F.aa u.1.1 u.1.2.1 u.1.2.2.1 u.1.2.2.2.1 u.1.2.2.2.2.1 u.1.2.2.2.2.2.1 u.1.2.2.2.2.2.2.1 u.1.2.2.2.2.2.2.2))))
theorem o_ah(k:D32)(s:Int)(ab:A.h6 k.1)(ac:A.h6 k.2.1)(ad:A.h6 k.2.2.2.1.1)(ae:A.h6 k.2.2.2.1.2.1)(ag:k.2.2.2.1.2.2.size≤maxLen)(ah:k.2.2.2.2.1.size≤maxLen)(ai:A.h6 k.2.2.2.2.2.1)(aj:A.h6 k.2.2.2.2.2.2)(W:A.h6 s)(r:D81)(o:F.bk k s=some r):
    A.Ct Tryd.prog 42 [.agg #[A.i k.1,A.i k.2.1,.slice A2_ k.2.2.1.length c3_,A.i k.2.2.2.1.1,A.i k.2.2.2.1.2.1,.string k.2.2.2.1.2.2,.string k.2.2.2.2.1,A.i k.2.2.2.2.2.1,A.i k.2.2.2.2.2.2],A.i s] [(0,.sh A.TI [.slice A2_ k.2.2.1.length c3_] k.2.2.1)] [] (fun v H'=>v=(A.rad r)∧H'=[]∧A.h6 r.1∧A.h6 r.2.1∧A.h6 r.2.2.1∧A.h6 r.2.2.2.1∧A.h6 r.2.2.2.2.1∧A.h6 r.2.2.2.2.2.1∧A.h6 r.2.2.2.2.2.2.1∧A.h6 r.2.2.2.2.2.2.2):=by
 refine Xs Tryd.func42 rfl Tryd.ntmps42 rfl fun w0 F0=>?_;rw[F.bk]at o;refine Xn 1 ?_;refine X2 1 (cs:=[A.i k.1,A.i k.2.1,.slice A2_ k.2.2.1.length c3_,A.i k.2.2.2.1.1,A.i k.2.2.2.1.2.1,.string k.2.2.2.1.2.2,.string k.2.2.2.2.1,A.i k.2.2.2.2.2.1,A.i k.2.2.2.2.2.2]) fun g1=>?_;refine Xr 2 (cs:=l2c) Tryd.zeroValue82 fun g2=>?_;refine Xw 2 ?_;refine Xr 3 (cs:=l2c) Tryd.zeroValue82 fun g3=>?_;refine Xo 1 ?_;refine Xz [4,5] [2] (fun nl nh=>∃(B:Int),∃(E:Int),∃(J:Int),∃(L:Int),∃(N:Int),∃(O:Int),∃(U:Int),∃(V:Int),nl=[]∧nh=[(3,.blk g3 82 [A.i B,A.i E,A.i J,A.i L,A.i N,A.i O,A.i U,A.i V])]∧A.h6 B∧A.h6 E∧A.h6 J∧A.h6 L∧A.h6 N∧A.h6 O∧A.h6 U∧A.h6 V∧F.aa B E J L N O U V=some r) ?_ ?_
 ·refine Xn 1 ?_;refine Xq [1] [] [.n,.b 0 1] [(7,A.i k.2.1)] (Xw 3 ?_);refine Xt 2 [(13,.bool (decide (k.2.1=12)))] (Xo 1 ?_);refine Yn o ?_ ?_<;>intro Y o
  ·refine Xn 0 ?_;refine Xt 1 [(16,A.i s)] ?_;refine Yo 4 [] o (o_ao s W) .nil ?_;rintro u - o _ _ ⟨rfl,rfl,hr22,hr23,hr24,hr25,hr26,hr27,hr28,hr29,hr30⟩;refine X6 ?_;refine Xt 3 [(18,(A.rad u.1))] ?_;refine Ya 3 [] (A.rab u.1) ?_;refine A.de 1 ?_;exact Yd ⟨u.1.1,u.1.2.1,u.1.2.2.1,u.1.2.2.2.1,u.1.2.2.2.2.1,u.1.2.2.2.2.2.1,u.1.2.2.2.2.2.2.1,u.1.2.2.2.2.2.2.2,rfl,rfl,hr22,hr23,hr24,hr25,hr26,hr27,hr28,hr29,o⟩
  refine Xn 1 ?_;refine Xt 2 [(20,.bool (decide (k.2.1=13)))] (Xo 1 ?_);refine Yn o ?_ ?_<;>intro Y o
  ·refine Xn 0 ?_;refine Xt 1 [(23,A.i s)] ?_;refine Yo 44 [] o (o_ap s W) .nil ?_;rintro x - o _ _ ⟨rfl,rfl,hr33,hr34,hr35,hr36,hr37,hr38,hr39,hr40,hr41⟩;refine X6 ?_;refine Xt 3 [(25,(A.rad x.1))] ?_;refine Ya 3 [] (A.rab x.1) ?_;refine A.de 1 ?_;exact Yd ⟨x.1.1,x.1.2.1,x.1.2.2.1,x.1.2.2.2.1,x.1.2.2.2.2.1,x.1.2.2.2.2.2.1,x.1.2.2.2.2.2.2.1,x.1.2.2.2.2.2.2.2,rfl,rfl,hr33,hr34,hr35,hr36,hr37,hr38,hr39,hr40,o⟩
  refine Xn 1 ?_;refine Xt 2 [(27,.bool (decide (k.2.1=14)))] (Xo 1 ?_);refine Yn o ?_ ?_<;>intro Y o
  ·refine Xn 0 ?_;refine Xt 1 [(30,A.i s)] ?_;refine Yo 84 [] o (o_ay s W) .nil ?_;rintro y - o _ _ ⟨rfl,rfl,hr44,hr45,hr46,hr47,hr48,hr49,hr50,hr51,hr52⟩;refine X6 ?_;refine Xt 3 [(32,(A.rad y.1))] ?_;refine Ya 3 [] (A.rab y.1) ?_;refine A.de 1 ?_;exact Yd ⟨y.1.1,y.1.2.1,y.1.2.2.1,y.1.2.2.2.1,y.1.2.2.2.2.1,y.1.2.2.2.2.2.1,y.1.2.2.2.2.2.2.1,y.1.2.2.2.2.2.2.2,rfl,rfl,hr44,hr45,hr46,hr47,hr48,hr49,hr50,hr51,o⟩
  refine Xn 0 ?_;refine Xt 1 [(9,A.i s)] ?_;refine Yo 124 [] o (o_s s W) .nil ?_;rintro z - o _ _ ⟨rfl,rfl,hr55,hr56,hr57,hr58,hr59,hr60,hr61,hr62,hr63⟩;refine X6 ?_;refine Xt 3 [(11,(A.rad z.1))] ?_;refine Ya 3 [] (A.rab z.1) ?_;refine A.de 1 ?_;exact Yd ⟨z.1.1,z.1.2.1,z.1.2.2.1,z.1.2.2.2.1,z.1.2.2.2.2.1,z.1.2.2.2.2.2.1,z.1.2.2.2.2.2.2.1,z.1.2.2.2.2.2.2.2,rfl,rfl,hr55,hr56,hr57,hr58,hr59,hr60,hr61,hr62,o⟩
 rintro _ _ ⟨B,E,J,L,N,O,U,V,rfl,rfl,a2,a3,a4,a5,a6,a7,a8,a9,o⟩;rw[F.aa]at o;refine Xn 1 ?_;refine Xq [3] [] [.b 0 0] [(34,.agg #[A.i B,A.i E,A.i J,A.i L,A.i N,A.i O,A.i U,A.i V])] ?_;refine Ya 2 [] [A.i B,A.i E,A.i J,A.i L,A.i N,A.i O,A.i U,A.i V] ?_;refine Xo 1 ?_;obtain rfl:=Xx o;exact Ys [] (.agg #[A.i B,A.i E,A.i J,A.i L,A.i N,A.i O,A.i U,A.i V]) (fun a w hf hh=>Yy rfl (Y5 hf rfl Tryd.isAgg82 Tryd.sizeOf82 (Yj hh 2) rfl)) (⟨rfl,rfl,a2,a3,a4,a5,a6,a7,a8,a9⟩)
def F.u (k:(List D32)):Option ((List D32)):=some k
theorem o_i(k:(List D32))(r:((List D32)))(o:F.u k=some r):
    A.Ct Tryd.prog 50 [.slice A0_ k.length c1_] [(0,.sh (.slice T32) [.slice A0_ k.length c1_] k)] [] (fun v H'=>∃(g0':Nat) (A1':Option Addr) (c2':Nat),v=.func (.func 51) #[] #[.pointer (some ⟨g0',0,none⟩)]∧H'=[(0,.blk g0' 22 [.slice A1' r.length c2']),(1,.sh (.slice T32) [.slice A1' r.length c2'] r)]):=by
 refine Xs Tryd.func50 rfl Tryd.ntmps50 rfl fun x y=>?_;rw[F.u]at o;refine Xn 1 ?_;refine X2 1 (cs:=[.slice A0_ k.length c1_]) fun s=>?_;refine Xt 1 [] (Xw 2 ?_);refine Xt 2 [(2,.func (.func 51) #[] #[.pointer (some ⟨s,0,none⟩)])] (Xo 1 ?_);obtain rfl:=Xx o;exact X1 [(0,1),(1,0)] ⟨s,A0_,c1_,rfl,rfl⟩
def F.e (o:(List D32)):Nat→Int→Option (List D32)
 |0,_=>none
 |f+1,k=>if k<(o.length:Int)then((A.ix o k).bind fun s=>(A.cns s (A.gd (Z.R64 (k+1)) ((F.e o f) (k+1)))))else(some [])
def F.n (k:(List D32)):Option (List D32):=F.e k A.FU 0
theorem o_f(u:(List D32))(xs:List D32)(o:F.n u=some xs):
    A.Sq Tryd.prog 51 [.pointer (some ⟨g0_,0,none⟩)] [(0,.el none g0_ 0 [.slice A1_ u.length c2_]),(1,.sh (.slice T32) [.slice A1_ u.length c2_] u)] T32 (fun cs=>[Z.vof true cs]) xs:=by
 refine A.Sq.enter Tryd.func51 rfl Tryd.ntmps51 rfl fun lid N J Jx Φ hY hJ0=>?_;obtain⟨rs0,hrs⟩: ∃rs0,rs0=xs:=⟨_,rfl⟩
 have hR0:A.Rem xs 0 rs0:=hrs▸A.Rem.zero xs
 rw[F.n,←hrs]at o
 clear hrs
 refine Xn 1 ?_;refine Xq [] [0] [.e 0 0,.n,.n] [(5,.slice A1_ u.length c2_),(6,A.i (u.length:Int)),(7,A.i 0)] (Xo 2 ?_);refine A.AX.loopC (A.CY 16 Φ) (0,N) [0,5,6] [1] [1] (fun f i O U=>∃(s:Int),∃(rs:List D32),O=[(7,A.i s)]∧U=[]∧A.h6 s∧J i.1 i.2∧A.Rem xs i.1 rs∧F.e u f s=some rs) A.FU [(7,A.i 0)] [] ⟨0,_,rfl,rfl,Xy,hJ0,hR0,o⟩ ?_;rintro B ⟨V,Y⟩ _ _ ⟨s,rs8,rfl,rfl,a0,hJ6,hR7,o⟩;rcases B with _|B
 ·exact Yc o
 rw[F.e]at o;refine Xn 1 ?_;refine Xt 1 [(8,.bool (decide (s<(u.length:Int))))] (Xo 2 ?_);refine Yn o ?_ ?_<;>intro hb o
 ·refine Xn 5 ?_;have⟨k,W,o⟩:=Yz o;refine Yh 1 8 W fun x=>?_;intro y z a1 a2;refine Xq [] [8] [.e 0 0] [(10,.agg #[A.i k.1,A.i k.2.1,.slice y k.2.2.1.length z,A.i k.2.2.2.1.1,A.i k.2.2.2.1.2.1,.string k.2.2.2.1.2.2,.string k.2.2.2.2.1,A.i k.2.2.2.2.2.1,A.i k.2.2.2.2.2.2])] ?_;refine Xr 10 (cs:=l2a) Tryd.zeroValue33 fun a3=>?_;refine Ya 10 [] [A.i k.1,A.i k.2.1,.slice y k.2.2.1.length z,A.i k.2.2.2.1.1,A.i k.2.2.2.1.2.1,.string k.2.2.2.1.2.2,.string k.2.2.2.2.1,A.i k.2.2.2.2.2.1,A.i k.2.2.2.2.2.2] ?_;refine Xw 2 ?_;refine Xq [10] [] [.n,.b 0 0] [(11,.func (.yield lid) #[] #[]),(12,.agg #[A.i k.1,A.i k.2.1,.slice y k.2.2.1.length z,A.i k.2.2.2.1.1,A.i k.2.2.2.1.2.1,.string k.2.2.2.1.2.2,.string k.2.2.2.2.1,A.i k.2.2.2.2.2.1,A.i k.2.2.2.2.2.2])] ?_;obtain⟨rs17,hqrs17,o⟩:=A.cns_some o;refine A.AL.yield hY hJ6 (hqrs17▸hR7) [A.i k.1,A.i k.2.1,.slice y k.2.2.1.length z,A.i k.2.2.2.1.1,A.i k.2.2.2.1.2.1,.string k.2.2.2.1.2.2,.string k.2.2.2.2.1,A.i k.2.2.2.2.2.1,A.i k.2.2.2.2.2.2] ⟨⟨rfl,x.1⟩,⟨rfl,x.2.1⟩,.inl ⟨9,rfl⟩,⟨⟨rfl,x.2.2.2.1.1⟩,⟨rfl,x.2.2.2.1.2.1⟩,⟨rfl,x.2.2.2.1.2.2⟩⟩,⟨rfl,x.2.2.2.2.1⟩,⟨rfl,x.2.2.2.2.2.1⟩,⟨rfl,x.2.2.2.2.2.2⟩⟩ (fun E hJ19 hR20=>?_) (fun E hX21=>?_)
  ·refine Xt 1 [(14,.bool false)] (Xo 1 ?_);refine Yq rfl ?_;refine Xn 3 ?_;have⟨L,o⟩:=Yv o;refine Y8 2 [Z.R64 (s+1)] [(7,A.i (s+1))] L (Xp ?_);exact A.AE.jC (V+1,E) [1] [(7,A.i (s+1))] [] ⟨_,Qg _,⟨(s+1),_,rfl,rfl,(Xv L),hJ19,hR20,o⟩⟩
  refine Xt 1 [(14,.bool true)] (Xo 1 ?_);refine Y1 rfl ?_;exact A.AX.rtX hY hX21
 refine Yt 1 ?_;obtain rfl:=Xx o;exact A.AE.rtY hY hJ6 hR7
def F.aN (o:(List D73)→Int→Option (List D73))(k:Int)(s:List D73):Option (List D73):=A.gd (Z.R64 (k+1)) (o s (k+1))
def F.ak (u:(List D73)→Option (List D73))(x:Int)(k:D32):Nat→(List D73)→Int→Option (List D73)
 |0,_,_=>none
 |f+1,s,o=>if o<(k.2.2.1.length:Int)then((A.ix k.2.2.1 o).bind fun y=>(if y=x then(A.gd ((List.length (α:=D73) s+List.length (α:=D73) [(k.1,o)])*16≤140737488355328) (F.aN (F.ak u x k f) o (s++[(k.1,o)])))else(F.aN (F.ak u x k f) o s)))else(u s)
def F.w (o:Int):List D32→(List D73)→Option (List D73)
 | [],k=>some k
 |s::f,k=>F.ak (F.w o f) o s A.FU k 0
def F.bn (k:D23)(o:Int):Option (List D73):=(F.u k).bind fun s=>((F.n s).bind fun x=>F.w o x [])
theorem o_aj(U:D23)(B:Int)(ai:A.h6 B)(r:(List D73))(u:F.bn U B=some r):
    A.Ct Tryd.prog 44 [.agg #[.slice A0_ U.length c1_],A.i B] [(0,.sh (.slice T32) [.slice A0_ U.length c1_] U)] [] (fun v H'=>∃(A0':Option Addr) (c1':Nat),v=.slice A0' r.length c1'∧H'=[(0,.own T73 74 A0' c1' r)]):=by
 refine A.Ct.enterM Tryd.func44 rfl Tryd.ntmps44 rfl fun w0 F0=>?_;rw[F.bn]at u;refine Xn 1 ?_;refine X2 1 (cs:=[.slice A0_ U.length c1_]) fun g1=>?_;refine X2 2 (cs:=[A.i B]) fun g2=>?_;refine Xt 1 [] (Xw 2 ?_);refine Xr 3 (cs:=[.slice none 0 0]) Tryd.zeroValue85 fun V=>?_;refine Xw 3 ?_;refine Xq [1] [] [.n,.b 0 0] [(10,.slice A0_ U.length c1_)] ?_;refine Yo 4 [] u (o_i A0_ c1_ U) (.s 0 .nil) ?_;rintro r4 - u _ _ ⟨g6,A7,c8,rfl,rfl⟩;refine X6 ?_;refine Xo 2 ?_;refine A.nil 61 T73 74 ?_;have⟨a2,ad,u⟩:=Yz u;refine A.AX.rgf 62 63 64 [2,4,5] [3,61,2,4,5] [63,62,3,61,2,4,5] (fun k W=>∃(E:List D73),∃(J:Option Addr),∃(L:Nat),W=[(3,.blk V 85 [.slice J E.length L]),(61,.own T73 74 J L E)]∧F.w B (List.drop k a2) E=some r) [(3,.blk V 85 [.slice none 0 0]),(61,.own T73 74 none 0 [])] cf51 (o_f A7 g6 c8 r4 a2 ad) (fun _=>rfl) ⟨[],none,0,rfl,u⟩ ?_ ?_ ?_
 ·rintro a5 _ D25 L26 ⟨E,J,L,rfl,u⟩;exact⟨⟨_,(.b 4 (.s 5 .nil))⟩,rfl,fun o=>rfl⟩
 ·rintro a5 _ x D25 L26 aj al ⟨E,J,L,rfl,u⟩ hx35 hxo36 ae;intro a7 a8;rw[A.drop_at hx35,F.w]at u
  refine Xn 0 ?_;refine Xr 79 (cs:=l2a) Tryd.zeroValue33 fun am=>?_;refine Ya 79 [] [A.i x.1,A.i x.2.1,.slice a7 x.2.2.1.length a8,A.i x.2.2.2.1.1,A.i x.2.2.2.1.2.1,.string x.2.2.2.1.2.2,.string x.2.2.2.2.1,A.i x.2.2.2.2.2.1,A.i x.2.2.2.2.2.2] ?_;refine Xp ?_;refine A.AE.flip 62 63 fun an=>?_;refine Xn 2 ?_;refine Xq [79] [] [.n,.b 0 2,.n,.n] [(14,.slice a7 x.2.2.1.length a8),(15,A.i (x.2.2.1.length:Int)),(16,A.i 0)] (Xo 2 ?_);refine Yf [3,5,6,14,15] [2,4,5,62,63,64,79] (fun f nl W=>∃(z:List D73),∃(y:Int),∃(N:Option Addr),∃(O:Nat),nl=[(16,A.i y)]∧W=[(3,.blk V 85 [.slice N z.length O]),(61,.own T73 74 N O z)]∧A.h6 y∧F.ak (F.w B (List.drop (a5+1) a2)) B x f z y=some r) ⟨E,0,J,L,rfl,rfl,Xy,u⟩ ?_;rintro a6 _ _ ⟨z,y,N,O,rfl,rfl,ag,u⟩;rcases a6 with _|a6
  ·exact Yc u
  rw[F.ak]at u;refine Xn 1 ?_;refine Xt 1 [(17,.bool (decide (y<(x.2.2.1.length:Int))))] (Xo 2 ?_);refine Yn u ?_ ?_<;>intro hb u
  ·refine Y6 2 ?_;refine Xz [3,5,6,14,15,16] [2,4,5,62,63,64,79] (fun nl W=>∃(Y:List D73),∃(a3:Option Addr),∃(a4:Nat),nl=[]∧W=[(3,.blk V 85 [.slice a3 Y.length a4]),(61,.own T73 74 a3 a4 Y)]∧F.aN (F.ak (F.w B (List.drop (a5+1) a2)) B x a6) y Y=some r) ?_ ?_
   ·refine Xn 2 ?_;refine Xt 1 [(18,A.i y)] ?_;have⟨a9,ah,u⟩:=Yz u;refine Yh 64 84 ah fun ao=>?_;intro ap aq;refine Xq [] [84] [.e 0 0,.n,.n] [(7,A.i y),(8,A.i a9)] (Xw 2 ?_);refine Xq [2] [] [.n,.b 0 0,.n] [(23,.bool (decide (a9=B)))] (Xo 1 ?_);refine Yn u ?_ ?_<;>intro hb u
    ·refine Xn 0 ?_;refine Xq [3,79] [] [.b 0 0,.n,.b 1 0,.n,.n] [(24,.slice N z.length O),(28,.agg #[A.i x.1,A.i y])] ?_;refine X9 85 (ty:=T73) (cs:=[A.i x.1,A.i y]) [(x.1,y)] ⟨⟨⟨rfl,hxo36.1⟩,⟨rfl,ag⟩⟩,rfl⟩ (fun ar=>?_) Tryd.zeroValue74 Tryd.sizeOf74
     have⟨hl59,u⟩:=Yv u;refine Yp (k:=61) [] (A.rowO (k:=85) rfl) inf74 hl59 fun aa ab=>?_;refine Ya 3 [] [.slice aa ((z++[(x.1,y)]).length) ab] ?_;refine A.de 1 ?_;exact Yd ⟨(z++[(x.1,y)]),aa,ab,rfl,rfl,u⟩
    refine Yt 2 ?_;exact Yd ⟨z,N,O,rfl,rfl,u⟩
   rintro _ _ ⟨Y,a3,a4,rfl,rfl,u⟩;rw[F.aN]at u;refine Xn 0 ?_;have⟨ac,u⟩:=Yv u;refine Y8 2 [Z.R64 (y+1)] [(16,A.i (y+1))] ac (Xp ?_);exact Yd ⟨_,Qg _,⟨Y,(y+1),a3,a4,rfl,rfl,(Xv ac),u⟩⟩
  refine Yt 2 ?_;exact A.AE.bn ae [63,62,3,61,2,4,5] 100000 [(63,100063),(62,100062),(3,100003),(61,100061),(2,100002),(4,100004),(5,100005)] [(3,.blk V 85 [.slice N z.length O]),(61,.own T73 74 N O z)] ⟨z,N,O,rfl,u⟩ rfl rfl
 rintro _ D25 L26 ⟨E,J,L,rfl,u⟩;rw[List.drop_length,F.w]at u
 refine A.el 3 ?_;refine Xq [3] [] [.b 0 0,.n] [(4,.slice J E.length L)] (Xo 1 ?_);obtain rfl:=Xx u;exact A.AX.rtM (Ds:=[D25]) [62] [(0,61)] (.slice J E.length L) (⟨rfl,trivial⟩) (fun a w hf hh=>Yy rfl (Z.rv_t hf rfl)) (⟨J,L,rfl,rfl⟩)
def F.ao (o:(List D83)→Int→Option (List D83))(k:Int)(s:List D83):Option (List D83):=A.gd (Z.R64 (k+1)) (o s (k+1))
def F.ap (O:(List D83)→Int→Option (List D83))(U:Int)(o:D32)(s:Int)(u:Int)(x:Int)(y:Int)(z:Int)(B:Int)(E:Int)(J:Int)(L:(List D73)):Nat→(List D83)→Int→Option (List D83)
 |0,_,_=>none
 |f+1,N,k=>if k<(L.length:Int)then((A.ix L k).bind fun V=>(A.gd ((List.length (α:=D83) N+List.length (α:=D83) [((o.1,2),V,(s,u,x,y,(z,B,E,J)))])*96≤140737488355328) (A.gd (Z.R64 (k+1)) ((F.ap O U o s u x y z B E J L f) (N++[((o.1,2),V,(s,u,x,y,(z,B,E,J)))]) (k+1)))))else(F.ao O U N)
def F.aI (o:(List D83)→Int→Option (List D83))(s:D23)(u:Int)(k:D32)(x:List D83)(y:Int)(z:Int)(B:Int)(E:Int)(J:Int)(L:Int)(N:Int)(O:Int):Option (List D83):=(F.bn s k.1).bind fun U=>(F.ap o u k y z B E J L N O U A.FU x 0)
def F.aq (y:(List D83)→Int→Option (List D83))(u:((List (Int×D32))×(List Int)×(List (Int×Int))))(z:D23)(B:Int)(k:D32):Nat→(List D83)→Int→Option (List D83)
 |0,_,_=>none
 |f+1,x,s=>if s<(k.2.2.1.length:Int)then((A.ix k.2.2.1 s).bind fun J=>(A.lt (Z.mget (0:Int) u.2.2 J) fun L=>((F.bk k L).bind fun E=>(A.gd ((List.length (α:=D83) x+List.length (α:=D83) [((k.1,s),(k.1,2),E)])*96≤140737488355328) (A.gd (Z.R64 (s+1)) ((F.aq y u z B k f) (x++[((k.1,s),(k.1,2),E)]) (s+1)))))))else(A.lt (Z.mget (0:Int) u.2.2 k.1) fun N=>((F.bz N).bind fun o=>(F.aI y z B k x o.1.1 o.1.2.1 o.1.2.2.1 o.1.2.2.2.1 o.1.2.2.2.2.1 o.1.2.2.2.2.2.1 o.1.2.2.2.2.2.2.1 o.1.2.2.2.2.2.2.2)))
def F.g (s:((List (Int×D32))×(List Int)×(List (Int×Int))))(k:D23):Nat→(List D83)→Int→Option (List D83)
 |0,_,_=>none
 |f+1,u,o=>if o<(k.length:Int)then((A.ix k o).bind fun x=>(if x.2.1=15 then(F.ao (F.g s k f) o u)else(F.aq (F.g s k f) s k o x A.FU u 0)))else(some u)
def F.a0 (k:((List (Int×D32))×(List Int)×(List (Int×Int))))(o:D23):Option (List D83):=F.g k o A.FU [] 0
theorem o_v(J:((List (Int×D32))×(List Int)×(List (Int×Int))))(B:D23)(r:(List D83))(o:F.a0 J B=some r):
    A.Ct Tryd.prog 37 [.pointer (some ⟨g0_,0,none⟩),.agg #[.slice A5_ B.length c6_]] [(0,.blk g0_ 53 [.map (some b1_),.slice A2_ J.2.1.length c3_,.map (some b4_)]),(1,.mp Int (fun i:Int=>A.i i) T32 true b1_ J.1),(2,.own A.ti 3 A2_ c3_ J.2.1),(3,.mp Int (fun i:Int=>A.i i) A.ti false b4_ J.2.2),(4,.sh (.slice T32) [.slice A5_ B.length c6_] B)] ([g0_]++([b1_]++(Z.obl A2_++([b4_]++[])))) (fun v H'=>∃(A0':Option Addr) (c1':Nat),v=.slice A0' r.length c1'∧H'=[(0,.own T83 84 A0' c1' r),(1,.blk g0_ 53 [.map (some b1_),.slice A2_ J.2.1.length c3_,.map (some b4_)]),(2,.mp Int (fun i:Int=>A.i i) T32 true b1_ J.1),(3,.own A.ti 3 A2_ c3_ J.2.1),(4,.mp Int (fun i:Int=>A.i i) A.ti false b4_ J.2.2)]):=by
 refine Xs Tryd.func37 rfl Tryd.ntmps37 rfl fun w0 F0=>?_;rw[F.a0]at o;refine Xn 1 ?_;refine X2 5 (cs:=[.slice A5_ B.length c6_]) fun g1=>?_;refine Xt 1 [] (Xw 2 ?_);refine Xt 1 [(5,.slice none 0 0)] (Xw 3 ?_);refine Xq [5] [] [.n,.b 0 0,.n,.n] [(16,.slice A5_ B.length c6_),(17,A.i (B.length:Int)),(18,A.i 0)] (Xo 2 ?_);refine A.nil 3600 T83 84 ?_;refine Yf [0,3,16,17] l2o (fun f nl nh=>∃(a9:List D83),∃(L:Int),∃(A2:Option Addr),∃(c3:Nat),nl=[(5,.slice A2 a9.length c3),(18,A.i L)]∧nh=[(3600,.own T83 84 A2 c3 a9)]∧A.h6 L∧F.g J B f a9 L=some r) ⟨[],0,none,0,rfl,rfl,Xy,o⟩ ?_;rintro f7 _ _ ⟨a9,L,A2,c3,rfl,rfl,bl,o⟩;rcases f7 with _|f7
 ·exact Yc o
 rw[F.g]at o;refine Xn 1 ?_;refine Xt 1 [(19,.bool (decide (L<(B.length:Int))))] (Xo 2 ?_);refine Yn o ?_ ?_<;>intro hb o
 ·refine Y6 2 ?_;refine Xz [0,3,16,17,18] l2o (fun nl nh=>∃(aa:List D83),∃(A8:Option Addr),∃(c9:Nat),nl=[(5,.slice A8 aa.length c9)]∧nh=[(3600,.own T83 84 A8 c9 aa)]∧F.ao (F.g J B f7) L aa=some r) ?_ ?_
  ·refine Xn 2 ?_;have⟨u,b5,o⟩:=Yz o;refine Yh 4 6675 b5 fun N=>?_;intro ab ac bm bp;refine Xq [] [6675] [.e 0 0] [(21,.agg #[A.i u.1,A.i u.2.1,.slice ab u.2.2.1.length ac,A.i u.2.2.2.1.1,A.i u.2.2.2.1.2.1,.string u.2.2.2.1.2.2,.string u.2.2.2.2.1,A.i u.2.2.2.2.2.1,A.i u.2.2.2.2.2.2])] ?_;refine Xr 6677 (cs:=l2a) Tryd.zeroValue33 fun bq=>?_;refine Ya 6677 [] [A.i u.1,A.i u.2.1,.slice ab u.2.2.1.length ac,A.i u.2.2.2.1.1,A.i u.2.2.2.1.2.1,.string u.2.2.2.1.2.2,.string u.2.2.2.2.1,A.i u.2.2.2.2.2.1,A.i u.2.2.2.2.2.2] ?_;refine Xw 3 ?_;refine Xq [6677] [] [.n,.b 0 1,.n] [(24,.bool (decide (u.2.1=15)))] (Xo 1 ?_);refine Yn o ?_ ?_<;>intro hb o
   ·refine Yt 1 ?_;exact Yd ⟨a9,A2,c3,rfl,rfl,o⟩
   refine Xn 3 ?_;refine Xq [6677] [] [.n,.b 0 0,.n] [(27,.agg #[A.i u.1,A.i 2])] ?_;refine Xr 6678 (cs:=l2p) Tryd.zeroValue74 fun br=>?_;refine Ya 6678 [] [A.i u.1,A.i 2] ?_;refine Xw 3 ?_;refine Xq [6677] [] [.n,.b 0 2,.n,.n] [(29,.slice ab u.2.2.1.length ac),(30,A.i (u.2.2.1.length:Int)),(31,A.i 0)] (Xo 2 ?_);refine Yf [0,3,7,8,16,17,18,29,30] [0,1,2,3,4,5,6676,6677,6678] (fun f nl nh=>∃(a5:List D83),∃(E:Int),∃(ad:Option Addr),∃(ae:Nat),nl=[(5,.slice ad a5.length ae),(31,A.i E)]∧nh=[(3600,.own T83 84 ad ae a5)]∧A.h6 E∧F.aq (F.g J B f7) J B L u f a5 E=some r) ⟨a9,0,A2,c3,rfl,rfl,Xy,o⟩ ?_;rintro am _ _ ⟨a5,E,ad,ae,rfl,rfl,b6,o⟩;rcases am with _|am
   ·exact Yc o
   rw[F.aq]at o;refine Xn 1 ?_;refine Xt 1 [(32,.bool (decide (E<(u.2.2.1.length:Int))))] (Xo 2 ?_);refine Yn o ?_ ?_<;>intro hb o
   ·refine Xn 5 ?_;refine Xt 1 [(33,A.i E)] ?_;have⟨ai,b7,o⟩:=Yz o;refine Yh 6676 7701 b7 fun bs=>?_;intro bt bu;refine Xq [] [7701] [.e 0 0,.n,.n] [(9,A.i E),(10,A.i ai)] (Xo 1 ?_);refine Yi mixed 18 18 (A.mb 18 0) ?_;refine X8 X5 [] l2d [6678,6677,0] [] (A.mb 18 4095) 6 [(0,.n),(1,.n),(3,.n),(5,.b 0 0),(6,.b 1 0),(7,.n),(11,.n),(2,.b 1 0),(8,.n),(4,.n),(9,.n),(10,.b 2 2)] [(36,.slice ad a5.length ae),(41,.agg #[A.i u.1,A.i 2]),(42,.agg #[A.i u.1,A.i u.2.1,.slice ab u.2.2.1.length ac,A.i u.2.2.2.1.1,A.i u.2.2.2.1.2.1,.string u.2.2.2.1.2.2,.string u.2.2.2.2.1,A.i u.2.2.2.2.2.1,A.i u.2.2.2.2.2.2]),(47,A.i ai),(40,.agg #[A.i u.1,A.i E]),(46,.map (some b4_))] ?_;obtain⟨b9,an,o⟩:=X7 o;refine A.okm (t:=A.ti) 3 ai (z:=(0:Int)) (zs:=l2n) ⟨rfl,by decide⟩ an fun bb=>?_;refine Yu X5 l2d l2d 12 (A.mb 18 8191) rfl (fun a w hf hh=>A.r_lkf (t:=A.ti) (ok:=false) (z:=(0:Int)) (zs:=l2n) 3 ky3 ai Tryd.zeroValue3 ⟨rfl,by decide⟩ an rfl hf hh) ?_;refine X0 13 ?_;refine Yo 7702 [] o (o_ah ab ac u b9 N.1 N.2.1 N.2.2.2.1.1 N.2.2.2.1.2.1 N.2.2.2.1.2.2 N.2.2.2.2.1 N.2.2.2.2.2.1 N.2.2.2.2.2.2 bb) (.s 6676 .nil) ?_;rintro y - o _ _ ⟨rfl,rfl,hr37,hr38,hr39,hr40,hr41,hr42,hr43,hr44⟩;refine X6 ?_;refine X4 (A.mb 18 16383) l2d ?_;refine X8 X5 l2d l2d [] [] (A.mb 18 32767) 3 [(14,.n)] [(50,.agg #[A.i u.1,A.i E,A.i u.1,A.i 2,A.i y.1,A.i y.2.1,A.i y.2.2.1,A.i y.2.2.2.1,A.i y.2.2.2.2.1,A.i y.2.2.2.2.2.1,A.i y.2.2.2.2.2.2.1,A.i y.2.2.2.2.2.2.2])] ?_;refine X0 15 ?_;refine X9 7742 (ty:=T83) (cs:=[A.i u.1,A.i E,A.i u.1,A.i 2,A.i y.1,A.i y.2.1,A.i y.2.2.1,A.i y.2.2.2.1,A.i y.2.2.2.2.1,A.i y.2.2.2.2.2.1,A.i y.2.2.2.2.2.2.1,A.i y.2.2.2.2.2.2.2]) [((u.1,E),(u.1,2),y)] ⟨⟨⟨⟨rfl,N.1⟩,⟨rfl,b6⟩⟩,⟨⟨rfl,N.1⟩,⟨rfl,(Xu .i64 (2) rfl)⟩⟩,⟨⟨rfl,hr37⟩,⟨rfl,hr38⟩,⟨rfl,hr39⟩,⟨rfl,hr40⟩,⟨⟨rfl,hr41⟩,⟨rfl,hr42⟩,⟨rfl,hr43⟩,⟨rfl,hr44⟩⟩⟩⟩,rfl⟩ (fun bv=>?_) Tryd.zeroValue84 Tryd.sizeOf84
    refine X4 (A.mb 18 65535) l2d ?_;refine X0 16 ?_;have⟨hl48,o⟩:=Yv o;refine Yp (k:=3600) [] (A.rowO (k:=7742) rfl) inf84 hl48 fun ar au=>?_;refine X4 (A.mb 18 131071) l2d ?_;refine X8 X5 l2d [0,1,2,3,4,5,3600,6676,6677,6678,7701,7742] [] [] (A.mb 18 262143) 0 [(17,.n)] [(5,.slice ar ((a5++[((u.1,E),(u.1,2),y)]).length) au)] (X3 ?_);refine A.el 2 ?_;have⟨av,o⟩:=Yv o;refine Y8 2 [Z.R64 (E+1)] [(31,A.i (E+1))] av (Xp ?_);exact Yd ⟨_,Qg _,⟨(a5++[((u.1,E),(u.1,2),y)]),(E+1),ar,au,rfl,rfl,(Xv av),o⟩⟩
   refine Y6 2 ?_;refine Xz [0,3,5,7,8,16,17,18] l2b (fun nl nh=>∃(O:Int),∃(U:Int),∃(V:Int),∃(W:Int),∃(Y:Int),∃(a2:Int),∃(a3:Int),∃(a4:Int),∃(aj:Nat),nl=[(11,.pointer (some ⟨aj,0,none⟩))]∧nh=[(8073,.blk aj 82 [A.i O,A.i U,A.i V,A.i W,A.i Y,A.i a2,A.i a3,A.i a4])]∧A.h6 O∧A.h6 U∧A.h6 V∧A.h6 W∧A.h6 Y∧A.h6 a2∧A.h6 a3∧A.h6 a4∧F.aI (F.g J B f7) B L u a5 O U V W Y a2 a3 a4=some r) ?_ ?_
   ·refine Yi mixed 14 14 (A.mb 14 0) ?_;refine X8 X5 [] l2b [6677,0] [] (A.mb 14 63) 8 [(0,.n),(4,.n),(1,.n),(5,.b 0 0),(2,.n),(3,.b 1 2)] [(60,A.i u.1),(58,.map (some b4_))] ?_;obtain⟨aw,ax,o⟩:=X7 o;refine A.okm (t:=A.ti) 3 u.1 (z:=(0:Int)) (zs:=l2n) ⟨rfl,by decide⟩ ax fun ay=>?_;refine Yu X5 l2b l2b 6 (A.mb 14 127) rfl (fun a w hf hh=>A.r_lkf (t:=A.ti) (ok:=false) (z:=(0:Int)) (zs:=l2n) 3 ky3 u.1 Tryd.zeroValue3 ⟨rfl,by decide⟩ ax rfl hf hh) ?_;refine A.AH.two 7 11 ?_ ?_
    ·refine Yo 7953 [] o (o_s aw ay) .nil ?_;rintro x bw o _ _ ⟨rfl,rfl,hr513,hr514,hr515,hr516,hr517,hr518,hr519,hr520,hr521⟩;refine X6 ?_;refine X4 (A.mb 14 255) l2b ?_;refine X8 X5 l2b l2b [] [] (A.mb 14 2047) 3 [(8,.n),(9,.n),(10,.n)] [(63,(A.rad x.1)),(64,A.i x.2)] ?_;refine X0 11 ?_;refine Xr 8073 (cs:=l2c) Tryd.zeroValue82 fun ak=>?_;refine X4 (A.mb 14 4095) l2b ?_;refine X0 12 ?_;refine Ya 8073 [] (A.rab x.1) ?_;refine X4 (A.mb 14 8191) l2b ?_;refine X8 X5 l2b l2l [] [] (A.mb 14 16383) 0 [(13,.n)] [] (X3 ?_);exact Yd ⟨x.1.1,x.1.2.1,x.1.2.2.1,x.1.2.2.2.1,x.1.2.2.2.2.1,x.1.2.2.2.2.2.1,x.1.2.2.2.2.2.2.1,x.1.2.2.2.2.2.2.2,ak,rfl,rfl,hr513,hr514,hr515,hr516,hr517,hr518,hr519,hr520,o⟩
    refine Xr 8073 (cs:=l2c) Tryd.zeroValue82 fun ak=>?_;refine X4 (A.mb 14 2175) l2b ?_;refine X0 7 ?_;refine Yo 7953 [] o (o_s aw ay) .nil ?_;rintro x - o _ _ ⟨rfl,rfl,hr513,hr514,hr515,hr516,hr517,hr518,hr519,hr520,hr521⟩;refine X6 ?_;refine X4 (A.mb 14 2303) l2b ?_;refine X8 X5 l2b l2b [] [] (A.mb 14 4095) 2 [(8,.n),(9,.n),(10,.n)] [(63,(A.rad x.1)),(64,A.i x.2)] ?_;refine X0 12 ?_;refine Ya 8073 [] (A.rab x.1) ?_;refine X4 (A.mb 14 8191) l2b ?_;refine X8 X5 l2b l2l [] [] (A.mb 14 16383) 0 [(13,.n)] [] (X3 ?_);exact Yd ⟨x.1.1,x.1.2.1,x.1.2.2.1,x.1.2.2.2.1,x.1.2.2.2.2.1,x.1.2.2.2.2.2.1,x.1.2.2.2.2.2.2.1,x.1.2.2.2.2.2.2.2,ak,rfl,rfl,hr513,hr514,hr515,hr516,hr517,hr518,hr519,hr520,o⟩
   rintro _ _ ⟨O,U,V,W,Y,a2,a3,a4,aj,rfl,rfl,bc,bd,be,bf,bg,bh,bi,bj,o⟩;rw[F.aI]at o;refine Xn 1 ?_;refine Xq [5,6677] [] [.b 0 0,.n,.b 1 0] [(65,.agg #[.slice A5_ B.length c6_]),(67,A.i u.1)] ?_;refine Yo 8163 [] o (o_aj A5_ c6_ B u.1 N.1) (.s 4 .nil) ?_;rintro al - o _ _ ⟨bx,bz,rfl,rfl⟩;refine X6 ?_;refine Xt 2 [(69,A.i (al.length:Int)),(70,A.i 0)] (Xo 2 ?_);refine Yf [0,3,8,11,16,17,18,68,69] [0,1,2,3,4,5,6678,8073,8163] (fun f nl nh=>∃(a7:List D83),∃(a8:Int),∃(ag:Option Addr),∃(ah:Nat),nl=[(5,.slice ag a7.length ah),(70,A.i a8)]∧nh=[(3600,.own T83 84 ag ah a7)]∧A.h6 a8∧F.ap (F.g J B f7) L u O U V W Y a2 a3 a4 al f a7 a8=some r) ⟨a5,0,ad,ae,rfl,rfl,Xy,o⟩ ?_;rintro az _ _ ⟨a7,a8,ag,ah,rfl,rfl,c0,o⟩;rcases az with _|az
   ·exact Yc o
   rw[F.ap]at o;refine Xn 1 ?_;refine Xt 1 [(71,.bool (decide (a8<(al.length:Int))))] (Xo 2 ?_);refine Yn o ?_ ?_<;>intro hb o
   ·refine Xn 5 ?_;have⟨a6,bk,o⟩:=Yz o;refine Y3 8163 8209 bk fun b0=>?_;intro c1 c2;refine Xq [] [8209] [.e 0 0] [(73,(A.rac a6))] ?_;refine Xr 8210 (cs:=l2p) Tryd.zeroValue74 fun c4=>?_;refine Ya 8210 [] (A.raa a6) ?_;refine Xw 1 ?_;refine Xq [6678,8210,8073] [] [.n,.b 0 0,.b 1 0,.b 2 0,.n] [(74,.slice ag a7.length ah),(78,.agg #[A.i u.1,A.i 2,A.i a6.1,A.i a6.2,A.i O,A.i U,A.i V,A.i W,A.i Y,A.i a2,A.i a3,A.i a4])] ?_;refine X9 8211 (ty:=T83) (cs:=[A.i u.1,A.i 2,A.i a6.1,A.i a6.2,A.i O,A.i U,A.i V,A.i W,A.i Y,A.i a2,A.i a3,A.i a4]) [((u.1,2),a6,(O,U,V,W,(Y,a2,a3,a4)))] ⟨⟨⟨⟨rfl,N.1⟩,⟨rfl,(Xu .i64 (2) rfl)⟩⟩,⟨⟨rfl,b0.1⟩,⟨rfl,b0.2⟩⟩,⟨⟨rfl,bc⟩,⟨rfl,bd⟩,⟨rfl,be⟩,⟨rfl,bf⟩,⟨⟨rfl,bg⟩,⟨rfl,bh⟩,⟨rfl,bi⟩,⟨rfl,bj⟩⟩⟩⟩,rfl⟩ (fun c5=>?_) Tryd.zeroValue84 Tryd.sizeOf84
    have⟨hl86,o⟩:=Yv o;refine Yp (k:=3600) [] (A.rowO (k:=8211) rfl) inf84 hl86 fun b1 b2=>?_;refine Xt 1 [(5,.slice b1 ((a7++[((u.1,2),a6,(O,U,V,W,(Y,a2,a3,a4)))]).length) b2)] (Xw 2 ?_);have⟨b3,o⟩:=Yv o;refine Y8 2 [Z.R64 (a8+1)] [(70,A.i (a8+1))] b3 (Xp ?_);exact Yd ⟨_,Qg _,⟨(a7++[((u.1,2),a6,(O,U,V,W,(Y,a2,a3,a4)))]),(a8+1),b1,b2,rfl,rfl,(Xv b3),o⟩⟩
   refine Yt 2 ?_;exact Yd ⟨a7,ag,ah,rfl,rfl,o⟩
  rintro _ _ ⟨aa,A8,c9,rfl,rfl,o⟩;rw[F.ao]at o;refine Xn 0 ?_;have⟨b4,o⟩:=Yv o;refine Y8 2 [Z.R64 (L+1)] [(18,A.i (L+1))] b4 (Xp ?_);exact Yd ⟨_,Qg _,⟨aa,(L+1),A8,c9,rfl,rfl,(Xv b4),o⟩⟩
 refine Xn 3 ?_;refine Xt 2 [(4,.slice A2 a9.length c3)] (Xo 1 ?_);obtain rfl:=Xx o;exact X1 [(0,3600),(1,0),(2,1),(3,2),(4,3)] ⟨A2,c3,rfl,rfl⟩
def F.ab (o:(List (D73×Bool))→(List D73)→Int→Option Bool)(k:Int)(s:List (D73×Bool))(u:List D73):Option Bool:=A.gd (Z.R64 (k+1)) (o s u (k+1))
def F.ac (s:(List (D73×Bool))→(List D73)→Int→Option Bool)(u:List (D73×Bool))(k:List D73)(x:Int)(o:D73)(y:Bool):Option Bool:=if y=true then(A.gd ((List.length (α:=D73) k+List.length (α:=D73) [o])*16≤140737488355328) (F.ab s x (Z.mins u o true) (k++[o])))else(F.ab s x u k)
def F.k (y:(List (D73×Bool))→(List D73)→Option Bool)(z:(List (D73×Int)))(B:D73)(E:Int)(s:(List D73)):Nat→(List (D73×Bool))→(List D73)→Int→Option Bool
 |0,_,_,_=>none
 |f+1,u,J,x=>if x<(s.length:Int)then((A.ix s x).bind fun o=>(if o=B then(some true)else(A.lt (Z.mget (0:Int) z o) fun L=>(if E≤L then(A.lt (Z.mget (false:Bool) u o) fun N=>(F.ac (F.k y z B E s f) u J x o (!N)))else(F.ac (F.k y z B E s f) u J x o false)))))else(y u J)
def F.aB (s:(List (D73×Bool))→(List D73)→Option Bool)(y:(List (D73×(List D73))))(z:(List (D73×Int)))(B:D73)(u:Int)(x:List (D73×Bool))(o:List D73)(E:D73)(O:List Int)(U:Int)(J:Int)(V:Int)(W:Int)(Y:ByteArray)(a0:ByteArray)(a5:Int)(L:Int):Option Bool:=if(bif decide (J=14)then decide (L=u)else false)=true then(s x (List.take (((o.length:Int)-1).toNat) o))else(A.lt (Z.mget ([]:(List D73)) y E) fun N=>(F.k s z B u N A.FU x (List.take (((o.length:Int)-1).toNat) o) 0))
def F.h (s:((List (Int×D32))×(List Int)×(List (Int×Int))))(u:(List (D73×(List D73))))(x:(List (D73×Int)))(y:D73)(z:Int):Nat→(List (D73×Bool))→(List D73)→Option Bool
 |0,_,_=>none
 |f+1,E,k=>if(0:Int)<(k.length:Int)then(A.gd (Z.R64 ((k.length:Int)-1)) ((A.ix k ((k.length:Int)-1)).bind fun B=>(A.gd (Z.R64 ((k.length:Int)-1)) (A.gd (0≤(k.length:Int)-1∧((k.length:Int)-1).toNat≤k.length) (A.lt (Z.mget ((0,0,[],(0,0,(ByteArray.mk #[])),(ByteArray.mk #[]),0,0):D32) s.1 B.1) fun o=>(F.aB (F.h s u x y z f) u x y z E k B o.2.2.1 o.1 o.2.1 o.2.2.2.1.1 o.2.2.2.1.2.1 o.2.2.2.1.2.2 o.2.2.2.2.1 o.2.2.2.2.2.1 o.2.2.2.2.2.2))))))else(some false)
def F.aL (o:((List (Int×D32))×(List Int)×(List (Int×Int))))(s:(List (D73×(List D73))))(u:(List (D73×Int)))(k:D73)(x:Int):Option Bool:=F.h o s u k x A.FU [] [k]
theorem o_q(N:((List (Int×D32))×(List Int)×(List (Int×Int))))(a1:(List (D73×(List D73))))(U:(List (D73×Int)))(B:D73)(O:Int)(b9:A.h6 B.1)(bb:A.h6 B.2)(bk:A.h6 O)(r:Bool)(o:F.aL N a1 U B O=some r):
    A.Ct Tryd.prog 38 [.pointer (some ⟨g0_,0,none⟩),.map (some b5_),.map (some b6_),(A.rac B),A.i O] [(0,.blk g0_ 53 [.map (some b1_),.slice A2_ N.2.1.length c3_,.map (some b4_)]),(1,.mp Int (fun i:Int=>A.i i) T32 true b1_ N.1),(2,.own A.ti 3 A2_ c3_ N.2.1),(3,.mp Int (fun i:Int=>A.i i) A.ti false b4_ N.2.2),(4,.lmp D73 (fun x:D73=>(A.rac x)) (Z.Ty.slice T73) false b5_ a1),(5,.lmp D73 (fun x:D73=>(A.rac x)) A.ti false b6_ U)] ([g0_]++([b1_]++(Z.obl A2_++([b4_]++[])))) (fun v H'=>v=.bool r∧H'=[(0,.blk g0_ 53 [.map (some b1_),.slice A2_ N.2.1.length c3_,.map (some b4_)]),(1,.mp Int (fun i:Int=>A.i i) T32 true b1_ N.1),(2,.own A.ti 3 A2_ c3_ N.2.1),(3,.mp Int (fun i:Int=>A.i i) A.ti false b4_ N.2.2)]):=by
 refine Xs Tryd.func38 rfl Tryd.ntmps38 rfl fun w0 F0=>?_;rw[F.aL]at o;refine Xn 1 ?_;refine X2 6 (cs:=(A.raa B)) fun g1=>?_;refine Xt 1 [] (Xw 2 ?_);refine A.AL.mkm 7 D73 (fun x:D73=>(A.rac x)) Z.Ty.bool false fun b2=>?_;refine Xt 1 [(11,.map (some b2))] (Xw 2 ?_);refine Xq [6] [] [.b 0 0] [(18,(A.rac B))] ?_;refine X9 8 (ty:=T73) (cs:=(A.raa B)) [B] ⟨⟨⟨rfl,b9⟩,⟨rfl,bb⟩⟩,rfl⟩ (fun g3=>?_) Tryd.zeroValue74 Tryd.sizeOf74
 refine Xt 1 [(12,.slice (some ⟨g3,0,none⟩) 1 1)] (Xo 3 ?_);refine Yf [0,1,2,4,8,11] l2e (fun f Y nh=>∃(m4:List (D73×Bool)),∃(E:List D73),∃(A5:Option Addr),∃(c6:Nat),Y=[(12,.slice A5 E.length c6)]∧nh=[(7,.mp D73 (fun x:D73=>(A.rac x)) Z.Ty.bool false b2 m4),(8,.own T73 74 A5 c6 E)]∧F.h N a1 U B O f m4 E=some r) ⟨[],[B],(some ⟨g3,0,none⟩),1,rfl,rfl,o⟩ ?_;rintro f8 _ _ ⟨m4,E,A5,c6,rfl,rfl,o⟩;rcases f8 with _|f8
 ·exact Yc o
 rw[F.h]at o;refine Xn 2 ?_;refine Xt 3 [(22,.bool (decide ((0:Int)<(E.length:Int))))] (Xo 1 ?_);refine Yn o ?_ ?_<;>intro hb o
 ·refine Xn 4 ?_;have⟨bc,o⟩:=Yv o;refine Y8 4 [Z.R64 ((E.length:Int)-1)] [(23,.slice A5 E.length c6),(26,A.i ((E.length:Int)-1))] bc ?_;have⟨a5,bd,o⟩:=Yz o;refine Y3 8 587 bd fun bl=>?_;intro bm bp;refine Xq [] [587] [.e 0 0] [(28,(A.rac a5))] ?_;refine Xr 588 (cs:=l2p) Tryd.zeroValue74 fun bq=>?_;refine Ya 588 [] (A.raa a5) ?_;refine Xw 2 ?_;have⟨be,o⟩:=Yv o;refine Y8 4 [Z.R64 ((E.length:Int)-1)] [(29,.slice A5 E.length c6),(32,A.i ((E.length:Int)-1))] be ?_;have⟨b1,o⟩:=Yv o;refine A.AL.cuto 8 [587] (v:=((E.length:Int)-1).toNat) (Int.toNat_of_nonneg b1.1).symm b1.2 ?_;refine Xt 1 [(12,.slice A5 ((List.take (((E.length:Int)-1).toNat) E).length) c6)] (Xo 2 ?_);refine Xz [0,1,2,4,8,11,12,13] l2i (fun Y nh=>∃(a9:List Int),∃(aj:Int),∃(aa:Int),∃(ak:Int),∃(al:Int),∃(am:ByteArray),∃(an:ByteArray),∃(ao:Int),∃(ad:Int),∃(av:Option Addr),∃(aw:Nat),∃(ax:Nat),Y=[(14,.pointer (some ⟨ax,0,none⟩))]∧nh=[(770,.sh A.TI [.slice av a9.length aw] a9),(800,.blk ax 33 [A.i aj,A.i aa,.slice av a9.length aw,A.i ak,A.i al,.string am,.string an,A.i ao,A.i ad])]∧A.h6 aj∧A.h6 aa∧A.h6 ak∧A.h6 al∧am.size≤maxLen∧an.size≤maxLen∧A.h6 ao∧A.h6 ad∧F.aB (F.h N a1 U B O f8) a1 U B O m4 E a5 a9 aj aa ak al am an ao ad=some r) ?_ ?_
  ·refine Yi mixed 8 9 (A.mb 9 0) ?_;refine X8 X5 [] l2i [588,0] [] (A.mb 9 63) 3 [(0,.n),(4,.n),(1,.n),(5,.b 0 0),(2,.n),(3,.b 1 0)] [(39,A.i a5.1),(37,.map (some b1_))] ?_;refine A.AH.two 6 7 ?_ ?_
   ·obtain⟨s,ay,o⟩:=X7 o;refine Yw (t:=T32) 1 770 (z:=((0,0,[],(0,0,(ByteArray.mk #[])),(ByteArray.mk #[]),0,0):D32)) (zs:=l2a) ky3 a5.1 Tryd.zeroValue33 ⟨⟨rfl,by decide⟩,⟨rfl,by decide⟩,(.inr ⟨rfl,rfl⟩),⟨⟨rfl,by decide⟩,⟨rfl,by decide⟩,⟨rfl,by decide⟩⟩,⟨rfl,by decide⟩,⟨rfl,by decide⟩,⟨rfl,by decide⟩⟩ ay fun J=>?_;intro ae ag;refine X4 (A.mb 9 127) l2i ?_;refine X0 7 ?_;refine Xr 800 (cs:=l2a) Tryd.zeroValue33 fun az=>?_;refine X4 (A.mb 9 255) l2i ?_;refine X0 8 ?_;refine Ya 800 [] [A.i s.1,A.i s.2.1,.slice ae s.2.2.1.length ag,A.i s.2.2.2.1.1,A.i s.2.2.2.1.2.1,.string s.2.2.2.1.2.2,.string s.2.2.2.2.1,A.i s.2.2.2.2.2.1,A.i s.2.2.2.2.2.2] ?_;refine A.AH.nm (A.mb 9 511) ?_;refine X3 ?_;exact Yd ⟨s.2.2.1,s.1,s.2.1,s.2.2.2.1.1,s.2.2.2.1.2.1,s.2.2.2.1.2.2,s.2.2.2.2.1,s.2.2.2.2.2.1,s.2.2.2.2.2.2,ae,ag,az,rfl,rfl,J.1,J.2.1,J.2.2.2.1.1,J.2.2.2.1.2.1,J.2.2.2.1.2.2,J.2.2.2.2.1,J.2.2.2.2.2.1,J.2.2.2.2.2.2,o⟩
   refine Xr 800 (cs:=l2a) Tryd.zeroValue33 fun az=>?_;refine X4 (A.mb 9 191) l2i ?_;refine X0 6 ?_;obtain⟨s,ay,o⟩:=X7 o;refine Yw (t:=T32) 1 770 (z:=((0,0,[],(0,0,(ByteArray.mk #[])),(ByteArray.mk #[]),0,0):D32)) (zs:=l2a) ky3 a5.1 Tryd.zeroValue33 ⟨⟨rfl,by decide⟩,⟨rfl,by decide⟩,(.inr ⟨rfl,rfl⟩),⟨⟨rfl,by decide⟩,⟨rfl,by decide⟩,⟨rfl,by decide⟩⟩,⟨rfl,by decide⟩,⟨rfl,by decide⟩,⟨rfl,by decide⟩⟩ ay fun J=>?_;intro ae ag;refine X4 (A.mb 9 255) l2i ?_;refine X0 8 ?_;refine Ya 800 [] [A.i s.1,A.i s.2.1,.slice ae s.2.2.1.length ag,A.i s.2.2.2.1.1,A.i s.2.2.2.1.2.1,.string s.2.2.2.1.2.2,.string s.2.2.2.2.1,A.i s.2.2.2.2.2.1,A.i s.2.2.2.2.2.2] ?_;refine A.AH.nm (A.mb 9 511) ?_;refine X3 ?_;exact Yd ⟨s.2.2.1,s.1,s.2.1,s.2.2.2.1.1,s.2.2.2.1.2.1,s.2.2.2.1.2.2,s.2.2.2.2.1,s.2.2.2.2.2.1,s.2.2.2.2.2.2,ae,ag,az,rfl,rfl,J.1,J.2.1,J.2.2.2.1.1,J.2.2.2.1.2.1,J.2.2.2.1.2.2,J.2.2.2.2.1,J.2.2.2.2.2.1,J.2.2.2.2.2.2,o⟩
  rintro _ _ ⟨a9,aj,aa,ak,al,am,an,ao,ad,av,aw,ax,rfl,rfl,br,bs,bt,bu,bv,bw,bx,bz,o⟩;rw[F.aB]at o;refine Xn 1 ?_;refine Xq [800] [] [.n,.b 0 1,.n,.n,.sy .n,.sy (.b 0 8),.sy .n,.sy .n,.pk] [(49,.bool (bif decide (aa=14)then decide (ad=O)else false))] (Xo 1 ?_);refine Y7 o ?_ ?_<;>intro hb o
  ·refine Yt 1 ?_;exact Yd ⟨_,Qg _,⟨m4,(List.take (((E.length:Int)-1).toNat) E),A5,c6,rfl,rfl,o⟩⟩
  refine Xn 3 ?_;refine Xq [588] [] [.n,.b 0 0] [(50,.map (some b5_)),(51,(A.rac a5))] ?_;obtain⟨ah,bf,o⟩:=X7 o;refine Yw (t:=(Z.Ty.slice T73)) 4 860 (z:=([]:(List D73))) (zs:=[.slice none 0 0]) ky74 a5 Tryd.zeroValue85 (.inr ⟨rfl,rfl⟩) bf fun c0=>?_;intro c1 c2;refine Xt 2 [(53,A.i (ah.length:Int)),(54,A.i 0)] (Xo 2 ?_);refine Yf [0,1,2,4,8,11,52,53] [0,1,2,3,4,5,6,860] (fun f Y nh=>∃(a6:List (D73×Bool)),∃(V:List D73),∃(W:Int),∃(a7:Option Addr),∃(a8:Nat),Y=[(12,.slice a7 V.length a8),(54,A.i W)]∧nh=[(7,.mp D73 (fun x:D73=>(A.rac x)) Z.Ty.bool false b2 a6),(8,.own T73 74 a7 a8 V)]∧A.h6 W∧F.k (F.h N a1 U B O f8) U B O ah f a6 V W=some r) ⟨m4,(List.take (((E.length:Int)-1).toNat) E),0,A5,c6,rfl,rfl,Xy,o⟩ ?_;rintro ap _ _ ⟨a6,V,W,a7,a8,rfl,rfl,c3,o⟩;rcases ap with _|ap
  ·exact Yc o
  rw[F.k]at o;refine Xn 1 ?_;refine Xt 1 [(55,.bool (decide (W<(ah.length:Int))))] (Xo 2 ?_);refine Yn o ?_ ?_<;>intro hb o
  ·refine Y6 2 ?_;refine Xz [0,1,2,4,8,11,52,53,54] [0,1,2,3,4,5,6,860] (fun Y nh=>∃(aq:List (D73×Bool)),∃(ai:List D73),∃(ar:Option Addr),∃(au:Nat),Y=[(12,.slice ar ai.length au)]∧nh=[(7,.mp D73 (fun x:D73=>(A.rac x)) Z.Ty.bool false b2 aq),(8,.own T73 74 ar au ai)]∧F.ab (F.k (F.h N a1 U B O f8) U B O ah ap) W aq ai=some r) ?_ ?_
   ·refine Xn 2 ?_;have⟨L,bg,o⟩:=Yz o;refine Yh 860 871 bg fun b3=>?_;intro c4 c5;refine Xq [] [871] [.e 0 0] [(57,(A.rac L))] ?_;refine Xr 872 (cs:=l2p) Tryd.zeroValue74 fun c7=>?_;refine Ya 872 [] (A.raa L) ?_;refine Xw 3 ?_;refine Xq [872,6] [] [.b 0 0,.b 1 0] [(58,(A.rac L)),(59,(A.rac B))] ?_;refine Yr rfl (fun a w hf hh=>eqagg_eql74 (x:=L) (y:=B) (hf.eval rfl) (hf.eval rfl)) ?_;refine Xo 1 ?_;refine Yn o ?_ ?_<;>intro hb o
    ·refine Xn 1 ?_;refine Xt 1 [(10,.bool true)] (Xo 1 ?_);obtain rfl:=Xx o;exact X1 [(0,0),(1,1),(2,2),(3,3)] ⟨rfl,rfl⟩
    refine Y6 2 ?_;refine Xz [0,1,2,4,8,11,12,16,52,53,54] [0,1,2,3,4,5,6,7,8,860,872] (fun Y nh=>∃(b0:Bool),Y=[(71,.bool b0)]∧nh=[]∧F.ac (F.k (F.h N a1 U B O f8) U B O ah ap) a6 V W L b0=some r) ?_ ?_
    ·refine Xn 0 ?_;refine Xq [872] [] [.n,.b 0 0] [(61,.map (some b6_)),(62,(A.rac L))] ?_;obtain⟨bh,bi,o⟩:=X7 o;refine Yw (t:=A.ti) 5 873 (z:=(0:Int)) (zs:=l2n) ky74 L Tryd.zeroValue3 ⟨rfl,by decide⟩ bi fun c8=>?_;refine Xt 3 [(66,.bool (decide (O≤bh)))] ?_;refine A.AL.cnp (j:=66) rfl o ?_ ?_<;>intro hb o
     ·refine Xq [872] [] [.on .n,.on (.b 0 0)] [(67,.map (some b2)),(68,(A.rac L))] ?_;refine Ye (dj:=66) rfl rfl ?_;obtain⟨b4,bj,o⟩:=X7 o;refine Yw (t:=Z.Ty.bool) 7 874 (z:=(false:Bool)) (zs:=[.bool false]) ky74 L Tryd.zeroValue4 rfl bj fun c9=>?_;refine Xq [] [] [.on .n,.n] [(71,.bool (!b4))] (Xp ?_);exact Yd ⟨(!b4),rfl,rfl,o⟩
     refine Xq [] [] [.off,.off,.off,.off,.n] [(71,.bool false)] (Xp ?_);exact Yd ⟨false,rfl,rfl,o⟩
    rintro _ _ ⟨b0,rfl,rfl,o⟩;rw[F.ac]at o;refine Y7 o ?_ ?_<;>intro hb o
    ·refine Xn 1 ?_;refine Xq [872] [] [.n,.b 0 0] [(72,.map (some b2)),(73,(A.rac L))] ?_;refine A.AL.mup (t:=Z.Ty.bool) 7 [] (cs:=[.bool true]) (u:=true) ky74 L rfl ?_;refine Xw 1 ?_;refine Xq [872] [] [.n,.b 0 0] [(74,.slice a7 V.length a8),(75,(A.rac L))] ?_;refine X9 875 (ty:=T73) (cs:=(A.raa L)) [L] ⟨⟨⟨rfl,b3.1⟩,⟨rfl,b3.2⟩⟩,rfl⟩ (fun ca=>?_) Tryd.zeroValue74 Tryd.sizeOf74
     have⟨hl68,o⟩:=Yv o;refine Yp (k:=8) [] (A.rowO (k:=875) rfl) inf74 hl68 fun b5 b6=>?_;refine Xt 1 [(12,.slice b5 ((V++[L]).length) b6)] (A.de 1 ?_);exact Yd ⟨(Z.mins a6 L true),(V++[L]),b5,b6,rfl,rfl,o⟩
    refine Yt 2 ?_;exact Yd ⟨a6,V,a7,a8,rfl,rfl,o⟩
   rintro _ _ ⟨aq,ai,ar,au,rfl,rfl,o⟩;rw[F.ab]at o;refine Xn 0 ?_;have⟨b7,o⟩:=Yv o;refine Y8 2 [Z.R64 (W+1)] [(54,A.i (W+1))] b7 (Xp ?_);exact Yd ⟨_,Qg _,⟨aq,ai,(W+1),ar,au,rfl,rfl,(Xv b7),o⟩⟩
  refine Yt 2 ?_;exact Yd ⟨_,Qg _,⟨a6,V,a7,a8,rfl,rfl,o⟩⟩
 refine Xn 3 ?_;refine Xt 1 [(10,.bool false)] (Xo 1 ?_);obtain rfl:=Xx o;exact X1 [(0,0),(1,1),(2,2),(3,3)] ⟨rfl,rfl⟩
def F.aJ (o:((List (Int×D32))×(List Int)×(List (Int×Int))))(s:List (D73×Int))(u:List (D73×(List D73)))(k:D73×Int):Option (Option Bool):=A.gd (decide (A.h6 k.1.1)=true∧decide (A.h6 k.1.2)=true) ((F.aL o u s k.1 k.2).bind fun x=>(if x=true then(some (some true))else(some none)))
def F.ar (y:((List (Int×D32))×(List Int)×(List (Int×Int))))(u:List (D73×Int))(x:(List D83)):Nat→(List (D73×(List D73)))→Int→Option Bool
 |0,_,_=>none
 |f+1,o,s=>if s<(x.length:Int)then((A.ix x s).bind fun k=>(A.gd (((Z.mget ([]:List D73) o k.1).length+List.length (α:=D73) [k.2.1])*16≤140737488355328) (A.gd (Z.R64 (s+1)) ((F.ar y u x f) (Z.mins o k.1 (Z.mget ([]:List D73) o k.1++[k.2.1])) (s+1)))))else(A.mrg (F.aJ y u o) (some false) u)
def F.au (o:((List (Int×D32))×(List Int)×(List (Int×Int))))(u:D23)(s:(List D75)):Nat→(List (D73×Int))→Int→Option Bool
 |0,_,_=>none
 |f+1,x,k=>if k<(s.length:Int)then((A.ix s k).bind fun y=>(A.gd (Z.R64 (k+1)) ((F.au o u s f) (Z.mins x y.1 y.2) (k+1))))else((F.a0 o u).bind fun z=>(F.ar o x z A.FU [] 0))
def F.a1 (k:((List (Int×D32))×(List Int)×(List (Int×Int))))(o:D23):Option Bool:=(F.aZ k o).bind fun s=>(F.au k o s A.FU [] 0)
theorem o_w(y:((List (Int×D32))×(List Int)×(List (Int×Int))))(J:D23)(r:Bool)(k:F.a1 y J=some r):
    A.Ct Tryd.prog 27 [.pointer (some ⟨g0_,0,none⟩),.agg #[.slice A5_ J.length c6_]] [(0,.blk g0_ 53 [.map (some b1_),.slice A2_ y.2.1.length c3_,.map (some b4_)]),(1,.mp Int (fun i:Int=>A.i i) T32 true b1_ y.1),(2,.own A.ti 3 A2_ c3_ y.2.1),(3,.mp Int (fun i:Int=>A.i i) A.ti false b4_ y.2.2),(4,.sh (.slice T32) [.slice A5_ J.length c6_] J)] ([g0_]++([b1_]++(Z.obl A2_++([b4_]++[])))) (fun v H'=>v=.bool r∧H'=[(0,.blk g0_ 53 [.map (some b1_),.slice A2_ y.2.1.length c3_,.map (some b4_)]),(1,.mp Int (fun i:Int=>A.i i) T32 true b1_ y.1),(2,.own A.ti 3 A2_ c3_ y.2.1),(3,.mp Int (fun i:Int=>A.i i) A.ti false b4_ y.2.2)]):=by
 refine Xs Tryd.func27 rfl Tryd.ntmps27 rfl fun w0 F0=>?_;rw[F.a1]at k;refine Xn 1 ?_;refine X2 5 (cs:=[.slice A5_ J.length c6_]) fun g1=>?_;refine Xt 1 [] (Xw 2 ?_);refine A.AL.mkm 6 D73 (fun x:D73=>(A.rac x)) A.ti false fun L=>?_;refine Xt 1 [(5,.map (some L))] (Xw 3 ?_);refine Xq [5] [] [.n,.b 0 0] [(14,.pointer (some ⟨g0_,0,none⟩)),(15,.agg #[.slice A5_ J.length c6_])] ?_;refine Yo 7 [] k (o_u A2_ A5_ g0_ b1_ c3_ b4_ c6_ y J) (.m 0 (.m 1 (.m 2 (.m 3 (.s 4 .nil))))) ?_;rintro r3 - k _ _ ⟨A5,c6,rfl,rfl⟩;refine X6 ?_;refine Yk 8 0 [] ?_;refine Yk 9 1 [] ?_;refine Yk 10 2 [] ?_;refine Yk 11 3 [] ?_;refine Xt 2 [(17,A.i (r3.length:Int)),(18,A.i 0)] (Xo 2 ?_);refine Yf [0,3,5,16,17] [0,1,2,3,4,5,7] (fun f V W=>∃(z:List (D73×Int)),∃(N:Int),V=[(18,A.i N)]∧W=[(6,.mp D73 (fun x:D73=>(A.rac x)) A.ti false L z)]∧A.h6 N∧F.au y J r3 f z N=some r) ⟨[],0,rfl,rfl,Xy,k⟩ ?_;rintro a4 _ _ ⟨z,N,rfl,rfl,ai,k⟩;rcases a4 with _|a4
 ·exact Yc k
 rw[F.au]at k;refine Xn 1 ?_;refine Xt 1 [(19,.bool (decide (N<(r3.length:Int))))] (Xo 2 ?_);refine Yn k ?_ ?_<;>intro hb k
 ·refine Xn 5 ?_;have⟨B,a9,k⟩:=Yz k;refine Y3 7 409 a9 fun aa=>?_;intro aj ak;refine Xq [] [409] [.e 0 0] [(21,.agg #[A.i B.1.1,A.i B.1.2,A.i B.2])] ?_;refine Xr 410 (cs:=[A.i 0,A.i 0,A.i 0]) Tryd.zeroValue76 fun al=>?_;refine Ya 410 [] [A.i B.1.1,A.i B.1.2,A.i B.2] ?_;refine Xw 1 ?_;refine Xq [410] [] [.n,.n,.b 0 0,.n,.b 0 2] [(22,.map (some L)),(24,(A.rac B.1)),(26,A.i B.2)] ?_;refine A.AL.mup (t:=A.ti) 6 [] (cs:=[A.i B.2]) (u:=B.2) ky74 B.1 ⟨rfl,aa.2⟩ ?_;refine Xw 2 ?_;have⟨a5,k⟩:=Yv k;refine Y8 2 [Z.R64 (N+1)] [(18,A.i (N+1))] a5 (Xp ?_);exact Yd ⟨_,Qg _,⟨(Z.mins z B.1 B.2),(N+1),rfl,rfl,(Xv a5),k⟩⟩
 refine Xn 3 ?_;refine A.AL.mkmr 411 D73 (fun x:D73=>(A.rac x)) T73 74 fun Y=>?_;refine Xt 1 [(8,.map (some Y))] (Xw 3 ?_);refine Xq [5] [] [.n,.b 0 0] [(29,.pointer (some ⟨g0_,0,none⟩)),(30,.agg #[.slice A5_ J.length c6_])] ?_;refine Yo 412 [] k (o_v A2_ A5_ g0_ b1_ c3_ b4_ c6_ y J) (.m 0 (.m 1 (.m 2 (.m 3 (.s 4 .nil))))) ?_;rintro a2 - k _ _ ⟨am,an,rfl,rfl⟩;refine X6 ?_;refine Yk 413 0 [] ?_;refine Yk 414 1 [] ?_;refine Yk 415 2 [] ?_;refine Yk 416 3 [] ?_;refine Xt 2 [(32,A.i (a2.length:Int)),(33,A.i 0)] (Xo 2 ?_);refine Yf [0,5,8,31,32] [0,1,2,3,6,412] (fun f V W=>∃(U:List (D73×(List D73))),∃(O:Int),∃(As23:List (Option Addr×Nat)),V=[(33,A.i O)]∧W=[(411,.mr D73 (fun x:D73=>(A.rac x)) T73 74 Y As23 U)]∧A.h6 O∧F.ar y z a2 f U O=some r) ⟨[],0,[],rfl,rfl,Xy,k⟩ ?_;rintro a6 _ _ ⟨U,O,As23,rfl,rfl,ao,k⟩;rcases a6 with _|a6
 ·exact Yc k
 rw[F.ar]at k;refine Xn 1 ?_;refine Xt 1 [(34,.bool (decide (O<(a2.length:Int))))] (Xo 2 ?_);refine Yn k ?_ ?_<;>intro hb k
 ·refine Xn 5 ?_;have⟨o,ab,k⟩:=Yz k;refine Y3 412 544 ab fun a7=>?_;intro ap aq;refine Xq [] [544] [.e 0 0] [(36,.agg #[A.i o.1.1,A.i o.1.2,A.i o.2.1.1,A.i o.2.1.2,A.i o.2.2.1,A.i o.2.2.2.1,A.i o.2.2.2.2.1,A.i o.2.2.2.2.2.1,A.i o.2.2.2.2.2.2.1,A.i o.2.2.2.2.2.2.2.1,A.i o.2.2.2.2.2.2.2.2.1,A.i o.2.2.2.2.2.2.2.2.2])] ?_;refine Xr 545 (cs:=[A.i 0,A.i 0,A.i 0,A.i 0,A.i 0,A.i 0,A.i 0,A.i 0,A.i 0,A.i 0,A.i 0,A.i 0]) Tryd.zeroValue84 fun av=>?_;refine Ya 545 [] [A.i o.1.1,A.i o.1.2,A.i o.2.1.1,A.i o.2.1.2,A.i o.2.2.1,A.i o.2.2.2.1,A.i o.2.2.2.2.1,A.i o.2.2.2.2.2.1,A.i o.2.2.2.2.2.2.1,A.i o.2.2.2.2.2.2.2.1,A.i o.2.2.2.2.2.2.2.2.1,A.i o.2.2.2.2.2.2.2.2.2] ?_;refine Xw 1 ?_;refine Xq [545] [] [.n,.n,.b 0 0,.n,.b 0 2] [(37,.map (some Y)),(39,(A.rac o.1)),(42,(A.rac o.2.1))] ?_;refine X9 546 (ty:=T73) (cs:=(A.raa o.2.1)) [o.2.1] ⟨⟨⟨rfl,a7.2.1.1⟩,⟨rfl,a7.2.1.2⟩⟩,rfl⟩ (fun aw=>?_) Tryd.zeroValue74 Tryd.sizeOf74
  have⟨hl35,k⟩:=Yv k;refine A.AL.mapp (t:=T73) (ys:=[o.2.1]) 411 546 [] ky74 o.1 Tryd.zeroValue85 inf74 hl35 fun As36 ax ay az b0=>?_;refine Xw 2 ?_;have⟨a8,k⟩:=Yv k;refine Y8 2 [Z.R64 (O+1)] [(33,A.i (O+1))] a8 (Xp ?_);exact Yd ⟨_,Qg _,⟨(Z.mins U o.1 (Z.mget ([]:List D73) U o.1++[o.2.1])),(O+1),As36,rfl,rfl,(Xv a8),k⟩⟩
 refine Xn 4 ?_;refine Xt 1 [(48,.map (some L))] ?_;refine A.AL.rgm 6 547 fun a3=>?_;refine Xo 2 ?_;refine A.frzM 411 [] ?_;obtain⟨hev,hend⟩:=A.mrg_all k;refine A.AX.loop [0,5,8,49] [0,1,2,3,6,411] [547,0,1,2,3,6,411] (fun f V W=>∃(sn:List Nat) (la:Option (Value×Value)),V=[]∧W=[(547,.mit 6 a3 L z.length sn la)]∧sn.Nodup∧(∀i∈sn,i<z.length)∧(∀i∈sn,∀p,(z)[i]?=some p→F.aJ y z U p=some none)∧f+sn.length=z.length+1) (z.length+1) [] [(547,.mit 6 a3 L z.length [] none)] ⟨[],none,rfl,rfl,List.nodup_nil,by simp,by simp,rfl⟩ ?_;rintro b1 _ _ ⟨ac,la44,rfl,rfl,hnd,hbd,hse,hff⟩;refine Xn 1 ?_;refine A.AL.nxm 6 547 548 (fun hall=>?_) (fun ad E hp48 hs49 ae=>?_)
 ·replace k:=hend (A.seen_all hse hall)
  refine Xt 1 [(51,.bool false)] (Xo 2 ?_);refine Yq rfl ?_;refine Xn 3 ?_;refine Xt 1 [(4,.bool false)] (Xo 1 ?_);obtain rfl:=Xx k;exact X1 [(0,0),(1,1),(2,2),(3,3)] ⟨rfl,rfl⟩
 obtain⟨q,hB,hq⟩:=hev E (Qq hp48)
 have k:=hB
 rw[F.aJ]at k;have⟨hkc51,k⟩:=Yv k;refine Xt 1 [(51,.bool true)] (Xo 2 ?_);refine Y1 rfl ?_;refine Xn 4 ?_;refine A.AL.ent 547 ?_;refine Xt 2 [(53,(A.rac E.1)),(54,A.i E.2)] ?_;refine Xr 549 (cs:=l2p) Tryd.zeroValue74 fun b3=>?_;refine Ya 549 [] (A.raa E.1) ?_;refine Xt 1 [(12,A.i E.2)] (Xw 2 ?_);refine Xq [549] [] [.n,.n,.n,.b 0 0,.n] [(55,.pointer (some ⟨g0_,0,none⟩)),(56,.map (some Y)),(57,.map (some L)),(58,(A.rac E.1)),(59,A.i E.2)] ?_;have⟨ag,ah,k⟩:=Yz k;refine A.AL.call 550 [] (first:=[]) (cap:=[]) cf38 (o_q A2_ g0_ b1_ c3_ b4_ Y L y U z E.1 E.2 (of_decide_eq_true hkc51.1) (of_decide_eq_true hkc51.2) ae ag ah) (.m 0 (.m 1 (.m 2 (.m 3 (.lm 411 (.lm 6 .nil)))))) ?_;rintro _ _ ⟨rfl,rfl⟩;refine X6 ?_;refine Yk 550 0 [] ?_;refine Yk 551 1 [] ?_;refine Yk 552 2 [] ?_;refine Yk 553 3 [] ?_;refine Xo 1 ?_;refine Y7 k ?_ ?_<;>intro hb k
 ·refine Xn 1 ?_;refine Xt 1 [(4,.bool true)] (Xo 1 ?_);obtain rfl:=Xx k;obtain rfl:=Wq (hq.resolve_left (by intro h;cases h))
  exact X1 [(0,0),(1,1),(2,2),(3,3)] ⟨rfl,rfl⟩
 refine Yt 2 ?_;obtain rfl:=Xx k;exact A.AE.j [547,0,1,2,3,6,411] [] [(547,.mit 6 a3 L z.length (ad::ac) (some ((A.rac E.1),A.i E.2)))] ⟨_,(A.seen_f hnd (Y4 hbd hp48) hs49 hff).1,_,_,rfl,rfl,Wf.2 ⟨hs49,hnd⟩,Y4 hbd hp48,A.seen_cons hse hp48 hB,(A.seen_f hnd (Y4 hbd hp48) hs49 hff).2⟩
def F.bf (k:D32)(o:D32):Option Bool:=some (bif decide (k.2.1=o.2.1)then decide (k.2.2.2.2.1=o.2.2.2.2.1)else false)
theorem o_ac(k:D32)(o:D32)(u:A.h6 k.1)(x:A.h6 k.2.1)(y:A.h6 k.2.2.2.1.1)(z:A.h6 k.2.2.2.1.2.1)(B:k.2.2.2.1.2.2.size≤maxLen)(E:k.2.2.2.2.1.size≤maxLen)(J:A.h6 k.2.2.2.2.2.1)(L:A.h6 k.2.2.2.2.2.2)(N:A.h6 o.1)(O:A.h6 o.2.1)(U:A.h6 o.2.2.2.1.1)(V:A.h6 o.2.2.2.1.2.1)(W:o.2.2.2.1.2.2.size≤maxLen)(Y:o.2.2.2.2.1.size≤maxLen)(a1:A.h6 o.2.2.2.2.2.1)(a2:A.h6 o.2.2.2.2.2.2)(r:Bool)(s:F.bf k o=some r):
    A.Ct Tryd.prog 22 [.agg #[A.i k.1,A.i k.2.1,.slice A2_ k.2.2.1.length c3_,A.i k.2.2.2.1.1,A.i k.2.2.2.1.2.1,.string k.2.2.2.1.2.2,.string k.2.2.2.2.1,A.i k.2.2.2.2.2.1,A.i k.2.2.2.2.2.2],.pointer (some ⟨g10_,0,none⟩)] [(0,.sh A.TI [.slice A2_ k.2.2.1.length c3_] k.2.2.1),(1,.el none g10_ 0 [A.i o.1,A.i o.2.1,.slice A13_ o.2.2.1.length c14_,A.i o.2.2.2.1.1,A.i o.2.2.2.1.2.1,.string o.2.2.2.1.2.2,.string o.2.2.2.2.1,A.i o.2.2.2.2.2.1,A.i o.2.2.2.2.2.2]),(2,.sh A.TI [.slice A13_ o.2.2.1.length c14_] o.2.2.1)] [] (fun v H'=>v=.bool r∧H'=[]):=by
 refine Xs Tryd.func22 rfl Tryd.ntmps22 rfl fun w0 F0=>?_;rw[F.bf]at s;refine Xn 1 ?_;refine X2 3 (cs:=[A.i k.1,A.i k.2.1,.slice A2_ k.2.2.1.length c3_,A.i k.2.2.2.1.1,A.i k.2.2.2.1.2.1,.string k.2.2.2.1.2.2,.string k.2.2.2.2.1,A.i k.2.2.2.2.2.1,A.i k.2.2.2.2.2.2]) fun g1=>?_;refine Xt 1 [] (Xw 2 ?_);refine Xq [3] [1] [.n,.b 0 1,.n,.e 0 1,.n,.n,.sy .n,.sy (.b 0 6),.sy .n,.sy (.e 0 6),.sy .n,.pk,.n] [(3,.bool (bif decide (k.2.1=o.2.1)then decide (k.2.2.2.2.1=o.2.2.2.2.1)else false))] (Xo 1 ?_);obtain rfl:=Xx s;exact X1 [] ⟨rfl,rfl⟩
def F.c (o:(List D32))(s:D32):Nat→Int→Option Int
 |0,_=>none
 |f+1,k=>if k<(o.length:Int)then((A.ix o k).bind fun u=>((F.bf u s).bind fun x=>(if x=true then(some k)else(A.gd (Z.R64 (k+1)) ((F.c o s f) (k+1))))))else(some (-1))
def F.f (k:(List D32))(o:D32):Option Int:=F.c k o A.FU 0
theorem o_d(z:(List D32))(k:D32)(N:A.h6 k.1)(O:A.h6 k.2.1)(U:A.h6 k.2.2.2.1.1)(V:A.h6 k.2.2.2.1.2.1)(W:k.2.2.2.1.2.2.size≤maxLen)(Y:k.2.2.2.2.1.size≤maxLen)(a1:A.h6 k.2.2.2.2.2.1)(a2:A.h6 k.2.2.2.2.2.2)(r:Int)(o:F.f z k=some r):
    A.Ct Tryd.prog 28 [.slice A0_ z.length c1_,.func (.func 22) #[] #[.pointer (some ⟨g2_,0,none⟩)]] [(0,.ln T32 A0_ c1_ z),(1,.el none g2_ 0 [A.i k.1,A.i k.2.1,.slice A5_ k.2.2.1.length c6_,A.i k.2.2.2.1.1,A.i k.2.2.2.1.2.1,.string k.2.2.2.1.2.2,.string k.2.2.2.2.1,A.i k.2.2.2.2.2.1,A.i k.2.2.2.2.2.2]),(2,.sh A.TI [.slice A5_ k.2.2.1.length c6_] k.2.2.1)] [] (fun v H'=>v=A.i r∧H'=[]∧A.h6 r):=by
 refine Xs Tryd.func28 rfl Tryd.ntmps28 rfl fun w0 F0=>?_;rw[F.f]at o;refine Xn 1 ?_;refine Xt 1 [] (Xw 3 ?_);refine Xt 3 [(7,A.i (z.length:Int)),(8,A.i 0)] (Xo 2 ?_);refine Yf [0,1,7] [0,1,2] (fun f nl nh=>∃(u:Int),nl=[(8,A.i u)]∧nh=[]∧A.h6 u∧F.c z k f u=some r) ⟨0,rfl,rfl,Xy,o⟩ ?_;rintro B _ _ ⟨u,rfl,rfl,a3,o⟩;rcases B with _|B
 ·exact Yc o
 rw[F.c]at o;refine Xn 1 ?_;refine Xt 1 [(9,.bool (decide (u<(z.length:Int))))] (Xo 2 ?_);refine Yn o ?_ ?_<;>intro hb o
 ·refine Xn 5 ?_;refine Xt 2 [(5,A.i u)] (Xw 2 ?_);refine Xt 3 [(11,.func (.func 22) #[] #[.pointer (some ⟨g2_,0,none⟩)]),(12,.slice A0_ z.length c1_),(13,A.i u)] ?_;have⟨x,a4,o⟩:=Yz o;refine A.AL.ixl 0 87 a4 fun y=>?_;intro E J b9 a7;refine Xq [] [87] [.e 0 0] [(15,.agg #[A.i x.1,A.i x.2.1,.slice E x.2.2.1.length J,A.i x.2.2.2.1.1,A.i x.2.2.2.1.2.1,.string x.2.2.2.1.2.2,.string x.2.2.2.2.1,A.i x.2.2.2.2.2.1,A.i x.2.2.2.2.2.2])] ?_;have⟨a5,a6,o⟩:=Yz o;refine A.AL.call 89 [] (first:=[]) (cap:=[.pointer (some ⟨g2_,0,none⟩)]) cf22 (o_ac E A5_ J g2_ c6_ x k y.1 y.2.1 y.2.2.2.1.1 y.2.2.2.1.2.1 y.2.2.2.1.2.2 y.2.2.2.2.1 y.2.2.2.2.2.1 y.2.2.2.2.2.2 N O U V W Y a1 a2 a5 a6) (.s 88 (.s 1 (.s 2 .nil))) ?_;rintro _ _ ⟨rfl,rfl⟩;refine X6 ?_;refine Xo 1 ?_;refine Y7 o ?_ ?_<;>intro hb o
  ·refine Xn 1 ?_;refine Xt 2 [(4,A.i u)] (Xo 1 ?_);obtain rfl:=Xx o;exact X1 [] ⟨rfl,rfl,a3⟩
  refine Xn 3 ?_;have⟨L,o⟩:=Yv o;refine Y8 2 [Z.R64 (u+1)] [(8,A.i (u+1))] L (Xp ?_);exact Yd ⟨_,Qg _,⟨(u+1),rfl,rfl,(Xv L),o⟩⟩
 refine Xn 3 ?_;refine Xt 1 [(4,A.i (-1))] (Xo 1 ?_);obtain rfl:=Xx o;exact X1 [] ⟨rfl,rfl,(Xu .i64 (-1) rfl)⟩
def F.d (k:(List D32))(o:D32):Option Bool:=(F.f k o).bind fun s=>(some (decide ((0:Int)≤s)))
theorem o_c(o:(List D32))(k:D32)(x:A.h6 k.1)(y:A.h6 k.2.1)(z:A.h6 k.2.2.2.1.1)(B:A.h6 k.2.2.2.1.2.1)(E:k.2.2.2.1.2.2.size≤maxLen)(J:k.2.2.2.2.1.size≤maxLen)(L:A.h6 k.2.2.2.2.2.1)(N:A.h6 k.2.2.2.2.2.2)(r:Bool)(u:F.d o k=some r):
    A.Ct Tryd.prog 21 [.slice A0_ o.length c1_,.func (.func 22) #[] #[.pointer (some ⟨g2_,0,none⟩)]] [(0,.ln T32 A0_ c1_ o),(1,.el none g2_ 0 [A.i k.1,A.i k.2.1,.slice A5_ k.2.2.1.length c6_,A.i k.2.2.2.1.1,A.i k.2.2.2.1.2.1,.string k.2.2.2.1.2.2,.string k.2.2.2.2.1,A.i k.2.2.2.2.2.1,A.i k.2.2.2.2.2.2]),(2,.sh A.TI [.slice A5_ k.2.2.1.length c6_] k.2.2.1)] [] (fun v H'=>v=.bool r∧H'=[]):=by
 refine Xs Tryd.func21 rfl Tryd.ntmps21 rfl fun U V=>?_;rw[F.d]at u;refine Xn 1 ?_;refine Xt 1 [] (Xw 2 ?_);refine Xt 2 [(5,.slice A0_ o.length c1_),(6,.func (.func 22) #[] #[.pointer (some ⟨g2_,0,none⟩)])] ?_;refine Yo 3 [] u (o_d A0_ A5_ c1_ g2_ c6_ o k x y z B E J L N) (.s 0 (.s 1 (.s 2 .nil))) ?_;rintro O - u _ _ ⟨rfl,rfl,hr3⟩;refine X6 ?_;refine Xt 2 [(4,.bool (decide ((0:Int)≤O)))] (Xo 1 ?_);obtain rfl:=Xx u;exact X1 [] ⟨rfl,rfl⟩
def F.aO (s:(List (Int×D32))→Int→Int→Option ((Option ((List (Int×D32))×(List Int)×(List (Int×Int))))×Int))(u:List (Int×D32))(o:Int)(k:D32)(x:Bool):Option ((Option ((List (Int×D32))×(List Int)×(List (Int×Int))))×Int):=if x=true then(some (none,80))else(A.gd (Z.R64 (o+1)) (s (Z.mins u k.1 k) k.1 (o+1)))
def F.aP (o:(List (Int×D32))→Int→Int→Option ((Option ((List (Int×D32))×(List Int)×(List (Int×Int))))×Int))(s:List (Int×D32))(x:Int)(u:Int)(k:D32)(y:Bool):Option ((Option ((List (Int×D32))×(List Int)×(List (Int×Int))))×Int):=if k.1≤x then(F.aO o s u k true)else((F.bt k).bind fun z=>(F.aO o s u k (bif !z then true else y)))
def F.aQ (x:Int→Option ((Option ((List (Int×D32))×(List Int)×(List (Int×Int))))×Int))(o:List (Int×D32))(s:Int)(u:D32):Nat→Int→Option ((Option ((List (Int×D32))×(List Int)×(List (Int×Int))))×Int)
 |0,_=>none
 |f+1,k=>if k<(u.2.2.1.length:Int)then((A.ix u.2.2.1 k).bind fun y=>(A.lt (Z.mget ((0,0,[],(0,0,(ByteArray.mk #[])),(ByteArray.mk #[]),0,0):D32) o y) fun z=>(if(bif !(Z.mhas o y)then true else decide (z.2.1=15))=true then(some (none,80))else(A.gd (Z.R64 (k+1)) ((F.aQ x o s u f) (k+1))))))else(A.gd (Z.R64 (s+1)) (x (s+1)))
def F.aC (k:D23)(o:List (Int×D32)):Nat→Int→Option ((Option ((List (Int×D32))×(List Int)×(List (Int×Int))))×Int)
 |0,_=>none
 |f+1,s=>if s<(k.length:Int)then((A.ix k s).bind fun y=>(F.aQ (F.aC k o f) o s y A.FU 0))else((F.ba (o,[],[]) k).bind fun x=>(if(!x.1)=true then(some (none,81))else((F.aU x.2).bind fun u=>(if(!u.1)=true then(some (none,80))else((F.a1 u.2 k).bind fun z=>(if z=true then(some (none,81))else(some (some u.2,0))))))))
def F.aR (k:D23)(s:List (Int×D32)):Nat→Int→Option ((Option ((List (Int×D32))×(List Int)×(List (Int×Int))))×Int)
 |0,_=>none
 |f+1,o=>if o<(k.length:Int)then((A.ix k o).bind fun u=>((F.bA u.2.1 u.2.2.2.1).bind fun x=>(if x≠0 then(some (none,x))else(A.gd (Z.R64 (o+1)) ((F.aR k s f) (o+1))))))else(F.aC k s A.FU 0)
def F.x (k:D23):Nat→(List (Int×D32))→Int→Int→Option ((Option ((List (Int×D32))×(List Int)×(List (Int×Int))))×Int)
 |0,_,_,_=>none
 |f+1,u,y,o=>if o<(k.length:Int)then((A.ix k o).bind fun s=>((F.ad s.2.1).bind fun z=>(if z=true then(A.gd (0≤o∧o.toNat≤k.length) ((F.d (List.take o.toNat k) s).bind fun B=>(F.aP (F.x k f) u y o s B)))else(F.aP (F.x k f) u y o s false))))else(F.aR k u A.FU 0)
def F.aW (k:D23):Option ((Option ((List (Int×D32))×(List Int)×(List (Int×Int))))×Int):=if(32:Int)<(k.length:Int)then(some (none,80))else(F.x k A.FU [] 0 0)
theorem o_m(y:D23)(r:(Option ((List (Int×D32))×(List Int)×(List (Int×Int))))×Int)(k:F.aW y=some r):
    A.Ct Tryd.prog 19 [.agg #[.slice A0_ y.length c1_]] [(0,.sh (.slice T32) [.slice A0_ y.length c1_] y),(1,.el none 0 0 A.tabF),(2,.el none 1 0 A.tabA)] [] (fun v H'=>(r.1=none∧v=.tuple #[.pointer none,A.i r.2]∧H'=[]∧A.h6 r.2)∨(∃(p0:((List (Int×D32))×(List Int)×(List (Int×Int)))),r.1=some p0∧∃(g0':Nat) (b1':Nat) (A2':Option Addr) (c3':Nat) (b4':Nat),v=.tuple #[.pointer (some ⟨g0',0,none⟩),A.i r.2]∧H'=[(0,.blk g0' 53 [.map (some b1'),.slice A2' p0.2.1.length c3',.map (some b4')]),(1,.mp Int (fun i:Int=>A.i i) T32 true b1' p0.1),(2,.own A.ti 3 A2' c3' p0.2.1),(3,.mp Int (fun i:Int=>A.i i) A.ti false b4' p0.2.2)]∧A.h6 r.2)):=by
 refine Xs Tryd.func19 rfl Tryd.ntmps19 rfl fun w0 F0=>?_;rw[F.aW]at k;refine Xn 1 ?_;refine X2 3 (cs:=[.slice A0_ y.length c1_]) fun g1=>?_;refine Xt 2 [] (Xw 3 ?_);refine Xq [3] [] [.n,.b 0 0,.n,.n] [(21,.bool (decide ((32:Int)<(y.length:Int))))] (Xo 1 ?_);refine Yn k ?_ ?_<;>intro U k
 ·refine Xn 1 ?_;refine Xt 2 [(2,.pointer none),(3,A.i 80)] (Xo 1 ?_);obtain rfl:=Xx k;exact Ym [] (.inl ⟨rfl,⟨rfl,rfl,(Xu .i64 (80) rfl)⟩⟩)
 refine Xn 3 ?_;refine A.AL.mkm 4 Int (fun i:Int=>A.i i) T32 true fun b2=>?_;refine A.AL.mkm 5 Int (fun i:Int=>A.i i) A.ti false fun b3=>?_;refine Xt 1 [(24,.agg #[.map (some b2),.slice none 0 0,.map (some b3)])] ?_;refine X2 6 (cs:=[.map (some b2),.slice none 0 0,.map (some b3)]) fun Y=>?_;refine Xt 1 [(4,.pointer (some ⟨Y,0,none⟩))] (Xw 2 ?_);refine Xt 1 [(5,A.i 0)] (Xw 3 ?_);refine Xq [3] [] [.n,.b 0 0,.n,.n] [(27,.slice A0_ y.length c1_),(28,A.i (y.length:Int)),(29,A.i 0)] (Xo 2 ?_);refine Yf [1,4,27,28] [0,1,2,3,5,6] (fun f V W=>∃(O:List (Int×D32)),∃(y6:Int),∃(N:Int),V=[(5,A.i y6),(29,A.i N)]∧W=[(4,.mp Int (fun i:Int=>A.i i) T32 true b2 O)]∧A.h6 y6∧A.h6 N∧F.x y f O y6 N=some r) ⟨[],0,0,rfl,rfl,Xy,Xy,k⟩ ?_;rintro a8 _ _ ⟨O,y6,N,rfl,rfl,bi,bj,k⟩;rcases a8 with _|a8
 ·exact Yc k
 rw[F.x]at k;refine Xn 1 ?_;refine Xt 1 [(30,.bool (decide (N<(y.length:Int))))] (Xo 2 ?_);refine Yn k ?_ ?_<;>intro U k
 ·refine Xn 5 ?_;refine Xt 1 [(31,A.i N)] ?_;have⟨o,b4,k⟩:=Yz k;refine Yh 0 2907 b4 fun B=>?_;intro a4 a5 bk bl;refine Xq [] [2907] [.e 0 0] [(33,.agg #[A.i o.1,A.i o.2.1,.slice a4 o.2.2.1.length a5,A.i o.2.2.2.1.1,A.i o.2.2.2.1.2.1,.string o.2.2.2.1.2.2,.string o.2.2.2.2.1,A.i o.2.2.2.2.2.1,A.i o.2.2.2.2.2.2])] ?_;refine Xr 2909 (cs:=l2a) Tryd.zeroValue33 fun ah=>?_;refine Xt 1 [(6,A.i N)] ?_;refine Ya 2909 [] [A.i o.1,A.i o.2.1,.slice a4 o.2.2.1.length a5,A.i o.2.2.2.1.1,A.i o.2.2.2.1.2.1,.string o.2.2.2.1.2.2,.string o.2.2.2.2.1,A.i o.2.2.2.2.2.1,A.i o.2.2.2.2.2.2] ?_;refine Xo 1 ?_;refine Xz [1,4,5,7,27,28,29] l2m (fun V W=>∃(a7:Bool),V=[(8,.bool a7)]∧W=[]∧F.aP (F.x y a8) O y6 N o a7=some r) ?_ ?_
  ·refine Xn 0 ?_;refine Xq [2909] [] [.n,.b 0 1] [(35,A.i o.2.1)] ?_;refine Yo 2910 [] k (o_e o.2.1 B.2.1) .nil ?_;rintro b5 - k _ _ ⟨rfl,rfl⟩;refine X6 ?_;refine Xt 1 [(37,.bool b5)] ?_;refine Yg (j:=37) rfl k (fun k=>?_) (fun k=>?_)
   ·refine Xq [3] [] [.on .n,.on (.b 0 0),.on .n] [(39,.slice A0_ y.length c1_),(40,A.i N)] ?_;refine Ye (dj:=37) rfl rfl ?_;have⟨ai,k⟩:=Yv k;refine A.AL.cuth 0 2950 (v:=N.toNat) (Int.toNat_of_nonneg ai.1).symm ai.2 fun b6=>?_;refine Xq [] [] [.on .n] [(42,.func (.func 22) #[] #[.pointer (some ⟨ah,0,none⟩)])] ?_;refine Ye (dj:=37) rfl rfl ?_;refine Yo 2951 [] k (o_c A0_ a4 b6 ah a5 (List.take N.toNat y) o B.1 B.2.1 B.2.2.2.1.1 B.2.2.2.1.2.1 B.2.2.2.1.2.2 B.2.2.2.2.1 B.2.2.2.2.2.1 B.2.2.2.2.2.2) (.l 2950 (.b 2909 (.s 2908 .nil))) ?_;rintro aj - k _ _ ⟨rfl,rfl⟩;refine X6 ?_;refine Xt 2 [(8,.bool aj)] (Xp ?_);exact Yd ⟨aj,rfl,rfl,k⟩
   refine Xq [] [] [.off,.off,.off,.off,.off,.off,.n,.n] [(8,.bool false)] (Xp ?_);exact Yd ⟨false,rfl,rfl,k⟩
  rintro _ _ ⟨a7,rfl,rfl,k⟩;rw[F.aP]at k;refine Y6 1 ?_;refine Xz [1,4,7,27,28,29] l2m (fun V W=>∃(aa:Bool),V=[(56,.bool aa)]∧W=[]∧F.aO (F.x y a8) O N o aa=some r) ?_ ?_
  ·refine Xn 0 ?_;refine Xq [2909] [] [.n,.b 0 0,.n,.n,.n] [(49,.bool (decide (o.1≤y6)))] ?_;refine A.AL.cnp (j:=49) rfl k ?_ ?_<;>intro U k
   ·refine Xq [] [] [.off,.off,.off,.n,.n,.off,.n] [(56,.bool true)] (Xp ?_);exact Yd ⟨true,rfl,rfl,k⟩
   refine Xq [2909] [] [.on (.b 0 0)] [(50,.agg #[A.i o.1,A.i o.2.1,.slice a4 o.2.2.1.length a5,A.i o.2.2.2.1.1,A.i o.2.2.2.1.2.1,.string o.2.2.2.1.2.2,.string o.2.2.2.2.1,A.i o.2.2.2.2.2.1,A.i o.2.2.2.2.2.2])] ?_;refine Ye (dj:=49) rfl rfl ?_;refine Yo 2991 [] k (o_av a4 a5 o B.1 B.2.1 B.2.2.2.1.1 B.2.2.2.1.2.1 B.2.2.2.1.2.2 B.2.2.2.2.1 B.2.2.2.2.2.1 B.2.2.2.2.2.2) (.s 2908 .nil) ?_;rintro ak - k _ _ ⟨rfl,rfl⟩;refine X6 ?_;refine Xq [] [] [.on .n,.n,.n,.sy .n,.pk] [(56,.bool (bif !ak then true else a7))] (Xp ?_);exact Yd ⟨(bif !ak then true else a7),rfl,rfl,k⟩
  rintro _ _ ⟨aa,rfl,rfl,k⟩;rw[F.aO]at k;refine Y7 k ?_ ?_<;>intro U k
  ·refine Xn 1 ?_;refine Xt 2 [(2,.pointer none),(3,A.i 80)] (Xo 1 ?_);obtain rfl:=Xx k;exact Ym [] (.inl ⟨rfl,⟨rfl,rfl,(Xu .i64 (80) rfl)⟩⟩)
  refine Xn 3 ?_;refine Xq [2909] [] [.n,.b 0 0,.n] [(5,A.i o.1)] (Xo 1 ?_);refine Yi mixed 7 8 (A.mb 8 0) ?_;refine X8 X5 [] l2m [2909,6] [] (A.mb 8 127) 1 [(0,.n),(4,.n),(6,.b 0 0),(1,.n),(5,.b 0 0),(2,.n),(3,.b 1 0)] [(65,.agg #[A.i o.1,A.i o.2.1,.slice a4 o.2.2.1.length a5,A.i o.2.2.2.1.1,A.i o.2.2.2.1.2.1,.string o.2.2.2.1.2.2,.string o.2.2.2.2.1,A.i o.2.2.2.2.2.1,A.i o.2.2.2.2.2.2]),(64,A.i o.1),(62,.map (some b2))] ?_;refine X0 7 ?_;refine A.AL.mup (t:=T32) 4 [] (cs:=[A.i o.1,A.i o.2.1,.slice a4 o.2.2.1.length a5,A.i o.2.2.2.1.1,A.i o.2.2.2.1.2.1,.string o.2.2.2.1.2.2,.string o.2.2.2.2.1,A.i o.2.2.2.2.2.1,A.i o.2.2.2.2.2.2]) (u:=o) ky3 o.1 ⟨⟨rfl,B.1⟩,⟨rfl,B.2.1⟩,.inl ⟨2908,rfl⟩,⟨⟨rfl,B.2.2.2.1.1⟩,⟨rfl,B.2.2.2.1.2.1⟩,⟨rfl,B.2.2.2.1.2.2⟩⟩,⟨rfl,B.2.2.2.2.1⟩,⟨rfl,B.2.2.2.2.2.1⟩,⟨rfl,B.2.2.2.2.2.2⟩⟩ ?_;refine A.AH.nm (A.mb 8 255) ?_;refine X3 ?_;refine A.el 2 ?_;have⟨al,k⟩:=Yv k;refine Y8 2 [Z.R64 (N+1)] [(29,A.i (N+1))] al (Xp ?_);exact Yd ⟨_,Qg _,⟨(Z.mins O o.1 o),o.1,(N+1),rfl,rfl,B.1,(Xv al),k⟩⟩
 refine Xn 4 ?_;refine Xq [3] [] [.n,.b 0 0,.n,.n] [(68,.slice A0_ y.length c1_),(69,A.i (y.length:Int)),(70,A.i 0)] (Xo 2 ?_);refine Yf [1,4,68,69] l2e (fun f V W=>∃(a2:Int),V=[(70,A.i a2)]∧W=[]∧A.h6 a2∧F.aR y O f a2=some r) ⟨0,rfl,rfl,Xy,k⟩ ?_;rintro am _ _ ⟨a2,rfl,rfl,bm,k⟩;rcases am with _|am
 ·exact Yc k
 rw[F.aR]at k;refine Xn 1 ?_;refine Xt 1 [(71,.bool (decide (a2<(y.length:Int))))] (Xo 2 ?_);refine Yn k ?_ ?_<;>intro U k
 ·refine Xn 5 ?_;have⟨E,b7,k⟩:=Yz k;refine Yh 0 3915 b7 fun a9=>?_;intro an ao bp bq;refine Xq [] [3915] [.e 0 0] [(73,.agg #[A.i E.1,A.i E.2.1,.slice an E.2.2.1.length ao,A.i E.2.2.2.1.1,A.i E.2.2.2.1.2.1,.string E.2.2.2.1.2.2,.string E.2.2.2.2.1,A.i E.2.2.2.2.2.1,A.i E.2.2.2.2.2.2])] ?_;refine Xr 3917 (cs:=l2a) Tryd.zeroValue33 fun br=>?_;refine Ya 3917 [] [A.i E.1,A.i E.2.1,.slice an E.2.2.1.length ao,A.i E.2.2.2.1.1,A.i E.2.2.2.1.2.1,.string E.2.2.2.1.2.2,.string E.2.2.2.2.1,A.i E.2.2.2.2.2.1,A.i E.2.2.2.2.2.2] ?_;refine Xw 2 ?_;refine Xq [3917] [] [.n,.b 0 1,.n,.b 0 3] [(75,A.i E.2.1),(77,.agg #[A.i E.2.2.2.1.1,A.i E.2.2.2.1.2.1,.string E.2.2.2.1.2.2])] ?_;refine Yo 3918 [] k (o_aA E.2.1 E.2.2.2.1 a9.2.1 a9.2.2.2.1.1 a9.2.2.2.1.2.1 a9.2.2.2.1.2.2) (.s 1 (.s 2 .nil)) ?_;rintro ab - k _ _ ⟨rfl,rfl,hr44⟩;refine X6 ?_;refine Xt 1 [(11,A.i ab)] (Xw 2 ?_);refine Xt 2 [(80,.bool (decide (ab≠0)))] (Xo 1 ?_);refine Yn k ?_ ?_<;>intro U k
  ·refine Xn 1 ?_;refine Xt 3 [(2,.pointer none),(3,A.i ab)] (Xo 1 ?_);obtain rfl:=Xx k;exact Ym [] (.inl ⟨rfl,⟨rfl,rfl,hr44⟩⟩)
  refine Xn 3 ?_;have⟨ap,k⟩:=Yv k;refine Y8 2 [Z.R64 (a2+1)] [(70,A.i (a2+1))] ap (Xp ?_);exact Yd ⟨_,Qg _,⟨(a2+1),rfl,rfl,(Xv ap),k⟩⟩
 refine Xn 4 ?_;refine Xq [3] [] [.n,.b 0 0,.n,.n] [(84,.slice A0_ y.length c1_),(85,A.i (y.length:Int)),(86,A.i 0)] (Xo 2 ?_);refine Yf [1,4,84,85] l2e (fun f V W=>∃(a1:Int),V=[(86,A.i a1)]∧W=[]∧A.h6 a1∧F.aC y O f a1=some r) ⟨0,rfl,rfl,Xy,k⟩ ?_;rintro ac _ _ ⟨a1,rfl,rfl,bs,k⟩;rcases ac with _|ac
 ·exact Yc k
 rw[F.aC]at k;refine Xn 1 ?_;refine Xt 1 [(87,.bool (decide (a1<(y.length:Int))))] (Xo 2 ?_);refine Yn k ?_ ?_<;>intro U k
 ·refine Xn 5 ?_;have⟨J,b9,k⟩:=Yz k;refine Yh 0 4224 b9 fun bt=>?_;intro ad ae bu bv;refine Xq [] [4224] [.e 0 0] [(89,.agg #[A.i J.1,A.i J.2.1,.slice ad J.2.2.1.length ae,A.i J.2.2.2.1.1,A.i J.2.2.2.1.2.1,.string J.2.2.2.1.2.2,.string J.2.2.2.2.1,A.i J.2.2.2.2.2.1,A.i J.2.2.2.2.2.2])] ?_;refine Xr 4226 (cs:=l2a) Tryd.zeroValue33 fun bw=>?_;refine Ya 4226 [] [A.i J.1,A.i J.2.1,.slice ad J.2.2.1.length ae,A.i J.2.2.2.1.1,A.i J.2.2.2.1.2.1,.string J.2.2.2.1.2.2,.string J.2.2.2.2.1,A.i J.2.2.2.2.2.1,A.i J.2.2.2.2.2.2] ?_;refine Xw 2 ?_;refine Xq [4226] [] [.n,.b 0 2,.n,.n] [(91,.slice ad J.2.2.1.length ae),(92,A.i (J.2.2.1.length:Int)),(93,A.i 0)] (Xo 2 ?_);refine Yf [1,4,84,85,86,91,92] [0,1,2,3,4,5,6,4225] (fun f V W=>∃(a3:Int),V=[(93,A.i a3)]∧W=[]∧A.h6 a3∧F.aQ (F.aC y O ac) O a1 J f a3=some r) ⟨0,rfl,rfl,Xy,k⟩ ?_;rintro aq _ _ ⟨a3,rfl,rfl,bx,k⟩;rcases aq with _|aq
  ·exact Yc k
  rw[F.aQ]at k;refine Xn 1 ?_;refine Xt 1 [(94,.bool (decide (a3<(J.2.2.1.length:Int))))] (Xo 2 ?_);refine Yn k ?_ ?_<;>intro U k
  ·refine Xn 5 ?_;have⟨a6,bb,k⟩:=Yz k;refine Yh 4225 4233 bb fun bz=>?_;intro c0 c1;refine Xq [] [4233] [.e 0 0,.n] [(15,A.i a6)] (Xw 2 ?_);refine Xq [6] [] [.n,.n,.n,.b 0 0,.n] [(101,.map (some b2)),(102,A.i a6)] ?_;obtain⟨L,bc,k⟩:=X7 k;refine A.AL.lk2 (t:=T32) 4 4234 (z:=((0,0,[],(0,0,(ByteArray.mk #[])),(ByteArray.mk #[]),0,0):D32)) (zs:=l2a) ky3 a6 Tryd.zeroValue33 ⟨⟨rfl,by decide⟩,⟨rfl,by decide⟩,(.inr ⟨rfl,rfl⟩),⟨⟨rfl,by decide⟩,⟨rfl,by decide⟩,⟨rfl,by decide⟩⟩,⟨rfl,by decide⟩,⟨rfl,by decide⟩,⟨rfl,by decide⟩⟩ bc fun c2=>?_;intro ar au;refine Xt 3 [(104,.agg #[A.i L.1,A.i L.2.1,.slice ar L.2.2.1.length au,A.i L.2.2.2.1.1,A.i L.2.2.2.1.2.1,.string L.2.2.2.1.2.2,.string L.2.2.2.2.1,A.i L.2.2.2.2.2.1,A.i L.2.2.2.2.2.2]),(105,.bool (Z.mhas O a6))] ?_;refine Xr 4235 (cs:=l2a) Tryd.zeroValue33 fun c3=>?_;refine Ya 4235 [] [A.i L.1,A.i L.2.1,.slice ar L.2.2.1.length au,A.i L.2.2.2.1.1,A.i L.2.2.2.1.2.1,.string L.2.2.2.1.2.2,.string L.2.2.2.2.1,A.i L.2.2.2.2.2.1,A.i L.2.2.2.2.2.2] ?_;refine Xt 1 [(17,.bool (Z.mhas O a6))] (Xw 2 ?_);refine Xq [4235] [] [.n,.n,.n,.sy .n,.sy (.b 0 1),.sy .n,.pk] [(112,.bool (bif !(Z.mhas O a6)then true else decide (L.2.1=15)))] (Xo 1 ?_);refine Y7 k ?_ ?_<;>intro U k
   ·refine Xn 1 ?_;refine Xt 2 [(2,.pointer none),(3,A.i 80)] (Xo 1 ?_);obtain rfl:=Xx k;exact Ym [] (.inl ⟨rfl,⟨rfl,rfl,(Xu .i64 (80) rfl)⟩⟩)
   refine Xn 3 ?_;have⟨av,k⟩:=Yv k;refine Y8 2 [Z.R64 (a3+1)] [(93,A.i (a3+1))] av (Xp ?_);exact Yd ⟨_,Qg _,⟨(a3+1),rfl,rfl,(Xv av),k⟩⟩
  refine Xn 3 ?_;have⟨aw,k⟩:=Yv k;refine Y8 2 [Z.R64 (a1+1)] [(86,A.i (a1+1))] aw (Xp ?_);exact Yd ⟨_,Qg _,⟨(a1+1),rfl,rfl,(Xv aw),k⟩⟩
 refine Xn 5 ?_;refine Xq [3] [] [.n,.b 0 0] [(116,.pointer (some ⟨Y,0,none⟩)),(117,.agg #[.slice A0_ y.length c1_])] ?_;refine A.nil 4236 A.ti 3 ?_;refine Yo 4237 [] k (o_y none A0_ Y b2 0 b3 c1_ (O,[],[]) y) (.m 6 (.m 4 (.m 4236 (.m 5 (.s 0 .nil))))) ?_;rintro ax - k _ _ ⟨bd,be,bf,bg,rfl,rfl⟩;refine X6 ?_;refine Yk 4237 6 [] ?_;refine Yk 4238 4 [] ?_;refine Yk 4239 4236 [] ?_;refine Yk 4240 5 [] ?_;refine Xt 2 [(115,.bool (!ax.1))] (Xo 1 ?_);refine Y7 k ?_ ?_<;>intro U k
 ·refine Xn 1 ?_;refine Xt 2 [(2,.pointer none),(3,A.i 81)] (Xo 1 ?_);obtain rfl:=Xx k;exact Ym [] (.inl ⟨rfl,⟨rfl,rfl,(Xu .i64 (81) rfl)⟩⟩)
 refine Xn 1 ?_;refine Xt 1 [(121,.pointer (some ⟨Y,0,none⟩))] ?_;refine Yo 4277 [] k (o_r be Y bd bf bg ax.2) (.m 6 (.m 4 (.m 4236 (.m 5 .nil)))) ?_;rintro ag - k _ _ ⟨ay,az,b0,b1,rfl,rfl⟩;refine X6 ?_;refine Yk 4277 6 [] ?_;refine Yk 4278 4 [] ?_;refine Yk 4279 4236 [] ?_;refine Yk 4280 5 [] ?_;refine Xt 2 [(120,.bool (!ag.1))] (Xo 1 ?_);refine Y7 k ?_ ?_<;>intro U k
 ·refine Xn 1 ?_;refine Xt 2 [(2,.pointer none),(3,A.i 80)] (Xo 1 ?_);obtain rfl:=Xx k;exact Ym [] (.inl ⟨rfl,⟨rfl,rfl,(Xu .i64 (80) rfl)⟩⟩)
 refine Xn 1 ?_;refine Xq [3] [] [.n,.b 0 0] [(125,.pointer (some ⟨Y,0,none⟩)),(126,.agg #[.slice A0_ y.length c1_])] ?_;refine Yo 4317 [] k (o_w az A0_ Y ay b0 b1 c1_ ag.2 y) (.m 6 (.m 4 (.m 4236 (.m 5 (.s 0 .nil))))) ?_;rintro bh - k _ _ ⟨rfl,rfl⟩;refine X6 ?_;refine Yk 4317 6 [] ?_;refine Yk 4318 4 [] ?_;refine Yk 4319 4236 [] ?_;refine Yk 4320 5 [] ?_;refine Xt 1 [(124,.bool bh)] (Xo 1 ?_);refine Y7 k ?_ ?_<;>intro U k
 ·refine Xn 1 ?_;refine Xt 2 [(2,.pointer none),(3,A.i 81)] (Xo 1 ?_);obtain rfl:=Xx k;exact Ym [] (.inl ⟨rfl,⟨rfl,rfl,(Xu .i64 (81) rfl)⟩⟩)
 refine Xn 4 ?_;refine Xt 3 [(2,.pointer (some ⟨Y,0,none⟩)),(3,A.i 0)] (Xo 1 ?_);obtain rfl:=Xx k;exact Ym [(0,6),(1,4),(2,4236),(3,5)] (.inr ⟨ag.2,rfl,⟨Y,ay,az,b0,b1,rfl,rfl,Xy⟩⟩)
def F.bo (u:D23)(o:Int):Option (Int×Int):=(F.aW u).bind fun k=>A.om k.1 (if k.2≠0 then(some (0,k.2))else(none)) fun s=>(if k.2≠0 then(some (0,k.2))else(A.lt (Z.mget (0:Int) s.2.2 o) fun x=>(if(!(Z.mhas s.2.2 o))=true then(some (0,4))else(some (x,0)))))
theorem o_ak(o:D23)(u:Int)(U:A.h6 u)(r:Int×Int)(k:F.bo o u=some r):
    A.Ct Tryd.prog 10 [.agg #[.slice A0_ o.length c1_],A.i u] [(0,.sh (.slice T32) [.slice A0_ o.length c1_] o),(1,.el none 0 0 A.tabF),(2,.el none 1 0 A.tabA)] [] (fun v H'=>v=.tuple #[A.i r.1,A.i r.2]∧H'=[]∧A.h6 r.1∧A.h6 r.2):=by
 refine Xs Tryd.func10 rfl Tryd.ntmps10 rfl fun V W=>?_;rw[F.bo]at k;refine Xn 1 ?_;refine X2 3 (cs:=[.slice A0_ o.length c1_]) fun Y=>?_;refine Xt 2 [] (Xw 2 ?_);refine Xq [3] [] [.b 0 0] [(11,.agg #[.slice A0_ o.length c1_])] ?_;refine Yo 4 [] k (o_m A0_ c1_ o) (.s 0 (.s 1 (.s 2 .nil))) ?_;rintro x - k _ _ (⟨hp15,rfl,rfl,hr4⟩|⟨y,hp15,J,b7,A8,c9,L,rfl,rfl,hr11⟩)
 ·refine X6 ?_;rw[A.om_n hp15]at k
  refine Xt 5 [(6,.pointer none),(7,A.i x.2)] (Xw 3 ?_);refine Xt 2 [(16,.bool (decide (x.2≠0)))] (Xo 1 ?_);refine Yn k ?_ ?_<;>intro B k
  ·refine Xn 1 ?_;refine Xt 3 [(4,A.i 0),(5,A.i x.2)] (Xo 1 ?_);obtain rfl:=Xx k;exact Ym [] ⟨rfl,rfl,Xy,hr4⟩
  refine Xn 3 ?_;refine Xt 1 [(19,.pointer none)] ?_;exact Yc k
 refine X6 ?_;rw[A.om_s hp15]at k
 refine Xt 5 [(6,.pointer (some ⟨J,0,none⟩)),(7,A.i x.2)] (Xw 3 ?_);refine Xt 2 [(16,.bool (decide (x.2≠0)))] (Xo 1 ?_);refine Yn k ?_ ?_<;>intro B k
 ·refine Xn 1 ?_;refine Xt 3 [(4,A.i 0),(5,A.i x.2)] (Xo 1 ?_);obtain rfl:=Xx k;exact Ym [] ⟨rfl,rfl,Xy,hr11⟩
 refine Xn 3 ?_;refine Xq [4] [] [.n,.n,.n,.b 0 2,.n] [(22,.map (some L)),(23,A.i u)] ?_;obtain⟨E,N,k⟩:=X7 k;refine A.AL.lk2 (t:=A.ti) 7 44 (z:=(0:Int)) (zs:=l2n) ky3 u Tryd.zeroValue3 ⟨rfl,by decide⟩ N fun O=>?_;refine Xt 5 [(8,A.i E),(9,.bool (Z.mhas y.2.2 u))] (Xw 3 ?_);refine Xt 2 [(28,.bool (!(Z.mhas y.2.2 u)))] (Xo 1 ?_);refine Y7 k ?_ ?_<;>intro B k
 ·refine Xn 1 ?_;refine Xt 2 [(4,A.i 0),(5,A.i 4)] (Xo 1 ?_);obtain rfl:=Xx k;exact Ym [] ⟨rfl,rfl,Xy,(Xu .i64 (4) rfl)⟩
 refine Xn 3 ?_;refine Xt 3 [(4,A.i E),(5,A.i 0)] (Xo 1 ?_);obtain rfl:=Xx k;exact Ym [] ⟨rfl,rfl,O,Xy⟩
def F.bl (k:Int):Option D23:=some [(1,1,[],(0,0,ByteArray.mk #[]),ByteArray.mk #[97],0,0),(2,12,[1],(0,0,ByteArray.mk #[]),ByteArray.mk #[],0,0),(3,14,[k],(0,0,ByteArray.mk #[]),ByteArray.mk #[],3,1),(4,5,[2,3],(0,0,ByteArray.mk #[]),ByteArray.mk #[],0,0),(5,2,[4],(1,0,ByteArray.mk #[]),ByteArray.mk #[],0,0),(6,13,[5],(0,0,ByteArray.mk #[]),ByteArray.mk #[],0,0),(7,15,[6],(0,0,ByteArray.mk #[]),ByteArray.mk #[98],0,0),(8,12,[6],(0,0,ByteArray.mk #[]),ByteArray.mk #[],0,0)]
theorem o_o (k:Int)(L:A.h6 k)(r:D23)(s:F.bl k=some r):
    A.Ct Tryd.prog 11 [A.i k] [] [] (fun v H'=>∃(A0':Option Addr) (c1':Nat),v=.agg #[.slice A0' r.length c1']∧H'=[(0,.sh (.slice T32) [.slice A0' r.length c1'] r)]):=by
 refine Xs Tryd.func11 rfl Tryd.ntmps11 rfl fun N O=>?_;rw[F.bl]at s;refine Xn 1 ?_;refine Xr 0 (cs:=[.slice none 0 0]) Tryd.zeroValue24 fun U=>?_;refine Xw 2 ?_;refine Xt 1 [(3,.agg #[A.i 1,A.i 1,.slice none 0 0,A.i 0,A.i 0,.string (ByteArray.mk #[]),.string (ByteArray.mk #[97]),A.i 0,A.i 0])] ?_;refine X9 1 (ty:=A.ti) (cs:=[A.i 1]) [1] ⟨⟨rfl,(Xu .i64 (1) rfl)⟩,rfl⟩ (fun u=>?_) Tryd.zeroValue3 Tryd.sizeOf3
 refine Xt 2 [(5,.agg #[A.i 2,A.i 12,.slice (some ⟨u,0,none⟩) 1 1,A.i 0,A.i 0,.string (ByteArray.mk #[]),.string (ByteArray.mk #[]),A.i 0,A.i 0]),(6,A.i k)] ?_;refine X9 2 (ty:=A.ti) (cs:=[A.i k]) [k] ⟨⟨rfl,L⟩,rfl⟩ (fun x=>?_) Tryd.zeroValue3 Tryd.sizeOf3
 refine Xt 1 [(8,.agg #[A.i 3,A.i 14,.slice (some ⟨x,0,none⟩) 1 1,A.i 0,A.i 0,.string (ByteArray.mk #[]),.string (ByteArray.mk #[]),A.i 3,A.i 1])] ?_;refine X9 3 (ty:=A.ti) (cs:=[A.i 2,A.i 3]) [2,3] ⟨⟨rfl,(Xu .i64 (2) rfl)⟩,⟨⟨rfl,(Xu .i64 (3) rfl)⟩,rfl⟩⟩ (fun y=>?_) Tryd.zeroValue3 Tryd.sizeOf3
 refine Xt 1 [(10,.agg #[A.i 4,A.i 5,.slice (some ⟨y,0,none⟩) 2 2,A.i 0,A.i 0,.string (ByteArray.mk #[]),.string (ByteArray.mk #[]),A.i 0,A.i 0])] ?_;refine X9 4 (ty:=A.ti) (cs:=[A.i 4]) [4] ⟨⟨rfl,(Xu .i64 (4) rfl)⟩,rfl⟩ (fun z=>?_) Tryd.zeroValue3 Tryd.sizeOf3
 refine Xt 2 [(13,.agg #[A.i 5,A.i 2,.slice (some ⟨z,0,none⟩) 1 1,A.i 1,A.i 0,.string (ByteArray.mk #[]),.string (ByteArray.mk #[]),A.i 0,A.i 0])] ?_;refine X9 5 (ty:=A.ti) (cs:=[A.i 5]) [5] ⟨⟨rfl,(Xu .i64 (5) rfl)⟩,rfl⟩ (fun B=>?_) Tryd.zeroValue3 Tryd.sizeOf3
 refine Xt 1 [(15,.agg #[A.i 6,A.i 13,.slice (some ⟨B,0,none⟩) 1 1,A.i 0,A.i 0,.string (ByteArray.mk #[]),.string (ByteArray.mk #[]),A.i 0,A.i 0])] ?_;refine X9 6 (ty:=A.ti) (cs:=[A.i 6]) [6] ⟨⟨rfl,(Xu .i64 (6) rfl)⟩,rfl⟩ (fun E=>?_) Tryd.zeroValue3 Tryd.sizeOf3
 refine Xt 1 [(17,.agg #[A.i 7,A.i 15,.slice (some ⟨E,0,none⟩) 1 1,A.i 0,A.i 0,.string (ByteArray.mk #[]),.string (ByteArray.mk #[98]),A.i 0,A.i 0])] ?_;refine X9 7 (ty:=A.ti) (cs:=[A.i 6]) [6] ⟨⟨rfl,(Xu .i64 (6) rfl)⟩,rfl⟩ (fun J=>?_) Tryd.zeroValue3 Tryd.sizeOf3
 refine Xt 1 [(19,.agg #[A.i 8,A.i 12,.slice (some ⟨J,0,none⟩) 1 1,A.i 0,A.i 0,.string (ByteArray.mk #[]),.string (ByteArray.mk #[]),A.i 0,A.i 0])] ?_;refine A.frz 1 [] ?_;refine A.frz 2 [] ?_;refine A.frz 3 [] ?_;refine A.frz 4 [] ?_;refine A.frz 5 [] ?_;refine A.frz 6 [] ?_;refine A.frz 7 [] ?_;refine X9 8 (ty:=T32) (cs:=[A.i 1,A.i 1,.slice none 0 0,A.i 0,A.i 0,.string (ByteArray.mk #[]),.string (ByteArray.mk #[97]),A.i 0,A.i 0,A.i 2,A.i 12,.slice (some ⟨u,0,none⟩) 1 1,A.i 0,A.i 0,.string (ByteArray.mk #[]),.string (ByteArray.mk #[]),A.i 0,A.i 0,A.i 3,A.i 14,.slice (some ⟨x,0,none⟩) 1 1,A.i 0,A.i 0,.string (ByteArray.mk #[]),.string (ByteArray.mk #[]),A.i 3,A.i 1,A.i 4,A.i 5,.slice (some ⟨y,0,none⟩) 2 2,A.i 0,A.i 0,.string (ByteArray.mk #[]),.string (ByteArray.mk #[]),A.i 0,A.i 0,A.i 5,A.i 2,.slice (some ⟨z,0,none⟩) 1 1,A.i 1,A.i 0,.string (ByteArray.mk #[]),.string (ByteArray.mk #[]),A.i 0,A.i 0,A.i 6,A.i 13,.slice (some ⟨B,0,none⟩) 1 1,A.i 0,A.i 0,.string (ByteArray.mk #[]),.string (ByteArray.mk #[]),A.i 0,A.i 0,A.i 7,A.i 15,.slice (some ⟨E,0,none⟩) 1 1,A.i 0,A.i 0,.string (ByteArray.mk #[]),.string (ByteArray.mk #[98]),A.i 0,A.i 0,A.i 8,A.i 12,.slice (some ⟨J,0,none⟩) 1 1,A.i 0,A.i 0,.string (ByteArray.mk #[]),.string (ByteArray.mk #[]),A.i 0,A.i 0]) [(1,1,[],(0,0,ByteArray.mk #[]),ByteArray.mk #[97],0,0),(2,12,[1],(0,0,ByteArray.mk #[]),ByteArray.mk #[],0,0),(3,14,[k],(0,0,ByteArray.mk #[]),ByteArray.mk #[],3,1),(4,5,[2,3],(0,0,ByteArray.mk #[]),ByteArray.mk #[],0,0),(5,2,[4],(1,0,ByteArray.mk #[]),ByteArray.mk #[],0,0),(6,13,[5],(0,0,ByteArray.mk #[]),ByteArray.mk #[],0,0),(7,15,[6],(0,0,ByteArray.mk #[]),ByteArray.mk #[98],0,0),(8,12,[6],(0,0,ByteArray.mk #[]),ByteArray.mk #[],0,0)] ⟨⟨⟨rfl,(Xu .i64 (1) rfl)⟩,⟨rfl,(Xu .i64 (1) rfl)⟩,.inr ⟨rfl,rfl⟩,⟨⟨rfl,Xy⟩,⟨rfl,Xy⟩,⟨rfl,(Yx (ByteArray.mk #[]) rfl)⟩⟩,⟨rfl,(Yx (ByteArray.mk #[97]) rfl)⟩,⟨rfl,Xy⟩,⟨rfl,Xy⟩⟩,⟨⟨⟨rfl,(Xu .i64 (2) rfl)⟩,⟨rfl,(Xu .i64 (12) rfl)⟩,.inl ⟨1,rfl⟩,⟨⟨rfl,Xy⟩,⟨rfl,Xy⟩,⟨rfl,(Yx (ByteArray.mk #[]) rfl)⟩⟩,⟨rfl,(Yx (ByteArray.mk #[]) rfl)⟩,⟨rfl,Xy⟩,⟨rfl,Xy⟩⟩,⟨⟨⟨rfl,(Xu .i64 (3) rfl)⟩,⟨rfl,(Xu .i64 (14) rfl)⟩,.inl ⟨2,rfl⟩,⟨⟨rfl,Xy⟩,⟨rfl,Xy⟩,⟨rfl,(Yx (ByteArray.mk #[]) rfl)⟩⟩,⟨rfl,(Yx (ByteArray.mk #[]) rfl)⟩,⟨rfl,(Xu .i64 (3) rfl)⟩,⟨rfl,(Xu .i64 (1) rfl)⟩⟩,⟨⟨⟨rfl,(Xu .i64 (4) rfl)⟩,⟨rfl,(Xu .i64 (5) rfl)⟩,.inl ⟨3,rfl⟩,⟨⟨rfl,Xy⟩,⟨rfl,Xy⟩,⟨rfl,(Yx (ByteArray.mk #[]) rfl)⟩⟩,⟨rfl,(Yx (ByteArray.mk #[]) rfl)⟩,⟨rfl,Xy⟩,⟨rfl,Xy⟩⟩,⟨⟨⟨rfl,(Xu .i64 (5) rfl)⟩,⟨rfl,(Xu .i64 (2) rfl)⟩,.inl ⟨4,rfl⟩,⟨⟨rfl,(Xu .i64 (1) rfl)⟩,⟨rfl,Xy⟩,⟨rfl,(Yx (ByteArray.mk #[]) rfl)⟩⟩,⟨rfl,(Yx (ByteArray.mk #[]) rfl)⟩,⟨rfl,Xy⟩,⟨rfl,Xy⟩⟩,⟨⟨⟨rfl,(Xu .i64 (6) rfl)⟩,⟨rfl,(Xu .i64 (13) rfl)⟩,.inl ⟨5,rfl⟩,⟨⟨rfl,Xy⟩,⟨rfl,Xy⟩,⟨rfl,(Yx (ByteArray.mk #[]) rfl)⟩⟩,⟨rfl,(Yx (ByteArray.mk #[]) rfl)⟩,⟨rfl,Xy⟩,⟨rfl,Xy⟩⟩,⟨⟨⟨rfl,(Xu .i64 (7) rfl)⟩,⟨rfl,(Xu .i64 (15) rfl)⟩,.inl ⟨6,rfl⟩,⟨⟨rfl,Xy⟩,⟨rfl,Xy⟩,⟨rfl,(Yx (ByteArray.mk #[]) rfl)⟩⟩,⟨rfl,(Yx (ByteArray.mk #[98]) rfl)⟩,⟨rfl,Xy⟩,⟨rfl,Xy⟩⟩,⟨⟨⟨rfl,(Xu .i64 (8) rfl)⟩,⟨rfl,(Xu .i64 (12) rfl)⟩,.inl ⟨7,rfl⟩,⟨⟨rfl,Xy⟩,⟨rfl,Xy⟩,⟨rfl,(Yx (ByteArray.mk #[]) rfl)⟩⟩,⟨rfl,(Yx (ByteArray.mk #[]) rfl)⟩,⟨rfl,Xy⟩,⟨rfl,Xy⟩⟩,rfl⟩⟩⟩⟩⟩⟩⟩⟩ (fun o=>?_) Tryd.zeroValue33 Tryd.sizeOf33
 refine Xt 1 [(21,.agg #[.slice (some ⟨o,0,none⟩) 8 8])] ?_;refine Ya 0 [] [.slice (some ⟨o,0,none⟩) 8 8] ?_;refine Xo 1 ?_;obtain rfl:=Xx s;refine A.frz 8 [] ?_;exact Ys [(0,8)] (.agg #[.slice (some ⟨o,0,none⟩) 8 8]) (fun a w hf hh=>Yy rfl (Y5 hf rfl Tryd.isAgg24 Tryd.sizeOf24 (Yj hh 0) rfl)) (⟨(some ⟨o,0,none⟩),8,rfl,rfl⟩)
def F.bp (o:D23):Option ((List Int)×Int):=(F.aW o).bind fun k=>A.om k.1 (if k.2≠0 then(some ([],k.2))else(none)) fun s=>(if k.2≠0 then(some ([],k.2))else(some (s.2.1,0)))
theorem o_al(o:D23)(r:(List Int)×Int)(k:F.bp o=some r):
    A.Ct Tryd.prog 12 [.agg #[.slice A0_ o.length c1_]] [(0,.sh (.slice T32) [.slice A0_ o.length c1_] o),(1,.el none 0 0 A.tabF),(2,.el none 1 0 A.tabA)] [] (fun v H'=>∃(A0':Option Addr) (c1':Nat),v=.tuple #[.slice A0' r.1.length c1',A.i r.2]∧H'=[(0,.own A.ti 3 A0' c1' r.1)]∧A.h6 r.2):=by
 refine Xs Tryd.func12 rfl Tryd.ntmps12 rfl fun J L=>?_;rw[F.bp]at k;refine Xn 1 ?_;refine X2 3 (cs:=[.slice A0_ o.length c1_]) fun N=>?_;refine Xt 2 [] (Xw 2 ?_);refine Xq [3] [] [.b 0 0] [(7,.agg #[.slice A0_ o.length c1_])] ?_;refine Yo 4 [] k (o_m A0_ c1_ o) (.s 0 (.s 1 (.s 2 .nil))) ?_;rintro u - k _ _ (⟨hp12,rfl,rfl,hr4⟩|⟨z,hp12,B,O,x,y,U,rfl,rfl,hr11⟩)
 ·refine X6 ?_;rw[A.om_n hp12]at k
  refine Xt 5 [(4,.pointer none),(5,A.i u.2)] (Xw 3 ?_);refine Xt 2 [(12,.bool (decide (u.2≠0)))] (Xo 1 ?_);refine Yn k ?_ ?_<;>intro E k
  ·refine Xn 1 ?_;refine Xt 3 [(2,.slice none 0 0),(3,A.i u.2)] (Xo 1 ?_);obtain rfl:=Xx k;refine A.nil 44 A.ti 3 ?_;exact Ym [(0,44)] ⟨none,0,rfl,rfl,hr4⟩
  refine Xn 3 ?_;refine Xt 1 [(14,.pointer none)] ?_;exact Yc k
 refine X6 ?_;rw[A.om_s hp12]at k
 refine Xt 5 [(4,.pointer (some ⟨B,0,none⟩)),(5,A.i u.2)] (Xw 3 ?_);refine Xt 2 [(12,.bool (decide (u.2≠0)))] (Xo 1 ?_);refine Yn k ?_ ?_<;>intro E k
 ·refine Xn 1 ?_;refine Xt 3 [(2,.slice none 0 0),(3,A.i u.2)] (Xo 1 ?_);obtain rfl:=Xx k;refine A.nil 45 A.ti 3 ?_;exact Ym [(0,45)] ⟨none,0,rfl,rfl,hr11⟩
 refine Xn 3 ?_;refine Xq [4] [] [.n,.n,.n,.b 0 1,.n,.n] [(2,.slice x z.2.1.length y),(3,A.i 0)] (Xo 1 ?_);obtain rfl:=Xx k;exact Ym [(0,6)] ⟨x,y,rfl,rfl,Xy⟩
def F.i (o:(List Int))(s:(List Int)):Nat→Int→Option Bool
 |0,_=>none
 |f+1,k=>if k<(o.length:Int)then((A.ix o k).bind fun u=>((A.ix s k).bind fun x=>(if u≠x then(some false)else(A.gd (Z.R64 (k+1)) ((F.i o s f) (k+1))))))else(some true)
def F.s (k:(List Int))(o:(List Int)):Option Bool:=if(k.length:Int)≠(o.length:Int)then(some false)else(F.i k o A.FU 0)
theorem o_h(u:(List Int))(x:(List Int))(r:Bool)(k:F.s u x=some r):
    A.Ct Tryd.prog 13 [.slice A0_ u.length c1_,.slice A2_ x.length c3_] [(0,.ln A.ti A0_ c1_ u),(1,.ln A.ti A2_ c3_ x)] [] (fun v H'=>v=.bool r∧H'=[]):=by
 refine Xs Tryd.func13 rfl Tryd.ntmps13 rfl fun Y F0=>?_;rw[F.s]at k;refine Xn 1 ?_;refine Xt 1 [] (Xw 3 ?_);refine Xt 5 [(10,.bool (decide ((u.length:Int)≠(x.length:Int))))] (Xo 1 ?_);refine Yn k ?_ ?_<;>intro y k
 ·refine Xn 1 ?_;refine Xt 1 [(4,.bool false)] (Xo 1 ?_);obtain rfl:=Xx k;exact X1 [] ⟨rfl,rfl⟩
 refine Xn 4 ?_;refine Xt 3 [(12,A.i (u.length:Int)),(13,A.i 0)] (Xo 2 ?_);refine Yf [0,1,12] [0,1] (fun f N O=>∃(o:Int),N=[(13,A.i o)]∧O=[]∧A.h6 o∧F.i u x f o=some r) ⟨0,rfl,rfl,Xy,k⟩ ?_;rintro z _ _ ⟨o,rfl,rfl,a2,k⟩;rcases z with _|z
 ·exact Yc k
 rw[F.i]at k;refine Xn 1 ?_;refine Xt 1 [(14,.bool (decide (o<(u.length:Int))))] (Xo 2 ?_);refine Yn k ?_ ?_<;>intro y k
 ·refine Xn 5 ?_;refine Xt 2 [(5,A.i o)] (Xo 2 ?_);refine Yi mixed 9 9 (A.mb 9 0) ?_;refine X8 X5 [] [0,1] [] [] (A.mb 9 51) 5 [(0,.n),(1,.n),(4,.n),(5,.n)] [(16,.slice A0_ u.length c1_),(17,A.i o),(20,.slice A2_ x.length c3_),(21,A.i o)] ?_;have⟨B,E,k⟩:=Yz k;refine A.AH.pkl 0 6 E fun a3=>?_;intro b8 o9 U;refine Yu X5 [0,1] [0,1,6] 2 (A.mb 9 55) rfl (fun a w hf hh=>Y0 (t:=A.ti) E U hf) ?_;refine X8 X5 [0,1,6] [0,1,6] [] [6] (A.mb 9 63) 3 [(3,.e 0 0)] [(19,A.i B)] ?_;have⟨V,J,k⟩:=Yz k;refine A.AH.pkl 1 7 J fun a4=>?_;intro a5 a6 W;refine Yu X5 [0,1,6] [0,1,6,7] 6 (A.mb 9 127) rfl (fun a w hf hh=>Y0 (t:=A.ti) J W hf) ?_;refine X8 X5 [0,1,6,7] [0,1,6,7] [] [7] (A.mb 9 511) 0 [(7,.e 0 0),(8,.n)] [(24,.bool (decide (B≠V)))] (X3 ?_);refine A.ex 1 ?_;refine Yn k ?_ ?_<;>intro y k
  ·refine Xn 1 ?_;refine Xt 1 [(4,.bool false)] (Xo 1 ?_);obtain rfl:=Xx k;exact X1 [] ⟨rfl,rfl⟩
  refine Xn 3 ?_;have⟨L,k⟩:=Yv k;refine Y8 2 [Z.R64 (o+1)] [(13,A.i (o+1))] L (Xp ?_);exact Yd ⟨_,Qg _,⟨(o+1),rfl,rfl,(Xv L),k⟩⟩
 refine Xn 3 ?_;refine Xt 1 [(4,.bool true)] (Xo 1 ?_);obtain rfl:=Xx k;exact X1 [] ⟨rfl,rfl⟩
def F.bq (o:D23):Option Int:=(F.aW o).bind fun k=>A.om k.1 (some k.2) fun s=>(some k.2)
theorem o_am(k:D23)(r:Int)(o:F.bq k=some r):
    A.Ct Tryd.prog 14 [.agg #[.slice A0_ k.length c1_]] [(0,.sh (.slice T32) [.slice A0_ k.length c1_] k),(1,.el none 0 0 A.tabF),(2,.el none 1 0 A.tabA)] [] (fun v H'=>v=A.i r∧H'=[]∧A.h6 r):=by
 refine Xs Tryd.func14 rfl Tryd.ntmps14 rfl fun x y=>?_;rw[F.bq]at o;refine Xn 1 ?_;refine X2 3 (cs:=[.slice A0_ k.length c1_]) fun z=>?_;refine Xt 1 [] (Xw 2 ?_);refine Xq [3] [] [.b 0 0] [(6,.agg #[.slice A0_ k.length c1_])] ?_;refine Yo 4 [] o (o_m A0_ c1_ k) (.s 0 (.s 1 (.s 2 .nil))) ?_;rintro u - o _ _ (⟨hp12,rfl,rfl,hr4⟩|⟨B,hp12,E,J,L,N,O,rfl,rfl,hr11⟩)
 ·refine X6 ?_;rw[A.om_n hp12]at o
  refine Xt 5 [(4,A.i u.2)] (Xw 2 ?_);refine Xt 2 [(2,A.i u.2)] (Xo 1 ?_);obtain rfl:=Xx o;exact X1 [] ⟨rfl,rfl,hr4⟩
 refine X6 ?_;rw[A.om_s hp12]at o
 refine Xt 5 [(4,A.i u.2)] (Xw 2 ?_);refine Xt 2 [(2,A.i u.2)] (Xo 1 ?_);obtain rfl:=Xx o;exact X1 [] ⟨rfl,rfl,hr11⟩
def F.aM (k:Bool):Option Bool:=some k
def F.bd:Option Bool:=(F.bl 5).bind fun u=>((F.bo u 4).bind fun k=>((F.bl 5).bind fun x=>((F.bp x).bind fun o=>(if(bif bif decide (k.2=0)then decide (k.1=1)else false then decide (o.2=0)else false)=true then((F.s o.1 [1,2,3,4,5,6,7,8]).bind fun y=>(if y=true then((F.bl 8).bind fun z=>((F.bq z).bind fun B=>(F.aM (decide (B=81)))))else(F.aM false)))else(F.aM false)))))
theorem o_z (r:Bool)(k:F.bd=some r):
    A.Ct Tryd.prog 4 [] [(0,.el none 0 0 A.tabF),(1,.el none 1 0 A.tabA)] [] (fun v H'=>v=.bool r∧H'=[]):=by
 refine Xs Tryd.func4 rfl Tryd.ntmps4 rfl fun w0 F0=>?_;rw[F.bd]at k;refine Xn 1 ?_;refine Xt 1 [] (Xw 2 ?_);refine Yo 2 [] k (o_o 5 (Xu .i64 (5) rfl)) .nil ?_;rintro J - k _ _ ⟨L,N,rfl,rfl⟩;refine X6 ?_;refine Yo 42 [] k (o_ak L N J 4 (Xu .i64 (4) rfl)) (.s 2 (.s 0 (.s 1 .nil))) ?_;rintro x - k _ _ ⟨rfl,rfl,hr7,hr8⟩;refine X6 ?_;refine Xt 5 [(1,A.i x.1),(2,A.i x.2)] (Xw 2 ?_);refine Yo 82 [] k (o_o 5 (Xu .i64 (5) rfl)) .nil ?_;rintro O - k _ _ ⟨U,V,rfl,rfl⟩;refine X6 ?_;refine Yo 122 [] k (o_al U V O) (.s 82 (.s 0 (.s 1 .nil))) ?_;rintro u - k _ _ ⟨y,z,rfl,rfl,hr17⟩;refine X6 ?_;refine Xt 5 [(3,.slice y u.1.length z),(4,A.i u.2)] (Xo 1 ?_);refine Xz [] [0,1] (fun W Y=>∃(B:Bool),W=[(0,.bool B)]∧Y=[]∧F.aM B=some r) ?_ ?_
 ·refine Xn 0 ?_;refine Xq [] [] [.n,.n,.n,.sy .n,.sy .n,.pk,.n,.sy .n,.sy .n,.pk,.n] [(25,.bool (bif bif decide (x.2=0)then decide (x.1=1)else false then decide (u.2=0)else false))] ?_;refine Yg (j:=25) rfl k (fun k=>?_) (fun k=>?_)
  ·refine Xq [] [] [.on .n] [(26,.slice y u.1.length z)] ?_;refine Ye (dj:=25) rfl rfl ?_;refine X9 162 (ty:=A.ti) (cs:=[A.i 1,A.i 2,A.i 3,A.i 4,A.i 5,A.i 6,A.i 7,A.i 8]) [1,2,3,4,5,6,7,8] ⟨⟨rfl,(Xu .i64 (1) rfl)⟩,⟨⟨rfl,(Xu .i64 (2) rfl)⟩,⟨⟨rfl,(Xu .i64 (3) rfl)⟩,⟨⟨rfl,(Xu .i64 (4) rfl)⟩,⟨⟨rfl,(Xu .i64 (5) rfl)⟩,⟨⟨rfl,(Xu .i64 (6) rfl)⟩,⟨⟨rfl,(Xu .i64 (7) rfl)⟩,⟨⟨rfl,(Xu .i64 (8) rfl)⟩,rfl⟩⟩⟩⟩⟩⟩⟩⟩ (fun a0=>?_) Tryd.zeroValue3 Tryd.sizeOf3
   refine Ye (dj:=25) rfl rfl ?_;refine Yo 163 [] k (o_h y (some ⟨a0,0,none⟩) z 8 u.1 [1,2,3,4,5,6,7,8]) (.o 122 (.o 162 .nil)) ?_;rintro a1 - k _ _ ⟨rfl,rfl⟩;refine X6 ?_;refine Xt 2 [(30,.bool a1)] ?_;refine Yg (j:=30) rfl k (fun k=>?_) (fun k=>?_)
   ·refine Ye (dj:=30) rfl rfl ?_;refine Yo 203 [] k (o_o 8 (Xu .i64 (8) rfl)) .nil ?_;rintro a2 - k _ _ ⟨a3,a4,rfl,rfl⟩;refine X6 ?_;refine Ye (dj:=30) rfl rfl ?_;refine Yo 243 [] k (o_am a3 a4 a2) (.s 203 (.s 0 (.s 1 .nil))) ?_;rintro E - k _ _ ⟨rfl,rfl,hr28⟩;refine X6 ?_;refine Xq [] [] [.on .n,.n,.n] [(0,.bool (decide (E=81)))] (Xp ?_);exact Yd ⟨(decide (E=81)),rfl,rfl,k⟩
   refine Xq [] [] [.off,.off,.off,.n,.n] [(0,.bool false)] (Xp ?_);exact Yd ⟨false,rfl,rfl,k⟩
  refine Xq [] [] [.off,.off,.off,.n,.n,.off,.off,.off,.n,.n] [(0,.bool false)] (Xp ?_);exact Yd ⟨false,rfl,rfl,k⟩
 rintro _ _ ⟨B,rfl,rfl,k⟩;rw[F.aM]at k;obtain rfl:=Xx k;exact X1 [] ⟨rfl,rfl⟩
def F.aE (o:D23):Nat→Int→Int→Option Bool
 |0,_,_=>none
 |f+1,s,u=>if u<((List.take ((min (o.length:Int) 99).toNat) o).length:Int)then((A.ix (List.take ((min (o.length:Int) 99).toNat) o) u).bind fun k=>(A.gd (Z.R64 (s+(min (k.2.2.1.length:Int) 1048576))∧Z.R64 ((s+(min (k.2.2.1.length:Int) 1048576))+(min (k.2.2.2.2.1.size:Int) 1048576))∧Z.R64 (((s+(min (k.2.2.1.length:Int) 1048576))+(min (k.2.2.2.2.1.size:Int) 1048576))+(min (k.2.2.2.1.2.2.size:Int) 1048576))) (A.gd (Z.R64 (u+1)) ((F.aE o f) (min (((s+(min (k.2.2.1.length:Int) 1048576))+(min (k.2.2.2.2.1.size:Int) 1048576))+(min (k.2.2.2.1.2.2.size:Int) 1048576)) 1048576) (u+1)))))else(some (bif decide ((o.length:Int)≤40)then decide (s≤5000)else false))
def F.bi (k:D23):Option Bool:=A.gd (0≤min (k.length:Int) 99∧(min (k.length:Int) 99).toNat≤k.length) (F.aE k A.FU 0 0)
theorem o_ai(s:D23)(r:Bool)(o:F.bi s=some r):
    A.Ct Tryd.prog 5 [.agg #[.slice A0_ s.length c1_]] [(0,.sh (.slice T32) [.slice A0_ s.length c1_] s)] [] (fun v H'=>v=.bool r∧H'=[]):=by
 refine Xs Tryd.func5 rfl Tryd.ntmps5 rfl fun V W=>?_;rw[F.bi]at o;refine Xn 1 ?_;refine X2 1 (cs:=[.slice A0_ s.length c1_]) fun Y=>?_;refine Xt 1 [] (Xw 2 ?_);refine Xt 1 [(3,A.i 0)] (Xw 3 ?_);refine Xq [1] [] [.n,.b 0 0,.n,.b 0 0,.n,.n] [(7,.slice A0_ s.length c1_),(11,A.i (min (s.length:Int) 99))] ?_;have⟨y,o⟩:=Yv o;refine A.AL.cuth 0 2 (v:=(min (s.length:Int) 99).toNat) (Int.toNat_of_nonneg y.1).symm y.2 fun c4=>?_;refine Xt 2 [(13,A.i ((List.take ((min (s.length:Int) 99).toNat) s).length:Int)),(14,A.i 0)] (Xo 2 ?_);refine Yf [1,12,13] [0,1,2] (fun f N O=>∃(u:Int),∃(x:Int),N=[(3,A.i u),(14,A.i x)]∧O=[]∧A.h6 u∧A.h6 x∧F.aE s f u x=some r) ⟨0,0,rfl,rfl,Xy,Xy,o⟩ ?_;rintro z _ _ ⟨u,x,rfl,rfl,a1,a2,o⟩;rcases z with _|z
 ·exact Yc o
 rw[F.aE]at o;refine Xn 1 ?_;refine Xt 1 [(15,.bool (decide (x<((List.take ((min (s.length:Int) 99).toNat) s).length:Int))))] (Xo 2 ?_);refine Yn o ?_ ?_<;>intro hb o
 ·refine Xn 5 ?_;have⟨k,U,o⟩:=Yz o;refine Yh 2 9 U fun a3=>?_;intro B E a4 a5;refine Xq [] [9] [.e 0 0] [(17,.agg #[A.i k.1,A.i k.2.1,.slice B k.2.2.1.length E,A.i k.2.2.2.1.1,A.i k.2.2.2.1.2.1,.string k.2.2.2.1.2.2,.string k.2.2.2.2.1,A.i k.2.2.2.2.2.1,A.i k.2.2.2.2.2.2])] ?_;refine Xr 11 (cs:=l2a) Tryd.zeroValue33 fun a6=>?_;refine Ya 11 [] [A.i k.1,A.i k.2.1,.slice B k.2.2.1.length E,A.i k.2.2.2.1.1,A.i k.2.2.2.1.2.1,.string k.2.2.2.1.2.2,.string k.2.2.2.2.1,A.i k.2.2.2.2.2.1,A.i k.2.2.2.2.2.2] ?_;refine Xw 1 ?_;have⟨J,o⟩:=Yv o;refine A.q [11] [] [.n,.n,.b 0 2,.n,.n,.n,.n,.b 0 6,.n,.n,.n,.n,.n,.b 0 5,.n,.n,.n,.n,.n] [Z.R64 (u+(min (k.2.2.1.length:Int) 1048576)),Z.R64 ((u+(min (k.2.2.1.length:Int) 1048576))+(min (k.2.2.2.2.1.size:Int) 1048576)),Z.R64 (((u+(min (k.2.2.1.length:Int) 1048576))+(min (k.2.2.2.2.1.size:Int) 1048576))+(min (k.2.2.2.1.2.2.size:Int) 1048576))] [(3,A.i (min (((u+(min (k.2.2.1.length:Int) 1048576))+(min (k.2.2.2.2.1.size:Int) 1048576))+(min (k.2.2.2.1.2.2.size:Int) 1048576)) 1048576))] J (Xw 2 ?_);have⟨L,o⟩:=Yv o;refine Y8 2 [Z.R64 (x+1)] [(14,A.i (x+1))] L (Xp ?_);exact Yd ⟨_,Qg _,⟨(min (((u+(min (k.2.2.1.length:Int) 1048576))+(min (k.2.2.2.2.1.size:Int) 1048576))+(min (k.2.2.2.1.2.2.size:Int) 1048576)) 1048576),(x+1),rfl,rfl,(A.has_min (Xv J.2.2) (Xu .i64 (1048576) rfl)),(Xv L),o⟩⟩
 refine Xn 3 ?_;refine Xq [1] [] [.n,.b 0 0,.n,.n,.n,.sy .n,.sy .n,.pk,.n] [(2,.bool (bif decide ((s.length:Int)≤40)then decide (u≤5000)else false))] (Xo 1 ?_);obtain rfl:=Xx o;exact X1 [] ⟨rfl,rfl⟩
end Go.Proofs.YtdimhhfngpppoaaDoor
end
section
set_option linter.tactic.unusedName false
namespace Go.Dr
open Go
def R {α:Type}(n:Nat):Result α→Prop
 | .ok _ w=>n≤w.drawn
 | .halt _ w=>n≤w.drawn
theorem ask {α:Type}: ∀(a:Ask α) (w:World),w.drawn≤(w.ask a).2.drawn
 | .done a,w=>Q7 _
 | .ask what range k,w=>by
  unfold World.ask
  dsimp only
  split
  ·exact ask _ w
  ·exact Q6 (Nat.le_succ _) (ask _ {w with drawn:=w.drawn+1})
theorem sys (w:World)(c:Sys):w.drawn≤(w.sys c).2.drawn:=by
 unfold World.sys
 have h:=ask (Kernel.perform c w.os) w
 split
 ·exact Q7 _
 ·rename_i e;rw[e]at h;exact h
def EP {ε α:Type}(P:α→Prop)(x:Except ε α):Prop:=∀a,x=.ok a→P a
theorem eb {ε α β:Type}{P:β→Prop}{x:Except ε α}{f:α→Except ε β}(h: ∀a,EP P (f a)):EP P (x >>= f):=fun b E=>by
 cases x with
 |error e=>cases E
 |ok a=>exact h a b E
theorem et {α:Type}{P:α→Prop}{e:String}:EP P (MonadExcept.throw e:Except String α):=fun _ h=>by cases h
theorem ep {ε α:Type}{P:α→Prop}{a:α}(h:P a):EP P (pure a:Except ε α):=fun b E=>by injection E with E;subst E;exact h
theorem vs0 (w:World)(p:Program)(at_:Addr)(u:TypeId)(a:Addr)(v:Value)(b:Bool):EP (fun r=>r.1.drawn=w.drawn) (w.viewStore p at_ u a v b):=by
 unfold World.viewStore
 dsimp only
 repeat' first|exact et|exact ep rfl|(refine eb fun _=>?_)|split|dsimp only
theorem vs {w w':World}{p:Program}{at_:Addr}{u:TypeId}{a:Addr}{v:Value}{b:Bool}{l:List Addr}(h:w.viewStore p at_ u a v b=.ok (w',l)):w'.drawn=w.drawn:=vs0 w p at_ u a v b _ h
theorem fs {w w':World}{p:Program}{a:Addr}{v:Value}{b:Bool}{l:List Addr}(h:w.farStore p a v b=.ok (w',l)):w'.drawn=w.drawn:=by
 unfold World.farStore at h
 split at h
 ·split at h
  ·rename_i e;injection h with h;subst h;exact vs e
  ·cases h
 ·cases h
theorem run {α:Type}(p:Program)(n:Nat): ∀(s:Sem α) (w:World),n≤w.drawn→R n (s.run p w):=by
 intro s
 induction s with
 |pure a=>intro w h;exact h
 |load m a k E=>
  intro w h;unfold Sem.run
  split
  ·exact E _ w h
  ·(split)
   ·exact E _ w h
   ·exact h
 |store m a v k E=>
  intro w h
  cases v
  all_goals
   unfold Sem.run
   first|exact h|skip
  all_goals
   split
   ·(split)
    ·exact h
    ·exact E _ h
   ·(split)
    ·rename_i e;exact E _ (by rw[fs e];exact h)
    ·exact h
 |choose q k E=>
  intro w h;unfold Sem.run
  split
  ·exact E _ w h
  ·exact E _ _ (Nat.le_succ_of_le h)
 |sys c k E=>intro w h;unfold Sem.run;exact E _ _ (Q6 h (sys w c))
 |new o k E=>intro w h;unfold Sem.run;exact E _ _ h
 |shape r k E=>intro w h;unfold Sem.run;exact E _ _ h
 |freeze a n k E=>intro w h;unfold Sem.run;refine E _ ?_;unfold World.freeze;((repeat' split)<;>(exact h))
 |frozen a k E=>intro w h;unfold Sem.run;exact E _ _ h
 |getObj r k E=>intro w h;unfold Sem.run;((repeat' split)<;>(first|exact h|exact E _ _ h))
 |setObj r o k E=>intro w h;unfold Sem.run;((repeat' split)<;>(first|exact h|exact E _ h))
 |program k E=>intro w h;unfold Sem.run;exact E _ _ h
 |mark m k E=>intro w h;unfold Sem.run;exact E _ h
 |halt x=>intro w h;exact h
theorem runT {α:Type}(p:Program)(n:Nat)(s:Sem α)(w:World)(es:Array Event)(h:n≤w.drawn):R n (s.runT p w es).1:=by
 induction s generalizing w es with
 |pure a=>exact h
 |halt x=>exact h
 |choose q k E=>
  unfold Sem.runT
  split
  ·exact E _ w _ h
  ·exact E _ _ _ (Nat.le_succ_of_le h)
 |sys c k E=>unfold Sem.runT;exact E _ _ _ (Q6 h (sys w c))
 |freeze a n k E=>unfold Sem.runT;refine E _ _ ?_;unfold World.freeze;((repeat' split)<;>(exact h))
 |store m a v k E=>
  cases v
  all_goals
   unfold Sem.runT
   first|exact h|skip
  all_goals
   split
   ·(split)
    ·exact h
    ·exact E _ _ h
   ·(split)
    ·rename_i e;exact E _ _ (by rw[fs e];exact h)
    ·exact h
 |_=>
  unfold Sem.runT
  repeat' split
  all_goals first|exact h|(rename_i E;exact E _ _ _ h)|(rename_i E;exact E _ _ h)|(rename_i E _;exact E _ _ _ h)|(rename_i E _;exact E _ _ h)|(rename_i E _ _;exact E _ _ _ h)|(rename_i E _ _;exact E _ _ h)|(rename_i E _ _ _;exact E _ _ _ h)|(rename_i E _ _ _;exact E _ _ h)|(rename_i E _ _ _ _;exact E _ _ _ h)|(rename_i E _ _ _ _;exact E _ _ h)|(rename_i E _ _ _ _ _;exact E _ _ _ h)|(rename_i E _ _ _ _ _ _;exact E _ _ _ h)
def G (n:Nat):GStep→Prop
 | .go _ w _| .comm _ _ _ _ w _| .spawn _ _ w _| .count _ w _| .timer _ _ w _| .alone _ _ w _| .newcoro _ _ _ w _| .coroswitch _ _ _ w _| .collect _ w _| .watch _ w _=>n≤w.drawn
 | .ended _ _ _=>True
theorem after {n:Nat}{es:Array Event}{g:GStep}(h:G n g):G n (g.after es):=by cases g<;>exact h
variable {p:Program}{n:Nat}{w:World}
theorem ro {α:Type}{s:Sem α}{v:α}{w':World}(e:s.run p w=.ok v w')(h:n≤w.drawn):n≤w'.drawn:=by have:=run p n s w h;rw[e]at this;exact this
theorem rh {α:Type}{s:Sem α}{v:Halt}{w':World}(e:s.run p w=.halt v w')(h:n≤w.drawn):n≤w'.drawn:=by have:=run p n s w h;rw[e]at this;exact this
theorem gi {c:Prop}[Decidable c]{a b:GStep}(E:G n a)(J:G n b):G n (if c then a else b):=by split<;>assumption
theorem rto {α:Type}{s:Sem α}{v:α}{w':World}{es es':Array Event}(e:s.runT p w es=(.ok v w',es'))(h:n≤w.drawn):n≤w'.drawn:=by have:=runT p n s w es h;rw[e]at this;exact this
theorem rtr {α:Type}{s:Sem α}{r:Result α}{es es':Array Event}(e:s.runT p w es=(r,es'))(h:n≤w.drawn):R n r:=by have:=runT p n s w es h;rw[e]at this;exact this
theorem rth {α:Type}{s:Sem α}{v:Halt}{w':World}{es es':Array Event}(e:s.runT p w es=(.halt v w',es'))(h:n≤w.drawn):n≤w'.drawn:=by have:=runT p n s w es h;rw[e]at this;exact this
theorem endThrow (fr:Frame)(m:String)(h:n≤w.drawn):G n (Go.endThrow fr m w):=h
theorem endPrinting (fr:Frame)(v:Value)(h:n≤w.drawn):G n (Go.endPrinting p fr v w):=by
 unfold Go.endPrinting;dsimp only;split
 ·exact h
 ·trivial
theorem endWith (fd:Nat)(t:ByteArray)(o:Outcome):G n (Go.endWith w fd t o):=by
 unfold Go.endWith;dsimp only;((repeat' split)<;>(trivial))
theorem endFatal (fr:Frame)(cs:List Frame)(d:Option Dying)(m:String)(h:n≤w.drawn):G n (Go.endFatal p fr cs d m w):=by
 unfold Go.endFatal;extract_lets
 split
 ·rename_i e;exact ro e h
 ·trivial
 ·trivial
theorem writeOn (fr:Frame)(d:Dying)(f:Fatal)(h:n≤w.drawn):G n (Go.writeOn p fr d f w):=by
 unfold Go.writeOn;extract_lets
 split
 ·trivial
 ·extract_lets
  split
  all_goals first|trivial|(rename_i e;exact rto e h)|(rename_i e;exact rth e h)
theorem die (fr:Frame)(d:Dying)(h:n≤w.drawn):G n (Go.die p fr d w):=by
 unfold Go.die
 split
 ·exact writeOn _ _ _ h
 ·(split)
  ·(split)
   ·exact h
   ·exact endWith _ _ _
  ·extract_lets J
   split
   ·exact h
   ·(split)
    ·rename_i e;exact ro e h
    ·trivial
   ·rename_i t recv name _
    have E:=runT p n (invoke (.fn (.method name) #[]) #[.iface t recv]) w #[] h
    split
    rename_i r es e
    rw[e]at E
    refine after ?_
    split
    all_goals first|trivial|exact E|exact endPrinting _ _ E
   ·trivial
theorem doReturn (main:Bool)(fr:Frame)(cs:List Frame)(d:Option Dying)(v:Value)(h:n≤w.drawn):G n (Go.doReturn p main fr cs d v w):=by
 unfold Go.doReturn
 repeat' split
 all_goals first|trivial|exact h
theorem callDeferred (fr:Frame)(cs:List Frame)(dy:Option Dying)(d:Deferred)(h:n≤w.drawn):G n (Go.callDeferred p fr cs dy d w):=by
 unfold Go.callDeferred
 refine gi trivial ?_
 ·have E:=runT p n (invoke d.target d.args) w #[] h
  split
  rename_i r es e
  rw[e]at E
  extract_lets
  refine after ?_
  split
  all_goals first|trivial|exact E|exact endFatal _ _ _ _ E|exact endThrow _ _ E|(split<;>first|trivial|exact E)
theorem unwind (main:Bool)(fr:Frame)(cs:List Frame)(dy:Option Dying)(h:n≤w.drawn):G n (Go.unwind p main fr cs dy w):=by
 unfold Go.unwind
 split
 ·rename_i block _ _ _
  have E:=runT p n (Instr.takeDeferred block) w #[] h
  split
  rename_i r es e
  rw[e]at E
  refine after ?_
  split
  ·exact E
  ·trivial
 ·exact callDeferred _ _ _ _ h
 ·(split)
  ·trivial
  ·(split)
   ·trivial
   ·(split)
    ·exact h
    ·(split)
     ·(split)
      ·exact h
      ·(split)
       ·rename_i e;exact ro e h
       ·trivial
       ·trivial
     ·(split)
      ·exact endPrinting _ _ h
      ·trivial
  ·(split)
   ·exact doReturn _ _ _ _ _ h
   ·rename_i fn _
    have E:=runT p n (results fn fr.tmps) w #[] h
    split
    rename_i r es e
    rw[e]at E
    refine after ?_
    split
    ·exact doReturn _ _ _ _ _ E
    ·trivial
    ·trivial
theorem early (fr:Frame)(cs:List Frame)(dy:Option Dying)(g:Nat)(h:n≤w.drawn):G n (Go.early p fr cs dy g w):=by
 unfold Go.early;extract_lets refuse notYet
 have J: ∀w:World,n≤w.drawn→G n (notYet w):=fun w h=>by
  show G n (match w.heap[g]? with|some (.pending c elem)=>_|_=>_)
  split
  ·exact h
  ·trivial
 split
 ·exact J w h
 ·(split)
  ·trivial
  ·extract_lets there
   have E: ∀w:World,n≤w.drawn→G n (there w):=fun w h=>h
   repeat' split
   all_goals first|trivial|exact J w h|exact E w h|(rename_i e;exact J _ (ro e h))|(rename_i e;exact E _ (ro e h))|(rename_i e _;exact E _ (ro e h))|(rename_i _ e;exact E _ (ro e h))
theorem oe {α:Type}{o:Option α}{a:GStep}{f:α→GStep}(E:G n a)(J: ∀x,G n (f x)):G n (o.elim a f):=by cases o with
 |none=>exact E
 |some x=>exact J x
theorem app (listen:Bool)(fr:Frame)(cs:List Frame)(dy:Option Dying)(s:Sem Next)(h:n≤w.drawn):G n (Go.stepG.apply p listen fr cs dy s w):=by
 unfold Go.stepG.apply
 extract_lets
 have E:R n (if listen=true then s.runT p w #[]else(s.run p w,#[])).1:=by
  split
  ·exact runT p n s w #[] h
  ·exact run p n s w h
 split
 rename_i r es e
 rw[e]at E
 extract_lets
 refine after ?_
 split
 all_goals first|trivial|exact E|exact endFatal _ _ _ _ E|exact endThrow _ _ E|exact early _ _ _ _ E|(split<;>first|trivial|exact E|(exact gi (endThrow _ _ E) E))|exact gi (endThrow _ _ E) E
theorem oper (listen:Bool)(fr:Frame)(cs:List Frame)(dy:Option Dying)(h:n≤w.drawn):G n (Go.stepG.oper p listen fr cs dy w):=by
 unfold Go.stepG.oper
 repeat' split
 all_goals first|trivial|exact app _ _ _ _ _ h
theorem exec (main listen:Bool)(fr:Frame)(cs:List Frame)(dy:Option Dying)(h:n≤w.drawn):G n (Go.stepG.exec p main listen fr cs dy w):=by
 unfold Go.stepG.exec
 extract_lets go tgo lost leave
 have L: ∀fr w,n≤w.drawn→G n (go fr w):=fun _ _ h=>h
 have E: ∀k,G n (tgo k):=fun k=>h
 have hlost: ∀k,G n (lost k):=fun k=>trivial
 have hleave: ∀j,G n (leave j):=fun j=>by
  unfold leave
  split
  ·refine gi h trivial
  ·(split)
   rename_i r es e
   have J:=rtr e h
   refine after ?_
   split
   ·exact doReturn _ _ _ _ _ J
   ·trivial
 split
 case h_1=>exact hleave none
 case h_2=>exact hleave (some .ret)
 case h_13=>exact oe (hleave (some (.exit _))) E
 case h_14=>exact oe (hleave (some (.goto _))) E
 all_goals first
  |exact E _|trivial|exact app _ _ _ _ _ h|exact hlost _
  |(split<;>first|exact E _|exact hlost _)
  |(refine gi (E _) ?_;split<;>first|trivial|(rename_i e;exact ro e h))
  |(refine gi (oper _ _ _ _ h) ?_;exact h)
  |exact oe (hlost _) fun _=>app _ _ _ _ _ h
  |(split;rename_i r es e;have J:=rtr e h;refine after ?_;split<;>first|trivial|exact J|exact app _ _ _ _ _ J)
theorem stepG (main listen:Bool)(g:Goroutine)(h:n≤w.drawn):G n (Go.stepG p main g w listen):=by
 unfold Go.stepG
 split
 split
 ·exact die _ _ h
 ·exact exec _ _ _ _ _ h
 ·exact unwind _ _ _ _ h
def S (n:Nat):Stepped→Prop
 | .next m=>n≤m.world.drawn
 | .ended _ _=>True
theorem si {c:Prop}[Decidable c]{a b:Stepped}(E:S n a)(J:S n b):S n (if c then a else b):=by split<;>assumption
theorem si1 {α:Type}{c:Prop}[Decidable c]{a b:Stepped×α}(E:S n a.1)(J:S n b.1):S n (if c then a else b).1:=by split<;>assumption
theorem waitingAt {rest:Rest}{cs:Array CommCase}{w w':World}(h:Go.waitingAt rest cs w=some w'):w'.drawn=w.drawn:=by
 unfold Go.waitingAt at h
 split at h
 ·split at h
  ·injection h with h;subst h;rfl
  ·cases h
 ·injection h with h;subst h;rfl
theorem comm (rest:Rest)(gs:Array Goroutine)(i:Nat)(g:Goroutine)(cases:Array CommCase)(b:Bool)(sh:CommShape)(h:n≤w.drawn):S n (communicate p rest gs i g cases b sh w).1:=by
 unfold communicate
 extract_lets put
 refine si1 trivial ?_
 extract_lets ready
 refine si1 ?_ ?_
 ·refine si1 ?_ h
  split
  ·rename_i e;show n≤World.drawn _;rw[waitingAt e];exact h
  ·trivial
 ·extract_lets pick
  split
  ·trivial
  ·rename_i e
   have E:=ro e h
   extract_lets r
   split
   ·(split)
    ·rename_i J;exact rh J E
    ·trivial
   ·exact E
   ·exact E
   ·extract_lets v buf
    split
    ·exact E
    ·(split)
     ·rename_i L;have N:=ro L E;exact N
     ·trivial
   ·exact E
   ·exact E
   ·trivial
theorem look (gs:Array Goroutine)(rest:Rest)(h:n≤w.drawn):S n (Go.look p gs rest w):=by
 unfold Go.look
 split
 ·(split)
  extract_lets
  refine si trivial ?_
  extract_lets
  split
  ·trivial
  ·extract_lets
   split
   ·rename_i e;have E:=ro e h;exact E
   ·trivial
   ·trivial
 ·trivial
theorem drain (w:World)(c:Nat):(Go.drain w c).2.drawn=w.drawn:=by
 unfold Go.drain;split<;>rfl
theorem retime (m:Machine)(k:Nat)(t:Timer)(a b:Nat):(Go.retime m k t a b).2.world.drawn=m.world.drawn:=by
 unfold Go.retime
 split
 rename_i e
 split at e
 ·rename_i c _
  have:=drain m.world c
  rw[e]at this;exact this
 ·injection e with _ e;subst e;rfl
theorem named (m:Machine)(v:Addr)(f:Nat→Timer→Value×Machine){d:Nat}(E: ∀k t,(f k t).2.world.drawn=d){r:Value×Machine}(e:timerOp.named m v f=.ok r):r.2.world.drawn=d:=by
 unfold timerOp.named at e
 split at e
 ·injection e with e;subst e;exact E _ _
 ·cases e
theorem opened {m m':Machine}{v:Addr}(e:timerOp.opened m v=some m'):m'.world.drawn=m.world.drawn:=by
 unfold timerOp.opened at e
 split at e
 ·split at e
  ·injection e with e;subst e;rfl
  ·cases e
 ·injection e with e;subst e;rfl
theorem timer (m:Machine)(op:TimerOp){r:Value×Machine}(e:timerOp m op=.ok r):r.2.world.drawn=m.world.drawn:=by
 unfold timerOp at e
 split at e
 ·split at e
  ·injection e with e;subst e;rfl
  ·split at e
   ·split at e
    ·cases e
    ·injection e with e;subst e;rfl
   ·cases e
 ·exact named _ _ _ (fun _ _=>retime _ _ _ _ _) e
 ·split at e
  ·rename_i J E
   exact(named _ _ _ (fun _ _=>retime _ _ _ _ _) e).trans (opened E)
  ·cases e
 ·injection e with e;subst e;rfl
theorem commr {rest:Rest}{gs:Array Goroutine}{i:Nat}{g:Goroutine}{cases:Array CommCase}{b:Bool}{sh:CommShape}{r:Stepped}{ops:Array MemOp}(e:communicate p rest gs i g cases b sh w=(r,ops))(h:n≤w.drawn):S n r:=by have:=comm (p:=p) rest gs i g cases b sh h;rw[e]at this;exact this
theorem et1 {fr:Frame}{m:String}{g:GStep}(e:Go.endThrow fr m w=g)(h:n≤w.drawn):G n g:=e▸endThrow fr m h
theorem runM (m:Machine)(i:Nat)(listen:Bool)(h:n≤m.world.drawn):S n (Go.runT p m i listen).1:=by
 unfold Go.runT
 extract_lets rest world
 split
 extract_lets wake fn pos s ops done
 have J: ∀r,(done r).1=r:=fun _=>rfl
 have E:G n s:=stepG _ _ _ h
 clear_value s
 split
 ·trivial
 ·(split)
  rename_i e
  exact commr e E
 all_goals first|exact E|exact si trivial E|exact look _ _ E|skip
 ·rw[J]
  split
  ·exact E
  ·(split)
   ·rename_i e;exact et1 e E
   ·trivial
  ·trivial
 ·rw[J]
  split
  ·rename_i e;have L:=timer _ _ e;exact Q6 E (Nat.le_of_eq L.symm)
  ·(split)
   ·rename_i e;exact et1 e E
   ·trivial
  ·trivial
  ·trivial
theorem serve (m:Machine)(k:Nat)(h:n≤m.world.drawn):S n (Go.serve p m k):=by
 unfold Go.serve
 split
 ·trivial
 ·exact h
 ·extract_lets
  split
  ·trivial
  ·exact h
def M (n:Nat):Move→Prop
 | .goroutine m _=>n≤m.world.drawn
 | .machine s _=>S n s
theorem askOn (m:Machine)(h:n≤m.world.drawn):M n (Go.askOn p m):=by
 unfold Go.askOn
 extract_lets mono rs ds pick
 have hp: ∀m:Machine,n≤m.world.drawn→M n (pick m):=fun m h=>by
  simp only[pick]
  split
  ·trivial
  ·rename_i e;have E:=ro e h
   split
   ·exact E
   ·(split)
    ·trivial
    ·rename_i N;exact ro N E
 clear_value pick
 split
 ·trivial
 ·rename_i e;have E:=ro e h
  extract_lets O
  clear_value rs
  split
  ·exact serve _ _ E
  ·cases rs with
   |nil=>
    dsimp only
    split
    ·exact E
    ·(split)
     ·exact E
     ·split<;>trivial
   |cons a l=>
    dsimp only
    split
    ·exact hp _ E
    ·(split)
     ·trivial
     ·rename_i J;exact hp _ (ro J E)
     ·rename_i J;have L:=ro J E;exact L
     ·rename_i J;have L:=ro J E;exact hp _ L
theorem ask2 (m:Machine)(h:n≤m.world.drawn):M n (Go.ask p m):=by
 unfold Go.ask
 split
 ·(split)
  ·trivial
  ·rename_i e;have E:=look (p:=p) m.gs m.rest (ro e h)
   split
   ·rename_i J;rw[J]at E;exact askOn _ E
   ·exact E
  ·rename_i e;exact askOn _ (ro e h)
 ·exact askOn _ h
theorem move (m:Machine)(h:n≤m.world.drawn):M n (Go.move p m):=by
 unfold Go.move
 split
 ·(split)
  ·exact h
  ·trivial
 ·(split)
  ·(split)
   ·exact h
   ·exact ask2 _ h
  ·exact ask2 _ h
theorem step (m:Machine)(h:n≤m.world.drawn):S n (Go.step p m):=by
 unfold Go.step stepT
 have:=move (p:=p) m h
 split
 ·rename_i e;rw[e]at this;exact runM _ _ _ this
 ·rename_i e;rw[e]at this;exact this
end Go.Dr
end
section
namespace Go.A
open Go.RowKit Go.Z Go.Shelf Go.Proofs Go.Sort
section
variable {α:Type}
structure OrdOn (lt:α→α→Bool) (X:List α):Prop where
 asym: ∀x∈X,∀y∈X,lt x y=true→lt y x=false
 tri: ∀x∈X,∀y∈X,lt x y=false→lt y x=false→x=y
 trans: ∀x∈X,∀y∈X,∀z∈X,lt x y=true→lt y z=true→lt x z=true
end
end Go.A
end
section
namespace Go.A
open Go.RowKit Go.Z
section
variable {C:Cx}{l:List (Nat×Value)}{H:List (Nat×Res)}{X:Act→World→Prop}
end
section
variable {r:Option Nat}{P:Program}{ops:Array Oper}{Q:Exit→Act→World→Prop}{rest lst:List Oper}{C:Cx}{l:List (Nat×Value)}{H:List (Nat×Res)}{d:Nat}{T:TypeId}{pos:String}{af:Array Edge}
end
def b8 (x:Int):UInt8:=UInt8.ofNat (x%256).toNat
def Fz (fz:Nat×Nat)(n:Nat):Prop:=∀j,j<n→¬(fz.1≤j∧j<fz.2)
def Bs (e:TypeId)(c:Nat)(xs:List UInt8):Obj→Prop:=fun o=>∃(cur:Array Value) (fz:Nat×Nat),o=.cells cur e fz∧Fz fz c∧cur.size=c∧c≤maxLen∧xs.length≤c∧∀(j:Nat) (b:UInt8),xs[j]?=some b→cur[j]?=some (.int .u8 (b.toNat:Int))
section
variable {r:Option Nat}{P:Program}{ops:Array Oper}{Q:Exit→Act→World→Prop}{rest:List Oper}{C:Cx}{l:List (Nat×Value)}{H:List (Nat×Res)}{d:Nat}{T:TypeId}{pos:String}{af:Array Edge}
end
end Go.A
end
section
namespace Go.A
open Go.RowKit Go.Z Go.Shelf Go.Proofs
section
variable {r:Option Nat}{P:Program}{Q:Exit→Act→World→Prop}{C:Cx}{l:List (Nat×Value)}{H:List (Nat×Res)}{ops:Array Oper}{rest:List Oper}{T:TypeId}{pos:String}{af:Array Edge}{d:Nat}
end
end Go.A
end
section
namespace Go.Z
open Go.RowKit Go.Lib
section
variable {P:Program}{a:Act}{w:World}{d:Option Tmp}{T:TypeId}{pos:String}{af:Array Edge}{gd:Option (Nat×Bool)}
end
end Go.Z
namespace Go.A
open Go.RowKit Go.Z
section
variable {r:Option Nat}{P:Program}{ops:Array Oper}{Q:Exit→Act→World→Prop}{rest lst:List Oper}{C:Cx}{l:List (Nat×Value)}{H:List (Nat×Res)}{d:Nat}{T:TypeId}{pos:String}{af:Array Edge}
end
section
variable {C:Cx}{l:List (Nat×Value)}{H:List (Nat×Res)}{P:Program}
end
end Go.A
end
section
namespace Go.A
open Go.RowKit Go.Z
theorem hp_two {C:Cx}{H:List (Nat×Res)}{w w':World}{S:List Nat}(W:Hp C H w)(hc:Ch S w w'){k J:Nat}{N O:Res}{js:List Nat}(hne:J≠k)(hS: ∀b,b∈S→Bk H k b∨Bk H J b)
  (hb: ∀b,b∈N.bl∨b∈O.bl→(Bk H k b∨Bk H J b)∨(w.heap.size≤b∧b<w'.heap.size)) (hd: ∀b,b∈N.bl→b∉O.bl) (e1:N.ref=none) (e2:O.ref=none)
  (h1: ∀(F:Nat→Prop) (B:Nat→Nat→Prop),(∀b,Fh C H b→b<w.heap.size→F b)→(∀b,Bk H k b∨Bk H J b→b∉N.bl→b∉O.bl→F b)→N.holds w' F B)
  (h2: ∀(F:Nat→Prop) (B:Nat→Nat→Prop),(∀b,Fh C H b→b<w.heap.size→F b)→(∀b,Bk H k b∨Bk H J b→b∉N.bl→b∉O.bl→F b)→O.holds w' F B)
  (hj:hng [k,J] js H=true):Hp C ((J,O)::(k,N)::ded js H) w':=by
 have hkc: ∀j r,hk ((J,O)::(k,N)::ded js H) j=some r→(j=J∧r=O)∨(j=k∧r=N)∨(j≠J∧j≠k∧(r=.dead∨(hk H j=some r∧r.ref≠some k∧r.ref≠some J))):=fun j r h=>by
  rw[Qaa]at h
  split at h
  ·rename_i e;injection h with h;exact .inl ⟨e.symm,h.symm⟩
  ·rename_i Y
   rw[Qaa]at h
   split at h
   ·rename_i e;injection h with h;exact .inr (.inl ⟨e.symm,h.symm⟩)
   ·rename_i n1
    refine .inr (.inr ⟨Ne.symm Y,Ne.symm n1,?_⟩)
    rw[Qbp]at h
    rcases Qcz hj j with E|⟨E,_⟩
    ·rw[E]at h
     cases hv:hk H j with
     |none=>rw[hv]at h;cases h
     |some v=>
      rw[hv]at h
      simp only[Q9,Qh]at h
      cases hr:rin [k,J] v.ref with
      |true=>rw[hr]at h;exact .inl h.symm
      |false=>
       rw[hr]at h
       replace h:v=r:=h
       subst h
       refine .inr ⟨rfl,fun e=>?_,fun e=>?_⟩
       ·rw[e]at hr;simp[rin]at hr
       ·rw[e]at hr;simp[rin]at hr
    ·rw[E]at h;injection h with h;exact .inl h.symm
 have hkp: ∀j r,j≠J→j≠k→hk H j=some r→r.ref=none→hk ((J,O)::(k,N)::ded js H) j=some r:=fun j r Y n1 h hr=>by
  rw[Qaa,if_neg (Ne.symm Y),Qaa,if_neg (Ne.symm n1),Qbp]
  rcases Qcz hj j with E|⟨_,E⟩
  ·rw[E,h];simp[hr,rin]
  ·rw[h]at E;cases E
 have hbk: ∀j b,Bk ((J,O)::(k,N)::ded js H) j b→(j=J∧b∈O.bl)∨(j=k∧b∈N.bl)∨(j≠J∧j≠k∧Bk H j b):=fun j b ⟨r,E,L⟩=>by
  rcases hkc j r E with⟨e,rfl⟩|⟨e,rfl⟩|⟨Y,n1,rfl|⟨V,_⟩⟩
  ·exact .inl ⟨e,L⟩
  ·exact .inr (.inl ⟨e,L⟩)
  ·cases L
  ·exact .inr (.inr ⟨Y,n1,r,V,L⟩)
 have hlt: ∀b,Bk H k b∨Bk H J b→b<w.heap.size:=fun b h=>h.elim (fun h=>(W.bnd k b h).2) fun h=>(W.bnd J b h).2
 have hbn: ∀b,Bk H k b∨Bk H J b→C.w0.heap.size≤b∨b∈C.S:=fun b h=>h.elim (fun h=>(W.bnd k b h).1) fun h=>(W.bnd J b h).1
 have hun: ∀j b,j≠k→j≠J→Bk H j b→¬(Bk H k b∨Bk H J b):=fun j b n1 Y h E=>E.elim (fun L=>n1 (W.dis j k b h L)) fun L=>Y (W.dis j J b h L)
 have hnb: ∀b,(∀j,¬Bk H j b)→b<w.heap.size→b∉S∧∀j,¬Bk ((J,O)::(k,N)::ded js H) j b:=fun b hB hl=>by
  have hn: ¬(Bk H k b∨Bk H J b):=fun h=>h.elim (hB k) (hB J)
  refine⟨fun h=>hn (hS b h),fun j hj=>?_⟩
  rcases hbk j b hj with⟨_,E⟩|⟨_,E⟩|⟨_,_,E⟩
  ·rcases hb b (.inr E)with L|L
   ·exact hn L
   ·omega
  ·rcases hb b (.inl E)with L|L
   ·exact hn L
   ·omega
  ·exact hB j E
 have hF: ∀b,Fh C H b→b<w.heap.size→b∉S∧Fh C ((J,O)::(k,N)::ded js H) b:=fun b h hl=>⟨(hnb b h.1 hl).1,(hnb b h.1 hl).2,h.2⟩
 have hF2: ∀b,Bk H k b∨Bk H J b→b∉N.bl→b∉O.bl→Fh C ((J,O)::(k,N)::ded js H) b:=fun b h E L=>by
  refine⟨fun j hj=>?_,.inr (hbn b h)⟩
  rcases hbk j b hj with⟨_,V⟩|⟨_,V⟩|⟨Y,n1,V⟩
  ·exact L V
  ·exact E V
  ·exact hun j b n1 Y V h
 have bnd': ∀j b,Bk ((J,O)::(k,N)::ded js H) j b→(C.w0.heap.size≤b∨b∈C.S)∧b<w'.heap.size:=fun j b hj=>by
  have hx: ∀b,(Bk H k b∨Bk H J b)∨(w.heap.size≤b∧b<w'.heap.size)→(C.w0.heap.size≤b∨b∈C.S)∧b<w'.heap.size:=fun b h=>h.elim (fun h=>⟨hbn b h,Qj (hlt b h) hc.size⟩) fun h=>⟨.inl (Q6 W.ch.size h.1),h.2⟩
  rcases hbk j b hj with⟨_,E⟩|⟨_,E⟩|⟨_,_,E⟩
  ·exact hx b (hb b (.inr E))
  ·exact hx b (hb b (.inl E))
  ·have:=W.bnd j b E;exact⟨this.1,Qj this.2 hc.size⟩
 have hdo: ∀j b,j≠J→j≠k→Bk H j b→b∈N.bl∨b∈O.bl→False:=fun j b Y n1 E L=>by
  rcases hb b L with V|V
  ·exact hun j b n1 Y E V
  ·have:=(W.bnd j b E).2;omega
 refine⟨?_,fun j r hj'=>?_,bnd',fun j j' b hj hj'=>?_,fun j r i hj hri=>?_⟩
 ·have hch:=W.ch
  refine⟨hc.os.trans hch.os,hc.tape.trans hch.tape,hc.output.trans hch.output,Q6 hch.size hc.size,fun b hb' hn=>?_⟩
  have hb2:b∉S:=fun hbS=>by
   rcases hbn b (hS b hbS)with E|E
   ·omega
   ·exact hn E
  rw[hc.block b (Qj hb' hch.size) hb2]
  exact hch.block b hb' hn
 ·rcases hkc j r hj' with⟨_,rfl⟩|⟨_,rfl⟩|⟨Y,n1,rfl|⟨V,n3,n4⟩⟩
  ·exact h2 _ _ (fun b h hl=>(hF b h hl).2) hF2
  ·exact h1 _ _ (fun b h hl=>(hF b h hl).2) hF2
  ·trivial
  ·refine Res.to (W.hold j r V) hc hF hnb (fun i b hi hB=>?_) fun b hbl hbS=>hun j b n1 Y ⟨r,V,hbl⟩ (hS b hbS)
   have hik:i≠k:=fun e=>n3 (by rw[hi,e])
   have hik2:i≠J:=fun e=>n4 (by rw[hi,e])
   refine⟨fun hbS=>hun i b hik hik2 hB (hS b hbS),?_⟩
   obtain⟨r3,h7,h8⟩:=hB
   exact⟨r3,hkp i r3 hik2 hik h7 ((W.ref j r i V hi).2 r3 h7),h8⟩
 ·rcases hbk j b hj with⟨rfl,E⟩|⟨rfl,E⟩|⟨a2,a1,E⟩<;>rcases hbk j' b hj' with⟨rfl,L⟩|⟨rfl,L⟩|⟨b2,b1,L⟩
  ·rfl
  ·exact absurd E (hd b L)
  ·exact(hdo j' b b2 b1 L (.inr E)).elim
  ·exact absurd L (hd b E)
  ·rfl
  ·exact(hdo j' b b2 b1 L (.inl E)).elim
  ·exact(hdo j b a2 a1 E (.inr L)).elim
  ·exact(hdo j b a2 a1 E (.inl L)).elim
  ·exact W.dis j j' b E L
 ·rcases hkc j r hj with⟨_,rfl⟩|⟨_,rfl⟩|⟨Y,n1,rfl|⟨V,n3,n4⟩⟩
  ·rw[e2]at hri;cases hri
  ·rw[e1]at hri;cases hri
  ·cases hri
  ·obtain⟨h6,h7⟩:=W.ref j r i V hri
   refine⟨h6,fun r' h8=>?_⟩
   rcases hkc i r' h8 with⟨_,rfl⟩|⟨_,rfl⟩|⟨_,_,rfl|⟨h9,_⟩⟩
   ·exact e2
   ·exact e1
   ·rfl
   ·exact h7 r' h9
structure In1 (T t:Ty) where
 get:T.den→List t.den
 set:T.den→List t.den→T.den
 pos:Nat
 hlt:pos<T.size
 hcl: ∀x ys p q,cl T (set x ys) [q]=(cl T x [p]).set pos (.slice q.1 ys.length q.2)
 hgs: ∀x ys,get (set x ys)=ys
 hss: ∀x a b,set (set x a) b=set x b
 hsg: ∀x,set x (get x)=x
 hrep: ∀(w:World) (F:Nat→Prop) x ys p q,T.rep w F (cl T x [p]) x→(Ty.slice t).rep w F [.slice q.1 ys.length q.2] ys→T.rep w F (cl T (set x ys) [q]) (set x ys)
theorem Qbc: ∀(t:Ty) (x:t.den) (ps:Lf),ps.length=lv t→(cl t x ps).length=t.size
 | .int _,_,_,_=>rfl
 | .byte,_,_,_=>rfl
 | .bool,_,_,_=>rfl
 | .str,_,_,_=>rfl
 | .slice _,_,[_],_=>rfl
 | .slice _,_,[],h=>by cases h
 | .slice _,_,_::_::_,h=>by simp[lv]at h
 | .pair a b,v,ps,h=>by
  simp only[cl,Q5,Ty.size]
  simp only[lv]at h
  rw[Qbc a v.1 _ (by rw[Qu];omega),Qbc b v.2 _ (by rw[Wu];omega)]
def rblx (h:Option Nat)(As:Lf):List Nat:=match h with
 |none=>rbl As
 |some i=>rbl (As.set i (none,0))
theorem rblx_at {h:Option Nat}{As:Lf}{i:Nat}{a:Option Addr×Nat}(E:As[i]?=some a)(L:h≠some i){b:Nat}(J:b∈obl a.1):b∈rblx h As:=by
 cases h with
 |none=>exact Qab E J
 |some j=>exact Qab (As:=As.set j (none,0)) (i:=i) (by rw[We (fun e=>L (by rw[e]))];exact E) J
def NR {T t:Ty}(I:In1 T t)(e ei:TypeId)(A:Option Addr)(c:Nat)(xs:List T.den)(As:Lf)(h:Option Nat)(w:World)(F:Nat→Prop):Prop:=
 ∃cells:List Value,w.ownsRow 0 e T.size (.slice A xs.length c) xs.length cells∧(∀u∈cells,u.oneCell'=true)∧As.length=xs.length∧(obl A++rblx h As).Nodup∧(∀b,b∈obl A++rblx h As→b<w.heap.size)∧
  ∀(i:Nat) (x:T.den) (a:Option Addr×Nat),xs[i]?=some x→As[i]?=some a→(cells.drop (i*T.size)).take T.size=cl T x [a]∧T.rep w F (cl T (I.set x []) [(none,0)]) (I.set x [])∧(h≠some i→Own t ei 0 w F a.1 a.2 (I.get x))
theorem owr_to {w w':World}{S:List Nat}{e:TypeId}{sz n c m:Nat}{A:Option Addr}{cells:List Value}(h:w.ownsRow 0 e sz (.slice A n c) m cells)(L:Ch S w w')(N: ∀b,b∈obl A→b∉S):w'.ownsRow 0 e sz (.slice A n c) m cells:=by
 refine⟨h.1,?_⟩
 rcases h.2 with O|⟨g,cap,cur,E,V,J,rest⟩
 ·exact .inl O
 ·refine .inr ⟨g,cap,cur,E,V,?_,rest⟩
  injection E with hA' _ _
  have W:g∈obl A:=by rw[hA'];simp[obl]
  rw[L.block g (Qe.1 J).1 (N g W)]
  exact J
section
variable {T t:Ty}{I:In1 T t}{e ei:TypeId}{A:Option Addr}{c:Nat}{xs:List T.den}{As:Lf}{h:Option Nat}
theorem NR.to {w w':World}{F F':Nat→Prop}{S:List Nat}(V:NR I e ei A c xs As h w F)(E:Ch S w w')(J: ∀b,b∈obl A++rblx h As→b∉S)(L: ∀b,F b→b<w.heap.size→b∉S∧F' b):NR I e ei A c xs As h w' F':=by
 obtain⟨cells,W,Y,h3,h4,h5,h6⟩:=V
 refine⟨cells,owr_to W E fun b hb'=>J b (Ql _ hb'),Y,h3,h4,fun b hb'=>Qj (h5 b hb') E.size,fun i x a hx N=>?_⟩
 obtain⟨h7,h8,h9⟩:=h6 i x a hx N
 exact⟨h7,rep_to h8 E L,fun O=>Own.to (h9 O) E (fun b hb' _ _=>J b (Qo _ (rblx_at N O hb'))) L⟩
def nr (I:In1 T t)(e ei:TypeId)(A:Option Addr)(c:Nat)(xs:List T.den)(As:Lf)(h:Option Nat):Res:=.gn (obl A++rblx h As) (NR I e ei A c xs As h) NR.to
theorem NR.rep {w:World}{F:Nat→Prop}(V:NR I e ei A c xs As none w F){F':Nat→Prop}(L: ∀b,F b→F' b)(W: ∀b,b∈rbl As→F' b):Own T e 0 w F' A c xs:=by
 obtain⟨cells,Y,h2,h3,h4,h5,h6⟩:=V
 refine⟨cells,Y,h2,fun i x N=>?_⟩
 have hi:=(Qa.1 N).1
 have O:As[i]?=some As[i]:=Qc (by omega)
 obtain⟨h7,h8,h9⟩:=h6 i x _ N O
 have J:=Own.rep (h9 (by simp)) L fun b hb=>W b (Qab O hb)
 have E:=I.hrep w F' (I.set x []) (I.get x) (none,0) As[i] (Qbm L T h8) J
 rw[I.hss,I.hsg]at E
 rw[h7];exact E
end
section
variable {C:Cx}{l:List (Nat×Value)}{H:List (Nat×Res)}{X:Act→World→Prop}{T t:Ty}{e ei:TypeId}{A:Option Addr}{c:Nat}{xs:List T.den}{As:Lf}
theorem nrfz (k:Nat)(js:List Nat)(I:In1 T t)(h: ∀a w,Fr a C.n C.ds l→Hp C ((k,.own T e A c xs)::ded js H) w→X a w)(E:hk H k=some (nr I e ei A c xs As none):=by rfl)(L:hng [k] js H=true:=by kernel_rfl): ∀a w,Fr a C.n C.ds l→Hp C H w→X a w:=fun a w W O=>by
 refine h a w W (Hp.dd (O.upd (S:=[]) (Ch.refl w) (by simp) (fun b J=>.inl ⟨_,E,Ql _ J⟩) (fun j L=>by cases L) fun F B Y h2 _ _ _=>?_) L)
 have V:NR I e ei A c xs As none w (Fh C H):=O.hold k _ E
 have N:NR I e ei A c xs As none w F:=V.to (S:=[]) (Ch.refl w) (by simp) fun b J hl=>⟨by simp,Y b J hl⟩
 refine N.rep (fun _ h=>h) fun b J=>h2 b ⟨_,E,Qo _ J⟩ fun hbA=>?_
 obtain⟨_,_,_,_,h4,_⟩:=V
 exact(Q0.1 h4).2.2 b hbA b J rfl
theorem pkn (k kn:Nat)(I:In1 T t){V:Option Nat}{i:Int}{v:T.den}(J:ix xs i=some v)(h:T.ok (I.set v [])→∀A' c' g,A=some ⟨g,0,none⟩→As[i.toNat]?=some (A',c')→∀a w,Fr a C.n C.ds l→Hp C ((kn,.el (some k) g (i.toNat*T.size) (cl T v [(A',c')]))::H) w→X a w)
  (E:hk H k=some (nr I e ei A c xs As V):=by rfl) (hn:hk H kn=none:=by kernel_rfl): ∀a w,Fr a C.n C.ds l→Hp C H w→X a w:=fun a w hf W=>by
 obtain⟨j,rfl,Y⟩:=Qag J
 obtain⟨cells,N,h2,h3,h4,h5,h6⟩:NR I e ei A c xs As V w (Fh C H):=W.hold k _ E
 have hj:=(Qa.1 Y).1
 have ha:As[j]?=some As[j]:=Qc (by omega)
 obtain⟨h7,h8,_⟩:=h6 j v _ Y ha
 rcases N.2 with⟨_,h9⟩|⟨g,cap,cur,hA',_⟩
 ·omega
 ·injection hA' with hA' _ hc'
  subst hA';subst hc'
  refine h (rep_ok T h8) As[j].1 As[j].2 g rfl (by rw[Q4];exact ha) a w hf (W.add hn rfl (fun i J r L=>by injection J with J;subst J;rw[E]at L;injection L with L;subst L;rfl) ⟨fun q u O=>?_,h5 g (Ql _ (by simp[obl])),⟨_,E,Ql _ (by simp[obl])⟩⟩)
  rw[Addr.add_lit,Q4]
  have hlen:(cl T v [As[j]]).length=T.size:=by
   have:=congrArg List.length h7
   rw[←this,Qu,Wu,N.1]
   have:(j+1)*T.size≤xs.length*T.size:=Qp _ hj
   rw[Wi,Wj]at this;omega
  have hq:q<T.size:=by rw[←hlen];exact(Qa.1 O).1
  have:(j+1)*T.size≤xs.length*T.size:=Qp _ hj
  rw[Wi,Wj]at this
  rw[N.cellAt _ (by omega)]
  rw[show cl T v [(As[j].1,As[j].2)]=cl T v [As[j]]from rfl,←h7,Qw hq,Wh]at O
  exact O
theorem nrt (k kn:Nat)(js:List Nat)(I:In1 T t){i:Int}{v:T.den}{A':Option Addr}{c':Nat}(hi:ix xs i=some v)(N:As[i.toNat]?=some (A',c'))(h: ∀a w,Fr a C.n C.ds l→Hp C ((kn,.own t ei A' c' (I.get v))::(k,nr I e ei A c xs As (some i.toNat))::ded js H) w→X a w)
  (J:hk H k=some (nr I e ei A c xs As none):=by rfl) (hn:hk H kn=none:=by kernel_rfl) (hj:hng [k,kn] js H=true:=by kernel_rfl): ∀a w,Fr a C.n C.ds l→Hp C H w→X a w:=fun a w hf hh=>by
 obtain⟨j,rfl,hv⟩:=Qag hi
 rw[Q4]at N h
 have hN:NR I e ei A c xs As none w (Fh C H):=hh.hold k _ J
 obtain⟨cells,h1,h2,h3,h4,h5,h6⟩:=hN
 have h4':(obl A++rbl As).Nodup:=h4
 rw[Q0]at h4'
 have hsub: ∀b,b∈rblx (some j) As→b∈rbl As:=fun b E=>by
  rcases Qbb N b E with h|h
  ·exact h
  ·cases h
 have hkn: ∀b,¬Bk H kn b:=fun b ⟨r,Y,_⟩=>by rw[hn]at Y;cases Y
 have hne:kn≠k:=fun e=>by subst e;rw[hn]at J;cases J
 have hdj: ∀b,b∈rblx (some j) As→b∉obl A':=fun b E L=>by
  obtain⟨y,hy,V⟩:=Xi.1 E
  obtain⟨q,hq,hqe⟩:=Wr hy
  have hqe':(As.set j (none,0))[q]?=some y:=by rw[←hqe];exact Qc hq
  by_cases O:j=q
  ·subst O
   rw[Q3 (by rw[Qt]at hq;exact hq)]at hqe'
   injection hqe' with hqe'
   subst hqe';cases V
  ·rw[We O]at hqe'
   exact Qcy h4'.2.1 N hqe' O b L V
 refine h a w hf (hp_two hh (S:=[]) (Ch.refl w) hne (by simp) (fun b E=>.inl (.inl ?_)) (fun b E L=>?_) rfl rfl (fun F B q1 _=>?_) (fun F B q1 _=>?_) hj)
 ·rcases E with E|E
  ·refine⟨_,J,?_⟩
   rcases Qv.1 E with E|E
   ·exact Ql _ E
   ·exact Qo _ (hsub b E)
  ·exact⟨_,J,Qo _ (Qab N E)⟩
 ·rcases Qv.1 E with E|E
  ·exact h4'.2.2 b E b (Qab N L) rfl
  ·exact hdj b E L
 ·have hrs:(obl A++rblx (some j) As).Nodup:=by
   rw[Q0]
   refine⟨h4'.1,rbl_set_nodup h4'.2.1 N (by simp[obl]) (fun x W=>by simp[obl]at W),fun x W y hy=>h4'.2.2 x W y (hsub y hy)⟩
  refine⟨cells,h1,h2,h3,hrs,fun b E=>h5 b ?_,fun i x a W ha=>?_⟩
  ·rcases Qv.1 E with E|E
   ·exact Ql _ E
   ·exact Qo _ (hsub b E)
  ·obtain⟨Y,h8,h9⟩:=h6 i x a W ha
   exact⟨Y,Qap h8 q1,fun _=>Own.to (h9 (by simp)) (S:=[]) (Ch.refl w) (by simp) fun b E hl=>⟨by simp,q1 b E hl⟩⟩
 ·exact Own.to ((h6 j v _ hv N).2.2 (by simp)) (S:=[]) (Ch.refl w) (by simp) fun b E hl=>⟨by simp,q1 b E hl⟩
end
theorem run_storeRaw {P:Program}{w:World}{e tt:TypeId}{sz n c g p:Nat}{cells:List Value}{v:Value}(hrow:w.ownsRow 0 e sz (.slice (some ⟨g,0,none⟩) n c) n cells)(hp:p<n*sz)(hS: ∀w,(sizeOf tt).run P w=.ok 1 w)(hv:v.cells=[v].toArray)(h1:v.oneCell'=true):
  ∃w',(Instr.storeAt tt (.pointer (some ⟨g,p,none⟩)) v).run P w=.ok () w'∧Ch [g] w w'∧w'.heap.size=w.heap.size∧w'.ownsRow 0 e sz (.slice (some ⟨g,0,none⟩) n c) n (cells.set p v):=by
 obtain⟨hl,hrow⟩:=hrow
 rcases hrow with⟨E,_⟩|⟨g',cap,cur,E,hb,hg,J,V,L,htake⟩
 ·cases E
 injection E with N _ hc
 injection N with N;injection N with N _ _
 subst N;subst hc
 have hcur:n*sz≤cur.size:=by rw[L];exact Qp _ J
 have hBlk:Blk w g e cur.toList:=by unfold Blk;simpa using hg
 have O:=run_storeB (P:=P) (o:=p) hBlk hS hv rfl (by simp;omega) (fun u W=>by simp at W;subst W;exact h1)
 obtain⟨cs',hcs'⟩: ∃cs',cs'=cur.toList.take p++[v]++cur.toList.drop (p+1):=⟨_,rfl⟩
 rw[←hcs']at O
 have hset:cs'=cur.toList.set p v:=by
  rw[hcs']
  refine Q2 fun q=>?_
  have:=patch_get (l:=cur.toList) (new:=[v]) (p:=p) (by simp;omega) q
  simp only[Wg]at this
  rw[this,Wp]
  by_cases Y:p=q
  ·subst Y;simp;omega
  ·rw[if_neg Y]
   by_cases h3:q<p
   ·rw[if_pos h3]
   ·rw[if_neg h3,if_neg (by omega)]
 refine⟨_,O,Ch.setRow w g _,by simp[World.setRow],by rw[Qt];exact hl,.inr ⟨g,c,cs'.toArray,rfl,hb,?_,J,V,by rw[hset];simp[L],?_⟩⟩
 ·have:=hBlk.setRow (cs':=cs')
  unfold Blk at this;exact this
 ·show cs'.take (n*sz)=_
  rw[hset,List.take_set,htake]
theorem Qcc {cells:List Value}{sz j p i:Nat}{v:Value}(hp:p<sz):(((cells.set (j*sz+p) v).drop (i*sz)).take sz)=if i=j then((cells.drop (i*sz)).take sz).set p v else(cells.drop (i*sz)).take sz:=by
 refine Q2 fun q=>?_
 rw[Qbf,Wp]
 by_cases E:i=j
 ·subst E
  rw[if_pos rfl,Wp,Qbf]
  by_cases hq:q<sz
  ·rw[if_pos hq,if_pos hq]
   by_cases L:p=q
   ·subst L
    rw[if_pos rfl,if_pos rfl]
    simp only[Qu,Wu]
    by_cases J:i*sz+p<cells.length
    ·rw[if_pos J,if_pos (by omega)]
    ·rw[if_neg J,if_neg (by omega)]
   ·rw[if_neg (by omega),if_neg L]
  ·rw[if_neg hq,if_neg (by omega),if_neg hq]
 ·rw[if_neg E,Qbf]
  by_cases hq:q<sz
  ·rw[if_pos hq,if_pos hq,if_neg]
   intro h
   rcases Nat.lt_or_gt_of_ne E with J|J
   ·have:(i+1)*sz≤j*sz:=Qp _ J
    rw[Wi,Wj]at this;omega
   ·have:(j+1)*sz≤i*sz:=Qp _ J
    rw[Wi,Wj]at this;omega
  ·rw[if_neg hq,if_neg hq]
section
variable {r:Option Nat}{P:Program}{ops:Array Oper}{Q:Exit→Act→World→Prop}{rest lst:List Oper}{C:Cx}{l:List (Nat×Value)}{H:List (Nat×Res)}{d:Nat}{T0:TypeId}{pos:String}{af:Array Edge}{T t:Ty}{e ei:TypeId}{A:Option Addr}{c:Nat}{xs ys:List T.den}{As Bs:Lf}
end
section
variable {r:Option Nat}{P:Program}{ops:Array Oper}{Q:Exit→Act→World→Prop}{C:Cx}{l:List (Nat×Value)}{H Hq:List (Nat×Res)}{m f:Nat}{li:List Bool}
end
end Go.A
end
section
namespace Go.Z
open Go.RowKit Go.Lib
section
variable {P:Program}{a:Act}{w:World}{d:Option Tmp}{T:TypeId}{pos:String}{af:Array Edge}{gd:Option (Nat×Bool)}
end
end Go.Z
namespace Go.A
open Go.RowKit Go.Z
theorem hp_ch0 {C:Cx}{H:List (Nat×Res)}{w w':World}(h:Hp C H w)(J:Ch [] w w'):Hp C H w':=
 ⟨⟨J.os.trans h.ch.os,J.tape.trans h.ch.tape,J.output.trans h.ch.output,Q6 h.ch.size J.size,fun b E L=>by rw[J.block b (Qj E h.ch.size) (by simp)];exact h.ch.block b E L⟩,
  fun k r hk=>Res.to (h.hold k r hk) J (fun b E _=>⟨by simp,E⟩) (fun b E _=>⟨by simp,E⟩) (fun i b _ N=>⟨by simp,N⟩) (by simp),
  fun k b E=>⟨(h.bnd k b E).1,Qj (h.bnd k b E).2 J.size⟩,h.dis,h.ref⟩
section
variable {C:Cx}{H:List (Nat×Res)}{w:World}
end
section
variable {r:Option Nat}{P:Program}{ops:Array Oper}{Q:Exit→Act→World→Prop}{rest lst:List Oper}{C:Cx}{l:List (Nat×Value)}{H:List (Nat×Res)}{d:Nat}{T:TypeId}{pos:String}{af:Array Edge}
theorem AL.callF {H1:List (Nat×Res)}(O: ∀w,Hp C H w→Hp C H1 w){f:FuncId}{c:Operand}{xs:List Operand}{vs vs' first cap:List Value}{ts:Array TypeId}{H0:List (Nat×Res)}{ls:List Nat}{R:Value→List (Nat×Res)→Prop}
  (E: ∀args w,(callFunc f args).run P w=.ok (.enter f args) w) (J:Ct P f vs' H0 [] R) (V:Sub H1 H0 [] ls)
  (h: ∀v H',R v H'→AL r P ops Q rest C ((d,v)::l) H)
  (W:ev l c=some (.func (.func f) first.toArray cap.toArray):=by rfl) (Y:evs l xs=some vs:=by rfl) (hv:first++vs++cap=vs':=by rfl) (h1:nod (H0.map (·.1))=true:=by rfl) (hd:Nat.ble (d+1) C.n=true:=by rfl):
  AL r P ops Q (⟨some d,.call {callee:=.value c,args:=xs.toArray,argTypes:=ts},T,pos,af,none⟩::rest) C l H:=fun a w L N=>by
 subst hv
 have h3:ls.all (fun k=> !((([]:List (Nat×Nat)).map (·.2)).any (Nat.beq k)))=true:=Q8.2 fun k _=>rfl
 refine Z.call1 L hd (r_callv E L (first:=first) (cap:=cap) (vs:=vs) (xs:=xs) W Y) (J w (Fh C H1) (V.hp (O w N) h1 rfl h3)) fun e w' ⟨v,H',he,hR,hh'⟩=>⟨v,he,fun a' hf'=>?_⟩
 exact h v H' hR a' w' hf' (hp_ch0 N hh'.ch)
end
section
variable {r:Option Nat}{P:Program}{ops:Array Oper}{Q:Exit→Act→World→Prop}{C:Cx}{l:List (Nat×Value)}{H Hq:List (Nat×Res)}{m f:Nat}{li:List Bool}
end
section
variable {r:Option Nat}{P:Program}{ops:Array Oper}{Q:Exit→Act→World→Prop}{rest lst:List Oper}{C:Cx}{l:List (Nat×Value)}{H:List (Nat×Res)}{d:Nat}{T:TypeId}{pos:String}{af:Array Edge}
end
end Go.A
end
