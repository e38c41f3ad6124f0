/- Functions on data, what they tell, and that the code computes them. -/
import Derived.Test.YtlbnpmfggfbdoaaGreatDoorD0
import Derived.Test.YtlbnpmfggfbdoaaGreatDoorD1
import Derived.Test.YtlbnpmfggfbdoaaGreatDoorD2
import Derived.Test.YtlbnpmfggfbdoaaGreatDoorD4
import Derived.Test.YtlbnpmfggfbdoaaGreatDoorD3
import Derived.Lib.TrimUEq
set_option linter.unusedVariables false
set_option linter.unusedSimpArgs false
set_option maxRecDepth 20000
set_option maxHeartbeats 8000000
set_option synthInstance.maxSize 1000000
set_option synthInstance.maxHeartbeats 400000
section
namespace Go.Proofs.YtlbnpmfggfbdoaaGreatDoor
open Go.RowKit
abbrev l5a:List Value:=[A.i 0,A.i 0,.slice none 0 0,A.i 0,A.i 0,.string (ByteArray.mk #[]),.string (ByteArray.mk #[]),A.i 0,A.i 0]
abbrev l5b:List Nat:=[0,1,4278,4279,4280,4281,4282]
abbrev l5c:List Nat:=[0,1,2,3,998,999,1266,1307]
abbrev l5d:List Value:=A.zz12
abbrev l5e:List Nat:=[0,1,3858,3859,3860,3861]
abbrev l5f:List Nat:=[0,1,2,3,998,999,1089,1309]
abbrev l5g:List Nat:=[0,2,3,1446,1447,1448,1449]
abbrev l5h:List Nat:=[0,1,2,145,514,515,516]
abbrev l5i:List Nat:=[0,2,3,1446,1447,1448]
abbrev l5j:List Nat:=[0,1,2,3,998,999,1266]
abbrev l5k:List Nat:=[0,1,2,145,514]
abbrev l5l:List Nat:=[0,1,203]
abbrev l5m:List Nat:=[0,1,4278,4279,4280,4281]
abbrev l5n:List Nat:=[0,2,3,1446,1447,1448,1449,1490]
abbrev l5o:List Nat:=[0,1,2,3,4]
abbrev l5p:List Nat:=[0,1,2,3,4,5,6,791,792]
abbrev l5q:List Nat:=[0,1,2,3,996,997,998]
abbrev l5r:List Nat:=[0,1,2,145]
abbrev l5s:List Nat:=[0,1,44,86,128,168,294]
abbrev l5t:List Nat:=[0,1,2,3,4,89]
abbrev l5u:List Nat:=[0,1,44,86,128,168]
abbrev l5v:List Nat:=[0,1,3858,3859]
abbrev l5w:List Nat:=[0,1,2,3,4,89,130]
abbrev l5x:List Nat:=[0,1,2,3,996]
abbrev l5y:List Nat:=[0,1]
abbrev l5z:List Nat:=[43]
variable(A0_ A1_ A2_ A4_ A5_ A7_ A10_ A12_ A13_:Option Addr)(b0_ g0_ b1_ c1_ c2_ g2_ c3_ b4_ b5_ c5_ b6_ c6_ c8_ g8_ g10_ c11_ c13_ c14_:Nat)
def F.cb (a:UInt8)(e:UInt8)(h:Bool):Option Int:=if h=true then(if(bif decide ((a.toNat:Int)=240)then decide ((e.toNat:Int)<144)else false)=true then(some 0)else(if(bif decide ((a.toNat:Int)=244)then decide ((143:Int)<(e.toNat:Int))else false)=true then(some 0)else(some 4)))else(some 0)
def F.cv (k:ByteArray)(h:Int)(a:UInt8)(e:UInt8)(o:Bool):Option Int:=if o=true then(if(bif decide ((a.toNat:Int)=224)then decide ((e.toNat:Int)<160)else false)=true then(some 0)else(if(bif decide ((a.toNat:Int)=237)then decide ((159:Int)<(e.toNat:Int))else false)=true then(some 0)else(some 3)))else(if(bif bif decide ((240:Int)≤(a.toNat:Int))then decide ((a.toNat:Int)≤244)else false then decide ((4:Int)≤(k.size:Int)-h)else false)=true then((F.cF e).bind fun p=>(if p=true then(A.gd (Z.R64 (h+2)) ((A.ix k.data.toList (h+2)).bind fun s=>((F.cF s).bind fun t=>(if t=true then(A.gd (Z.R64 (h+3)) ((A.ix k.data.toList (h+3)).bind fun u=>((F.cF u).bind fun w=>(F.cb a e w))))else(F.cb a e false)))))else(F.cb a e false)))else(F.cb a e false))
def F.cO (e:ByteArray)(a:Int)(h:UInt8)(k:UInt8)(o:Bool):Option Int:=if o=true then(some 2)else(if(bif bif decide ((224:Int)≤(h.toNat:Int))then decide ((h.toNat:Int)≤239)else false then decide ((3:Int)≤(e.size:Int)-a)else false)=true then((F.cF k).bind fun p=>(if p=true then(A.gd (Z.R64 (a+2)) ((A.ix e.data.toList (a+2)).bind fun s=>((F.cF s).bind fun t=>(F.cv e a h k t))))else(F.cv e a h k false)))else(F.cv e a h k false))
def F.cP (e:ByteArray)(h:Int)(a:UInt8)(k:UInt8):Option Int:=if(a.toNat:Int)<128 then(some 1)else(if(bif bif decide ((194:Int)≤(a.toNat:Int))then decide ((a.toNat:Int)≤223)else false then decide ((2:Int)≤(e.size:Int)-h)else false)=true then((F.cF k).bind fun o=>(F.cO e h a k o))else(F.cO e h a k false))
def F.dZ (e:ByteArray)(a:Int):Option Int:=A.gd (Z.R64 ((e.size:Int)-a)) ((A.ix e.data.toList a).bind fun h=>(if(1:Int)<(e.size:Int)-a then(A.gd (Z.R64 (a+1)) ((A.ix e.data.toList (a+1)).bind fun k=>(F.cP e a h k)))else(F.cP e a h (0:UInt8))))
theorem o_aN (h:ByteArray)(e:Int)(a8:h.size≤maxLen)(a9:A.h6 e)(r:Int)(a:F.dZ h e=some r):
    A.Ct Tryz.prog 190 [.string h,A.i e] [] [] (fun v H'=>v=A.i r∧H'=[]∧A.h6 r):=by
 refine Jv Tryz.func190 rfl Tryz.ntmps190 rfl fun w0 F0=>?_;rw[F.dZ]at a;refine Js 1 ?_;refine Jw 1 [] (J7 2 ?_);have⟨I,a⟩:=Vl a;refine V5 5 [Z.R64 ((h.size:Int)-e)] [(5,A.i ((h.size:Int)-e))] I (J7 2 ?_);refine Jw 2 [(12,.string h),(13,A.i e)] ?_;have⟨k,J,a⟩:=Vu a;refine Ut J ?_;refine Jw 1 [(6,.int .u8 (k.toNat:Int))] (J7 2 ?_);refine Jw 1 [(7,.int .u8 0)] (Jt 1 ?_);refine J2 [0,1,5,6] [] (fun p s=>∃(o:UInt8),p=[(7,.int .u8 (o.toNat:Int))]∧s=[]∧F.cP h e k o=some r) ?_ ?_
 ·refine Js 1 ?_;refine Jw 2 [(16,.bool (decide ((1:Int)<(h.size:Int)-e)))] (Jt 1 ?_);refine Vm a ?_ ?_<;>intro t a
  ·refine Js 0 ?_;have⟨L,a⟩:=Vl a;refine V5 3 [Z.R64 (e+1)] [(17,.string h),(19,A.i (e+1))] L ?_;have⟨y,N,a⟩:=Vu a;refine Ut N ?_;refine Jw 1 [(7,.int .u8 (y.toNat:Int))] (Ju ?_);exact Vf ⟨y,rfl,rfl,a⟩
  refine Vw 1 ?_;exact Vf ⟨(0:UInt8),rfl,rfl,a⟩
 rintro _ _ ⟨o,rfl,rfl,a⟩;rw[F.cP]at a;refine Js 2 ?_;refine Jw 3 [(21,.bool (decide ((k.toNat:Int)<128)))] (Jt 1 ?_);refine Vm a ?_ ?_<;>intro t a
 ·refine Js 1 ?_;refine Jw 1 [(4,A.i 1)] (Jt 1 ?_);obtain rfl:=J4 a;exact J5 [] ⟨rfl,rfl,(Va .i64 (1) rfl)⟩
 refine J2 [0,1,5,6,7] [] (fun p s=>∃(u:Bool),p=[(24,.bool u)]∧s=[]∧F.cO h e k o u=some r) ?_ ?_
 ·refine Js 0 ?_;refine Jy [] [] [.n,.n,.n,.sy .n,.sy .n,.pk,.n,.sy .n,.sy .n,.pk,.n] [(35,.bool (bif bif decide ((194:Int)≤(k.toNat:Int))then decide ((k.toNat:Int)≤223)else false then decide ((2:Int)≤(h.size:Int)-e)else false))] ?_;refine Vt (j:=35) rfl a (fun a=>?_) (fun a=>?_)
  ·refine Jy [] [] [.on .n] [(36,.int .u8 (o.toNat:Int))] ?_;refine Vg (dj:=35) rfl rfl ?_;refine Vs 0 [] a (o_z o) .nil ?_;rintro z - a _ _ ⟨rfl,rfl⟩;refine Vb ?_;refine Jw 2 [(24,.bool z)] (Ju ?_);exact Vf ⟨z,rfl,rfl,a⟩
  refine Jy [] [] [.off,.off,.n,.n] [(24,.bool false)] (Ju ?_);exact Vf ⟨false,rfl,rfl,a⟩
 rintro _ _ ⟨u,rfl,rfl,a⟩;rw[F.cO]at a;refine Ua a ?_ ?_<;>intro t a
 ·refine Js 1 ?_;refine Jw 1 [(4,A.i 2)] (Jt 1 ?_);obtain rfl:=J4 a;exact J5 [] ⟨rfl,rfl,(Va .i64 (2) rfl)⟩
 refine J2 [0,1,5,6,7] [] (fun p s=>∃(w:Bool),p=[(39,.bool w)]∧s=[]∧F.cv h e k o w=some r) ?_ ?_
 ·refine Js 0 ?_;refine Jy [] [] [.n,.n,.n,.sy .n,.sy .n,.pk,.n,.sy .n,.sy .n,.pk,.n] [(50,.bool (bif bif decide ((224:Int)≤(k.toNat:Int))then decide ((k.toNat:Int)≤239)else false then decide ((3:Int)≤(h.size:Int)-e)else false))] ?_;refine Vt (j:=50) rfl a (fun a=>?_) (fun a=>?_)
  ·refine Jy [] [] [.on .n] [(51,.int .u8 (o.toNat:Int))] ?_;refine Vg (dj:=50) rfl rfl ?_;refine Vs 40 [] a (o_z o) .nil ?_;rintro O - a _ _ ⟨rfl,rfl⟩;refine Vb ?_;refine Jw 2 [(54,.bool O)] ?_;refine Vt (j:=54) rfl a (fun a=>?_) (fun a=>?_)
   ·have⟨U,a⟩:=Vl a;refine A.q [] [] [.on .n,.on .n,.on .n] [Z.R64 (e+2)] [(55,.string h),(57,A.i (e+2))] U ?_;refine Vg (dj:=54) rfl rfl ?_;have⟨V,W,a⟩:=Vu a;refine Ut W ?_;refine Vg (dj:=54) rfl rfl ?_;refine Vs 80 [] a (o_z V) .nil ?_;rintro B - a _ _ ⟨rfl,rfl⟩;refine Vb ?_;refine Jw 2 [(39,.bool B)] (Ju ?_);exact Vf ⟨B,rfl,rfl,a⟩
   refine Jy [] [] [.off,.off,.off,.off,.off,.n,.n] [(39,.bool false)] (Ju ?_);exact Vf ⟨false,rfl,rfl,a⟩
  refine Jy [] [] [.off,.off,.n,.n,.off,.off,.off,.off,.off,.n,.n] [(39,.bool false)] (Ju ?_);exact Vf ⟨false,rfl,rfl,a⟩
 rintro _ _ ⟨w,rfl,rfl,a⟩;rw[F.cv]at a;refine Ua a ?_ ?_<;>intro t a
 ·refine Js 2 ?_;refine Jy [] [] [.n,.n,.n,.sy .n,.sy .n,.pk,.n] [(67,.bool (bif decide ((k.toNat:Int)=224)then decide ((o.toNat:Int)<160)else false))] ?_;refine Vt (j:=67) rfl a (fun a=>?_) (fun a=>?_)
  ·refine Jy [] [] [.off,.off,.off,.off,.off,.off,.n] [(74,.bool true)] (Jt 1 ?_);refine Uh rfl ?_;refine Js 1 ?_;refine Jw 1 [(4,A.i 0)] (Jt 1 ?_);obtain rfl:=J4 a;exact J5 [] ⟨rfl,rfl,J0⟩
  refine Jy [] [] [.on .n,.on .n,.on .n,.sy .n,.sy .n,.on .pk,.n] [(74,.bool (bif decide ((k.toNat:Int)=237)then decide ((159:Int)<(o.toNat:Int))else false))] (Jt 1 ?_);refine Ua a ?_ ?_<;>intro t a
  ·refine Js 1 ?_;refine Jw 1 [(4,A.i 0)] (Jt 1 ?_);obtain rfl:=J4 a;exact J5 [] ⟨rfl,rfl,J0⟩
  refine Js 3 ?_;refine Jw 1 [(4,A.i 3)] (Jt 1 ?_);obtain rfl:=J4 a;exact J5 [] ⟨rfl,rfl,(Va .i64 (3) rfl)⟩
 refine J2 [6,7] [] (fun p s=>∃(x:Bool),p=[(75,.bool x)]∧s=[]∧F.cb k o x=some r) ?_ ?_
 ·refine Js 0 ?_;refine Jy [] [] [.n,.n,.n,.sy .n,.sy .n,.pk,.n,.sy .n,.sy .n,.pk,.n] [(86,.bool (bif bif decide ((240:Int)≤(k.toNat:Int))then decide ((k.toNat:Int)≤244)else false then decide ((4:Int)≤(h.size:Int)-e)else false))] ?_;refine Vt (j:=86) rfl a (fun a=>?_) (fun a=>?_)
  ·refine Jy [] [] [.on .n] [(87,.int .u8 (o.toNat:Int))] ?_;refine Vg (dj:=86) rfl rfl ?_;refine Vs 120 [] a (o_z o) .nil ?_;rintro X - a _ _ ⟨rfl,rfl⟩;refine Vb ?_;refine Jw 2 [(90,.bool X)] ?_;refine Vt (j:=90) rfl a (fun a=>?_) (fun a=>?_)
   ·have⟨Y,a⟩:=Vl a;refine A.q [] [] [.on .n,.on .n,.on .n] [Z.R64 (e+2)] [(91,.string h),(93,A.i (e+2))] Y ?_;refine Vg (dj:=90) rfl rfl ?_;have⟨a2,a3,a⟩:=Vu a;refine Ut a3 ?_;refine Vg (dj:=90) rfl rfl ?_;refine Vs 160 [] a (o_z a2) .nil ?_;rintro a4 - a _ _ ⟨rfl,rfl⟩;refine Vb ?_;refine Jw 2 [(97,.bool a4)] ?_;refine Vt (j:=97) rfl a (fun a=>?_) (fun a=>?_)
    ·have⟨a5,a⟩:=Vl a;refine A.q [] [] [.on .n,.on .n,.on .n] [Z.R64 (e+3)] [(98,.string h),(100,A.i (e+3))] a5 ?_;refine Vg (dj:=97) rfl rfl ?_;have⟨a6,a7,a⟩:=Vu a;refine Ut a7 ?_;refine Vg (dj:=97) rfl rfl ?_;refine Vs 200 [] a (o_z a6) .nil ?_;rintro E - a _ _ ⟨rfl,rfl⟩;refine Vb ?_;refine Jw 2 [(75,.bool E)] (Ju ?_);exact Vf ⟨E,rfl,rfl,a⟩
    refine Jy [] [] [.off,.off,.off,.off,.off,.n,.n] [(75,.bool false)] (Ju ?_);exact Vf ⟨false,rfl,rfl,a⟩
   refine Jy [] [] [.off,.off,.off,.off,.off,.n,.n,.off,.off,.off,.off,.off,.n,.n] [(75,.bool false)] (Ju ?_);exact Vf ⟨false,rfl,rfl,a⟩
  refine Jy [] [] [.off,.off,.n,.n,.off,.off,.off,.off,.off,.n,.n,.off,.off,.off,.off,.off,.n,.n] [(75,.bool false)] (Ju ?_);exact Vf ⟨false,rfl,rfl,a⟩
 rintro _ _ ⟨x,rfl,rfl,a⟩;rw[F.cb]at a;refine Ua a ?_ ?_<;>intro t a
 ·refine Js 2 ?_;refine Jy [] [] [.n,.n,.n,.sy .n,.sy .n,.pk,.n] [(110,.bool (bif decide ((k.toNat:Int)=240)then decide ((o.toNat:Int)<144)else false))] ?_;refine Vt (j:=110) rfl a (fun a=>?_) (fun a=>?_)
  ·refine Jy [] [] [.off,.off,.off,.off,.off,.off,.n] [(117,.bool true)] (Jt 1 ?_);refine Uh rfl ?_;refine Js 1 ?_;refine Jw 1 [(4,A.i 0)] (Jt 1 ?_);obtain rfl:=J4 a;exact J5 [] ⟨rfl,rfl,J0⟩
  refine Jy [] [] [.on .n,.on .n,.on .n,.sy .n,.sy .n,.on .pk,.n] [(117,.bool (bif decide ((k.toNat:Int)=244)then decide ((143:Int)<(o.toNat:Int))else false))] (Jt 1 ?_);refine Ua a ?_ ?_<;>intro t a
  ·refine Js 1 ?_;refine Jw 1 [(4,A.i 0)] (Jt 1 ?_);obtain rfl:=J4 a;exact J5 [] ⟨rfl,rfl,J0⟩
  refine Js 3 ?_;refine Jw 1 [(4,A.i 4)] (Jt 1 ?_);obtain rfl:=J4 a;exact J5 [] ⟨rfl,rfl,(Va .i64 (4) rfl)⟩
 refine Js 1 ?_;refine Jw 1 [(4,A.i 0)] (Jt 1 ?_);obtain rfl:=J4 a;exact J5 [] ⟨rfl,rfl,J0⟩
def F.cw (e:ByteArray):Nat→Int→Option Bool
 |0,_=>none
 |f+1,a=>if a<(e.size:Int)then((F.dZ e a).bind fun h=>(if h=0 then(some false)else(A.gd (Z.R64 (a+h)) ((F.cw e f) (a+h)))))else(some true)
def F.eo (a:ByteArray):Option Bool:=F.cw a A.FU 0
theorem o_aO (h:ByteArray)(s:h.size≤maxLen)(r:Bool)(a:F.eo h=some r):
    A.Ct Tryz.prog 182 [.string h] [] [] (fun v H'=>v=.bool r∧H'=[]):=by
 refine Jv Tryz.func182 rfl Tryz.ntmps182 rfl fun y z=>?_;rw[F.eo]at a;refine Js 1 ?_;refine Jw 1 [] (J7 3 ?_);refine Jw 1 [(3,A.i 0)] (Jt 2 ?_);refine Vk [0] [] (fun f t u=>∃(e:Int),t=[(3,A.i e)]∧u=[]∧A.h6 e∧F.cw h f e=some r) ⟨0,rfl,rfl,J0,a⟩ ?_;rintro o _ _ ⟨e,rfl,rfl,w,a⟩;rcases o with _|o
 ·exact Vi a
 rw[F.cw]at a;refine Js 2 ?_;refine Jw 4 [(8,.bool (decide (e<(h.size:Int))))] (Jt 1 ?_);refine Vm a ?_ ?_<;>intro x a
 ·refine Js 4 ?_;refine Jw 2 [(9,.string h),(10,A.i e)] ?_;refine Vs 80 [] a (o_aN h e s w) .nil ?_;rintro k - a _ _ ⟨rfl,rfl,hr6⟩;refine Vb ?_;refine Jw 1 [(4,A.i k)] (J7 3 ?_);refine Jw 2 [(13,.bool (decide (k=0)))] (Jt 1 ?_);refine Vm a ?_ ?_<;>intro x a
  ·refine Js 1 ?_;refine Jw 1 [(2,.bool false)] (Jt 1 ?_);obtain rfl:=J4 a;exact J5 [] ⟨rfl,rfl⟩
  refine Js 2 ?_;have⟨p,a⟩:=Vl a;refine V5 4 [Z.R64 (e+k)] [(3,A.i (e+k))] p (Uc 1 ?_);exact Vf ⟨_,Qi _,⟨(e+k),rfl,rfl,(Jz p),a⟩⟩
 refine Js 3 ?_;refine Jw 1 [(2,.bool true)] (Jt 1 ?_);obtain rfl:=J4 a;exact J5 [] ⟨rfl,rfl⟩
def F.bN (o:(List D234)→Int→Option (List D234))(e:List D234)(a:Int)(h:Int)(k:Int):Option (List D234):=A.gd ((List.length (α:=D234) e+List.length (α:=D234) [(a,k)])*16≤140737488355328) (A.gd (Z.R64 (a+h)) (o (e++[(a,k)]) (a+h)))
def F.aV (e:ByteArray):Nat→(List D234)→Int→Option (List D234)
 |0,_,_=>none
 |f+1,k,a=>if a<(e.size:Int)then((F.dZ e a).bind fun h=>(if h=1 then((A.ix e.data.toList a).bind fun o=>(F.bN (F.aV e f) k a h (IntKind.i32.wrap ((o.toNat:Int)))))else(if h=2 then(A.gd (Z.R64 (a+1)) ((A.ix e.data.toList a).bind fun p=>(A.gd ((32:Int)≠0) ((A.ix e.data.toList (a+1)).bind fun s=>(A.gd ((64:Int)≠0) (F.bN (F.aV e f) k a h (IntKind.i32.wrap ((IntKind.i32.wrap ((IntKind.i32.wrap (Int.tmod (p.toNat:Int) 32))*64))+(IntKind.i32.wrap (Int.tmod (s.toNat:Int) 64))))))))))else(if h=3 then(A.gd (Z.R64 (a+1)∧Z.R64 (a+2)) ((A.ix e.data.toList a).bind fun t=>(A.gd ((16:Int)≠0) ((A.ix e.data.toList (a+1)).bind fun u=>(A.gd ((64:Int)≠0) ((A.ix e.data.toList (a+2)).bind fun w=>(A.gd ((64:Int)≠0) (F.bN (F.aV e f) k a h (IntKind.i32.wrap ((IntKind.i32.wrap ((IntKind.i32.wrap ((IntKind.i32.wrap ((IntKind.i32.wrap (Int.tmod (t.toNat:Int) 16))*64))+(IntKind.i32.wrap (Int.tmod (u.toNat:Int) 64))))*64))+(IntKind.i32.wrap (Int.tmod (w.toNat:Int) 64))))))))))))else(if h=4 then(A.gd (Z.R64 (a+1)∧Z.R64 (a+2)∧Z.R64 (a+3)) ((A.ix e.data.toList a).bind fun x=>(A.gd ((8:Int)≠0) ((A.ix e.data.toList (a+1)).bind fun y=>(A.gd ((64:Int)≠0) ((A.ix e.data.toList (a+2)).bind fun z=>(A.gd ((64:Int)≠0) ((A.ix e.data.toList (a+3)).bind fun B=>(A.gd ((64:Int)≠0) (F.bN (F.aV e f) k a h (IntKind.i32.wrap ((IntKind.i32.wrap ((IntKind.i32.wrap ((IntKind.i32.wrap ((IntKind.i32.wrap ((IntKind.i32.wrap ((IntKind.i32.wrap (Int.tmod (x.toNat:Int) 8))*64))+(IntKind.i32.wrap (Int.tmod (y.toNat:Int) 64))))*64))+(IntKind.i32.wrap (Int.tmod (z.toNat:Int) 64))))*64))+(IntKind.i32.wrap (Int.tmod (B.toNat:Int) 64))))))))))))))else(F.bN (F.aV e f) k a 1 65533))))))else(some k)
def F.ez (a:ByteArray):Option (List D234):=F.aV a A.FU [] 0
theorem o_bs (o:ByteArray)(a6:o.size≤maxLen)(r:(List D234))(e:F.ez o=some r):
    A.Ct Tryz.prog 183 [.string o] [] [] (fun v H'=>∃(A0':Option Addr) (c1':Nat),v=.slice A0' r.length c1'∧H'=[(0,.own T234 235 A0' c1' r)]):=by
 refine Jv Tryz.func183 rfl Tryz.ntmps183 rfl fun w0 F0=>?_;rw[F.ez]at e;refine Js 1 ?_;refine Jw 1 [] (J7 2 ?_);refine Jw 1 [(3,.slice none 0 0)] (J7 3 ?_);refine Jw 1 [(4,A.i 0)] (Jt 2 ?_);refine V4 43 T234 235 ?_;refine Vk [0] [] (fun f J L=>∃(s:List D234),∃(h:Int),∃(x:Option Addr),∃(y:Nat),J=[(3,.slice x s.length y),(4,A.i h)]∧L=[(43,.own T234 235 x y s)]∧A.h6 h∧F.aV o f s h=some r) ⟨[],0,none,0,rfl,rfl,J0,e⟩ ?_;rintro N _ _ ⟨s,h,x,y,rfl,rfl,W,e⟩;rcases N with _|N
 ·exact Vi e
 rw[F.aV]at e;refine Js 2 ?_;refine Jw 4 [(10,.bool (decide (h<(o.size:Int))))] (Jt 1 ?_);refine Vm e ?_ ?_<;>intro B e
 ·refine Js 4 ?_;refine Jw 2 [(11,.string o),(12,A.i h)] ?_;refine Vs 126 [] e (o_aN o h a6 W) .nil ?_;rintro p - e _ _ ⟨rfl,rfl,hr9⟩;refine Vb ?_;refine Jw 1 [(5,A.i p)] (J7 2 ?_);refine Jw 1 [(6,.int .i32 65533)] (Jt 1 ?_);refine J2 [0,3,4] l5z (fun J L=>∃(u:Int),∃(t:Int),J=[(5,A.i u),(6,.int .i32 t)]∧L=[]∧A.h6 u∧IntKind.i32.has t∧F.bN (F.aV o N) s h u t=some r) ?_ ?_
  ·refine Js 1 ?_;refine Jw 1 [(14,A.i p)] (J7 3 ?_);refine Jw 2 [(15,.bool (decide (p=1)))] (Jt 1 ?_);refine Vm e ?_ ?_<;>intro B e
   ·refine Js 0 ?_;refine Jw 2 [(17,.string o),(18,A.i h)] ?_;have⟨X,a7,e⟩:=Vu e;refine Ut a7 ?_;refine Jw 2 [(6,.int .i32 (IntKind.i32.wrap ((X.toNat:Int))))] (Uc 1 ?_);exact Vf ⟨p,(IntKind.i32.wrap ((X.toNat:Int))),rfl,rfl,hr9,(A.wrap_has _ _),e⟩
   refine Js 1 ?_;refine Jw 2 [(21,.bool (decide (p=2)))] (Jt 1 ?_);refine Vm e ?_ ?_<;>intro B e
   ·refine Vh mixed 14 14 (A.mb 14 0) ?_;have⟨a8,e⟩:=Vl e;refine Un J1 [] l5z [] [] (A.mb 14 451) 9 [(0,.n),(1,.n),(6,.n),(7,.n),(8,.n)] [23,24,29,31] [Z.R64 (h+1)] [(23,.string o),(24,A.i h),(29,.string o),(31,A.i (h+1))] a8 ?_;have⟨O,a9,e⟩:=Vu e;refine Vd J1 l5z l5z 2 (A.mb 14 455) rfl (fun a w hf hh=>Ux a9 hf) ?_;have⟨aa,e⟩:=Vl e;refine Un J1 l5z l5z [] [] (A.mb 14 511) 5 [(3,.n),(4,.n),(5,.n)] [28] [(32:Int)≠0] [(28,.int .i32 (IntKind.i32.wrap ((IntKind.i32.wrap (Int.tmod (O.toNat:Int) 32))*64)))] aa ?_;have⟨Y,ab,e⟩:=Vu e;refine Vd J1 l5z l5z 9 (A.mb 14 1023) rfl (fun a w hf hh=>Ux ab hf) ?_;have⟨ac,e⟩:=Vl e;refine Un J1 l5z l5z [] [] (A.mb 14 16383) 0 [(10,.n),(11,.n),(12,.n),(13,.n)] [6] [(64:Int)≠0] [(6,.int .i32 (IntKind.i32.wrap ((IntKind.i32.wrap ((IntKind.i32.wrap (Int.tmod (O.toNat:Int) 32))*64))+(IntKind.i32.wrap (Int.tmod (Y.toNat:Int) 64)))))] ac ?_;refine J9 ?_;refine A.ee 1 ?_;exact Vf ⟨p,(IntKind.i32.wrap ((IntKind.i32.wrap ((IntKind.i32.wrap (Int.tmod (O.toNat:Int) 32))*64))+(IntKind.i32.wrap (Int.tmod (Y.toNat:Int) 64)))),rfl,rfl,hr9,(A.wrap_has _ _),e⟩
   refine Js 1 ?_;refine Jw 2 [(36,.bool (decide (p=3)))] (Jt 1 ?_);refine Vm e ?_ ?_<;>intro B e
   ·refine Vh mixed 22 22 (A.mb 22 0) ?_;have⟨ad,e⟩:=Vl e;refine Un J1 [] l5z [] [] (A.mb 22 115139) 14 [(0,.n),(1,.n),(6,.n),(7,.n),(14,.n),(15,.n),(8,.n),(16,.n)] [38,39,44,52,46,54] [Z.R64 (h+1),Z.R64 (h+2)] [(38,.string o),(39,A.i h),(44,.string o),(52,.string o),(46,A.i (h+1)),(54,A.i (h+2))] ad ?_;have⟨E,ae,e⟩:=Vu e;refine Vd J1 l5z l5z 2 (A.mb 22 115143) rfl (fun a w hf hh=>Ux ae hf) ?_;have⟨af,e⟩:=Vl e;refine Un J1 l5z l5z [] [] (A.mb 22 115199) 10 [(3,.n),(4,.n),(5,.n)] [43] [(16:Int)≠0] [(43,.int .i32 (IntKind.i32.wrap ((IntKind.i32.wrap (Int.tmod (E.toNat:Int) 16))*64)))] af ?_;have⟨U,ag,e⟩:=Vu e;refine Vd J1 l5z l5z 9 (A.mb 22 115711) rfl (fun a w hf hh=>Ux ag hf) ?_;have⟨ah,e⟩:=Vl e;refine Un J1 l5z l5z [] [] (A.mb 22 131071) 5 [(10,.n),(11,.n),(12,.n),(13,.n)] [51] [(64:Int)≠0] [(51,.int .i32 (IntKind.i32.wrap ((IntKind.i32.wrap ((IntKind.i32.wrap ((IntKind.i32.wrap (Int.tmod (E.toNat:Int) 16))*64))+(IntKind.i32.wrap (Int.tmod (U.toNat:Int) 64))))*64)))] ah ?_;have⟨a1,ai,e⟩:=Vu e;refine Vd J1 l5z l5z 17 (A.mb 22 262143) rfl (fun a w hf hh=>Ux ai hf) ?_;have⟨aj,e⟩:=Vl e;refine Un J1 l5z l5z [] [] (A.mb 22 4194303) 0 [(18,.n),(19,.n),(20,.n),(21,.n)] [6] [(64:Int)≠0] [(6,.int .i32 (IntKind.i32.wrap ((IntKind.i32.wrap ((IntKind.i32.wrap ((IntKind.i32.wrap ((IntKind.i32.wrap (Int.tmod (E.toNat:Int) 16))*64))+(IntKind.i32.wrap (Int.tmod (U.toNat:Int) 64))))*64))+(IntKind.i32.wrap (Int.tmod (a1.toNat:Int) 64)))))] aj ?_;refine J9 ?_;refine A.ee 1 ?_;exact Vf ⟨p,(IntKind.i32.wrap ((IntKind.i32.wrap ((IntKind.i32.wrap ((IntKind.i32.wrap ((IntKind.i32.wrap (Int.tmod (E.toNat:Int) 16))*64))+(IntKind.i32.wrap (Int.tmod (U.toNat:Int) 64))))*64))+(IntKind.i32.wrap (Int.tmod (a1.toNat:Int) 64)))),rfl,rfl,hr9,(A.wrap_has _ _),e⟩
   refine Js 1 ?_;refine Jw 2 [(59,.bool (decide (p=4)))] (Jt 1 ?_);refine Vm e ?_ ?_<;>intro B e
   ·refine A.AX.drF mixed 30 30 [0,0,3,4,8,16,0,0,128,320,512,1024,2080,4096,0,0,32768,81920,131072,262144,532480,1048576,0,0,8388608,20971520,33554432,67108864,136314880,536870911] [0,0,3,4,8,16,0,0,128,320,512,1024,2080,4096,0,0,32768,81920,131072,262144,532480,1048576,0,0,8388608,20971520,33554432,67108864,136314880,268435456] fun hT38=>?_;have⟨ak,e⟩:=Vl e;refine A.AH.qF hT38 J1 [] [43] [] [] 0 29475267 19 [(0,.n),(1,.n),(6,.n),(7,.n),(14,.n),(15,.n),(22,.n),(23,.n),(8,.n),(16,.n),(24,.n)] [61,62,67,75,83,69,77,85] [Z.R64 (h+1),Z.R64 (h+2),Z.R64 (h+3)] [(61,.string o),(62,A.i h),(67,.string o),(75,.string o),(83,.string o),(69,A.i (h+1)),(77,A.i (h+2)),(85,A.i (h+3))] ak ?_;have⟨z,al,e⟩:=Vu e;refine Vd J1 l5z l5z 2 (A.mb 30 29475271) rfl (fun a w hf hh=>Ux al hf) ?_;have⟨am,e⟩:=Vl e;refine A.AH.qF hT38 J1 [43] [43] [] [] 29475271 29475327 15 [(3,.n),(4,.n),(5,.n)] [66] [(8:Int)≠0] [(66,.int .i32 (IntKind.i32.wrap ((IntKind.i32.wrap (Int.tmod (z.toNat:Int) 8))*64)))] am ?_;have⟨I,an,e⟩:=Vu e;refine Vd J1 l5z l5z 9 (A.mb 30 29475839) rfl (fun a w hf hh=>Ux an hf) ?_;have⟨ao,e⟩:=Vl e;refine A.AH.qF hT38 J1 [43] [43] [] [] 29475839 29491199 10 [(10,.n),(11,.n),(12,.n),(13,.n)] [74] [(64:Int)≠0] [(74,.int .i32 (IntKind.i32.wrap ((IntKind.i32.wrap ((IntKind.i32.wrap ((IntKind.i32.wrap (Int.tmod (z.toNat:Int) 8))*64))+(IntKind.i32.wrap (Int.tmod (I.toNat:Int) 64))))*64)))] ao ?_;have⟨V,ap,e⟩:=Vu e;refine Vd J1 l5z l5z 17 (A.mb 30 29622271) rfl (fun a w hf hh=>Ux ap hf) ?_;have⟨aq,e⟩:=Vl e;refine A.AH.qF hT38 J1 [43] [43] [] [] 29622271 33554431 5 [(18,.n),(19,.n),(20,.n),(21,.n)] [82] [(64:Int)≠0] [(82,.int .i32 (IntKind.i32.wrap ((IntKind.i32.wrap ((IntKind.i32.wrap ((IntKind.i32.wrap ((IntKind.i32.wrap ((IntKind.i32.wrap (Int.tmod (z.toNat:Int) 8))*64))+(IntKind.i32.wrap (Int.tmod (I.toNat:Int) 64))))*64))+(IntKind.i32.wrap (Int.tmod (V.toNat:Int) 64))))*64)))] aq ?_;have⟨a2,ar,e⟩:=Vu e;refine Vd J1 l5z l5z 25 (A.mb 30 67108863) rfl (fun a w hf hh=>Ux ar hf) ?_;have⟨au,e⟩:=Vl e;refine A.AH.qF hT38 J1 [43] [43] [] [] 67108863 1073741823 0 [(26,.n),(27,.n),(28,.n),(29,.n)] [6] [(64:Int)≠0] [(6,.int .i32 (IntKind.i32.wrap ((IntKind.i32.wrap ((IntKind.i32.wrap ((IntKind.i32.wrap ((IntKind.i32.wrap ((IntKind.i32.wrap ((IntKind.i32.wrap (Int.tmod (z.toNat:Int) 8))*64))+(IntKind.i32.wrap (Int.tmod (I.toNat:Int) 64))))*64))+(IntKind.i32.wrap (Int.tmod (V.toNat:Int) 64))))*64))+(IntKind.i32.wrap (Int.tmod (a2.toNat:Int) 64)))))] au ?_;refine A.AH.doneF hT38 ?_;refine A.ee 1 ?_;exact Vf ⟨p,(IntKind.i32.wrap ((IntKind.i32.wrap ((IntKind.i32.wrap ((IntKind.i32.wrap ((IntKind.i32.wrap ((IntKind.i32.wrap ((IntKind.i32.wrap (Int.tmod (z.toNat:Int) 8))*64))+(IntKind.i32.wrap (Int.tmod (I.toNat:Int) 64))))*64))+(IntKind.i32.wrap (Int.tmod (V.toNat:Int) 64))))*64))+(IntKind.i32.wrap (Int.tmod (a2.toNat:Int) 64)))),rfl,rfl,hr9,(A.wrap_has _ _),e⟩
   refine Js 0 ?_;refine Jw 1 [(5,A.i 1)] (Uc 1 ?_);exact Vf ⟨1,65533,rfl,rfl,(Va .i64 (1) rfl),(Va .i32 (65533) rfl),e⟩
  rintro _ _ ⟨u,t,rfl,rfl,aw,av,e⟩;rw[F.bN]at e;refine Js 1 ?_;refine Jw 4 [(90,.slice x s.length y),(93,.agg #[A.i h,.int .i32 t])] ?_;refine Vq 166 (ty:=T234) (cs:=[A.i h,.int .i32 t]) [(h,t)] ⟨⟨⟨rfl,W⟩,⟨rfl,av⟩⟩,rfl⟩ (fun ax=>?_) Tryz.zeroValue235 Tryz.sizeOf235
  have⟨hl17,e⟩:=Vl e;refine Vy (k:=43) [] (Ui (k:=166) rfl) inf235 hl17 fun a3 a4=>?_;refine Jw 1 [(3,.slice a3 ((s++[(h,t)]).length) a4)] (J7 1 ?_);have⟨a5,e⟩:=Vl e;refine V5 4 [Z.R64 (h+u)] [(4,A.i (h+u))] a5 (Uc 1 ?_);exact Vf ⟨_,Qi _,⟨(s++[(h,t)]),(h+u),a3,a4,rfl,rfl,(Jz a5),e⟩⟩
 refine Js 3 ?_;refine Jw 2 [(2,.slice x s.length y)] (Jt 1 ?_);obtain rfl:=J4 e;exact J5 [(0,43)] ⟨x,y,rfl,rfl⟩
def F.dP (a:Bool):Option Bool:=some a
def F.df (a:Bool):Option Bool:=some a
def F.dg (a:D81)(e:Bool):Option Bool:=if e=true then(if(a.2.2.size:Int)≤4 then((F.eo a.2.2).bind fun h=>(if h=true then((F.ez a.2.2).bind fun k=>(F.df (decide ((k.length:Int)=1))))else(F.df false)))else(F.df false))else(some (decide (a.2.2=(ByteArray.mk #[]))))
def F.ew (a:D81):Option Bool:=if a.1=5 then(if(bif decide ((1:Int)≤(a.2.2.size:Int))then decide ((a.2.2.size:Int)≤16)else false)=true then((F.eo a.2.2).bind fun e=>(F.dP e))else(F.dP false))else(if a.1=12 then(F.dg a (decide (a.1=12)))else(F.dg a (decide (a.1=22))))
theorem o_bH (e:D81)(z:A.h6 e.1)(B:A.h6 e.2.1)(o:e.2.2.size≤maxLen)(r:Bool)(a:F.ew e=some r):
    A.Ct Tryz.prog 162 [.agg #[A.i e.1,A.i e.2.1,.string e.2.2]] [] [] (fun v H'=>v=.bool r∧H'=[]):=by
 refine Jv Tryz.func162 rfl Tryz.ntmps162 rfl fun E I=>?_;rw[F.ew]at a;refine Js 1 ?_;refine J8 0 (cs:=[A.i e.1,A.i e.2.1,.string e.2.2]) fun J=>?_;refine Jw 1 [] (J7 2 ?_);refine Jy [0] [] [.n,.b 0 0] [(4,A.i e.1)] (J7 3 ?_);refine Jw 2 [(8,.bool (decide (e.1=5)))] (Jt 1 ?_);refine Vm a ?_ ?_<;>intro p a
 ·refine J2 [] [] (fun h k=>∃(s:Bool),h=[(2,.bool s)]∧k=[]∧F.dP s=some r) ?_ ?_
  ·refine Js 0 ?_;refine Jy [0] [] [.n,.b 0 2,.n,.n,.n,.sy .n,.sy (.b 0 2),.sy .n,.sy .n,.pk,.n] [(20,.bool (bif decide ((1:Int)≤(e.2.2.size:Int))then decide ((e.2.2.size:Int)≤16)else false))] ?_;refine Vt (j:=20) rfl a (fun a=>?_) (fun a=>?_)
   ·refine Jy [0] [] [.on .n,.on (.b 0 2)] [(22,.string e.2.2)] ?_;refine Vg (dj:=20) rfl rfl ?_;refine Vs 1 [] a (o_aO e.2.2 o) .nil ?_;rintro w - a _ _ ⟨rfl,rfl⟩;refine Vb ?_;refine Jw 2 [(2,.bool w)] (Ju ?_);exact Vf ⟨w,rfl,rfl,a⟩
   refine Jy [] [] [.off,.off,.off,.n,.n] [(2,.bool false)] (Ju ?_);exact Vf ⟨false,rfl,rfl,a⟩
  rintro _ _ ⟨s,rfl,rfl,a⟩;rw[F.dP]at a;obtain rfl:=J4 a;exact J5 [] ⟨rfl,rfl⟩
 refine J2 [1] [0] (fun h k=>∃(t:Bool),h=[(25,.bool t)]∧k=[]∧F.dg e t=some r) ?_ ?_
 ·refine Js 1 ?_;refine Jw 2 [(25,.bool (decide (e.1=12)))] (Jt 1 ?_);refine Vm a ?_ ?_<;>intro p a
  ·refine Vw 1 ?_;exact Vf ⟨(decide (e.1=12)),rfl,rfl,a⟩
  refine Js 0 ?_;refine Jw 2 [(25,.bool (decide (e.1=22)))] (Ju ?_);exact Vf ⟨(decide (e.1=22)),rfl,rfl,a⟩
 rintro _ _ ⟨t,rfl,rfl,a⟩;rw[F.dg]at a;refine Ua a ?_ ?_<;>intro p a
 ·refine J2 [] [] (fun h k=>∃(u:Bool),h=[(2,.bool u)]∧k=[]∧F.df u=some r) ?_ ?_
  ·refine Js 0 ?_;refine Jy [0] [] [.n,.b 0 2,.n,.n,.n] [(32,.bool (decide ((e.2.2.size:Int)≤4)))] ?_;refine V8 (j:=32) rfl a ?_ ?_<;>intro p a
   ·refine Jy [0] [] [.on .n,.on (.b 0 2)] [(34,.string e.2.2)] ?_;refine Vg (dj:=32) rfl rfl ?_;refine Vs 41 [] a (o_aO e.2.2 o) .nil ?_;rintro y - a _ _ ⟨rfl,rfl⟩;refine Vb ?_;refine Jw 2 [(37,.bool y)] ?_;refine Vt (j:=37) rfl a (fun a=>?_) (fun a=>?_)
    ·refine Jy [0] [] [.on .n,.on (.b 0 2)] [(39,.string e.2.2)] ?_;refine Vg (dj:=37) rfl rfl ?_;refine Vs 81 [] a (o_bs e.2.2 o) .nil ?_;rintro x - a _ _ ⟨L,c12,rfl,rfl⟩;refine Vb ?_;refine Jy [] [] [.on .n,.on .n,.n,.n] [(2,.bool (decide ((x.length:Int)=1)))] (Ju ?_);exact Vf ⟨(decide ((x.length:Int)=1)),rfl,rfl,a⟩
    refine Jy [] [] [.off,.off,.off,.off,.off,.n,.n] [(2,.bool false)] (Ju ?_);exact Vf ⟨false,rfl,rfl,a⟩
   refine Jy [] [] [.off,.off,.off,.n,.n,.off,.off,.off,.off,.off,.n,.n] [(2,.bool false)] (Ju ?_);exact Vf ⟨false,rfl,rfl,a⟩
  rintro _ _ ⟨u,rfl,rfl,a⟩;rw[F.df]at a;obtain rfl:=J4 a;exact J5 [] ⟨rfl,rfl⟩
 refine Js 1 ?_;refine Jy [0] [] [.n,.b 0 2,.n,.n] [(2,.bool (decide (e.2.2=(ByteArray.mk #[]))))] (Jt 1 ?_);obtain rfl:=J4 a;exact J5 [] ⟨rfl,rfl⟩
def F.cQ (e:Int→Option Int)(a:Int)(h:Bool):Option Int:=if h=true then(some 0)else(A.gd (Z.R64 (a+1)) (e (a+1)))
def F.bd (a:D81)(e:(List Int)):Nat→Int→Option Int
 |0,_=>none
 |f+1,h=>if h<(e.length:Int)then((A.ix e h).bind fun k=>(if k=a.1 then((F.er a).bind fun o=>(if o=true then((F.ew a).bind fun p=>(F.cQ (F.bd a e f) h p))else(F.cQ (F.bd a e f) h false)))else(F.cQ (F.bd a e f) h false)))else(some 60)
def F.bn (a:D81)(e:(List Int))(h:Bool):Option Int:=if h=true then(some 0)else(F.bd a e A.FU 0)
def F.d0 (h:Int)(a:D81):Option Int:=(F.cE h).bind fun e=>(if(e.length:Int)=0 then(F.bn a e (decide (a=(0,0,ByteArray.mk #[]))))else(F.bn a e false))
theorem o_bt (s:Int)(k:D81)(a2:A.h6 s)(L:A.h6 k.1)(N:A.h6 k.2.1)(O:k.2.2.size≤maxLen)(r:Int)(h:F.d0 s k=some r):
    A.Ct Tryz.prog 124 [A.i s,.agg #[A.i k.1,A.i k.2.1,.string k.2.2]] [] [] (fun v H'=>v=A.i r∧H'=[]∧A.h6 r):=by
 refine Jv Tryz.func124 rfl Tryz.ntmps124 rfl fun w0 F0=>?_;rw[F.d0]at h;refine Js 1 ?_;refine J8 0 (cs:=[A.i k.1,A.i k.2.1,.string k.2.2]) fun g1=>?_;refine Jw 1 [] (J7 2 ?_);refine Jw 1 [(7,A.i s)] ?_;refine Vs 1 [] h (o_bG s a2) .nil ?_;rintro p - h _ _ ⟨U,V,rfl,rfl⟩;refine Vb ?_;refine Jw 1 [(5,.slice U p.length V)] (Jt 2 ?_);refine J2 [3,5] l5y (fun u z=>∃(E:Bool),u=[(16,.bool E)]∧z=[]∧F.bn k p E=some r) ?_ ?_
 ·refine Js 0 ?_;refine Jw 4 [(12,.bool (decide ((p.length:Int)=0)))] ?_;refine V8 (j:=12) rfl h ?_ ?_<;>intro B h
  ·refine Jy [0] [] [.on (.b 0 0),.on .n] [(13,.agg #[A.i k.1,A.i k.2.1,.string k.2.2]),(14,.agg #[A.i 0,A.i 0,.string (ByteArray.mk #[])])] ?_;refine Vg (dj:=12) rfl rfl ?_;refine Uy rfl (fun a w hf hh=>eqagg_eql82 (x:=k) (y:=(0,0,ByteArray.mk #[])) (hf.eval rfl) (hf.eval rfl)) ?_;refine Jw 1 [(16,.bool (decide (k=(0,0,ByteArray.mk #[]))))] (Ju ?_);exact Vf ⟨(decide (k=(0,0,ByteArray.mk #[]))),rfl,rfl,h⟩
  refine Jy [] [] [.off,.off,.off,.n] [(16,.bool false)] (Ju ?_);exact Vf ⟨false,rfl,rfl,h⟩
 rintro _ _ ⟨E,rfl,rfl,h⟩;rw[F.bn]at h;refine Ua h ?_ ?_<;>intro B h
 ·refine Js 1 ?_;refine Jw 1 [(4,A.i 0)] (Jt 1 ?_);obtain rfl:=J4 h;exact J5 [] ⟨rfl,rfl,J0⟩
 refine Js 4 ?_;refine Jw 1 [(6,A.i 0)] (Jt 2 ?_);refine Vk [3,5] l5y (fun f u z=>∃(o:Int),u=[(6,A.i o)]∧z=[]∧A.h6 o∧F.bd k p f o=some r) ⟨0,rfl,rfl,J0,h⟩ ?_;rintro I _ _ ⟨o,rfl,rfl,a6,h⟩;rcases I with _|I
 ·exact Vi h
 rw[F.bd]at h;refine Js 2 ?_;refine Jw 4 [(20,.bool (decide (o<(p.length:Int))))] (Jt 1 ?_);refine Vm h ?_ ?_<;>intro B h
 ·refine V1 4 ?_;refine J2 [3,5,6] l5y (fun u z=>∃(J:Bool),u=[(37,.bool J)]∧z=[]∧F.cQ (F.bd k p I) o J=some r) ?_ ?_
  ·refine Vh mixed 15 15 (A.mb 15 0) ?_;refine Ve J1 [] l5y [0] [] (A.mb 15 51) 11 [(0,.n),(1,.n),(4,.n),(5,.b 0 0)] [(23,.slice U p.length V),(24,A.i o),(28,A.i k.1)] ?_;have⟨a3,W,h⟩:=Vu h;refine Ur 1 203 W fun a7=>?_;intro a8 a4;refine Vd J1 l5y l5l 2 (A.mb 15 55) rfl (fun a w hf hh=>Uw (t:=A.ti) W a4 hf) ?_;refine Ve J1 l5l l5l [] [203] (A.mb 15 255) 7 [(3,.e 0 0),(6,.n),(7,.n)] [(30,.bool (decide (a3=k.1)))] ?_;refine Ue (j:=30) rfl h ?_ ?_<;>intro B h
   ·refine Ve J1 l5l l5l [0] [] (A.mb 15 511) 6 [(8,.on (.b 0 0))] [(31,.agg #[A.i k.1,A.i k.2.1,.string k.2.2])] ?_;refine J6 9 ?_;refine Vg (dj:=30) rfl rfl ?_;refine Vs 204 [] h (o_be k L N O) .nil ?_;rintro a5 - h _ _ ⟨rfl,rfl⟩;refine Vb ?_;refine Vc (A.mb 15 1023) l5l ?_;refine Ve J1 l5l l5l [] [] (A.mb 15 4095) 3 [(10,.n),(11,.n)] [(34,.bool a5)] ?_;refine A.AH.cnd (j:=34) rfl h (fun h=>?_) (fun h=>?_)
    ·refine Ve J1 l5l l5l [0] [] (A.mb 15 8191) 2 [(12,.on (.b 0 0))] [(35,.agg #[A.i k.1,A.i k.2.1,.string k.2.2])] ?_;refine J6 13 ?_;refine Vg (dj:=34) rfl rfl ?_;refine Vs 244 [] h (o_bH k L N O) .nil ?_;rintro X - h _ _ ⟨rfl,rfl⟩;refine Vb ?_;refine Vc (A.mb 15 16383) l5l ?_;refine Ve J1 l5l l5l [] [] (A.mb 15 32767) 0 [(14,.n)] [(37,.bool X)] (J9 ?_);exact Vf ⟨X,rfl,rfl,h⟩
    refine Ve J1 l5l l5l [] [] (A.mb 15 32767) 0 [(12,.off),(13,.off),(14,.n)] [(37,.bool false)] (J9 ?_);exact Vf ⟨false,rfl,rfl,h⟩
   refine Ve J1 l5l l5l [] [] (A.mb 15 32767) 0 [(8,.off),(9,.off),(10,.n),(11,.n),(12,.off),(13,.off),(14,.n)] [(37,.bool false)] (J9 ?_);exact Vf ⟨false,rfl,rfl,h⟩
  rintro _ _ ⟨J,rfl,rfl,h⟩;rw[F.cQ]at h;refine Ua h ?_ ?_<;>intro B h
  ·refine Js 1 ?_;refine Jw 1 [(4,A.i 0)] (Jt 1 ?_);obtain rfl:=J4 h;exact J5 [] ⟨rfl,rfl,J0⟩
  refine Js 3 ?_;have⟨Y,h⟩:=Vl h;refine V5 3 [Z.R64 (o+1)] [(6,A.i (o+1))] Y (Ju ?_);exact Vf ⟨_,Qi _,⟨(o+1),rfl,rfl,(Jz Y),h⟩⟩
 refine Js 3 ?_;refine Jw 1 [(4,A.i 60)] (Jt 1 ?_);obtain rfl:=J4 h;exact J5 [] ⟨rfl,rfl,(Va .i64 (60) rfl)⟩
def F.ds (e:Int→Option Int)(a:Int)(h:Bool):Option Int:=if h=true then(some 80)else(A.gd (Z.R64 (a+1)) (e (a+1)))
def F.bO (k:Int→Option Int)(a:D23)(e:Int):Nat→Int→Option Int
 |0,_=>none
 |f+1,h=>(A.ix a e).bind fun p=>(if h<(p.2.2.1.length:Int)then((A.ix a e).bind fun s=>((A.ix s.2.2.1 h).bind fun t=>((F.cC a t).bind fun o=>(if o<0 then(F.ds (F.bO k a e f) h true)else((A.ix a o).bind fun u=>(F.ds (F.bO k a e f) h (decide (u.2.1=15))))))))else(A.gd (Z.R64 (e+1)) (k (e+1))))
def F.aN (a:D23):Nat→Int→Option Int
 |0,_=>none
 |f+1,e=>if e<(a.length:Int)then(F.bO (F.aN a f) a e A.FU 0)else(some 0)
def F.bo (a:D23):Nat→Int→Option Int
 |0,_=>none
 |f+1,e=>if e<(a.length:Int)then((A.ix a e).bind fun h=>((A.ix a e).bind fun k=>((F.d0 h.2.1 k.2.2.2.1).bind fun o=>(if o≠0 then(some 60)else(A.gd (Z.R64 (e+1)) ((F.bo a f) (e+1)))))))else(F.aN a A.FU 0)
def F.cc (a:D23):Nat→Int→Option Int
 |0,_=>none
 |f+1,e=>if e<(a.length:Int)then((F.eE a e).bind fun h=>(if(!h)=true then(some 80)else(A.gd (Z.R64 (e+1)) ((F.cc a f) (e+1)))))else(F.bo a A.FU 0)
def F.ep (a:D23):Option Int:=if(32:Int)<(a.length:Int)then(some 80)else(F.cc a A.FU 0)
theorem o_bu(k:D23)(r:Int)(h:F.ep k=some r):
    A.Ct Tryz.prog 83 [.agg #[.slice A0_ k.length c1_]] [(0,.sh (.slice T83) [.slice A0_ k.length c1_] k)] [] (fun v H'=>v=A.i r∧H'=[]∧A.h6 r):=by
 refine Jv Tryz.func83 rfl Tryz.ntmps83 rfl fun w0 F0=>?_;rw[F.ep]at h;refine Js 1 ?_;refine J8 1 (cs:=[.slice A0_ k.length c1_]) fun g1=>?_;refine Jw 1 [] (J7 3 ?_);refine Jy [1] [] [.n,.b 0 0,.n,.n] [(11,.bool (decide ((32:Int)<(k.length:Int))))] (Jt 1 ?_);refine Vm h ?_ ?_<;>intro B h
 ·refine Js 1 ?_;refine Jw 1 [(2,A.i 80)] (Jt 1 ?_);obtain rfl:=J4 h;exact J5 [] ⟨rfl,rfl,(Va .i64 (80) rfl)⟩
 refine Js 4 ?_;refine Jw 1 [(3,A.i 0)] (Jt 2 ?_);refine Vk [1] l5y (fun f y z=>∃(u:Int),y=[(3,A.i u)]∧z=[]∧A.h6 u∧F.cc k f u=some r) ⟨0,rfl,rfl,J0,h⟩ ?_;rintro U _ _ ⟨u,rfl,rfl,a9,h⟩;rcases U with _|U
 ·exact Vi h
 rw[F.cc]at h;refine Js 2 ?_;refine Jy [1] [] [.n,.n,.b 0 0,.n,.n] [(16,.bool (decide (u<(k.length:Int))))] (Jt 1 ?_);refine Vm h ?_ ?_<;>intro B h
 ·refine Js 5 ?_;refine Jy [1] [] [.b 0 0,.n] [(19,.agg #[.slice A0_ k.length c1_]),(20,A.i u)] ?_;refine Vs 2884 [] h (o_bR A0_ c1_ k u a9) (.s 0 .nil) ?_;rintro r5 - h _ _ ⟨rfl,rfl⟩;refine Vb ?_;refine Jw 1 [(22,.bool (!r5))] (Jt 1 ?_);refine Ua h ?_ ?_<;>intro B h
  ·refine Js 1 ?_;refine Jw 1 [(2,A.i 80)] (Jt 1 ?_);obtain rfl:=J4 h;exact J5 [] ⟨rfl,rfl,(Va .i64 (80) rfl)⟩
  refine Js 3 ?_;have⟨V,h⟩:=Vl h;refine V5 3 [Z.R64 (u+1)] [(3,A.i (u+1))] V (Ju ?_);exact Vf ⟨_,Qi _,⟨(u+1),rfl,rfl,(Jz V),h⟩⟩
 refine Js 4 ?_;refine Jw 1 [(4,A.i 0)] (Jt 2 ?_);refine Vk [1] l5y (fun f y z=>∃(x:Int),y=[(4,A.i x)]∧z=[]∧A.h6 x∧F.bo k f x=some r) ⟨0,rfl,rfl,J0,h⟩ ?_;rintro W _ _ ⟨x,rfl,rfl,an,h⟩;rcases W with _|W
 ·exact Vi h
 rw[F.bo]at h;refine Js 2 ?_;refine Jy [1] [] [.n,.n,.b 0 0,.n,.n] [(27,.bool (decide (x<(k.length:Int))))] (Jt 1 ?_);refine Vm h ?_ ?_<;>intro B h
 ·refine V1 5 ?_;refine Vh mixed 14 14 (A.mb 14 0) ?_;refine Ve J1 [] l5y [1] [] (A.mb 14 455) 8 [(0,.n),(2,.n),(6,.n),(8,.n),(1,.b 0 0),(7,.b 0 0)] [(32,A.i x),(38,A.i x),(31,.slice A0_ k.length c1_),(37,.slice A0_ k.length c1_)] ?_;have⟨X,Y,h⟩:=Vu h;refine V9 0 3858 Y fun aa=>?_;intro ao ap aq ar ab;refine Vd J1 l5y l5v 3 (A.mb 14 463) rfl (fun a w hf hh=>Vj (t:=T83) Y ab hf) ?_;refine Ve J1 l5v l5v [] [3858] (A.mb 14 511) 5 [(4,.n),(5,.e 0 1)] [(35,A.i X.2.1)] ?_;have⟨E,a1,h⟩:=Vu h;refine V9 0 3860 a1 fun J=>?_;intro au av aw ax ac;refine Vd J1 l5v l5e 9 (A.mb 14 1023) rfl (fun a w hf hh=>Vj (t:=T83) a1 ac hf) ?_;refine Ve J1 l5e l5e [] [3860] (A.mb 14 4095) 2 [(10,.n),(11,.e 0 3)] [(41,.agg #[A.i E.2.2.2.1.1,A.i E.2.2.2.1.2.1,.string E.2.2.2.1.2.2])] ?_;refine J6 12 ?_;refine Vs 3862 [] h (o_bt X.2.1 E.2.2.2.1 aa.2.1 J.2.2.2.1.1 J.2.2.2.1.2.1 J.2.2.2.1.2.2) .nil ?_;rintro ad - h _ _ ⟨rfl,rfl,hr29⟩;refine Vb ?_;refine Vc (A.mb 14 8191) l5e ?_;refine Ve J1 l5e l5e [] [] (A.mb 14 16383) 0 [(13,.n)] [(43,.bool (decide (ad≠0)))] (J9 ?_);refine Uu 1 ?_;refine Vm h ?_ ?_<;>intro B h
  ·refine Js 1 ?_;refine Jw 1 [(2,A.i 60)] (Jt 1 ?_);obtain rfl:=J4 h;exact J5 [] ⟨rfl,rfl,(Va .i64 (60) rfl)⟩
  refine Js 3 ?_;have⟨a2,h⟩:=Vl h;refine V5 3 [Z.R64 (x+1)] [(4,A.i (x+1))] a2 (Ju ?_);exact Vf ⟨_,Qi _,⟨(x+1),rfl,rfl,(Jz a2),h⟩⟩
 refine Js 4 ?_;refine Jw 1 [(5,A.i 0)] (Jt 2 ?_);refine Vk [1] l5y (fun f y z=>∃(o:Int),y=[(5,A.i o)]∧z=[]∧A.h6 o∧F.aN k f o=some r) ⟨0,rfl,rfl,J0,h⟩ ?_;rintro I _ _ ⟨o,rfl,rfl,ay,h⟩;rcases I with _|I
 ·exact Vi h
 rw[F.aN]at h;refine Js 2 ?_;refine Jy [1] [] [.n,.n,.b 0 0,.n,.n] [(48,.bool (decide (o<(k.length:Int))))] (Jt 1 ?_);refine Vm h ?_ ?_<;>intro B h
 ·refine Js 5 ?_;refine Jw 1 [(6,A.i 0)] (Jt 2 ?_);refine Vk [1,5] l5y (fun f y z=>∃(p:Int),y=[(6,A.i p)]∧z=[]∧A.h6 p∧F.bO (F.aN k I) k o f p=some r) ⟨0,rfl,rfl,J0,h⟩ ?_;rintro L _ _ ⟨p,rfl,rfl,az,h⟩;rcases L with _|L
  ·exact Vi h
  rw[F.bO]at h;refine Js 2 ?_;refine Jy [1] [] [.n,.n,.b 0 0,.n] [(51,A.i p),(53,.slice A0_ k.length c1_),(54,A.i o)] ?_;have⟨ae,af,h⟩:=Vu h;refine Vv 0 4278 af fun b0=>?_;intro b1 b2 b3 b4;refine Jy [] [4278] [.n,.e 0 2,.n,.n] [(59,.bool (decide (p<(ae.2.2.1.length:Int))))] (Jt 1 ?_);refine Vm h ?_ ?_<;>intro B h
  ·refine V1 5 ?_;refine Vh mixed 12 12 (A.mb 12 0) ?_;refine Ve J1 [] [0,1,4278,4279] [1] [] (A.mb 12 143) 7 [(0,.b 0 0),(1,.n),(3,.n),(7,.n),(2,.b 0 0)] [(62,.agg #[.slice A0_ k.length c1_]),(65,A.i o),(69,A.i p),(64,.slice A0_ k.length c1_)] ?_;have⟨ag,a3,h⟩:=Vu h;refine V9 0 4280 a3 fun b5=>?_;intro ah ai b6 b7 aj;refine Vd J1 [0,1,4278,4279] l5m 4 (A.mb 12 159) rfl (fun a w hf hh=>Vj (t:=T83) a3 aj hf) ?_;refine Ve J1 l5m l5m [] [4280] (A.mb 12 255) 4 [(5,.n),(6,.e 0 2)] [(68,.slice ah ag.2.2.1.length ai)] ?_;have⟨a4,a5,h⟩:=Vu h;refine V9 4281 4282 a5 fun ak=>?_;intro b9 bb al;refine Vd J1 l5m l5b 8 (A.mb 12 511) rfl (fun a w hf hh=>Vj (t:=A.ti) a5 al hf) ?_;refine Ve J1 l5b l5b [] [4282] (A.mb 12 1023) 2 [(9,.e 0 0)] [(71,A.i a4)] ?_;refine J6 10 ?_;refine Vs 4283 [] h (o_u A0_ c1_ k a4 ak) (.s 0 .nil) ?_;rintro N - h _ _ ⟨rfl,rfl,hr60⟩;refine Vb ?_;refine Vc (A.mb 12 2047) l5b ?_;refine Ve J1 l5b l5b [] [] (A.mb 12 4095) 0 [(11,.n)] [(7,A.i N)] (J9 ?_);refine Uu 1 ?_;refine J2 [1,5,6] l5y (fun y z=>∃(O:Bool),y=[(83,.bool O)]∧z=[]∧F.ds (F.bO (F.aN k I) k o L) p O=some r) ?_ ?_
   ·refine Js 0 ?_;refine Jw 3 [(75,.bool (decide (N<0)))] ?_;refine V8 (j:=75) rfl h ?_ ?_<;>intro B h
    ·refine Jy [] [] [.off,.off,.off,.off,.off,.off,.off,.n] [(83,.bool true)] (Ju ?_);exact Vf ⟨true,rfl,rfl,h⟩
    refine Jy [1] [] [.on .n,.on (.b 0 0),.on .n] [(77,.slice A0_ k.length c1_),(78,A.i N)] ?_;refine Vg (dj:=75) rfl rfl ?_;have⟨a6,am,h⟩:=Vu h;refine Vv 0 4323 am fun bc=>?_;intro bd be bg bh;refine Jy [] [4323] [.on .n,.on (.e 0 1),.on .n,.n] [(83,.bool (decide (a6.2.1=15)))] (Ju ?_);exact Vf ⟨(decide (a6.2.1=15)),rfl,rfl,h⟩
   rintro _ _ ⟨O,rfl,rfl,h⟩;rw[F.ds]at h;refine Ua h ?_ ?_<;>intro B h
   ·refine Js 1 ?_;refine Jw 1 [(2,A.i 80)] (Jt 1 ?_);obtain rfl:=J4 h;exact J5 [] ⟨rfl,rfl,(Va .i64 (80) rfl)⟩
   refine Js 3 ?_;have⟨a7,h⟩:=Vl h;refine V5 3 [Z.R64 (p+1)] [(6,A.i (p+1))] a7 (Ju ?_);exact Vf ⟨_,Qi _,⟨(p+1),rfl,rfl,(Jz a7),h⟩⟩
  refine Js 3 ?_;have⟨a8,h⟩:=Vl h;refine V5 3 [Z.R64 (o+1)] [(5,A.i (o+1))] a8 (Ju ?_);exact Vf ⟨_,Qi _,⟨(o+1),rfl,rfl,(Jz a8),h⟩⟩
 refine Js 3 ?_;refine Jw 1 [(2,A.i 0)] (Jt 1 ?_);obtain rfl:=J4 h;exact J5 [] ⟨rfl,rfl,J0⟩
def F.dt (e:Int→Option Bool)(a:Int)(h:Bool):Option Bool:=if h=true then(some false)else(A.gd (Z.R64 (a+1)) (e (a+1)))
def F.bP (h:D23)(a:D83)(k:(List Bool)):Nat→Int→Option Bool
 |0,_=>none
 |f+1,e=>if e<(a.2.2.1.length:Int)then(if a.2.1≠14 then((A.ix a.2.2.1 e).bind fun o=>((F.cC h o).bind fun p=>((A.ix k p).bind fun s=>(F.dt (F.bP h a k f) e (!s)))))else(F.dt (F.bP h a k f) e false))else(some true)
def F.eq (a:D23)(e:D83)(h:(List Bool)):Option Bool:=F.bP a e h A.FU 0
theorem o_bv(p:D23)(h:D83)(u:(List Bool))(X:A.h6 h.1)(Y:A.h6 h.2.1)(a3:A.h6 h.2.2.2.1.1)(a4:A.h6 h.2.2.2.1.2.1)(a5:h.2.2.2.1.2.2.size≤maxLen)(a6:h.2.2.2.2.1.size≤maxLen)(a7:A.h6 h.2.2.2.2.2.1)(a8:A.h6 h.2.2.2.2.2.2)(r:Bool)(k:F.eq p h u=some r):
    A.Ct Tryz.prog 125 [.agg #[.slice A0_ p.length c1_],.agg #[A.i h.1,A.i h.2.1,.slice A4_ h.2.2.1.length c5_,A.i h.2.2.2.1.1,A.i h.2.2.2.1.2.1,.string h.2.2.2.1.2.2,.string h.2.2.2.2.1,A.i h.2.2.2.2.2.1,A.i h.2.2.2.2.2.2],.slice A12_ u.length c13_] [(0,.sh (.slice T83) [.slice A0_ p.length c1_] p),(1,.sh A.TI [.slice A4_ h.2.2.1.length c5_] h.2.2.1),(2,.ln Z.Ty.bool A12_ c13_ u)] [] (fun v H'=>v=.bool r∧H'=[]):=by
 refine Jv Tryz.func125 rfl Tryz.ntmps125 rfl fun w0 F0=>?_;rw[F.eq]at k;refine Js 1 ?_;refine J8 3 (cs:=[.slice A0_ p.length c1_]) fun g1=>?_;refine J8 4 (cs:=[A.i h.1,A.i h.2.1,.slice A4_ h.2.2.1.length c5_,A.i h.2.2.2.1.1,A.i h.2.2.2.1.2.1,.string h.2.2.2.1.2.2,.string h.2.2.2.2.1,A.i h.2.2.2.2.2.1,A.i h.2.2.2.2.2.2]) fun g2=>?_;refine Jw 1 [] (J7 3 ?_);refine Jw 1 [(7,A.i 0)] (Jt 2 ?_);refine Vk [2,3,4] l5o (fun f x y=>∃(o:Int),x=[(7,A.i o)]∧y=[]∧A.h6 o∧F.bP p h u f o=some r) ⟨0,rfl,rfl,J0,k⟩ ?_;rintro z _ _ ⟨o,rfl,rfl,a9,k⟩;rcases z with _|z
 ·exact Vi k
 rw[F.bP]at k;refine Js 2 ?_;refine Jy [4] [] [.n,.n,.b 0 2,.n,.n] [(12,.bool (decide (o<(h.2.2.1.length:Int))))] (Jt 1 ?_);refine Vm k ?_ ?_<;>intro E k
 ·refine V1 4 ?_;refine J2 [2,3,4,7] l5o (fun x y=>∃(B:Bool),x=[(30,.bool B)]∧y=[]∧F.dt (F.bP p h u z) o B=some r) ?_ ?_
  ·refine Vh mixed 16 16 (A.mb 16 0) ?_;refine Ve J1 [] l5o [4] [] (A.mb 16 15) 12 [(0,.n),(1,.b 0 1),(2,.n),(3,.n)] [(18,.bool (decide (h.2.1≠14)))] ?_;refine Ue (j:=18) rfl k ?_ ?_<;>intro E k
   ·refine Ve J1 l5o l5o [3,4] [] (A.mb 16 511) 7 [(4,.on .n),(5,.on (.b 0 0)),(6,.on .n),(8,.on .n),(7,.on (.b 1 2))] [(19,.slice A12_ u.length c13_),(20,.agg #[.slice A0_ p.length c1_]),(23,A.i o),(22,.slice A4_ h.2.2.1.length c5_)] ?_;have⟨I,J,k⟩:=Vu k;refine V9 1 89 J fun U=>?_;intro aa ab V;refine Uj J1 l5o l5t 9 (A.mb 16 1023) (dj:=18) rfl (fun a w hf hh=>Vj (t:=A.ti) J V hf) ?_;refine Ve J1 l5t l5t [] [89] (A.mb 16 2047) 5 [(10,.on (.e 0 0))] [(25,A.i I)] ?_;refine J6 11 ?_;refine Vg (dj:=18) rfl rfl ?_;refine Vs 90 [] k (o_u A0_ c1_ p I U) (.s 0 .nil) ?_;rintro ac - k _ _ ⟨rfl,rfl,hr16⟩;refine Vb ?_;refine Vc (A.mb 16 4095) l5t ?_;have⟨L,N,k⟩:=Vu k;refine Vo 2 130 N fun ad=>?_;intro ae af W;refine Uj J1 l5t l5w 12 (A.mb 16 8191) (dj:=18) rfl (fun a w hf hh=>Vj (t:=Z.Ty.bool) N W hf) ?_;refine Ve J1 l5w l5w [] [130] (A.mb 16 65535) 0 [(13,.on (.e 0 0)),(14,.on .n),(15,.n)] [(30,.bool (!L))] (J9 ?_);exact Vf ⟨(!L),rfl,rfl,k⟩
   refine Ve J1 l5o l5o [] [] (A.mb 16 65535) 0 [(4,.off),(5,.off),(6,.off),(8,.off),(7,.off),(9,.off),(10,.off),(11,.off),(12,.off),(13,.off),(14,.off),(15,.n)] [(30,.bool false)] (J9 ?_);exact Vf ⟨false,rfl,rfl,k⟩
  rintro _ _ ⟨B,rfl,rfl,k⟩;rw[F.dt]at k;refine Ua k ?_ ?_<;>intro E k
  ·refine Js 1 ?_;refine Jw 1 [(6,.bool false)] (Jt 1 ?_);obtain rfl:=J4 k;exact J5 [] ⟨rfl,rfl⟩
  refine Js 3 ?_;have⟨O,k⟩:=Vl k;refine V5 3 [Z.R64 (o+1)] [(7,A.i (o+1))] O (Ju ?_);exact Vf ⟨_,Qi _,⟨(o+1),rfl,rfl,(Jz O),k⟩⟩
 refine Js 3 ?_;refine Jw 1 [(6,.bool true)] (Jt 1 ?_);obtain rfl:=J4 k;exact J5 [] ⟨rfl,rfl⟩
def F.du (e:Int→Int→Option ((List Int)×Bool))(a:Int)(h:Int):Option ((List Int)×Bool):=A.gd (Z.R64 (a+1)) (e h (a+1))
def F.cR (e:Int→Int→Option ((List Int)×Bool))(h:Int)(a:Int)(k:Bool):Option ((List Int)×Bool):=if k=true then(F.du e a a)else(F.du e a h)
def F.a2 (p:(List Bool)→(List Int)→Option ((List Int)×Bool))(e:D23)(h:List Bool)(o:List Int):Nat→Int→Int→Option ((List Int)×Bool)
 |0,_,_=>none
 |f+1,a,k=>if(bif decide (k<(e.length:Int))then decide (k<(e.length:Int))else false)=true then(if a<0 then((A.ix h k).bind fun s=>(if(!s)=true then((A.ix e k).bind fun t=>((F.eq e t h).bind fun u=>(F.cR (F.a2 p e h o f) a k u)))else(F.cR (F.a2 p e h o f) a k false)))else(F.cR (F.a2 p e h o f) a k false))else(if a<0 then(some ([],false))else((A.ix h a).bind fun w=>(A.gd ((List.length (α:=Int) o+List.length (α:=Int) [a])*8≤140737488355328) (p (h.set a.toNat true) (o++[a])))))
def F.bp (a:D23):Nat→(List Bool)→(List Int)→Option ((List Int)×Bool)
 |0,_,_=>none
 |f+1,h,e=>if(e.length:Int)<(a.length:Int)then(F.a2 (F.bp a f) a h e A.FU (-1) 0)else(some (e,true))
def F.dv (a:D23):Option ((List Int)×Bool):=A.gd (1*a.length≤140737488355328) (F.bp a A.FU (List.replicate a.length (false:Bool)) [])
theorem o_bw(p:D23)(r:(List Int)×Bool)(h:F.dv p=some r):
    A.Ct Tryz.prog 84 [.agg #[.slice A0_ p.length c1_]] [(0,.sh (.slice T83) [.slice A0_ p.length c1_] p)] [] (fun v H'=>∃(A0':Option Addr) (c1':Nat),v=.tuple #[.slice A0' r.1.length c1',.bool r.2]∧H'=[(0,.own A.ti 3 A0' c1' r.1)]):=by
 refine Jv Tryz.func84 rfl Tryz.ntmps84 rfl fun w0 F0=>?_;rw[F.dv]at h;refine Js 1 ?_;refine J8 1 (cs:=[.slice A0_ p.length c1_]) fun g1=>?_;refine Jw 2 [] (J7 2 ?_);refine Jw 1 [(4,.slice none 0 0)] (J7 2 ?_);refine Jy [1] [] [.n,.b 0 0,.n] [(10,A.i (p.length:Int))] ?_;have⟨ac,h⟩:=Vl h;refine A.AL.mks 2 (t:=Z.Ty.bool) (u:=p.length) (false:Bool) ac inf4 (fun N=>?_) rfl rfl rfl rfl rfl
 refine Jw 1 [(5,.slice (some ⟨N,0,none⟩) p.length p.length)] (Jt 3 ?_);refine V4 145 A.ti 3 ?_;refine Vk [1,5] l5y (fun f J L=>∃(z:List Bool),∃(B:List Int),∃(O:Option Addr),∃(U:Nat),J=[(4,.slice O B.length U)]∧L=[(2,.own Z.Ty.bool 4 (some ⟨N,0,none⟩) p.length z),(145,.own A.ti 3 O U B)]∧p.length=z.length∧F.bp p f z B=some r) ⟨(List.replicate p.length (false:Bool)),[],none,0,rfl,rfl,(by rw[W9]),h⟩ ?_;rintro V _ _ ⟨z,B,O,U,rfl,rfl,hn7,h⟩;rcases V with _|V
 ·exact Vi h
 rw[F.bp]at h;refine Js 2 ?_;refine Jy [1] [] [.n,.n,.n,.b 0 0,.n,.n] [(17,.bool (decide ((B.length:Int)<(p.length:Int))))] (Jt 1 ?_);refine Vm h ?_ ?_<;>intro X h
 ·refine Js 4 ?_;refine Jw 1 [(6,A.i (-1))] (J7 3 ?_);refine Jw 1 [(7,A.i 0)] (Jt 2 ?_);refine Vk [1,4,5] l5r (fun f J L=>∃(x:Int),∃(y:Int),J=[(6,A.i x),(7,A.i y)]∧L=[]∧A.h6 x∧A.h6 y∧F.a2 (F.bp p V) p z B f x y=some r) ⟨(-1),0,rfl,rfl,(Va .i64 (-1) rfl),J0,h⟩ ?_;rintro Y _ _ ⟨x,y,rfl,rfl,a3,ad,h⟩;rcases Y with _|Y
  ·exact Vi h
  rw[F.a2]at h;refine Js 2 ?_;refine Jy [1] [] [.n,.n,.b 0 0,.n,.n,.n,.sy .n,.sy .n,.sy .n,.sy .n,.pk] [(28,.bool (bif decide (y<(p.length:Int))then decide (y<(p.length:Int))else false))] (Jt 1 ?_);refine Ua h ?_ ?_<;>intro X h
  ·refine V1 2 ?_;refine J2 [1,4,5,7] l5r (fun J L=>∃(W:Int),J=[(6,A.i W)]∧L=[]∧A.h6 W∧F.du (F.a2 (F.bp p V) p z B Y) y W=some r) ?_ ?_
   ·refine V1 1 ?_;refine J2 [1,4,5,6,7] l5r (fun J L=>∃(a1:Bool),J=[(49,.bool a1)]∧L=[]∧F.cR (F.a2 (F.bp p V) p z B Y) x y a1=some r) ?_ ?_
    ·refine Vh mixed 19 19 (A.mb 19 0) ?_;refine Ve J1 [] l5r [] [] (A.mb 19 7) 16 [(0,.n),(1,.n),(2,.n)] [(33,.bool (decide (x<0)))] ?_;refine Ue (j:=33) rfl h ?_ ?_<;>intro X h
     ·refine Ve J1 l5r l5r [] [] (A.mb 19 31) 14 [(3,.on .n),(4,.on .n)] [(34,.slice (some ⟨N,0,none⟩) p.length p.length),(35,A.i y)] ?_;refine U0 34 (Ud (show p.length=z.length from hn7)) ?_;have⟨ae,a4,h⟩:=Vu h;refine Ur 2 514 a4 fun ak=>?_;intro al af;refine Uj J1 l5r l5k 5 (A.mb 19 63) (dj:=33) rfl (fun a w hf hh=>Uw (t:=Z.Ty.bool) a4 af hf) ?_;refine Ve J1 l5k l5k [] [514] (A.mb 19 1023) 9 [(6,.on (.e 0 0)),(7,.on .n),(8,.n),(9,.n)] [(40,.bool (!ae))] ?_;refine A.AH.cnd (j:=40) rfl h (fun h=>?_) (fun h=>?_)
      ·refine Ve J1 l5k l5k [1] [] (A.mb 19 81919) 4 [(10,.on (.b 0 0)),(11,.on .n),(13,.on .n),(16,.on .n),(12,.on (.b 0 0))] [(41,.agg #[.slice A0_ p.length c1_]),(44,A.i y),(47,.slice (some ⟨N,0,none⟩) p.length p.length),(43,.slice A0_ p.length c1_)] ?_;have⟨E,a5,h⟩:=Vu h;refine V9 0 515 a5 fun I=>?_;intro a6 c31 am an ag;refine Uj J1 l5k l5h 14 (A.mb 19 98303) (dj:=40) rfl (fun a w hf hh=>Vj (t:=T83) a5 ag hf) ?_;refine Ve J1 l5h l5h [] [515] (A.mb 19 131071) 2 [(15,.on (.e 0 0))] [(46,.agg #[A.i E.1,A.i E.2.1,.slice a6 E.2.2.1.length c31,A.i E.2.2.2.1.1,A.i E.2.2.2.1.2.1,.string E.2.2.2.1.2.2,.string E.2.2.2.2.1,A.i E.2.2.2.2.2.1,A.i E.2.2.2.2.2.2])] ?_;refine J6 17 ?_;refine Vg (dj:=40) rfl rfl ?_;refine U0 47 (Ud (show p.length=z.length from hn7)) ?_;refine Vs 517 [] h (o_bv A0_ a6 (some ⟨N,0,none⟩) c1_ c31 p.length p E z I.1 I.2.1 I.2.2.2.1.1 I.2.2.2.1.2.1 I.2.2.2.1.2.2 I.2.2.2.2.1 I.2.2.2.2.2.1 I.2.2.2.2.2.2) (.s 0 (.s 516 (.o 2 .nil))) ?_;rintro a7 - h _ _ ⟨rfl,rfl⟩;refine Vb ?_;refine Vc (A.mb 19 262143) l5h ?_;refine Ve J1 l5h l5h [] [] (A.mb 19 524287) 0 [(18,.n)] [(49,.bool a7)] (J9 ?_);exact Vf ⟨a7,rfl,rfl,h⟩
      refine Ve J1 l5k l5k [] [] (A.mb 19 524287) 0 [(10,.off),(11,.off),(13,.off),(16,.off),(12,.off),(14,.off),(15,.off),(17,.off),(18,.n)] [(49,.bool false)] (J9 ?_);exact Vf ⟨false,rfl,rfl,h⟩
     refine Ve J1 l5r l5r [] [] (A.mb 19 524287) 0 [(3,.off),(4,.off),(5,.off),(6,.off),(7,.off),(8,.n),(9,.n),(10,.off),(11,.off),(13,.off),(16,.off),(12,.off),(14,.off),(15,.off),(17,.off),(18,.n)] [(49,.bool false)] (J9 ?_);exact Vf ⟨false,rfl,rfl,h⟩
    rintro _ _ ⟨a1,rfl,rfl,h⟩;rw[F.cR]at h;refine Ua h ?_ ?_<;>intro X h
    ·refine Js 0 ?_;refine Jw 2 [(6,A.i y)] (Uc 1 ?_);exact Vf ⟨y,rfl,rfl,ad,h⟩
    refine Vw 2 ?_;exact Vf ⟨x,rfl,rfl,a3,h⟩
   rintro _ _ ⟨W,rfl,rfl,ah,h⟩;rw[F.du]at h;refine Js 0 ?_;have⟨a8,h⟩:=Vl h;refine V5 3 [Z.R64 (y+1)] [(7,A.i (y+1))] a8 (Ju ?_);exact Vf ⟨_,Qi _,⟨W,(y+1),rfl,rfl,ah,(Jz a8),h⟩⟩
  refine Js 4 ?_;refine Jw 2 [(52,.bool (decide (x<0)))] (Jt 1 ?_);refine Vm h ?_ ?_<;>intro X h
  ·refine Js 1 ?_;refine Jw 2 [(2,.slice none 0 0),(3,.bool false)] (Jt 1 ?_);obtain rfl:=J4 h;refine V4 557 A.ti 3 ?_;exact Vz [(0,557)] ⟨none,0,rfl,rfl⟩
  refine Js 3 ?_;refine Jw 2 [(53,.slice (some ⟨N,0,none⟩) p.length p.length),(54,A.i x)] ?_;refine U0 53 (Ud (show p.length=z.length from hn7)) ?_;have⟨ai,a9,h⟩:=Vu h;refine Uf 2 558 a9 fun ao=>?_;intro ap aj;refine A.AL.setel 2 558 [558] (o:=0) (m:=1) (t:=Z.Ty.bool) (new:=[.bool true]) (es:=[.bool ai]) true a9 aj rfl ?_;refine J7 1 ?_;refine Jw 2 [(56,.slice O B.length U),(57,A.i x)] ?_;refine Vq 559 (ty:=A.ti) (cs:=[A.i x]) [x] ⟨⟨rfl,a3⟩,rfl⟩ (fun aq=>?_) Tryz.zeroValue3 Tryz.sizeOf3
  have⟨hl44,h⟩:=Vl h;refine Vy (k:=145) [] (Ui (k:=559) rfl) inf3 hl44 fun aa ab=>?_;refine Jw 1 [(4,.slice aa ((B++[x]).length) ab)] (Uc 1 ?_);exact Vf ⟨_,Qi _,⟨(z.set x.toNat true),(B++[x]),aa,ab,rfl,rfl,(by rw[W5];exact hn7),h⟩⟩
 refine Js 3 ?_;refine Jw 3 [(2,.slice O B.length U),(3,.bool true)] (Jt 1 ?_);obtain rfl:=J4 h;exact Vz [(0,145)] ⟨O,U,rfl,rfl⟩
def F.dw (a:Int):Option Int:=some a
def F.a3 (a:Int):Option Int:=if(4:Int)<a then(F.dw (-1))else(F.dw a)
def F.cS (a:Int)(e:Bool):Option Int:=if e=true then(if a≠0 then(F.a3 (-1))else(F.a3 a))else(F.a3 a)
def F.cT (a:D83)(h:(List Int))(e:Int)(k:Bool):Option Int:=if k=true then((A.ix h 0).bind fun o=>((A.ix h 1).bind fun p=>(if o≠p then(F.a3 (-1))else(F.a3 e))))else(if a.2.1=11 then(F.cS e (decide (a.2.1=11)))else(if a.2.1=16 then(F.cS e (decide (a.2.1=16)))else(F.cS e (decide (a.2.1=15)))))
def F.cU (a:D83)(h:(List Int))(e:Int):Option Int:=if a.2.1=14 then(F.a3 a.2.2.2.2.2.2)else(if a.2.1=12 then(A.gd (Z.R64 (e+1)) (F.a3 (e+1)))else(if a.2.1=13 then(A.gd (Z.R64 (e-1)) (F.a3 (e-1)))else(if a.2.1=5 then(F.cT a h e (decide (a.2.1=5)))else(F.cT a h e (decide (a.2.1=9))))))
def F.d1 (e:D83)(a:(List Int)):Option Int:=if(0:Int)<(a.length:Int)then((A.ix a 0).bind fun h=>(F.cU e a h))else(F.cU e a 0)
theorem o_bx(k:D83)(s:(List Int))(a8:A.h6 k.1)(a9:A.h6 k.2.1)(aa:A.h6 k.2.2.2.1.1)(ab:A.h6 k.2.2.2.1.2.1)(ac:k.2.2.2.1.2.2.size≤maxLen)(ad:k.2.2.2.2.1.size≤maxLen)(ae:A.h6 k.2.2.2.2.2.1)(W:A.h6 k.2.2.2.2.2.2)(r:Int)(h:F.d1 k s=some r):
    A.Ct Tryz.prog 126 [.agg #[A.i k.1,A.i k.2.1,.slice A2_ k.2.2.1.length c3_,A.i k.2.2.2.1.1,A.i k.2.2.2.1.2.1,.string k.2.2.2.1.2.2,.string k.2.2.2.2.1,A.i k.2.2.2.2.2.1,A.i k.2.2.2.2.2.2],.slice A10_ s.length c11_] [(0,.sh A.TI [.slice A2_ k.2.2.1.length c3_] k.2.2.1),(1,.ln A.ti A10_ c11_ s)] [] (fun v H'=>v=A.i r∧H'=[]∧A.h6 r):=by
 refine Jv Tryz.func126 rfl Tryz.ntmps126 rfl fun w0 F0=>?_;rw[F.d1]at h;refine Js 1 ?_;refine J8 2 (cs:=[A.i k.1,A.i k.2.1,.slice A2_ k.2.2.1.length c3_,A.i k.2.2.2.1.1,A.i k.2.2.2.1.2.1,.string k.2.2.2.1.2.2,.string k.2.2.2.2.1,A.i k.2.2.2.2.2.1,A.i k.2.2.2.2.2.2]) fun g1=>?_;refine Jw 1 [] (J7 2 ?_);refine Jw 1 [(5,A.i 0)] (Jt 1 ?_);refine J2 [1,2] [0,1,2] (fun u x=>∃(o:Int),u=[(5,A.i o)]∧x=[]∧A.h6 o∧F.cU k s o=some r) ?_ ?_
 ·refine Js 1 ?_;refine Jw 3 [(8,.bool (decide ((0:Int)<(s.length:Int))))] (Jt 1 ?_);refine Vm h ?_ ?_<;>intro p h
  ·refine Js 0 ?_;refine Jw 1 [(9,.slice A10_ s.length c11_)] ?_;have⟨J,X,h⟩:=Vu h;refine V7 1 3 X fun Y=>?_;intro af ag;refine Jy [] [3] [.e 0 0,.n] [(5,A.i J)] (Ju ?_);exact Vf ⟨J,rfl,rfl,Y,h⟩
  refine Vw 1 ?_;exact Vf ⟨0,rfl,rfl,J0,h⟩
 rintro _ _ ⟨o,rfl,rfl,B,h⟩;rw[F.cU]at h;refine J2 [] [] (fun u x=>∃(y:Int),u=[(5,A.i y)]∧x=[]∧A.h6 y∧F.a3 y=some r) ?_ ?_
 ·refine Js 1 ?_;refine Jy [2] [] [.n,.b 0 1] [(13,A.i k.2.1)] (J7 3 ?_);refine Jw 2 [(14,.bool (decide (k.2.1=14)))] (Jt 1 ?_);refine Vm h ?_ ?_<;>intro p h
  ·refine Js 0 ?_;refine Jy [2] [] [.n,.b 0 8,.n] [(5,A.i k.2.2.2.2.2.2)] (Uc 1 ?_);exact Vf ⟨k.2.2.2.2.2.2,rfl,rfl,W,h⟩
  refine Js 1 ?_;refine Jw 2 [(18,.bool (decide (k.2.1=12)))] (Jt 1 ?_);refine Vm h ?_ ?_<;>intro p h
  ·refine Js 0 ?_;have⟨L,h⟩:=Vl h;refine V5 3 [Z.R64 (o+1)] [(5,A.i (o+1))] L (Uc 1 ?_);exact Vf ⟨(o+1),rfl,rfl,(Jz L),h⟩
  refine Js 1 ?_;refine Jw 2 [(22,.bool (decide (k.2.1=13)))] (Jt 1 ?_);refine Vm h ?_ ?_<;>intro p h
  ·refine Js 0 ?_;have⟨N,h⟩:=Vl h;refine V5 3 [Z.R64 (o-1)] [(5,A.i (o-1))] N (Uc 1 ?_);exact Vf ⟨(o-1),rfl,rfl,(Jz N),h⟩
  refine J2 [1,5,13] [1] (fun u x=>∃(E:Bool),u=[(26,.bool E)]∧x=[]∧F.cT k s o E=some r) ?_ ?_
  ·refine Js 1 ?_;refine Jw 2 [(26,.bool (decide (k.2.1=5)))] (Jt 1 ?_);refine Vm h ?_ ?_<;>intro p h
   ·refine Vw 1 ?_;exact Vf ⟨(decide (k.2.1=5)),rfl,rfl,h⟩
   refine Js 0 ?_;refine Jw 2 [(26,.bool (decide (k.2.1=9)))] (Ju ?_);exact Vf ⟨(decide (k.2.1=9)),rfl,rfl,h⟩
  rintro _ _ ⟨E,rfl,rfl,h⟩;rw[F.cT]at h;refine Ua h ?_ ?_<;>intro p h
  ·refine V1 1 ?_;refine Vh mixed 7 7 (A.mb 7 0) ?_;refine Ve J1 [] [1] [] [] (A.mb 7 9) 5 [(0,.n),(3,.n)] [(29,.slice A10_ s.length c11_),(32,.slice A10_ s.length c11_)] ?_;have⟨O,U,h⟩:=Vu h;refine Vo 1 4 U fun ah=>?_;intro ai aj a2;refine Vd J1 [1] [1,4] 1 (A.mb 7 11) rfl (fun a w hf hh=>Vj (t:=A.ti) U a2 hf) ?_;refine Ve J1 [1,4] [1,4] [] [4] (A.mb 7 15) 3 [(2,.e 0 0)] [(31,A.i O)] ?_;have⟨a4,V,h⟩:=Vu h;refine Vo 1 5 V fun ak=>?_;intro al am a5;refine Vd J1 [1,4] [1,4,5] 4 (A.mb 7 31) rfl (fun a w hf hh=>Vj (t:=A.ti) V a5 hf) ?_;refine Ve J1 [1,4,5] [1,4,5] [] [5] (A.mb 7 127) 0 [(5,.e 0 0),(6,.n)] [(35,.bool (decide (O≠a4)))] (J9 ?_);refine Uu 1 ?_;refine Vm h ?_ ?_<;>intro p h
   ·refine Js 0 ?_;refine Jw 1 [(5,A.i (-1))] (Uc 1 ?_);exact Vf ⟨(-1),rfl,rfl,(Va .i64 (-1) rfl),h⟩
   refine Vw 2 ?_;exact Vf ⟨o,rfl,rfl,B,h⟩
  refine J2 [5] [] (fun u x=>∃(I:Bool),u=[(36,.bool I)]∧x=[]∧F.cS o I=some r) ?_ ?_
  ·refine Js 1 ?_;refine Jw 2 [(36,.bool (decide (k.2.1=11)))] (Jt 1 ?_);refine Vm h ?_ ?_<;>intro p h
   ·refine Vw 1 ?_;exact Vf ⟨(decide (k.2.1=11)),rfl,rfl,h⟩
   refine Js 1 ?_;refine Jw 2 [(36,.bool (decide (k.2.1=16)))] (Jt 1 ?_);refine Vm h ?_ ?_<;>intro p h
   ·refine Vw 1 ?_;exact Vf ⟨(decide (k.2.1=16)),rfl,rfl,h⟩
   refine Js 0 ?_;refine Jw 2 [(36,.bool (decide (k.2.1=15)))] (Ju ?_);exact Vf ⟨(decide (k.2.1=15)),rfl,rfl,h⟩
  rintro _ _ ⟨I,rfl,rfl,h⟩;rw[F.cS]at h;refine Ua h ?_ ?_<;>intro p h
  ·refine Js 1 ?_;refine Jw 2 [(41,.bool (decide (o≠0)))] (Jt 1 ?_);refine Vm h ?_ ?_<;>intro p h
   ·refine Js 0 ?_;refine Jw 1 [(5,A.i (-1))] (Uc 1 ?_);exact Vf ⟨(-1),rfl,rfl,(Va .i64 (-1) rfl),h⟩
   refine Vw 2 ?_;exact Vf ⟨o,rfl,rfl,B,h⟩
  refine Vw 2 ?_;exact Vf ⟨o,rfl,rfl,B,h⟩
 rintro _ _ ⟨y,rfl,rfl,a6,h⟩;rw[F.a3]at h;refine J2 [] [] (fun u x=>∃(z:Int),u=[(5,A.i z)]∧x=[]∧A.h6 z∧F.dw z=some r) ?_ ?_
 ·refine Js 1 ?_;refine Jw 2 [(43,.bool (decide ((4:Int)<y)))] (Jt 1 ?_);refine Vm h ?_ ?_<;>intro p h
  ·refine Js 0 ?_;refine Jw 1 [(5,A.i (-1))] (Ju ?_);exact Vf ⟨(-1),rfl,rfl,(Va .i64 (-1) rfl),h⟩
  refine Vw 1 ?_;exact Vf ⟨y,rfl,rfl,a6,h⟩
 rintro _ _ ⟨z,rfl,rfl,a7,h⟩;rw[F.dw]at h;refine Js 1 ?_;refine Jw 2 [(4,A.i z)] (Jt 1 ?_);obtain rfl:=J4 h;exact J5 [] ⟨rfl,rfl,a7⟩
def F.bV (t:(List Int)→Int→Option ((List Int)×Bool))(u:D23)(o:(List Int))(a:List Int)(e:Int)(h:D83):Nat→(List Int)→Int→Option ((List Int)×Bool)
 |0,_,_=>none
 |f+1,p,k=>if k<(h.2.2.1.length:Int)then((A.ix h.2.2.1 k).bind fun y=>((F.cC u y).bind fun z=>((A.ix a z).bind fun w=>(A.gd ((List.length (α:=Int) p+List.length (α:=Int) [w])*8≤140737488355328) (A.gd (Z.R64 (k+1)) ((F.bV t u o a e h f) (p++[w]) (k+1)))))))else((A.ix o e).bind fun s=>((F.d1 h p).bind fun x=>((A.ix a s).bind fun I=>((A.ix o e).bind fun B=>((A.ix (a.set s.toNat x) B).bind fun E=>(if E<0 then(some ([],false))else(A.gd (Z.R64 (e+1)) (t (a.set s.toNat x) (e+1)))))))))
def F.c6 (e:Int→Option ((List Int)×Bool))(a:Int)(h:Bool):Option ((List Int)×Bool):=if h=true then(some ([],false))else(A.gd (Z.R64 (a+1)) (e (a+1)))
def F.be (a:D23)(e:List Int):Nat→Int→Option ((List Int)×Bool)
 |0,_=>none
 |f+1,h=>if h<(a.length:Int)then((A.ix a h).bind fun k=>(if k.2.1=14 then((A.ix k.2.2.1 0).bind fun o=>((F.cC a o).bind fun p=>((A.ix e p).bind fun s=>(F.c6 (F.be a e f) h (decide (s≠k.2.2.2.2.2.2))))))else(F.c6 (F.be a e f) h false)))else(some (e,true))
def F.bW (a:D23)(e:(List Int)):Nat→(List Int)→Int→Option ((List Int)×Bool)
 |0,_,_=>none
 |f+1,k,h=>if h<(e.length:Int)then((A.ix e h).bind fun o=>((A.ix a o).bind fun p=>(F.bV (F.bW a e f) a e k h p A.FU [] 0)))else(F.be a k A.FU 0)
def F.c1 (a:D23)(e:(List Int)):Option ((List Int)×Bool):=A.gd (8*a.length≤140737488355328) (F.bW a e A.FU (List.replicate a.length (0:Int)) 0)
theorem o_bf(p:D23)(E:(List Int))(r:(List Int)×Bool)(h:F.c1 p E=some r):
    A.Ct Tryz.prog 85 [.agg #[.slice A0_ p.length c1_],.slice A2_ E.length c3_] [(0,.sh (.slice T83) [.slice A0_ p.length c1_] p),(1,.ln A.ti A2_ c3_ E)] [] (fun v H'=>∃(A0':Option Addr) (c1':Nat),v=.tuple #[.slice A0' r.1.length c1',.bool r.2]∧H'=[(0,.own A.ti 3 A0' c1' r.1)]):=by
 refine Jv Tryz.func85 rfl Tryz.ntmps85 rfl fun w0 F0=>?_;rw[F.c1]at h;refine Js 1 ?_;refine J8 2 (cs:=[.slice A0_ p.length c1_]) fun g1=>?_;refine Jw 2 [] (J7 2 ?_);refine Jy [2] [] [.n,.b 0 0,.n] [(15,A.i (p.length:Int))] ?_;have⟨av,h⟩:=Vl h;refine A.AL.mks 3 (t:=A.ti) (u:=p.length) (0:Int) av inf3 (fun N=>?_) rfl rfl rfl rfl ⟨rfl,by decide⟩
 refine Jw 1 [(6,.slice (some ⟨N,0,none⟩) p.length p.length)] (J7 3 ?_);refine Jw 1 [(7,A.i 0)] (Jt 2 ?_);refine Vk [1,2,6] [0,1,2] (fun f U V=>∃(z:List Int),∃(B:Int),U=[(7,A.i B)]∧V=[(3,.own A.ti 3 (some ⟨N,0,none⟩) p.length z)]∧p.length=z.length∧A.h6 B∧F.bW p E f z B=some r) ⟨(List.replicate p.length (0:Int)),0,rfl,rfl,(by rw[W9]),J0,h⟩ ?_;rintro a5 _ _ ⟨z,B,rfl,rfl,hn7,bh,h⟩;rcases a5 with _|a5
 ·exact Vi h
 rw[F.bW]at h;refine Js 2 ?_;refine Jw 4 [(20,.bool (decide (B<(E.length:Int))))] (Jt 1 ?_);refine Vm h ?_ ?_<;>intro Y h
 ·refine V1 5 ?_;refine Vh mixed 9 10 (A.mb 10 0) ?_;refine Ve J1 [] [0,1,2,3] [2] [] (A.mb 10 15) 6 [(0,.n),(2,.n),(3,.n),(1,.b 0 0)] [(25,.slice A2_ E.length c3_),(26,A.i B),(24,.slice A0_ p.length c1_)] ?_;have⟨aw,ac,h⟩:=Vu h;refine Vo 1 996 ac fun bi=>?_;intro bj bk ax;refine Vd J1 [0,1,2,3] l5x 4 (A.mb 10 31) rfl (fun a w hf hh=>Vj (t:=A.ti) ac ax hf) ?_;refine Ve J1 l5x l5x [] [996] (A.mb 10 63) 4 [(5,.e 0 0)] [(28,A.i aw)] ?_;have⟨x,ad,h⟩:=Vu h;refine V9 0 997 ad fun O=>?_;intro a2 c22 bl bm ay;refine Vd J1 l5x l5q 6 (A.mb 10 127) rfl (fun a w hf hh=>Vj (t:=T83) ad ay hf) ?_;refine Ve J1 l5q l5q [] [997] (A.mb 10 255) 2 [(7,.e 0 0)] [(30,.agg #[A.i x.1,A.i x.2.1,.slice a2 x.2.2.1.length c22,A.i x.2.2.2.1.1,A.i x.2.2.2.1.2.1,.string x.2.2.2.1.2.2,.string x.2.2.2.2.1,A.i x.2.2.2.2.2.1,A.i x.2.2.2.2.2.2])] ?_;refine J6 8 ?_;refine J3 999 (cs:=l5a) Tryz.zeroValue84 fun bp=>?_;refine Vc (A.mb 10 511) l5q ?_;refine J6 9 ?_;refine Vp 999 [] [A.i x.1,A.i x.2.1,.slice a2 x.2.2.1.length c22,A.i x.2.2.2.1.1,A.i x.2.2.2.1.2.1,.string x.2.2.2.1.2.2,.string x.2.2.2.2.1,A.i x.2.2.2.2.2.1,A.i x.2.2.2.2.2.2] ?_;refine Uo (A.mb 10 1023) ?_;refine J9 ?_;refine A.el 2 ?_;refine Jw 1 [(9,.slice none 0 0)] (J7 3 ?_);refine Jw 1 [(10,A.i 0)] (Jt 2 ?_);refine V4 1089 A.ti 3 ?_;refine Vk [1,2,6,7,8] [0,1,2,3,998,999] (fun f U V=>∃(J:List Int),∃(L:Int),∃(W:Option Addr),∃(X:Nat),U=[(9,.slice W J.length X),(10,A.i L)]∧V=[(1089,.own A.ti 3 W X J)]∧A.h6 L∧F.bV (F.bW p E a5) p E z B x f J L=some r) ⟨[],0,none,0,rfl,rfl,J0,h⟩ ?_;rintro ae _ _ ⟨J,L,W,X,rfl,rfl,bq,h⟩;rcases ae with _|ae
  ·exact Vi h
  rw[F.bV]at h;refine Js 2 ?_;refine Jy [999] [] [.n,.n,.b 0 2,.n,.n] [(35,.bool (decide (L<(x.2.2.1.length:Int))))] (Jt 1 ?_);refine Vm h ?_ ?_<;>intro Y h
  ·refine V1 4 ?_;refine Vh mixed 14 14 (A.mb 14 0) ?_;refine Ve J1 [] [0,1,2,3,998,999] [2,999] [] (A.mb 14 63) 8 [(0,.n),(1,.n),(2,.b 0 0),(3,.n),(5,.n),(4,.b 1 2)] [(38,.slice W J.length X),(39,.slice (some ⟨N,0,none⟩) p.length p.length),(40,.agg #[.slice A0_ p.length c1_]),(43,A.i L),(42,.slice a2 x.2.2.1.length c22)] ?_;have⟨af,ag,h⟩:=Vu h;refine V9 998 1266 ag fun az=>?_;intro br bs b0;refine Vd J1 [0,1,2,3,998,999] l5j 6 (A.mb 14 127) rfl (fun a w hf hh=>Vj (t:=A.ti) ag b0 hf) ?_;refine Ve J1 l5j l5j [] [1266] (A.mb 14 255) 6 [(7,.e 0 0)] [(45,A.i af)] ?_;refine J6 8 ?_;refine Vs 1267 [] h (o_u A0_ c1_ p af az) (.s 0 .nil) ?_;rintro bt - h _ _ ⟨rfl,rfl,hr40⟩;refine Vb ?_;refine Vc (A.mb 14 511) l5j ?_;refine U0 39 (Ud (show p.length=z.length from hn7)) ?_;have⟨a3,ah,h⟩:=Vu h;refine Ur 3 1307 ah fun b1=>?_;intro bu b2;refine Vd J1 l5j l5c 9 (A.mb 14 1023) rfl (fun a w hf hh=>Uw (t:=A.ti) ah b2 hf) ?_;refine Ve J1 l5c l5c [] [1307] (A.mb 14 2047) 3 [(10,.e 0 0)] [(48,A.i a3)] ?_;refine J6 11 ?_;refine Vq 1308 (ty:=A.ti) (cs:=[A.i a3]) [a3] ⟨⟨rfl,b1⟩,rfl⟩ (fun bv=>?_) Tryz.zeroValue3 Tryz.sizeOf3
   refine Vc (A.mb 14 4095) l5c ?_;refine J6 12 ?_;have⟨hl49,h⟩:=Vl h;refine Vy (k:=1089) [] (Ui (k:=1308) rfl) inf3 hl49 fun ai aj=>?_;refine Vc (A.mb 14 8191) l5c ?_;refine Ve J1 l5c [0,1,2,3,998,999,1089,1266,1307,1308] [] [] (A.mb 14 16383) 0 [(13,.n)] [(9,.slice ai ((J++[a3]).length) aj)] (J9 ?_);refine A.el 2 ?_;have⟨ak,h⟩:=Vl h;refine V5 3 [Z.R64 (L+1)] [(10,A.i (L+1))] ak (Ju ?_);exact Vf ⟨_,Qi _,⟨(J++[a3]),(L+1),ai,aj,rfl,rfl,(Jz ak),h⟩⟩
  refine V1 3 ?_;refine Vh mixed 9 10 (A.mb 10 0) ?_;refine Ve J1 [] [0,1,2,3,998,999,1089] [999] [] (A.mb 10 103) 5 [(0,.n),(1,.n),(2,.n),(5,.b 0 0),(6,.n)] [(51,.slice (some ⟨N,0,none⟩) p.length p.length),(52,.slice A2_ E.length c3_),(53,A.i B),(56,.agg #[A.i x.1,A.i x.2.1,.slice a2 x.2.2.1.length c22,A.i x.2.2.2.1.1,A.i x.2.2.2.1.2.1,.string x.2.2.2.1.2.2,.string x.2.2.2.2.1,A.i x.2.2.2.2.2.1,A.i x.2.2.2.2.2.2]),(57,.slice W J.length X)] ?_;have⟨a6,al,h⟩:=Vu h;refine Vo 1 1309 al fun bw=>?_;intro bx bz b3;refine Vd J1 [0,1,2,3,998,999,1089] l5f 3 (A.mb 10 111) rfl (fun a w hf hh=>Vj (t:=A.ti) al b3 hf) ?_;refine Ve J1 l5f l5f [] [1309] (A.mb 10 127) 3 [(4,.e 0 0)] [(55,A.i a6)] ?_;refine J6 7 ?_;refine Vs 1310 [] h (o_bx a2 W c22 X x J O.1 O.2.1 O.2.2.2.1.1 O.2.2.2.1.2.1 O.2.2.2.1.2.2 O.2.2.2.2.1 O.2.2.2.2.2.1 O.2.2.2.2.2.2) (.s 998 (.o 1089 .nil)) ?_;rintro a4 - h _ _ ⟨rfl,rfl,hr59⟩;refine Vb ?_;refine Vc (A.mb 10 255) l5f ?_;refine U0 51 (Ud (show p.length=z.length from hn7)) ?_;have⟨b4,a7,h⟩:=Vu h;refine Ur 3 1350 a7 fun c0=>?_;intro c2 am;refine Vd J1 l5f [0,1,2,3,998,999,1089,1309,1350] 8 (A.mb 10 511) rfl (fun a w hf hh=>Uw (t:=A.ti) a7 am hf) ?_;refine J6 9 ?_;refine A.AL.setel 3 1350 [1350] (o:=0) (m:=1) (t:=A.ti) (new:=[A.i a4]) (es:=[A.i b4]) a4 a7 am ⟨rfl,hr59⟩ ?_;refine Uo (A.mb 10 1023) ?_;refine J9 ?_;refine A.el 2 ?_;refine Jw 3 [(60,.slice (some ⟨N,0,none⟩) p.length p.length),(61,.slice A2_ E.length c3_),(62,A.i B)] ?_;have⟨b5,b6,h⟩:=Vu h;refine V7 1 1351 b6 fun c3=>?_;intro c4 c5;refine Jy [] [1351] [.e 0 0] [(64,A.i b5)] ?_;refine U0 60 (Ud (show p.length=(z.set a6.toNat a4).length from(by rw[W5];exact hn7))) ?_;have⟨b7,b9,h⟩:=Vu h;refine Uf 3 1352 b9 fun c7=>?_;intro c8 c9;refine Jy [] [1352] [.e 0 0,.n] [(67,.bool (decide (b7<0)))] (Jt 1 ?_);refine Vm h ?_ ?_<;>intro Y h
  ·refine Js 1 ?_;refine Jw 2 [(4,.slice none 0 0),(5,.bool false)] (Jt 1 ?_);obtain rfl:=J4 h;refine V4 1353 A.ti 3 ?_;exact Vz [(0,1353)] ⟨none,0,rfl,rfl⟩
  refine Js 3 ?_;have⟨an,h⟩:=Vl h;refine V5 3 [Z.R64 (B+1)] [(7,A.i (B+1))] an (Ju ?_);exact Vf ⟨_,Qi _,⟨(z.set a6.toNat a4),(B+1),rfl,rfl,(by rw[W5];exact hn7),(Jz an),h⟩⟩
 refine Js 4 ?_;refine Jw 1 [(11,A.i 0)] (Jt 2 ?_);refine Vk [2,6] [0,2,3] (fun f U V=>∃(I:Int),U=[(11,A.i I)]∧V=[]∧A.h6 I∧F.be p z f I=some r) ⟨0,rfl,rfl,J0,h⟩ ?_;rintro a8 _ _ ⟨I,rfl,rfl,ca,h⟩;rcases a8 with _|a8
 ·exact Vi h
 rw[F.be]at h;refine Js 2 ?_;refine Jy [2] [] [.n,.n,.b 0 0,.n,.n] [(72,.bool (decide (I<(p.length:Int))))] (Jt 1 ?_);refine Vm h ?_ ?_<;>intro Y h
 ·refine Js 5 ?_;refine Jy [2] [] [.n,.b 0 0,.n] [(76,.slice A0_ p.length c1_),(77,A.i I)] ?_;have⟨y,bb,h⟩:=Vu h;refine Vv 0 1446 bb fun cb=>?_;intro a9 aa cc cd;refine Jy [] [1446] [.e 0 0] [(79,.agg #[A.i y.1,A.i y.2.1,.slice a9 y.2.2.1.length aa,A.i y.2.2.2.1.1,A.i y.2.2.2.1.2.1,.string y.2.2.2.1.2.2,.string y.2.2.2.2.1,A.i y.2.2.2.2.2.1,A.i y.2.2.2.2.2.2])] ?_;refine J3 1448 (cs:=l5a) Tryz.zeroValue84 fun ce=>?_;refine Vp 1448 [] [A.i y.1,A.i y.2.1,.slice a9 y.2.2.1.length aa,A.i y.2.2.2.1.1,A.i y.2.2.2.1.2.1,.string y.2.2.2.1.2.2,.string y.2.2.2.2.1,A.i y.2.2.2.2.2.1,A.i y.2.2.2.2.2.2] ?_;refine Jt 1 ?_;refine J2 [2,6,11] [0,2,3] (fun U V=>∃(ab:Bool),U=[(96,.bool ab)]∧V=[]∧F.c6 (F.be p z a8) I ab=some r) ?_ ?_
  ·refine Vh mixed 17 17 (A.mb 17 0) ?_;refine Ve J1 [] l5i [1448] [] (A.mb 17 15) 13 [(0,.n),(1,.b 0 1),(2,.n),(3,.n)] [(83,.bool (decide (y.2.1=14)))] ?_;refine Ue (j:=83) rfl h ?_ ?_<;>intro Y h
   ·refine Ve J1 l5i l5i [2,1448] [] (A.mb 17 24831) 7 [(4,.on .n),(5,.on (.b 0 0)),(6,.on .n),(13,.on .n),(7,.on (.b 1 2)),(14,.on (.b 1 8))] [(84,.slice (some ⟨N,0,none⟩) p.length p.length),(85,.agg #[.slice A0_ p.length c1_]),(87,.slice a9 y.2.2.1.length aa),(94,A.i y.2.2.2.2.2.2)] ?_;have⟨ao,ap,h⟩:=Vu h;refine V9 1447 1449 ap fun bc=>?_;intro cf ch bd;refine Uj J1 l5i l5g 8 (A.mb 17 25087) (dj:=83) rfl (fun a w hf hh=>Vj (t:=A.ti) ap bd hf) ?_;refine Ve J1 l5g l5g [] [1449] (A.mb 17 25599) 5 [(9,.on (.e 0 0))] [(89,A.i ao)] ?_;refine J6 10 ?_;refine Vg (dj:=83) rfl rfl ?_;refine Vs 1450 [] h (o_u A0_ c1_ p ao bc) (.s 0 .nil) ?_;rintro ci - h _ _ ⟨rfl,rfl,hr97⟩;refine Vb ?_;refine Vc (A.mb 17 26623) l5g ?_;refine U0 84 (Ud (show p.length=z.length from hn7)) ?_;have⟨aq,ar,h⟩:=Vu h;refine Ur 3 1490 ar fun cj=>?_;intro cm bg;refine Uj J1 l5g l5n 11 (A.mb 17 28671) (dj:=83) rfl (fun a w hf hh=>Uw (t:=A.ti) ar bg hf) ?_;refine Ve J1 l5n l5n [] [1490] (A.mb 17 131071) 0 [(12,.on (.e 0 0)),(15,.on .n),(16,.n)] [(96,.bool (decide (aq≠y.2.2.2.2.2.2)))] (J9 ?_);exact Vf ⟨(decide (aq≠y.2.2.2.2.2.2)),rfl,rfl,h⟩
   refine Ve J1 l5i l5i [] [] (A.mb 17 131071) 0 [(4,.off),(5,.off),(6,.off),(13,.off),(7,.off),(14,.off),(8,.off),(9,.off),(10,.off),(11,.off),(12,.off),(15,.off),(16,.n)] [(96,.bool false)] (J9 ?_);exact Vf ⟨false,rfl,rfl,h⟩
  rintro _ _ ⟨ab,rfl,rfl,h⟩;rw[F.c6]at h;refine Ua h ?_ ?_<;>intro Y h
  ·refine Js 1 ?_;refine Jw 2 [(4,.slice none 0 0),(5,.bool false)] (Jt 1 ?_);obtain rfl:=J4 h;refine V4 1491 A.ti 3 ?_;exact Vz [(0,1491)] ⟨none,0,rfl,rfl⟩
  refine Js 3 ?_;have⟨au,h⟩:=Vl h;refine V5 3 [Z.R64 (I+1)] [(11,A.i (I+1))] au (Ju ?_);exact Vf ⟨_,Qi _,⟨(I+1),rfl,rfl,(Jz au),h⟩⟩
 refine Js 3 ?_;refine Jw 3 [(4,.slice (some ⟨N,0,none⟩) p.length p.length),(5,.bool true)] (Jt 1 ?_);obtain rfl:=J4 h;refine U0 4 (Ud (show p.length=z.length from hn7)) ?_;exact Vz [(0,3)] ⟨(some ⟨N,0,none⟩),p.length,rfl,rfl⟩
def F.dx (e:(List D39))(h:D39):Nat→Int→Option Bool
 |0,_=>none
 |f+1,a=>if a<(e.length:Int)then((A.ix e a).bind fun k=>(if k=h then(some true)else(A.gd (Z.R64 (a+1)) ((F.dx e h f) (a+1)))))else(some false)
def F.ex (a:(List D39))(e:D39):Option Bool:=F.dx a e A.FU 0
theorem o_a7(p:(List D39))(o:D39)(N:A.h6 o.1)(O:A.h6 o.2)(r:Bool)(h:F.ex p o=some r):
    A.Ct Tryz.prog 128 [.slice A0_ p.length c1_,(A.rae o)] [(0,.ln T39 A0_ c1_ p)] [] (fun v H'=>v=.bool r∧H'=[]):=by
 refine Jv Tryz.func128 rfl Tryz.ntmps128 rfl fun U V=>?_;rw[F.ex]at h;refine Js 1 ?_;refine J8 1 (cs:=(A.raa o)) fun W=>?_;refine Jw 1 [] (J7 3 ?_);refine Jw 1 [(5,A.i 0)] (Jt 2 ?_);refine Vk [0,3] l5y (fun f E I=>∃(k:Int),E=[(5,A.i k)]∧I=[]∧A.h6 k∧F.dx p o f k=some r) ⟨0,rfl,rfl,J0,h⟩ ?_;rintro s _ _ ⟨k,rfl,rfl,X,h⟩;rcases s with _|s
 ·exact Vi h
 rw[F.dx]at h;refine Js 2 ?_;refine Jw 4 [(9,.bool (decide (k<(p.length:Int))))] (Jt 1 ?_);refine Vm h ?_ ?_<;>intro J h
 ·refine V1 5 ?_;refine Vh mixed 6 6 (A.mb 6 0) ?_;refine Ve J1 [] l5y [1] [] (A.mb 6 19) 3 [(0,.n),(1,.n),(4,.b 0 0)] [(12,.slice A0_ p.length c1_),(13,A.i k),(16,(A.rae o))] ?_;have⟨u,z,h⟩:=Vu h;refine Vo 0 4 z fun Y=>?_;intro b9 a2 L;refine Vd J1 l5y [0,1,4] 2 (A.mb 6 23) rfl (fun a w hf hh=>Vj (t:=T39) z L hf) ?_;refine Ve J1 [0,1,4] [0,1,4] [] [4] (A.mb 6 31) 1 [(3,.e 0 0)] [(15,(A.rae u))] ?_;refine Vd J1 [0,1,4] [0,1,4] 5 (A.mb 6 63) rfl (fun a w hf hh=>eqagg_eql40 (x:=u) (y:=o) (hf.eval rfl) (hf.eval rfl)) ?_;refine J9 ?_;refine Uu 1 ?_;refine Vm h ?_ ?_<;>intro J h
  ·refine Js 1 ?_;refine Jw 1 [(4,.bool true)] (Jt 1 ?_);obtain rfl:=J4 h;exact J5 [] ⟨rfl,rfl⟩
  refine Js 3 ?_;have⟨B,h⟩:=Vl h;refine V5 3 [Z.R64 (k+1)] [(5,A.i (k+1))] B (Ju ?_);exact Vf ⟨_,Qi _,⟨(k+1),rfl,rfl,(Jz B),h⟩⟩
 refine Js 3 ?_;refine Jw 1 [(4,.bool false)] (Jt 1 ?_);obtain rfl:=J4 h;exact J5 [] ⟨rfl,rfl⟩
def F.dy (e:(List D41))(h:D39):Nat→Int→Option Int
 |0,_=>none
 |f+1,a=>if a<(e.length:Int)then((A.ix e a).bind fun k=>(if k.1=h then((A.ix e a).bind fun o=>(some o.2))else(A.gd (Z.R64 (a+1)) ((F.dy e h f) (a+1)))))else(some (-1))
def F.eG (a:(List D41))(e:D39):Option Int:=F.dy a e A.FU 0
theorem o_bV(p:(List D41))(o:D39)(V:A.h6 o.1)(W:A.h6 o.2)(r:Int)(h:F.eG p o=some r):
    A.Ct Tryz.prog 163 [.slice A0_ p.length c1_,(A.rae o)] [(0,.ln T41 A0_ c1_ p)] [] (fun v H'=>v=A.i r∧H'=[]∧A.h6 r):=by
 refine Jv Tryz.func163 rfl Tryz.ntmps163 rfl fun X Y=>?_;rw[F.eG]at h;refine Js 1 ?_;refine J8 1 (cs:=(A.raa o)) fun g1=>?_;refine Jw 1 [] (J7 3 ?_);refine Jw 1 [(5,A.i 0)] (Jt 2 ?_);refine Vk [0,3] l5y (fun f E I=>∃(k:Int),E=[(5,A.i k)]∧I=[]∧A.h6 k∧F.dy p o f k=some r) ⟨0,rfl,rfl,J0,h⟩ ?_;rintro s _ _ ⟨k,rfl,rfl,a2,h⟩;rcases s with _|s
 ·exact Vi h
 rw[F.dy]at h;refine Js 2 ?_;refine Jw 4 [(9,.bool (decide (k<(p.length:Int))))] (Jt 1 ?_);refine Vm h ?_ ?_<;>intro J h
 ·refine V1 5 ?_;refine Vh mixed 7 7 (A.mb 7 0) ?_;refine Ve J1 [] l5y [1] [] (A.mb 7 35) 4 [(0,.n),(1,.n),(5,.b 0 0)] [(12,.slice A0_ p.length c1_),(13,A.i k),(17,(A.rae o))] ?_;have⟨u,z,h⟩:=Vu h;refine Vo 0 6 z fun a3=>?_;intro b9 a4 L;refine Vd J1 l5y [0,1,6] 2 (A.mb 7 39) rfl (fun a w hf hh=>Vj (t:=T41) z L hf) ?_;refine Ve J1 [0,1,6] [0,1,6] [] [6] (A.mb 7 63) 1 [(3,.n),(4,.e 0 0)] [(16,(A.rae u.1))] ?_;refine Vd J1 [0,1,6] [0,1,6] 6 (A.mb 7 127) rfl (fun a w hf hh=>eqagg_eql40 (x:=u.1) (y:=o) (hf.eval rfl) (hf.eval rfl)) ?_;refine J9 ?_;refine Uu 1 ?_;refine Vm h ?_ ?_<;>intro J h
  ·refine Js 1 ?_;refine Jw 2 [(19,.slice A0_ p.length c1_),(20,A.i k)] ?_;have⟨N,O,h⟩:=Vu h;refine V7 0 7 O fun U=>?_;intro a5 a6;refine Jy [] [7] [.n,.e 0 2,.n] [(4,A.i N.2)] (Jt 1 ?_);obtain rfl:=J4 h;exact J5 [] ⟨rfl,rfl,U.2⟩
  refine Js 3 ?_;have⟨B,h⟩:=Vl h;refine V5 3 [Z.R64 (k+1)] [(5,A.i (k+1))] B (Ju ?_);exact Vf ⟨_,Qi _,⟨(k+1),rfl,rfl,(Jz B),h⟩⟩
 refine Js 3 ?_;refine Jw 1 [(4,A.i (-1))] (Jt 1 ?_);obtain rfl:=J4 h;exact J5 [] ⟨rfl,rfl,(Va .i64 (-1) rfl)⟩
def F.ef (k:D23)(o:(List D41))(a:D53)(e:Int):Option Bool:=(F.ee k a.1.1).bind fun h=>((F.eG o a.2.1).bind fun p=>(if e≤p then(some (bif bif decide (h.1.2.1≠14)then true else decide (h.1.2.2.2.2.2.2≠e)then true else decide (a.1.2=2)))else(some false)))
theorem o_bI(k:D23)(o:(List D41))(e:D53)(p:Int)(w:A.h6 e.1.1)(B:A.h6 e.1.2)(x:A.h6 e.2.1.1)(y:A.h6 e.2.1.2)(E:A.h6 e.2.2.1)(I:A.h6 e.2.2.2.1)(J:A.h6 e.2.2.2.2.1)(L:A.h6 e.2.2.2.2.2.1)(N:A.h6 e.2.2.2.2.2.2.1)(O:A.h6 e.2.2.2.2.2.2.2.1)(U:A.h6 e.2.2.2.2.2.2.2.2.1)(V:A.h6 e.2.2.2.2.2.2.2.2.2)(W:A.h6 p)(r:Bool)(h:F.ef k o e p=some r):
    A.Ct Tryz.prog 127 [.agg #[.slice A0_ k.length c1_],.slice A2_ o.length c3_,(A.rai e),A.i p] [(0,.sh (.slice T83) [.slice A0_ k.length c1_] k),(1,.ln T41 A2_ c3_ o)] [] (fun v H'=>v=.bool r∧H'=[]):=by
 refine Jv Tryz.func127 rfl Tryz.ntmps127 rfl fun X Y=>?_;rw[F.ef]at h;refine Js 1 ?_;refine J8 2 (cs:=[.slice A0_ k.length c1_]) fun g1=>?_;refine J8 3 (cs:=(A.rad e)) fun g2=>?_;refine Jw 1 [] (J7 2 ?_);refine Jy [2,3] [] [.b 0 0,.n,.n,.b 1 0] [(12,.agg #[.slice A0_ k.length c1_]),(15,A.i e.1.1)] ?_;refine Vs 4 [] h (o_aU A0_ c1_ k e.1.1 w) (.s 0 .nil) ?_;rintro a - h _ _ ⟨t,u,rfl,rfl,hr5,hr6,hr9,hr10,hr11,hr12,hr13,hr14⟩;refine Vb ?_;refine Jw 3 [(17,.agg #[A.i a.1.1,A.i a.1.2.1,.slice t a.1.2.2.1.length u,A.i a.1.2.2.2.1.1,A.i a.1.2.2.2.1.2.1,.string a.1.2.2.2.1.2.2,.string a.1.2.2.2.2.1,A.i a.1.2.2.2.2.2.1,A.i a.1.2.2.2.2.2.2]),(18,.bool a.2)] ?_;refine J3 44 (cs:=l5a) Tryz.zeroValue84 fun a4=>?_;refine Vp 44 [] [A.i a.1.1,A.i a.1.2.1,.slice t a.1.2.2.1.length u,A.i a.1.2.2.2.1.1,A.i a.1.2.2.2.1.2.1,.string a.1.2.2.2.1.2.2,.string a.1.2.2.2.2.1,A.i a.1.2.2.2.2.2.1,A.i a.1.2.2.2.2.2.2] ?_;refine Jw 1 [] (J7 2 ?_);refine Jy [3] [] [.n,.n,.b 0 2] [(19,.slice A2_ o.length c3_),(21,(A.rae e.2.1))] ?_;refine Vs 45 [] h (o_bV A2_ c3_ o e.2.1 x y) (.s 1 .nil) ?_;rintro z - h _ _ ⟨rfl,rfl,hr18⟩;refine Vb ?_;refine Jw 3 [(25,.bool (decide (p≤z)))] ?_;refine V8 (j:=25) rfl h ?_ ?_<;>intro hb h
 ·refine Jy [44,3] [] [.on .n,.on (.b 0 1),.on .n,.on .n,.sy .n,.sy (.b 0 8),.sy .n,.sy .n,.on .pk,.on .n,.sy .n,.sy .n,.sy (.b 1 1),.sy .n,.on .pk,.n,.n] [(8,.bool (bif bif decide (a.1.2.1≠14)then true else decide (a.1.2.2.2.2.2.2≠p)then true else decide (e.1.2=2)))] (Jt 1 ?_);obtain rfl:=J4 h;exact J5 [] ⟨rfl,rfl⟩
 refine Jy [] [] [.off,.off,.off,.off,.off,.off,.off,.off,.off,.off,.off,.off,.off,.off,.off,.n,.n] [(8,.bool false)] (Jt 1 ?_);obtain rfl:=J4 h;exact J5 [] ⟨rfl,rfl⟩
def F.dz (e:(List D39)→(List D39)→Int→Option Bool)(a:Int)(h:List D39)(k:List D39):Option Bool:=A.gd (Z.R64 (a+1)) (e h k (a+1))
def F.cV (k:(List D39)→(List D39)→Int→Option Bool)(o:(List D53))(e:List D39)(h:List D39)(a:Int)(t:Bool):Option Bool:=if t=true then((A.ix o a).bind fun p=>(A.gd ((List.length (α:=D39) e+List.length (α:=D39) [p.2.1])*16≤140737488355328) ((A.ix o a).bind fun s=>(A.gd ((List.length (α:=D39) h+List.length (α:=D39) [s.2.1])*16≤140737488355328) (F.dz k a (e++[p.2.1]) (h++[s.2.1]))))))else(F.dz k a e h)
def F.aW (p:(List D39)→(List D39)→Int→Option Bool)(s:D23)(t:(List D41))(a:(List D53))(u:D41)(h:Int):Nat→(List D39)→(List D39)→Int→Option Bool
 |0,_,_,_=>none
 |f+1,k,o,e=>if e<(a.length:Int)then((A.ix a e).bind fun w=>((A.ix o h).bind fun x=>(if w.1=x then((A.ix a e).bind fun y=>((F.ef s t y u.2).bind fun z=>(if z=true then((A.ix a e).bind fun B=>((F.ex k B.2.1).bind fun E=>(F.cV (F.aW p s t a u h f) a k o e (!E))))else(F.cV (F.aW p s t a u h f) a k o e false))))else(F.cV (F.aW p s t a u h f) a k o e false))))else(A.gd (Z.R64 (h+1)) (p k o (h+1)))
def F.bQ (e:D23)(h:(List D41))(k:(List D53))(a:D41):Nat→(List D39)→(List D39)→Int→Option Bool
 |0,_,_,_=>none
 |f+1,o,p,s=>if s<(p.length:Int)then(F.aW (F.bQ e h k a f) e h k a s A.FU o p 0)else((F.ex o a.1).bind fun t=>(some t))
def F.d2 (e:D23)(h:(List D41))(k:(List D53))(a:D41):Option Bool:=F.bQ e h k a A.FU [] [a.1] 0
theorem o_bz(B:D23)(E:(List D41))(u:(List D53))(p:D41)(aj:A.h6 p.1.1)(ak:A.h6 p.1.2)(b3:A.h6 p.2)(r:Bool)(h:F.d2 B E u p=some r):
    A.Ct Tryz.prog 86 [.agg #[.slice A0_ B.length c1_],.slice A2_ E.length c3_,.slice A4_ u.length c5_,(A.rag p)] [(0,.sh (.slice T83) [.slice A0_ B.length c1_] B),(1,.ln T41 A2_ c3_ E),(2,.ln T53 A4_ c5_ u)] [] (fun v H'=>v=.bool r∧H'=[]):=by
 refine Jv Tryz.func86 rfl Tryz.ntmps86 rfl fun w0 F0=>?_;rw[F.d2]at h;refine Js 1 ?_;refine J8 3 (cs:=[.slice A0_ B.length c1_]) fun g1=>?_;refine J8 4 (cs:=(A.rac p)) fun g2=>?_;refine Jw 1 [] (J7 2 ?_);refine A.AL.bs0 5 T39 (fun g3=>?_) Tryz.sizeOf40
 refine Jw 1 [(9,.slice (some ⟨g3,0,none⟩) 0 0)] (J7 2 ?_);refine Jy [4] [] [.n,.b 0 0] [(15,(A.rae p.1))] ?_;refine Vq 6 (ty:=T39) (cs:=(A.raa p.1)) [p.1] ⟨⟨⟨rfl,aj⟩,⟨rfl,ak⟩⟩,rfl⟩ (fun g4=>?_) Tryz.zeroValue40 Tryz.sizeOf40
 refine Jw 1 [(10,.slice (some ⟨g4,0,none⟩) 1 1)] (J7 3 ?_);refine Jw 1 [(11,A.i 0)] (Jt 2 ?_);refine Vk [1,2,4,7] l5o (fun f V W=>∃(X:List D39),∃(a5:List D39),∃(I:Int),∃(A5:Option Addr),∃(c6:Nat),∃(A8:Option Addr),∃(c9:Nat),V=[(9,.slice A5 X.length c6),(10,.slice A8 a5.length c9),(11,A.i I)]∧W=[(5,.own T39 40 A5 c6 X),(6,.own T39 40 A8 c9 a5)]∧A.h6 I∧F.bQ B E u p f X a5 I=some r) ⟨[],[p.1],0,(some ⟨g3,0,none⟩),0,(some ⟨g4,0,none⟩),1,rfl,rfl,J0,h⟩ ?_;rintro a6 _ _ ⟨X,a5,I,A5,c6,A8,c9,rfl,rfl,be,h⟩;rcases a6 with _|a6
 ·exact Vi h
 rw[F.bQ]at h;refine Js 2 ?_;refine Jw 4 [(20,.bool (decide (I<(a5.length:Int))))] (Jt 1 ?_);refine Vm h ?_ ?_<;>intro hb h
 ·refine Js 5 ?_;refine Jw 1 [(12,A.i 0)] (Jt 2 ?_);refine Vk [1,2,4,7,11] l5o (fun f V W=>∃(J:List D39),∃(N:List D39),∃(z:Int),∃(O:Option Addr),∃(U:Nat),∃(Y:Option Addr),∃(a4:Nat),V=[(9,.slice O J.length U),(10,.slice Y N.length a4),(12,A.i z)]∧W=[(5,.own T39 40 O U J),(6,.own T39 40 Y a4 N)]∧A.h6 z∧F.aW (F.bQ B E u p a6) B E u p I f J N z=some r) ⟨X,a5,0,A5,c6,A8,c9,rfl,rfl,J0,h⟩ ?_;rintro ab _ _ ⟨J,N,z,O,U,Y,a4,rfl,rfl,bg,h⟩;rcases ab with _|ab
  ·exact Vi h
  rw[F.aW]at h;refine Js 2 ?_;refine Jw 4 [(26,.bool (decide (z<(u.length:Int))))] (Jt 1 ?_);refine Vm h ?_ ?_<;>intro hb h
  ·refine V1 2 ?_;refine J2 [1,2,4,7,11,12] l5o (fun V W=>∃(a7:List D39),∃(a8:List D39),∃(ac:Option Addr),∃(ad:Nat),∃(ae:Option Addr),∃(af:Nat),V=[(9,.slice ac a7.length ad),(10,.slice ae a8.length af)]∧W=[(5,.own T39 40 ac ad a7),(6,.own T39 40 ae af a8)]∧F.dz (F.aW (F.bQ B E u p a6) B E u p I ab) z a7 a8=some r) ?_ ?_
   ·refine V1 1 ?_;refine J2 [1,2,4,7,9,10,11,12] [0,1,2,3,4,5,6] (fun V W=>∃(ag:Bool),V=[(59,.bool ag)]∧W=[]∧F.cV (F.aW (F.bQ B E u p a6) B E u p I ab) u J N z ag=some r) ?_ ?_
    ·refine A.AX.drF mixed 31 31 [0,0,3,4,8,0,0,96,128,272,512,1024,1024,1024,1024,25600,33792,1024,132096,334848,525312,1572864,2097152,2097152,2097152,27262976,35651584,69206016,140509184,270532608,538968064] [0,0,3,4,8,0,0,96,128,272,512,1024,1024,1024,1024,25600,33792,1024,132096,334848,525312,1048576,2097152,2097152,2097152,27262976,35651584,69206016,140509184,270532608,538968064] fun hT49=>?_;refine A.AH.qF hT49 J1 [] [0,1,2,3,4,5,6] [] [] 0 99 27 [(0,.n),(1,.n),(5,.n),(6,.n)] [29,30,34,35] [] [(29,.slice A4_ u.length c5_),(30,A.i z),(34,.slice Y N.length a4),(35,A.i I)] trivial ?_;have⟨ah,al,h⟩:=Vu h;refine Vo 2 791 al fun bh=>?_;intro bi bj b4;refine Vd J1 [0,1,2,3,4,5,6] [0,1,2,3,4,5,6,791] 2 (A.mb 31 103) rfl (fun a w hf hh=>Vj (t:=T53) al b4 hf) ?_;refine A.AH.qF hT49 J1 [0,1,2,3,4,5,6,791] [0,1,2,3,4,5,6,791] [] [791] 103 127 24 [(3,.n),(4,.e 0 0)] [33] [] [(33,(A.rae ah.1))] trivial ?_;have⟨ai,am,h⟩:=Vu h;refine Ur 6 792 am fun bk=>?_;intro bl b5;refine Vd J1 [0,1,2,3,4,5,6,791] l5p 7 (A.mb 31 255) rfl (fun a w hf hh=>Uw (t:=T39) am b5 hf) ?_;refine A.AH.qF hT49 J1 [0,1,2,3,4,5,6,791,792] [0,1,2,3,4,5,6,791,792] [] [792] 255 511 22 [(8,.e 0 0)] [37] [] [(37,(A.rae ai))] trivial ?_;refine Vd J1 l5p l5p 9 (A.mb 31 1023) rfl (fun a w hf hh=>eqagg_eql40 (x:=ah.1) (y:=ai) (hf.eval rfl) (hf.eval rfl)) ?_;refine A.AH.qF hT49 J1 [0,1,2,3,4,5,6,791,792] [0,1,2,3,4,5,6,791,792] [] [] 1023 2047 20 [(10,.n)] [39] [] [(39,.bool (decide (ah.1=ai)))] trivial ?_;refine Ue (j:=39) rfl h ?_ ?_<;>intro hb h
     ·refine A.AH.qF hT49 J1 [0,1,2,3,4,5,6,791,792] [0,1,2,3,4,5,6,791,792] [3,4] [] 2047 425983 14 [(11,.on (.b 0 0)),(12,.on .n),(13,.on .n),(14,.on .n),(17,.on .n),(18,.on (.b 1 2))] [40,41,42,43,47] [] [(40,.agg #[.slice A0_ B.length c1_]),(41,.slice A2_ E.length c3_),(42,.slice A4_ u.length c5_),(43,A.i z),(47,A.i p.2)] trivial ?_;have⟨an,ao,h⟩:=Vu h;refine Vo 2 793 ao fun L=>?_;intro bm bp b6;refine Uj J1 l5p [0,1,2,3,4,5,6,791,792,793] 15 (A.mb 31 458751) (dj:=39) rfl (fun a w hf hh=>Vj (t:=T53) ao b6 hf) ?_;refine A.AH.qF hT49 J1 [0,1,2,3,4,5,6,791,792,793] [0,1,2,3,4,5,6,791,792,793] [] [793] 458751 524287 12 [(16,.on (.e 0 0))] [45] [] [(45,(A.rai an))] trivial ?_;refine A.AH.oneF hT49 19 ?_;refine Vg (dj:=39) rfl rfl ?_;refine Vs 794 [] h (o_bI A0_ A2_ c1_ c3_ B E an p.2 L.1.1 L.1.2 L.2.1.1 L.2.1.2 L.2.2.1 L.2.2.2.1 L.2.2.2.2.1 L.2.2.2.2.2.1 L.2.2.2.2.2.2.1 L.2.2.2.2.2.2.2.1 L.2.2.2.2.2.2.2.2.1 L.2.2.2.2.2.2.2.2.2 b3) (.s 0 (.s 1 .nil)) ?_;rintro b7 - h _ _ ⟨rfl,rfl⟩;refine Vb ?_;refine A.AH.nxF 1048575 [0,1,2,3,4,5,6,791,792,793] ?_;refine A.AH.qF hT49 J1 [0,1,2,3,4,5,6,791,792,793] [0,1,2,3,4,5,6,791,792,793] [] [] 1048575 4194303 9 [(20,.n),(21,.n)] [50] [] [(50,.bool b7)] trivial ?_;refine A.AH.cnd (j:=50) rfl h (fun h=>?_) (fun h=>?_)
      ·refine A.AH.qF hT49 J1 [0,1,2,3,4,5,6,791,792,793] [0,1,2,3,4,5,6,791,792,793] [] [] 4194303 33554431 6 [(22,.on .n),(23,.on .n),(24,.on .n)] [51,52,53] [] [(51,.slice O J.length U),(52,.slice A4_ u.length c5_),(53,A.i z)] trivial ?_;have⟨ap,aq,h⟩:=Vu h;refine Vo 2 834 aq fun ar=>?_;intro bq br b9;refine Uj J1 [0,1,2,3,4,5,6,791,792,793] [0,1,2,3,4,5,6,791,792,793,834] 25 (A.mb 31 67108863) (dj:=50) rfl (fun a w hf hh=>Vj (t:=T53) aq b9 hf) ?_;refine A.AH.qF hT49 J1 [0,1,2,3,4,5,6,791,792,793,834] [0,1,2,3,4,5,6,791,792,793,834] [] [834] 67108863 268435455 3 [(26,.on .n),(27,.on (.e 0 2))] [56] [] [(56,(A.rae ap.2.1))] trivial ?_;refine A.AH.oneF hT49 28 ?_;refine Vg (dj:=50) rfl rfl ?_;refine Vs 835 [] h (o_a7 O U J ap.2.1 ar.2.1.1 ar.2.1.2) (.o 5 .nil) ?_;rintro au - h _ _ ⟨rfl,rfl⟩;refine Vb ?_;refine A.AH.nxF 536870911 [0,1,2,3,4,5,6,791,792,793,834] ?_;refine A.AH.qF hT49 J1 [0,1,2,3,4,5,6,791,792,793,834] [0,1,2,3,4,5,6,791,792,793,834] [] [] 536870911 2147483647 0 [(29,.on .n),(30,.n)] [59] [] [(59,.bool (!au))] trivial ?_;refine A.AH.doneF hT49 ?_;exact Vf ⟨(!au),rfl,rfl,h⟩
      refine A.AH.qF hT49 J1 [0,1,2,3,4,5,6,791,792,793] [0,1,2,3,4,5,6,791,792,793] [] [] 4194303 2147483647 0 [(22,.off),(23,.off),(24,.off),(25,.off),(26,.off),(27,.off),(28,.off),(29,.off),(30,.n)] [59] [] [(59,.bool false)] trivial ?_;refine A.AH.doneF hT49 ?_;exact Vf ⟨false,rfl,rfl,h⟩
     refine A.AH.qF hT49 J1 [0,1,2,3,4,5,6,791,792] [0,1,2,3,4,5,6,791,792] [] [] 2047 2147483647 0 [(11,.off),(12,.off),(13,.off),(14,.off),(17,.off),(15,.off),(18,.off),(16,.off),(19,.off),(20,.n),(21,.n),(22,.off),(23,.off),(24,.off),(25,.off),(26,.off),(27,.off),(28,.off),(29,.off),(30,.n)] [59] [] [(59,.bool false)] trivial ?_;refine A.AH.doneF hT49 ?_;exact Vf ⟨false,rfl,rfl,h⟩
    rintro _ _ ⟨ag,rfl,rfl,h⟩;rw[F.cV]at h;refine Ua h ?_ ?_<;>intro hb h
    ·refine Js 1 ?_;refine Jw 3 [(60,.slice O J.length U),(61,.slice A4_ u.length c5_),(62,A.i z)] ?_;have⟨a9,bb,h⟩:=Vu h;refine V7 2 875 bb fun av=>?_;intro bs bt;refine Jy [] [875] [.n,.e 0 2] [(65,(A.rae a9.2.1))] ?_;refine Vq 876 (ty:=T39) (cs:=(A.raa a9.2.1)) [a9.2.1] ⟨⟨⟨rfl,av.2.1.1⟩,⟨rfl,av.2.1.2⟩⟩,rfl⟩ (fun bu=>?_) Tryz.zeroValue40 Tryz.sizeOf40
     have⟨hl39,h⟩:=Vl h;refine Vy (k:=5) [] (Ui (k:=876) rfl) inf40 hl39 fun aw ax=>?_;refine Jw 1 [(9,.slice aw ((J++[a9.2.1]).length) ax)] (J7 1 ?_);refine Jw 3 [(68,.slice Y N.length a4),(69,.slice A4_ u.length c5_),(70,A.i z)] ?_;have⟨aa,bc,h⟩:=Vu h;refine V7 2 877 bc fun ay=>?_;intro bv bw;refine Jy [] [877] [.n,.e 0 2] [(73,(A.rae aa.2.1))] ?_;refine Vq 878 (ty:=T39) (cs:=(A.raa aa.2.1)) [aa.2.1] ⟨⟨⟨rfl,ay.2.1.1⟩,⟨rfl,ay.2.1.2⟩⟩,rfl⟩ (fun bx=>?_) Tryz.zeroValue40 Tryz.sizeOf40
     have⟨hl48,h⟩:=Vl h;refine Vy (k:=6) [] (Ui (k:=878) rfl) inf40 hl48 fun az b0=>?_;refine Jw 1 [(10,.slice az ((N++[aa.2.1]).length) b0)] (Uc 1 ?_);exact Vf ⟨(J++[a9.2.1]),(N++[aa.2.1]),aw,ax,az,b0,rfl,rfl,h⟩
    refine Vw 2 ?_;exact Vf ⟨J,N,O,U,Y,a4,rfl,rfl,h⟩
   rintro _ _ ⟨a7,a8,ac,ad,ae,af,rfl,rfl,h⟩;rw[F.dz]at h;refine Js 0 ?_;have⟨b1,h⟩:=Vl h;refine V5 3 [Z.R64 (z+1)] [(12,A.i (z+1))] b1 (Ju ?_);exact Vf ⟨_,Qi _,⟨a7,a8,(z+1),ac,ad,ae,af,rfl,rfl,(Jz b1),h⟩⟩
  refine Js 3 ?_;have⟨b2,h⟩:=Vl h;refine V5 3 [Z.R64 (I+1)] [(11,A.i (I+1))] b2 (Ju ?_);exact Vf ⟨_,Qi _,⟨J,N,(I+1),O,U,Y,a4,rfl,rfl,(Jz b2),h⟩⟩
 refine Js 3 ?_;refine Jy [4] [] [.n,.n,.b 0 0] [(76,.slice A5 X.length c6),(78,(A.rae p.1))] ?_;refine Vs 879 [] h (o_a7 A5 c6 X p.1 aj ak) (.o 5 .nil) ?_;rintro bd - h _ _ ⟨rfl,rfl⟩;refine Vb ?_;refine Jw 1 [(8,.bool bd)] (Jt 1 ?_);obtain rfl:=J4 h;exact J5 [] ⟨rfl,rfl⟩
def F.cd (h:D23)(k:(List Int)×Bool)(o:(List Int)×Bool)(a:(List D41))(p:(List D53)):Nat→Int→Option ((List Int)×(List Int)×Int)
 |0,_=>none
 |f+1,e=>if e<(a.length:Int)then((A.ix a e).bind fun s=>((F.d2 h a p s).bind fun t=>(if t=true then(some ([],[],81))else(A.gd (Z.R64 (e+1)) ((F.cd h k o a p f) (e+1))))))else(some (k.1,o.1,0))
def F.d3 (a:D23):Option ((List Int)×(List Int)×Int):=(F.ep a).bind fun k=>(if k≠0 then(some ([],[],k))else((F.dv a).bind fun e=>(if(!e.2)=true then(some ([],[],81))else((F.c1 a e.1).bind fun h=>(if(!h.2)=true then(some ([],[],80))else((F.dY a h.1).bind fun o=>((F.dq a o).bind fun p=>(F.cd a e h o p A.FU 0))))))))
theorem o_bA(k:D23)(r:(List Int)×(List Int)×Int)(h:F.d3 k=some r):
    A.Ct Tryz.prog 48 [.agg #[.slice A0_ k.length c1_]] [(0,.sh (.slice T83) [.slice A0_ k.length c1_] k)] [] (fun v H'=>∃(A0':Option Addr) (c1':Nat) (A2':Option Addr) (c3':Nat),v=.tuple #[.slice A0' r.1.length c1',.slice A2' r.2.1.length c3',A.i r.2.2]∧H'=[(0,.own A.ti 3 A0' c1' r.1),(1,.own A.ti 3 A2' c3' r.2.1)]∧A.h6 r.2.2):=by
 refine Jv Tryz.func48 rfl Tryz.ntmps48 rfl fun w0 F0=>?_;rw[F.d3]at h;refine Js 1 ?_;refine J8 1 (cs:=[.slice A0_ k.length c1_]) fun g1=>?_;refine Jw 3 [] (J7 3 ?_);refine Jy [1] [] [.b 0 0] [(12,.agg #[.slice A0_ k.length c1_])] ?_;refine Vs 2 [] h (o_bu A0_ c1_ k) (.s 0 .nil) ?_;rintro L - h _ _ ⟨rfl,rfl,hr4⟩;refine Vb ?_;refine Jw 1 [(5,A.i L)] (J7 2 ?_);refine Jw 2 [(15,.bool (decide (L≠0)))] (Jt 1 ?_);refine Vm h ?_ ?_<;>intro N h
 ·refine Js 1 ?_;refine Jw 4 [(2,.slice none 0 0),(3,.slice none 0 0),(4,A.i L)] (Jt 1 ?_);obtain rfl:=J4 h;refine V4 42 A.ti 3 ?_;refine V4 43 A.ti 3 ?_;exact Vr [(0,42),(1,43)] (.tuple #[.slice none 0 0,.slice none 0 0,A.i L]) (fun a w hf hh=>Z.resv3 rfl (Vx hf rfl) (Vx hf rfl) (Vx hf rfl)) (⟨none,0,none,0,rfl,rfl,hr4⟩)
 refine Js 3 ?_;refine Jy [1] [] [.b 0 0] [(18,.agg #[.slice A0_ k.length c1_])] ?_;refine Vs 44 [] h (o_bw A0_ c1_ k) (.s 0 .nil) ?_;rintro u - h _ _ ⟨z,B,rfl,rfl⟩;refine Vb ?_;refine Jw 5 [(6,.slice z u.1.length B),(7,.bool u.2)] (J7 3 ?_);refine Jw 2 [(23,.bool (!u.2))] (Jt 1 ?_);refine Ua h ?_ ?_<;>intro N h
 ·refine Js 1 ?_;refine Jw 3 [(2,.slice none 0 0),(3,.slice none 0 0),(4,A.i 81)] (Jt 1 ?_);obtain rfl:=J4 h;refine V4 84 A.ti 3 ?_;refine V4 85 A.ti 3 ?_;exact Vr [(0,84),(1,85)] (.tuple #[.slice none 0 0,.slice none 0 0,A.i 81]) (fun a w hf hh=>Z.resv3 rfl (Vx hf rfl) (Vx hf rfl) (Vx hf rfl)) (⟨none,0,none,0,rfl,rfl,(Va .i64 (81) rfl)⟩)
 refine Js 3 ?_;refine Jy [1] [] [.b 0 0,.n] [(25,.agg #[.slice A0_ k.length c1_]),(26,.slice z u.1.length B)] ?_;refine Vs 86 [] h (o_bf A0_ z c1_ B k u.1) (.s 0 (.o 44 .nil)) ?_;rintro x - h _ _ ⟨E,c12,rfl,rfl⟩;refine Vb ?_;refine Jw 5 [(8,.slice E x.1.length c12),(7,.bool x.2)] (J7 3 ?_);refine Jw 2 [(31,.bool (!x.2))] (Jt 1 ?_);refine Ua h ?_ ?_<;>intro N h
 ·refine Js 1 ?_;refine Jw 3 [(2,.slice none 0 0),(3,.slice none 0 0),(4,A.i 80)] (Jt 1 ?_);obtain rfl:=J4 h;refine V4 126 A.ti 3 ?_;refine V4 127 A.ti 3 ?_;exact Vr [(0,126),(1,127)] (.tuple #[.slice none 0 0,.slice none 0 0,A.i 80]) (fun a w hf hh=>Z.resv3 rfl (Vx hf rfl) (Vx hf rfl) (Vx hf rfl)) (⟨none,0,none,0,rfl,rfl,(Va .i64 (80) rfl)⟩)
 refine Js 3 ?_;refine Jy [1] [] [.b 0 0,.n] [(32,.agg #[.slice A0_ k.length c1_]),(33,.slice E x.1.length c12)] ?_;refine Vs 128 [] h (o_aL A0_ E c1_ c12 k x.1) (.s 0 (.o 86 .nil)) ?_;rintro y - h _ _ ⟨I,J,rfl,rfl⟩;refine Vb ?_;refine Jw 1 [(9,.slice I y.length J)] (J7 2 ?_);refine Jy [1] [] [.b 0 0,.n] [(35,.agg #[.slice A0_ k.length c1_]),(36,.slice I y.length J)] ?_;refine Vs 168 [] h (o_aM A0_ I c1_ J k y) (.s 0 (.o 128 .nil)) ?_;rintro O - h _ _ ⟨U,c20,rfl,rfl⟩;refine Vb ?_;refine Jw 1 [(10,.slice U O.length c20)] (J7 3 ?_);refine Jw 1 [(11,A.i 0)] (Jt 2 ?_);refine Vk [1,6,8,9,10] l5u (fun f nl nh=>∃(p:Int),nl=[(11,A.i p)]∧nh=[]∧A.h6 p∧F.cd k u x y O f p=some r) ⟨0,rfl,rfl,J0,h⟩ ?_;rintro W _ _ ⟨p,rfl,rfl,a3,h⟩;rcases W with _|W
 ·exact Vi h
 rw[F.cd]at h;refine Js 2 ?_;refine Jw 4 [(41,.bool (decide (p<(y.length:Int))))] (Jt 1 ?_);refine Vm h ?_ ?_<;>intro N h
 ·refine V1 5 ?_;refine Vh mixed 7 8 (A.mb 8 0) ?_;refine Ve J1 [] l5u [1] [] (A.mb 8 31) 3 [(0,.b 0 0),(1,.n),(2,.n),(3,.n),(4,.n)] [(44,.agg #[.slice A0_ k.length c1_]),(45,.slice I y.length J),(46,.slice U O.length c20),(47,.slice I y.length J),(48,A.i p)] ?_;have⟨X,Y,h⟩:=Vu h;refine Ur 128 294 Y fun V=>?_;intro a4 a2;refine Vd J1 l5u l5s 5 (A.mb 8 63) rfl (fun a w hf hh=>Uw (t:=T41) Y a2 hf) ?_;refine Ve J1 l5s l5s [] [294] (A.mb 8 127) 1 [(6,.e 0 0)] [(50,(A.rag X))] ?_;refine J6 7 ?_;refine Vs 295 [] h (o_bz A0_ I U c1_ J c20 k y O X V.1.1 V.1.2 V.2) (.s 0 (.o 128 (.o 168 .nil))) ?_;rintro a5 - h _ _ ⟨rfl,rfl⟩;refine Vb ?_;refine Uo (A.mb 8 255) ?_;refine J9 ?_;refine Uu 1 ?_;refine Ua h ?_ ?_<;>intro N h
  ·refine Js 1 ?_;refine Jw 3 [(2,.slice none 0 0),(3,.slice none 0 0),(4,A.i 81)] (Jt 1 ?_);obtain rfl:=J4 h;refine V4 335 A.ti 3 ?_;refine V4 336 A.ti 3 ?_;exact Vr [(0,335),(1,336)] (.tuple #[.slice none 0 0,.slice none 0 0,A.i 81]) (fun a w hf hh=>Z.resv3 rfl (Vx hf rfl) (Vx hf rfl) (Vx hf rfl)) (⟨none,0,none,0,rfl,rfl,(Va .i64 (81) rfl)⟩)
  refine Js 3 ?_;have⟨a1,h⟩:=Vl h;refine V5 3 [Z.R64 (p+1)] [(11,A.i (p+1))] a1 (Ju ?_);exact Vf ⟨_,Qi _,⟨(p+1),rfl,rfl,(Jz a1),h⟩⟩
 refine Js 3 ?_;refine Jw 5 [(2,.slice z u.1.length B),(3,.slice E x.1.length c12),(4,A.i 0)] (Jt 1 ?_);obtain rfl:=J4 h;exact Vr [(0,44),(1,86)] (.tuple #[.slice z u.1.length B,.slice E x.1.length c12,A.i 0]) (fun a w hf hh=>Z.resv3 rfl (Vx hf rfl) (Vx hf rfl) (Vx hf rfl)) (⟨z,B,E,c12,rfl,rfl,J0⟩)
def F.cX (e:D23):Option ((List D41)×Int):=(F.d3 e).bind fun a=>(if a.2.2≠0 then(some ([],a.2.2))else((F.dY e a.2.1).bind fun h=>(some (h,0))))
theorem o_aP(a:D23)(r:(List D41)×Int)(e:F.cX a=some r):
    A.Ct Tryz.prog 13 [.agg #[.slice A0_ a.length c1_]] [(0,.sh (.slice T83) [.slice A0_ a.length c1_] a)] [] (fun v H'=>∃(A0':Option Addr) (c1':Nat),v=.tuple #[.slice A0' r.1.length c1',A.i r.2]∧H'=[(0,.own T41 42 A0' c1' r.1)]∧A.h6 r.2):=by
 refine Jv Tryz.func13 rfl Tryz.ntmps13 rfl fun w x=>?_;rw[F.cX]at e;refine Js 1 ?_;refine J8 1 (cs:=[.slice A0_ a.length c1_]) fun y=>?_;refine Jw 2 [] (J7 2 ?_);refine Jy [1] [] [.b 0 0] [(8,.agg #[.slice A0_ a.length c1_])] ?_;refine Vs 2 [] e (o_bA A0_ c1_ a) (.s 0 .nil) ?_;rintro h - e _ _ ⟨z,B,k,p,rfl,rfl,hr8⟩;refine Vb ?_;refine Jw 7 [(5,.slice k h.2.1.length p),(6,A.i h.2.2)] (J7 3 ?_);refine Jw 2 [(14,.bool (decide (h.2.2≠0)))] (Jt 1 ?_);refine Vm e ?_ ?_<;>intro E e
 ·refine Js 1 ?_;refine Jw 3 [(2,.slice none 0 0),(3,A.i h.2.2)] (Jt 1 ?_);obtain rfl:=J4 e;refine V4 42 T41 42 ?_;exact Vz [(0,42)] ⟨none,0,rfl,rfl,hr8⟩
 refine Js 3 ?_;refine Jy [1] [] [.b 0 0,.n] [(16,.agg #[.slice A0_ a.length c1_]),(17,.slice k h.2.1.length p)] ?_;refine Vs 43 [] e (o_aL A0_ k c1_ p a h.2.1) (.s 0 (.o 3 .nil)) ?_;rintro u - e _ _ ⟨t,c12,rfl,rfl⟩;refine Vb ?_;refine Jw 2 [(2,.slice t u.length c12),(3,A.i 0)] (Jt 1 ?_);obtain rfl:=J4 e;exact Vz [(0,43)] ⟨t,c12,rfl,rfl,J0⟩
def F.dA (e:D23):Option ((List D53)×Int):=(F.cX e).bind fun a=>(if a.2≠0 then(some ([],a.2))else((F.dq e a.1).bind fun h=>(some (h,0))))
theorem o_bB(a:D23)(r:(List D53)×Int)(e:F.dA a=some r):
    A.Ct Tryz.prog 14 [.agg #[.slice A0_ a.length c1_]] [(0,.sh (.slice T83) [.slice A0_ a.length c1_] a)] [] (fun v H'=>∃(A0':Option Addr) (c1':Nat),v=.tuple #[.slice A0' r.1.length c1',A.i r.2]∧H'=[(0,.own T53 54 A0' c1' r.1)]∧A.h6 r.2):=by
 refine Jv Tryz.func14 rfl Tryz.ntmps14 rfl fun w x=>?_;rw[F.dA]at e;refine Js 1 ?_;refine J8 1 (cs:=[.slice A0_ a.length c1_]) fun y=>?_;refine Jw 2 [] (J7 2 ?_);refine Jy [1] [] [.b 0 0] [(7,.agg #[.slice A0_ a.length c1_])] ?_;refine Vs 2 [] e (o_aP A0_ c1_ a) (.s 0 .nil) ?_;rintro h - e _ _ ⟨k,p,rfl,rfl,hr6⟩;refine Vb ?_;refine Jw 5 [(4,.slice k h.1.length p),(5,A.i h.2)] (J7 3 ?_);refine Jw 2 [(12,.bool (decide (h.2≠0)))] (Jt 1 ?_);refine Vm e ?_ ?_<;>intro z e
 ·refine Js 1 ?_;refine Jw 3 [(2,.slice none 0 0),(3,A.i h.2)] (Jt 1 ?_);obtain rfl:=J4 e;refine V4 42 T53 54 ?_;exact Vz [(0,42)] ⟨none,0,rfl,rfl,hr6⟩
 refine Js 3 ?_;refine Jy [1] [] [.b 0 0,.n] [(14,.agg #[.slice A0_ a.length c1_]),(15,.slice k h.1.length p)] ?_;refine Vs 43 [] e (o_aM A0_ k c1_ p a h.1) (.s 0 (.o 2 .nil)) ?_;rintro u - e _ _ ⟨t,c10,rfl,rfl⟩;refine Vb ?_;refine Jw 2 [(2,.slice t u.length c10),(3,A.i 0)] (Jt 1 ?_);obtain rfl:=J4 e;exact Vz [(0,43)] ⟨t,c10,rfl,rfl,J0⟩
end Go.Proofs.YtlbnpmfggfbdoaaGreatDoor
end
section
namespace Go.Proofs.YtlbnpmfggfbdoaaGreatDoor
open Go.RowKit
variable(A0_ A1_ A2_ A4_ A5_ A7_ A10_ A12_ A13_:Option Addr)(b0_ g0_ b1_ c1_ c2_ g2_ c3_ b4_ b5_ c5_ b6_ c6_ c8_ g8_ g10_ c11_ c13_ c14_:Nat)
def F.di (a:D44)(e:D44):Option Bool:=(F.et a e).bind fun h=>(some h)
theorem o_aQ(a:D44)(h:D44)(o:A.h6 a.1)(p:A.h6 a.2.1)(s:A.h6 a.2.2.1)(t:A.h6 a.2.2.2.1)(u:A.h6 a.2.2.2.2.1)(w:A.h6 a.2.2.2.2.2.1)(x:A.h6 a.2.2.2.2.2.2.1)(y:A.h6 a.2.2.2.2.2.2.2)(z:A.h6 h.1)(B:A.h6 h.2.1)(E:A.h6 h.2.2.1)(I:A.h6 h.2.2.2.1)(J:A.h6 h.2.2.2.2.1)(L:A.h6 h.2.2.2.2.2.1)(N:A.h6 h.2.2.2.2.2.2.1)(O:A.h6 h.2.2.2.2.2.2.2)(r:Bool)(k:F.di a h=some r):
    A.Ct Tryz.prog 18 [(A.raf a),.pointer (some ⟨g8_,0,none⟩)] [(0,.el none g8_ 0 (A.rab h))] [] (fun v H'=>v=.bool r∧H'=[]):=by
 refine Jv Tryz.func18 rfl Tryz.ntmps18 rfl fun V W=>?_;rw[F.di]at k;refine Js 1 ?_;refine J8 1 (cs:=(A.rab a)) fun X=>?_;refine Jw 1 [] (J7 2 ?_);refine Jy [1] [0] [.b 0 0,.e 0 0] [(4,(A.raf a)),(5,(A.raf h))] ?_;refine Vs 2 [] k (o_bQ a h o p s t u w x y z B E I J L N O) .nil ?_;rintro U - k _ _ ⟨rfl,rfl⟩;refine Vb ?_;refine Jw 1 [(3,.bool U)] (Jt 1 ?_);obtain rfl:=J4 k;exact J5 [] ⟨rfl,rfl⟩
def F.d (e:(List D44))(h:D44):Nat→Int→Option Int
 |0,_=>none
 |f+1,a=>if a<(e.length:Int)then((A.ix e a).bind fun k=>((F.di k h).bind fun o=>(if o=true then(some a)else(A.gd (Z.R64 (a+1)) ((F.d e h f) (a+1))))))else(some (-1))
def F.aq (a:(List D44))(e:D44):Option Int:=F.d a e A.FU 0
theorem o_k(p:(List D44))(h:D44)(x:A.h6 h.1)(y:A.h6 h.2.1)(z:A.h6 h.2.2.1)(B:A.h6 h.2.2.2.1)(E:A.h6 h.2.2.2.2.1)(I:A.h6 h.2.2.2.2.2.1)(J:A.h6 h.2.2.2.2.2.2.1)(L:A.h6 h.2.2.2.2.2.2.2)(r:Int)(a:F.aq p h=some r):
    A.Ct Tryz.prog 52 [.slice A0_ p.length c1_,.func (.func 18) #[] #[.pointer (some ⟨g2_,0,none⟩)]] [(0,.ln T44 A0_ c1_ p),(1,.el none g2_ 0 (A.rab h))] [] (fun v H'=>v=A.i r∧H'=[]∧A.h6 r):=by
 refine Jv Tryz.func52 rfl Tryz.ntmps52 rfl fun w0 F0=>?_;rw[F.aq]at a;refine Js 1 ?_;refine Jw 1 [] (J7 3 ?_);refine Jw 3 [(7,A.i (p.length:Int)),(8,A.i 0)] (Jt 2 ?_);refine Vk [0,1,7] l5y (fun f N O=>∃(k:Int),N=[(8,A.i k)]∧O=[]∧A.h6 k∧F.d p h f k=some r) ⟨0,rfl,rfl,J0,a⟩ ?_;rintro t _ _ ⟨k,rfl,rfl,U,a⟩;rcases t with _|t
 ·exact Vi a
 rw[F.d]at a;refine Js 1 ?_;refine Jw 1 [(9,.bool (decide (k<(p.length:Int))))] (Jt 2 ?_);refine Vm a ?_ ?_<;>intro V a
 ·refine Js 5 ?_;refine Jw 2 [(5,A.i k)] (J7 2 ?_);refine Jw 3 [(11,.func (.func 18) #[] #[.pointer (some ⟨g2_,0,none⟩)]),(12,.slice A0_ p.length c1_),(13,A.i k)] ?_;have⟨u,W,a⟩:=Vu a;refine V7 0 84 W fun o=>?_;intro b7 o8;refine Jy [] [84] [.e 0 0] [(15,(A.raf u))] ?_;have⟨X,Y,a⟩:=Vu a;refine A.AL.call 85 [] (first:=[]) (cap:=[.pointer (some ⟨g2_,0,none⟩)]) cf18 (o_aQ g2_ u h o.1 o.2.1 o.2.2.1 o.2.2.2.1 o.2.2.2.2.1 o.2.2.2.2.2.1 o.2.2.2.2.2.2.1 o.2.2.2.2.2.2.2 x y z B E I J L X Y) (.s 1 .nil) ?_;rintro _ _ ⟨rfl,rfl⟩;refine Vb ?_;refine Jt 1 ?_;refine Ua a ?_ ?_<;>intro V a
  ·refine Js 1 ?_;refine Jw 2 [(4,A.i k)] (Jt 1 ?_);obtain rfl:=J4 a;exact J5 [] ⟨rfl,rfl,U⟩
  refine Js 3 ?_;have⟨w,a⟩:=Vl a;refine V5 2 [Z.R64 (k+1)] [(8,A.i (k+1))] w (Ju ?_);exact Vf ⟨_,Qi _,⟨(k+1),rfl,rfl,(Jz w),a⟩⟩
 refine Js 3 ?_;refine Jw 1 [(4,A.i (-1))] (Jt 1 ?_);obtain rfl:=J4 a;exact J5 [] ⟨rfl,rfl,(Va .i64 (-1) rfl)⟩
def F.n (a:(List D44))(e:D44):Option Bool:=(F.aq a e).bind fun h=>(some (decide ((0:Int)≤h)))
theorem o_h(e:(List D44))(a:D44)(k:A.h6 a.1)(o:A.h6 a.2.1)(p:A.h6 a.2.2.1)(t:A.h6 a.2.2.2.1)(u:A.h6 a.2.2.2.2.1)(w:A.h6 a.2.2.2.2.2.1)(x:A.h6 a.2.2.2.2.2.2.1)(y:A.h6 a.2.2.2.2.2.2.2)(r:Bool)(h:F.n e a=some r):
    A.Ct Tryz.prog 16 [.slice A0_ e.length c1_,.func (.func 18) #[] #[.pointer (some ⟨g2_,0,none⟩)]] [(0,.ln T44 A0_ c1_ e),(1,.el none g2_ 0 (A.rab a))] [] (fun v H'=>v=.bool r∧H'=[]):=by
 refine Jv Tryz.func16 rfl Tryz.ntmps16 rfl fun B E=>?_;rw[F.n]at h;refine Js 1 ?_;refine Jw 1 [] (J7 2 ?_);refine Jw 2 [(5,.slice A0_ e.length c1_),(6,.func (.func 18) #[] #[.pointer (some ⟨g2_,0,none⟩)])] ?_;refine Vs 2 [] h (o_k A0_ c1_ g2_ e a k o p t u w x y) (.s 0 (.s 1 .nil)) ?_;rintro z - h _ _ ⟨rfl,rfl,hr3⟩;refine Vb ?_;refine Jw 2 [(4,.bool (decide ((0:Int)≤z)))] (Jt 1 ?_);obtain rfl:=J4 h;exact J5 [] ⟨rfl,rfl⟩
def F.cx (e:(List D53)→Int→Option Bool)(a:Int)(h:List D53):Option Bool:=A.gd (Z.R64 (a+1)) (e h (a+1))
def F.aO (s:Int→Int→Int→Int→Int→Int→Int→Int→Int→Int→Int→Option Bool)(h:(List D53)×Int)(t:Int)(u:Int)(w:Int)(x:Int)(y:Int)(z:Int)(B:Int)(E:Int)(I:Int)(J:Int)(k:Int)(o:UInt8):Nat→(List D53)→Int→Option Bool
 |0,_,_=>none
 |f+1,e,p=>if p<(h.1.length:Int)then((A.ix h.1 p).bind fun L=>(if L.1=(t,u)then(A.gd ((List.length (α:=D53) e+List.length (α:=D53) [L])*96≤140737488355328) (F.cx (F.aO s h t u w x y z B E I J k o f) p (e++[L])))else(F.cx (F.aO s h t u w x y z B E I J k o f) p e)))else(if(e.length:Int)=0 then(some true)else(A.gd (Z.R64 ((o.toNat:Int))∧(e.length:Int)≠0) ((A.ix e (Int.tmod (o.toNat:Int) (e.length:Int))).bind fun N=>((F.ci (w,x,y,z,(B,E,I,J)) N.2.2).bind fun a=>(if a.2≠0 then(some true)else(A.gd (Z.R64 (k+1)) (s N.2.1.1 N.2.1.2 a.1.1 a.1.2.1 a.1.2.2.1 a.1.2.2.2.1 a.1.2.2.2.2.1 a.1.2.2.2.2.2.1 a.1.2.2.2.2.2.2.1 a.1.2.2.2.2.2.2.2 (k+1))))))))
def F.aZ (a:(List UInt8))(h:(List D57)×Int)(k:(List D53)×Int)(o:D41):Nat→Int→Int→Int→Int→Int→Int→Int→Int→Int→Int→Int→Option Bool
 |0,_,_,_,_,_,_,_,_,_,_,_=>none
 |f+1,p,s,t,u,w,x,y,z,B,E,e=>if e<((List.take ((min (a.length:Int) 60).toNat) a).length:Int)then((A.ix (List.take ((min (a.length:Int) 60).toNat) a) e).bind fun I=>((F.cY h.1 o.1 (p,s)).bind fun J=>((F.n J (t,u,w,x,(y,z,B,E))).bind fun L=>(if(!L)=true then(some false)else(F.aO (F.aZ a h k o f) k p s t u w x y z B E e I A.FU [] 0)))))else(some true)
def F.bw (o:D23)(e:(List UInt8))(p:(List D57)×Int)(t:Bool):Option Bool:=if t=true then((F.dX).bind fun u=>(some u))else((F.cX o).bind fun h=>((F.dA o).bind fun w=>(if(h.1.length:Int)=0 then(some (decide ((p.1.length:Int)=0)))else((A.ix e 0).bind fun s=>(A.gd (Z.R64 ((s.toNat:Int))∧(h.1.length:Int)≠0) ((A.ix h.1 (Int.tmod (s.toNat:Int) (h.1.length:Int))).bind fun k=>((F.ek k.2).bind fun a=>(A.gd (0≤min (e.length:Int) 60∧(min (e.length:Int) 60).toNat≤e.length) (F.aZ e p w k A.FU k.1.1 k.1.2 a.1.1 a.1.2.1 a.1.2.2.1 a.1.2.2.2.1 a.1.2.2.2.2.1 a.1.2.2.2.2.2.1 a.1.2.2.2.2.2.2.1 a.1.2.2.2.2.2.2.2 0)))))))))
def F.c7 (a:D23)(e:(List UInt8)):Option Bool:=(F.aX a).bind fun h=>((F.dX).bind fun k=>(if(!k)=true then(F.bw a e h true)else((F.eD a).bind fun o=>(F.bw a e h (bif bif !o then true else decide (h.2≠0)then true else decide ((e.length:Int)=0))))))
theorem o_aX(t:D23)(p:(List UInt8))(r:Bool)(h:F.c7 t p=some r):
    A.Ct Tryz.prog 4 [.agg #[.slice A0_ t.length c1_],.slice A2_ p.length c3_] [(0,.sh (.slice T83) [.slice A0_ t.length c1_] t),(1,.sh (.slice Z.Ty.byte) [.slice A2_ p.length c3_] p),(2,.el none 0 0 A.tabF),(3,.el none 1 0 A.tabA)] [] (fun v H'=>v=.bool r∧H'=[]):=by
 refine Jv Tryz.func4 rfl Tryz.ntmps4 rfl fun w0 F0=>?_;rw[F.c7]at h;refine Js 1 ?_;refine J8 4 (cs:=[.slice A0_ t.length c1_]) fun g1=>?_;refine Jw 1 [] (J7 2 ?_);refine Jy [4] [] [.b 0 0] [(22,.agg #[.slice A0_ t.length c1_])] ?_;refine Vs 5 [] h (o_aA A0_ c1_ t) (.s 0 (.s 2 (.s 3 .nil))) ?_;rintro I - h _ _ ⟨A4,c5,rfl,rfl,hr6⟩;refine Vb ?_;refine Jw 5 [(5,.slice A4 I.1.length c5),(6,A.i I.2)] (Jt 2 ?_);refine J2 [1,2,5] [0,1,2,3,4,5] (fun nl nh=>∃(y7:Bool),nl=[(41,.bool y7)]∧nh=[]∧F.bw t p I y7=some r) ?_ ?_
 ·refine Js 0 ?_;refine Vs 45 [] h o_aJ (.s 2 (.s 3 .nil)) ?_;rintro b5 - h _ _ ⟨rfl,rfl⟩;refine Vb ?_;refine Jw 2 [(28,.bool (!b5))] ?_;refine Vt (j:=28) rfl h (fun h=>?_) (fun h=>?_)
  ·refine Jy [] [] [.off,.off,.off,.n,.n,.off,.off,.n,.n,.off,.off,.off,.n] [(41,.bool true)] (Ju ?_);exact Vf ⟨true,rfl,rfl,h⟩
  refine Jy [4] [] [.on (.b 0 0)] [(29,.agg #[.slice A0_ t.length c1_])] ?_;refine Vg (dj:=28) rfl rfl ?_;refine Vs 85 [] h (o_bO A0_ c1_ t) (.s 0 .nil) ?_;rintro al - h _ _ ⟨rfl,rfl⟩;refine Vb ?_;refine Jy [] [] [.on .n,.n,.n,.sy .n,.sy .n,.pk,.n,.sy .n,.sy .n,.sy .n,.pk] [(41,.bool (bif bif !al then true else decide (I.2≠0)then true else decide ((p.length:Int)=0)))] (Ju ?_);exact Vf ⟨(bif bif !al then true else decide (I.2≠0)then true else decide ((p.length:Int)=0)),rfl,rfl,h⟩
 rintro _ _ ⟨y7,rfl,rfl,h⟩;rw[F.bw]at h;refine Ua h ?_ ?_<;>intro hb h
 ·refine Js 1 ?_;refine Vs 125 [] h o_aJ (.s 2 (.s 3 .nil)) ?_;rintro r8 - h _ _ ⟨rfl,rfl⟩;refine Vb ?_;refine Jw 1 [(4,.bool r8)] (Jt 1 ?_);obtain rfl:=J4 h;exact J5 [] ⟨rfl,rfl⟩
 refine Js 3 ?_;refine Jy [4] [] [.b 0 0] [(44,.agg #[.slice A0_ t.length c1_])] ?_;refine Vs 165 [] h (o_aP A0_ c1_ t) (.s 0 .nil) ?_;rintro ac - h _ _ ⟨am,c13,rfl,rfl,hr14⟩;refine Vb ?_;refine Jw 5 [(7,.slice am ac.1.length c13)] (J7 2 ?_);refine Jy [4] [] [.b 0 0] [(49,.agg #[.slice A0_ t.length c1_])] ?_;refine Vs 205 [] h (o_bB A0_ c1_ t) (.s 0 .nil) ?_;rintro V - h _ _ ⟨an,ao,rfl,rfl,hr19⟩;refine Vb ?_;refine Jw 5 [(9,.slice an V.1.length ao)] (J7 3 ?_);refine Jw 3 [(55,.bool (decide ((ac.1.length:Int)=0)))] (Jt 1 ?_);refine Vm h ?_ ?_<;>intro hb h
 ·refine Js 1 ?_;refine Jw 4 [(4,.bool (decide ((I.1.length:Int)=0)))] (Jt 1 ?_);obtain rfl:=J4 h;exact J5 [] ⟨rfl,rfl⟩
 refine Js 3 ?_;refine Jw 2 [(59,.slice am ac.1.length c13),(60,.slice A2_ p.length c3_)] ?_;have⟨ap,b6,h⟩:=Vu h;refine Vv 1 245 b6 fun bp=>?_;intro bq br;have⟨b7,h⟩:=Vl h;refine A.q [] [245] [.e 0 0,.n,.n,.n,.n] [Z.R64 ((ap.toNat:Int)),(ac.1.length:Int)≠0] [(66,A.i (Int.tmod (ap.toNat:Int) (ac.1.length:Int)))] b7 ?_;have⟨u,b9,h⟩:=Vu h;refine Uf 165 246 b9 fun ad=>?_;intro bs bt;refine Jy [] [246] [.e 0 0] [(68,(A.rag u))] ?_;refine J3 247 (cs:=[A.i 0,A.i 0,A.i 0]) Tryz.zeroValue42 fun bu=>?_;refine Vp 247 [] (A.rac u) ?_;refine J7 2 ?_;refine Jy [247] [] [.n,.b 0 0] [(70,(A.rae u.1))] ?_;refine J3 248 (cs:=[A.i 0,A.i 0]) Tryz.zeroValue40 fun bb=>?_;refine Vp 248 [] (A.raa u.1) ?_;refine J7 2 ?_;refine Jy [247] [] [.n,.b 0 2] [(73,A.i u.2)] ?_;refine Vs 249 [] h (o_aK u.2 ad.2) .nil ?_;rintro J - h _ _ ⟨rfl,rfl,hr35,hr36,hr37,hr38,hr39,hr40,hr41,hr42,hr43⟩;refine Vb ?_;refine Jw 3 [(75,(A.raf J.1)),(76,A.i J.2)] ?_;refine J3 289 (cs:=A.zz8) Tryz.zeroValue45 fun aj=>?_;refine Vp 289 [] (A.rab J.1) ?_;refine Jw 1 [] (J7 3 ?_);refine Jw 4 [(77,.slice A2_ p.length c3_),(80,A.i (min (p.length:Int) 60))] ?_;have⟨aq,h⟩:=Vl h;refine A.AL.cuth 1 290 (v:=(min (p.length:Int) 60).toNat) (Wp aq.1).symm aq.2 fun bv=>?_;refine Jw 2 [(82,A.i ((List.take ((min (p.length:Int) 60).toNat) p).length:Int)),(83,A.i 0)] (Jt 2 ?_);refine Vk [5,9,11,12,13,81,82] [2,3,5,205,247,290] (fun f nl nh=>∃(L:Int),∃(N:Int),∃(W:Int),∃(X:Int),∃(Y:Int),∃(a2:Int),∃(a3:Int),∃(a4:Int),∃(a5:Int),∃(a6:Int),∃(O:Int),nl=[(83,A.i O)]∧nh=[(248,.blk bb 40 [A.i L,A.i N]),(289,.blk aj 45 [A.i W,A.i X,A.i Y,A.i a2,A.i a3,A.i a4,A.i a5,A.i a6])]∧A.h6 L∧A.h6 N∧A.h6 W∧A.h6 X∧A.h6 Y∧A.h6 a2∧A.h6 a3∧A.h6 a4∧A.h6 a5∧A.h6 a6∧A.h6 O∧F.aZ p I V u f L N W X Y a2 a3 a4 a5 a6 O=some r) ⟨u.1.1,u.1.2,J.1.1,J.1.2.1,J.1.2.2.1,J.1.2.2.2.1,J.1.2.2.2.2.1,J.1.2.2.2.2.2.1,J.1.2.2.2.2.2.2.1,J.1.2.2.2.2.2.2.2,0,rfl,rfl,ad.1.1,ad.1.2,hr35,hr36,hr37,hr38,hr39,hr40,hr41,hr42,J0,h⟩ ?_;rintro ag _ _ ⟨L,N,W,X,Y,a2,a3,a4,a5,a6,O,rfl,rfl,bc,bd,ar,au,av,aw,ax,ay,az,b0,bx,h⟩;rcases ag with _|ag
 ·exact Vi h
 rw[F.aZ]at h;refine Js 1 ?_;refine Jw 1 [(84,.bool (decide (O<((List.take ((min (p.length:Int) 60).toNat) p).length:Int))))] (Jt 2 ?_);refine Vm h ?_ ?_<;>intro hb h
 ·refine Js 5 ?_;have⟨ae,be,h⟩:=Vu h;refine Vv 290 741 be fun bz=>?_;intro c0 c1;refine Jy [] [741] [.e 0 0,.n] [(16,.int .u8 (ae.toNat:Int))] (J7 3 ?_);refine Jy [247,248] [] [.n,.n,.b 0 0,.b 1 0] [(87,.slice A4 I.1.length c5),(89,(A.rae u.1)),(90,.agg #[A.i L,A.i N])] ?_;refine Vs 742 [] h (o_aD A4 c5 I.1 u.1 (L,N) ad.1.1 ad.1.2 bc bd) (.o 5 .nil) ?_;rintro bg - h _ _ ⟨bh,bi,rfl,rfl⟩;refine Vb ?_;refine Jw 1 [(92,.func (.func 18) #[] #[.pointer (some ⟨aj,0,none⟩)])] ?_;refine Vs 782 [] h (o_h bh bi aj bg (W,X,Y,a2,(a3,a4,a5,a6)) ar au av aw ax ay az b0) (.o 742 (.b 289 .nil)) ?_;rintro bj - h _ _ ⟨rfl,rfl⟩;refine Vb ?_;refine Jw 1 [(94,.bool (!bj))] (Jt 1 ?_);refine Ua h ?_ ?_<;>intro hb h
  ·refine Js 1 ?_;refine Jw 1 [(4,.bool false)] (Jt 1 ?_);obtain rfl:=J4 h;exact J5 [] ⟨rfl,rfl⟩
  refine Js 3 ?_;refine Jw 1 [(17,.slice none 0 0)] (J7 3 ?_);refine Jw 3 [(95,.slice an V.1.length ao),(96,A.i (V.1.length:Int)),(97,A.i 0)] (Jt 2 ?_);refine V4 830 T53 54 ?_;refine Vk [5,9,11,12,13,16,81,82,83,95,96] [2,3,5,205,247,248,289,290] (fun f nl nh=>∃(B:List D53),∃(a7:Int),∃(aa:Option Addr),∃(ab:Nat),nl=[(17,.slice aa B.length ab),(97,A.i a7)]∧nh=[(830,.own T53 54 aa ab B)]∧A.h6 a7∧F.aO (F.aZ p I V u ag) V L N W X Y a2 a3 a4 a5 a6 O ae f B a7=some r) ⟨[],0,none,0,rfl,rfl,J0,h⟩ ?_;rintro ak _ _ ⟨B,a7,aa,ab,rfl,rfl,c2,h⟩;rcases ak with _|ak
  ·exact Vi h
  rw[F.aO]at h;refine Js 1 ?_;refine Jw 1 [(98,.bool (decide (a7<(V.1.length:Int))))] (Jt 2 ?_);refine Vm h ?_ ?_<;>intro hb h
  ·refine V1 2 ?_;refine J2 [5,9,11,12,13,16,81,82,83,95,96,97] [2,3,5,205,247,248,289,290] (fun nl nh=>∃(af:List D53),∃(ah:Option Addr),∃(ai:Nat),nl=[(17,.slice ah af.length ai)]∧nh=[(830,.own T53 54 ah ai af)]∧F.cx (F.aO (F.aZ p I V u ag) V L N W X Y a2 a3 a4 a5 a6 O ae ak) a7 af=some r) ?_ ?_
   ·refine Js 2 ?_;have⟨a8,bk,h⟩:=Vu h;refine Uf 205 921 bk fun E=>?_;intro c3 c4;refine Jy [] [921] [.e 0 0] [(100,(A.rai a8))] ?_;refine J3 922 (cs:=l5d) Tryz.zeroValue54 fun c6=>?_;refine Vp 922 [] (A.rad a8) ?_;refine J7 2 ?_;refine Jy [922,248] [] [.n,.b 0 0,.b 1 0] [(102,(A.rae a8.1)),(103,.agg #[A.i L,A.i N])] ?_;refine Uy rfl (fun a w hf hh=>eqagg_eql40 (x:=a8.1) (y:=(L,N)) (hf.eval rfl) (hf.eval rfl)) ?_;refine Jt 1 ?_;refine Vm h ?_ ?_<;>intro hb h
    ·refine Js 0 ?_;refine Jy [922] [] [.n,.b 0 0] [(105,.slice aa B.length ab),(106,(A.rai a8))] ?_;refine Vq 923 (ty:=T53) (cs:=(A.rad a8)) [a8] ⟨⟨⟨⟨rfl,E.1.1⟩,⟨rfl,E.1.2⟩⟩,⟨⟨rfl,E.2.1.1⟩,⟨rfl,E.2.1.2⟩⟩,⟨⟨rfl,E.2.2.1⟩,⟨rfl,E.2.2.2.1⟩,⟨rfl,E.2.2.2.2.1⟩,⟨rfl,E.2.2.2.2.2.1⟩,⟨⟨rfl,E.2.2.2.2.2.2.1⟩,⟨rfl,E.2.2.2.2.2.2.2.1⟩,⟨rfl,E.2.2.2.2.2.2.2.2.1⟩,⟨rfl,E.2.2.2.2.2.2.2.2.2⟩⟩⟩⟩,rfl⟩ (fun c8=>?_) Tryz.zeroValue54 Tryz.sizeOf54
     have⟨hl101,h⟩:=Vl h;refine Vy (k:=830) [] (Ui (k:=923) rfl) inf54 hl101 fun b1 b2=>?_;refine Jw 1 [(17,.slice b1 ((B++[a8]).length) b2)] (Uc 1 ?_);exact Vf ⟨(B++[a8]),b1,b2,rfl,rfl,h⟩
    refine Vw 2 ?_;exact Vf ⟨B,aa,ab,rfl,rfl,h⟩
   rintro _ _ ⟨af,ah,ai,rfl,rfl,h⟩;rw[F.cx]at h;refine Js 0 ?_;have⟨b3,h⟩:=Vl h;refine V5 2 [Z.R64 (a7+1)] [(97,A.i (a7+1))] b3 (Ju ?_);exact Vf ⟨_,Qi _,⟨af,(a7+1),ah,ai,rfl,rfl,(Jz b3),h⟩⟩
  refine Js 4 ?_;refine Jw 3 [(112,.bool (decide ((B.length:Int)=0)))] (Jt 1 ?_);refine Vm h ?_ ?_<;>intro hb h
  ·refine Js 1 ?_;refine Jw 1 [(4,.bool true)] (Jt 1 ?_);obtain rfl:=J4 h;exact J5 [] ⟨rfl,rfl⟩
  refine Js 3 ?_;have⟨bl,h⟩:=Vl h;refine V5 6 [Z.R64 ((ae.toNat:Int)),(B.length:Int)≠0] [(113,.slice aa B.length ab),(118,A.i (Int.tmod (ae.toNat:Int) (B.length:Int)))] bl ?_;have⟨a9,bm,h⟩:=Vu h;refine Uf 830 924 bm fun U=>?_;intro c9 ca;refine Jy [] [924] [.e 0 0] [(120,(A.rai a9))] ?_;refine J3 925 (cs:=l5d) Tryz.zeroValue54 fun cb=>?_;refine Vp 925 [] (A.rad a9) ?_;refine J7 3 ?_;refine Jy [289,925] [] [.b 0 0,.n,.b 1 4] [(122,.agg #[A.i W,A.i X,A.i Y,A.i a2,A.i a3,A.i a4,A.i a5,A.i a6]),(124,(A.raf a9.2.2))] ?_;refine Vs 926 [] h (o_bD (W,X,Y,a2,(a3,a4,a5,a6)) a9.2.2 ar au av aw ax ay az b0 U.2.2.1 U.2.2.2.1 U.2.2.2.2.1 U.2.2.2.2.2.1 U.2.2.2.2.2.2.1 U.2.2.2.2.2.2.2.1 U.2.2.2.2.2.2.2.2.1 U.2.2.2.2.2.2.2.2.2) .nil ?_;rintro z - h _ _ ⟨rfl,rfl,hr111,hr112,hr113,hr114,hr115,hr116,hr117,hr118,hr119⟩;refine Vb ?_;refine Jw 3 [(126,(A.raf z.1)),(127,A.i z.2)] ?_;refine Vp 289 [] (A.rab z.1) ?_;refine Jw 1 [(6,A.i z.2)] (J7 2 ?_);refine Jw 2 [(129,.bool (decide (z.2≠0)))] (Jt 1 ?_);refine Vm h ?_ ?_<;>intro hb h
  ·refine Js 1 ?_;refine Jw 1 [(4,.bool true)] (Jt 1 ?_);obtain rfl:=J4 h;exact J5 [] ⟨rfl,rfl⟩
  refine Js 2 ?_;refine Jy [925] [] [.n,.b 0 2] [(131,(A.rae a9.2.1))] ?_;refine Vp 248 [] (A.raa a9.2.1) ?_;refine J7 2 ?_;have⟨b4,h⟩:=Vl h;refine V5 2 [Z.R64 (O+1)] [(83,A.i (O+1))] b4 (Ju ?_);exact Vf ⟨_,Qi _,⟨a9.2.1.1,a9.2.1.2,z.1.1,z.1.2.1,z.1.2.2.1,z.1.2.2.2.1,z.1.2.2.2.2.1,z.1.2.2.2.2.2.1,z.1.2.2.2.2.2.2.1,z.1.2.2.2.2.2.2.2,(O+1),rfl,rfl,U.2.1.1,U.2.1.2,hr111,hr112,hr113,hr114,hr115,hr116,hr117,hr118,(Jz b4),h⟩⟩
 refine Js 3 ?_;refine Jw 1 [(4,.bool true)] (Jt 1 ?_);obtain rfl:=J4 h;exact J5 [] ⟨rfl,rfl⟩
end Go.Proofs.YtlbnpmfggfbdoaaGreatDoor
end
section
namespace Go.Proofs.YtlbnpmfggfbdoaaGreatDoor
open Go.RowKit
def F.eA (a:D62):Nat→Int→Option Int
 |0,_=>none
 |f+1,e=>if e<4 then((A.ix [a.2.2.1,a.2.2.2.1,a.2.2.2.2.1,a.2.2.2.2.2] e).bind fun h=>(if(bif decide (h<0)then true else decide ((1048576:Int)<h))=true then(some 10)else(if(bif decide (a.2.1≤e)then decide (h≠0)else false)=true then(some 10)else(A.gd (Z.R64 (e+1)) ((F.eA a f) (e+1))))))else(some 0)
def F.eH (a:D62):Option Int:=if(bif bif bif decide (a.1<0)then true else decide ((1073741824:Int)<a.1)then true else decide (a.2.1<0)then true else decide ((4:Int)<a.2.1))=true then(some 10)else(F.eA a A.FU 0)
def F.eF (a:D44)(e:D62)(h:Int)(k:Int)(o:Int)(p:Int):Option (D62×Int):=some ((e.1,a.2.1+a.2.2.2.1,(h,k,o,p)),0)
def F.eK (a:D44)(h:D62):Option (D62×Int):=(F.az a).bind fun p=>(if(!p)=true then(some ((0,0,(0,0,0,0)),20))else((F.eH h).bind fun s=>(if s≠0 then((F.eH h).bind fun t=>(some ((0,0,(0,0,0,0)),t)))else(if h.2.1≠a.1 then(some ((0,0,(0,0,0,0)),11))else(A.gd (Z.R64 (a.2.1+a.2.2.2.1)) (A.gd (0≤a.2.1∧a.2.1≤4) (A.gd (0≤a.2.1∧a.2.1≤4) ((A.cp4 [0,0,0,0] [h.2.2.1,h.2.2.2.1,h.2.2.2.2.1,h.2.2.2.2.2] 0 a.2.1 a.2.1).bind fun o=>(A.gd (0≤a.2.1∧a.2.1≤4) (A.gd (0≤a.2.2.2.1∧a.2.2.2.1≤4) ((A.cp4 [o.1,o.2.1,o.2.2.1,o.2.2.2] [a.2.2.2.2.1,a.2.2.2.2.2.1,a.2.2.2.2.2.2.1,a.2.2.2.2.2.2.2] a.2.1 4 a.2.2.2.1).bind fun e=>(if(0:Int)<a.2.1 then(A.gd (Z.R64 (a.2.1-1)) ((A.ix [e.1,e.2.1,e.2.2.1,e.2.2.2] (a.2.1-1)).bind fun k=>(A.gd (Z.R64 (k+a.2.2.1)) ((A.ix [e.1,e.2.1,e.2.2.1,e.2.2.2] (a.2.1-1)).bind fun w=>(A.gd (Z.R64 (a.2.1-1)) ((A.ix [(if a.2.1-1=0 then k+a.2.2.1 else e.1),(if a.2.1-1=1 then k+a.2.2.1 else e.2.1),(if a.2.1-1=2 then k+a.2.2.1 else e.2.2.1),(if a.2.1-1=3 then k+a.2.2.1 else e.2.2.2)] (a.2.1-1)).bind fun u=>(if(1048576:Int)<u then(some ((0,0,(0,0,0,0)),12))else(F.eF a h (if a.2.1-1=0 then k+a.2.2.1 else e.1) (if a.2.1-1=1 then k+a.2.2.1 else e.2.1) (if a.2.1-1=2 then k+a.2.2.1 else e.2.2.1) (if a.2.1-1=3 then k+a.2.2.1 else e.2.2.2)))))))))else(F.eF a h e.1 e.2.1 e.2.2.1 e.2.2.2)))))))))))))
theorem eqq_summ_Apply:True:=(fun _=>trivial) @F.eK.eq_1
def F.ea (e:Int→Option Int)(a:Int)(h:Bool):Option Int:=if h=true then(some 10)else(A.gd (Z.R64 (a+1)) (e (a+1)))
def F.dB (a:D62):Nat→Int→Option Int
 |0,_=>none
 |f+1,e=>if e<4 then((A.ix [a.2.2.1,a.2.2.2.1,a.2.2.2.2.1,a.2.2.2.2.2] e).bind fun h=>(if h<0 then(F.ea (F.dB a f) e true)else((A.ix [a.2.2.1,a.2.2.2.1,a.2.2.2.2.1,a.2.2.2.2.2] e).bind fun k=>(if(1048576:Int)<k then(F.ea (F.dB a f) e true)else(if a.2.1≤e then((A.ix [a.2.2.1,a.2.2.2.1,a.2.2.2.2.1,a.2.2.2.2.2] e).bind fun o=>(F.ea (F.dB a f) e (decide (o≠0))))else(F.ea (F.dB a f) e false))))))else(some 0)
def F.eI (a:D62):Option Int:=if(bif bif bif decide (a.1<0)then true else decide ((1073741824:Int)<a.1)then true else decide (a.2.1<0)then true else decide ((4:Int)<a.2.1))=true then(some 10)else(F.dB a A.FU 0)
def F.eb (e:Int→Int→Int→Int→Int→Int→Int→Option (D62×Int))(h:Int)(k:Int)(a:Int)(o:Int)(p:Int)(s:Int)(t:Int):Option (D62×Int):=A.gd (Z.R64 (a+1)) (e h k o p s t (a+1))
def F.dC (e:D44)(h:D62):Nat→Int→Int→Int→Int→Int→Int→Int→Option (D62×Int)
 |0,_,_,_,_,_,_,_=>none
 |f+1,t,u,k,o,p,s,a=>if a<4 then(A.gd (Z.R64 (e.2.1-1)) (if a<e.2.1-1 then((A.ix [h.2.2.1,h.2.2.2.1,h.2.2.2.2.1,h.2.2.2.2.2] a).bind fun x=>((A.ix [k,o,p,s] a).bind fun B=>(F.eb (F.dC e h f) t u a (if a=0 then x else k) (if a=1 then x else o) (if a=2 then x else p) (if a=3 then x else s))))else(A.gd (Z.R64 (e.2.1-1)) (if a=e.2.1-1 then((A.ix [h.2.2.1,h.2.2.2.1,h.2.2.2.2.1,h.2.2.2.2.2] a).bind fun w=>(A.gd (Z.R64 (w+e.2.2.1)) ((A.ix [k,o,p,s] a).bind fun E=>(F.eb (F.dC e h f) t u a (if a=0 then w+e.2.2.1 else k) (if a=1 then w+e.2.2.1 else o) (if a=2 then w+e.2.2.1 else p) (if a=3 then w+e.2.2.1 else s)))))else(A.gd (Z.R64 (e.2.1+e.2.2.2.1)) (if a<e.2.1+e.2.2.2.1 then(A.gd (Z.R64 (a-e.2.1)) ((A.ix [e.2.2.2.2.1,e.2.2.2.2.2.1,e.2.2.2.2.2.2.1,e.2.2.2.2.2.2.2] (a-e.2.1)).bind fun y=>((A.ix [k,o,p,s] a).bind fun I=>(F.eb (F.dC e h f) t u a (if a=0 then y else k) (if a=1 then y else o) (if a=2 then y else p) (if a=3 then y else s)))))else((A.ix [k,o,p,s] a).bind fun J=>(F.eb (F.dC e h f) t u a (if a=0 then 0 else k) (if a=1 then 0 else o) (if a=2 then 0 else p) (if a=3 then 0 else s)))))))))else((F.eI (t,u,(k,o,p,s))).bind fun z=>(if z≠0 then(some ((0,0,(0,0,0,0)),12))else(some ((t,u,(k,o,p,s)),0))))
def F.eL (a:D44)(e:D62):Option (D62×Int):=(F.ac a).bind fun h=>(if h≠0 then(some ((0,0,(0,0,0,0)),h))else((F.eI e).bind fun k=>(if k≠0 then(some ((0,0,(0,0,0,0)),k))else(if e.2.1≠a.1 then(some ((0,0,(0,0,0,0)),11))else(A.gd (Z.R64 (a.2.1+a.2.2.2.1)) (F.dC a e A.FU e.1 (a.2.1+a.2.2.2.1) 0 0 0 0 0))))))
theorem eqq_R02_Apply:True:=(fun _=>trivial) @F.eL.eq_1
end Go.Proofs.YtlbnpmfggfbdoaaGreatDoor
end
section
namespace Go.A
open Go.RowKit Go.Z
section
variable {r:Option Nat}{P:Program}{ops:Array Oper}{Q:Exit→Act→World→Prop}{C:Cx}{l:List (Nat×Value)}{H Hq:List (Nat×Res)}{m f:Nat}{li:List Bool}
end
end Go.A
end
section
namespace Go.Proofs.YtlbnpmfggfbdoaaGreatDoor
open Go.RowKit
end Go.Proofs.YtlbnpmfggfbdoaaGreatDoor
end
section
end
section
namespace Go.A
open Go.RowKit Go.Z Go.Shelf Go.Proofs Go.Lib
def Hall (W:World):List (Nat×Res)→Prop
 | []=>True
 |p::H=>(p.2.bl=[]∧p.2.ref=none∧p.2.holds W (fun _=>True) (fun _ _=>False))∧Hall W H
theorem Hall.at {W:World}: ∀{H:List (Nat×Res)} {k:Nat} {r:Res},Hall W H→hk H k=some r→r.bl=[]∧r.ref=none∧r.holds W (fun _=>True) (fun _ _=>False)
 | [],_,_,_,h=>by cases h
 |(d,u)::H,k,r,I,h=>by
  rw[Qaa]at h
  split at h
  ·injection h with h;subst h;exact I.1
  ·exact I.2.at h
theorem Hp.start {W:World}{H:List (Nat×Res)}(h:Hall W H):Hp ⟨0,[],W,[],fun _=>True⟩ H W:=by
 have I: ∀k b,¬Bk H k b:=fun k b ⟨r,Y,N⟩=>by rw[(h.at Y).1]at N;cases N
 refine⟨Ch.refl W,fun k r hk=>?_,fun k b J=>(I k b J).elim,fun k k' b J=>(I k b J).elim,fun k r j hk O=>?_⟩
 ·exact Res.to (S:=[]) (h.at hk).2.2 (Ch.refl W) (fun b _ _=>⟨by simp,fun k=>I k b,.inl trivial⟩) (fun b _ _=>⟨by simp,fun k=>I k b⟩) (fun i b _ hf=>hf.elim) (by simp)
 ·rw[(h.at hk).2.1]at O;cases O
theorem Hall.sh {W:World}{t:Ty}{cs:List Value}{x:t.den}{F:Nat→Prop}(h:t.rep W F cs x):(Res.sh t cs x).bl=[]∧(Res.sh t cs x).ref=none∧(Res.sh t cs x).holds W (fun _=>True) (fun _ _=>False):=
 ⟨rfl,rfl,Qcp h fun _ _ _=>trivial⟩
def putCells (cs:List Value):Obj→Obj
 | .cells _ t frozen=>.cells cs.toArray t frozen
 |o=>o
theorem tab_cells {w:World}{O W:Nat}(h:Lib.Utf8Tabs O W w):Cells w ⟨O,0,none⟩ tabF∧Cells w ⟨W,0,none⟩ tabA:=by
 constructor
 ·intro j u I
  rw[Addr.add_lit,Wc]
  have N:j<256:=by have:=(Qc.1 I).1;simpa[tabF] using this
  have e:tabF[j]?=some (.int .u8 (firstT j)):=by simp[tabF,N]
  rw[e]at I;injection I with I;subst I
  exact h.1 j N
 ·intro j u I
  rw[Addr.add_lit,Wc]
  have N:j<32:=by have:=(Qc.1 I).1;simpa[tabA] using this
  have e:tabA[j]?=some (.int .u8 (if j%2=0 then accLo (j / 2)else accHi (j / 2))):=by simp[tabA,N]
  rw[e]at I;injection I with I;subst I
  have:=h.2 (j / 2) (by omega)
  by_cases Y:j%2=0
  ·rw[if_pos Y]
   have J:j=2*(j / 2):=by omega
   rw[J];simpa using this.1
  ·rw[if_neg Y]
   have J:j=2*(j / 2)+1:=by omega
   have h3:(2*(j / 2)+1) / 2=j / 2:=by omega
   rw[J,h3];exact this.2
theorem Hall.tabs {w:World}{I J i j:Nat}(h:Lib.Utf8Tabs I J w):Hall w [(i,.el none I 0 tabF),(j,.el none J 0 tabA)]:=by
 obtain⟨N,O⟩:=tab_cells h
 exact⟨⟨rfl,rfl,N,World.block_lt_of_cell? w _ (N 0 (.int .u8 (firstT 0)) (by simp[tabF])),fun _ h=>h⟩,⟨rfl,rfl,O,World.block_lt_of_cell? w _ (O 0 (.int .u8 (accLo 0)) (by simp[tabA])),fun _ h=>h⟩,trivial⟩
end Go.A
end
section
namespace Go.Graph
abbrev Fun:=Int×Int×ByteArray
abbrev Nd:=Int×Int×List Int×Fun×ByteArray×Int×Int
abbrev Pl:=Int×Int
abbrev Sp:=Pl×Int
abbrev id (x:Nd):Int:=x.1
abbrev kind (x:Nd):Int:=x.2.1
abbrev ins (x:Nd):List Int:=x.2.2.1
abbrev fn (x:Nd):Fun:=x.2.2.2.1
abbrev name (x:Nd):ByteArray:=x.2.2.2.2.1
abbrev cap (x:Nd):Int:=x.2.2.2.2.2.1
abbrev dep (x:Nd):Int:=x.2.2.2.2.2.2
def Few (g:List Nd):Prop:=g.length≤40∧∀x,x∈g→x.2.2.1.length≤5000∧x.2.2.2.2.1.size≤5000∧x.2.2.2.1.2.2.size≤5000
theorem Few.in {g:List Nd}{k:Nat}{x:Nd}(h:Few g)(I:g[k]?=some x):x.2.2.1.length≤5000:=(h.2 x (Qg I)).1
theorem dropc {α:Type}{xs:List α}{k:Nat}{x:α}(h:xs[k]?=some x):xs.drop k=x::xs.drop (k+1):=by
 obtain⟨I,J⟩:=Qc.1 h
 rw[Xw I,J]
def insK (k:Int):Int:=if k<1∨16<k then-1 else if k=1 then 0 else if k=5∨k=9 then 2 else 1
def Qat (c:UInt8):Bool:=decide ((97:Int)≤(c.toNat:Int)∧(c.toNat:Int)≤122∨(65:Int)≤(c.toNat:Int)∧(c.toNat:Int)≤90)
def Qgj (c:UInt8):Bool:=decide ((48:Int)≤(c.toNat:Int)∧(c.toNat:Int)≤57)
def Qcj (l:List UInt8):Bool:=l.all fun c=>Qat c||Qgj c
def named (s:ByteArray):Bool:=decide (s≠ByteArray.mk #[])&&decide ((s.size:Int)≤16)&&Qat (Z.bat s 0)&&Qcj s.data.toList
theorem Qgf {s:ByteArray}{i:Nat}(h:i<s.size):s.data.toList.drop i=Z.bat s i::s.data.toList.drop (i+1):=by
 have h':i<s.data.toList.length:=by simpa using h
 rw[Xw h']
 have I:i<s.data.size:=h
 congr 1
 simp[Z.bat,Wg I]
theorem Qfx {s:ByteArray}{i:Nat}(h: ¬i<s.size):s.data.toList.drop i=[]:=
 Q2 (by have I:s.data.toList.length=s.size:=rfl;omega)
theorem Qfo {s:ByteArray}(h:s≠ByteArray.mk #[]):0<s.size:=by
 rcases Nat.eq_zero_or_pos s.size with I|I
 ·have J:s.data=#[]:=Array.eq_empty_of_size_eq_zero I
  exact absurd (by cases s;simp_all) h
 ·exact I
def idxF (id:Int):Nat→List Nd→Int
 |_,[]=> -1
 |k,x::r=>if x.1=id then(k:Int)else idxF id (k+1) r
def idx (g:List Nd)(id:Int):Int:=idxF id 0 g
def Qcd (kd:Int)(s:ByteArray):List Nd→Int×Bool
 | []=>(0,false)
 |x::r=>if kind x=kd∧name x=s then(x.1,true)else Qcd kd s r
def z0:Nd:=(0,0,[],(0,0,ByteArray.mk #[]),ByteArray.mk #[],0,0)
def at_ (g:List Nd)(i:Int):Nd:=(g[i.toNat]?).getD z0
def find (g:List Nd)(id:Int):Nd×Bool:=if idx g id<0 then(z0,false)else(at_ g (idx g id),true)
theorem idxF_le (id:Int): ∀(k:Nat) (g:List Nd),-1≤idxF id k g∧idxF id k g<k+g.length
 |k,[]=>by simp[idxF];omega
 |k,x::r=>by
  unfold idxF
  have:=idxF_le id (k+1) r
  by_cases h:x.1=id
  ·rw[if_pos h];simp only[Qh];omega
  ·rw[if_neg h];simp only[Qh];omega
theorem idx_le (g:List Nd)(id:Int): -1≤idx g id∧idx g id<g.length:=by
 have:=idxF_le id 0 g
 unfold idx;omega
theorem Qav {g:List Nd}{i:Int}{x:Nd}{k:Nat}(hk:i=(k:Int))(h:g[k]?=some x):at_ g i=x:=by
 subst hk;simp[at_,h]
def ownT (g:List Nd)(n:Nd):Bool:=if n.2.1≠1∧n.2.1≠15 then decide (n.2.2.2.2.1=ByteArray.mk #[])else named n.2.2.2.2.1&&decide ((Qcd n.2.1 n.2.2.2.2.1 g).1=n.1)
def ownC (n:Nd):Prop:=n.2.1=14∧(n.2.2.2.2.2.1<1∨8<n.2.2.2.2.2.1∨n.2.2.2.2.2.2<1∨4<n.2.2.2.2.2.2)∨n.2.1≠14∧(n.2.2.2.2.2.1≠0∨n.2.2.2.2.2.2≠0)
instance (n:Nd):Decidable (ownC n):=by unfold ownC;infer_instance
def own (g:List Nd)(i:Int)(n:Nd):Bool:=
 if n.1<1∨255<n.1∨0<i∧n.1≤(at_ g (i-1)).1∨insK n.2.1<0∨(n.2.2.1.length:Int)≠insK n.2.1 then false else if ownC n then false else ownT g n
def bget (l:List Bool)(i:Int):Bool:=(l[i.toNat]?).getD false
def iget (l:List Int)(i:Int):Int:=(l[i.toNat]?).getD 0
def Fed (g:List Nd):Prop:=∀x,x∈g→∀k,k∈x.2.2.1→0≤idx g k
def Qdt (g:List Nd)(done:List Bool)(kd:Int):List Int→Bool
 | []=>true
 |k::r=>if kd≠14∧bget done (idx g k)=false then false else Qdt g done kd r
def ready (g:List Nd)(done:List Bool)(n:Nd):Bool:=Qdt g done n.2.1 n.2.2.1
def Qad (g:List Nd)(done:List Bool):Nat→List Nd→Int→Int
 |_,[],a=>a
 |i,x::r,a=>Qad g done (i+1) r (if(a<0∧bget done i=false)∧ready g done x=true then i else a)
def Qaq (g:List Nd):Nat→List Bool→List Int→Option (List Int)
 |0,_,l=>some l
 |f+1,done,l=>if Qad g done 0 g (-1)<0 then none else Qaq g f (done.set (Qad g done 0 g (-1)).toNat true) (l++[Qad g done 0 g (-1)])
def d0:List Int→Int
 | []=>0
 |a::_=>a
def capd (d:Int):Int:=if 4<d then-1 else d
def Qcr (n:Nd)(l:List Int):Int:=if n.2.1=14 then n.2.2.2.2.2.2 else if n.2.1=12 then d0 l+1 else if n.2.1=13 then d0 l-1 else
 if n.2.1=5∨n.2.1=9 then(if iget l 0≠iget l 1 then-1 else d0 l)else if n.2.1=11∨n.2.1=16∨n.2.1=15 then(if d0 l≠0 then-1 else d0 l)else d0 l
def depthOf (n:Nd)(l:List Int):Int:=capd (Qcr n l)
theorem Qil {l:List Int}:iget l 0=d0 l:=by cases l<;>rfl
theorem d0_nil {l:List Int}(h:l.length=0):0=d0 l:=by cases l with
 |nil=>rfl
 |cons a r=>simp at h
def Qal (g:List Nd):List Int→List Int→Option (List Int)
 | [],d=>some d
 |p::r,d=>if depthOf (at_ g p) ((at_ g p).2.2.1.map fun k=>iget d (idx g k))<0 then none else Qal g r (d.set p.toNat (depthOf (at_ g p) ((at_ g p).2.2.1.map fun k=>iget d (idx g k))))
def Qbc (g:List Nd)(d:List Int):List Nd→Bool
 | []=>true
 |x::r=>if x.2.1=14∧iget d (idx g (iget x.2.2.1 0))≠x.2.2.2.2.2.2 then false else Qbc g d r
theorem Qdz (g:List Nd)(done:List Bool): ∀(i:Nat) (l:List Nd) (a:Int),-1≤a→a<i+l.length→ -1≤Qad g done i l a∧Qad g done i l a<i+l.length
 |i,[],a,J,I=>by simp[Qad]at*;omega
 |i,x::r,a,J,I=>by
  unfold Qad
  simp only[Qh]at I ⊢
  have:=Qdz g done (i+1) r (if(a<0∧bget done i=false)∧ready g done x=true then i else a) (by split<;>omega) (by split<;>omega)
  omega
theorem firstF_x {g:List Nd}{done:List Bool}{k:Nat}{a:Int}{x:Nd}(I:g[k]?=some x):Qad g done k (g.drop k) a=Qad g done (k+1) (g.drop (k+1)) (if(a<0∧bget done k=false)∧ready g done x=true then k else a):=by
 rw[dropc I];simp only[Qad]
def depths (g:List Nd)(l:List Int):List Int×Bool:=match Qal g l (List.replicate g.length 0)with
 |some d=>if Qbc g d g then(d,true)else([],false)
 |none=>([],false)
abbrev inD (g:List Nd) (d:List Int) (l:List Int):List Int:=l.map fun k=>iget d (idx g k)
def InB (d:List Int):Prop:=∀i,0≤iget d i∧iget d i≤4
theorem InB.rep (n:Nat):InB (List.replicate n 0):=fun i=>by
 unfold iget;rw[Xa];split<;>simp
theorem Qes (n:Nd)(l:List Int):depthOf n l≤4:=by unfold depthOf capd;split<;>omega
theorem InB.set {d:List Int}(h:InB d)(p:Nat){v:Int}(I:0≤v)(J:v≤4):InB (d.set p v):=fun i=>by
 unfold iget;rw[Y9]
 have:=h i
 unfold iget at this
 split
 ·split<;>simp<;>omega
 ·exact this
theorem InB.d0 {d:List Int}(h:InB d)(g:List Nd)(l:List Int): -1≤Graph.d0 (inD g d l)∧Graph.d0 (inD g d l)≤4:=by
 cases l with
 |nil=>simp[Graph.d0]
 |cons k r=>have:=h (idx g k);simp only[inD,Q3,Graph.d0];omega
theorem inD_take {g:List Nd}{d l:List Int}{k:Nat}{x:Int}(h:l[k]?=some x):inD g d (l.take k)++[iget d (idx g x)]=inD g d (l.take (k+1)):=by
 have I:=(Qc.1 h)
 rw[Yk,h];simp[inD]
theorem depthsF_x {g:List Nd}{l d:List Int}{k:Nat}{p:Int}{n:Nd}(hp:l[k]?=some p)(I:at_ g p=n):Qal g (l.drop k) d=if depthOf n (inD g d n.2.2.1)<0 then none else Qal g (l.drop (k+1)) (d.set p.toNat (depthOf n (inD g d n.2.2.1))):=by
 rw[dropc hp];simp only[Qal,I,inD]
def insS (g:List Nd)(d:List Int)(id:Int):Nat→List Int→List Sp
 |_,[]=>[]
 |k,x::r=>((id,(k:Int)),iget d (idx g x))::insS g d id (k+1) r
def outS (n:Nd)(v:Int):List Sp:=if n.2.1≠15 then [((n.1,2),v)]else []
def spotsF (g:List Nd)(d:List Int):Nat→List Nd→List Sp
 |_,[]=>[]
 |i,n::r=>insS g d n.1 0 n.2.2.1++(outS n (iget d i)++spotsF g d (i+1) r)
def spots (g:List Nd)(d:List Int):List Sp:=spotsF g d 0 g
def atS (p:Pl):List Sp→Int
 | []=> -1
 |x::r=>if x.1=p then x.2 else atS p r
abbrev Sm:=Int×Int×Int×Int×(Int×Int×Int×Int)
def z8:Sm:=(0,0,0,0,(0,0,0,0))
def Qbl (d a b:Int)(s:Sm):Sm×Int:=if d<a∨b<d then(z8,11)else((d,s.2),0)
def idP (d:Int):Sm×Int:=Qbl d 0 4 (0,d,0,0,(0,0,0,0))
def Qap (d:Int):Sm×Int:=Qbl d 0 3 (0,d,0,1,(0,0,0,0))
def Qas (d:Int):Sm×Int:=Qbl d 1 4 (0,d-1,0,0,(0,0,0,0))
def Qci (d:Int):Sm×Int:=Qbl d 1 4 (0,d,1,0,(0,0,0,0))
def Qaj (n:Nd)(d:Int):Sm:=if n.2.1=12 then(Qap d).1 else if n.2.1=13 then(Qas d).1 else if n.2.1=14 then(Qci d).1 else(idP d).1
theorem Qhh (s:ByteArray)(pos:Nat):1≤(Utf8.decode s pos).2:=by
 unfold Utf8.decode;simp only[];repeat' split
 all_goals first|exact Q1 1|(simp;done)|omega
def Qco (f:Fun):Bool:=if f.1=3∨f.1=13 then decide (0≤f.2.1∧f.2.1≤64)else if f.1=6∨f.1=11 then decide (1≤f.2.1∧f.2.1≤1048576)else decide (f.2.1=0)
def tail5 (c:UInt8):Bool:=decide (128≤(c.toNat:Int)∧(c.toNat:Int)≤191)
def second (s:ByteArray)(i:Nat):UInt8:=if i+1<s.size then Z.bat s (i+1)else 0
end Go.Graph
end
section
namespace Go.A
open Go.Z
theorem r64n {n:Nat}(h:n<4611686018427387904):R64 ((n:Int)+1):=⟨by omega,by omega⟩
theorem gd1 {α:Type}{p:Prop}[Decidable p](h:p)(x:Option α):gd p x=x:=if_pos h
theorem ixn {α:Type}{xs:List α}{k:Nat}{x:α}(h:xs[k]?=some x):ix xs (k:Int)=some x:=by rw[ix_nat];exact h
theorem ixg {α:Type}{xs:List α}{i:Int}{x:α}(I:0≤i)(h:xs[i.toNat]?=some x):ix xs i=some x:=by unfold ix;rw[if_neg (by omega)];exact h
theorem dropx {α:Type}{xs:List α}{k:Nat}{x:α}(h:xs[k]?=some x):xs.drop k=x::xs.drop (k+1):=by
 obtain⟨I,J⟩:=Qc.1 h
 rw[Xw I,J]
theorem ba {p q:Prop}[Decidable p][Decidable q]:(bif decide p then decide q else false)=decide (p∧q):=by by_cases h:p<;>simp[h]
theorem bo {p q:Prop}[Decidable p][Decidable q]:(bif decide p then true else decide q)=decide (p∨q):=by by_cases h:p<;>simp[h]
theorem bn {p:Prop}[Decidable p]:(!decide p)=decide (¬p):=by by_cases h:p<;>simp[h]
theorem lp {α σ ρ:Type}(xs:List α)(L:Nat→σ→Int→Option ρ)(G:Nat→List α→σ→Option ρ)(P:Nat→σ→Prop)
  (J: ∀f s,P xs.length s→L (f+1) s (xs.length:Int)=G xs.length [] s)
  (N: ∀f s (k:Nat) x,xs[k]?=some x→k<xs.length→P k s→(∀s',P (k+1) s'→L f s' ((k:Int)+1)=G (k+1) (xs.drop (k+1)) s')→L (f+1) s k=G k (x::xs.drop (k+1)) s)
  (O:xs.length<FU) (s:σ) (W:P 0 s):L FU s 0=G 0 xs s:=by
 have main: ∀(n k f:Nat) (s:σ),k+n=xs.length→n<f→P k s→L f s (k:Int)=G k (xs.drop k) s:=by
  intro n
  induction n with
  |zero=>
   intro k f s hk Y hp
   obtain⟨f,rfl⟩: ∃f',f=f'+1:=⟨f-1,by omega⟩
   obtain rfl:k=xs.length:=by omega
   rw[Q2 (Q1 _)];exact J f s hp
  |succ n ih=>
   intro k f s hk Y hp
   obtain⟨f,rfl⟩: ∃f',f=f'+1:=⟨f-1,by omega⟩
   have I:xs[k]?=some xs[k]:=Qd (by omega)
   rw[dropx I]
   exact N f s k _ I (by omega) hp fun s' hp'=>ih (k+1) f s' (by omega) (by omega) hp'
 have:=main xs.length 0 FU s (by omega) O W
 simpa using this
theorem lp0 {α ρ:Type}(xs:List α)(L:Nat→Int→Option ρ)(G:Nat→List α→Option ρ)
  (I: ∀f,L (f+1) (xs.length:Int)=G xs.length [])
  (J: ∀f (k:Nat) x,xs[k]?=some x→k<xs.length→L f ((k:Int)+1)=G (k+1) (xs.drop (k+1))→L (f+1) k=G k (x::xs.drop (k+1)))
  (N:xs.length<FU):L FU 0=G 0 xs:=
 lp xs (fun f (_:Unit) y=>L f y) (fun k l _=>G k l) (fun _ _=>True) (fun f s _=>I f) (fun f s k x O hk _ W=>J f k x O hk (W () trivial)) N () trivial
end Go.A
namespace Go.Proofs.YtlbnpmfggfbdoaaGreatDoor
open Go.RowKit Go.Graph
theorem Qab:(18446744073709551616:Nat)<A.FU:=by decide
theorem ixb {s:ByteArray}{k:Nat}(h:k<s.size):A.ix s.data.toList (k:Int)=some (Z.bat s k):=by
 refine A.ixn ?_
 have:=Qgf h
 rw[←List.head?_drop,this];rfl
theorem Qdg (s:ByteArray):s.data.toList.length=s.size:=rfl
end Go.Proofs.YtlbnpmfggfbdoaaGreatDoor
end
section
namespace Go.Proofs.YtlbnpmfggfbdoaaGreatDoor
open Go.RowKit Go.Graph
abbrev Tm:=Int×Int×(Int×Int×Int×Int)
def pus (s:Sm):List Int:=[s.2.2.2.2.1,s.2.2.2.2.2.1,s.2.2.2.2.2.2.1,s.2.2.2.2.2.2.2]
structure OkS (s:Sm):Prop where
 f:0≤s.1∧s.1≤4
 n:0≤s.2.2.2.1∧s.2.2.2.1≤4
 k:0≤s.2.1∧s.2.1≤s.1
 kn:s.2.1+s.2.2.2.1≤4
 a:0≤s.2.2.1∧s.2.2.1≤1048576
 k0:s.2.1=0→s.2.2.1=0
 p: ∀(i:Nat) (x:Int),(pus s)[i]?=some x→0≤x∧x≤1048576∧(s.2.2.2.1≤(i:Int)→x=0)
theorem ix4 {a b c d i:Int}(h:0≤i∧i<4): ∃x,A.ix [a,b,c,d] i=some x∧[a,b,c,d][i.toNat]?=some x:=by
 have:i=0∨i=1∨i=2∨i=3:=by omega
 rcases this with rfl|rfl|rfl|rfl
 ·exact⟨a,rfl,rfl⟩
 ·exact⟨b,rfl,rfl⟩
 ·exact⟨c,rfl,rfl⟩
 ·exact⟨d,rfl,rfl⟩
def pok (n:Int):Nat→List Int→Bool
 |_,[]=>true
 |k,x::r=>decide (0≤x∧x≤1048576∧(n≤(k:Int)→x=0))&&pok n (k+1) r
theorem Qdr (n:Int): ∀(k:Nat) (l:List Int),pok n k l=true↔∀(i:Nat) (x:Int),l[i]?=some x→0≤x∧x≤1048576∧(n≤((k+i:Nat):Int)→x=0)
 |_,[]=>by simp[pok]
 |k,y::r=>by
  rw[pok,Ql,decide_eq_true_iff,Qdr n (k+1) r]
  constructor
  ·intro ⟨J,N⟩ i x I
   cases i with
   |zero=>simp at I;subst I;exact J
   |succ i=>
    have:=N i x (by simpa using I)
    rw[show k+1+i=k+(i+1) by omega]at this;exact this
  ·intro h
   refine⟨h 0 y rfl,fun i x I=>?_⟩
   have:=h (i+1) x (by simpa using I)
   rw[show k+1+i=k+(i+1) by omega];exact this
theorem Check_l2 (a:Sm):F.a1 a A.FU 0=some (if pok a.2.2.2.1 0 (pus a)=true then 0 else 20):=
 A.lp0 (pus a) (fun f z=>F.a1 a f z) (fun k l=>some (if pok a.2.2.2.1 k l=true then 0 else 20))
  (fun f=>by rw[F.a1,if_neg (by show ¬((4:Nat):Int)<4;omega)];rfl)
  (fun f k x Y hk N=>by
   have hk4:k<4:=hk
   rw[F.a1,if_pos (by omega),show A.ix [a.2.2.2.2.1,a.2.2.2.2.2.1,a.2.2.2.2.2.2.1,a.2.2.2.2.2.2.2] (k:Int)=some x from A.ixn Y]
   simp only[Qa,F.ct]
   rw[pok]
   by_cases O:x<0
   ·rw[if_pos O,if_pos trivial,if_neg (by simp;intro;omega)]
   rw[if_neg O]
   by_cases W:(1048576:Int)<x
   ·rw[if_pos W,if_pos trivial,if_neg (by simp;intro;omega)]
   rw[if_neg W]
   by_cases I:a.2.2.2.1≤(k:Int)
   ·rw[if_pos I]
    by_cases J:x=0
    ·rw[if_neg (by simp[J]),A.gd1 (A.r64n (by omega)),N]
     rw[decide_eq_true (by omega:0≤x∧x≤1048576∧(a.2.2.2.1≤(k:Int)→x=0)),Xm]
    ·rw[if_pos (by simp[J]),if_neg (by simp only[Ql,decide_eq_true_eq];intro ⟨⟨_,_,h⟩,_⟩;exact J (h I))]
   ·rw[if_neg I,if_neg (by simp),A.gd1 (A.r64n (by omega)),N]
    rw[decide_eq_true (by omega:0≤x∧x≤1048576∧(a.2.2.2.1≤(k:Int)→x=0)),Xm])
  (by show 4<A.FU;decide)
theorem Qdq (s:Sm):(F.ac s=some 0∧OkS s)∨(F.ac s=some 20∧¬OkS s):=by
 unfold F.ac
 simp only[A.bo]
 rw[A.gd1 (fun h=>by have:=of_decide_eq_false h;exact⟨by omega,by omega⟩)]
 split
 ·rename_i h
  have h:=of_decide_eq_true h
  exact .inr ⟨rfl,fun o=>by have:=o.f;have:=o.n;have:=o.k;have:=o.kn;have:=o.a;omega⟩
 ·rename_i h
  have O:=of_decide_eq_false (Ym.2 h)
  split
  ·rename_i I
   simp only[A.ba,decide_eq_true_eq]at I
   exact .inr ⟨rfl,fun o=>I.2 (o.k0 I.1)⟩
  ·rename_i I
   simp only[A.ba,decide_eq_true_eq]at I
   rw[Check_l2]
   by_cases hp:pok s.2.2.2.1 0 (pus s)=true
   ·rw[if_pos hp]
    refine .inl ⟨rfl,⟨by omega,by omega,by omega,by omega,by omega,fun h=>Wb fun N=>I ⟨h,N⟩,fun i x J=>?_⟩⟩
    have:=(Qdr _ 0 _).1 hp i x J
    rw[Wc]at this;exact this
   ·rw[if_neg hp]
    refine .inr ⟨rfl,fun o=>hp ((Qdr _ 0 _).2 fun i x J=>?_)⟩
    rw[Wc];exact o.p i x J
theorem o_f {s:Sm}(h:OkS s):F.ac s=some 0:=(Qdq s).elim (fun h=>h.1) fun I=>absurd h I.2
structure Th (a b s:Sm):Prop where
 from_:s.1=a.1
 keep:s.2.1=min a.2.1 b.2.1
 add:s.2.2.1=(if a.2.1≤b.2.1 then a.2.2.1 else 0)+(if b.2.1≤a.2.1 then b.2.2.1 else 0)
 ends:s.2.1+s.2.2.2.1=b.2.1+b.2.2.2.1
end Go.Proofs.YtlbnpmfggfbdoaaGreatDoor
end
section
namespace Go.A
theorem fst {α:Type}(l:List α)(p:α→Bool)(L:Nat→Int→Option Int)(O: ∀f,L (f+1) (l.length:Int)=some (-1))
  (W: ∀f (k:Nat) x,l[k]?=some x→k<l.length→L (f+1) (k:Int)=if p x=true then some (k:Int)else L f ((k:Int)+1)) (Y:l.length<FU):
  (L FU 0=some (-1)∧∀x∈l,p x=false)∨∃(k:Nat) (x:α),l[k]?=some x∧L FU 0=some (k:Int)∧p x=true∧∀y∈l.take k,p y=false:=by
 have main: ∀(n k f:Nat),k+n=l.length→n<f→(∀y∈l.take k,p y=false)→(L f (k:Int)=some (-1)∧∀x∈l,p x=false)∨∃(i:Nat) (x:α),l[i]?=some x∧L f (k:Int)=some (i:Int)∧p x=true∧∀y∈l.take i,p y=false:=by
  intro n
  induction n with
  |zero=>
   intro k f hk hf hp
   obtain⟨f,rfl⟩: ∃f',f=f'+1:=⟨f-1,by omega⟩
   obtain rfl:k=l.length:=by omega
   rw[W6 (Q1 _)]at hp
   exact .inl ⟨O f,hp⟩
  |succ n ih=>
   intro k f hk hf hp
   obtain⟨f,rfl⟩: ∃f',f=f'+1:=⟨f-1,by omega⟩
   have I:l[k]?=some l[k]:=Qd (by omega)
   rw[W f k _ I (by omega)]
   cases J:p l[k]with
   |true=>rw[if_pos rfl];exact .inr ⟨k,_,I,rfl,J,hp⟩
   |false=>
    rw[if_neg Wm]
    refine ih (k+1) f (by omega) (by omega) fun y N=>?_
    rw[Yk,I]at N
    rcases Qn.1 N with h|h
    ·exact hp y h
    ·rw[Option.toList_some,Qj]at h;rw[h];exact J
 exact main l.length 0 FU (by omega) Y (by simp)
theorem eql {α:Type}[DecidableEq α](a b:List α)(L:Nat→Int→Option Bool)(hlen:a.length=b.length)(J: ∀f,L (f+1) (a.length:Int)=some true)
  (N: ∀f (k:Nat) x z,a[k]?=some x→b[k]?=some z→k<a.length→L (f+1) k=if x=z then L f ((k:Int)+1)else some false) (O:a.length<FU):L FU 0=some (decide (a=b)):=by
 have:=lp0 a L (fun k l=>some (decide (l=b.drop k)))
  (fun f=>by rw[J,hlen,Q2 (Q1 _)];rfl)
  (fun f k x W hk Y=>by
   have I:b[k]?=some b[k]:=Qd (by omega)
   rw[N f k x _ W I hk,Y,dropx I]
   by_cases h:x=b[k]
   ·rw[if_pos h];congr 1;exact decide_eq_decide.2 ⟨fun e=>by rw[h,e],fun e=>(List.cons.inj e).2⟩
   ·rw[if_neg h];congr 1;exact(decide_eq_false (fun e=>h (List.cons.inj e).1)).symm)
  O
 rw[Wa]at this;exact this
end Go.A
namespace Go.Proofs.YtlbnpmfggfbdoaaGreatDoor
open Go.RowKit Go.Graph
theorem may_l2 (a:Sm):F.cn a A.FU 0=some (pok a.2.2.2.1 0 (pus a)):=
 A.lp0 (pus a) (fun f z=>F.cn a f z) (fun k l=>some (pok a.2.2.2.1 k l))
  (fun f=>by rw[F.cn,if_neg (by show ¬((4:Nat):Int)<4;omega)];rfl)
  (fun f k x N hk O=>by
   have W:k<4:=hk
   rw[F.cn,if_pos (by omega),show A.ix [a.2.2.2.2.1,a.2.2.2.2.2.1,a.2.2.2.2.2.2.1,a.2.2.2.2.2.2.2] (k:Int)=some x from A.ixn N]
   simp only[Qa,F.db,A.ba]
   rw[pok,A.gd1 (A.r64n (by omega)),O]
   by_cases I:0≤x∧x≤1048576
   ·rw[decide_eq_true I,if_neg (by decide)]
    by_cases J:a.2.2.2.1≤(k:Int)∧x≠0
    ·rw[if_pos (decide_eq_true J),decide_eq_false (fun h=>J.2 (h.2.2 J.1)),Y1]
    ·rw[if_neg (by rw[decide_eq_true_iff];exact J),decide_eq_true (p:=0≤x∧x≤1048576∧(a.2.2.2.1≤(k:Int)→x=0)) ⟨I.1,I.2,fun h=>Wb fun Y=>J ⟨h,Y⟩⟩,Xm]
   ·rw[decide_eq_false I,if_pos (by decide),decide_eq_false (fun h=>I ⟨h.1,h.2.1⟩),Y1])
  (by show 4<A.FU;decide)
theorem may_cases (s:Sm):(F.az s=some true∧OkS s)∨(F.az s=some false∧¬OkS s):=by
 unfold F.az F.cm
 simp only[A.bo,A.ba,F.db,Qa]
 split
 ·rename_i h
  have h:=of_decide_eq_true h
  exact .inr ⟨rfl,fun o=>by have:=o.f;omega⟩
 rename_i W
 have W:=of_decide_eq_false (Ym.2 W)
 split
 ·rename_i h
  have h:=of_decide_eq_true h
  exact .inr ⟨rfl,fun o=>by have:=o.n;omega⟩
 rename_i Y
 have Y:=of_decide_eq_false (Ym.2 Y)
 rw[A.gd1 (fun h=>by have:=of_decide_eq_false h;exact⟨by omega,by omega⟩)]
 split
 ·rename_i h
  have h:=of_decide_eq_true h
  exact .inr ⟨rfl,fun o=>by have:=o.k;have:=o.kn;omega⟩
 rename_i I
 have I:=of_decide_eq_false (Ym.2 I)
 by_cases J:0≤s.2.2.1∧s.2.2.1≤1048576
 case neg=>rw[decide_eq_false J,if_pos (by decide)];exact .inr ⟨rfl,fun o=>J o.a⟩
 rw[decide_eq_true J,if_neg (by decide)]
 split
 ·rename_i h
  have h:=of_decide_eq_true h
  exact .inr ⟨rfl,fun o=>h.2 (o.k0 h.1)⟩
 rename_i N
 have N:=of_decide_eq_false (Ym.2 N)
 rw[may_l2]
 cases hp:pok s.2.2.2.1 0 (pus s)with
 |true=>
  refine .inl ⟨rfl,⟨by omega,by omega,by omega,by omega,J,fun h=>Wb fun I=>N ⟨h,I⟩,fun i x O=>?_⟩⟩
  have:=(Qdr _ 0 _).1 hp i x O
  rw[Wc]at this;exact this
 |false=>
  refine .inr ⟨rfl,fun o=>?_⟩
  have:pok s.2.2.2.1 0 (pus s)=true:=(Qdr _ 0 _).2 fun i x O=>by rw[Wc];exact o.p i x O
  rw[hp]at this;cases this
theorem o_s {s:Sm}(h:OkS s):F.az s=some true:=(may_cases s).elim (fun h=>h.1) fun I=>absurd h I.2
theorem Check_no {s:Sm}(h: ¬OkS s):F.ac s=some 20:=(Qdq s).elim (fun I=>absurd I.2 h) fun h=>h.1
def okT (t:Tm):Prop:=0≤t.1∧t.1≤1073741824∧0≤t.2.1∧t.2.1≤4∧(0≤t.2.2.1∧t.2.2.1≤1048576∧(t.2.1≤0→t.2.2.1=0))∧(0≤t.2.2.2.1∧t.2.2.2.1≤1048576∧(t.2.1≤1→t.2.2.2.1=0))∧(0≤t.2.2.2.2.1∧t.2.2.2.2.1≤1048576∧(t.2.1≤2→t.2.2.2.2.1=0))∧(0≤t.2.2.2.2.2∧t.2.2.2.2.2≤1048576∧(t.2.1≤3→t.2.2.2.2.2=0))
structure ApOk (s:Sm) (t:Tm):Prop where
 ex: ∃(w:Tm) (v:Int),F.eK s t=(if(1048576:Int)<v then some ((0,0,(0,0,0,0)),12)else some (w,0))∧F.eL s t=((F.eI w).bind fun r=>if r≠0 then some ((0,0,(0,0,0,0)),12)else some (w,0))∧(okT w↔¬(1048576:Int)<v)
end Go.Proofs.YtlbnpmfggfbdoaaGreatDoor
end
section
namespace Go.Proofs.YtlbnpmfggfbdoaaGreatDoor
open Go.RowKit Go.Graph
theorem Ins_eq (k:Int):F.dT k=F.dK k:=rfl
theorem Qex (k:Int):F.dK k=some (insK k):=by
 unfold F.dK insK
 simp only[Bool.cond_decide]
 by_cases J:k<1<;>by_cases N:16<k<;>simp[J,N]
 by_cases I:k=1
 ·simp[I]
 ·by_cases O:k=5<;>by_cases W:k=9<;>simp[I,O,W]
theorem Qhf (c:UInt8):F.dL c=some (Qat c):=by
 unfold F.dL Qat
 by_cases I:(97:Int)≤(c.toNat:Int)<;>by_cases J:(c.toNat:Int)≤122<;>simp[I,J]
theorem digit_eq (c:UInt8):F.en c=some (Qgj c):=by
 unfold F.en Qgj
 by_cases I:(48:Int)≤(c.toNat:Int)<;>by_cases J:(c.toNat:Int)≤57<;>simp[I,J]
theorem name_eq (s:ByteArray)(hs:s.size≤5000):F.ev s=some (named s):=by
 have loop:F.bH s A.FU 0=some (Qcj s.data.toList):=A.lp0 s.data.toList (fun f y=>F.bH s f y) (fun _ l=>some (Qcj l))
  (fun f=>by rw[F.bH,if_neg (by rw[Qdg];omega)];rfl)
  (fun f k x N hk O=>by
   have hk':k<s.size:=hk
   rw[F.bH,if_pos (by omega),A.ixn N,Qa,Qhf,Qa]
   cases J:Qat x with
   |true=>
    simp only[Xk,Qz,if_false,F.de]
    rw[A.gd1 (A.r64n (by omega)),O];simp[Qcj,J]
   |false=>
    simp only[Yu,if_true,A.ixn N,Qa,digit_eq,F.de]
    cases W:Qgj x with
    |true=>simp only[Xk,Qz,if_false];rw[A.gd1 (A.r64n (by omega)),O];simp[Qcj,J,W]
    |false=>simp[Qcj,J,W])
  (by rw[Qdg];have:=Qab;omega)
 unfold F.ev named
 by_cases I:s=ByteArray.mk #[]
 ·simp[I,F.cD]
 ·by_cases Y:(16:Int)<(s.size:Int)
  ·have h2': ¬(s.size:Int)≤16:=by omega
   simp[I,Y,h2',F.cD]
  ·have h2':(s.size:Int)≤16:=by omega
   have h0:=Qfo I
   have e0:A.ix s.data.toList 0=some (Z.bat s 0):=ixb h0
   simp only[I,Y,h2',decide_false,cond_false,Qz,if_false,e0,Qa,Qhf,F.cD,loop,decide_true,ne_eq,not_false_eq_true,Y7,Xm]
   cases Qat (Z.bat s 0)<;>simp
theorem Qfs (s:ByteArray)(i:Nat):(s.get! i)=Z.bat s i:=by
 cases s;simp[ByteArray.get!,Z.bat,getElem!_def,Option.getD]
 rfl
theorem dec_at (s:ByteArray)(i:Nat):Utf8.decode s i=Lib.decodeN (s.size-i) (Z.bat s i).toNat (Z.bat s (i+1)).toNat (Z.bat s (i+2)).toNat (Z.bat s (i+3)).toNat:=by
 rw[Lib.decode_at,Qfs,Qfs,Qfs,Qfs]
theorem dec_lt {s:ByteArray}{i:Nat}(h:(Z.bat s i).toNat <128):Utf8.decode s i=((Z.bat s i).toNat,1):=by
 rw[dec_at];unfold Lib.decodeN;rw[if_pos h]
theorem dec_ge {s:ByteArray}{i:Nat}(h:128≤(Z.bat s i).toNat):128≤(Utf8.decode s i).1:=by
 rw[dec_at];unfold Lib.decodeN;rw[if_neg (by omega)]
 repeat' split
 all_goals first|(simp only[];omega)|decide
theorem named_eq (s:ByteArray)(hs:s.size≤9223372036854775807):F.ck s=some (named s):=by
 have loop: ∀(n p f:Nat),s.size-p≤n→n<f→F.a5 s f p=some ((if p=0∧0<s.size then Qat (Z.bat s 0)else true)&&Qcj (s.data.toList.drop p)&&(decide (s≠ByteArray.mk #[])&&decide ((s.size:Int)≤16))):=by
  intro n
  induction n with
  |zero=>
   intro p f hp hf
   obtain⟨f,rfl⟩: ∃f',f=f'+1:=⟨f-1,by omega⟩
   rw[F.a5,if_neg (by omega),Qfx (by omega),if_neg (by omega)]
   by_cases I:s=ByteArray.mk #[]<;>simp[I,Qcj]
  |succ n ih=>
   intro p f hp hf
   obtain⟨f,rfl⟩: ∃f',f=f'+1:=⟨f-1,by omega⟩
   by_cases J:p<s.size
   ·rw[F.a5,if_pos J,Qgf J]
    rcases Y2 (Z.bat s p).toNat 128 with hc|hc
    ·rw[dec_lt hc]
     have W:=ih (p+1) f (by omega) (by omega)
     rw[if_neg (fun h=>by omega)]at W
     simp only[W]
     have e1:(bif decide ((97:Int)≤((Z.bat s p).toNat:Int))then decide (((Z.bat s p).toNat:Int)≤122)else false)=decide ((97:Int)≤((Z.bat s p).toNat:Int)∧((Z.bat s p).toNat:Int)≤122):=by by_cases h:(97:Int)≤((Z.bat s p).toNat:Int)<;>simp[h]
     have e2:(bif decide ((65:Int)≤((Z.bat s p).toNat:Int))then decide (((Z.bat s p).toNat:Int)≤90)else false)=decide ((65:Int)≤((Z.bat s p).toNat:Int)∧((Z.bat s p).toNat:Int)≤90):=by by_cases h:(65:Int)≤((Z.bat s p).toNat:Int)<;>simp[h]
     rw[e1,e2]
     by_cases N:Qat (Z.bat s p)=true
     ·have hL':=N
      simp only[Qat,decide_eq_true_eq]at hL'
      have e3:(if p=0∧0<s.size then Qat (Z.bat s 0)else true)=true:=by split;rename_i h;rw[←h.1];exact N;rfl
      rw[e3]
      simp only[Qcj,Xu,N,Bool.true_or,Xm]
      by_cases I:(97:Int)≤((Z.bat s p).toNat:Int)∧((Z.bat s p).toNat:Int)≤122
      ·simp[I]
      ·have h2:=hL'.resolve_left I
       simp[I,h2]
     ·have hL':=N
      simp only[Qat,decide_eq_true_eq,not_or]at hL'
      rw[Bool.not_eq_true]at N
      simp only[hL'.1,hL'.2,decide_false,Qz,if_false,Yu,if_true]
      simp only[Qcj,Xu,N,X3]
      by_cases Y:p=0
      ·subst Y;simp[J,N]
      ·have h0': ¬(p:Int)=0:=by omega
       simp only[Y,h0',decide_false,cond_false,false_and,if_false,Xm]
       by_cases O:Qgj (Z.bat s p)=true
       ·have hd':=O
        simp only[Qgj,decide_eq_true_eq]at hd'
        have a1: ¬((Z.bat s p).toNat:Int)<48:=by omega
        have a2: ¬(57:Int)<((Z.bat s p).toNat:Int):=by omega
        simp[a1,a2,O]
       ·have hd':=O
        simp only[Qgj,decide_eq_true_eq]at hd'
        rw[Bool.not_eq_true]at O
        by_cases a1:((Z.bat s p).toNat:Int)<48
        ·simp[a1,O]
        ·have a2:(57:Int)<((Z.bat s p).toNat:Int):=by omega
         simp[a1,a2,O]
    ·have O:=dec_ge hc
     have N:Qat (Z.bat s p)=false:=by unfold Qat;rw[decide_eq_false_iff_not];omega
     have hD:Qgj (Z.bat s p)=false:=by unfold Qgj;rw[decide_eq_false_iff_not];omega
     have b1: ¬((Utf8.decode s p).1:Int)≤122:=by omega
     have b2: ¬((Utf8.decode s p).1:Int)≤90:=by omega
     have b3:(57:Int)<((Utf8.decode s p).1:Int):=by omega
     have b4: ¬((Utf8.decode s p).1:Int)<48:=by omega
     simp[b1,b2,b3,b4,Qcj,N,hD]
   ·rw[F.a5,if_neg J,Qfx J,if_neg (by omega)]
    by_cases I:s=ByteArray.mk #[]<;>simp[I,Qcj]
 unfold F.ck
 rw[loop s.size 0 A.FU (by omega) (by have:=Qab;omega)]
 unfold named
 by_cases I:s=ByteArray.mk #[]
 ·simp[I]
 ·have Y:=Qfo I
  simp only[Y,and_self,if_true,Wa,ne_eq,I,not_false_eq_true,decide_true,Xm]
  congr 1
  cases Qat (Z.bat s 0)<;>cases Qcj s.data.toList<;>simp
theorem tail_eq (c:UInt8):F.cF c=some (tail5 c):=by
 unfold F.cF tail5
 by_cases I:(128:Int)≤(c.toNat:Int)<;>by_cases J:(c.toNat:Int)≤191<;>simp[I,J]
theorem ixk (s:ByteArray)(p k:Nat):A.ix s.data.toList ((p:Int)+(k:Int))=if p+k<s.size then some (Z.bat s (p+k))else none:=by
 have e:(p:Int)+(k:Int)=((p+k:Nat):Int):=by omega
 rw[e]
 by_cases h:p+k<s.size
 ·rw[if_pos h];exact ixb h
 ·rw[if_neg h,A.ix_nat];exact Q5 (by rw[Qdg];omega)
def wid (s:ByteArray)(p:Nat):Nat:=if Utf8.decode s p=(65533,1)then 0 else(Utf8.decode s p).2
theorem wid_le {s:ByteArray}{p:Nat}(h:p<s.size):p+wid s p≤s.size:=by
 unfold wid
 split
 ·omega
 ·rw[dec_at]
  unfold Lib.decodeN
  repeat' split
  all_goals simp only[]
  all_goals omega
def widN (n a b c d:Nat):Nat:=
 if a<128 then 1
 else if(194≤a∧a≤223)∧2≤n∧(128≤b∧b≤191)then 2
 else if(224≤a∧a≤239)∧3≤n∧(128≤b∧b≤191)∧(128≤c∧c≤191)∧¬(a=224∧b<160)∧¬(a=237∧159<b)then 3
 else if(240≤a∧a≤244)∧4≤n∧(128≤b∧b≤191)∧(128≤c∧c≤191)∧(128≤d∧d≤191)∧¬(a=240∧b<144)∧¬(a=244∧143<b)then 4
 else 0
theorem pq (c:Prop)[Decidable c](x w:Nat)(I:w≠1):(if(if c then(x,w)else(65533,1))=(65533,1)then 0 else(if c then(x,w)else(65533,1)).2)=if c then w else 0:=by
 by_cases h:c<;>simp[h,I]
theorem widN_eq (n a b c d:Nat)(W:a<256)(Y:b<256)(hc:c<256)(hd:d<256):(if Lib.decodeN n a b c d=(65533,1)then 0 else(Lib.decodeN n a b c d).2)=widN n a b c d:=by
 unfold Lib.decodeN widN
 by_cases I:a<128
 ·simp only[I,if_true,Jf];rw[if_neg (by omega)]
 ·simp only[I,if_false]
  by_cases J:a / 32=6∧1<n∧b / 64=2
  ·simp only[if_pos J]
   rw[pq _ _ _ (by decide)]
   repeat' split
   all_goals omega
  ·simp only[if_neg J]
   by_cases N:a / 16=14∧(1<n∧b / 64=2)∧2<n∧c / 64=2
   ·simp only[if_pos N]
    rw[pq _ _ _ (by decide)]
    repeat' split
    all_goals omega
   ·simp only[if_neg N]
    by_cases O:a / 8=30∧(1<n∧b / 64=2)∧(2<n∧c / 64=2)∧3<n∧d / 64=2
    ·simp only[if_pos O]
     rw[pq _ _ _ (by decide)]
     repeat' split
     all_goals omega
    ·simp only[if_neg O,if_true]
     repeat' split
     all_goals omega
theorem wid_N (s:ByteArray)(p:Nat):wid s p=widN (s.size-p) (Z.bat s p).toNat (Z.bat s (p+1)).toNat (Z.bat s (p+2)).toNat (Z.bat s (p+3)).toNat:=by
 rw[←widN_eq _ _ _ _ _ (UInt8.toNat_lt _) (UInt8.toNat_lt _) (UInt8.toNat_lt _) (UInt8.toNat_lt _),←dec_at];rfl
theorem cnd {α:Type}{p:Prop}[Decidable p](x y:α):(bif decide p then x else y)=if p then x else y:=by by_cases h:p<;>simp[h]
set_option maxHeartbeats 4000000 in
theorem width_eq (s:ByteArray)(p:Nat)(hp:p<s.size)(hs:s.size≤5000):F.dZ s p=some (wid s p:Int):=by
 have i1:A.ix s.data.toList ((p:Int)+1)=if p+1<s.size then some (Z.bat s (p+1))else none:=ixk s p 1
 have i2:A.ix s.data.toList ((p:Int)+2)=if p+2<s.size then some (Z.bat s (p+2))else none:=ixk s p 2
 have i3:A.ix s.data.toList ((p:Int)+3)=if p+3<s.size then some (Z.bat s (p+3))else none:=ixk s p 3
 have r1:Z.R64 ((p:Int)+1):=⟨by omega,by omega⟩
 have r2:Z.R64 ((p:Int)+2):=⟨by omega,by omega⟩
 have r3:Z.R64 ((p:Int)+3):=⟨by omega,by omega⟩
 unfold F.dZ
 rw[A.gd1 ⟨by omega,by omega⟩,ixb hp,Qa,A.gd1 r1,i1,wid_N]
 generalize Z.bat s p=c0 at*
 generalize Z.bat s (p+1)=c1 at*
 generalize Z.bat s (p+2)=c2 at*
 generalize Z.bat s (p+3)=c3 at*
 have t (c:UInt8):tail5 c=decide (128≤c.toNat∧c.toNat≤191):=by unfold tail5;congr 1;exact propext ⟨fun h=>by omega,fun h=>by omega⟩
 by_cases h1:(1:Int)<(s.size:Int)-(p:Int)
 ·rw[if_pos h1,if_pos (by omega),Qa]
  simp only[F.cP,F.cO,F.cv,F.cb,tail_eq,Qa,t,A.gd1 r2,A.gd1 r3,i2,i3]
  unfold widN
  generalize hn:s.size-p=n
  have e2:((2:Int)≤(s.size:Int)-(p:Int))=(2≤n):=propext ⟨fun h=>by omega,fun h=>by omega⟩
  have e3:((3:Int)≤(s.size:Int)-(p:Int))=(3≤n):=propext ⟨fun h=>by omega,fun h=>by omega⟩
  have e4:((4:Int)≤(s.size:Int)-(p:Int))=(4≤n):=propext ⟨fun h=>by omega,fun h=>by omega⟩
  have f2:(p+2<s.size)=(3≤n):=propext ⟨fun h=>by omega,fun h=>by omega⟩
  have f3:(p+3<s.size)=(4≤n):=propext ⟨fun h=>by omega,fun h=>by omega⟩
  have hn2:2≤n:=by omega
  simp only[e2,e3,e4,f2,f3,A.ba,decide_eq_true_eq,hn2,and_true,true_and]
  have q0:((c0.toNat:Int)<128)=(c0.toNat<128):=propext ⟨fun h=>by omega,fun h=>by omega⟩
  have q1:((194:Int)≤(c0.toNat:Int)∧(c0.toNat:Int)≤223)=(194≤c0.toNat∧c0.toNat≤223):=propext ⟨fun h=>by omega,fun h=>by omega⟩
  have q2:((224:Int)≤(c0.toNat:Int)∧(c0.toNat:Int)≤239)=(224≤c0.toNat∧c0.toNat≤239):=propext ⟨fun h=>by omega,fun h=>by omega⟩
  have q3:((240:Int)≤(c0.toNat:Int)∧(c0.toNat:Int)≤244)=(240≤c0.toNat∧c0.toNat≤244):=propext ⟨fun h=>by omega,fun h=>by omega⟩
  have q4:((c0.toNat:Int)=224∧(c1.toNat:Int)<160)=(c0.toNat=224∧c1.toNat<160):=propext ⟨fun h=>by omega,fun h=>by omega⟩
  have q5:((c0.toNat:Int)=237∧(159:Int)<(c1.toNat:Int))=(c0.toNat=237∧159<c1.toNat):=propext ⟨fun h=>by omega,fun h=>by omega⟩
  have q6:((c0.toNat:Int)=240∧(c1.toNat:Int)<144)=(c0.toNat=240∧c1.toNat<144):=propext ⟨fun h=>by omega,fun h=>by omega⟩
  have q7:((c0.toNat:Int)=244∧(143:Int)<(c1.toNat:Int))=(c0.toNat=244∧143<c1.toNat):=propext ⟨fun h=>by omega,fun h=>by omega⟩
  simp only[q0,q1,q2,q3,q4,q5,q6,q7]
  have x1:240≤c0.toNat∧c0.toNat≤244→¬(224≤c0.toNat∧c0.toNat≤239):=fun h h2=>by omega
  have x2:240≤c0.toNat∧c0.toNat≤244→¬(194≤c0.toNat∧c0.toNat≤223):=fun h h2=>by omega
  have x3:224≤c0.toNat∧c0.toNat≤239→¬(194≤c0.toNat∧c0.toNat≤223):=fun h h2=>by omega
  by_cases K0:c0.toNat<128
  ·simp[K0]
  by_cases J:128≤c1.toNat∧c1.toNat≤191
  ·by_cases K1:194≤c0.toNat∧c0.toNat≤223
   ·simp only[if_neg K0,if_pos K1,if_pos J,K1,J,and_self,if_true];rfl
   ·by_cases K2:224≤c0.toNat∧c0.toNat≤239
    ·have K3: ¬(240≤c0.toNat∧c0.toNat≤244):=fun h=>x1 h K2
     by_cases I:3≤n
     ·by_cases N:128≤c2.toNat∧c2.toNat≤191
      ·by_cases O:c0.toNat=224∧c1.toNat<160
       ·simp only[if_neg K0,if_neg K1,if_pos (And.intro K2 I),if_pos J,if_pos I,Qa,if_pos N,eq_true O,if_true,false_and,K1,K3,eq_true O,not_true_eq_false,and_false,if_false];rfl
       ·by_cases Y:c0.toNat=237∧159<c1.toNat
        ·simp only[if_neg K0,if_neg K1,if_pos (And.intro K2 I),if_pos J,if_pos I,Qa,if_pos N,if_neg O,eq_true Y,if_true,false_and,K1,K3,eq_true Y,not_true_eq_false,and_false,if_false];rfl
        ·simp only[if_neg K0,if_neg K1,if_pos (And.intro K2 I),if_pos J,if_pos I,Qa,if_pos N,if_neg O,if_neg Y,false_and,K1,K2,I,J,N,O,Y,not_false_eq_true,and_self,if_true,if_false];rfl
      ·simp only[if_neg K0,if_neg K1,if_pos (And.intro K2 I),if_pos J,if_pos I,Qa,if_neg N,if_neg K3,false_and,K1,K3,N,and_false,if_false,Qz];rfl
     ·simp only[if_neg K0,if_neg K1,I,and_false,if_neg K3,false_and,K1,K3,if_false];rfl
    ·by_cases K3:240≤c0.toNat∧c0.toNat≤244
     ·by_cases W:4≤n
      ·have I:3≤n:=by omega
       by_cases N:128≤c2.toNat∧c2.toNat≤191
       ·by_cases m3:128≤c3.toNat∧c3.toNat≤191
        ·by_cases O:c0.toNat=240∧c1.toNat<144
         ·simp only[if_neg K0,if_neg K1,if_neg K2,K2,false_and,if_pos (And.intro K3 W),if_pos J,if_pos I,if_pos W,Qa,if_pos N,if_pos m3,eq_true O,if_true,K1,eq_true O,not_true_eq_false,and_false,if_false];rfl
         ·by_cases Y:c0.toNat=244∧143<c1.toNat
          ·simp only[if_neg K0,if_neg K1,if_neg K2,K2,false_and,if_pos (And.intro K3 W),if_pos J,if_pos I,if_pos W,Qa,if_pos N,if_pos m3,if_neg O,eq_true Y,if_true,K1,eq_true Y,not_true_eq_false,and_false,if_false];rfl
          ·simp only[if_neg K0,if_neg K1,if_neg K2,K2,false_and,if_pos (And.intro K3 W),if_pos J,if_pos I,if_pos W,Qa,if_pos N,if_pos m3,if_neg O,if_neg Y,K1,K3,W,J,N,m3,O,Y,not_false_eq_true,and_self,if_true,if_false];rfl
        ·simp only[if_neg K0,if_neg K1,if_neg K2,K2,false_and,if_pos (And.intro K3 W),if_pos J,if_pos I,if_pos W,Qa,if_pos N,if_neg m3,K1,m3,and_false,if_false,Qz];rfl
       ·simp only[if_neg K0,if_neg K1,if_neg K2,K2,false_and,if_pos (And.intro K3 W),if_pos J,if_pos I,Qa,if_neg N,K1,N,and_false,if_false,Qz];rfl
      ·simp only[if_neg K0,if_neg K1,if_neg K2,K2,false_and,W,and_false,K1,if_false];rfl
     ·simp only[if_neg K0,if_neg K1,if_neg K2,if_neg K3,K1,K2,K3,false_and,if_false];rfl
  ·simp[K0,J]
 ·rw[if_neg h1]
  simp only[F.cP,F.cO,F.cv,F.cb,A.ba,decide_eq_true_eq]
  unfold widN
  have w0:(c0.toNat:Int)<128↔c0.toNat<128:=⟨fun h=>by omega,fun h=>by omega⟩
  by_cases h2:c0.toNat<128
  ·rw[if_pos (w0.2 h2),if_pos h2];rfl
  ·have a1: ¬((194≤c0.toNat∧c0.toNat≤223)∧2≤s.size-p∧128≤c1.toNat∧c1.toNat≤191):=fun h=>by omega
   have a2: ¬((224≤c0.toNat∧c0.toNat≤239)∧3≤s.size-p∧(128≤c1.toNat∧c1.toNat≤191)∧(128≤c2.toNat∧c2.toNat≤191)∧¬(c0.toNat=224∧c1.toNat<160)∧¬(c0.toNat=237∧159<c1.toNat)):=fun h=>by omega
   have a3: ¬((240≤c0.toNat∧c0.toNat≤244)∧4≤s.size-p∧(128≤c1.toNat∧c1.toNat≤191)∧(128≤c2.toNat∧c2.toNat≤191)∧(128≤c3.toNat∧c3.toNat≤191)∧¬(c0.toNat=240∧c1.toNat<144)∧¬(c0.toNat=244∧143<c1.toNat)):=fun h=>by omega
   rw[if_neg (fun h=>h2 (w0.1 h)),if_neg h2,if_neg a1,if_neg a2,if_neg a3]
   simp only[Qz,if_false]
   rw[if_neg (fun h=>by omega),if_neg (fun h=>by omega),if_neg (fun h=>by omega)];rfl
def vld (s:ByteArray):Nat→Nat→Bool
 |0,_=>true
 |n+1,p=>if p<s.size then(if wid s p=0 then false else vld s n (p+wid s p))else true
def cnt (s:ByteArray):Nat→Nat→Nat
 |0,_=>0
 |n+1,p=>if p<s.size then 1+cnt s n (p+(Utf8.decode s p).2)else 0
theorem wid_4 (s:ByteArray)(p:Nat):wid s p≤4:=by
 rw[wid_N];unfold widN;repeat' split
 all_goals omega
theorem wid_dec {s:ByteArray}{p:Nat}(h:wid s p≠0):(Utf8.decode s p).2=wid s p:=by
 unfold wid at h ⊢;split at h
 ·exact absurd rfl h
 ·rename_i I;rw[if_neg I]
theorem Valid_eq (s:ByteArray)(J:s.size≤5000):F.eo s=some (vld s s.size 0):=by
 have loop: ∀(n p f:Nat),s.size-p≤n→n<f→p≤5010→F.cw s f (p:Int)=some (vld s n p):=by
  intro n
  induction n with
  |zero=>
   intro p f hp N _
   obtain⟨f,rfl⟩: ∃f',f=f'+1:=⟨f-1,by omega⟩
   rw[F.cw,if_neg (by omega)];rfl
  |succ n O=>
   intro p f hp N W
   obtain⟨f,rfl⟩: ∃f',f=f'+1:=⟨f-1,by omega⟩
   rw[F.cw,vld]
   by_cases h:p<s.size
   ·rw[if_pos (by omega),if_pos h,width_eq s p h J,Qa]
    have:=wid_le h
    by_cases I:wid s p=0
    ·rw[if_pos (by omega),if_pos I]
    ·rw[if_neg (by omega),if_neg I,A.gd1 ⟨by omega,by omega⟩]
     have e:(p:Int)+(wid s p:Int)=((p+wid s p:Nat):Int):=by omega
     rw[e];exact O _ f (by omega) (by omega) (by omega)
   ·rw[if_neg (by omega),if_neg h]
 exact loop s.size 0 A.FU (by omega) (by have:=Qab;omega) (by omega)
theorem Qdj (s:ByteArray):Lib.validD s.data.toList=vld s s.size 0:=by
 have loop: ∀(n p:Nat),Lib.validGoD n (s.data.toList.drop p)=vld s n p:=by
  intro n
  induction n with
  |zero=>intro p;rfl
  |succ n O=>
   intro p
   rw[Lib.validGoD,vld]
   by_cases h:p<s.size
   ·have J:s.data.toList.drop p≠[]:=by rw[Qgf h];simp
    rw[if_neg J,if_pos h,Lib.decodeL_drop,X4]
    by_cases I:Utf8.decode s p=(65533,1)
    ·rw[if_pos (by rw[I];exact⟨rfl,rfl⟩),if_pos (by unfold wid;rw[if_pos I])]
    ·have e:wid s p=(Utf8.decode s p).2:=by unfold wid;rw[if_neg I]
     rw[if_neg (fun N=>I (Jr N.1 N.2)),if_neg (by rw[e];have:=Qhh s p;omega),O,e]
   ·rw[if_pos (Qfx h),if_neg h]
 have:=loop s.size 0
 rw[Wa]at this
 exact this
theorem Runes_eq (s:ByteArray)(hs:s.size≤5000)(I:vld s s.size 0=true): ∃l,F.ez s=some l∧l.length=cnt s s.size 0:=by
 have loop: ∀(n p f:Nat) (xs:List (Int×Int)),s.size-p≤n→n<f→xs.length≤p→p≤5010→vld s n p=true→∃l,F.aV s f xs (p:Int)=some l∧l.length=xs.length+cnt s n p:=by
  intro n
  induction n with
  |zero=>
   intro p f xs hp hf _ _ _
   obtain⟨f,rfl⟩: ∃f',f=f'+1:=⟨f-1,by omega⟩
   rw[F.aV,if_neg (by omega)];exact⟨_,rfl,rfl⟩
  |succ n ih=>
   intro p f xs hp hf hxs hp5 I
   obtain⟨f,rfl⟩: ∃f',f=f'+1:=⟨f-1,by omega⟩
   rw[F.aV]
   rw[vld]at I
   rw[cnt]
   by_cases h:p<s.size
   ·rw[if_pos h]at I
    have hl:=wid_le h
    have h4:=wid_4 s p
    by_cases N:wid s p=0
    ·rw[if_pos N]at I;cases I
    rw[if_neg N]at I
    have J: ∀(w c:Int),w=(wid s p:Int)→∃l,F.bN (F.aV s f) xs (p:Int) w c=some l∧l.length=xs.length+(1+cnt s n (p+(Utf8.decode s p).2)):=fun w c O=>by
     subst O
     rw[F.bN,A.gd1 (by simp only[Qh,Qx];omega),A.gd1 ⟨by omega,by omega⟩,wid_dec N]
     have e:(p:Int)+(wid s p:Int)=((p+wid s p:Nat):Int):=by omega
     rw[e]
     obtain⟨l,W,Y⟩:=ih (p+wid s p) f (xs++[((p:Int),c)]) (by omega) (by omega) (by simp only[Qm,Qh,Qx];omega) (by omega) I
     exact⟨l,W,by rw[Y,Qm];simp only[Qh,Qx];omega⟩
    have i0:=ixb (s:=s) h
    have i1:A.ix s.data.toList ((p:Int)+1)=if p+1<s.size then some (Z.bat s (p+1))else none:=ixk s p 1
    have i2:A.ix s.data.toList ((p:Int)+2)=if p+2<s.size then some (Z.bat s (p+2))else none:=ixk s p 2
    have i3:A.ix s.data.toList ((p:Int)+3)=if p+3<s.size then some (Z.bat s (p+3))else none:=ixk s p 3
    have r1:Z.R64 ((p:Int)+1):=⟨by omega,by omega⟩
    have r2:Z.R64 ((p:Int)+2):=⟨by omega,by omega⟩
    have r3:Z.R64 ((p:Int)+3):=⟨by omega,by omega⟩
    rw[if_pos (by omega),if_pos h,width_eq s p h hs,Qa]
    by_cases w1:wid s p=1
    ·rw[if_pos (by omega),i0,Qa];exact J _ _ rfl
    rw[if_neg (by omega)]
    by_cases w2:wid s p=2
    ·rw[if_pos (by omega),A.gd1 r1,i0,Qa,A.gd1 (by decide),i1,if_pos (by omega),Qa,A.gd1 (by decide)];exact J _ _ rfl
    rw[if_neg (by omega)]
    by_cases w3:wid s p=3
    ·rw[if_pos (by omega),A.gd1 ⟨r1,r2⟩,i0,Qa,A.gd1 (by decide),i1,if_pos (by omega),Qa,A.gd1 (by decide),i2,if_pos (by omega),Qa,A.gd1 (by decide)];exact J _ _ rfl
    rw[if_neg (by omega),if_pos (by omega),A.gd1 ⟨r1,r2,r3⟩,i0,Qa,A.gd1 (by decide),i1,if_pos (by omega),Qa,A.gd1 (by decide),i2,if_pos (by omega),Qa,A.gd1 (by decide),i3,if_pos (by omega),Qa,A.gd1 (by decide)];exact J _ _ rfl
   ·rw[if_neg (by omega),if_neg h];exact⟨_,rfl,rfl⟩
 obtain⟨l,W,Y⟩:=loop s.size 0 A.FU [] (by omega) (by have:=Qab;omega) (by simp) (by omega) I
 exact⟨l,W,by simpa using Y⟩
theorem single_eq (s:ByteArray)(N:s.size≤9223372036854775807):F.ei s=some (if cnt s s.size 0=1 then vld s s.size 0 else false):=by
 have loop: ∀(n p f:Nat) (y:Int),s.size-p≤n→n<f→0≤y→y+n≤9223372036854775807→F.cr s f p y=some (if y+(cnt s n p:Int)=1 then vld s s.size 0 else false):=by
  intro n
  induction n with
  |zero=>
   intro p f y hp I _ _
   obtain⟨f,rfl⟩: ∃f',f=f'+1:=⟨f-1,by omega⟩
   rw[F.cr,if_neg (by omega),F.bY,Qdj,Qa]
   simp only[F.cI]
   have e:y+(cnt s 0 p:Int)=y:=by rw[cnt];omega
   by_cases h:y=1
   ·rw[if_pos h,if_pos (by omega)]
   ·rw[if_neg h,if_neg (by omega)]
  |succ n J=>
   intro p f y hp I O W
   obtain⟨f,rfl⟩: ∃f',f=f'+1:=⟨f-1,by omega⟩
   rw[F.cr,cnt]
   by_cases h:p<s.size
   ·rw[if_pos h,if_pos h,A.gd1 ⟨by omega,by omega⟩]
    have Y:=Qhh s p
    rw[J _ f (y+1) (by omega) (by omega) (by omega) (by omega)]
    congr 2
    exact propext ⟨fun h=>by omega,fun h=>by omega⟩
   ·rw[if_neg h,if_neg h,F.bY,Qdj,Qa]
    simp only[F.cI]
    by_cases h:y=1
    ·rw[if_pos h,if_pos (by omega)]
    ·rw[if_neg h,if_neg (by omega)]
 unfold F.ei
 rw[loop s.size 0 A.FU 0 (by omega) (by have:=Qab;omega) (by omega) (by omega)]
 congr 2
 exact propext ⟨fun h=>by omega,fun h=>by omega⟩
theorem one_small {s:ByteArray}(I:cnt s s.size 0=1)(J:vld s s.size 0=true):s.size≤4:=by
 generalize W:s.size=n at I J
 cases n with
 |zero=>omega
 |succ n=>
  rw[cnt,if_pos (by omega)]at I
  rw[vld,if_pos (by omega)]at J
  by_cases N:wid s 0=0
  ·rw[if_pos N]at J;cases J
  rw[wid_dec N]at I
  have:=wid_4 s 0
  cases n with
  |zero=>omega
  |succ n=>
   rw[cnt]at I
   by_cases O:0+wid s 0<s.size
   ·rw[if_pos O]at I;omega
   ·omega
end Go.Proofs.YtlbnpmfggfbdoaaGreatDoor
end
section
end
