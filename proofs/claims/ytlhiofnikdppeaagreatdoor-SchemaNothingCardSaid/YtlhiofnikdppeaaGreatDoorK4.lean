/- Functions on data, what they tell, and that the code computes them. -/
import Derived.Test.YtlhiofnikdppeaaGreatDoorK0
import Derived.Test.YtlhiofnikdppeaaGreatDoorK1
import Derived.Test.YtlhiofnikdppeaaGreatDoorK2
import Derived.Test.YtlhiofnikdppeaaGreatDoorK3
import Derived.Lib.TrimUEq
set_option linter.unusedVariables false
set_option linter.unusedSimpArgs false
set_option maxRecDepth 20000
set_option maxHeartbeats 8000000
set_option synthInstance.maxSize 1000000
set_option synthInstance.maxHeartbeats 400000
set_option linter.unusedSectionVars false
section
namespace Go.Proofs.YtlhiofnikdppeaaGreatDoor
open Go.RowKit
abbrev l4a:List Value:=[A.i 0,A.i 0,.slice none 0 0,A.i 0,A.i 0,.string (ByteArray.mk #[]),.string (ByteArray.mk #[]),A.i 0,A.i 0]
abbrev l4b:List Value:=[A.i 0,A.i 0,A.i 0,A.i 0,A.i 0,A.i 0,.string (ByteArray.mk #[])]
abbrev l4c:List Value:=[A.i 0,A.i 0,.string (ByteArray.mk #[]),A.i 0]
abbrev l4d:List Value:=[.slice none 0 0]
abbrev l4e:List Nat:=[0,1,2,3,4,1180,1181]
abbrev l4f:List Nat:=[0,1,2,3,4,5,6,7,8]
abbrev l4g:List Nat:=[1,2,3,131,132,133,173,174]
abbrev l4h:List Nat:=[1,2,3,131,132]
abbrev l4i:List Nat:=[2,3,165,347]
variable(A0_ A1_ A2_ A3_ A4_ A5_ A6_ A7_ A8_ A10_ A12_ A13_ A17_:Option Addr)(b0_ g0_ b1_ c1_ c2_ g2_ c3_ b4_ c4_ b5_ c5_ b6_ c6_ c7_ c8_ c9_ g10_ c11_ c13_ c14_ c18_:Nat)
def F.ba (h:(List (Int×Bool))→Int→Option Bool)(k:List (Int×Bool))(a:Int)(o:D42)(p:Bool):Option Bool:=if p=true then(some false)else(A.gd (Z.R64 (a+1)) (h (Z.mins k o.2.1 true) (a+1)))
def F.ae (h:(List (Int×D54)))(k:D27)(o:(List (Int×D54))):Nat→(List (Int×Bool))→Int→Option Bool
 |0,_,_=>none
 |f+1,s,p=>if p<(k.2.2.length:Int)then((A.ix k.2.2 p).bind fun a=>(A.lt (Z.mget ((0,0,[],(0,0,(ByteArray.mk #[])),(ByteArray.mk #[]),0,0):D54) h a.1) fun u=>(A.lt (Z.mget ((0,0,[],(0,0,(ByteArray.mk #[])),(ByteArray.mk #[]),0,0):D54) o a.2.1) fun x=>(if(bif !(Z.mhas h a.1)then true else !(Z.mhas o a.2.1))=true then(F.ba (F.ae h k o f) s p a true)else((F.cW u.2.1).bind fun y=>(if(bif !y then true else decide (x.2.1≠u.2.1))=true then(F.ba (F.ae h k o f) s p a true)else(A.lt (Z.mget (false:Bool) s a.2.1) fun z=>(if z=true then(F.ba (F.ae h k o f) s p a true)else((F.dt a).bind fun B=>(if(!B)=true then(F.ba (F.ae h k o f) s p a true)else(F.ba (F.ae h k o f) s p a (bif decide (a.2.2.1=2)then decide (u.2.1≠11)else false))))))))))))else(some true)
def F.cX (h:(List (Int×D54)))(a:D27):Option Bool:=(F.cK a.2.1).bind fun k=>(F.ae h a k A.FU [] 0)
theorem o_a0(x:(List (Int×D54)))(o:D27)(r:Bool)(a:F.cX x o=some r):
    A.Ct Tryz.prog 108 [.map (some b0_),.agg #[.slice A1_ o.1.length c2_,.slice A3_ o.2.1.length c4_,.slice A5_ o.2.2.length c6_]] [(0,.lmp Int (fun i:Int=>A.i i) T54 true b0_ x),(1,.sh A.TI [.slice A1_ o.1.length c2_] o.1),(2,.sh (.slice T54) [.slice A3_ o.2.1.length c4_] o.2.1),(3,.sh (.slice T42) [.slice A5_ o.2.2.length c6_] o.2.2)] [] (fun v H'=>v=.bool r∧H'=[]):=by
 refine Jg Tryz.func108 rfl Tryz.ntmps108 rfl fun w0 F0=>?_;rw[F.cX]at a;refine Jc 1 ?_;refine Jl 4 (cs:=[.slice A1_ o.1.length c2_,.slice A3_ o.2.1.length c4_,.slice A5_ o.2.2.length c6_]) fun g1=>?_;refine Ji 1 [] (Jk 2 ?_);refine Jf [4] [] [.n,.b 0 1] [(14,.slice A3_ o.2.1.length c4_)] ?_;refine Va 5 [] a (o_u A3_ c4_ o.2.1) (.l 2 .nil) ?_;rintro B - a _ _ ⟨U,rfl,rfl⟩;refine Jq ?_;refine Ji 1 [(5,.map (some U))] (Jk 2 ?_);refine V8 45 Int (fun i:Int=>A.i i) Z.Ty.bool false fun I=>?_;refine Ji 1 [(6,.map (some I))] (Jk 3 ?_);refine Jf [4] [] [.n,.b 0 2,.n,.n] [(18,.slice A5_ o.2.2.length c6_),(19,A.i (o.2.2.length:Int)),(20,A.i 0)] (Jd 2 ?_);refine J3 [0,5,6,18,19] [0,3,5] (fun f J L=>∃(E:List (Int×Bool)),∃(s:Int),J=[(20,A.i s)]∧L=[(45,.mp Int (fun i:Int=>A.i i) Z.Ty.bool false I E)]∧A.h6 s∧F.ae x o B f E s=some r) ⟨[],0,rfl,rfl,Js,a⟩ ?_;rintro N _ _ ⟨E,s,rfl,rfl,ab,a⟩;rcases N with _|N
 ·exact J1 a
 rw[F.ae]at a;refine Jc 1 ?_;refine Ji 1 [(21,.bool (decide (s<(o.2.2.length:Int))))] (Jd 2 ?_);refine J9 a ?_ ?_<;>intro hb a
 ·refine Jc 5 ?_;have⟨h,a3,a⟩:=Vo a;refine J4 3 220 a3 fun y=>?_;intro ac ad;refine Jf [] [220] [.e 0 0] [(23,.agg #[A.i h.1,A.i h.2.1,A.i h.2.2.1,A.i h.2.2.2.1,A.i h.2.2.2.2.1,A.i h.2.2.2.2.2.1,.string h.2.2.2.2.2.2])] ?_;refine Jh 221 (cs:=l4b) Tryz.zeroValue43 fun af=>?_;refine Jw 221 [] [A.i h.1,A.i h.2.1,A.i h.2.2.1,A.i h.2.2.2.1,A.i h.2.2.2.2.1,A.i h.2.2.2.2.2.1,.string h.2.2.2.2.2.2] ?_;refine Jk 2 ?_;refine Jf [221] [] [.n,.n,.b 0 0] [(25,.map (some b0_)),(27,A.i h.1)] ?_;obtain⟨k,a4,a⟩:=Jz a;refine Uh (t:=T54) 0 222 (z:=((0,0,[],(0,0,(ByteArray.mk #[])),(ByteArray.mk #[]),0,0):D54)) (zs:=l4a) ky3 h.1 Tryz.zeroValue55 ⟨⟨rfl,by decide⟩,⟨rfl,by decide⟩,(.inr ⟨rfl,rfl⟩),⟨⟨rfl,by decide⟩,⟨rfl,by decide⟩,⟨rfl,by decide⟩⟩,⟨rfl,by decide⟩,⟨rfl,by decide⟩,⟨rfl,by decide⟩⟩ a4 fun a5=>?_;intro V W;refine Ji 3 [(29,.agg #[A.i k.1,A.i k.2.1,.slice V k.2.2.1.length W,A.i k.2.2.2.1.1,A.i k.2.2.2.1.2.1,.string k.2.2.2.1.2.2,.string k.2.2.2.2.1,A.i k.2.2.2.2.2.1,A.i k.2.2.2.2.2.2]),(30,.bool (Z.mhas x h.1))] ?_;refine Jh 223 (cs:=l4a) Tryz.zeroValue55 fun ag=>?_;refine Jw 223 [] [A.i k.1,A.i k.2.1,.slice V k.2.2.1.length W,A.i k.2.2.2.1.1,A.i k.2.2.2.1.2.1,.string k.2.2.2.1.2.2,.string k.2.2.2.2.1,A.i k.2.2.2.2.2.1,A.i k.2.2.2.2.2.2] ?_;refine Ji 1 [(10,.bool (Z.mhas x h.1))] (Jk 2 ?_);refine Jf [221] [] [.n,.n,.b 0 1] [(32,.map (some U)),(34,A.i h.2.1)] ?_;obtain⟨p,a6,a⟩:=Jz a;refine Uh (t:=T54) 5 224 (z:=((0,0,[],(0,0,(ByteArray.mk #[])),(ByteArray.mk #[]),0,0):D54)) (zs:=l4a) ky3 h.2.1 Tryz.zeroValue55 ⟨⟨rfl,by decide⟩,⟨rfl,by decide⟩,(.inr ⟨rfl,rfl⟩),⟨⟨rfl,by decide⟩,⟨rfl,by decide⟩,⟨rfl,by decide⟩⟩,⟨rfl,by decide⟩,⟨rfl,by decide⟩,⟨rfl,by decide⟩⟩ a6 fun ah=>?_;intro X Y;refine Ji 3 [(36,.agg #[A.i p.1,A.i p.2.1,.slice X p.2.2.1.length Y,A.i p.2.2.2.1.1,A.i p.2.2.2.1.2.1,.string p.2.2.2.1.2.2,.string p.2.2.2.2.1,A.i p.2.2.2.2.2.1,A.i p.2.2.2.2.2.2]),(37,.bool (Z.mhas B h.2.1))] ?_;refine Jh 225 (cs:=l4a) Tryz.zeroValue55 fun ai=>?_;refine Jw 225 [] [A.i p.1,A.i p.2.1,.slice X p.2.2.1.length Y,A.i p.2.2.2.1.1,A.i p.2.2.2.1.2.1,.string p.2.2.2.1.2.2,.string p.2.2.2.2.1,A.i p.2.2.2.2.2.1,A.i p.2.2.2.2.2.2] ?_;refine Ji 1 [(12,.bool (Z.mhas B h.2.1))] (Jd 2 ?_);refine Jp [0,5,6,8,18,19,20] [0,3,5,45,221] (fun J L=>∃(O:Bool),J=[(77,.bool O)]∧L=[]∧F.ba (F.ae x o B N) E s h O=some r) ?_ ?_
  ·refine Jc 0 ?_;refine Jf [] [] [.n,.n,.n,.sy .n,.sy .n,.pk,.n] [(44,.bool (bif !(Z.mhas x h.1)then true else !(Z.mhas B h.2.1)))] ?_;refine J7 (j:=44) rfl a (fun a=>?_) (fun a=>?_)
   ·refine Jf [] [] [.off,.off,.off,.off,.n,.n,.off,.off,.off,.off,.off,.n,.n,.off,.off,.off,.off,.n,.n,.off,.off,.off,.n,.n,.off,.off,.off,.off,.off,.off,.off,.off,.n] [(77,.bool true)] (Je ?_);exact J2 ⟨true,rfl,rfl,a⟩
   refine Jf [223] [] [.on .n,.on (.b 0 1)] [(46,A.i k.2.1)] ?_;refine J5 (dj:=44) rfl rfl ?_;refine Va 226 [] a (o_aq k.2.1 a5.2.1) .nil ?_;rintro a7 - a _ _ ⟨rfl,rfl⟩;refine Jq ?_;refine Jf [225,223] [] [.on .n,.n,.n,.sy .n,.sy (.b 0 1),.sy .n,.sy (.b 1 1),.sy .n,.pk,.n] [(57,.bool (bif !a7 then true else decide (p.2.1≠k.2.1)))] ?_;refine J7 (j:=57) rfl a (fun a=>?_) (fun a=>?_)
   ·refine Jf [] [] [.off,.off,.off,.off,.n,.n,.off,.off,.off,.n,.n,.off,.off,.off,.off,.off,.off,.off,.off,.n] [(77,.bool true)] (Je ?_);exact J2 ⟨true,rfl,rfl,a⟩
   refine Jf [221] [] [.on .n,.on .n,.on (.b 0 1)] [(58,.map (some I)),(60,A.i h.2.1)] ?_;refine J5 (dj:=57) rfl rfl ?_;obtain⟨a8,a9,a⟩:=Jz a;refine Vr (t:=Z.Ty.bool) 45 266 (z:=(false:Bool)) (zs:=[.bool false]) ky3 h.2.1 Tryz.zeroValue4 rfl a9 fun aj=>?_;refine Ji 2 [(63,.bool a8)] ?_;refine J7 (j:=63) rfl a (fun a=>?_) (fun a=>?_)
   ·refine Jf [] [] [.off,.off,.off,.n,.n,.off,.off,.off,.off,.off,.off,.off,.off,.n] [(77,.bool true)] (Je ?_);exact J2 ⟨true,rfl,rfl,a⟩
   refine Jf [221] [] [.on (.b 0 0)] [(64,.agg #[A.i h.1,A.i h.2.1,A.i h.2.2.1,A.i h.2.2.2.1,A.i h.2.2.2.2.1,A.i h.2.2.2.2.2.1,.string h.2.2.2.2.2.2])] ?_;refine J5 (dj:=63) rfl rfl ?_;refine Va 267 [] a (o_a9 h y.1 y.2.1 y.2.2.1 y.2.2.2.1 y.2.2.2.2.1 y.2.2.2.2.2.1 y.2.2.2.2.2.2) .nil ?_;rintro aa - a _ _ ⟨rfl,rfl⟩;refine Jq ?_;refine Jf [] [] [.on .n,.n,.n] [(68,.bool (!aa))] ?_;refine J7 (j:=68) rfl a (fun a=>?_) (fun a=>?_)
   ·refine Jf [] [] [.off,.off,.off,.off,.off,.off,.off,.off,.n] [(77,.bool true)] (Je ?_);exact J2 ⟨true,rfl,rfl,a⟩
   refine Jf [221,223] [] [.on .n,.on (.b 0 2),.on .n,.on .n,.sy .n,.sy (.b 1 1),.sy .n,.on .pk,.n] [(77,.bool (bif decide (h.2.2.1=2)then decide (k.2.1≠11)else false))] (Je ?_);exact J2 ⟨(bif decide (h.2.2.1=2)then decide (k.2.1≠11)else false),rfl,rfl,a⟩
  rintro _ _ ⟨O,rfl,rfl,a⟩;rw[F.ba]at a;refine V0 a ?_ ?_<;>intro hb a
  ·refine Jc 1 ?_;refine Ji 1 [(4,.bool false)] (Jd 1 ?_);obtain rfl:=Jm a;exact Jo [] ⟨rfl,rfl⟩
  refine Jc 2 ?_;refine Jf [221] [] [.n,.n,.b 0 1] [(78,.map (some I)),(80,A.i h.2.1)] ?_;refine V2 (t:=Z.Ty.bool) 45 [] (cs:=[.bool true]) (u:=true) ky3 h.2.1 rfl ?_;refine Jk 2 ?_;have⟨a2,a⟩:=Ve a;refine Vy 2 [Z.R64 (s+1)] [(20,A.i (s+1))] a2 (Je ?_);exact J2 ⟨_,Ql _,⟨(Z.mins E h.2.1 true),(s+1),rfl,rfl,(Jj a2),a⟩⟩
 refine Jc 3 ?_;refine Ji 1 [(4,.bool true)] (Jd 1 ?_);obtain rfl:=Jm a;exact Jo [] ⟨rfl,rfl⟩
def F.ca (a:Bool):Option Bool:=some a
def F.dK (h:(List (Int×D54)))(a:D27):Option Bool:=if(bif bif decide ((a.1.length:Int)≤32)then decide ((a.2.1.length:Int)≤32)else false then decide ((a.2.2.length:Int)≤16)else false)=true then((F.dz h a).bind fun k=>(if k=true then((F.dQ h a).bind fun o=>(if o=true then((F.cX h a).bind fun p=>(F.ca p))else(F.ca false)))else(F.ca false)))else(F.ca false)
theorem o_bo(k:(List (Int×D54)))(a:D27)(r:Bool)(h:F.dK k a=some r):
    A.Ct Tryz.prog 76 [.map (some b0_),.agg #[.slice A1_ a.1.length c2_,.slice A3_ a.2.1.length c4_,.slice A5_ a.2.2.length c6_]] [(0,.lmp Int (fun i:Int=>A.i i) T54 true b0_ k),(1,.sh A.TI [.slice A1_ a.1.length c2_] a.1),(2,.sh (.slice T54) [.slice A3_ a.2.1.length c4_] a.2.1),(3,.sh (.slice T42) [.slice A5_ a.2.2.length c6_] a.2.2)] [] (fun v H'=>v=.bool r∧H'=[]):=by
 refine Jg Tryz.func76 rfl Tryz.ntmps76 rfl fun B E=>?_;rw[F.dK]at h;refine Jc 1 ?_;refine Jl 4 (cs:=[.slice A1_ a.1.length c2_,.slice A3_ a.2.1.length c4_,.slice A5_ a.2.2.length c6_]) fun I=>?_;refine Ji 1 [] (Jd 1 ?_);refine Jp [] [] (fun u x=>∃(o:Bool),u=[(4,.bool o)]∧x=[]∧F.ca o=some r) ?_ ?_
 ·refine Jc 0 ?_;refine Jf [4] [] [.n,.b 0 0,.n,.n,.n,.sy .n,.sy (.b 0 1),.sy .n,.sy .n,.pk,.n,.sy .n,.sy (.b 0 2),.sy .n,.sy .n,.pk,.n] [(21,.bool (bif bif decide ((a.1.length:Int)≤32)then decide ((a.2.1.length:Int)≤32)else false then decide ((a.2.2.length:Int)≤16)else false))] ?_;refine J7 (j:=21) rfl h (fun h=>?_) (fun h=>?_)
  ·refine Jf [4] [] [.on .n,.on (.b 0 0)] [(22,.map (some b0_)),(23,.agg #[.slice A1_ a.1.length c2_,.slice A3_ a.2.1.length c4_,.slice A5_ a.2.2.length c6_])] ?_;refine J5 (dj:=21) rfl rfl ?_;refine Va 5 [] h (o_aZ A1_ A3_ A5_ b0_ c2_ c4_ c6_ k a) (.s 0 (.s 1 (.s 2 (.s 3 .nil)))) ?_;rintro y - h _ _ ⟨rfl,rfl⟩;refine Jq ?_;refine Ji 2 [(26,.bool y)] ?_;refine J7 (j:=26) rfl h (fun h=>?_) (fun h=>?_)
   ·refine Jf [4] [] [.on .n,.on (.b 0 0)] [(27,.map (some b0_)),(28,.agg #[.slice A1_ a.1.length c2_,.slice A3_ a.2.1.length c4_,.slice A5_ a.2.2.length c6_])] ?_;refine J5 (dj:=26) rfl rfl ?_;refine Va 45 [] h (o_a8 A1_ A3_ A5_ b0_ c2_ c4_ c6_ k a) (.s 0 (.s 1 (.s 2 (.s 3 .nil)))) ?_;rintro z - h _ _ ⟨rfl,rfl⟩;refine Jq ?_;refine Ji 2 [(31,.bool z)] ?_;refine J7 (j:=31) rfl h (fun h=>?_) (fun h=>?_)
    ·refine Jf [4] [] [.on .n,.on (.b 0 0)] [(32,.map (some b0_)),(33,.agg #[.slice A1_ a.1.length c2_,.slice A3_ a.2.1.length c4_,.slice A5_ a.2.2.length c6_])] ?_;refine J5 (dj:=31) rfl rfl ?_;refine Va 85 [] h (o_a0 A1_ A3_ A5_ b0_ c2_ c4_ c6_ k a) (.s 0 (.s 1 (.s 2 (.s 3 .nil)))) ?_;rintro p - h _ _ ⟨rfl,rfl⟩;refine Jq ?_;refine Ji 2 [(4,.bool p)] (Je ?_);exact J2 ⟨p,rfl,rfl,h⟩
    refine Jf [] [] [.off,.off,.off,.n,.n] [(4,.bool false)] (Je ?_);exact J2 ⟨false,rfl,rfl,h⟩
   refine Jf [] [] [.off,.off,.off,.n,.n,.off,.off,.off,.n,.n] [(4,.bool false)] (Je ?_);exact J2 ⟨false,rfl,rfl,h⟩
  refine Jf [] [] [.off,.off,.off,.n,.n,.off,.off,.off,.n,.n,.off,.off,.off,.n,.n] [(4,.bool false)] (Je ?_);exact J2 ⟨false,rfl,rfl,h⟩
 rintro _ _ ⟨o,rfl,rfl,h⟩;rw[F.ca]at h;obtain rfl:=Jm h;exact Jo [] ⟨rfl,rfl⟩
def F.cP (h:(List D54)→Int→Option D23)(a:Int)(k:List D54):Option D23:=A.gd (Z.R64 (a+1)) (h k (a+1))
def F.a2 (h:List (Int×D54)):Nat→(List D54)→Int→Option D23
 |0,_,_=>none
 |f+1,k,a=>if a<256 then(A.lt (Z.mget ((0,0,[],(0,0,(ByteArray.mk #[])),(ByteArray.mk #[]),0,0):D54) h a) fun o=>(if(Z.mhas h a)=true then(A.gd ((List.length (α:=D54) k+List.length (α:=D54) [o])*104≤140737488355328) (F.cP (F.a2 h f) a (k++[o])))else(F.cP (F.a2 h f) a k)))else(some k)
def F.bo (h:D27):Nat→(List (Int×D54))→Int→Option D23
 |0,_,_=>none
 |f+1,k,a=>if a<(h.2.1.length:Int)then((A.ix h.2.1 a).bind fun o=>(A.gd (Z.R64 (a+1)) ((F.bo h f) (Z.mins k o.1 o) (a+1))))else(F.a2 k A.FU [] 0)
def F.bR (a:D27):Nat→(List (Int×D54))→Int→Option D23
 |0,_,_=>none
 |f+1,k,h=>if h<(a.1.length:Int)then((A.ix a.1 h).bind fun o=>(A.gd (Z.R64 (h+1)) ((F.bR a f) (Z.mdel k o) (h+1))))else(F.bo a A.FU k 0)
def F.du (a:D23)(h:D27):Option D23:=(F.cK a).bind fun k=>(F.bR h A.FU k 0)
theorem o_ba(U:D23)(s:D27)(r:D23)(h:F.du U s=some r):
    A.Ct Tryz.prog 77 [.agg #[.slice A0_ U.length c1_],.agg #[.slice A2_ s.1.length c3_,.slice A4_ s.2.1.length c5_,.slice A6_ s.2.2.length c7_]] [(0,.sh (.slice T54) [.slice A0_ U.length c1_] U),(1,.sh A.TI [.slice A2_ s.1.length c3_] s.1),(2,.sh (.slice T54) [.slice A4_ s.2.1.length c5_] s.2.1),(3,.sh (.slice T42) [.slice A6_ s.2.2.length c7_] s.2.2)] [] (fun v H'=>∃(A0':Option Addr) (c1':Nat),v=.agg #[.slice A0' r.length c1']∧H'=[(0,.sh (.slice T54) [.slice A0' r.length c1'] r)]):=by
 refine Jg Tryz.func77 rfl Tryz.ntmps77 rfl fun w0 F0=>?_;rw[F.du]at h;refine Jc 1 ?_;refine Jl 4 (cs:=[.slice A0_ U.length c1_]) fun g1=>?_;refine Jl 5 (cs:=[.slice A2_ s.1.length c3_,.slice A4_ s.2.1.length c5_,.slice A6_ s.2.2.length c7_]) fun g2=>?_;refine Jh 6 (cs:=l4d) Tryz.zeroValue24 fun g3=>?_;refine Jk 2 ?_;refine Jf [4] [] [.n,.b 0 0] [(15,.slice A0_ U.length c1_)] ?_;refine Va 7 [] h (o_u A0_ c1_ U) (.l 0 .nil) ?_;rintro r4 - h _ _ ⟨X,rfl,rfl⟩;refine Jq ?_;refine Ji 1 [(5,.map (some X))] (Jk 3 ?_);refine Jf [5] [] [.n,.b 0 0,.n,.n] [(18,.slice A2_ s.1.length c3_),(19,A.i (s.1.length:Int)),(20,A.i 0)] (Jd 2 ?_);refine J3 [3,4,5,18,19] [1,2,3,5,6] (fun f V W=>∃(Y:List (Int×D54)),∃(J:Int),V=[(20,A.i J)]∧W=[(7,.mp Int (fun i:Int=>A.i i) T54 true X Y)]∧A.h6 J∧F.bR s f Y J=some r) ⟨r4,0,rfl,rfl,Js,h⟩ ?_;rintro ad _ _ ⟨Y,J,rfl,rfl,an,h⟩;rcases ad with _|ad
 ·exact J1 h
 rw[F.bR]at h;refine Jc 1 ?_;refine Ji 1 [(21,.bool (decide (J<(s.1.length:Int))))] (Jd 2 ?_);refine J9 h ?_ ?_<;>intro hb h
 ·refine Jc 5 ?_;have⟨a4,ak,h⟩:=Vo h;refine J4 1 187 ak fun ao=>?_;intro ap aq;refine Jf [] [187] [.e 0 0,.n] [(7,A.i a4)] (Jk 1 ?_);refine Ji 2 [(24,.map (some X)),(25,A.i a4)] ?_;refine A.AL.mdl 7 [] ky3 a4 ?_;refine Jk 2 ?_;have⟨ae,h⟩:=Ve h;refine Vy 2 [Z.R64 (J+1)] [(20,A.i (J+1))] ae (Je ?_);exact J2 ⟨_,Ql _,⟨(Z.mdel Y a4),(J+1),rfl,rfl,(Jj ae),h⟩⟩
 refine Jc 4 ?_;refine Jf [5] [] [.n,.b 0 1,.n,.n] [(28,.slice A4_ s.2.1.length c5_),(29,A.i (s.2.1.length:Int)),(30,A.i 0)] (Jd 2 ?_);refine J3 [4,5,28,29] [2,6] (fun f V W=>∃(B:List (Int×D54)),∃(L:Int),V=[(30,A.i L)]∧W=[(7,.mp Int (fun i:Int=>A.i i) T54 true X B)]∧A.h6 L∧F.bo s f B L=some r) ⟨Y,0,rfl,rfl,Js,h⟩ ?_;rintro af _ _ ⟨B,L,rfl,rfl,ar,h⟩;rcases af with _|af
 ·exact J1 h
 rw[F.bo]at h;refine Jc 1 ?_;refine Ji 1 [(31,.bool (decide (L<(s.2.1.length:Int))))] (Jd 2 ?_);refine J9 h ?_ ?_<;>intro hb h
 ·refine Jc 5 ?_;have⟨o,al,h⟩:=Vo h;refine J4 2 234 al fun N=>?_;intro a5 a6 au av;refine Jf [] [234] [.e 0 0] [(33,.agg #[A.i o.1,A.i o.2.1,.slice a5 o.2.2.1.length a6,A.i o.2.2.2.1.1,A.i o.2.2.2.1.2.1,.string o.2.2.2.1.2.2,.string o.2.2.2.2.1,A.i o.2.2.2.2.2.1,A.i o.2.2.2.2.2.2])] ?_;refine Jh 236 (cs:=l4a) Tryz.zeroValue55 fun aw=>?_;refine Jw 236 [] [A.i o.1,A.i o.2.1,.slice a5 o.2.2.1.length a6,A.i o.2.2.2.1.1,A.i o.2.2.2.1.2.1,.string o.2.2.2.1.2.2,.string o.2.2.2.2.1,A.i o.2.2.2.2.2.1,A.i o.2.2.2.2.2.2] ?_;refine Jk 1 ?_;refine Jf [236] [] [.n,.n,.b 0 0,.b 0 0] [(34,.map (some X)),(36,A.i o.1),(37,.agg #[A.i o.1,A.i o.2.1,.slice a5 o.2.2.1.length a6,A.i o.2.2.2.1.1,A.i o.2.2.2.1.2.1,.string o.2.2.2.1.2.2,.string o.2.2.2.2.1,A.i o.2.2.2.2.2.1,A.i o.2.2.2.2.2.2])] ?_;refine V2 (t:=T54) 7 [] (cs:=[A.i o.1,A.i o.2.1,.slice a5 o.2.2.1.length a6,A.i o.2.2.2.1.1,A.i o.2.2.2.1.2.1,.string o.2.2.2.1.2.2,.string o.2.2.2.2.1,A.i o.2.2.2.2.2.1,A.i o.2.2.2.2.2.2]) (u:=o) ky3 o.1 ⟨⟨rfl,N.1⟩,⟨rfl,N.2.1⟩,.inl ⟨235,rfl⟩,⟨⟨rfl,N.2.2.2.1.1⟩,⟨rfl,N.2.2.2.1.2.1⟩,⟨rfl,N.2.2.2.1.2.2⟩⟩,⟨rfl,N.2.2.2.2.1⟩,⟨rfl,N.2.2.2.2.2.1⟩,⟨rfl,N.2.2.2.2.2.2⟩⟩ ?_;refine Jk 2 ?_;have⟨ag,h⟩:=Ve h;refine Vy 2 [Z.R64 (L+1)] [(30,A.i (L+1))] ag (Je ?_);exact J2 ⟨_,Ql _,⟨(Z.mins B o.1 o),(L+1),rfl,rfl,(Jj ag),h⟩⟩
 refine Jc 3 ?_;refine Jh 237 (cs:=l4d) Tryz.zeroValue24 fun ab=>?_;refine Jk 3 ?_;refine Ji 1 [(39,A.i 0)] (Jd 2 ?_);refine V1 247 T54 55 ?_;refine J3 [4,5,10] [6,7] (fun f V W=>∃(y:List D54),∃(x:Int),∃(E:Option Addr),∃(I:Nat),V=[(39,A.i x)]∧W=[(237,.blk ab 24 [.slice E y.length I]),(247,.own T54 55 E I y)]∧A.h6 x∧F.a2 B f y x=some r) ⟨[],0,none,0,rfl,rfl,Js,h⟩ ?_;rintro ac _ _ ⟨y,x,E,I,rfl,rfl,ax,h⟩;rcases ac with _|ac
 ·exact J1 h
 rw[F.a2]at h;refine Jc 1 ?_;refine Ji 1 [(40,.bool (decide (x<256)))] (Jd 2 ?_);refine J9 h ?_ ?_<;>intro hb h
 ·refine V5 2 ?_;refine Jp [4,5,10,39] [6,7] (fun V W=>∃(a3:List D54),∃(a7:Option Addr),∃(a8:Nat),V=[]∧W=[(237,.blk ab 24 [.slice a7 a3.length a8]),(247,.own T54 55 a7 a8 a3)]∧F.cP (F.a2 B ac) x a3=some r) ?_ ?_
  ·refine Jc 2 ?_;refine Ji 2 [(11,A.i x)] (Jk 2 ?_);refine Ji 2 [(43,.map (some X)),(44,A.i x)] ?_;obtain⟨p,am,h⟩:=Jz h;refine Uh (t:=T54) 7 254 (z:=((0,0,[],(0,0,(ByteArray.mk #[])),(ByteArray.mk #[]),0,0):D54)) (zs:=l4a) ky3 x Tryz.zeroValue55 ⟨⟨rfl,by decide⟩,⟨rfl,by decide⟩,(.inr ⟨rfl,rfl⟩),⟨⟨rfl,by decide⟩,⟨rfl,by decide⟩,⟨rfl,by decide⟩⟩,⟨rfl,by decide⟩,⟨rfl,by decide⟩,⟨rfl,by decide⟩⟩ am fun O=>?_;intro a9 aa;refine Ji 3 [(46,.agg #[A.i p.1,A.i p.2.1,.slice a9 p.2.2.1.length aa,A.i p.2.2.2.1.1,A.i p.2.2.2.1.2.1,.string p.2.2.2.1.2.2,.string p.2.2.2.2.1,A.i p.2.2.2.2.2.1,A.i p.2.2.2.2.2.2]),(47,.bool (Z.mhas B x))] ?_;refine Jh 255 (cs:=l4a) Tryz.zeroValue55 fun ay=>?_;refine Jw 255 [] [A.i p.1,A.i p.2.1,.slice a9 p.2.2.1.length aa,A.i p.2.2.2.1.1,A.i p.2.2.2.1.2.1,.string p.2.2.2.1.2.2,.string p.2.2.2.2.1,A.i p.2.2.2.2.2.1,A.i p.2.2.2.2.2.2] ?_;refine Ji 1 [(13,.bool (Z.mhas B x))] (Jk 2 ?_);refine Ji 1 [(48,.bool (Z.mhas B x))] (Jd 1 ?_);refine V0 h ?_ ?_<;>intro hb h
   ·refine Jc 0 ?_;refine Jf [237,255] [] [.n,.b 0 0,.b 1 0] [(50,.slice E y.length I),(51,.agg #[A.i p.1,A.i p.2.1,.slice a9 p.2.2.1.length aa,A.i p.2.2.2.1.1,A.i p.2.2.2.1.2.1,.string p.2.2.2.1.2.2,.string p.2.2.2.2.1,A.i p.2.2.2.2.2.1,A.i p.2.2.2.2.2.2])] ?_;refine J6 256 (ty:=T54) (cs:=[A.i p.1,A.i p.2.1,.slice a9 p.2.2.1.length aa,A.i p.2.2.2.1.1,A.i p.2.2.2.1.2.1,.string p.2.2.2.1.2.2,.string p.2.2.2.2.1,A.i p.2.2.2.2.2.1,A.i p.2.2.2.2.2.2]) [p] ⟨⟨⟨rfl,O.1⟩,⟨rfl,O.2.1⟩,.inl ⟨254,rfl⟩,⟨⟨rfl,O.2.2.2.1.1⟩,⟨rfl,O.2.2.2.1.2.1⟩,⟨rfl,O.2.2.2.1.2.2⟩⟩,⟨rfl,O.2.2.2.2.1⟩,⟨rfl,O.2.2.2.2.2.1⟩,⟨rfl,O.2.2.2.2.2.2⟩⟩,rfl⟩ (fun az=>?_) Tryz.zeroValue55 Tryz.sizeOf55
    have⟨hl50,h⟩:=Ve h;refine Vh (k:=247) [] (Vz (k:=256) rfl) Qit hl50 fun ah ai=>?_;refine Ji 1 [(54,.pointer (some ⟨ab,0,none⟩))] ?_;refine Jw 237 [] [.slice ah ((y++[p]).length) ai] ?_;refine V4 1 ?_;exact J2 ⟨(y++[p]),ah,ai,rfl,rfl,h⟩
   refine Vi 2 ?_;exact J2 ⟨y,E,I,rfl,rfl,h⟩
  rintro _ _ ⟨a3,a7,a8,rfl,rfl,h⟩;rw[F.cP]at h;refine Jc 0 ?_;have⟨aj,h⟩:=Ve h;refine Vy 2 [Z.R64 (x+1)] [(39,A.i (x+1))] aj (Je ?_);exact J2 ⟨_,Ql _,⟨a3,(x+1),a7,a8,rfl,rfl,(Jj aj),h⟩⟩
 refine Jc 3 ?_;refine Jf [237] [] [.b 0 0] [(56,.agg #[.slice E y.length I])] ?_;refine Jw 6 [] [.slice E y.length I] ?_;refine Jd 1 ?_;obtain rfl:=Jm h;refine A.frz 247 [] ?_;exact Vc [(0,247)] (.agg #[.slice E y.length I]) (fun a w hf hh=>Vt rfl (Vp hf rfl Tryz.isAgg24 Tryz.sizeOf24 (Jv hh 6) rfl)) (⟨E,I,rfl,rfl⟩)
def F.aI (a:(List D54)):Option (List D54):=A.gd ((List.length (α:=D54) []+List.length (α:=D54) a)*104≤140737488355328) (some ([]++a))
theorem o_t(h:(List D54))(r:(List D54))(a:F.aI h=some r):
    A.Ct Tryz.prog 109 [.slice A0_ h.length c1_] [(0,.ln T54 A0_ c1_ h)] [] (fun v H'=>∃(A0':Option Addr) (c1':Nat),v=.slice A0' r.length c1'∧H'=[(0,.own T54 55 A0' c1' r)]):=by
 refine Jg Tryz.func109 rfl Tryz.ntmps109 rfl fun u x=>?_;rw[F.aI]at a;refine Jc 1 ?_;refine Ji 1 [] (Jk 3 ?_);refine Ji 2 [(4,.bool A0_.isNone)] (Jd 1 ?_);refine A.AX.cnn rfl (fun o=>?_) (fun o=>?_)
 ·refine A.nilL 0 o fun o=>?_;subst o
  replace a:some []=some r:=by simpa[A.gd,A.ix] using a
  refine Jc 1 ?_;refine Ji 1 [(2,.slice none 0 0)] (Jd 1 ?_);obtain rfl:=Jm a;refine V1 2 T54 55 ?_;exact Jo [(0,2)] ⟨none,0,rfl,rfl⟩
 refine Jc 3 ?_;refine A.AL.bs0 1 T54 (fun y=>?_) Tryz.sizeOf55
 refine Ji 1 [(6,.slice A0_ h.length c1_)] ?_;have⟨hl4,a⟩:=Ve a;refine Vh (k:=1) [] (A.rowL (k:=0) rfl) Qit hl4 fun p s=>?_;refine Ji 1 [(2,.slice p (([]++h).length) s)] (Jd 1 ?_);obtain rfl:=Jm a;exact Jo [(0,1)] ⟨p,s,rfl,rfl⟩
def F.bg (a:(List Int)):Option (List Int):=A.gd ((List.length (α:=Int) []+List.length (α:=Int) a)*8≤140737488355328) (some ([]++a))
theorem o_ai(h:(List Int))(r:(List Int))(a:F.bg h=some r):
    A.Ct Tryz.prog 110 [.slice A0_ h.length c1_] [(0,.ln A.ti A0_ c1_ h)] [] (fun v H'=>∃(A0':Option Addr) (c1':Nat),v=.slice A0' r.length c1'∧H'=[(0,.own A.ti 3 A0' c1' r)]):=by
 refine Jg Tryz.func110 rfl Tryz.ntmps110 rfl fun u x=>?_;rw[F.bg]at a;refine Jc 1 ?_;refine Ji 1 [] (Jk 3 ?_);refine Ji 2 [(4,.bool A0_.isNone)] (Jd 1 ?_);refine A.AX.cnn rfl (fun o=>?_) (fun o=>?_)
 ·refine A.nilL 0 o fun o=>?_;subst o
  replace a:some []=some r:=by simpa[A.gd,A.ix] using a
  refine Jc 1 ?_;refine Ji 1 [(2,.slice none 0 0)] (Jd 1 ?_);obtain rfl:=Jm a;refine V1 2 A.ti 3 ?_;exact Jo [(0,2)] ⟨none,0,rfl,rfl⟩
 refine Jc 3 ?_;refine A.AL.bs0 1 A.ti (fun y=>?_) Tryz.sizeOf3
 refine Ji 1 [(6,.slice A0_ h.length c1_)] ?_;have⟨hl4,a⟩:=Ve a;refine Vh (k:=1) [] (A.rowL (k:=0) rfl) inf3 hl4 fun p s=>?_;refine Ji 1 [(2,.slice p (([]++h).length) s)] (Jd 1 ?_);obtain rfl:=Jm a;exact Jo [(0,1)] ⟨p,s,rfl,rfl⟩
def F.bB (o:(List D54)):Nat→(List D54)→Int→Option D23
 |0,_,_=>none
 |f+1,k,a=>if a<(o.length:Int)then((A.ix k a).bind fun p=>((F.bg p.2.2.1).bind fun s=>((A.ix k a).bind fun h=>(A.gd (Z.R64 (a+1)) ((F.bB o f) (k.set a.toNat (h.1,h.2.1,s,h.2.2.2.1,h.2.2.2.2.1,h.2.2.2.2.2.1,h.2.2.2.2.2.2)) (a+1))))))else(some k)
def F.dA (h:D23):Option D23:=(F.aI h).bind fun a=>(F.bB a A.FU a 0)
theorem o_a1(B:D23)(r:D23)(k:F.dA B=some r):
    A.Ct Tryz.prog 78 [.agg #[.slice A0_ B.length c1_]] [(0,.sh (.slice T54) [.slice A0_ B.length c1_] B)] [] (fun v H'=>∃(A0':Option Addr) (c1':Nat),v=.agg #[.slice A0' r.length c1']∧H'=[(0,.sh (.slice T54) [.slice A0' r.length c1'] r)]):=by
 refine Jg Tryz.func78 rfl Tryz.ntmps78 rfl fun w0 F0=>?_;rw[F.dA]at k;refine Jc 1 ?_;refine Jl 1 (cs:=[.slice A0_ B.length c1_]) fun X=>?_;refine Jh 2 (cs:=l4d) Tryz.zeroValue24 fun g2=>?_;refine Jk 2 ?_;refine Jf [1] [] [.n,.b 0 0] [(5,.slice A0_ B.length c1_)] ?_;refine Va 3 [] k (o_t A0_ c1_ B) (.l 0 .nil) ?_;rintro p - k _ _ ⟨u,x,rfl,rfl⟩;refine Jq ?_;refine Ji 1 [(7,.pointer (some ⟨X,0,none⟩))] ?_;refine Jw 1 [] [.slice u p.length x] ?_;refine Jk 3 ?_;refine Jf [1] [] [.n,.b 0 0,.n,.n] [(10,A.i (p.length:Int)),(11,A.i 0)] (Jd 2 ?_);refine J3 [1,2,10] [1,2] (fun f Y nh=>∃(y:List D54),∃(s:Int),Y=[(11,A.i s)]∧nh=[(3,.own T54 55 u x y)]∧p.length=y.length∧A.h6 s∧F.bB p f y s=some r) ⟨p,0,rfl,rfl,rfl,Js,k⟩ ?_;rintro J _ _ ⟨y,s,rfl,rfl,hn10,a7,k⟩;rcases J with _|J
 ·exact J1 k
 rw[F.bB]at k;refine Jc 1 ?_;refine Ji 1 [(12,.bool (decide (s<(p.length:Int))))] (Jd 2 ?_);refine J9 k ?_ ?_<;>intro hb k
 ·refine Jc 5 ?_;refine Ji 2 [(3,A.i s)] (Jd 1 ?_);refine Vb mixed 12 13 (A.mb 13 0) ?_;refine J8 Jy [] [1,2,3] [1] [] (A.mb 13 63) 7 [(0,.n),(2,.n),(3,.n),(5,.n),(1,.b 0 0),(4,.b 0 0)] [(16,A.i s),(19,A.i s),(15,.slice u p.length x),(18,.slice u p.length x)] ?_;refine A.cst 18 (V3 (show p.length=y.length from hn10)) ?_;have⟨L,N,k⟩:=Vo k;refine V7 3 131 N fun a8=>?_;intro O U a9 a1;refine Vj Jy [1,2,3] l4h 6 (A.mb 13 127) rfl (fun a w hf hh=>Uc (t:=T54) N a1 hf) ?_;refine J8 Jy l4h l4h [] [131] (A.mb 13 511) 4 [(7,.n),(8,.e 0 2)] [(22,.slice O L.2.2.1.length U)] ?_;refine Jr 9 ?_;refine Va 133 [] k (o_ai O U L.2.2.1) (.l 132 .nil) ?_;rintro E - k _ _ ⟨a2,a3,rfl,rfl⟩;refine Jq ?_;refine Ju (A.mb 13 1023) l4h ?_;refine A.cst 15 (V3 (show p.length=y.length from hn10)) ?_;have⟨h,I,k⟩:=Vo k;refine V7 3 173 I fun z=>?_;intro a4 a5 a6 V;refine Vj Jy l4h l4g 10 (A.mb 13 2047) rfl (fun a w hf hh=>Uc (t:=T54) I V hf) ?_;refine J8 Jy l4g l4g [] [] (A.mb 13 4095) 1 [(11,.n)] [(25,.pointer (some ⟨a6,s.toNat*(T54).size+2,none⟩))] ?_;refine Jr 12 ?_;refine A.frz 133 [] ?_;refine A.AL.setel 3 173 [131,173] (o:=2) (m:=1) (t:=T54) (new:=[.slice a2 E.length a3]) (es:=[A.i h.1,A.i h.2.1,.slice a4 h.2.2.1.length a5,A.i h.2.2.2.1.1,A.i h.2.2.2.1.2.1,.string h.2.2.2.1.2.2,.string h.2.2.2.2.1,A.i h.2.2.2.2.2.1,A.i h.2.2.2.2.2.2]) (h.1,h.2.1,E,h.2.2.2.1,h.2.2.2.2.1,h.2.2.2.2.2.1,h.2.2.2.2.2.2) I V ⟨⟨rfl,z.1⟩,⟨rfl,z.2.1⟩,.inl ⟨133,rfl⟩,⟨⟨rfl,z.2.2.2.1.1⟩,⟨rfl,z.2.2.2.1.2.1⟩,⟨rfl,z.2.2.2.1.2.2⟩⟩,⟨rfl,z.2.2.2.2.1⟩,⟨rfl,z.2.2.2.2.2.1⟩,⟨rfl,z.2.2.2.2.2.2⟩⟩ ?_;refine Ud (A.mb 13 8191) ?_;refine Jt ?_;refine A.el 2 ?_;have⟨W,k⟩:=Ve k;refine Vy 2 [Z.R64 (s+1)] [(11,A.i (s+1))] W (Je ?_);exact J2 ⟨_,Ql _,⟨(y.set s.toNat (h.1,h.2.1,E,h.2.2.2.1,h.2.2.2.2.1,h.2.2.2.2.2.1,h.2.2.2.2.2.2)),(s+1),rfl,rfl,(by rw[Xc];exact hn10),(Jj W),k⟩⟩
 refine Jc 3 ?_;refine Jf [1] [] [.b 0 0] [(27,.agg #[.slice u p.length x])] ?_;refine Jw 2 [] [.slice u p.length x] ?_;refine Jd 1 ?_;obtain rfl:=Jm k;refine A.frz 3 [] ?_;exact Vc [(0,3)] (.agg #[.slice u p.length x]) (fun a w hf hh=>Vt rfl (Vp hf rfl Tryz.isAgg24 Tryz.sizeOf24 (Jv hh 2) rfl)) (by rw[show p.length=y.length from hn10];exact⟨u,x,rfl,rfl⟩)
def F.z (k:D23)(a:D27):Nat→Int→Option (D23×Int)
 |0,_=>none
 |f+1,h=>if h<(a.2.1.length:Int)then((A.ix a.2.1 h).bind fun o=>(if(bif decide (o.1<1)then true else decide ((255:Int)<o.1))=true then(some ([],80))else(A.gd (Z.R64 (h+1)) ((F.z k a f) (h+1)))))else((F.du k a).bind fun p=>((F.cV p).bind fun s=>(if s≠0 then(some ([],s))else((F.dA p).bind fun u=>(some (u,0))))))
def F.cY (a:D23)(h:D27):Option (D23×Int):=(F.cV a).bind fun k=>(if k≠0 then(some ([],k))else((F.cK a).bind fun o=>((F.dK o h).bind fun p=>(if(!p)=true then(some ([],90))else(F.z a h A.FU 0)))))
theorem o_a2(p:D23)(k:D27)(r:D23×Int)(h:F.cY p k=some r):
    A.Ct Tryz.prog 41 [.agg #[.slice A0_ p.length c1_],.agg #[.slice A2_ k.1.length c3_,.slice A4_ k.2.1.length c5_,.slice A6_ k.2.2.length c7_]] [(0,.sh (.slice T54) [.slice A0_ p.length c1_] p),(1,.sh A.TI [.slice A2_ k.1.length c3_] k.1),(2,.sh (.slice T54) [.slice A4_ k.2.1.length c5_] k.2.1),(3,.sh (.slice T42) [.slice A6_ k.2.2.length c7_] k.2.2),(4,.el none 0 0 A.tabF),(5,.el none 1 0 A.tabA)] [] (fun v H'=>∃(A0':Option Addr) (c1':Nat),v=.tuple #[.agg #[.slice A0' r.1.length c1'],A.i r.2]∧H'=[(0,.sh (.slice T54) [.slice A0' r.1.length c1'] r.1)]∧A.h6 r.2):=by
 refine Jg Tryz.func41 rfl Tryz.ntmps41 rfl fun w0 F0=>?_;rw[F.cY]at h;refine Jc 1 ?_;refine Jl 6 (cs:=[.slice A0_ p.length c1_]) fun g1=>?_;refine Jl 7 (cs:=[.slice A2_ k.1.length c3_,.slice A4_ k.2.1.length c5_,.slice A6_ k.2.2.length c7_]) fun g2=>?_;refine Jh 8 (cs:=l4d) Tryz.zeroValue24 fun g3=>?_;refine Ji 1 [] (Jk 3 ?_);refine Jf [6] [] [.b 0 0] [(11,.agg #[.slice A0_ p.length c1_])] ?_;refine Va 9 [] h (o_ap A0_ c1_ p) (.s 0 (.s 4 (.s 5 .nil))) ?_;rintro x - h _ _ ⟨rfl,rfl,hr6⟩;refine Jq ?_;refine Ji 1 [(6,A.i x)] (Jk 2 ?_);refine Ji 2 [(14,.bool (decide (x≠0)))] (Jd 1 ?_);refine J9 h ?_ ?_<;>intro J h
 ·refine Jc 1 ?_;refine Ji 2 [(15,.agg #[.slice none 0 0]),(16,A.i x)] ?_;refine Jw 8 [] [.slice none 0 0] ?_;refine Ji 1 [(5,A.i x)] (Jd 1 ?_);obtain rfl:=Jm h;refine A.snil 49 T54 ?_;exact Vc [(0,49)] (.tuple #[.agg #[.slice none 0 0],A.i x]) (fun a w hf hh=>Vf rfl (Vp hf rfl Tryz.isAgg24 Tryz.sizeOf24 (Jv hh 8) rfl) (Vw hf rfl)) (⟨none,0,rfl,rfl,hr6⟩)
 refine V5 4 ?_;refine Vb mixed 6 6 (A.mb 6 0) ?_;refine J8 Jy [] l4f [7,6] [] (A.mb 6 11) 3 [(0,.n),(3,.b 0 0),(1,.b 1 0)] [(20,.agg #[.slice A2_ k.1.length c3_,.slice A4_ k.2.1.length c5_,.slice A6_ k.2.2.length c7_]),(18,.slice A0_ p.length c1_)] ?_;refine Jr 2 ?_;refine Va 50 [] h (o_u A0_ c1_ p) (.l 0 .nil) ?_;rintro Y - h _ _ ⟨b9,rfl,rfl⟩;refine Jq ?_;refine Ju (A.mb 6 15) l4f ?_;refine Jr 4 ?_;refine Va 90 [] h (o_bo A2_ A4_ A6_ b9 c3_ c5_ c7_ Y k) (.lm 50 (.s 1 (.s 2 (.s 3 .nil)))) ?_;rintro a2 - h _ _ ⟨rfl,rfl⟩;refine Jq ?_;refine Ju (A.mb 6 31) l4f ?_;refine J8 Jy l4f [0,1,2,3,4,5,6,7,8,50] [] [] (A.mb 6 63) 0 [(5,.n)] [(22,.bool (!a2))] (Jt ?_);refine A.ex 1 ?_;refine V0 h ?_ ?_<;>intro J h
 ·refine Jc 1 ?_;refine Ji 1 [(23,.agg #[.slice none 0 0])] ?_;refine Jw 8 [] [.slice none 0 0] ?_;refine Ji 1 [(5,A.i 90)] (Jd 1 ?_);obtain rfl:=Jm h;refine A.snil 130 T54 ?_;exact Vc [(0,130)] (.tuple #[.agg #[.slice none 0 0],A.i 90]) (fun a w hf hh=>Vf rfl (Vp hf rfl Tryz.isAgg24 Tryz.sizeOf24 (Jv hh 8) rfl) (Vw hf rfl)) (⟨none,0,rfl,rfl,(Jn .i64 (90) rfl)⟩)
 refine Jc 4 ?_;refine Jf [7] [] [.n,.b 0 1,.n,.n] [(25,.slice A4_ k.2.1.length c5_),(26,A.i (k.2.1.length:Int)),(27,A.i 0)] (Jd 2 ?_);refine J3 [2,3,4,25,26] l4f (fun f nl nh=>∃(u:Int),nl=[(27,A.i u)]∧nh=[]∧A.h6 u∧F.z p k f u=some r) ⟨0,rfl,rfl,Js,h⟩ ?_;rintro O _ _ ⟨u,rfl,rfl,a4,h⟩;rcases O with _|O
 ·exact J1 h
 rw[F.z]at h;refine Jc 1 ?_;refine Ji 1 [(28,.bool (decide (u<(k.2.1.length:Int))))] (Jd 2 ?_);refine J9 h ?_ ?_<;>intro J h
 ·refine Jc 5 ?_;have⟨o,a3,h⟩:=Vo h;refine J4 2 383 a3 fun a5=>?_;intro U V a6 a7;refine Jf [] [383] [.e 0 0] [(30,.agg #[A.i o.1,A.i o.2.1,.slice U o.2.2.1.length V,A.i o.2.2.2.1.1,A.i o.2.2.2.1.2.1,.string o.2.2.2.1.2.2,.string o.2.2.2.2.1,A.i o.2.2.2.2.2.1,A.i o.2.2.2.2.2.2])] ?_;refine Jh 385 (cs:=l4a) Tryz.zeroValue55 fun a8=>?_;refine Jw 385 [] [A.i o.1,A.i o.2.1,.slice U o.2.2.1.length V,A.i o.2.2.2.1.1,A.i o.2.2.2.1.2.1,.string o.2.2.2.1.2.2,.string o.2.2.2.2.1,A.i o.2.2.2.2.2.1,A.i o.2.2.2.2.2.2] ?_;refine Jk 2 ?_;refine Jf [385] [] [.n,.b 0 0,.n,.n,.sy .n,.sy (.b 0 0),.sy .n,.pk] [(38,.bool (bif decide (o.1<1)then true else decide ((255:Int)<o.1)))] (Jd 1 ?_);refine V0 h ?_ ?_<;>intro J h
  ·refine Jc 1 ?_;refine Ji 1 [(39,.agg #[.slice none 0 0])] ?_;refine Jw 8 [] [.slice none 0 0] ?_;refine Ji 1 [(5,A.i 80)] (Jd 1 ?_);obtain rfl:=Jm h;refine A.snil 386 T54 ?_;exact Vc [(0,386)] (.tuple #[.agg #[.slice none 0 0],A.i 80]) (fun a w hf hh=>Vf rfl (Vp hf rfl Tryz.isAgg24 Tryz.sizeOf24 (Jv hh 8) rfl) (Vw hf rfl)) (⟨none,0,rfl,rfl,(Jn .i64 (80) rfl)⟩)
  refine Jc 3 ?_;have⟨W,h⟩:=Ve h;refine Vy 2 [Z.R64 (u+1)] [(27,A.i (u+1))] W (Je ?_);exact J2 ⟨_,Ql _,⟨(u+1),rfl,rfl,(Jj W),h⟩⟩
 refine Jc 3 ?_;refine Jf [6,7] [] [.b 0 0,.b 1 0] [(41,.agg #[.slice A0_ p.length c1_]),(42,.agg #[.slice A2_ k.1.length c3_,.slice A4_ k.2.1.length c5_,.slice A6_ k.2.2.length c7_])] ?_;refine Va 387 [] h (o_ba A0_ A2_ A4_ A6_ c1_ c3_ c5_ c7_ p k) (.s 0 (.s 1 (.s 2 (.s 3 .nil)))) ?_;rintro y - h _ _ ⟨B,E,rfl,rfl⟩;refine Jq ?_;refine Jh 427 (cs:=l4d) Tryz.zeroValue24 fun a9=>?_;refine Jw 427 [] [.slice B y.length E] ?_;refine Jk 3 ?_;refine Jf [427] [] [.b 0 0] [(44,.agg #[.slice B y.length E])] ?_;refine Va 428 [] h (o_ap B E y) (.s 387 (.s 4 (.s 5 .nil))) ?_;rintro I - h _ _ ⟨rfl,rfl,hr31⟩;refine Jq ?_;refine Ji 1 [(10,A.i I)] (Jk 2 ?_);refine Ji 2 [(47,.bool (decide (I≠0)))] (Jd 1 ?_);refine J9 h ?_ ?_<;>intro J h
 ·refine Jc 1 ?_;refine Ji 2 [(48,.agg #[.slice none 0 0]),(49,A.i I)] ?_;refine Jw 8 [] [.slice none 0 0] ?_;refine Ji 1 [(5,A.i I)] (Jd 1 ?_);obtain rfl:=Jm h;refine A.snil 468 T54 ?_;exact Vc [(0,468)] (.tuple #[.agg #[.slice none 0 0],A.i I]) (fun a w hf hh=>Vf rfl (Vp hf rfl Tryz.isAgg24 Tryz.sizeOf24 (Jv hh 8) rfl) (Vw hf rfl)) (⟨none,0,rfl,rfl,hr31⟩)
 refine Jc 3 ?_;refine Jf [427] [] [.b 0 0] [(50,.agg #[.slice B y.length E])] ?_;refine Va 469 [] h (o_a1 B E y) (.s 387 .nil) ?_;rintro X - h _ _ ⟨L,N,rfl,rfl⟩;refine Jq ?_;refine Jw 8 [] [.slice L X.length N] ?_;refine Ji 1 [(5,A.i 0)] (Jd 1 ?_);obtain rfl:=Jm h;exact Vc [(0,469)] (.tuple #[.agg #[.slice L X.length N],A.i 0]) (fun a w hf hh=>Vf rfl (Vp hf rfl Tryz.isAgg24 Tryz.sizeOf24 (Jv hh 8) rfl) (Vw hf rfl)) (⟨L,N,rfl,rfl,Js⟩)
def F.aF (a:D23)(h:D27):Option Int:=(F.cY a h).bind fun k=>(some k.2)
theorem o_ab(h:D23)(a:D27)(r:Int)(o:F.aF h a=some r):
    A.Ct Tryz.prog 20 [.agg #[.slice A0_ h.length c1_],.agg #[.slice A2_ a.1.length c3_,.slice A4_ a.2.1.length c5_,.slice A6_ a.2.2.length c7_]] [(0,.sh (.slice T54) [.slice A0_ h.length c1_] h),(1,.sh A.TI [.slice A2_ a.1.length c3_] a.1),(2,.sh (.slice T54) [.slice A4_ a.2.1.length c5_] a.2.1),(3,.sh (.slice T42) [.slice A6_ a.2.2.length c7_] a.2.2),(4,.el none 0 0 A.tabF),(5,.el none 1 0 A.tabA)] [] (fun v H'=>v=A.i r∧H'=[]∧A.h6 r):=by
 refine Jg Tryz.func20 rfl Tryz.ntmps20 rfl fun y z=>?_;rw[F.aF]at o;refine Jc 1 ?_;refine Jl 6 (cs:=[.slice A0_ h.length c1_]) fun B=>?_;refine Jl 7 (cs:=[.slice A2_ a.1.length c3_,.slice A4_ a.2.1.length c5_,.slice A6_ a.2.2.length c7_]) fun E=>?_;refine Ji 1 [] (Jk 2 ?_);refine Jf [6,7] [] [.b 0 0,.b 1 0] [(8,.agg #[.slice A0_ h.length c1_]),(9,.agg #[.slice A2_ a.1.length c3_,.slice A4_ a.2.1.length c5_,.slice A6_ a.2.2.length c7_])] ?_;have⟨k,x,o⟩:=Vo o;refine Vx 8 [] (first:=[]) (cap:=[]) cf41 (o_a2 A0_ A2_ A4_ A6_ c1_ c3_ c5_ c7_ h a k x) (.s 0 (.s 1 (.s 2 (.s 3 (.s 4 (.s 5 .nil)))))) ?_;rintro _ _ ⟨p,u,rfl,rfl,hr7⟩;refine Jq ?_;refine Ji 3 [(11,.agg #[.slice p k.1.length u]),(12,A.i k.2)] ?_;refine Jh 48 (cs:=l4d) Tryz.zeroValue24 fun I=>?_;refine Jw 48 [] [.slice p k.1.length u] ?_;refine Ji 1 [(6,A.i k.2)] (Jk 2 ?_);refine Ji 2 [(4,A.i k.2)] (Jd 1 ?_);obtain rfl:=Jm o;exact Jo [] ⟨rfl,rfl,hr7⟩
def F.f (h:(List D42)):Nat→Int→Option (List D42)
 |0,_=>none
 |f+1,a=>if a<(h.length:Int)then((A.ix h a).bind fun k=>(A.cns k (A.gd (Z.R64 (a+1)) ((F.f h f) (a+1)))))else(some [])
def F.x (a:(List D42)):Option (List D42):=F.f a A.FU 0
theorem o_c(o:(List D42))(xs:List D42)(h:F.x o=some xs):
    A.Sq Tryz.prog 68 [.pointer (some ⟨g0_,0,none⟩)] [(0,.el none g0_ 0 [.slice A1_ o.length c2_]),(1,.sh (.slice T42) [.slice A1_ o.length c2_] o)] T42 (fun cs=>[Z.vof true cs]) xs:=by
 refine A.Sq.enter Tryz.func68 rfl Tryz.ntmps68 rfl fun lid z J Jx Φ hY hJ0=>?_;obtain⟨rs0,hrs⟩: ∃rs0,rs0=xs:=⟨_,rfl⟩
 have hR0:A.Rem xs 0 rs0:=hrs▸A.Rem.zero xs
 rw[F.x,←hrs]at h
 clear hrs
 refine Jc 1 ?_;refine Jf [] [0] [.e 0 0,.n,.n] [(5,.slice A1_ o.length c2_),(6,A.i (o.length:Int)),(7,A.i 0)] (Jd 2 ?_);refine A.AX.loopC (A.CY 16 Φ) (0,z) [0,5,6] [1] [1] (fun f i B E=>∃(k:Int),∃(rs:List D42),B=[(7,A.i k)]∧E=[]∧A.h6 k∧J i.1 i.2∧A.Rem xs i.1 rs∧F.f o f k=some rs) A.FU [(7,A.i 0)] [] ⟨0,_,rfl,rfl,Js,hJ0,hR0,h⟩ ?_;rintro s ⟨I,N⟩ _ _ ⟨k,rs8,rfl,rfl,O,hJ6,hR7,h⟩;rcases s with _|s
 ·exact J1 h
 rw[F.f]at h;refine Jc 1 ?_;refine Ji 1 [(8,.bool (decide (k<(o.length:Int))))] (Jd 2 ?_);refine J9 h ?_ ?_<;>intro U h
 ·refine Jc 5 ?_;have⟨a,L,h⟩:=Vo h;refine J4 1 6 L fun p=>?_;intro V W;refine Jf [] [6] [.e 0 0] [(10,.agg #[A.i a.1,A.i a.2.1,A.i a.2.2.1,A.i a.2.2.2.1,A.i a.2.2.2.2.1,A.i a.2.2.2.2.2.1,.string a.2.2.2.2.2.2])] ?_;refine Jh 7 (cs:=l4b) Tryz.zeroValue43 fun X=>?_;refine Jw 7 [] [A.i a.1,A.i a.2.1,A.i a.2.2.1,A.i a.2.2.2.1,A.i a.2.2.2.2.1,A.i a.2.2.2.2.2.1,.string a.2.2.2.2.2.2] ?_;refine Jk 2 ?_;refine Jf [7] [] [.n,.b 0 0] [(11,.func (.yield lid) #[] #[]),(12,.agg #[A.i a.1,A.i a.2.1,A.i a.2.2.1,A.i a.2.2.2.1,A.i a.2.2.2.2.1,A.i a.2.2.2.2.2.1,.string a.2.2.2.2.2.2])] ?_;obtain⟨rs15,hqrs15,h⟩:=A.cns_some h;refine A.AL.yield hY hJ6 (hqrs15▸hR7) [A.i a.1,A.i a.2.1,A.i a.2.2.1,A.i a.2.2.2.1,A.i a.2.2.2.2.1,A.i a.2.2.2.2.2.1,.string a.2.2.2.2.2.2] ⟨⟨rfl,p.1⟩,⟨rfl,p.2.1⟩,⟨rfl,p.2.2.1⟩,⟨rfl,p.2.2.2.1⟩,⟨⟨rfl,p.2.2.2.2.1⟩,⟨rfl,p.2.2.2.2.2.1⟩,⟨rfl,p.2.2.2.2.2.2⟩⟩⟩ (fun u hJ17 hR18=>?_) (fun u hX19=>?_)
  ·refine Ji 1 [(14,.bool false)] (Jd 1 ?_);refine Vk rfl ?_;refine Jc 3 ?_;have⟨y,h⟩:=Ve h;refine Vy 2 [Z.R64 (k+1)] [(7,A.i (k+1))] y (Je ?_);exact A.AE.jC (I+1,u) [1] [(7,A.i (k+1))] [] ⟨_,Ql _,⟨(k+1),_,rfl,rfl,(Jj y),hJ17,hR18,h⟩⟩
  refine Ji 1 [(14,.bool true)] (Jd 1 ?_);refine Vn rfl ?_;exact A.AX.rtX hY hX19
 refine Vi 1 ?_;obtain rfl:=Jm h;exact A.AE.rtY hY hJ6 hR7
def F.aQ (k:D23)(o:D27):List D42→(List D42)→Option ((List D42))
 | [],a=>(F.m a).bind fun u=>(some u)
 |h::f,a=>(F.co k h.1).bind fun p=>((F.co o.2.1 h.2.1).bind fun s=>(if(bif !p.2 then true else !s.2)=true then(A.gd ((List.length (α:=D42) a+List.length (α:=D42) [h])*64≤140737488355328) ((F.aQ k o f) (a++[h])))else((F.bX p.1 s.1 h).bind fun x=>(if x≠0 then(A.gd ((List.length (α:=D42) a+List.length (α:=D42) [h])*64≤140737488355328) ((F.aQ k o f) (a++[h])))else((F.aQ k o f) a)))))
def F.dv (h:D23)(a:D27):Option ((List D42)):=(F.aF h a).bind fun k=>(if k=0 then((F.m a.2.2).bind fun o=>((F.x o).bind fun p=>F.aQ h a p []))else((F.m []).bind fun s=>(some s)))
theorem o_bb(I:D23)(y:D27)(r:((List D42)))(p:F.dv I y=some r):
    A.Ct Tryz.prog 14 [.agg #[.slice A0_ I.length c1_],.agg #[.slice A2_ y.1.length c3_,.slice A4_ y.2.1.length c5_,.slice A6_ y.2.2.length c7_]] [(0,.sh (.slice T54) [.slice A0_ I.length c1_] I),(1,.sh A.TI [.slice A2_ y.1.length c3_] y.1),(2,.sh (.slice T54) [.slice A4_ y.2.1.length c5_] y.2.1),(3,.sh (.slice T42) [.slice A6_ y.2.2.length c7_] y.2.2),(4,.el none 0 0 A.tabF),(5,.el none 1 0 A.tabA)] [] (fun v H'=>∃(g0':Nat) (A1':Option Addr) (c2':Nat),v=.func (.func 68) #[] #[.pointer (some ⟨g0',0,none⟩)]∧H'=[(0,.blk g0' 26 [.slice A1' r.length c2']),(1,.sh (.slice T42) [.slice A1' r.length c2'] r)]):=by
 refine Ua Tryz.func14 rfl Tryz.ntmps14 rfl fun w0 F0=>?_;rw[F.dv]at p;refine Jc 1 ?_;refine Jl 6 (cs:=[.slice A0_ I.length c1_]) fun g1=>?_;refine Jl 7 (cs:=[.slice A2_ y.1.length c3_,.slice A4_ y.2.1.length c5_,.slice A6_ y.2.2.length c7_]) fun g2=>?_;refine Ji 1 [] (Jk 2 ?_);refine Jh 8 (cs:=l4d) Tryz.zeroValue26 fun J=>?_;refine Jk 3 ?_;refine Jf [6,7] [] [.b 0 0,.b 1 0] [(11,.agg #[.slice A0_ I.length c1_]),(12,.agg #[.slice A2_ y.1.length c3_,.slice A4_ y.2.1.length c5_,.slice A6_ y.2.2.length c7_])] ?_;have⟨r4,a6,p⟩:=Vo p;refine Vx 9 [] (first:=[]) (cap:=[]) cf20 (o_ab A0_ A2_ A4_ A6_ c1_ c3_ c5_ c7_ I y r4 a6) (.s 0 (.s 1 (.s 2 (.s 3 (.s 4 (.s 5 .nil)))))) ?_;rintro _ _ ⟨rfl,rfl,hr6⟩;refine Jq ?_;refine Ji 1 [(14,.bool (decide (r4=0)))] (Jd 1 ?_);refine J9 p ?_ ?_<;>intro hb p
 ·refine Jc 1 ?_;refine Jf [7] [] [.n,.b 0 2] [(16,.slice A6_ y.2.2.length c7_)] ?_;refine Va 49 [] p (o_b A6_ c7_ y.2.2) (.s 3 .nil) ?_;rintro r7 - p _ _ ⟨g9,a7,a8,rfl,rfl⟩;refine Jq ?_;refine Jd 2 ?_;refine V1 219 T42 43 ?_;have⟨a5,a9,p⟩:=Vo p;refine A.AX.rgf 220 221 222 [0,1,2,3,4,5,6,7,49,50] [8,219,0,1,2,3,4,5,6,7,49,50] [221,220,8,219,0,1,2,3,4,5,6,7,49,50] (fun k nh=>∃(z:List D42),∃(B:Option Addr),∃(E:Nat),nh=[(8,.blk J 26 [.slice B z.length E]),(219,.own T42 43 B E z)]∧F.aQ I y (List.drop k a5) z=some r) [(8,.blk J 26 [.slice none 0 0]),(219,.own T42 43 none 0 [])] cf68 (o_c a7 g9 a8 r7 a5 a9) (fun _=>rfl) ⟨[],none,0,rfl,p⟩ ?_ ?_ ?_
  ·rintro aa _ D26 L27 ⟨z,B,E,rfl,p⟩;exact⟨⟨_,(.b 49 (.s 50 .nil))⟩,rfl,fun o=>rfl⟩
  ·rintro aa _ h D26 L27 ag ah ⟨z,B,E,rfl,p⟩ hx34 hxo35 a2;rw[Ue hx34,F.aQ]at p
   refine Jc 0 ?_;refine Jh 473 (cs:=l4b) Tryz.zeroValue43 fun ai=>?_;refine Jw 473 [] [A.i h.1,A.i h.2.1,A.i h.2.2.1,A.i h.2.2.2.1,A.i h.2.2.2.2.1,A.i h.2.2.2.2.2.1,.string h.2.2.2.2.2.2] ?_;refine Je ?_;refine Uf 220 221 fun aj=>?_;refine Jc 2 ?_;refine Jf [6,473] [] [.n,.b 0 0,.n,.b 1 0] [(21,.slice A0_ I.length c1_),(23,A.i h.1)] ?_;refine Va 474 [] p (o_aa A0_ c1_ I h.1 hxo35.1) (.l 0 .nil) ?_;rintro u - p _ _ ⟨L,N,rfl,rfl,hr42,hr43,hr46,hr47,hr48,hr49,hr50,hr51⟩;refine Jq ?_;refine Ji 3 [(25,.agg #[A.i u.1.1,A.i u.1.2.1,.slice L u.1.2.2.1.length N,A.i u.1.2.2.2.1.1,A.i u.1.2.2.2.1.2.1,.string u.1.2.2.2.1.2.2,.string u.1.2.2.2.2.1,A.i u.1.2.2.2.2.2.1,A.i u.1.2.2.2.2.2.2]),(26,.bool u.2)] ?_;refine Jh 514 (cs:=l4a) Tryz.zeroValue55 fun ak=>?_;refine Jw 514 [] [A.i u.1.1,A.i u.1.2.1,.slice L u.1.2.2.1.length N,A.i u.1.2.2.2.1.1,A.i u.1.2.2.2.1.2.1,.string u.1.2.2.2.1.2.2,.string u.1.2.2.2.2.1,A.i u.1.2.2.2.2.2.1,A.i u.1.2.2.2.2.2.2] ?_;refine Ji 1 [(8,.bool u.2)] (Jk 2 ?_);refine Jf [7,473] [] [.n,.b 0 1,.n,.b 1 1] [(29,.slice A4_ y.2.1.length c5_),(31,A.i h.2.1)] ?_;refine Va 515 [] p (o_aa A4_ c5_ y.2.1 h.2.1 hxo35.2.1) (.l 2 .nil) ?_;rintro x - p _ _ ⟨O,U,rfl,rfl,hr55,hr56,hr59,hr60,hr61,hr62,hr63,hr64⟩;refine Jq ?_;refine Ji 3 [(33,.agg #[A.i x.1.1,A.i x.1.2.1,.slice O x.1.2.2.1.length U,A.i x.1.2.2.2.1.1,A.i x.1.2.2.2.1.2.1,.string x.1.2.2.2.1.2.2,.string x.1.2.2.2.2.1,A.i x.1.2.2.2.2.2.1,A.i x.1.2.2.2.2.2.2]),(34,.bool x.2)] ?_;refine Jh 555 (cs:=l4a) Tryz.zeroValue55 fun al=>?_;refine Jw 555 [] [A.i x.1.1,A.i x.1.2.1,.slice O x.1.2.2.1.length U,A.i x.1.2.2.2.1.1,A.i x.1.2.2.2.1.2.1,.string x.1.2.2.2.1.2.2,.string x.1.2.2.2.2.1,A.i x.1.2.2.2.2.2.1,A.i x.1.2.2.2.2.2.2] ?_;refine Ji 1 [(10,.bool x.2)] (Jk 2 ?_);refine Jf [] [] [.n,.n,.n,.sy .n,.sy .n,.pk,.n] [(41,.bool (bif !u.2 then true else !x.2))] ?_;refine J7 (j:=41) rfl p (fun p=>?_) (fun p=>?_)
   ·refine Jf [] [] [.off,.off,.off,.off,.off,.n] [(47,.bool true)] (Jd 1 ?_);refine Vn rfl ?_;refine Jc 0 ?_;refine Jf [8,473] [] [.b 0 0,.b 1 0] [(48,.slice B z.length E),(49,.agg #[A.i h.1,A.i h.2.1,A.i h.2.2.1,A.i h.2.2.2.1,A.i h.2.2.2.2.1,A.i h.2.2.2.2.2.1,.string h.2.2.2.2.2.2])] ?_;refine J6 556 (ty:=T42) (cs:=[A.i h.1,A.i h.2.1,A.i h.2.2.1,A.i h.2.2.2.1,A.i h.2.2.2.2.1,A.i h.2.2.2.2.2.1,.string h.2.2.2.2.2.2]) [h] ⟨⟨⟨rfl,hxo35.1⟩,⟨rfl,hxo35.2.1⟩,⟨rfl,hxo35.2.2.1⟩,⟨rfl,hxo35.2.2.2.1⟩,⟨⟨rfl,hxo35.2.2.2.2.1⟩,⟨rfl,hxo35.2.2.2.2.2.1⟩,⟨rfl,hxo35.2.2.2.2.2.2⟩⟩⟩,rfl⟩ (fun am=>?_) Tryz.zeroValue43 Tryz.sizeOf43
    have⟨hl69,p⟩:=Ve p;refine Vh (k:=219) [] (Vz (k:=556) rfl) inf43 hl69 fun V W=>?_;refine Jw 8 [] [.slice V ((z++[h]).length) W] ?_;refine V4 1 ?_;exact A.AE.bn a2 [221,220,8,219,0,1,2,3,6,7,49,50] 100000 [(221,100221),(220,100220),(8,100008),(219,100219),(0,100000),(1,100001),(2,100002),(3,100003),(4,4),(5,5),(6,100006),(7,100007),(49,100049),(50,100050)] [(8,.blk J 26 [.slice V ((z++[h]).length) W]),(219,.own T42 43 V W (z++[h]))] ⟨(z++[h]),V,W,rfl,p⟩ rfl rfl
   refine Jf [514,555,473] [] [.on (.b 0 0),.on (.b 1 0),.on (.b 2 0)] [(42,.agg #[A.i u.1.1,A.i u.1.2.1,.slice L u.1.2.2.1.length N,A.i u.1.2.2.2.1.1,A.i u.1.2.2.2.1.2.1,.string u.1.2.2.2.1.2.2,.string u.1.2.2.2.2.1,A.i u.1.2.2.2.2.2.1,A.i u.1.2.2.2.2.2.2]),(43,.agg #[A.i x.1.1,A.i x.1.2.1,.slice O x.1.2.2.1.length U,A.i x.1.2.2.2.1.1,A.i x.1.2.2.2.1.2.1,.string x.1.2.2.2.1.2.2,.string x.1.2.2.2.2.1,A.i x.1.2.2.2.2.2.1,A.i x.1.2.2.2.2.2.2]),(44,.agg #[A.i h.1,A.i h.2.1,A.i h.2.2.1,A.i h.2.2.2.1,A.i h.2.2.2.2.1,A.i h.2.2.2.2.2.1,.string h.2.2.2.2.2.2])] ?_;refine J5 (dj:=41) rfl rfl ?_;refine Va 557 [] p (o_am L O N U u.1 x.1 h hr42 hr43 hr46 hr47 hr48 hr49 hr50 hr51 hr55 hr56 hr59 hr60 hr61 hr62 hr63 hr64 hxo35.1 hxo35.2.1 hxo35.2.2.1 hxo35.2.2.2.1 hxo35.2.2.2.2.1 hxo35.2.2.2.2.2.1 hxo35.2.2.2.2.2.2) (.s 474 (.s 515 (.s 4 (.s 5 .nil)))) ?_;rintro ab - p _ _ ⟨rfl,rfl,hr72⟩;refine Jq ?_;refine Jf [] [] [.on .n,.n] [(47,.bool (decide (ab≠0)))] (Jd 1 ?_);refine J9 p ?_ ?_<;>intro hb p
   ·refine Jc 0 ?_;refine Jf [8,473] [] [.b 0 0,.b 1 0] [(48,.slice B z.length E),(49,.agg #[A.i h.1,A.i h.2.1,A.i h.2.2.1,A.i h.2.2.2.1,A.i h.2.2.2.2.1,A.i h.2.2.2.2.2.1,.string h.2.2.2.2.2.2])] ?_;refine J6 597 (ty:=T42) (cs:=[A.i h.1,A.i h.2.1,A.i h.2.2.1,A.i h.2.2.2.1,A.i h.2.2.2.2.1,A.i h.2.2.2.2.2.1,.string h.2.2.2.2.2.2]) [h] ⟨⟨⟨rfl,hxo35.1⟩,⟨rfl,hxo35.2.1⟩,⟨rfl,hxo35.2.2.1⟩,⟨rfl,hxo35.2.2.2.1⟩,⟨⟨rfl,hxo35.2.2.2.2.1⟩,⟨rfl,hxo35.2.2.2.2.2.1⟩,⟨rfl,hxo35.2.2.2.2.2.2⟩⟩⟩,rfl⟩ (fun an=>?_) Tryz.zeroValue43 Tryz.sizeOf43
    have⟨hl76,p⟩:=Ve p;refine Vh (k:=219) [] (Vz (k:=597) rfl) inf43 hl76 fun X Y=>?_;refine Jw 8 [] [.slice X ((z++[h]).length) Y] ?_;refine V4 1 ?_;exact A.AE.bn a2 [221,220,8,219,0,1,2,3,6,7,49,50] 100000 [(221,100221),(220,100220),(8,100008),(219,100219),(0,100000),(1,100001),(2,100002),(3,100003),(4,4),(5,5),(6,100006),(7,100007),(49,100049),(50,100050)] [(8,.blk J 26 [.slice X ((z++[h]).length) Y]),(219,.own T42 43 X Y (z++[h]))] ⟨(z++[h]),X,Y,rfl,p⟩ rfl rfl
   refine Vi 2 ?_;exact A.AE.bn a2 [221,220,8,219,0,1,2,3,6,7,49,50] 100000 [(221,100221),(220,100220),(8,100008),(219,100219),(0,100000),(1,100001),(2,100002),(3,100003),(4,4),(5,5),(6,100006),(7,100007),(49,100049),(50,100050)] [(8,.blk J 26 [.slice B z.length E]),(219,.own T42 43 B E z)] ⟨z,B,E,rfl,p⟩ rfl rfl
  rintro _ D26 L27 ⟨z,B,E,rfl,p⟩;rw[X2,F.aQ]at p
  refine A.el 3 ?_;refine Jf [8] [] [.b 0 0] [(52,.slice B z.length E)] ?_;refine A.frz 219 [] ?_;refine Va 598 [] p (o_b B E z) (.s 219 .nil) ?_;rintro ao - p _ _ ⟨a3,ac,ad,rfl,rfl⟩;refine Jq ?_;refine Ji 1 [(4,.func (.func 68) #[] #[.pointer (some ⟨a3,0,none⟩)])] (Jd 1 ?_);obtain rfl:=Jm p;exact Vq (Ds:=[D26]) [220] [(0,598),(1,599)] (.func (.func 68) #[] #[.pointer (some ⟨a3,0,none⟩)]) (⟨rfl,trivial⟩) (fun a w hf hh=>Vt rfl (Vw hf rfl)) (⟨a3,ac,ad,rfl,rfl⟩)
 refine Jc 3 ?_;refine Jf [8] [] [.b 0 0] [(52,.slice none 0 0)] ?_;refine Va 638 [] p (o_b none 0 []) (.ns .nil) ?_;rintro ap - p _ _ ⟨a4,ae,af,rfl,rfl⟩;refine Jq ?_;refine Ji 1 [(4,.func (.func 68) #[] #[.pointer (some ⟨a4,0,none⟩)])] (Jd 1 ?_);obtain rfl:=Jm p;exact Vq (Ds:=[]) [] [(0,638),(1,639)] (.func (.func 68) #[] #[.pointer (some ⟨a4,0,none⟩)]) (trivial) (fun a w hf hh=>Vt rfl (Vw hf rfl)) (⟨a4,ae,af,rfl,rfl⟩)
def F.dR (a:Int):Option Bool:=some (bif decide (a=11)then true else decide (a=16))
theorem o_bc (a:Int)(k:A.h6 a)(r:Bool)(h:F.dR a=some r):
    A.Ct Tryz.prog 42 [A.i a] [] [] (fun v H'=>v=.bool r∧H'=[]):=by
 refine Jg Tryz.func42 rfl Tryz.ntmps42 rfl fun o p=>?_;rw[F.dR]at h;refine Jc 1 ?_;refine Ji 1 [] (Jk 2 ?_);refine Jf [] [] [.n,.n,.n,.sy .n,.sy .n,.pk,.n] [(2,.bool (bif decide (a=11)then true else decide (a=16)))] (Jd 1 ?_);obtain rfl:=Jm h;exact Jo [] ⟨rfl,rfl⟩
end Go.Proofs.YtlhiofnikdppeaaGreatDoor
end
section
namespace Go.A
open Go.RowKit Go.Z
section
variable {P:Program}{kt et tt st ty:TypeId}{κ:Type}[DecidableEq κ]{enc:κ→Value}{w:World}{b:Nat}{t:Ty}{e:TypeId}{F G:Nat→Prop}{As:List (Option Addr×Nat)}{m:List (κ×List t.den)}
def agt {α:Type}(As:List (Option Addr×Nat))(m:List (κ×α))(k:κ):Option Addr×Nat:=
 match loc k (m.map Prod.fst)with
 |some i=>As.getD i (none,0)
 |none=>(none,0)
theorem Mr.look (K:Ky P kt enc)(O:P.underlying tt=some (.map kt et))(L: ∀w,(zeroValue et).run P w=.ok (.slice none 0 0) w)(Y:Mr enc t e w F b As m)(k:κ):
  (Instr.lookup tt (.map (some b)) (enc k) false).run P w=.ok (.slice (agt As m k).1 (mget [] m k).length (agt As m k).2) w∧Own t e 0 w F (agt As m k).1 (agt As m k).2 (mget [] m k)∧∀x,x∈obl (agt As m k).1→x∈rbl As:=by
 obtain⟨es,⟨arr,clock,hb,V,hlt,hnd⟩,hl,hA,hN,hsz,W⟩:=Y
 have hk:=Mr.keys V hl hA W
 have hfind:=Qam K k w arr _ hk
 have hget:(getObj b).run P w=.ok (.map arr.toArray clock) w:=by simp[getObj,Sem.run,hb]
 unfold agt
 cases hloc:loc k (m.map Prod.fst)with
 |none=>
  rw[hloc]at hfind
  have hg:mget [] m k=[]:=mget_none ((Qgc m k).1 hloc)
  rw[hg]
  refine⟨?_,Own.nil t e 0 w F,fun x N=>by cases N⟩
  simp only[Instr.lookup,Sem.run_bind,run_underlying O,Result.andThen_ok,hget,Sem.run_pure,K.check,hfind,X8,L]
  rfl
 |some i=>
  rw[hloc]at hfind
  have J:=Qbv hloc []
  have hil:=(Qc.1 J).1
  have hAi:As[i]?=some As[i]:=Qe (by omega)
  obtain⟨E,h3⟩:=W i _ _ J hAi
  have hd:As.getD i (none,0)=As[i]:=by rw[Yn,hAi];rfl
  simp only[hd]
  rw[←V,Qp]at E
  cases I:arr[i]? with
  |none=>rw[I]at E;cases E
  |some e1=>
   rw[I]at E
   injection E with E;injection E with _ E
   refine⟨?_,h3,fun x N=>Qaq hAi N⟩
   simp only[Instr.lookup,Sem.run_bind,run_underlying O,Result.andThen_ok,hget,Sem.run_pure,K.check,hfind,Qa,I,Wb,E]
   rfl
theorem run_mapUpd {arr:List MapEntry}{clock:Nat}{ks:List κ}(K:Ky P kt enc)(ht:P.underlying tt=some (.map kt et))(N:w.heap[b]?=some (.map arr.toArray clock))(hk:arr.map (·.key)=ks.map enc)(I: ∀e,e∈arr→e.born<clock)(L:(arr.map (·.born)).Nodup)(k:κ)(v:Value):
  ∃(arr2:List MapEntry) (clock2:Nat),(Instr.mapUpdate tt (.map (some b)) (enc k) v).run P w=.ok () (w.putObj b (.map arr2.toArray clock2))∧(∀e,e∈arr2→e.born<clock2)∧(arr2.map (·.born)).Nodup∧
   ((∃i,loc k ks=some i∧arr2=arr.modify i fun e=>{e with key:=enc k,val:=v})∨(loc k ks=none∧arr2=arr++[{key:=enc k,val:=v,born:=clock}])):=by
 have hfind:=Qam K k w arr ks hk
 have hget:(getObj b).run P w=.ok (.map arr.toArray clock) w:=by simp[getObj,Sem.run,N]
 cases hloc:loc k ks with
 |none=>
  rw[hloc]at hfind
  refine⟨arr++[{key:=enc k,val:=v,born:=clock}],clock+1,?_,?_,?_,.inr ⟨rfl,rfl⟩⟩
  ·simp only[Instr.mapUpdate,Sem.run_bind,run_underlying ht,Result.andThen_ok,hget,K.check,hfind,X8,MapC.set N,List.push_toArray]
  ·intro e E
   rcases Qu.1 E with E|E
   ·have:=I e E;omega
   ·simp at E;subst E;simp
  ·rw[Xb,Wr]
   refine⟨L,by simp,fun x hx y hy=>?_⟩
   simp at hy;subst hy
   obtain⟨e,E,rfl⟩:=Wh.1 hx
   have:=I e E;omega
 |some i=>
  rw[hloc]at hfind
  have O:i<ks.length∧ks[i]?=some k:=by
   have: ∀(ks:List κ) (i:Nat),loc k ks=some i→i<ks.length∧ks[i]?=some k:=by
    intro ks
    induction ks with
    |nil=>intro i h;cases h
    |cons a r ih=>
     intro i h
     unfold loc at h
     split at h
     ·rename_i e;injection h with h;subst h;subst e;exact⟨by simp,rfl⟩
     ·cases V:loc k r with
      |none=>rw[V]at h;cases h
      |some j=>rw[V]at h;injection h with h;subst h;have:=ih j V;exact⟨by simp;omega,by simpa using this.2⟩
   exact this ks i hloc
  have hlen:arr.length=ks.length:=by have:=congrArg List.length hk;simpa using this
  obtain⟨e,E⟩: ∃e,arr[i]?=some e:=⟨_,Qe (by omega)⟩
  have W:e.key=enc k:=by
   have h6:(arr.map (·.key))[i]?=some e.key:=by rw[Qp,E];rfl
   rw[hk,Qp,O.2]at h6
   simpa using h6.symm
  have hstay:(Instr.keyThatStays (enc k) (enc k)).run P w=.ok (enc k) w:=by simp[Instr.keyThatStays,K.bits]
  refine⟨arr.modify i fun e=>{e with key:=enc k,val:=v},clock,?_,?_,?_,.inl ⟨i,rfl,rfl⟩⟩
  ·simp only[Instr.mapUpdate,Sem.run_bind,run_underlying ht,Result.andThen_ok,hget,K.check,hfind,Qa,E,Wb,Wy,Ys,W,hstay,MapC.set N,List.modify_toArray]
  ·intro e' he'
   obtain⟨j,J⟩:=Wm.1 he'
   rw[Wa]at J
   cases Y:arr[j]? with
   |none=>rw[Y]at J;simp at J
   |some e0=>
    rw[Y]at J
    have hb0:=I e0 (Qh Y)
    simp only[Xg,Wb,Qw]at J
    subst J
    split<;>exact hb0
  ·have:(arr.modify i fun e=>{e with key:=enc k,val:=v}).map (·.born)=arr.map (·.born):=by
    refine Wx fun j=>?_
    simp only[Qp,Wa]
    cases arr[j]? with
    |none=>rfl
    |some e0=>simp only[Xg,Wb,Qw];split<;>rfl
   rw[this];exact L
theorem Mr.appU {i:TypeInfo}{z:Value}{bytes:Nat}(K:Ky P kt enc)(ht:P.underlying tt=some (.map kt et))(hz0: ∀w,(zeroValue et).run P w=.ok (.slice none 0 0) w)(hst:P.underlying st=some (.slice e))(hi:P.info? e=some i)(hz:i.zero=some z)(hsize:i.size=t.size)(hby:i.bytes=bytes)(hzs:z.cells.size=t.size)(hbp:0<bytes)
  (hm:Mr enc t e w F b As m) (hF: ∀x,F x→x∉b::rbl As) (hFl: ∀x,F x→x<w.heap.size) {A2:Option Addr} {c2:Nat} {ys:List t.den} (hr:Row t w F G A2 c2 ys) (k:κ) (h63:((mget [] m k).length+ys.length)*bytes≤140737488355328):
  ∃A' c' L w3,(Builtin.append_ #[st,st] ty #[.slice (agt As m k).1 (mget [] m k).length (agt As m k).2,.slice A2 ys.length c2]).run P w=.ok (.slice A' ((mget [] m k).length+ys.length) c') L∧
   (Instr.mapUpdate tt (.map (some b)) (enc k) (.slice A' ((mget [] m k).length+ys.length) c')).run P L=.ok () w3∧Ch (rbl As) w L∧Ch (b::rbl As) w w3∧∃As',Mr enc t e w3 F b As' (mins m k (mget [] m k++ys))∧∀x,x∈rbl As'→x∈rbl As∨(w.heap.size≤x∧x<w3.heap.size):=by
 obtain⟨_,hO,hOb⟩:=hm.look K ht hz0 k
 obtain⟨es,⟨arr,clock,hb,h1,hlt,hnd⟩,hl,hA,Y,O,he⟩:=hm
 have hblt:=(Qn.1 hb).1
 rw[Q8]at Y
 have hk:=Mr.keys h1 hl hA he
 have hlen:arr.length=m.length:=by rw[←hl,←h1,Qr]
 obtain⟨A,hAe⟩: ∃A,A=(agt As m k).1:=⟨_,rfl⟩
 obtain⟨c,hce⟩: ∃c,c=(agt As m k).2:=⟨_,rfl⟩
 rw[←hAe]at hO hOb ⊢
 rw[←hce]at hO ⊢
 obtain⟨A',c',L,happ,hO2,N,hnew⟩:=run_appendR (P:=P) (ty:=ty) hst hi hz hsize hby hzs hO hr h63 hbp (fun x I hxA=>hF x I (Qb _ (hOb x hxA))) (Xe _)
 have hbA:b∉obl A:=fun I=>Y.1 (hOb b I)
 have hb2:L.heap[b]?=some (.map arr.toArray clock):=(N.block b hblt hbA).trans hb
 have hsz2:w.heap.size≤L.heap.size:=N.size
 have hlt2: ∀x,x∈obl A'→x<L.heap.size:=fun x I=>(hO2.lt x I).2
 have hnew': ∀x,x∈obl A'→x∈obl A∨x∉rbl As:=fun x I=>by
  rcases hnew x I with E|E
  ·exact .inl E
  ·exact .inr fun h3=>by have:=O x h3;omega
 obtain⟨arr2,clock2,hstore,hborn,hnd2,hcase⟩:=run_mapUpd (P:=P) K ht hb2 hk hlt hnd k (.slice A' ((mget [] m k).length+ys.length) c')
 have hc3:=Ch.putObj L b (.map arr2.toArray clock2)
 have hall:Ch (b::rbl As) w (L.putObj b (.map arr2.toArray clock2)):=
  Ch.then (U:=b::rbl As) N hc3 (fun x I=>.inl (Qb _ (hOb x I))) (fun x I=>.inl (by rw[Qi]at I;subst I;exact Qf ..))
 refine⟨A',c',L,_,happ,hstore,N.mono (fun x I=>.inl (hOb x I)),hall,?_⟩
 obtain⟨v,hv⟩: ∃v,v=Value.slice A' ((mget [] m k).length+ys.length) c':=⟨_,rfl⟩
 rw[←hv]at hcase
 have hb3:(L.putObj b (.map arr2.toArray clock2)).heap[b]?=some (.map arr2.toArray clock2):=World.putObj_heap_same (Qy hblt hsz2)
 have hO3:Own t e 0 (L.putObj b (.map arr2.toArray clock2)) F A' c' (mget [] m k++ys):=Own.to hO2 hc3 (fun x I _ _=>by
   rw[Qi];rintro rfl
   rcases hnew x I with E|E
   ·exact hbA E
   ·omega) fun x I _=>⟨by rw[Qi];rintro rfl;exact hF x I (Qf ..),I⟩
 have hOj: ∀(j:Nat) (p:κ×List t.den) (a:Option Addr×Nat),m[j]?=some p→As[j]?=some a→(∀x,x∈obl a.1→x∉obl A)→Own t e 0 (L.putObj b (.map arr2.toArray clock2)) F a.1 a.2 p.2:=fun j p a hp J hdis=>by
  have E:=(he j p a hp J).2
  have h4:Own t e 0 L F a.1 a.2 p.2:=Own.to E N (fun x I _ _=>hdis x I) fun x I _=>⟨fun hxA=>hF x I (Qb _ (hOb x hxA)),I⟩
  exact Own.to h4 hc3 (fun x I _ _=>by rw[Qi];rintro rfl;exact Y.1 (Qaq J I)) fun x I _=>⟨by rw[Qi];rintro rfl;exact hF x I (Qf ..),I⟩
 have hsz3:(L.putObj b (.map arr2.toArray clock2)).heap.size=L.heap.size:=by simp
 have hbA':b∉obl A':=fun I=>by
  rcases hnew b I with E|E
  ·exact hbA E
  ·omega
 have hnew2: ∀x,x∈obl A'→x∈rbl As∨(w.heap.size≤x∧x<(L.putObj b (.map arr2.toArray clock2)).heap.size):=fun x I=>by
  rcases hnew x I with E|E
  ·exact .inl (hOb x E)
  ·exact .inr ⟨by omega,by rw[hsz3];exact hlt2 x I⟩
 rcases hcase with⟨i1,hloc,rfl⟩|⟨hloc,rfl⟩
 ·have hmi:=Qbv hloc []
  have hil:=(Qc.1 hmi).1
  obtain⟨e1,hi1⟩: ∃e1,arr[i1]?=some e1:=⟨_,Qe (by omega)⟩
  have hAi:As[i1]?=some (A,c):=by
   have E:As[i1]?=some As[i1]:=Qe (by omega)
   rw[E,hAe,hce];unfold agt;rw[hloc];simp only[Yn,E];rfl
  refine⟨As.set i1 (A',c'),⟨_,⟨_,_,hb3,rfl,hborn,hnd2⟩,?_,?_,?_,?_,?_⟩,?_⟩
  ·rw[Qak,hloc];simp[hlen]
  ·rw[Qak,hloc];simp[hA]
  ·rw[Q8]
   refine⟨fun I=>?_,Qbx Y.2 hAi (Qby A') hnew'⟩
   rcases Qbr hAi b I with E|E
   ·exact Y.1 E
   ·exact hbA' E
  ·intro x I
   rw[hsz3]
   rcases Qbr hAi x I with E|E
   ·exact Qy (O x E) hsz2
   ·exact hlt2 x E
  ·intro j p a hp J
   rw[Qak,hloc]at hp
   simp only[Wa]at hp
   rw[X6]at J
   have hil:=(Qc.1 hAi).1
   by_cases V:i1=j
   ·subst V
    rw[Qbv hloc []]at hp
    simp only[if_true,hil]at J
    injection J with J;subst J
    simp only[if_true,Xg,Wb,Qw]at hp
    subst hp
    refine⟨?_,hO3⟩
    rw[Qp,Wa,hi1]
    simp[hv]
   ·simp only[V,if_false]at J hp
    simp only[Xg,id_map']at hp
    have hp':m[j]?=some p:=by cases hmj:m[j]?<;>rw[hmj]at hp<;>simp at hp ⊢;exact hp
    refine⟨?_,hOj j p a hp' J (Qhk Y.2 J hAi (Ne.symm V))⟩
    have E:=(he j p a hp' J).1
    rw[←h1,Qp]at E
    rw[Qp,Wa]
    simp only[V,if_false]
    cases harj:arr[j]? with
    |none=>rw[harj]at E;cases E
    |some e0=>rw[harj]at E;simpa using E
  ·intro x I
   rcases Qbr hAi x I with E|E
   ·exact .inl E
   ·exact hnew2 x E
 ·have hA0:obl A=[]:=by rw[hAe];unfold agt;rw[hloc];rfl
  have hdis: ∀x,x∈obl A'→x∉rbl As:=fun x I W=>by
   rcases hnew x I with E|E
   ·rw[hA0]at E;cases E
   ·have:=O x W;omega
  have hrbl:rbl (As++[(A',c')])=rbl As++obl A':=by simp[rbl]
  refine⟨As++[(A',c')],⟨_,⟨_,_,hb3,rfl,hborn,hnd2⟩,?_,?_,?_,?_,?_⟩,?_⟩
  ·rw[Qak,hloc];simp[hlen]
  ·rw[Qak,hloc];simp[hA]
  ·rw[hrbl,Q8,Qu,Wr]
   exact⟨fun E=>E.elim Y.1 hbA',Y.2,Qby A',fun x I y hy e=>hdis y hy (e▸I)⟩
  ·intro x I
   rw[hsz3]
   rw[hrbl,Qu]at I
   rcases I with E|E
   ·exact Qy (O x E) hsz2
   ·exact hlt2 x E
  ·intro j p a hp J
   rw[Qak,hloc]at hp
   rcases Y7 j m.length with E|E|E
   ·rw[Q5 E]at hp
    rw[Q5 (by omega)]at J
    refine⟨?_,hOj j p a hp J fun x I W=>by rw[hA0]at W;cases W⟩
    have h3:=(he j p a hp J).1
    rw[←h1,Qp]at h3
    rw[Qp,Q5 (by omega)]
    exact h3
   ·subst E
    rw[Q1 (Qq _)]at hp
    rw[Q1 (by omega)]at J
    simp[hA]at hp J
    subst hp;subst J
    refine⟨?_,hO3⟩
    rw[Qp,Q1 (by omega)]
    simp[hlen,hv]
   ·rw[Wk (by simp;omega)]at hp;cases hp
  ·intro x I
   rw[hrbl,Qu]at I
   rcases I with E|E
   ·exact .inl E
   ·exact hnew2 x E
end
section
variable {r:Option Nat}{P:Program}{ops:Array Oper}{Q:Exit→Act→World→Prop}{C:Cx}{l:List (Nat×Value)}{H Hq:List (Nat×Res)}{f m0:Nat}{li:List Bool}
theorem r_lkM {κ:Type}[DecidableEq κ]{enc:κ→Value}{kt et tt e T:TypeId}{t:Ty}{b:Nat}{As:List (Option Addr×Nat)}{m:List (κ×List t.den)}{a:Act}{w:World}{d:Option Tmp}{x y:Operand}{pos:String}{af:Array Edge}(k:Nat)(K:Ky P kt enc)(key:κ)(E: ∀w,(zeroValue et).run P w=.ok (.slice none 0 0) w)(J:Fr a C.n C.ds l)(L:Hp C H w)
  (I:hk H k=some (.mr κ enc t e b As m):=by rfl) (N:ev l x=some (.map (some b)):=by rfl) (O:ev l y=some (enc key):=by rfl) (V:P.underlying tt=some (.map kt et):=by rfl):
  (execOp a.eval ⟨d,.lookup tt x y false,T,pos,af,none⟩).run P w=.ok (.value (.slice (agt As m key).1 (mget [] m key).length (agt As m key).2)) w:=by
 have W:Mr enc t e w (Fh C H) b As m:=L.hold k _ I
 simp only[execOp,Sem.run_bind,J.eval N,J.eval O,(W.look K V E key).1,Result.andThen_ok,Sem.run_pure]
theorem AL.lkM {κ:Type}[DecidableEq κ]{enc:κ→Value}{kt et tt e T:TypeId}{t:Ty}{b d:Nat}{As:List (Option Addr×Nat)}{m:List (κ×List t.den)}{rest:List Oper}{x y:Operand}{pos:String}{af:Array Edge}(k:Nat)(K:Ky P kt enc)(key:κ)(E: ∀w,(zeroValue et).run P w=.ok (.slice none 0 0) w)
  (h:AL r P ops Q rest C ((d,.slice (agt As m key).1 (mget [] m key).length (agt As m key).2)::l) H)
  (I:hk H k=some (.mr κ enc t e b As m):=by rfl) (N:ev l x=some (.map (some b)):=by rfl) (O:ev l y=some (enc key):=by rfl) (V:P.underlying tt=some (.map kt et):=by rfl) (W:Nat.ble (d+1) C.n=true:=by rfl):
  AL r P ops Q (⟨some d,.lookup tt x y false,T,pos,af,none⟩::rest) C l H:=fun a w J L=>
 Z.val J W (r_lkM k K key E J L I N O V) fun a' hf'=>h a' w hf' L
theorem AH.mapp {κ:Type}[DecidableEq κ]{enc:κ→Value}{kt et tt st e:TypeId}{t:Ty}{b d n2:Nat}{As:List (Option Addr×Nat)}{m:List (κ×List t.den)}{mx kx y y0:Operand}{i0:TypeInfo}{z:Value}{bytes sz:Nat}{A2:Option Addr}{c2:Nat}{ys:List t.den}
  {T1 T2:TypeId} {p1 p2:String} {f1 f2:Array Edge} (k ky:Nat) (js gs:List Nat) (i j:Nat) (li':List Bool) (K:Ky P kt enc) (key:κ) (hz0: ∀w,(zeroValue et).run P w=.ok (.slice none 0 0) w)
  (hinf:P.info? e=some i0∧i0.zero=some z∧i0.size=sz∧i0.bytes=bytes∧z.cells.size=sz) (h63:((mget [] m key).length+ys.length)*bytes≤140737488355328)
  (h: ∀As' v,AH r P ops Q Hq m0 f li' C ((d,v)::l) ((k,.mr κ enc t e b As' (mins m key (mget [] m key++ys)))::ded js H))
  (V:ops[i]?=some ⟨some d,.call {callee:=.builtin .append,args:=#[y0,y],argTypes:=#[st,st]},T1,p1,f1,none⟩:=by rfl) (W:ops[j]?=some ⟨none,.mapUpdate tt mx kx (.tmp d),T2,p2,f2,none⟩:=by rfl)
  (Y:hk H k=some (.mr κ enc t e b As m):=by rfl) (hk2:hk H ky=some (.own t e A2 c2 ys):=by rfl) (N:Nat.beq k ky=false:=by rfl) (hy0:ev l y0=some (.slice (agt As m key).1 (mget [] m key).length (agt As m key).2):=by rfl) (hyy:ev l y=some (.slice A2 n2 c2):=by rfl) (hn2:n2=ys.length:=by rfl)
  (E: ∀v,ev ((d,v)::l) mx=some (.map (some b)):=by exact fun _=>rfl) (hy: ∀v,ev ((d,v)::l) kx=some (enc key):=by exact fun _=>rfl) (hsz:sz=t.size:=by rfl) (hbp:Nat.ble 1 bytes=true:=by rfl)
  (ht:P.underlying tt=some (.map kt et):=by rfl) (hst:P.underlying st=some (.slice e):=by rfl) (hd:Nat.ble (d+1) C.n=true:=by rfl)
  (hr1:Region.ready .any ops li.toArray=[i]:=by kernel_rfl) (hr2:Region.ready .any ops (li.toArray.setIfInBounds i true)=[j]:=by kernel_rfl) (hl:((li.toArray.setIfInBounds i true).setIfInBounds j true).toList=li':=by kernel_rfl) (hg2:gn ops ((li.toArray.setIfInBounds i true).setIfInBounds j true) m0=true:=by kernel_rfl) (eg:kpH ((k,.dead)::drp k H) gs gs=Hq:=by kernel_rfl) (hj1:hng [k] js H=true:=by kernel_rfl):
  AH r P ops Q Hq m0 (f+2) li C l H:=fun a w hf hh=>by
 subst hn2;subst hsz
 obtain⟨hi0,hz,hsize,hby,hzs⟩:=hinf
 have N:k≠ky:=fun e=>by rw[e,Xv]at N;cases N
 have hM:Mr enc t e w (Fh C H) b As m:=hh.hold k _ Y
 have hM2:Mr enc t e w (fun x=>Fh C H x∧x<w.heap.size) b As m:=by
  obtain⟨es,c1,c2,c3,c4,c5,c6⟩:=hM
  refine⟨es,c1,c2,c3,c4,c5,fun i p a hp ha=>?_⟩
  obtain⟨c7,cells,hr,o1,o2⟩:=c6 i p a hp ha
  exact⟨c7,cells,hr,o1,fun i x V=>Qaf t (o2 i x V)⟩
 obtain⟨G,hR,hG⟩:=rowO hk2 w hh
 have hR2:Row t w (fun x=>Fh C H x∧x<w.heap.size) G A2 c2 ys:=by
  obtain⟨r1,r2,cs,r3,r4,r5⟩:=hR
  exact⟨r1,r2,cs,r3,r4,fun i x V=>Qaf t (r5 i x V)⟩
 have I: ∀x,x∈b::rbl As→Bk H k x:=fun x E=>⟨_,Y,E⟩
 obtain⟨A',c',w2,w3,e2,e3,hch2,hch,As',hM3,hnew⟩:=hM2.appU (ty:=T1) K ht hz0 hst hi0 hz hsize hby hzs (Q0 hbp) (fun x E hxb=>E.1.1 k (I x hxb)) (fun x E=>E.2) hR2 key h63
 refine⟨fun L=>(by rw[hr1]at L;cases L),fun q hq=>?_⟩
 rw[hr1,Qi]at hq
 subst hq
 refine Hem.list V (Z.valw (w':=w2) (v:=.slice A' ((mget [] m key).length+ys.length) c') hf hd ?_ fun a1 J=>Z.done ⟨fun _=>Hp.cov (hh.upd (k:=k) (r':=.dead) hch2 (fun x E=>I x (Qb _ E)) (fun x E=>(by cases E)) (fun j W=>(by cases W)) fun F B _ _ _ _ _=>trivial) gs eg,fun L=>(by rw[hr2]at L;cases L),fun q2 hq2=>?_⟩)
 ·simp only[execOp,resolve,invoke,builtin,Sem.run_bind,Sem.run_pure,Result.andThen_ok,Xt,Qv,W8,hf.eval hy0,hf.eval hyy,e2]
 rw[hr2,Qi]at hq2
 subst hq2
 refine Hem.list W (Z.skipw (w':=w3) J ?_ fun a2 hf2=>Z.done ⟨fun L=>(by rw[hg2]at L;cases L),?_⟩)
 ·simp only[execOp,Sem.run_bind,J.eval (E _),J.eval (hy _),J.eval (x:=.tmp d) (lk_hd _ _ _),e3,Result.andThen_ok,Sem.run_pure]
 have O:=h As' _ a2 w3 hf2 (Hp.dd (hh.upd hch I (fun x E=>?_) (fun j W=>by cases W) fun F B hF _ _ _ _=>hM3.asF fun x E _=>hF x E.1 E.2) hj1)
 ·rw[←hl,Wp]at O
  exact O
 ·simp only[Res.bl]at E
  rcases Qg.1 E with rfl|E
  ·exact .inl (I _ (Qf ..))
  ·rcases hnew x E with O|O
   ·exact .inl (I _ (Qb _ O))
   ·exact .inr O
end
end Go.A
end
section
namespace Go.Proofs.YtlhiofnikdppeaaGreatDoor
open Go.RowKit
variable(A0_ A1_ A2_ A3_ A4_ A5_ A6_ A7_ A8_ A10_ A12_ A13_ A17_:Option Addr)(b0_ g0_ b1_ c1_ c2_ g2_ c3_ b4_ c4_ b5_ c5_ b6_ c6_ c7_ c8_ c9_ g10_ c11_ c13_ c14_ c18_:Nat)
def F.cL (h:(List (Int×(List D49)))→Int→Option ((Option (List (Int×(List D49))))×Int))(a:Int)(k:List (Int×(List D49))):Option ((Option (List (Int×(List D49))))×Int):=A.gd (Z.R64 (a+1)) (h k (a+1))
def F.bC (h:Int→Int→Option ((Option (List (Int×(List D49))))×Int))(a:Int)(k:Int):Option ((Option (List (Int×(List D49))))×Int):=A.gd (Z.R64 (a+1)) (h k (a+1))
def F.t (h:D23)(s:(List D49))(a:List (Int×(List D49))):Nat→Int→Int→Option ((Option (List (Int×(List D49))))×Int)
 |0,_,_=>none
 |f+1,k,o=>if o<(h.length:Int)then((A.ix h o).bind fun p=>((F.dR p.2.1).bind fun y=>(if(!y)=true then(F.bC (F.t h s a f) o k)else(A.lt (Z.mget ([]:(List D49)) a p.1) fun z=>((F.bc p z).bind fun u=>(if u≠0 then(some (none,u))else(A.lt (Z.mget ([]:(List D49)) a p.1) fun x=>(A.gd (Z.R64 (k+(x.length:Int))) (F.bC (F.t h s a f) o (k+(x.length:Int)))))))))))else(if k≠(s.length:Int)then(some (none,171))else(some (some a,0)))
def F.aO (p:D23)(h:(List D49)):Nat→(List (Int×(List D49)))→Int→Option ((Option (List (Int×(List D49))))×Int)
 |0,_,_=>none
 |f+1,k,o=>if o<(h.length:Int)then((A.ix h o).bind fun a=>(A.gd (((Z.mget ([]:List D49) k a.1).length+List.length (α:=D49) [a])*40≤140737488355328) (F.cL (F.aO p h f) o (Z.mins k a.1 (Z.mget ([]:List D49) k a.1++[a])))))else(F.t p h k A.FU 0 0)
def F.cQ (a:D23)(h:(List D49)):Option ((Option (List (Int×(List D49))))×Int):=F.aO a h A.FU [] 0
theorem o_aP(o:D23)(p:(List D49))(r:(Option (List (Int×(List D49))))×Int)(a:F.cQ o p=some r):
    A.Ct Tryz.prog 21 [.agg #[.slice A0_ o.length c1_],.slice A2_ p.length c3_] [(0,.sh (.slice T54) [.slice A0_ o.length c1_] o),(1,.ln T49 A2_ c3_ p),(2,.el none 0 0 A.tabF),(3,.el none 1 0 A.tabA)] [] (fun v H'=>(r.1=none∧v=.tuple #[.map none,A.i r.2]∧H'=[]∧A.h6 r.2)∨(∃(p0:(List (Int×(List D49)))),r.1=some p0∧∃(b0':Nat),v=.tuple #[.map (some b0'),A.i r.2]∧H'=[(0,.mp Int (fun i:Int=>A.i i) (Z.Ty.slice T49) false b0' p0)]∧A.h6 r.2)):=by
 refine Jg Tryz.func21 rfl Tryz.ntmps21 rfl fun w0 F0=>?_;rw[F.cQ]at a;refine Jc 1 ?_;refine Jl 4 (cs:=[.slice A0_ o.length c1_]) fun g1=>?_;refine Ji 2 [] (Jk 2 ?_);refine A.AL.mkmr 5 Int (fun i:Int=>A.i i) T49 50 fun y=>?_;refine Ji 1 [(6,.map (some y))] (Jk 3 ?_);refine Ji 3 [(14,.slice A2_ p.length c3_),(15,A.i (p.length:Int)),(16,A.i 0)] (Jd 2 ?_);refine J3 [1,2,6,14,15] [0,1,2,3,4] (fun f L N=>∃(u:List (Int×(List D49))),∃(B:Int),∃(As3:List (Option Addr×Nat)),L=[(16,A.i B)]∧N=[(5,.mr Int (fun i:Int=>A.i i) T49 50 y As3 u)]∧A.h6 B∧F.aO o p f u B=some r) ⟨[],0,[],rfl,rfl,Js,a⟩ ?_;rintro Y _ _ ⟨u,B,As3,rfl,rfl,aj,a⟩;rcases Y with _|Y
 ·exact J1 a
 rw[F.aO]at a;refine Jc 1 ?_;refine Ji 1 [(17,.bool (decide (B<(p.length:Int))))] (Jd 2 ?_);refine J9 a ?_ ?_<;>intro U a
 ·refine V5 2 ?_;refine Jp [1,2,6,14,15,16] [0,1,2,3,4] (fun L N=>∃(V:List (Int×(List D49))),∃(As8:List (Option Addr×Nat)),L=[]∧N=[(5,.mr Int (fun i:Int=>A.i i) T49 50 y As8 V)]∧F.cL (F.aO o p Y) B V=some r) ?_ ?_
  ·refine Jc 2 ?_;have⟨h,a8,a⟩:=Vo a;refine Vv 1 1180 a8 fun J=>?_;intro ak al;refine Jf [] [1180] [.e 0 0] [(19,.agg #[A.i h.1,A.i h.2.1,.string h.2.2.1,A.i h.2.2.2])] ?_;refine Jh 1181 (cs:=l4c) Tryz.zeroValue50 fun am=>?_;refine Jw 1181 [] [A.i h.1,A.i h.2.1,.string h.2.2.1,A.i h.2.2.2] ?_;refine Jd 1 ?_;refine Vb mixed 10 11 (A.mb 11 0) ?_;refine J8 Jy [] l4e [1181] [] (A.mb 11 191) 4 [(0,.n),(1,.n),(3,.n),(4,.n),(7,.b 0 0),(2,.b 0 0),(5,.b 0 0)] [(20,.map (some y)),(23,.map (some y)),(27,.agg #[A.i h.1,A.i h.2.1,.string h.2.2.1,A.i h.2.2.2]),(22,A.i h.1),(25,A.i h.1)] ?_;refine A.AH.two 6 8 ?_ ?_
   ·refine A.AL.lkM 5 ky3 h.1 Tryz.zeroValue29 ?_;refine Ju (A.mb 11 255) l4e ?_;refine Jr 8 ?_;refine J6 1422 (ty:=T49) (cs:=[A.i h.1,A.i h.2.1,.string h.2.2.1,A.i h.2.2.2]) [h] ⟨⟨⟨rfl,J.1⟩,⟨rfl,J.2.1⟩,⟨rfl,J.2.2.1⟩,⟨rfl,J.2.2.2⟩⟩,rfl⟩ (fun a9=>?_) Tryz.zeroValue50 Tryz.sizeOf50
    refine Ju (A.mb 11 511) l4e ?_;have⟨hl498,a⟩:=Ve a;refine A.AH.mapp (t:=T49) (ys:=[h]) 5 1422 [] [0,1,2,3,4,1180,1181] 9 10 (A.mb 11 2047) ky3 h.1 Tryz.zeroValue29 inf50 hl498 (fun As499 an=>?_);refine Jt ?_;refine A.ee 1 ?_;exact J2 ⟨(Z.mins u h.1 (Z.mget ([]:List D49) u h.1++[h])),As499,rfl,rfl,a⟩
   refine J6 1422 (ty:=T49) (cs:=[A.i h.1,A.i h.2.1,.string h.2.2.1,A.i h.2.2.2]) [h] ⟨⟨⟨rfl,J.1⟩,⟨rfl,J.2.1⟩,⟨rfl,J.2.2.1⟩,⟨rfl,J.2.2.2⟩⟩,rfl⟩ (fun a9=>?_) Tryz.zeroValue50 Tryz.sizeOf50
   refine Ju (A.mb 11 447) l4e ?_;refine Jr 6 ?_;refine A.AL.lkM 5 ky3 h.1 Tryz.zeroValue29 ?_;refine Ju (A.mb 11 511) l4e ?_;have⟨hl377,a⟩:=Ve a;refine A.AH.mapp (t:=T49) (ys:=[h]) 5 1422 [] [0,1,2,3,4,1180,1181] 9 10 (A.mb 11 2047) ky3 h.1 Tryz.zeroValue29 inf50 hl377 (fun As378 ao=>?_);refine Jt ?_;refine A.ee 1 ?_;exact J2 ⟨(Z.mins u h.1 (Z.mget ([]:List D49) u h.1++[h])),As378,rfl,rfl,a⟩
  rintro _ _ ⟨V,As8,rfl,rfl,a⟩;rw[F.cL]at a;refine Jc 0 ?_;have⟨a5,a⟩:=Ve a;refine Vy 2 [Z.R64 (B+1)] [(16,A.i (B+1))] a5 (Je ?_);exact J2 ⟨_,Ql _,⟨V,(B+1),As8,rfl,rfl,(Jj a5),a⟩⟩
 refine Jc 3 ?_;refine Ji 1 [(9,A.i 0)] (Jk 3 ?_);refine Jf [4] [] [.n,.b 0 0,.n,.n] [(32,.slice A0_ o.length c1_),(33,A.i (o.length:Int)),(34,A.i 0)] (Jd 2 ?_);refine A.frzM 5 [] ?_;refine J3 [1,6,32,33] [0,1,2,3,5] (fun f L N=>∃(x:Int),∃(E:Int),L=[(9,A.i x),(34,A.i E)]∧N=[]∧A.h6 x∧A.h6 E∧F.t o p u f x E=some r) ⟨0,0,rfl,rfl,Js,Js,a⟩ ?_;rintro a2 _ _ ⟨x,E,rfl,rfl,aa,ap,a⟩;rcases a2 with _|a2
 ·exact J1 a
 rw[F.t]at a;refine Jc 1 ?_;refine Ji 1 [(35,.bool (decide (E<(o.length:Int))))] (Jd 2 ?_);refine J9 a ?_ ?_<;>intro U a
 ·refine V5 2 ?_;refine Jp [1,6,32,33,34] [0,1,2,3,5] (fun L N=>∃(O:Int),L=[(9,A.i O)]∧N=[]∧A.h6 O∧F.bC (F.t o p u a2) E O=some r) ?_ ?_
  ·refine Jc 2 ?_;have⟨k,ab,a⟩:=Vo a;refine J4 0 1682 ab fun I=>?_;intro W X aq ar;refine Jf [] [1682] [.e 0 0] [(37,.agg #[A.i k.1,A.i k.2.1,.slice W k.2.2.1.length X,A.i k.2.2.2.1.1,A.i k.2.2.2.1.2.1,.string k.2.2.2.1.2.2,.string k.2.2.2.2.1,A.i k.2.2.2.2.2.1,A.i k.2.2.2.2.2.2])] ?_;refine Jh 1684 (cs:=l4a) Tryz.zeroValue55 fun au=>?_;refine Jw 1684 [] [A.i k.1,A.i k.2.1,.slice W k.2.2.1.length X,A.i k.2.2.2.1.1,A.i k.2.2.2.1.2.1,.string k.2.2.2.1.2.2,.string k.2.2.2.2.1,A.i k.2.2.2.2.2.1,A.i k.2.2.2.2.2.2] ?_;refine Jk 3 ?_;refine Jf [1684] [] [.n,.b 0 1] [(39,A.i k.2.1)] ?_;refine Va 1685 [] a (o_bc k.2.1 I.2.1) .nil ?_;rintro ac - a _ _ ⟨rfl,rfl⟩;refine Jq ?_;refine Ji 1 [(41,.bool (!ac))] (Jd 1 ?_);refine V0 a ?_ ?_<;>intro U a
   ·refine Vi 1 ?_;exact J2 ⟨x,rfl,rfl,aa,a⟩
   refine Jc 4 ?_;refine Jf [1684] [] [.b 0 0,.n,.n,.b 0 0] [(42,.agg #[A.i k.1,A.i k.2.1,.slice W k.2.2.1.length X,A.i k.2.2.2.1.1,A.i k.2.2.2.1.2.1,.string k.2.2.2.1.2.2,.string k.2.2.2.2.1,A.i k.2.2.2.2.2.1,A.i k.2.2.2.2.2.2]),(43,.map (some y)),(45,A.i k.1)] ?_;obtain⟨ad,ae,a⟩:=Jz a;refine Vr (t:=(Z.Ty.slice T49)) 5 1725 (z:=([]:(List D49))) (zs:=l4d) ky3 k.1 Tryz.zeroValue29 (.inr ⟨rfl,rfl⟩) ae fun av=>?_;intro af ag;refine Va 1726 [] a (o_ad W af X ag k ad I.1 I.2.1 I.2.2.2.1.1 I.2.2.2.1.2.1 I.2.2.2.1.2.2 I.2.2.2.2.1 I.2.2.2.2.2.1 I.2.2.2.2.2.2) (.s 1683 (.l 1725 (.s 2 (.s 3 .nil)))) ?_;rintro a3 - a _ _ ⟨rfl,rfl,hr702⟩;refine Jq ?_;refine Ji 1 [(12,A.i a3)] (Jk 2 ?_);refine Ji 2 [(49,.bool (decide (a3≠0)))] (Jd 1 ?_);refine J9 a ?_ ?_<;>intro U a
   ·refine Jc 1 ?_;refine Ji 3 [(4,.map none),(5,A.i a3)] (Jd 1 ?_);obtain rfl:=Jm a;exact Vm [] (.inl ⟨rfl,⟨rfl,rfl,hr702⟩⟩)
   refine Jc 2 ?_;refine Jf [1684] [] [.n,.n,.n,.b 0 0] [(51,A.i x),(52,.map (some y)),(54,A.i k.1)] ?_;obtain⟨a4,ah,a⟩:=Jz a;refine Vr (t:=(Z.Ty.slice T49)) 5 1766 (z:=([]:(List D49))) (zs:=l4d) ky3 k.1 Tryz.zeroValue29 (.inr ⟨rfl,rfl⟩) ah fun aw=>?_;intro ax ay;have⟨a6,a⟩:=Ve a;refine Vy 3 [Z.R64 (x+(a4.length:Int))] [(9,A.i (x+(a4.length:Int)))] a6 (V4 1 ?_);exact J2 ⟨(x+(a4.length:Int)),rfl,rfl,(Jj a6),a⟩
  rintro _ _ ⟨O,rfl,rfl,ai,a⟩;rw[F.bC]at a;refine Jc 0 ?_;have⟨a7,a⟩:=Ve a;refine Vy 2 [Z.R64 (E+1)] [(34,A.i (E+1))] a7 (Je ?_);exact J2 ⟨_,Ql _,⟨O,(E+1),rfl,rfl,ai,(Jj a7),a⟩⟩
 refine Jc 4 ?_;refine Ji 4 [(62,.bool (decide (x≠(p.length:Int))))] (Jd 1 ?_);refine J9 a ?_ ?_<;>intro U a
 ·refine Jc 1 ?_;refine Ji 2 [(4,.map none),(5,A.i 171)] (Jd 1 ?_);obtain rfl:=Jm a;exact Vm [] (.inl ⟨rfl,⟨rfl,rfl,(Jn .i64 (171) rfl)⟩⟩)
 refine Jc 3 ?_;refine Ji 3 [(4,.map (some y)),(5,A.i 0)] (Jd 1 ?_);obtain rfl:=Jm a;exact Vm [(0,5)] (.inr ⟨u,rfl,⟨y,rfl,rfl,Js⟩⟩)
def F.dS (a:(List Int)):Option ((List Int)):=some a
theorem o_bd(a:(List Int))(r:((List Int)))(h:F.dS a=some r):
    A.Ct Tryz.prog 46 [.slice A0_ a.length c1_] [(0,.sh A.TI [.slice A0_ a.length c1_] a)] [] (fun v H'=>∃(g0':Nat) (A1':Option Addr) (c2':Nat),v=.func (.func 80) #[] #[.pointer (some ⟨g0',0,none⟩)]∧H'=[(0,.blk g0' 25 [.slice A1' r.length c2']),(1,.sh A.TI [.slice A1' r.length c2'] r)]):=by
 refine Jg Tryz.func46 rfl Tryz.ntmps46 rfl fun o p=>?_;rw[F.dS]at h;refine Jc 1 ?_;refine Jl 1 (cs:=[.slice A0_ a.length c1_]) fun k=>?_;refine Ji 1 [] (Jk 2 ?_);refine Ji 2 [(2,.func (.func 80) #[] #[.pointer (some ⟨k,0,none⟩)])] (Jd 1 ?_);obtain rfl:=Jm h;exact Jo [(0,1),(1,0)] ⟨k,A0_,c1_,rfl,rfl⟩
def F.b4 (a:List Int):Option ((List Int)):=(F.dS a).bind fun h=>(some h)
def F.cz (h:(List Int)→Int→Option ((List Int)))(a:Int)(k:List Int):Option ((List Int)):=A.gd (Z.R64 (a+1)) (h k (a+1))
def F.b5 (h:(List Int)→Int→Option ((List Int)))(a:List Int)(k:Int)(o:D54)(p:Bool):Option ((List Int)):=if p=true then(A.gd ((List.length (α:=Int) a+List.length (α:=Int) [o.1])*8≤140737488355328) (F.cz h k (a++[o.1])))else(F.cz h k a)
def F.aw (h:D23)(p:D27)(k:(List (Int×D54))):Nat→(List Int)→Int→Option ((List Int))
 |0,_,_=>none
 |f+1,s,o=>if o<(h.length:Int)then((A.ix h o).bind fun a=>(A.lt (Z.mget ((0,0,[],(0,0,(ByteArray.mk #[])),(ByteArray.mk #[]),0,0):D54) k a.1) fun y=>((F.cW a.2.1).bind fun u=>(if(bif u then !(Z.mhas k a.1)else false)=true then((F.ax p.1 a.1).bind fun x=>(F.b5 (F.aw h p k f) s o a (!x)))else(F.b5 (F.aw h p k f) s o a false)))))else(F.b4 s)
def F.cZ (h:D23)(a:D27):Option ((List Int)):=(F.aF h a).bind fun k=>(if k=0 then((F.cK a.2.1).bind fun o=>(F.aw h a o A.FU [] 0))else(F.b4 []))
theorem o_a3(u:D23)(o:D27)(r:((List Int)))(a:F.cZ u o=some r):
    A.Ct Tryz.prog 22 [.agg #[.slice A0_ u.length c1_],.agg #[.slice A2_ o.1.length c3_,.slice A4_ o.2.1.length c5_,.slice A6_ o.2.2.length c7_]] [(0,.sh (.slice T54) [.slice A0_ u.length c1_] u),(1,.sh A.TI [.slice A2_ o.1.length c3_] o.1),(2,.sh (.slice T54) [.slice A4_ o.2.1.length c5_] o.2.1),(3,.sh (.slice T42) [.slice A6_ o.2.2.length c7_] o.2.2),(4,.el none 0 0 A.tabF),(5,.el none 1 0 A.tabA)] [] (fun v H'=>∃(g0':Nat) (A1':Option Addr) (c2':Nat),v=.func (.func 80) #[] #[.pointer (some ⟨g0',0,none⟩)]∧H'=[(0,.blk g0' 25 [.slice A1' r.length c2']),(1,.sh A.TI [.slice A1' r.length c2'] r)]):=by
 refine Jg Tryz.func22 rfl Tryz.ntmps22 rfl fun w0 F0=>?_;rw[F.cZ]at a;refine Jc 1 ?_;refine Jl 6 (cs:=[.slice A0_ u.length c1_]) fun g1=>?_;refine Jl 7 (cs:=[.slice A2_ o.1.length c3_,.slice A4_ o.2.1.length c5_,.slice A6_ o.2.2.length c7_]) fun g2=>?_;refine Ji 1 [] (Jk 2 ?_);refine Ji 1 [(5,.slice none 0 0)] (Jd 1 ?_);refine V1 521 A.ti 3 ?_;refine Jp [] [4,5] (fun B E=>∃(I:List Int),∃(O:Option Addr),∃(U:Nat),B=[(5,.slice O I.length U)]∧E=[(521,.own A.ti 3 O U I)]∧F.b4 I=some r) ?_ ?_
 ·refine Jc 1 ?_;refine Jf [6,7] [] [.b 0 0,.b 1 0] [(11,.agg #[.slice A0_ u.length c1_]),(12,.agg #[.slice A2_ o.1.length c3_,.slice A4_ o.2.1.length c5_,.slice A6_ o.2.2.length c7_])] ?_;have⟨a4,ae,a⟩:=Vo a;refine Vx 522 [] (first:=[]) (cap:=[]) cf20 (o_ab A0_ A2_ A4_ A6_ c1_ c3_ c5_ c7_ u o a4 ae) (.s 0 (.s 1 (.s 2 (.s 3 (.s 4 (.s 5 .nil)))))) ?_;rintro _ _ ⟨rfl,rfl,hr13⟩;refine Jq ?_;refine Ji 1 [(14,.bool (decide (a4=0)))] (Jd 1 ?_);refine J9 a ?_ ?_<;>intro hb a
  ·refine Jc 1 ?_;refine Jf [7] [] [.n,.b 0 1] [(16,.slice A4_ o.2.1.length c5_)] ?_;refine Va 562 [] a (o_u A4_ c5_ o.2.1) (.l 2 .nil) ?_;rintro J - a _ _ ⟨a5,rfl,rfl⟩;refine Jq ?_;refine Ji 1 [(6,.map (some a5))] (Jk 2 ?_);refine Jf [6] [] [.n,.b 0 0,.n,.n] [(19,.slice A0_ u.length c1_),(20,A.i (u.length:Int)),(21,A.i 0)] (Jd 2 ?_);refine J3 [3,6,19,20] [0,1,2,3,4,5,7,562] (fun f B E=>∃(x:List Int),∃(y:Int),∃(L:Option Addr),∃(N:Nat),B=[(5,.slice L x.length N),(21,A.i y)]∧E=[(521,.own A.ti 3 L N x)]∧A.h6 y∧F.aw u o J f x y=some r) ⟨[],0,none,0,rfl,rfl,Js,a⟩ ?_;rintro W _ _ ⟨x,y,L,N,rfl,rfl,aj,a⟩;rcases W with _|W
   ·exact J1 a
   rw[F.aw]at a;refine Jc 1 ?_;refine Ji 1 [(22,.bool (decide (y<(u.length:Int))))] (Jd 2 ?_);refine J9 a ?_ ?_<;>intro hb a
   ·refine V5 2 ?_;refine Jp [3,6,19,20,21] [0,1,2,3,4,5,7,562] (fun B E=>∃(V:List Int),∃(X:Option Addr),∃(Y:Nat),B=[(5,.slice X V.length Y)]∧E=[(521,.own A.ti 3 X Y V)]∧F.cz (F.aw u o J W) y V=some r) ?_ ?_
    ·refine Jc 2 ?_;have⟨h,af,a⟩:=Vo a;refine J4 0 774 af fun a2=>?_;intro a6 a7 ak al;refine Jf [] [774] [.e 0 0] [(24,.agg #[A.i h.1,A.i h.2.1,.slice a6 h.2.2.1.length a7,A.i h.2.2.2.1.1,A.i h.2.2.2.1.2.1,.string h.2.2.2.1.2.2,.string h.2.2.2.2.1,A.i h.2.2.2.2.2.1,A.i h.2.2.2.2.2.2])] ?_;refine Jh 776 (cs:=l4a) Tryz.zeroValue55 fun am=>?_;refine Jw 776 [] [A.i h.1,A.i h.2.1,.slice a6 h.2.2.1.length a7,A.i h.2.2.2.1.1,A.i h.2.2.2.1.2.1,.string h.2.2.2.1.2.2,.string h.2.2.2.2.1,A.i h.2.2.2.2.2.1,A.i h.2.2.2.2.2.2] ?_;refine Jk 2 ?_;refine Jf [776] [] [.n,.n,.b 0 0] [(26,.map (some a5)),(28,A.i h.1)] ?_;obtain⟨p,ag,a⟩:=Jz a;refine Uh (t:=T54) 562 777 (z:=((0,0,[],(0,0,(ByteArray.mk #[])),(ByteArray.mk #[]),0,0):D54)) (zs:=l4a) ky3 h.1 Tryz.zeroValue55 ⟨⟨rfl,by decide⟩,⟨rfl,by decide⟩,(.inr ⟨rfl,rfl⟩),⟨⟨rfl,by decide⟩,⟨rfl,by decide⟩,⟨rfl,by decide⟩⟩,⟨rfl,by decide⟩,⟨rfl,by decide⟩,⟨rfl,by decide⟩⟩ ag fun an=>?_;intro a8 a9;refine Ji 3 [(30,.agg #[A.i p.1,A.i p.2.1,.slice a8 p.2.2.1.length a9,A.i p.2.2.2.1.1,A.i p.2.2.2.1.2.1,.string p.2.2.2.1.2.2,.string p.2.2.2.2.1,A.i p.2.2.2.2.2.1,A.i p.2.2.2.2.2.2]),(31,.bool (Z.mhas J h.1))] ?_;refine Jh 778 (cs:=l4a) Tryz.zeroValue55 fun ao=>?_;refine Jw 778 [] [A.i p.1,A.i p.2.1,.slice a8 p.2.2.1.length a9,A.i p.2.2.2.1.1,A.i p.2.2.2.1.2.1,.string p.2.2.2.1.2.2,.string p.2.2.2.2.1,A.i p.2.2.2.2.2.1,A.i p.2.2.2.2.2.2] ?_;refine Ji 1 [(10,.bool (Z.mhas J h.1))] (Jd 1 ?_);refine Jp [3,5,6,8,19,20,21] [0,1,2,3,4,5,7,521,562,775,776] (fun B E=>∃(a3:Bool),B=[(46,.bool a3)]∧E=[]∧F.b5 (F.aw u o J W) x y h a3=some r) ?_ ?_
     ·refine Jc 0 ?_;refine Jf [776] [] [.n,.b 0 1] [(33,A.i h.2.1)] ?_;refine Va 779 [] a (o_aq h.2.1 a2.2.1) .nil ?_;rintro ah - a _ _ ⟨rfl,rfl⟩;refine Jq ?_;refine Jf [] [] [.n,.sy .n,.sy .n,.pk,.n] [(39,.bool (bif ah then !(Z.mhas J h.1)else false))] ?_;refine J7 (j:=39) rfl a (fun a=>?_) (fun a=>?_)
      ·refine Jf [7,776] [] [.on .n,.on (.b 0 0),.on .n,.on (.b 1 0)] [(41,.slice A2_ o.1.length c3_),(43,A.i h.1)] ?_;refine J5 (dj:=39) rfl rfl ?_;refine Va 819 [] a (o_l A2_ c3_ o.1 h.1 a2.1) (.l 1 .nil) ?_;rintro aa - a _ _ ⟨rfl,rfl⟩;refine Jq ?_;refine Jf [] [] [.on .n,.n] [(46,.bool (!aa))] (Je ?_);exact J2 ⟨(!aa),rfl,rfl,a⟩
      refine Jf [] [] [.off,.off,.off,.off,.off,.off,.n] [(46,.bool false)] (Je ?_);exact J2 ⟨false,rfl,rfl,a⟩
     rintro _ _ ⟨a3,rfl,rfl,a⟩;rw[F.b5]at a;refine V0 a ?_ ?_<;>intro hb a
     ·refine Jc 0 ?_;refine Jf [776] [] [.n,.n,.b 0 0] [(47,.slice L x.length N),(49,A.i h.1)] ?_;refine J6 859 (ty:=A.ti) (cs:=[A.i h.1]) [h.1] ⟨⟨rfl,a2.1⟩,rfl⟩ (fun ap=>?_) Tryz.zeroValue3 Tryz.sizeOf3
      have⟨hl45,a⟩:=Ve a;refine Vh (k:=521) [] (Vz (k:=859) rfl) inf3 hl45 fun ab ac=>?_;refine Ji 1 [(5,.slice ab ((x++[h.1]).length) ac)] (V4 1 ?_);exact J2 ⟨(x++[h.1]),ab,ac,rfl,rfl,a⟩
     refine Vi 2 ?_;exact J2 ⟨x,L,N,rfl,rfl,a⟩
    rintro _ _ ⟨V,X,Y,rfl,rfl,a⟩;rw[F.cz]at a;refine Jc 0 ?_;have⟨ad,a⟩:=Ve a;refine Vy 2 [Z.R64 (y+1)] [(21,A.i (y+1))] ad (Je ?_);exact J2 ⟨_,Ql _,⟨V,(y+1),X,Y,rfl,rfl,(Jj ad),a⟩⟩
   refine Vi 1 ?_;exact J2 ⟨x,L,N,rfl,rfl,a⟩
  refine Vi 1 ?_;exact J2 ⟨[],none,0,rfl,rfl,a⟩
 rintro _ _ ⟨I,O,U,rfl,rfl,a⟩;rw[F.b4]at a;refine Jc 1 ?_;refine Ji 1 [(53,.slice O I.length U)] ?_;refine A.frz 521 [] ?_;refine Va 860 [] a (o_bd O U I) (.s 521 .nil) ?_;rintro r6 - a _ _ ⟨g8,A9,ai,rfl,rfl⟩;refine Jq ?_;refine Ji 1 [(4,.func (.func 80) #[] #[.pointer (some ⟨g8,0,none⟩)])] (Jd 1 ?_);obtain rfl:=Jm a;exact Jo [(0,860),(1,861)] ⟨g8,A9,ai,rfl,rfl⟩
def F.aP (h:(List Int)):Nat→Int→Option (List Int)
 |0,_=>none
 |f+1,a=>if a<(h.length:Int)then((A.ix h a).bind fun k=>(A.cns k (A.gd (Z.R64 (a+1)) ((F.aP h f) (a+1)))))else(some [])
def F.cm (a:(List Int)):Option (List Int):=F.aP a A.FU 0
theorem o_aH(k:(List Int))(xs:List Int)(a:F.cm k=some xs):
    A.Sq Tryz.prog 80 [.pointer (some ⟨g0_,0,none⟩)] [(0,.el none g0_ 0 [.slice A1_ k.length c2_]),(1,.sh A.TI [.slice A1_ k.length c2_] k)] A.ti (fun cs=>[Z.vof false cs]) xs:=by
 refine A.Sq.enter Tryz.func80 rfl Tryz.ntmps80 rfl fun lid x J Jx Φ hY hJ0=>?_;obtain⟨rs0,hrs⟩: ∃rs0,rs0=xs:=⟨_,rfl⟩
 have hR0:A.Rem xs 0 rs0:=hrs▸A.Rem.zero xs
 rw[F.cm,←hrs]at a
 clear hrs
 refine Jc 1 ?_;refine Jf [] [0] [.e 0 0,.n,.n] [(5,.slice A1_ k.length c2_),(6,A.i (k.length:Int)),(7,A.i 0)] (Jd 2 ?_);refine A.AX.loopC (A.CY 16 Φ) (0,x) [0,5,6] [1] [1] (fun f i y z=>∃(h:Int),∃(rs:List Int),y=[(7,A.i h)]∧z=[]∧A.h6 h∧J i.1 i.2∧A.Rem xs i.1 rs∧F.aP k f h=some rs) A.FU [(7,A.i 0)] [] ⟨0,_,rfl,rfl,Js,hJ0,hR0,a⟩ ?_;rintro p ⟨B,L⟩ _ _ ⟨h,rs8,rfl,rfl,N,hJ6,hR7,a⟩;rcases p with _|p
 ·exact J1 a
 rw[F.aP]at a;refine Jc 1 ?_;refine Ji 1 [(8,.bool (decide (h<(k.length:Int))))] (Jd 2 ?_);refine J9 a ?_ ?_<;>intro O a
 ·refine Jc 5 ?_;have⟨o,E,a⟩:=Vo a;refine J4 1 4 E fun I=>?_;intro U V;refine Jf [] [4] [.e 0 0,.n] [(4,A.i o)] (Jk 2 ?_);refine Ji 2 [(11,.func (.yield lid) #[] #[]),(12,A.i o)] ?_;obtain⟨rs14,hqrs14,a⟩:=A.cns_some a;refine A.AL.yield hY hJ6 (hqrs14▸hR7) [A.i o] ⟨rfl,I⟩ (fun s hJ16 hR17=>?_) (fun s hX18=>?_)
  ·refine Ji 1 [(14,.bool false)] (Jd 1 ?_);refine Vk rfl ?_;refine Jc 3 ?_;have⟨u,a⟩:=Ve a;refine Vy 2 [Z.R64 (h+1)] [(7,A.i (h+1))] u (Je ?_);exact A.AE.jC (B+1,s) [1] [(7,A.i (h+1))] [] ⟨_,Ql _,⟨(h+1),_,rfl,rfl,(Jj u),hJ16,hR17,a⟩⟩
  refine Ji 1 [(14,.bool true)] (Jd 1 ?_);refine Vn rfl ?_;exact A.AX.rtX hY hX18
 refine Vi 1 ?_;obtain rfl:=Jm a;exact A.AE.rtY hY hJ6 hR7
def F.bp (k:(List (D93×Int))→Option ((List D49)×Int))(h:(List D49)):Nat→(List (D93×Int))→Int→Option ((List D49)×Int)
 |0,_,_=>none
 |f+1,o,a=>if a<(h.length:Int)then((A.ix h a).bind fun p=>((F.af o 16 p).bind fun s=>(A.gd (Z.R64 (a+1)) ((F.bp k h f) s (a+1)))))else(k o)
def F.bq (o:(List (D93×Int))→Int→Option ((List D49)×Int))(h:Int)(k:(List D49)×Int):Nat→(List (D93×Int))→Int→Option ((List D49)×Int)
 |0,_,_=>none
 |f+1,p,a=>if a<(k.1.length:Int)then((A.ix k.1 a).bind fun s=>((F.af p 16 s).bind fun u=>(A.gd (Z.R64 (a+1)) ((F.bq o h k f) u (a+1)))))else(A.gd (Z.R64 (h+1)) (o p (h+1)))
def F.aR (a:D27)(p:(List (Int×(List D49)))):Nat→(List (D93×Int))→Int→Option ((List D49)×Int)
 |0,_,_=>none
 |f+1,s,h=>if h<(a.2.2.length:Int)then((A.ix a.2.2 h).bind fun k=>((F.co a.2.1 k.2.1).bind fun u=>(A.lt (Z.mget ([]:(List D49)) p k.1) fun x=>((F.a5 u.1 k x).bind fun o=>(if o.2≠0 then(some ([],o.2))else(F.bq (F.aR a p f) h o A.FU s 0))))))else((F.au s).bind fun y=>(some (y,0)))
def F.a3 (k:D27)(a:(List (Int×(List D49)))):List Int→(List (D93×Int))→Option ((List D49)×Int)
 | [],h=>F.aR k a A.FU h 0
 |o::f,h=>A.lt (Z.mget ([]:(List D49)) a o) fun p=>(F.bp (F.a3 k a f) p A.FU h 0)
def F.ci (h:D23)(k:D27)(o:(List D49)):List D42→Option ((List D49)×Int)
 | []=>(F.cQ h o).bind fun a=>A.om a.1 (if a.2≠0 then(some ([],a.2))else none) fun p=>(if a.2≠0 then(some ([],a.2))else((F.cZ h k).bind fun s=>((F.cm s).bind fun u=>F.a3 k p u [])))
 |x::f=>some ([],181)
def F.dT (a:D23)(h:D27)(o:(List D49)):Option ((List D49)×Int):=(F.aF a h).bind fun k=>(if k≠0 then(some ([],k))else((F.dv a h).bind fun p=>((F.x p).bind fun s=>F.ci a h o s)))
theorem o_be(B:D23)(p:D27)(Y:(List D49))(r:(List D49)×Int)(h:F.dT B p Y=some r):
    A.Ct Tryz.prog 8 [.agg #[.slice A0_ B.length c1_],.agg #[.slice A2_ p.1.length c3_,.slice A4_ p.2.1.length c5_,.slice A6_ p.2.2.length c7_],.slice A8_ Y.length c9_] [(0,.sh (.slice T54) [.slice A0_ B.length c1_] B),(1,.sh A.TI [.slice A2_ p.1.length c3_] p.1),(2,.sh (.slice T54) [.slice A4_ p.2.1.length c5_] p.2.1),(3,.sh (.slice T42) [.slice A6_ p.2.2.length c7_] p.2.2),(4,.ln T49 A8_ c9_ Y),(5,.el none 0 0 A.tabF),(6,.el none 1 0 A.tabA)] [] (fun v H'=>∃(A0':Option Addr) (c1':Nat),v=.tuple #[.slice A0' r.1.length c1',A.i r.2]∧H'=[(0,.own T49 50 A0' c1' r.1)]∧A.h6 r.2):=by
 refine Ua Tryz.func8 rfl Tryz.ntmps8 rfl fun w0 F0=>?_;rw[F.dT]at h;refine Jc 1 ?_;refine Jl 7 (cs:=[.slice A0_ B.length c1_]) fun g1=>?_;refine Jl 8 (cs:=[.slice A2_ p.1.length c3_,.slice A4_ p.2.1.length c5_,.slice A6_ p.2.2.length c7_]) fun g2=>?_;refine Jh 9 (cs:=l4d) Tryz.zeroValue29 fun g3=>?_;refine Jh 10 (cs:=[A.i 0]) Tryz.zeroValue33 fun g4=>?_;refine Jk 3 ?_;refine Jf [7,8] [] [.b 0 0,.b 1 0] [(23,.agg #[.slice A0_ B.length c1_]),(24,.agg #[.slice A2_ p.1.length c3_,.slice A4_ p.2.1.length c5_,.slice A6_ p.2.2.length c7_])] ?_;have⟨r5,b0,h⟩:=Vo h;refine Vx 11 [] (first:=[]) (cap:=[]) cf20 (o_ab A0_ A2_ A4_ A6_ c1_ c3_ c5_ c7_ B p r5 b0) (.s 0 (.s 1 (.s 2 (.s 3 (.s 5 (.s 6 .nil)))))) ?_;rintro _ _ ⟨rfl,rfl,hr7⟩;refine Jq ?_;refine Ji 1 [(8,A.i r5)] (Jk 2 ?_);refine Ji 2 [(27,.bool (decide (r5≠0)))] (Jd 1 ?_);refine J9 h ?_ ?_<;>intro hb h
 ·refine Jc 1 ?_;refine Ji 1 [(28,A.i r5)] ?_;refine Jw 9 [] [.slice none 0 0] ?_;refine Jw 10 [] [A.i r5] ?_;refine Jd 1 ?_;obtain rfl:=Jm h;refine V1 51 T49 50 ?_;exact Vq (Ds:=[]) [] [(0,51)] (.tuple #[.slice none 0 0,A.i r5]) (trivial) (fun a w hf hh=>Vf rfl (Vs hf rfl Tryz.isAgg29 (Jv hh 9)) (Vs hf rfl Tryz.isAgg33 (Jv hh 10))) (⟨none,0,rfl,rfl,hr7⟩)
 refine Jc 4 ?_;refine Jf [7,8] [] [.b 0 0,.b 1 0] [(29,.agg #[.slice A0_ B.length c1_]),(30,.agg #[.slice A2_ p.1.length c3_,.slice A4_ p.2.1.length c5_,.slice A6_ p.2.2.length c7_])] ?_;have⟨r8,b1,h⟩:=Vo h;refine Vx 52 [] (first:=[]) (cap:=[]) cf14 (o_bb A0_ A2_ A4_ A6_ c1_ c3_ c5_ c7_ B p r8 b1) (.s 0 (.s 1 (.s 2 (.s 3 (.s 5 (.s 6 .nil)))))) ?_;rintro _ _ ⟨am,ae,af,rfl,rfl⟩;refine Jq ?_;refine Jd 2 ?_;have⟨an,b2,h⟩:=Vo h;refine A.AX.rgf 92 93 94 [0,1,2,3,4,5,6,7,8,9,10,52,53] [0,1,2,3,4,5,6,7,8,9,10,52,53] [93,92,0,1,2,3,4,5,6,7,8,9,10,52,53] (fun k O=>O=[]∧F.ci B p Y (List.drop k an)=some r) [] cf68 (o_c ae am af r8 an b2) (fun _=>rfl) ⟨rfl,h⟩ ?_ ?_ ?_
 ·rintro b3 _ D15 L16 ⟨rfl,h⟩;exact⟨⟨_,(.b 52 (.s 53 .nil))⟩,rfl,fun o=>rfl⟩
 ·rintro b3 _ bu D15 L16 bv bw ⟨rfl,h⟩ hx23 hxo24 b4;rw[Ue hx23,F.ci]at h
  refine Vi 1 ?_;refine Uf 92 93 fun bx=>?_;refine Jc 2 ?_;refine Jw 9 [] [.slice none 0 0] ?_;refine Jw 10 [] [A.i 181] ?_;refine Jd 1 ?_;refine A.AX.bret b4 [93,0,1,2,3,7,8,9,10,52,53,92] 100000 [(93,100093),(0,100000),(1,100001),(2,100002),(3,100003),(7,100007),(8,100008),(9,100009),(10,100010),(52,100052),(53,100053),(92,100092),(4,4),(5,5),(6,6)] [(0,.sh (.slice T54) [.slice A0_ B.length c1_] B),(1,.sh A.TI [.slice A2_ p.1.length c3_] p.1),(2,.sh (.slice T54) [.slice A4_ p.2.1.length c5_] p.2.1),(3,.sh (.slice T42) [.slice A6_ p.2.2.length c7_] p.2.2),(7,.blk g1 24 [.slice A0_ B.length c1_]),(8,.blk g2 28 [.slice A2_ p.1.length c3_,.slice A4_ p.2.1.length c5_,.slice A6_ p.2.2.length c7_]),(9,.blk g3 29 [.slice none 0 0]),(10,.blk g4 33 [A.i 181]),(52,.blk am 26 [.slice ae r8.length af]),(53,.sh (.slice T42) [.slice ae r8.length af] r8),(92,.ob D15 A.dfT),(4,.ln T49 A8_ c9_ Y),(5,.el none 0 0 A.tabF),(6,.el none 1 0 A.tabA)] ?_ rfl rfl
  obtain rfl:=Jm h;refine V1 96 T49 50 ?_;exact A.AE.rtM (Ds:=[D15]) [92] [(0,96)] (.tuple #[.slice none 0 0,A.i 181]) (⟨rfl,trivial⟩) (fun a w hf hh=>Vf rfl (Vs hf rfl Tryz.isAgg29 (Jv hh 9)) (Vs hf rfl Tryz.isAgg33 (Jv hh 10))) (⟨none,0,rfl,rfl,(Jn .i64 (181) rfl)⟩)
 rintro _ D15 L16 ⟨rfl,h⟩;rw[X2,F.ci]at h
 refine A.el 3 ?_;refine Jf [7] [] [.b 0 0,.n] [(34,.agg #[.slice A0_ B.length c1_]),(35,.slice A8_ Y.length c9_)] ?_;refine Va 97 [] h (o_aP A0_ A8_ c1_ c9_ B Y) (.s 0 (.s 4 (.s 5 (.s 6 .nil)))) ?_;rintro L - h _ _ (⟨hp122,rfl,rfl,hr27⟩|⟨a8,hp122,a9,rfl,rfl,hr31⟩)
 ·refine Jq ?_;rw[A.om_n hp122]at h
  refine Ji 3 [(37,.map none),(38,A.i L.2)] ?_;refine Jh 137 (cs:=[.map none]) Tryz.zeroValue59 fun bz=>?_;refine Jw 137 [] [.map none] ?_;refine Ji 1 [(10,A.i L.2)] (Jk 3 ?_);refine Ji 2 [(40,.bool (decide (L.2≠0)))] (Jd 1 ?_);refine J9 h (fun hb h=>?_) (fun hb h=>J1 h)
  refine Jc 1 ?_;refine Ji 1 [(41,A.i L.2)] ?_;refine Jw 9 [] [.slice none 0 0] ?_;refine Jw 10 [] [A.i L.2] ?_;refine Jd 1 ?_;obtain rfl:=Jm h;refine V1 138 T49 50 ?_;exact Vq (Ds:=[D15]) [92] [(0,138)] (.tuple #[.slice none 0 0,A.i L.2]) (⟨rfl,trivial⟩) (fun a w hf hh=>Vf rfl (Vs hf rfl Tryz.isAgg29 (Jv hh 9)) (Vs hf rfl Tryz.isAgg33 (Jv hh 10))) (⟨none,0,rfl,rfl,hr27⟩)
 refine Jq ?_;rw[A.om_s hp122]at h
 refine Ji 3 [(37,.map (some a9)),(38,A.i L.2)] ?_;refine Jh 139 (cs:=[.map none]) Tryz.zeroValue59 fun c0=>?_;refine Jw 139 [] [.map (some a9)] ?_;refine Ji 1 [(10,A.i L.2)] (Jk 3 ?_);refine Ji 2 [(40,.bool (decide (L.2≠0)))] (Jd 1 ?_);refine J9 h ?_ ?_<;>intro hb h
 ·refine Jc 1 ?_;refine Ji 1 [(41,A.i L.2)] ?_;refine Jw 9 [] [.slice none 0 0] ?_;refine Jw 10 [] [A.i L.2] ?_;refine Jd 1 ?_;obtain rfl:=Jm h;refine V1 140 T49 50 ?_;exact Vq (Ds:=[D15]) [92] [(0,140)] (.tuple #[.slice none 0 0,A.i L.2]) (⟨rfl,trivial⟩) (fun a w hf hh=>Vf rfl (Vs hf rfl Tryz.isAgg29 (Jv hh 9)) (Vs hf rfl Tryz.isAgg33 (Jv hh 10))) (⟨none,0,rfl,rfl,hr31⟩)
 refine Jc 3 ?_;refine V8 141 D93 (fun x:D93=>.agg #[A.i x.1,A.i x.2.1,.string x.2.2]) A.ti false fun E=>?_;refine Jh 142 (cs:=[.map none]) Tryz.zeroValue63 fun c1=>?_;refine Jw 142 [] [.map (some E)] ?_;refine Jk 3 ?_;refine Jf [7,8] [] [.b 0 0,.b 1 0] [(43,.agg #[.slice A0_ B.length c1_]),(44,.agg #[.slice A2_ p.1.length c3_,.slice A4_ p.2.1.length c5_,.slice A6_ p.2.2.length c7_])] ?_;have⟨ao,b5,h⟩:=Vo h;refine Vx 143 [] (first:=[]) (cap:=[]) cf22 (o_a3 A0_ A2_ A4_ A6_ c1_ c3_ c5_ c7_ B p ao b5) (.s 0 (.s 1 (.s 2 (.s 3 (.s 5 (.s 6 .nil)))))) ?_;rintro _ _ ⟨b6,b7,b9,rfl,rfl⟩;refine Jq ?_;refine Jd 2 ?_;have⟨ag,bb,h⟩:=Vo h;refine A.AX.rgf 183 184 185 [1,2,3,5,6,8,9,10,92,97,139,142,143,144] [141,1,2,3,5,6,8,9,10,92,97,139,142,143,144] [184,183,141,1,2,3,5,6,8,9,10,92,97,139,142,143,144] (fun k O=>∃(a4:List (D93×Int)),O=[(141,.mp D93 (fun x:D93=>.agg #[A.i x.1,A.i x.2.1,.string x.2.2]) A.ti false E a4)]∧F.a3 p a8 (List.drop k ag) a4=some r) [(141,.mp D93 (fun x:D93=>.agg #[A.i x.1,A.i x.2.1,.string x.2.2]) A.ti false E [])] cf80 (o_aH b7 b6 b9 ao ag bb) (fun _=>rfl) ⟨[],rfl,h⟩ ?_ ?_ ?_
 ·rintro ap _ D42 L43 ⟨a4,rfl,h⟩;exact⟨⟨_,(.b 143 (.s 144 .nil))⟩,rfl,fun o=>rfl⟩
 ·rintro ap _ ah D42 L43 c2 c3 ⟨a4,rfl,h⟩ hx50 hxo51 bc;rw[Ue hx50,F.a3]at h
  refine Jc 0 ?_;refine Ji 1 [(12,A.i ah)] (Je ?_);refine Uf 183 184 fun c4=>?_;refine Jc 2 ?_;refine Jf [139] [] [.b 0 0,.n] [(47,.map (some a9)),(48,A.i ah)] ?_;obtain⟨ai,be,h⟩:=Jz h;refine Vr (t:=(Z.Ty.slice T49)) 97 440 (z:=([]:(List D49))) (zs:=l4d) ky3 ah Tryz.zeroValue29 (.inr ⟨rfl,rfl⟩) be fun c5=>?_;intro c6 c7;refine Ji 2 [(50,A.i (ai.length:Int)),(51,A.i 0)] (Jd 2 ?_);refine J3 [4,6,7,9,11,49,50] [1,2,3,5,6,8,9,10,92,97,139,142,143,144,183,184,440] (fun f nl O=>∃(a5:List (D93×Int)),∃(V:Int),nl=[(51,A.i V)]∧O=[(141,.mp D93 (fun x:D93=>.agg #[A.i x.1,A.i x.2.1,.string x.2.2]) A.ti false E a5)]∧A.h6 V∧F.bp (F.a3 p a8 (List.drop (ap+1) ag)) ai f a5 V=some r) ⟨a4,0,rfl,rfl,Js,h⟩ ?_;rintro aq _ _ ⟨a5,V,rfl,rfl,c8,h⟩;rcases aq with _|aq
  ·exact J1 h
  rw[F.bp]at h;refine Jc 1 ?_;refine Ji 1 [(52,.bool (decide (V<(ai.length:Int))))] (Jd 2 ?_);refine J9 h ?_ ?_<;>intro hb h
  ·refine Jc 5 ?_;have⟨I,bf,h⟩:=Vo h;refine J4 440 525 bf fun aa=>?_;intro c9 ca;refine Jf [] [525] [.e 0 0] [(54,.agg #[A.i I.1,A.i I.2.1,.string I.2.2.1,A.i I.2.2.2])] ?_;refine Jh 526 (cs:=l4c) Tryz.zeroValue50 fun cb=>?_;refine Jw 526 [] [A.i I.1,A.i I.2.1,.string I.2.2.1,A.i I.2.2.2] ?_;refine Jk 1 ?_;refine Jf [142,526] [] [.b 0 0,.b 1 0] [(55,.map (some E)),(56,.agg #[A.i I.1,A.i I.2.1,.string I.2.2.1,A.i I.2.2.2])] ?_;refine Va 527 [] h (o_n E a5 16 I (Jn .i64 (16) rfl) aa.1 aa.2.1 aa.2.2.1 aa.2.2.2) (.m 141 .nil) ?_;rintro bg - h _ _ ⟨rfl,rfl⟩;refine Jq ?_;refine Vg 527 141 [] ?_;refine Jk 2 ?_;have⟨ar,h⟩:=Ve h;refine Vy 2 [Z.R64 (V+1)] [(51,A.i (V+1))] ar (Je ?_);exact J2 ⟨_,Ql _,⟨bg,(V+1),rfl,rfl,(Jj ar),h⟩⟩
  refine Vi 2 ?_;exact A.AE.bn bc [184,183,141,1,2,3,8,9,10,92,97,139,142,143,144] 100000 [(184,100184),(183,100183),(141,100141),(1,100001),(2,100002),(3,100003),(5,5),(6,6),(8,100008),(9,100009),(10,100010),(92,100092),(97,100097),(139,100139),(142,100142),(143,100143),(144,100144)] [(141,.mp D93 (fun x:D93=>.agg #[A.i x.1,A.i x.2.1,.string x.2.2]) A.ti false E a5)] ⟨a5,rfl,h⟩ rfl rfl
 rintro _ D42 L43 ⟨a4,rfl,h⟩;rw[X2,F.a3]at h
 refine A.el 4 ?_;refine Jf [8] [] [.n,.b 0 2,.n,.n] [(60,.slice A6_ p.2.2.length c7_),(61,A.i (p.2.2.length:Int)),(62,A.i 0)] (Jd 2 ?_);refine J3 [4,6,7,9,11,60,61] [1,2,3,5,6,8,9,10,92,97,139,142,183] (fun f nl O=>∃(a6:List (D93×Int)),∃(U:Int),nl=[(62,A.i U)]∧O=[(141,.mp D93 (fun x:D93=>.agg #[A.i x.1,A.i x.2.1,.string x.2.2]) A.ti false E a6)]∧A.h6 U∧F.aR p a8 f a6 U=some r) ⟨a4,0,rfl,rfl,Js,h⟩ ?_;rintro aj _ _ ⟨a6,U,rfl,rfl,cc,h⟩;rcases aj with _|aj
 ·exact J1 h
 rw[F.aR]at h;refine Jc 1 ?_;refine Ji 1 [(63,.bool (decide (U<(p.2.2.length:Int))))] (Jd 2 ?_);refine J9 h ?_ ?_<;>intro hb h
 ·refine Jc 5 ?_;have⟨y,bh,h⟩:=Vo h;refine J4 3 1069 bh fun W=>?_;intro cd ce;refine Jf [] [1069] [.e 0 0] [(65,.agg #[A.i y.1,A.i y.2.1,A.i y.2.2.1,A.i y.2.2.2.1,A.i y.2.2.2.2.1,A.i y.2.2.2.2.2.1,.string y.2.2.2.2.2.2])] ?_;refine Jh 1070 (cs:=l4b) Tryz.zeroValue43 fun cf=>?_;refine Jw 1070 [] [A.i y.1,A.i y.2.1,A.i y.2.2.1,A.i y.2.2.2.1,A.i y.2.2.2.2.1,A.i y.2.2.2.2.2.1,.string y.2.2.2.2.2.2] ?_;refine Jk 2 ?_;refine Jf [8,1070] [] [.n,.b 0 1,.n,.b 1 1] [(68,.slice A4_ p.2.1.length c5_),(70,A.i y.2.1)] ?_;refine Va 1071 [] h (o_aa A4_ c5_ p.2.1 y.2.1 W.2.1) (.l 2 .nil) ?_;rintro u - h _ _ ⟨ab,ac,rfl,rfl,hr83,hr84,hr87,hr88,hr89,hr90,hr91,hr92⟩;refine Jq ?_;refine Ji 3 [(72,.agg #[A.i u.1.1,A.i u.1.2.1,.slice ab u.1.2.2.1.length ac,A.i u.1.2.2.2.1.1,A.i u.1.2.2.2.1.2.1,.string u.1.2.2.2.1.2.2,.string u.1.2.2.2.2.1,A.i u.1.2.2.2.2.2.1,A.i u.1.2.2.2.2.2.2]),(73,.bool u.2)] ?_;refine Jh 1111 (cs:=l4a) Tryz.zeroValue55 fun cg=>?_;refine Jw 1111 [] [A.i u.1.1,A.i u.1.2.1,.slice ab u.1.2.2.1.length ac,A.i u.1.2.2.2.1.1,A.i u.1.2.2.2.1.2.1,.string u.1.2.2.2.1.2.2,.string u.1.2.2.2.2.1,A.i u.1.2.2.2.2.2.1,A.i u.1.2.2.2.2.2.2] ?_;refine Ji 1 [] (Jk 2 ?_);refine Jf [1111,1070,139] [] [.b 0 0,.b 1 0,.b 2 0,.n,.b 1 0] [(75,.agg #[A.i u.1.1,A.i u.1.2.1,.slice ab u.1.2.2.1.length ac,A.i u.1.2.2.2.1.1,A.i u.1.2.2.2.1.2.1,.string u.1.2.2.2.1.2.2,.string u.1.2.2.2.2.1,A.i u.1.2.2.2.2.2.1,A.i u.1.2.2.2.2.2.2]),(76,.agg #[A.i y.1,A.i y.2.1,A.i y.2.2.1,A.i y.2.2.2.1,A.i y.2.2.2.2.1,A.i y.2.2.2.2.2.1,.string y.2.2.2.2.2.2]),(77,.map (some a9)),(79,A.i y.1)] ?_;obtain⟨bi,bj,h⟩:=Jz h;refine Vr (t:=(Z.Ty.slice T49)) 97 1112 (z:=([]:(List D49))) (zs:=l4d) ky3 y.1 Tryz.zeroValue29 (.inr ⟨rfl,rfl⟩) bj fun ch=>?_;intro bk bm;refine Va 1113 [] h (o_j ab bk ac bm u.1 y bi hr83 hr84 hr87 hr88 hr89 hr90 hr91 hr92 W.1 W.2.1 W.2.2.1 W.2.2.2.1 W.2.2.2.2.1 W.2.2.2.2.2.1 W.2.2.2.2.2.2) (.s 1071 (.l 1112 (.s 5 (.s 6 .nil)))) ?_;rintro N - h _ _ ⟨au,av,rfl,rfl,hr103⟩;refine Jq ?_;refine Ji 5 [(19,.slice au N.1.length av),(20,A.i N.2)] (Jk 3 ?_);refine Ji 2 [(85,.bool (decide (N.2≠0)))] (Jd 1 ?_);refine J9 h ?_ ?_<;>intro hb h
  ·refine Jc 1 ?_;refine Ji 1 [(86,A.i N.2)] ?_;refine Jw 9 [] [.slice none 0 0] ?_;refine Jw 10 [] [A.i N.2] ?_;refine Jd 1 ?_;obtain rfl:=Jm h;refine V1 1153 T49 50 ?_;exact Vq (Ds:=[D42,D15]) [183,92] [(0,1153)] (.tuple #[.slice none 0 0,A.i N.2]) (⟨rfl,⟨rfl,trivial⟩⟩) (fun a w hf hh=>Vf rfl (Vs hf rfl Tryz.isAgg29 (Jv hh 9)) (Vs hf rfl Tryz.isAgg33 (Jv hh 10))) (⟨none,0,rfl,rfl,hr103⟩)
  refine Jc 3 ?_;refine Ji 3 [(87,.slice au N.1.length av),(88,A.i (N.1.length:Int)),(89,A.i 0)] (Jd 2 ?_);refine J3 [4,6,7,9,11,60,61,62,87,88] [1,2,3,5,6,8,9,10,92,97,139,142,183,1113] (fun f nl O=>∃(a7:List (D93×Int)),∃(X:Int),nl=[(89,A.i X)]∧O=[(141,.mp D93 (fun x:D93=>.agg #[A.i x.1,A.i x.2.1,.string x.2.2]) A.ti false E a7)]∧A.h6 X∧F.bq (F.aR p a8 aj) U N f a7 X=some r) ⟨a6,0,rfl,rfl,Js,h⟩ ?_;rintro aw _ _ ⟨a7,X,rfl,rfl,cj,h⟩;rcases aw with _|aw
  ·exact J1 h
  rw[F.bq]at h;refine Jc 1 ?_;refine Ji 1 [(90,.bool (decide (X<(N.1.length:Int))))] (Jd 2 ?_);refine J9 h ?_ ?_<;>intro hb h
  ·refine Jc 5 ?_;have⟨J,br,h⟩:=Vo h;refine V9 1113 1238 br fun ad=>?_;intro cm cn;refine Jf [] [1238] [.e 0 0] [(92,.agg #[A.i J.1,A.i J.2.1,.string J.2.2.1,A.i J.2.2.2])] ?_;refine Jh 1239 (cs:=l4c) Tryz.zeroValue50 fun co=>?_;refine Jw 1239 [] [A.i J.1,A.i J.2.1,.string J.2.2.1,A.i J.2.2.2] ?_;refine Jk 1 ?_;refine Jf [142,1239] [] [.b 0 0,.b 1 0] [(93,.map (some E)),(94,.agg #[A.i J.1,A.i J.2.1,.string J.2.2.1,A.i J.2.2.2])] ?_;refine Va 1240 [] h (o_n E a7 16 J (Jn .i64 (16) rfl) ad.1 ad.2.1 ad.2.2.1 ad.2.2.2) (.m 141 .nil) ?_;rintro bt - h _ _ ⟨rfl,rfl⟩;refine Jq ?_;refine Vg 1240 141 [] ?_;refine Jk 2 ?_;have⟨ax,h⟩:=Ve h;refine Vy 2 [Z.R64 (X+1)] [(89,A.i (X+1))] ax (Je ?_);exact J2 ⟨_,Ql _,⟨bt,(X+1),rfl,rfl,(Jj ax),h⟩⟩
  refine Jc 3 ?_;have⟨ay,h⟩:=Ve h;refine Vy 2 [Z.R64 (U+1)] [(62,A.i (U+1))] ay (Je ?_);exact J2 ⟨_,Ql _,⟨a7,(U+1),rfl,rfl,(Jj ay),h⟩⟩
 refine Jc 3 ?_;refine Jf [142] [] [.b 0 0] [(98,.map (some E))] ?_;refine Va 1280 [] h (o_x E a6) (.m 141 .nil) ?_;rintro az - h _ _ ⟨ak,al,rfl,rfl⟩;refine Jq ?_;refine Vg 1281 141 [] ?_;refine Jw 9 [] [.slice ak az.length al] ?_;refine Jw 10 [] [A.i 0] ?_;refine Jd 1 ?_;obtain rfl:=Jm h;exact Vq (Ds:=[D42,D15]) [183,92] [(0,1280)] (.tuple #[.slice ak az.length al,A.i 0]) (⟨rfl,⟨rfl,trivial⟩⟩) (fun a w hf hh=>Vf rfl (Vs hf rfl Tryz.isAgg29 (Jv hh 9)) (Vs hf rfl Tryz.isAgg33 (Jv hh 10))) (⟨ak,al,rfl,rfl,Js⟩)
def F.c8 (h:D23)(k:Int):Nat→Int→Option Int
 |0,_=>none
 |f+1,a=>if a<(h.length:Int)then((A.ix h a).bind fun o=>(if o.1=k then(some a)else(A.gd (Z.R64 (a+1)) ((F.c8 h k f) (a+1)))))else(some (-1))
def F.c9 (a:D23)(h:Int):Option Int:=F.c8 a h A.FU 0
def F.er (h:D23)(o:Int):Option (D54×Bool):=(F.c9 h o).bind fun k=>(if k<0 then(some ((0,0,[],(0,0,ByteArray.mk #[]),ByteArray.mk #[],0,0),false))else((A.ix h k).bind fun a=>(A.gd ((List.length (α:=Int) []+List.length (α:=Int) a.2.2.1)*8≤140737488355328) (some ((a.1,a.2.1,[]++a.2.2.1,a.2.2.2.1,a.2.2.2.2.1,a.2.2.2.2.2.1,a.2.2.2.2.2.2),true)))))
theorem eqq_R08_Find:True:=(fun _=>trivial) @F.er.eq_1
def F.da (a:UInt8):Option Bool:=some (bif decide ((128:Int)≤(a.toNat:Int))then decide ((a.toNat:Int)≤191)else false)
def F.cb (a:UInt8)(h:UInt8)(k:Bool):Option Int:=if k=true then(if(bif decide ((a.toNat:Int)=240)then decide ((h.toNat:Int)<144)else false)=true then(some 0)else(if(bif decide ((a.toNat:Int)=244)then decide ((143:Int)<(h.toNat:Int))else false)=true then(some 0)else(some 4)))else(some 0)
theorem eqq_R05_width_j1:True:=(fun _=>trivial) @F.cb.eq_1
def F.cA (o:ByteArray)(k:Int)(a:UInt8)(h:UInt8)(p:Bool):Option Int:=if p=true then(if(bif decide ((a.toNat:Int)=224)then decide ((h.toNat:Int)<160)else false)=true then(some 0)else(if(bif decide ((a.toNat:Int)=237)then decide ((159:Int)<(h.toNat:Int))else false)=true then(some 0)else(some 3)))else(if(bif bif decide ((240:Int)≤(a.toNat:Int))then decide ((a.toNat:Int)≤244)else false then decide ((4:Int)≤(o.size:Int)-k)else false)=true then((F.da h).bind fun s=>(if s=true then(A.gd (Z.R64 (k+2)) ((A.ix o.data.toList (k+2)).bind fun u=>((F.da u).bind fun x=>(if x=true then(A.gd (Z.R64 (k+3)) ((A.ix o.data.toList (k+3)).bind fun y=>((F.da y).bind fun z=>(F.cb a h z))))else(F.cb a h false)))))else(F.cb a h false)))else(F.cb a h false))
theorem eqq_R05_width_j2:True:=(fun _=>trivial) @F.cA.eq_1
def F.db (h:ByteArray)(a:Int)(k:UInt8)(o:UInt8)(p:Bool):Option Int:=if p=true then(some 2)else(if(bif bif decide ((224:Int)≤(k.toNat:Int))then decide ((k.toNat:Int)≤239)else false then decide ((3:Int)≤(h.size:Int)-a)else false)=true then((F.da o).bind fun s=>(if s=true then(A.gd (Z.R64 (a+2)) ((A.ix h.data.toList (a+2)).bind fun u=>((F.da u).bind fun x=>(F.cA h a k o x))))else(F.cA h a k o false)))else(F.cA h a k o false))
theorem eqq_R05_width_j3:True:=(fun _=>trivial) @F.db.eq_1
def F.dc (h:ByteArray)(k:Int)(a:UInt8)(o:UInt8):Option Int:=if(a.toNat:Int)<128 then(some 1)else(if(bif bif decide ((194:Int)≤(a.toNat:Int))then decide ((a.toNat:Int)≤223)else false then decide ((2:Int)≤(h.size:Int)-k)else false)=true then((F.da o).bind fun p=>(F.db h k a o p))else(F.db h k a o false))
theorem eqq_R05_width_j4:True:=(fun _=>trivial) @F.dc.eq_1
def F.eg (h:ByteArray)(a:Int):Option Int:=A.gd (Z.R64 ((h.size:Int)-a)) ((A.ix h.data.toList a).bind fun k=>(if(1:Int)<(h.size:Int)-a then(A.gd (Z.R64 (a+1)) ((A.ix h.data.toList (a+1)).bind fun o=>(F.dc h a k o)))else(F.dc h a k (0:UInt8))))
theorem eqq_R05_width:True:=(fun _=>trivial) @F.eg.eq_1
def F.dd (h:ByteArray):Nat→Int→Option Bool
 |0,_=>none
 |f+1,a=>if a<(h.size:Int)then((F.eg h a).bind fun k=>(if k=0 then(some false)else(A.gd (Z.R64 (a+k)) ((F.dd h f) (a+k)))))else(some true)
def F.e6 (a:ByteArray):Option Bool:=F.dd a A.FU 0
end Go.Proofs.YtlhiofnikdppeaaGreatDoor
end
section
namespace Go.A
open Go.RowKit Go.Z
def sub (a k:Nat):Bool:=Nat.beq (a&&& k) a
theorem sub_iff {a k:Nat}:sub a k=true↔∀i,a.testBit i=true→k.testBit i=true:=by
 unfold sub
 constructor
 ·intro h i E
  have h:=Wj h
  rw[←h,Nat.testBit_and,Qk]at E
  exact E.2
 ·intro h
  have:a&&& k=a:=Nat.eq_of_testBit_eq fun i=>by
   rw[Nat.testBit_and]
   cases I:a.testBit i with
   |false=>rfl
   |true=>rw[h i I];rfl
  rw[this];exact Xv a
theorem mb_get: ∀(n k i:Nat),i<n→(mb n k)[i]?=some (k.testBit i)
 |0,_,_,h=>absurd h (Nat.not_lt_zero _)
 |n+1,k,0,_=>by
  rw[mb,W9,Nat.testBit_zero]
  congr 1
  rcases Nat.mod_two_eq_zero_or_one k with h|h<;>rw[h]<;>rfl
 |n+1,k,i+1,h=>by
  rw[mb,Wc,mb_get n (k / 2) i (by omega),Nat.testBit_succ]
theorem mb_len: ∀n k,(mb n k).length=n
 |0,_=>rfl
 |n+1,k=>by rw[mb,Qd,mb_len n]
theorem Qiy {n k i:Nat}{b:Bool}(h:i<n):(mb n k).toArray.getD i b=k.testBit i:=by
 rw[W7,Wy,mb_get n k i h];rfl
theorem mb_getD_ge {n k i:Nat}{b:Bool}(h:n≤i):(mb n k).toArray.getD i b=b:=by
 rw[W7,Wy,Wk (by rw[mb_len];exact h)];rfl
def Qic (n:Nat):List Edge→Nat
 | []=>0
 |e::r=>bif Region.binds .any e then(1<<<(min e.on n))|||Qic n r else Qic n r
theorem Qhd {n k:Nat}(hk:k.testBit n=false): ∀l:List Edge,sub (Qic n l) k=true↔∀e∈l,Region.binds .any e=true→e.on<n∧k.testBit e.on=true
 | []=>by rw[sub_iff];simp[Qic]
 |e::r=>by
  have N:=Qhd hk r
  rw[sub_iff]at N ⊢
  unfold Qic
  cases W:Region.binds .any e with
  |false=>
   rw[cond_false,N]
   constructor
   ·intro h x E I
    rcases Qg.1 E with rfl|E
    ·rw[W]at I;cases I
    ·exact h x E I
   ·intro h x E;exact h x (Qb _ E)
  |true=>
   rw[cond_true]
   constructor
   ·intro h
    have O:=N.1 fun i J=>h i (by rw[Nat.testBit_or,J,Bool.or_true])
    intro x E I
    rcases Qg.1 E with rfl|E
    ·have L:=h (min x.on n) (by rw[Nat.testBit_or,Nat.one_shiftLeft,Nat.testBit_two_pow_self,Bool.true_or])
     by_cases V:x.on<n
     ·rw[Xr (Nat.le_of_lt V)]at L;exact⟨V,L⟩
     ·rw[Nat.min_eq_right (X9 V),hk]at L;cases L
    ·exact O x E I
   ·intro h i J
    rw[Nat.testBit_or,Xx]at J
    rcases J with J|J
    ·rw[Nat.one_shiftLeft,Nat.testBit_two_pow]at J
     have:=of_decide_eq_true J
     obtain⟨O,L⟩:=h e (Qf ..) W
     rw[Xr (Nat.le_of_lt O)]at this
     rw[←this];exact L
    ·exact N.2 (fun x E=>h x (Qb _ E)) i J
def waits (ops:List Oper):List Nat:=ops.map fun o=>Qic ops.length o.after.toList
def rdyF:List Nat→Nat→Nat→List Nat
 | [],_,_=>[]
 |a::ws,k,i=>bif !(k.testBit i)&&sub a k then i::rdyF ws k (i+1)else rdyF ws k (i+1)
theorem Qdx {k:Nat}: ∀(ws:List Nat) (i:Nat),rdyF ws k i=((List.range ws.length).filter fun m=> !(k.testBit (i+m))&&((ws[m]?).map fun a=>sub a k).getD false).map (i+ ·)
 | [],i=>rfl
 |a::ws,i=>by
  rw[rdyF,Qdx ws (i+1),Qd,List.range_succ_eq_map,Ww,List.filter_map,W9,Wb,Ys,Nat.add_zero]
  have e:(List.filter (fun m=> !(k.testBit (i+1+m))&&((ws[m]?).map fun a=>sub a k).getD false) (List.range ws.length)).map (i+1+ ·)=
    ((List.filter ((fun m=> !(k.testBit (i+m))&&(((a::ws)[m]?).map fun a=>sub a k).getD false)∘Nat.succ) (List.range ws.length)).map Nat.succ).map (i+ ·):=by
   rw[List.map_map]
   have E:((fun m=> !(k.testBit (i+m))&&(((a::ws)[m]?).map fun a=>sub a k).getD false)∘Nat.succ)=fun m=> !(k.testBit (i+1+m))&&((ws[m]?).map fun a=>sub a k).getD false:=by
    funext m
    simp only[Function.comp_apply,Nat.succ_eq_add_one,Wc]
    rw[show i+(m+1)=i+1+m by omega]
   rw[E]
   congr 1
   funext m
   simp only[Function.comp_apply,Nat.succ_eq_add_one];omega
  rw[e]
  cases (!(k.testBit i)&&sub a k)<;>simp
theorem after_all {n k:Nat}(hk:k.testBit n=false)(o:Oper):(o.after.all fun e=> !Region.binds .any e||(mb n k).toArray.getD e.on false)=sub (Qic n o.after.toList) k:=by
 rw[Yx,Qhd hk,Array.all_eq_true_iff_forall_mem]
 constructor
 ·intro h e E I
  have:=h e (Array.mem_toList_iff.1 E)
  rw[I,Wt,Xd]at this
  by_cases J:e.on<n
  ·rw[Qiy J]at this;exact⟨J,this⟩
  ·rw[mb_getD_ge (X9 J)]at this;cases this
 ·intro h e E
  cases I:Region.binds .any e with
  |false=>rfl
  |true=>
   obtain⟨L,N⟩:=h e (Array.mem_toList_iff.2 E) I
   rw[Wt,Xd,Qiy L];exact N
theorem ready_eq {ops:List Oper}{n k:Nat}{ws:List Nat}(I:waits ops=ws)(J:ops.length=n)(hk:k.testBit n=false):Region.ready .any ops.toArray (mb n k).toArray=rdyF ws k 0:=by
 subst I;subst J
 rw[Qdx]
 unfold Region.ready waits
 rw[Qr,Yk]
 have: ∀(p:Nat→Bool),(List.filter p (List.range ops.length)).map (0+ ·)=List.filter p (List.range ops.length):=fun p=>by
  rw[show(fun x:Nat=>0+x)=id from funext fun x=>Ws x,List.map_id]
 rw[this]
 refine List.filter_congr fun i E=>?_
 have E:=List.mem_range.1 E
 rw[Qiy E,Ws,Wy,Qp,Qe E]
 simp only[Wb,Ys]
 rw[after_all hk]
def maskL:List Nat→Nat
 | []=>0
 |j::r=>(1<<<j)|||maskL r
def badB (ops:Array Oper)(i:Nat)(oi:Oper)(j:Nat):Bool:= !(j==i||match ops[j]? with
 |some oj=>oj.after.any (fun e=>Region.binds .any e&&e.on==i)||oi.apart ops oj
 |none=>true)
def bads (ops:List Oper):List Nat:=(List.range ops.length).map fun i=>match ops[i]? with
 |some oi=>maskL ((List.range ops.length).filter (badB ops.toArray i oi))
 |none=>0
structure Tabs (lo:List Oper) (n:Nat) (ws bs:List Nat):Prop where
 len:lo.length=n
 w:waits lo=ws
 b:bads lo=bs
 ns:(Region.noSelect lo.toArray&&Qau lo.toArray)=true
section
variable {r:Option Nat}{P:Program}{lo:List Oper}{Q:Exit→Act→World→Prop}{C:Cx}{l:List (Nat×Value)}{H Hq:List (Nat×Res)}{m n:Nat}{ws bs:List Nat}
end
end Go.A
end
section
namespace Go.Proofs.YtlhiofnikdppeaaGreatDoor
open Go.RowKit
def F.bH (p:(List D169)→Int→Option (List D169))(h:List D169)(a:Int)(k:Int)(o:Int):Option (List D169):=A.gd ((List.length (α:=D169) h+List.length (α:=D169) [(a,o)])*16≤140737488355328) (A.gd (Z.R64 (a+k)) (p (h++[(a,o)]) (a+k)))
theorem eqq_R05_Runes_j1:True:=(fun _=>trivial) @F.bH.eq_1
def F.aY (h:ByteArray):Nat→(List D169)→Int→Option (List D169)
 |0,_,_=>none
 |f+1,o,a=>if a<(h.size:Int)then((F.eg h a).bind fun k=>(if k=1 then((A.ix h.data.toList a).bind fun p=>(F.bH (F.aY h f) o a k (IntKind.i32.wrap ((p.toNat:Int)))))else(if k=2 then(A.gd (Z.R64 (a+1)) ((A.ix h.data.toList a).bind fun s=>(A.gd ((32:Int)≠0) ((A.ix h.data.toList (a+1)).bind fun u=>(A.gd ((64:Int)≠0) (F.bH (F.aY h f) o a k (IntKind.i32.wrap ((IntKind.i32.wrap ((IntKind.i32.wrap (Int.tmod (s.toNat:Int) 32))*64))+(IntKind.i32.wrap (Int.tmod (u.toNat:Int) 64))))))))))else(if k=3 then(A.gd (Z.R64 (a+1)∧Z.R64 (a+2)) ((A.ix h.data.toList a).bind fun x=>(A.gd ((16:Int)≠0) ((A.ix h.data.toList (a+1)).bind fun y=>(A.gd ((64:Int)≠0) ((A.ix h.data.toList (a+2)).bind fun z=>(A.gd ((64:Int)≠0) (F.bH (F.aY h f) o a k (IntKind.i32.wrap ((IntKind.i32.wrap ((IntKind.i32.wrap ((IntKind.i32.wrap ((IntKind.i32.wrap (Int.tmod (x.toNat:Int) 16))*64))+(IntKind.i32.wrap (Int.tmod (y.toNat:Int) 64))))*64))+(IntKind.i32.wrap (Int.tmod (z.toNat:Int) 64))))))))))))else(if k=4 then(A.gd (Z.R64 (a+1)∧Z.R64 (a+2)∧Z.R64 (a+3)) ((A.ix h.data.toList a).bind fun B=>(A.gd ((8:Int)≠0) ((A.ix h.data.toList (a+1)).bind fun E=>(A.gd ((64:Int)≠0) ((A.ix h.data.toList (a+2)).bind fun I=>(A.gd ((64:Int)≠0) ((A.ix h.data.toList (a+3)).bind fun J=>(A.gd ((64:Int)≠0) (F.bH (F.aY h f) o a k (IntKind.i32.wrap ((IntKind.i32.wrap ((IntKind.i32.wrap ((IntKind.i32.wrap ((IntKind.i32.wrap ((IntKind.i32.wrap ((IntKind.i32.wrap (Int.tmod (B.toNat:Int) 8))*64))+(IntKind.i32.wrap (Int.tmod (E.toNat:Int) 64))))*64))+(IntKind.i32.wrap (Int.tmod (I.toNat:Int) 64))))*64))+(IntKind.i32.wrap (Int.tmod (J.toNat:Int) 64))))))))))))))else(F.bH (F.aY h f) o a 1 65533))))))else(some o)
def F.fo (a:ByteArray):Option (List D169):=F.aY a A.FU [] 0
def F.eQ (a:Bool):Option Bool:=some a
def F.d8 (a:Bool):Option Bool:=some a
def F.dB (a:D40)(h:Bool):Option Bool:=if h=true then(if(a.2.2.size:Int)≤4 then((F.e6 a.2.2).bind fun k=>(if k=true then((F.fo a.2.2).bind fun o=>(F.d8 (decide ((o.length:Int)=1))))else(F.d8 false)))else(F.d8 false))else(some (decide (a.2.2=(ByteArray.mk #[]))))
theorem eqq_R06_text_j3:True:=(fun _=>trivial) @F.dB.eq_1
def F.e1 (a:D40):Option Bool:=if a.1=5 then(if(bif decide ((1:Int)≤(a.2.2.size:Int))then decide ((a.2.2.size:Int)≤16)else false)=true then((F.e6 a.2.2).bind fun h=>(F.eQ h))else(F.eQ false))else(if a.1=12 then(F.dB a (decide (a.1=12)))else(F.dB a (decide (a.1=22))))
theorem eqq_R06_text:True:=(fun _=>trivial) @F.e1.eq_1
def F.fh (k:Int):Nat→(List Int)→Int→Option (List Int)
 |0,_,_=>none
 |f+1,h,a=>if a≤k then(A.gd ((List.length (α:=Int) h+List.length (α:=Int) [a])*8≤140737488355328) (A.gd (Z.R64 (a+1)) ((F.fh k f) (h++[a]) (a+1))))else(some h)
def F.cp (a:Int)(h:Int):Option (List Int):=F.fh h A.FU [] a
def F.de (a:Int):Option (List Int):=if a=2 then(F.cp 1 8)else(if a=3 then(F.cp 11 13)else(if a=4 then(F.cp 21 22)else(if a=8 then(F.cp 31 34)else(if a=11 then(F.cp 41 42)else(F.cp 1 0)))))
def F.e4 (a:D40)(h:Bool):Option Bool:=if h=true then(some (bif decide ((1:Int)≤a.2.1)then decide (a.2.1≤1048576)else false))else(some (decide (a.2.1=0)))
def F.e5 (a:D40)(h:Bool):Option Bool:=if h=true then(some (bif decide ((0:Int)≤a.2.1)then decide (a.2.1≤64)else false))else(if a.1=6 then(F.e4 a (decide (a.1=6)))else(F.e4 a (decide (a.1=11))))
def F.fl (a:D40):Option Bool:=if a.1=3 then(F.e5 a (decide (a.1=3)))else(F.e5 a (decide (a.1=13)))
def F.dU (h:Int→Option Int)(a:Int)(k:Bool):Option Int:=if k=true then(some 0)else(A.gd (Z.R64 (a+1)) (h (a+1)))
def F.bI (a:D40)(h:(List Int)):Nat→Int→Option Int
 |0,_=>none
 |f+1,k=>if k<(h.length:Int)then((A.ix h k).bind fun o=>(if o=a.1 then((F.fl a).bind fun p=>(if p=true then((F.e1 a).bind fun s=>(F.dU (F.bI a h f) k s))else(F.dU (F.bI a h f) k false)))else(F.dU (F.bI a h f) k false)))else(some 60)
def F.bJ (a:D40)(h:(List Int))(k:Bool):Option Int:=if k=true then(some 0)else(F.bI a h A.FU 0)
def F.eI (k:Int)(a:D40):Option Int:=(F.de k).bind fun h=>(if(h.length:Int)=0 then(F.bJ a h (decide (a=(0,0,ByteArray.mk #[]))))else(F.bJ a h false))
def F.dV (h:D23)(k:Int):Nat→Int→Option (D54×Bool)
 |0,_=>none
 |f+1,a=>if a<(h.length:Int)then((A.ix h a).bind fun o=>(if o.1=k then((A.ix h a).bind fun p=>(some (p,true)))else(A.gd (Z.R64 (a+1)) ((F.dV h k f) (a+1)))))else(some ((0,0,[],(0,0,ByteArray.mk #[]),ByteArray.mk #[],0,0),false))
def F.e0 (a:D23)(h:Int):Option (D54×Bool):=F.dV a h A.FU 0
def F.dW (h:(List Int))(k:Int):Nat→Int→Option Bool
 |0,_=>none
 |f+1,a=>if a<(h.length:Int)then((A.ix h a).bind fun o=>(if o=k then(some true)else(A.gd (Z.R64 (a+1)) ((F.dW h k f) (a+1)))))else(some false)
def F.fn (a:(List Int))(h:Int):Option Bool:=F.dW a h A.FU 0
end Go.Proofs.YtlhiofnikdppeaaGreatDoor
end
section
namespace Go.A
open Go.RowKit Go.Z
section
variable {r:Option Nat}{P:Program}{ops:Array Oper}{Q:Exit→Act→World→Prop}{C:Cx}{l:List (Nat×Value)}{H Hq:List (Nat×Res)}{m f:Nat}{li:List Bool}
end
end Go.A
end
section
namespace Go.Proofs.YtlhiofnikdppeaaGreatDoor
open Go.RowKit
def F.c0 (h:Int→Option Bool)(a:Int)(k:Bool):Option Bool:=if k=true then(some false)else(A.gd (Z.R64 (a+1)) (h (a+1)))
def F.eR (h:Int→Option Bool)(k:D27)(a:Int)(B:List Int)(E:Int)(o:Int)(I:Int)(J:Int)(L:ByteArray)(N:ByteArray)(O:Int)(U:Int)(p:Bool):Option Bool:=(A.ix k.2.1 a).bind fun s=>(if s.2.1=1 then(F.c0 h a true)else(if(bif p then decide (o=1)else false)=true then(F.c0 h a true)else((A.ix k.2.1 a).bind fun u=>((F.fn k.1 u.1).bind fun x=>(if x=true then(F.c0 h a true)else(if(0:Int)<a then(A.gd (Z.R64 (a-1)) ((A.ix k.2.1 a).bind fun y=>((A.ix k.2.1 (a-1)).bind fun z=>(F.c0 h a (decide (y.1≤z.1))))))else(F.c0 h a false)))))))
theorem eqq_R09_puts_j2:True:=(fun _=>trivial) @F.eR.eq_1
def F.dC (o:D23)(h:D27):Nat→Int→Option Bool
 |0,_=>none
 |f+1,k=>if k<(h.2.1.length:Int)then((A.ix h.2.1 k).bind fun p=>((F.e0 o p.1).bind fun a=>(F.eR (F.dC o h f) h k a.1.2.2.1 a.1.1 a.1.2.1 a.1.2.2.2.1.1 a.1.2.2.2.1.2.1 a.1.2.2.2.1.2.2 a.1.2.2.2.2.1 a.1.2.2.2.2.2.1 a.1.2.2.2.2.2.2 a.2)))else(some (decide ((h.2.1.length:Int)≤32)))
def F.fi (a:D23)(h:D27):Option Bool:=F.dC a h A.FU 0
def F.e7 (a:Int):Option Bool:=some (bif decide (a=11)then true else decide (a=16))
def F.eS (a:Bool):Option Bool:=some a
def F.eT (a:Bool):Option Bool:=some a
def F.d9 (a:D42)(h:D54×Bool)(k:Bool):Option Bool:=if k=true then(some false)else(if a.2.2.1=1 then(if a.2.2.2.1=0 then(F.eS (decide (a.2.2.2.2=(0,0,ByteArray.mk #[]))))else(F.eS false))else(if a.2.2.1=2 then(if(bif bif decide (h.1.2.1=11)then decide ((0:Int)≤a.2.2.2.1)else false then decide (a.2.2.2.1≤1048576)else false)=true then(F.eT (decide (a.2.2.2.2=(0,0,ByteArray.mk #[]))))else(F.eT false))else(if a.2.2.1=3 then(some (decide (a.2.2.2.1=0)))else(some false))))
theorem eqq_R09_move_j3:True:=(fun _=>trivial) @F.d9.eq_1
def F.es (o:D23)(p:D27)(h:D42):Option Bool:=(F.e0 o h.1).bind fun a=>((F.e0 p.2.1 h.2.1).bind fun k=>(if(bif !a.2 then true else !k.2)=true then(F.d9 h a true)else((F.e7 a.1.2.1).bind fun s=>(F.d9 h a (bif !s then true else decide (a.1.2.1≠k.1.2.1))))))
theorem eqq_R09_move:True:=(fun _=>trivial) @F.es.eq_1
def F.dX (h:Int→Option Bool)(a:Int)(k:Bool):Option Bool:=if k=true then(some false)else(A.gd (Z.R64 (a+1)) (h (a+1)))
def F.et (h:Int→Option Bool)(k:(List Int))(a:Int)(x:List Int)(y:Int)(o:Int)(z:Int)(B:Int)(E:ByteArray)(I:ByteArray)(J:Int)(L:Int)(p:Bool):Option Bool:=if(bif !p then true else decide (o=1))=true then(F.dX h a true)else(if(0:Int)<a then(A.gd (Z.R64 (a-1)) ((A.ix k a).bind fun s=>((A.ix k (a-1)).bind fun u=>(F.dX h a (decide (s≤u))))))else(F.dX h a false))
theorem eqq_R09_drops_j2:True:=(fun _=>trivial) @F.et.eq_1
def F.df (o:D23)(h:(List Int)):Nat→Int→Option Bool
 |0,_=>none
 |f+1,k=>if k<(h.length:Int)then((A.ix h k).bind fun p=>((F.e0 o p).bind fun a=>(F.et (F.df o h f) h k a.1.2.2.1 a.1.1 a.1.2.1 a.1.2.2.2.1.1 a.1.2.2.2.1.2.1 a.1.2.2.2.1.2.2 a.1.2.2.2.2.1 a.1.2.2.2.2.2.1 a.1.2.2.2.2.2.2 a.2)))else(some (decide ((h.length:Int)≤32)))
def F.fp (a:D23)(h:(List Int)):Option Bool:=F.df a h A.FU 0
def F.dw (o:Int→Option Bool)(k:D27)(a:Int):Nat→Int→Option Bool
 |0,_=>none
 |f+1,h=>if h<a then((A.ix k.2.2 h).bind fun p=>((A.ix k.2.2 a).bind fun s=>(if p.2.1=s.2.1 then(some false)else(A.gd (Z.R64 (h+1)) ((F.dw o k a f) (h+1))))))else(A.gd (Z.R64 (a+1)) (o (a+1)))
def F.dx (k:D23)(a:D27):Nat→Int→Option Bool
 |0,_=>none
 |f+1,h=>if h<(a.2.2.length:Int)then((A.ix a.2.2 h).bind fun o=>((F.es k a o).bind fun p=>(if(!p)=true then(some false)else(F.dw (F.dx k a f) a h A.FU 0))))else(some true)
def F.e2 (a:D23)(h:D27)(k:Bool):Option Bool:=if k=true then(some false)else(F.dx a h A.FU 0)
def F.ff (h:D23)(a:D27):Option Bool:=(F.fp h a.1).bind fun k=>(if(!k)=true then(F.e2 h a true)else((F.fi h a).bind fun o=>(F.e2 h a (bif !o then true else decide ((16:Int)<(a.2.2.length:Int))))))
def F.dL (a:D54):Option D54:=A.gd ((List.length (α:=Int) []+List.length (α:=Int) a.2.2.1)*8≤140737488355328) (some (a.1,a.2.1,[]++a.2.2.1,a.2.2.2.1,a.2.2.2.2.1,a.2.2.2.2.2.1,a.2.2.2.2.2.2))
def F.eu (h:(List D54)→Int→Int→Option D23)(a:Int)(k:Int)(o:List D54):Option D23:=A.gd (Z.R64 (a+1)) (h o (a+1) k)
def F.dg (o:(List D54)→Int→Int→Option D23)(p:D27)(h:List D54)(a:Int)(s:Int):Option D23:=(A.ix p.2.1 a).bind fun u=>((F.dL u).bind fun k=>(A.gd ((List.length (α:=D54) h+List.length (α:=D54) [k])*104≤140737488355328) (A.gd (Z.R64 (a+1)) (o (h++[k]) s (a+1)))))
theorem eqq_R09_makes_j2:True:=(fun _=>trivial) @F.dg.eq_1
def F.dY (h:(List D54)→Int→Int→Option D23)(k:D27)(o:List D54)(a:Int)(p:Int)(s:Bool):Option D23:=if s=true then(A.gd (Z.R64 (a+1)) (F.dg h k o p (a+1)))else(F.dg h k o p a)
def F.bK (o:(List D54)→Int→Int→Option D23)(p:D23)(s:D27)(h:List D54)(a:Int)(k:Int)(x:Bool):Option D23:=if x=true then((A.ix p a).bind fun y=>((F.fn s.1 y.1).bind fun z=>(if(!z)=true then((A.ix p a).bind fun B=>((F.dL B).bind fun u=>(A.gd ((List.length (α:=D54) h+List.length (α:=D54) [u])*104≤140737488355328) (F.eu o a k (h++[u])))))else(F.eu o a k h))))else(if a<(p.length:Int)then((A.ix p a).bind fun E=>((A.ix s.2.1 k).bind fun I=>(F.dY o s h a k (decide (E.1=I.1)))))else(F.dY o s h a k false))
theorem eqq_R09_makes_j4:True:=(fun _=>trivial) @F.bK.eq_1
def F.bh (a:D23)(h:D27):Nat→(List D54)→Int→Int→Option D23
 |0,_,_,_=>none
 |f+1,p,k,o=>if(bif decide (k<(a.length:Int))then true else decide (o<(h.2.1.length:Int)))=true then(if o=(h.2.1.length:Int)then(F.bK (F.bh a h f) a h p k o true)else(if k<(a.length:Int)then((A.ix a k).bind fun s=>((A.ix h.2.1 o).bind fun u=>(F.bK (F.bh a h f) a h p k o (decide (s.1<u.1)))))else(F.bK (F.bh a h f) a h p k o false)))else(some p)
def F.e8 (a:D23)(h:D27):Option D23:=F.bh a h A.FU [] 0 0
def F.d7 (a:Int):Option Int:=if(bif decide (a<1)then true else decide ((16:Int)<a))=true then(some (-1))else(if a=1 then(some 0)else(if(bif decide (a=5)then true else decide (a=9))=true then(some 2)else(some 1)))
def F.ev (h:Int→Option (Int×Bool))(k:D23)(a:Int)(o:Bool):Option (Int×Bool):=if o=true then((A.ix k a).bind fun p=>(some (p.1,true)))else(A.gd (Z.R64 (a+1)) (h (a+1)))
def F.cB (a:D23)(k:Int)(o:ByteArray):Nat→Int→Option (Int×Bool)
 |0,_=>none
 |f+1,h=>if h<(a.length:Int)then((A.ix a h).bind fun p=>(if p.2.1=k then((A.ix a h).bind fun s=>(F.ev (F.cB a k o f) a h (decide (s.2.2.2.2.1=o))))else(F.ev (F.cB a k o f) a h false)))else(some (0,false))
def F.fq (a:D23)(h:Int)(k:ByteArray):Option (Int×Bool):=F.cB a h k A.FU 0
def F.el (a:UInt8):Option Bool:=if(bif decide ((97:Int)≤(a.toNat:Int))then decide ((a.toNat:Int)≤122)else false)=true then(some true)else(some (bif decide ((65:Int)≤(a.toNat:Int))then decide ((a.toNat:Int)≤90)else false))
def F.e9 (a:UInt8):Option Bool:=some (bif decide ((48:Int)≤(a.toNat:Int))then decide ((a.toNat:Int)≤57)else false)
def F.ea (h:Int→Option Bool)(a:Int)(k:Bool):Option Bool:=if k=true then(some false)else(A.gd (Z.R64 (a+1)) (h (a+1)))
def F.cq (a:ByteArray):Nat→Int→Option Bool
 |0,_=>none
 |f+1,h=>if h<(a.size:Int)then((A.ix a.data.toList h).bind fun k=>((F.el k).bind fun o=>(if(!o)=true then((A.ix a.data.toList h).bind fun p=>((F.e9 p).bind fun s=>(F.ea (F.cq a f) h (!s))))else(F.ea (F.cq a f) h false))))else(some true)
def F.dD (a:ByteArray)(h:Bool):Option Bool:=if h=true then(some false)else(F.cq a A.FU 0)
def F.fj (a:ByteArray):Option Bool:=if(bif decide (a=(ByteArray.mk #[]))then true else decide ((16:Int)<(a.size:Int)))=true then(F.dD a true)else((A.ix a.data.toList 0).bind fun h=>((F.el h).bind fun k=>(F.dD a (!k))))
def F.dZ (h:D23)(a:D54):Option Bool:=if(bif decide (a.2.1≠1)then decide (a.2.1≠15)else false)=true then(some (decide (a.2.2.2.2.1=(ByteArray.mk #[]))))else((F.fq h a.2.1 a.2.2.2.2.1).bind fun k=>((F.fj a.2.2.2.2.1).bind fun o=>(some (bif o then decide (k.1=a.1)else false))))
theorem eqq_R08_own_j1:True:=(fun _=>trivial) @F.dZ.eq_1
def F.bi (h:D23)(a:D54)(k:Bool):Option Bool:=if k=true then(some false)else(if a.2.1=14 then(if(bif bif bif decide (a.2.2.2.2.2.1<1)then true else decide ((8:Int)<a.2.2.2.2.2.1)then true else decide (a.2.2.2.2.2.2<1)then true else decide ((4:Int)<a.2.2.2.2.2.2))=true then(some false)else(F.dZ h a))else(if(bif decide (a.2.2.2.2.2.1≠0)then true else decide (a.2.2.2.2.2.2≠0))=true then(some false)else(F.dZ h a)))
theorem eqq_R08_own_j2:True:=(fun _=>trivial) @F.bi.eq_1
def F.fg (h:D23)(k:Int):Option Bool:=(A.ix h k).bind fun a=>(if(bif decide (a.1<1)then true else decide ((255:Int)<a.1))=true then(F.bi h a true)else(if(0:Int)<k then(A.gd (Z.R64 (k-1)) ((A.ix h (k-1)).bind fun o=>(if a.1≤o.1 then(F.bi h a true)else((F.d7 a.2.1).bind fun p=>(if p<0 then(F.bi h a true)else((F.d7 a.2.1).bind fun s=>(F.bi h a (decide ((a.2.2.1.length:Int)≠s)))))))))else((F.d7 a.2.1).bind fun u=>(if u<0 then(F.bi h a true)else((F.d7 a.2.1).bind fun x=>(F.bi h a (decide ((a.2.2.1.length:Int)≠x))))))))
theorem eqq_R08_own:True:=(fun _=>trivial) @F.fg.eq_1
def F.ew (h:Int→Option Int)(a:Int)(k:Bool):Option Int:=if k=true then(some 80)else(A.gd (Z.R64 (a+1)) (h (a+1)))
def F.cC (o:Int→Option Int)(a:D23)(h:Int):Nat→Int→Option Int
 |0,_=>none
 |f+1,k=>(A.ix a h).bind fun s=>(if k<(s.2.2.1.length:Int)then((A.ix a h).bind fun u=>((A.ix u.2.2.1 k).bind fun x=>((F.c9 a x).bind fun p=>(if p<0 then(F.ew (F.cC o a h f) k true)else((A.ix a p).bind fun y=>(F.ew (F.cC o a h f) k (decide (y.2.1=15))))))))else(A.gd (Z.R64 (h+1)) (o (h+1))))
def F.aZ (a:D23):Nat→Int→Option Int
 |0,_=>none
 |f+1,h=>if h<(a.length:Int)then(F.cC (F.aZ a f) a h A.FU 0)else(some 0)
def F.bL (a:D23):Nat→Int→Option Int
 |0,_=>none
 |f+1,h=>if h<(a.length:Int)then((A.ix a h).bind fun k=>((A.ix a h).bind fun o=>((F.eI k.2.1 o.2.2.2.1).bind fun p=>(if p≠0 then(some 60)else(A.gd (Z.R64 (h+1)) ((F.bL a f) (h+1)))))))else(F.aZ a A.FU 0)
def F.cD (a:D23):Nat→Int→Option Int
 |0,_=>none
 |f+1,h=>if h<(a.length:Int)then((F.fg a h).bind fun k=>(if(!k)=true then(some 80)else(A.gd (Z.R64 (h+1)) ((F.cD a f) (h+1)))))else(F.bL a A.FU 0)
def F.eJ (a:D23):Option Int:=if(32:Int)<(a.length:Int)then(some 80)else(F.cD a A.FU 0)
def F.ex (h:Int→Option Bool)(a:Int)(k:Bool):Option Bool:=if k=true then(some false)else(A.gd (Z.R64 (a+1)) (h (a+1)))
def F.cE (k:D23)(a:D54)(o:(List Bool)):Nat→Int→Option Bool
 |0,_=>none
 |f+1,h=>if h<(a.2.2.1.length:Int)then(if a.2.1≠14 then((A.ix a.2.2.1 h).bind fun p=>((F.c9 k p).bind fun s=>((A.ix o s).bind fun u=>(F.ex (F.cE k a o f) h (!u)))))else(F.ex (F.cE k a o f) h false))else(some true)
def F.fa (a:D23)(h:D54)(k:(List Bool)):Option Bool:=F.cE a h k A.FU 0
def F.ey (h:Int→Int→Option ((List Int)×Bool))(a:Int)(k:Int):Option ((List Int)×Bool):=A.gd (Z.R64 (a+1)) (h k (a+1))
def F.d0 (h:Int→Int→Option ((List Int)×Bool))(k:Int)(a:Int)(o:Bool):Option ((List Int)×Bool):=if o=true then(F.ey h a a)else(F.ey h a k)
def F.bM (s:(List Bool)→(List Int)→Option ((List Int)×Bool))(h:D23)(k:List Bool)(p:List Int):Nat→Int→Int→Option ((List Int)×Bool)
 |0,_,_=>none
 |f+1,a,o=>if(bif decide (o<(h.length:Int))then decide (o<(h.length:Int))else false)=true then(if a<0 then((A.ix k o).bind fun u=>(if(!u)=true then((A.ix h o).bind fun x=>((F.fa h x k).bind fun y=>(F.d0 (F.bM s h k p f) a o y)))else(F.d0 (F.bM s h k p f) a o false)))else(F.d0 (F.bM s h k p f) a o false))else(if a<0 then(some ([],false))else((A.ix k a).bind fun z=>(A.gd ((List.length (α:=Int) p+List.length (α:=Int) [a])*8≤140737488355328) (s (k.set a.toNat true) (p++[a])))))
def F.dh (a:D23):Nat→(List Bool)→(List Int)→Option ((List Int)×Bool)
 |0,_,_=>none
 |f+1,k,h=>if(h.length:Int)<(a.length:Int)then(F.bM (F.dh a f) a k h A.FU (-1) 0)else(some (h,true))
def F.eh (a:D23):Option ((List Int)×Bool):=A.gd (1*a.length≤140737488355328) (F.dh a A.FU (List.replicate a.length (false:Bool)) [])
def F.ez (a:Int):Option Int:=some a
def F.a0 (a:Int):Option Int:=if(4:Int)<a then(F.ez (-1))else(F.ez a)
def F.d1 (a:Int)(h:Bool):Option Int:=if h=true then(if a≠0 then(F.a0 (-1))else(F.a0 a))else(F.a0 a)
def F.di (a:D54)(k:(List Int))(h:Int)(o:Bool):Option Int:=if o=true then((A.ix k 0).bind fun p=>((A.ix k 1).bind fun s=>(if p≠s then(F.a0 (-1))else(F.a0 h))))else(if a.2.1=11 then(F.d1 h (decide (a.2.1=11)))else(if a.2.1=16 then(F.d1 h (decide (a.2.1=16)))else(F.d1 h (decide (a.2.1=15)))))
theorem eqq_R08_depth_j4:True:=(fun _=>trivial) @F.di.eq_1
def F.dj (a:D54)(k:(List Int))(h:Int):Option Int:=if a.2.1=14 then(F.a0 a.2.2.2.2.2.2)else(if a.2.1=12 then(A.gd (Z.R64 (h+1)) (F.a0 (h+1)))else(if a.2.1=13 then(A.gd (Z.R64 (h-1)) (F.a0 (h-1)))else(if a.2.1=5 then(F.di a k h (decide (a.2.1=5)))else(F.di a k h (decide (a.2.1=9))))))
theorem eqq_R08_depth_j5:True:=(fun _=>trivial) @F.dj.eq_1
def F.eK (h:D54)(a:(List Int)):Option Int:=if(0:Int)<(a.length:Int)then((A.ix a 0).bind fun k=>(F.dj h a k))else(F.dj h a 0)
def F.cj (x:(List Int)→Int→Option ((List Int)×Bool))(y:D23)(p:(List Int))(a:List Int)(h:Int)(k:D54):Nat→(List Int)→Int→Option ((List Int)×Bool)
 |0,_,_=>none
 |f+1,s,o=>if o<(k.2.2.1.length:Int)then((A.ix k.2.2.1 o).bind fun E=>((F.c9 y E).bind fun I=>((A.ix a I).bind fun z=>(A.gd ((List.length (α:=Int) s+List.length (α:=Int) [z])*8≤140737488355328) (A.gd (Z.R64 (o+1)) ((F.cj x y p a h k f) (s++[z]) (o+1)))))))else((A.ix p h).bind fun u=>((F.eK k s).bind fun B=>((A.ix a u).bind fun N=>((A.ix p h).bind fun J=>((A.ix (a.set u.toNat B) J).bind fun L=>(if L<0 then(some ([],false))else(A.gd (Z.R64 (h+1)) (x (a.set u.toNat B) (h+1)))))))))
def F.ek (h:Int→Option ((List Int)×Bool))(a:Int)(k:Bool):Option ((List Int)×Bool):=if k=true then(some ([],false))else(A.gd (Z.R64 (a+1)) (h (a+1)))
def F.bS (a:D23)(h:List Int):Nat→Int→Option ((List Int)×Bool)
 |0,_=>none
 |f+1,k=>if k<(a.length:Int)then((A.ix a k).bind fun o=>(if o.2.1=14 then((A.ix o.2.2.1 0).bind fun p=>((F.c9 a p).bind fun s=>((A.ix h s).bind fun u=>(F.ek (F.bS a h f) k (decide (u≠o.2.2.2.2.2.2))))))else(F.ek (F.bS a h f) k false)))else(some (h,true))
def F.cR (a:D23)(h:(List Int)):Nat→(List Int)→Int→Option ((List Int)×Bool)
 |0,_,_=>none
 |f+1,o,k=>if k<(h.length:Int)then((A.ix h k).bind fun p=>((A.ix a p).bind fun s=>(F.cj (F.cR a h f) a h o k s A.FU [] 0)))else(F.bS a o A.FU 0)
def F.d2 (a:D23)(h:(List Int)):Option ((List Int)×Bool):=A.gd (8*a.length≤140737488355328) (F.cR a h A.FU (List.replicate a.length (0:Int)) 0)
def F.eA (h:(List D163)→Int→Option (List D163))(a:Int)(k:List D163):Option (List D163):=A.gd (Z.R64 (a+1)) (h k (a+1))
def F.cF (p:(List D163)→Int→Option (List D163))(u:D23)(s:(List Int))(o:Int)(a:D54):Nat→(List D163)→Int→Option (List D163)
 |0,_,_=>none
 |f+1,k,h=>if h<(a.2.2.1.length:Int)then((A.ix a.2.2.1 h).bind fun z=>((F.c9 u z).bind fun B=>((A.ix s B).bind fun x=>(A.gd ((List.length (α:=D163) k+List.length (α:=D163) [((a.1,h),x)])*24≤140737488355328) (A.gd (Z.R64 (h+1)) ((F.cF p u s o a f) (k++[((a.1,h),x)]) (h+1)))))))else(if a.2.1≠15 then((A.ix s o).bind fun y=>(A.gd ((List.length (α:=D163) k+List.length (α:=D163) [((a.1,2),y)])*24≤140737488355328) (F.eA p o (k++[((a.1,2),y)]))))else(F.eA p o k))
def F.dk (a:D23)(k:(List Int)):Nat→(List D163)→Int→Option (List D163)
 |0,_,_=>none
 |f+1,o,h=>if(bif decide (h<(a.length:Int))then decide (h<(k.length:Int))else false)=true then((A.ix a h).bind fun p=>(F.cF (F.dk a k f) a k h p A.FU o 0))else(some o)
def F.fb (a:D23)(h:(List Int)):Option (List D163):=F.dk a h A.FU [] 0
def F.d3 (h:Int→Option Int)(a:Int)(k:Bool):Option Int:=if k=true then(some 20)else(A.gd (Z.R64 (a+1)) (h (a+1)))
def F.dl (a:D199):Nat→Int→Option Int
 |0,_=>none
 |f+1,h=>if h<4 then((A.ix [a.2.2.2.2.1,a.2.2.2.2.2.1,a.2.2.2.2.2.2.1,a.2.2.2.2.2.2.2] h).bind fun k=>(if k<0 then(F.d3 (F.dl a f) h true)else((A.ix [a.2.2.2.2.1,a.2.2.2.2.2.1,a.2.2.2.2.2.2.1,a.2.2.2.2.2.2.2] h).bind fun o=>(if(1048576:Int)<o then(F.d3 (F.dl a f) h true)else(if a.2.2.2.1≤h then((A.ix [a.2.2.2.2.1,a.2.2.2.2.2.1,a.2.2.2.2.2.2.1,a.2.2.2.2.2.2.2] h).bind fun p=>(F.d3 (F.dl a f) h (decide (p≠0))))else(F.d3 (F.dl a f) h false))))))else(some 0)
def F.fr (a:D199):Option Int:=A.gd (((bif bif bif bif bif decide (a.1<0)then true else decide ((4:Int)<a.1)then true else decide (a.2.2.2.1<0)then true else decide ((4:Int)<a.2.2.2.1)then true else decide (a.2.1<0)then true else decide (a.1<a.2.1))=false→Z.R64 (a.2.1+a.2.2.2.1))) (if(bif bif bif bif bif bif bif bif decide (a.1<0)then true else decide ((4:Int)<a.1)then true else decide (a.2.2.2.1<0)then true else decide ((4:Int)<a.2.2.2.1)then true else decide (a.2.1<0)then true else decide (a.1<a.2.1)then true else decide ((4:Int)<a.2.1+a.2.2.2.1)then true else decide (a.2.2.1<0)then true else decide ((1048576:Int)<a.2.2.1))=true then(some 20)else(if(bif decide (a.2.1=0)then decide (a.2.2.1≠0)else false)=true then(some 20)else(F.dl a A.FU 0)))
theorem eqq_R02_Check:True:=(fun _=>trivial) @F.fr.eq_1
def F.e3 (a:Int)(h:Int)(k:Int)(o:Int):Option (D199×Int):=(F.fr (a,h,k,o,(0,0,0,0))).bind fun p=>(if p≠0 then(some ((0,0,0,0,(0,0,0,0)),11))else(some ((a,h,k,o,(0,0,0,0)),0)))
def F.fk (a:Int):Option (D199×Int):=(F.e3 a a 1 0).bind fun h=>(some h)
def F.fm (a:Int):Option (D199×Int):=(F.e3 a a 0 0).bind fun h=>(some h)
def F.fc (a:Int):Option (D199×Int):=(F.e3 a a 0 1).bind fun h=>(some h)
def F.eL (a:Int):Option (D199×Int):=if a<1 then(some ((0,0,0,0,(0,0,0,0)),11))else(A.gd (Z.R64 (a-1)) ((F.e3 a (a-1) 0 0).bind fun h=>(some h)))
theorem eqq_R02_Leave:True:=(fun _=>trivial) @F.eL.eq_1
def F.cS (a:Int)(h:Int)(k:Int)(o:Int)(p:Int)(s:Int)(u:Int)(x:Int):Option D199:=some (a,h,k,o,(p,s,u,x))
def F.d4 (s:D54)(p:Int):Option D199:=(F.fm p).bind fun a=>(if s.2.1=12 then((F.fc p).bind fun h=>(F.cS h.1.1 h.1.2.1 h.1.2.2.1 h.1.2.2.2.1 h.1.2.2.2.2.1 h.1.2.2.2.2.2.1 h.1.2.2.2.2.2.2.1 h.1.2.2.2.2.2.2.2))else(if s.2.1=13 then((F.eL p).bind fun k=>(F.cS k.1.1 k.1.2.1 k.1.2.2.1 k.1.2.2.2.1 k.1.2.2.2.2.1 k.1.2.2.2.2.2.1 k.1.2.2.2.2.2.2.1 k.1.2.2.2.2.2.2.2))else(if s.2.1=14 then((F.fk p).bind fun o=>(F.cS o.1.1 o.1.2.1 o.1.2.2.1 o.1.2.2.2.1 o.1.2.2.2.2.1 o.1.2.2.2.2.2.1 o.1.2.2.2.2.2.2.1 o.1.2.2.2.2.2.2.2))else(F.cS a.1.1 a.1.2.1 a.1.2.2.1 a.1.2.2.2.1 a.1.2.2.2.2.1 a.1.2.2.2.2.2.1 a.1.2.2.2.2.2.2.1 a.1.2.2.2.2.2.2.2))))
theorem eqq_R08_within:True:=(fun _=>trivial) @F.d4.eq_1
def F.d5 (h:(List D202)→Int→Option (List D202))(a:Int)(k:List D202):Option (List D202):=A.gd (Z.R64 (a+1)) (h k (a+1))
def F.eB (a:(List D202)→Int→Option (List D202))(h:Int)(k:List D202):Option (List D202):=F.d5 a h k
def F.eC (h:(List D202)→Int→Option (List D202))(a:Int)(k:List D202):Option (List D202):=A.gd (Z.R64 (a+1)) (h k (a+1))
def F.cc (u:(List D202)→Int→Option (List D202))(k:D23)(o:D163)(x:D54×Bool)(p:D199×Int)(a:Int):Nat→(List D202)→Int→Option (List D202)
 |0,_,_=>none
 |f+1,s,h=>(A.ix k a).bind fun z=>(if h<(z.2.2.1.length:Int)then((A.ix k a).bind fun B=>((A.ix B.2.2.1 h).bind fun E=>(if E=x.1.1 then((A.ix k a).bind fun y=>(A.gd ((List.length (α:=D202) s+List.length (α:=D202) [(o.1,(y.1,h),p.1)])*96≤140737488355328) (F.eC (F.cc u k o x p a f) h (s++[(o.1,(y.1,h),p.1)]))))else(F.eC (F.cc u k o x p a f) h s))))else(A.gd (Z.R64 (a+1)) (u s (a+1))))
def F.cG (h:(List D202)→Int→Option (List D202))(a:D23)(k:Int)(o:D163)(p:D54×Bool)(s:D199×Int):Nat→(List D202)→Int→Option (List D202)
 |0,_,_=>none
 |f+1,u,x=>if x<(a.length:Int)then(F.cc (F.cG h a k o p s f) a o p s x A.FU u 0)else(F.d5 h k u)
def F.cd (k:D23)(a:(List D163)):Nat→(List D202)→Int→Option (List D202)
 |0,_,_=>none
 |f+1,o,h=>if h<(a.length:Int)then((A.ix a h).bind fun p=>((F.er k p.1.1).bind fun s=>(if p.1.2≠2 then(if s.1.2.1≠15 then((A.ix a h).bind fun x=>((F.d4 s.1 x.2).bind fun u=>(A.gd ((List.length (α:=D202) o+List.length (α:=D202) [(p.1,(s.1.1,2),u)])*96≤140737488355328) (F.eB (F.cd k a f) h (o++[(p.1,(s.1.1,2),u)])))))else(F.eB (F.cd k a f) h o))else((A.ix a h).bind fun y=>((F.fm y.2).bind fun z=>(F.cG (F.cd k a f) k h p s z A.FU o 0))))))else(some o)
def F.eM (a:D23)(h:(List D163)):Option (List D202):=F.cd a h A.FU [] 0
def F.ei (h:(List D163))(k:D161):Nat→Int→Option Int
 |0,_=>none
 |f+1,a=>if a<(h.length:Int)then((A.ix h a).bind fun o=>(if o.1=k then((A.ix h a).bind fun p=>(some p.2))else(A.gd (Z.R64 (a+1)) ((F.ei h k f) (a+1)))))else(some (-1))
def F.fs (a:(List D163))(h:D161):Option Int:=F.ei a h A.FU 0
def F.eD (o:D23)(p:(List D163))(a:D202)(h:Int):Option Bool:=(F.er o a.1.1).bind fun k=>((F.fs p a.2.1).bind fun s=>(if h≤s then(some (bif bif decide (k.1.2.1≠14)then true else decide (k.1.2.2.2.2.2.2≠h)then true else decide (a.1.2=2)))else(some false)))
theorem eqq_R08_open:True:=(fun _=>trivial) @F.eD.eq_1
def F.ej (h:(List D161))(k:D161):Nat→Int→Option Bool
 |0,_=>none
 |f+1,a=>if a<(h.length:Int)then((A.ix h a).bind fun o=>(if o=k then(some true)else(A.gd (Z.R64 (a+1)) ((F.ej h k f) (a+1)))))else(some false)
def F.fd (a:(List D161))(h:D161):Option Bool:=F.ej a h A.FU 0
def F.eE (h:(List D161)→(List D161)→Int→Option Bool)(a:Int)(k:List D161)(o:List D161):Option Bool:=A.gd (Z.R64 (a+1)) (h k o (a+1))
def F.dm (o:(List D161)→(List D161)→Int→Option Bool)(p:(List D202))(h:List D161)(k:List D161)(a:Int)(x:Bool):Option Bool:=if x=true then((A.ix p a).bind fun s=>(A.gd ((List.length (α:=D161) h+List.length (α:=D161) [s.2.1])*16≤140737488355328) ((A.ix p a).bind fun u=>(A.gd ((List.length (α:=D161) k+List.length (α:=D161) [u.2.1])*16≤140737488355328) (F.eE o a (h++[s.2.1]) (k++[u.2.1]))))))else(F.eE o a h k)
theorem eqq_R08_round_j2:True:=(fun _=>trivial) @F.dm.eq_1
def F.bj (s:(List D161)→(List D161)→Int→Option Bool)(u:D23)(x:(List D163))(a:(List D202))(y:D163)(k:Int):Nat→(List D161)→(List D161)→Int→Option Bool
 |0,_,_,_=>none
 |f+1,o,p,h=>if h<(a.length:Int)then((A.ix a h).bind fun z=>((A.ix p k).bind fun B=>(if z.1=B then((A.ix a h).bind fun E=>((F.eD u x E y.2).bind fun I=>(if I=true then((A.ix a h).bind fun J=>((F.fd o J.2.1).bind fun L=>(F.dm (F.bj s u x a y k f) a o p h (!L))))else(F.dm (F.bj s u x a y k f) a o p h false))))else(F.dm (F.bj s u x a y k f) a o p h false))))else(A.gd (Z.R64 (k+1)) (s o p (k+1)))
def F.d6 (h:D23)(k:(List D163))(o:(List D202))(a:D163):Nat→(List D161)→(List D161)→Int→Option Bool
 |0,_,_,_=>none
 |f+1,p,s,u=>if u<(s.length:Int)then(F.bj (F.d6 h k o a f) h k o a u A.FU p s 0)else((F.fd p a.1).bind fun x=>(some x))
def F.eN (h:D23)(k:(List D163))(o:(List D202))(a:D163):Option Bool:=F.d6 h k o a A.FU [] [a.1] 0
def F.cH (k:D23)(o:(List Int)×Bool)(p:(List Int)×Bool)(a:(List D163))(s:(List D202)):Nat→Int→Option ((List Int)×(List Int)×Int)
 |0,_=>none
 |f+1,h=>if h<(a.length:Int)then((A.ix a h).bind fun u=>((F.eN k a s u).bind fun x=>(if x=true then(some ([],[],81))else(A.gd (Z.R64 (h+1)) ((F.cH k o p a s f) (h+1))))))else(some (o.1,p.1,0))
def F.dn (a:D23):Option ((List Int)×(List Int)×Int):=(F.eJ a).bind fun o=>(if o≠0 then(some ([],[],o))else((F.eh a).bind fun h=>(if(!h.2)=true then(some ([],[],81))else((F.d2 a h.1).bind fun k=>(if(!k.2)=true then(some ([],[],80))else((F.fb a k.1).bind fun p=>((F.eM a p).bind fun s=>(F.cH a h k p s A.FU 0))))))))
theorem eqq_R08_whole:True:=(fun _=>trivial) @F.dn.eq_1
def F.eO (a:D23):Option Int:=(F.dn a).bind fun h=>(some h.2.2)
def F.eP (a:D23)(h:D27):Option Int:=(F.eO a).bind fun k=>(if k≠0 then(some k)else((F.ff a h).bind fun o=>(if(!o)=true then(some 90)else((F.e8 a h).bind fun p=>((F.eO p).bind fun s=>(some s))))))
theorem eqq_R09_Check:True:=(fun _=>trivial) @F.eP.eq_1
variable(A0_ A1_ A2_ A3_ A4_ A5_ A6_ A7_ A8_ A10_ A12_ A13_ A17_:Option Addr)(b0_ g0_ b1_ c1_ c2_ g2_ c3_ b4_ c4_ b5_ c5_ b6_ c6_ c7_ c8_ c9_ g10_ c11_ c13_ c14_ c18_:Nat)
def F.i (h:(List D49))(k:D49):Nat→Int→Option Int
 |0,_=>none
 |f+1,a=>if a<(h.length:Int)then((A.ix h a).bind fun o=>(if k=o then(some a)else(A.gd (Z.R64 (a+1)) ((F.i h k f) (a+1)))))else(some (-1))
def F.ag (a:(List D49))(h:D49):Option Int:=F.i a h A.FU 0
theorem o_q(p:(List D49))(h:D49)(O:A.h6 h.1)(U:A.h6 h.2.1)(V:h.2.2.1.size≤maxLen)(W:A.h6 h.2.2.2)(r:Int)(k:F.ag p h=some r):
    A.Ct Tryz.prog 37 [.slice A0_ p.length c1_,.agg #[A.i h.1,A.i h.2.1,.string h.2.2.1,A.i h.2.2.2]] [(0,.ln T49 A0_ c1_ p)] [] (fun v H'=>v=A.i r∧H'=[]∧A.h6 r):=by
 refine Jg Tryz.func37 rfl Tryz.ntmps37 rfl fun X Y=>?_;rw[F.ag]at k;refine Jc 1 ?_;refine Jl 1 (cs:=[A.i h.1,A.i h.2.1,.string h.2.2.1,A.i h.2.2.2]) fun g1=>?_;refine Ji 1 [] (Jk 3 ?_);refine Ji 3 [(7,A.i (p.length:Int)),(8,A.i 0)] (Jd 2 ?_);refine J3 [0,3,7] [0,1] (fun f E I=>∃(o:Int),E=[(8,A.i o)]∧I=[]∧A.h6 o∧F.i p h f o=some r) ⟨0,rfl,rfl,Js,k⟩ ?_;rintro u _ _ ⟨o,rfl,rfl,J,k⟩;rcases u with _|u
 ·exact J1 k
 rw[F.i]at k;refine Jc 1 ?_;refine Ji 1 [(9,.bool (decide (o<(p.length:Int))))] (Jd 2 ?_);refine J9 k ?_ ?_<;>intro L k
 ·refine Jc 5 ?_;refine Ji 2 [(5,A.i o)] (Jd 2 ?_);refine Vb mixed 6 6 (A.mb 6 0) ?_;refine J8 Jy [] [0,1] [1] [] (A.mb 6 7) 3 [(0,.b 0 0),(1,.n),(2,.n)] [(11,.agg #[A.i h.1,A.i h.2.1,.string h.2.2.1,A.i h.2.2.2]),(12,.slice A0_ p.length c1_),(13,A.i o)] ?_;have⟨s,z,k⟩:=Vo k;refine A.AH.pkl 0 4 z fun a2=>?_;intro b9 a3 N;refine Vj Jy [0,1] [0,1,4] 3 (A.mb 6 15) rfl (fun a w hf hh=>Ub (t:=T49) z N hf) ?_;refine J8 Jy [0,1,4] [0,1,4] [] [4] (A.mb 6 31) 1 [(4,.e 0 0)] [(15,.agg #[A.i s.1,A.i s.2.1,.string s.2.2.1,A.i s.2.2.2])] ?_;refine Vj Jy [0,1,4] [0,1,4] 5 (A.mb 6 63) rfl (fun a w hf hh=>eqagg_eql50 (x:=h) (y:=s) (hf.eval rfl) (hf.eval rfl)) ?_;refine Jt ?_;refine A.ex 1 ?_;refine J9 k ?_ ?_<;>intro L k
  ·refine Jc 1 ?_;refine Ji 2 [(4,A.i o)] (Jd 1 ?_);obtain rfl:=Jm k;exact Jo [] ⟨rfl,rfl,J⟩
  refine Jc 3 ?_;have⟨B,k⟩:=Ve k;refine Vy 2 [Z.R64 (o+1)] [(8,A.i (o+1))] B (Je ?_);exact J2 ⟨_,Ql _,⟨(o+1),rfl,rfl,(Jj B),k⟩⟩
 refine Jc 3 ?_;refine Ji 1 [(4,A.i (-1))] (Jd 1 ?_);obtain rfl:=Jm k;exact Jo [] ⟨rfl,rfl,(Jn .i64 (-1) rfl)⟩
def F.o (a:(List D49))(h:D49):Option Bool:=(F.ag a h).bind fun k=>(some (decide ((0:Int)≤k)))
theorem o_o(h:(List D49))(a:D49)(p:A.h6 a.1)(u:A.h6 a.2.1)(x:a.2.2.1.size≤maxLen)(y:A.h6 a.2.2.2)(r:Bool)(k:F.o h a=some r):
    A.Ct Tryz.prog 15 [.slice A0_ h.length c1_,.agg #[A.i a.1,A.i a.2.1,.string a.2.2.1,A.i a.2.2.2]] [(0,.ln T49 A0_ c1_ h)] [] (fun v H'=>v=.bool r∧H'=[]):=by
 refine Jg Tryz.func15 rfl Tryz.ntmps15 rfl fun B E=>?_;rw[F.o]at k;refine Jc 1 ?_;refine Jl 1 (cs:=[A.i a.1,A.i a.2.1,.string a.2.2.1,A.i a.2.2.2]) fun I=>?_;refine Ji 1 [] (Jk 2 ?_);refine Jf [1] [] [.n,.b 0 0] [(5,.slice A0_ h.length c1_),(6,.agg #[A.i a.1,A.i a.2.1,.string a.2.2.1,A.i a.2.2.2])] ?_;refine Va 2 [] k (o_q A0_ c1_ h a p u x y) (.s 0 .nil) ?_;rintro z - k _ _ ⟨rfl,rfl,hr4⟩;refine Jq ?_;refine Ji 2 [(4,.bool (decide ((0:Int)≤z)))] (Jd 1 ?_);obtain rfl:=Jm k;exact Jo [] ⟨rfl,rfl⟩
def F.aT (h:Int→Int→Option Bool)(a:Int)(k:Int):Option Bool:=A.gd (Z.R64 (a+1)) (h k (a+1))
def F.am (h:(List D49)×Int)(k:Int):Nat→Int→Option Bool
 |0,_=>none
 |f+1,a=>if a<(h.1.length:Int)then(A.gd (Z.R64 (a-1)) ((A.ix h.1 (a-1)).bind fun o=>((A.ix h.1 a).bind fun p=>(if p.1<o.1 then(some false)else(A.gd (Z.R64 (a+1)) ((F.am h k f) (a+1)))))))else(some (decide ((h.1.length:Int)=k)))
def F.h (a:(List D49))(k:(List D49)×Int):Nat→Int→Int→Option Bool
 |0,_,_=>none
 |f+1,p,s=>if s<(a.length:Int)then((A.ix a s).bind fun u=>(if u.2.2.2≠0 then(A.gd (Z.R64 (p+1)) ((F.o k.1 u).bind fun x=>(if(!x)=true then(some false)else(F.aT (F.h a k f) s (p+1)))))else(F.aT (F.h a k f) s p)))else(F.am k p A.FU 1)
def F.an (o:D23)(k:(List D49))(p:Bool):Option Bool:=if p=true then((F.ed).bind fun s=>(some s))else((F.dT o ([],[],[]) k).bind fun a=>(if a.2≠0 then(some (decide ((a.1.length:Int)=0)))else(F.h k a A.FU 0 0)))
def F.bT (a:D23)(h:(List D49)):Option Bool:=(F.ed).bind fun k=>(if(!k)=true then(F.an a h true)else((F.eZ h).bind fun o=>(if(!o)=true then(F.an a h true)else((F.ee a ([],[],[])).bind fun p=>(F.an a h (!p))))))
theorem o_av(z:D23)(p:(List D49))(r:Bool)(k:F.bT z p=some r):
    A.Ct Tryz.prog 4 [.agg #[.slice A0_ z.length c1_],.slice A2_ p.length c3_] [(0,.sh (.slice T54) [.slice A0_ z.length c1_] z),(1,.sh (.slice T49) [.slice A2_ p.length c3_] p),(2,.el none 0 0 A.tabF),(3,.el none 1 0 A.tabA)] [] (fun v H'=>v=.bool r∧H'=[]):=by
 refine Jg Tryz.func4 rfl Tryz.ntmps4 rfl fun w0 F0=>?_;rw[F.bT]at k;refine Jc 1 ?_;refine Jl 4 (cs:=[.slice A0_ z.length c1_]) fun g1=>?_;refine Ji 1 [] (Jd 2 ?_);refine Jp [1,2] [0,1,2,3,4] (fun I J=>∃(W:Bool),I=[(23,.bool W)]∧J=[]∧F.an z p W=some r) ?_ ?_
 ·refine Jc 0 ?_;refine Va 5 [] k o_aE (.s 2 (.s 3 .nil)) ?_;rintro a9 - k _ _ ⟨rfl,rfl⟩;refine Jq ?_;refine Ji 2 [(13,.bool (!a9))] ?_;refine J7 (j:=13) rfl k (fun k=>?_) (fun k=>?_)
  ·refine Jf [] [] [.off,.off,.off,.n,.n,.off,.off,.off,.off,.n] [(23,.bool true)] (Je ?_);exact J2 ⟨true,rfl,rfl,k⟩
  refine Jf [] [] [.on .n] [(14,.slice A2_ p.length c3_)] ?_;refine J5 (dj:=13) rfl rfl ?_;refine Va 45 [] k (o_bA A2_ c3_ p) (.s 1 .nil) ?_;rintro aa - k _ _ ⟨rfl,rfl⟩;refine Jq ?_;refine Jf [] [] [.on .n,.n,.n] [(18,.bool (!aa))] ?_;refine J7 (j:=18) rfl k (fun k=>?_) (fun k=>?_)
  ·refine Jf [] [] [.off,.off,.off,.off,.n] [(23,.bool true)] (Je ?_);exact J2 ⟨true,rfl,rfl,k⟩
  refine Jf [4] [] [.on (.b 0 0),.on .n] [(19,.agg #[.slice A0_ z.length c1_]),(20,.agg #[.slice none 0 0,.slice none 0 0,.slice none 0 0])] ?_;refine J5 (dj:=18) rfl rfl ?_;refine Va 85 [] k (o_bk A0_ none none none c1_ 0 0 0 z ([],[],[])) (.s 0 (.ns (.ns (.ns .nil)))) ?_;rintro Y - k _ _ ⟨rfl,rfl⟩;refine Jq ?_;refine Jf [] [] [.on .n,.n] [(23,.bool (!Y))] (Je ?_);exact J2 ⟨(!Y),rfl,rfl,k⟩
 rintro _ _ ⟨W,rfl,rfl,k⟩;rw[F.an]at k;refine V0 k ?_ ?_<;>intro L k
 ·refine Jc 1 ?_;refine Va 125 [] k o_aE (.s 2 (.s 3 .nil)) ?_;rintro r3 - k _ _ ⟨rfl,rfl⟩;refine Jq ?_;refine Ji 1 [(4,.bool r3)] (Jd 1 ?_);obtain rfl:=Jm k;exact Jo [] ⟨rfl,rfl⟩
 refine Jc 3 ?_;refine Jf [4] [] [.b 0 0,.n,.n] [(26,.agg #[.slice A0_ z.length c1_]),(27,.agg #[.slice none 0 0,.slice none 0 0,.slice none 0 0]),(28,.slice A2_ p.length c3_)] ?_;have⟨u,ab,k⟩:=Vo k;refine Vx 165 [] (first:=[]) (cap:=[]) cf8 (o_be A0_ none none none A2_ c1_ 0 0 0 c3_ z ([],[],[]) p u ab) (.s 0 (.ns (.ns (.ns (.l 1 (.s 2 (.s 3 .nil))))))) ?_;rintro _ _ ⟨N,O,rfl,rfl,hr9⟩;refine Jq ?_;refine Ji 5 [(5,.slice N u.1.length O),(6,A.i u.2)] (Jk 3 ?_);refine Ji 2 [(33,.bool (decide (u.2≠0)))] (Jd 1 ?_);refine J9 k ?_ ?_<;>intro L k
 ·refine Jc 1 ?_;refine Ji 4 [(4,.bool (decide ((u.1.length:Int)=0)))] (Jd 1 ?_);obtain rfl:=Jm k;exact Jo [] ⟨rfl,rfl⟩
 refine Jc 3 ?_;refine Ji 1 [(7,A.i 0)] (Jk 3 ?_);refine Ji 3 [(37,.slice A2_ p.length c3_),(38,A.i (p.length:Int)),(39,A.i 0)] (Jd 2 ?_);refine J3 [5,37,38] [1,2,3,165] (fun f I J=>∃(B:Int),∃(E:Int),I=[(7,A.i B),(39,A.i E)]∧J=[]∧A.h6 B∧A.h6 E∧F.h p u f B E=some r) ⟨0,0,rfl,rfl,Js,Js,k⟩ ?_;rintro X _ _ ⟨B,E,rfl,rfl,ac,ak,k⟩;rcases X with _|X
 ·exact J1 k
 rw[F.h]at k;refine Jc 1 ?_;refine Ji 1 [(40,.bool (decide (E<(p.length:Int))))] (Jd 2 ?_);refine J9 k ?_ ?_<;>intro L k
 ·refine V5 2 ?_;refine Jp [5,37,38,39] [1,2,3,165] (fun I J=>∃(U:Int),I=[(7,A.i U)]∧J=[]∧A.h6 U∧F.aT (F.h p u X) E U=some r) ?_ ?_
  ·refine Jc 2 ?_;have⟨x,ad,k⟩:=Vo k;refine J4 1 301 ad fun V=>?_;intro al ao;refine Jf [] [301] [.e 0 0] [(42,.agg #[A.i x.1,A.i x.2.1,.string x.2.2.1,A.i x.2.2.2])] ?_;refine Jh 302 (cs:=l4c) Tryz.zeroValue50 fun ap=>?_;refine Jw 302 [] [A.i x.1,A.i x.2.1,.string x.2.2.1,A.i x.2.2.2] ?_;refine Jk 2 ?_;refine Jf [302] [] [.n,.b 0 3,.n] [(45,.bool (decide (x.2.2.2≠0)))] (Jd 1 ?_);refine J9 k ?_ ?_<;>intro L k
   ·refine Jc 1 ?_;have⟨a2,k⟩:=Ve k;refine Vy 3 [Z.R64 (B+1)] [(7,A.i (B+1))] a2 (Jk 2 ?_);refine Jf [302] [] [.n,.b 0 0] [(48,.slice N u.1.length O),(49,.agg #[A.i x.1,A.i x.2.1,.string x.2.2.1,A.i x.2.2.2])] ?_;refine Va 303 [] k (o_o N O u.1 x V.1 V.2.1 V.2.2.1 V.2.2.2) (.o 165 .nil) ?_;rintro ae - k _ _ ⟨rfl,rfl⟩;refine Jq ?_;refine Ji 1 [(51,.bool (!ae))] (Jd 1 ?_);refine V0 k ?_ ?_<;>intro L k
    ·refine Jc 1 ?_;refine Ji 1 [(4,.bool false)] (Jd 1 ?_);obtain rfl:=Jm k;exact Jo [] ⟨rfl,rfl⟩
    refine Vi 2 ?_;exact J2 ⟨(B+1),rfl,rfl,(Jj a2),k⟩
   refine Vi 2 ?_;exact J2 ⟨B,rfl,rfl,ac,k⟩
  rintro _ _ ⟨U,rfl,rfl,af,k⟩;rw[F.aT]at k;refine Jc 0 ?_;have⟨a3,k⟩:=Ve k;refine Vy 2 [Z.R64 (E+1)] [(39,A.i (E+1))] a3 (Je ?_);exact J2 ⟨_,Ql _,⟨U,(E+1),rfl,rfl,af,(Jj a3),k⟩⟩
 refine Jc 4 ?_;refine Ji 1 [(10,A.i 1)] (Jd 2 ?_);refine J3 [5,7] [2,3,165] (fun f I J=>∃(y:Int),I=[(10,A.i y)]∧J=[]∧A.h6 y∧F.am u B f y=some r) ⟨1,rfl,rfl,(Jn .i64 (1) rfl),k⟩ ?_;rintro a4 _ _ ⟨y,rfl,rfl,aq,k⟩;rcases a4 with _|a4
 ·exact J1 k
 rw[F.am]at k;refine Jc 2 ?_;refine Ji 4 [(56,.bool (decide (y<(u.1.length:Int))))] (Jd 1 ?_);refine J9 k ?_ ?_<;>intro L k
 ·refine V5 5 ?_;refine Vb mixed 12 12 (A.mb 12 0) ?_;have⟨ag,k⟩:=Ve k;refine A.AH.q Jy [] [2,3,165] [] [] (A.mb 12 199) 7 [(0,.n),(1,.n),(6,.n),(7,.n),(2,.n)] [59,65,66,61] [Z.R64 (y-1)] [(59,.slice N u.1.length O),(65,.slice N u.1.length O),(66,A.i y),(61,A.i (y-1))] ag ?_;have⟨a5,a6,k⟩:=Vo k;refine V7 165 347 a6 fun ar=>?_;intro au ah;refine Vj Jy [2,3,165] l4i 3 (A.mb 12 207) rfl (fun a w hf hh=>Uc (t:=T49) a6 ah hf) ?_;refine J8 Jy l4i l4i [] [347] (A.mb 12 255) 4 [(4,.n),(5,.e 0 0)] [(64,A.i a5.1)] ?_;have⟨ai,a7,k⟩:=Vo k;refine V7 165 348 a7 fun av=>?_;intro aw aj;refine Vj Jy l4i [2,3,165,347,348] 8 (A.mb 12 511) rfl (fun a w hf hh=>Uc (t:=T49) a7 aj hf) ?_;refine J8 Jy [2,3,165,347,348] [2,3,165,347,348] [] [348] (A.mb 12 4095) 0 [(9,.n),(10,.e 0 0),(11,.n)] [(70,.bool (decide (ai.1<a5.1)))] (Jt ?_);refine A.ex 1 ?_;refine J9 k ?_ ?_<;>intro L k
  ·refine Jc 1 ?_;refine Ji 1 [(4,.bool false)] (Jd 1 ?_);obtain rfl:=Jm k;exact Jo [] ⟨rfl,rfl⟩
  refine Jc 3 ?_;have⟨a8,k⟩:=Ve k;refine Vy 3 [Z.R64 (y+1)] [(10,A.i (y+1))] a8 (Je ?_);exact J2 ⟨_,Ql _,⟨(y+1),rfl,rfl,(Jj a8),k⟩⟩
 refine Jc 3 ?_;refine Ji 5 [(4,.bool (decide ((u.1.length:Int)=B)))] (Jd 1 ?_);obtain rfl:=Jm k;exact Jo [] ⟨rfl,rfl⟩
end Go.Proofs.YtlhiofnikdppeaaGreatDoor
end
section
end
section
namespace Go.A
open Go.RowKit Go.Z Go.Shelf Go.Proofs Go.Lib
def Hall (W:World):List (Nat×Res)→Prop
 | []=>True
 |p::H=>(p.2.bl=[]∧p.2.ref=none∧p.2.holds W (fun _=>True) (fun _ _=>False))∧Hall W H
theorem Hall.at {W:World}: ∀{H:List (Nat×Res)} {k:Nat} {r:Res},Hall W H→hk H k=some r→r.bl=[]∧r.ref=none∧r.holds W (fun _=>True) (fun _ _=>False)
 | [],_,_,_,h=>by cases h
 |(d,u)::H,k,r,E,h=>by
  rw[Qaa]at h
  split at h
  ·injection h with h;subst h;exact E.1
  ·exact E.2.at h
theorem Hp.start {W:World}{H:List (Nat×Res)}(h:Hall W H):Hp ⟨0,[],W,[],fun _=>True⟩ H W:=by
 have E: ∀k b,¬Bk H k b:=fun k b ⟨r,N,J⟩=>by rw[(h.at N).1]at J;cases J
 refine⟨Ch.refl W,fun k r hk=>?_,fun k b I=>(E k b I).elim,fun k k' b I=>(E k b I).elim,fun k r j hk L=>?_⟩
 ·exact Res.to (S:=[]) (h.at hk).2.2 (Ch.refl W) (fun b _ _=>⟨by simp,fun k=>E k b,.inl trivial⟩) (fun b _ _=>⟨by simp,fun k=>E k b⟩) (fun i b _ O=>O.elim) (by simp)
 ·rw[(h.at hk).2.1]at L;cases L
theorem Hall.sh {W:World}{t:Ty}{cs:List Value}{x:t.den}{F:Nat→Prop}(h:t.rep W F cs x):(Res.sh t cs x).bl=[]∧(Res.sh t cs x).ref=none∧(Res.sh t cs x).holds W (fun _=>True) (fun _ _=>False):=
 ⟨rfl,rfl,Qev h fun _ _ _=>trivial⟩
def putCells (cs:List Value):Obj→Obj
 | .cells _ t frozen=>.cells cs.toArray t frozen
 |o=>o
theorem tab_cells {w:World}{L N:Nat}(h:Lib.Utf8Tabs L N w):Cells w ⟨L,0,none⟩ tabF∧Cells w ⟨N,0,none⟩ tabA:=by
 constructor
 ·intro j u E
  rw[Addr.add_lit,Ws]
  have J:j<256:=by have:=(Qc.1 E).1;simpa[tabF] using this
  have e:tabF[j]?=some (.int .u8 (firstT j)):=by simp[tabF,J]
  rw[e]at E;injection E with E;subst E
  exact h.1 j J
 ·intro j u E
  rw[Addr.add_lit,Ws]
  have J:j<32:=by have:=(Qc.1 E).1;simpa[tabA] using this
  have e:tabA[j]?=some (.int .u8 (if j%2=0 then accLo (j / 2)else accHi (j / 2))):=by simp[tabA,J]
  rw[e]at E;injection E with E;subst E
  have:=h.2 (j / 2) (by omega)
  by_cases O:j%2=0
  ·rw[if_pos O]
   have I:j=2*(j / 2):=by omega
   rw[I];simpa using this.1
  ·rw[if_neg O]
   have I:j=2*(j / 2)+1:=by omega
   have V:(2*(j / 2)+1) / 2=j / 2:=by omega
   rw[I,V];exact this.2
theorem Hall.tabs {w:World}{E I i j:Nat}(h:Lib.Utf8Tabs E I w):Hall w [(i,.el none E 0 tabF),(j,.el none I 0 tabA)]:=by
 obtain⟨J,L⟩:=tab_cells h
 exact⟨⟨rfl,rfl,J,World.block_lt_of_cell? w _ (J 0 (.int .u8 (firstT 0)) (by simp[tabF])),fun _ h=>h⟩,⟨rfl,rfl,L,World.block_lt_of_cell? w _ (L 0 (.int .u8 (accLo 0)) (by simp[tabA])),fun _ h=>h⟩,trivial⟩
end Go.A
end
section
namespace Go.Graph
abbrev Fun:=Int×Int×ByteArray
abbrev Nd:=Int×Int×List Int×Fun×ByteArray×Int×Int
abbrev Pl:=Int×Int
abbrev Sp:=Pl×Int
abbrev id (x:Nd):Int:=x.1
abbrev kind (x:Nd):Int:=x.2.1
abbrev fn (x:Nd):Fun:=x.2.2.2.1
abbrev name (x:Nd):ByteArray:=x.2.2.2.2.1
abbrev cap (x:Nd):Int:=x.2.2.2.2.2.1
abbrev dep (x:Nd):Int:=x.2.2.2.2.2.2
def Few (g:List Nd):Prop:=g.length≤40∧∀x,x∈g→x.2.2.1.length≤5000∧x.2.2.2.2.1.size≤5000∧x.2.2.2.1.2.2.size≤5000
theorem Few.in {g:List Nd}{k:Nat}{x:Nd}(h:Few g)(E:g[k]?=some x):x.2.2.1.length≤5000:=(h.2 x (Qh E)).1
def insK (k:Int):Int:=if k<1∨16<k then-1 else if k=1 then 0 else if k=5∨k=9 then 2 else 1
def Qas (c:UInt8):Bool:=decide ((97:Int)≤(c.toNat:Int)∧(c.toNat:Int)≤122∨(65:Int)≤(c.toNat:Int)∧(c.toNat:Int)≤90)
def Qgd (c:UInt8):Bool:=decide ((48:Int)≤(c.toNat:Int)∧(c.toNat:Int)≤57)
def Qcv (l:List UInt8):Bool:=l.all fun c=>Qas c||Qgd c
def named (s:ByteArray):Bool:=decide (s≠ByteArray.mk #[])&&decide ((s.size:Int)≤16)&&Qas (Z.bat s 0)&&Qcv s.data.toList
theorem Qgj {s:ByteArray}{i:Nat}(h:i<s.size):s.data.toList.drop i=Z.bat s i::s.data.toList.drop (i+1):=by
 have h':i<s.data.toList.length:=by simpa using h
 rw[Yw h']
 have E:i<s.data.size:=h
 congr 1
 simp[Z.bat,Wi E]
theorem Qfx {s:ByteArray}{i:Nat}(h: ¬i<s.size):s.data.toList.drop i=[]:=
 Q2 (by have E:s.data.toList.length=s.size:=rfl;omega)
theorem Qfl {s:ByteArray}(h:s≠ByteArray.mk #[]):0<s.size:=by
 rcases Nat.eq_zero_or_pos s.size with E|E
 ·have I:s.data=#[]:=Array.eq_empty_of_size_eq_zero E
  exact absurd (by cases s;simp_all) h
 ·exact E
def idxF (id:Int):Nat→List Nd→Int
 |_,[]=> -1
 |k,x::r=>if x.1=id then(k:Int)else idxF id (k+1) r
def idx (g:List Nd)(id:Int):Int:=idxF id 0 g
def Qcl (kd:Int)(s:ByteArray):List Nd→Int×Bool
 | []=>(0,false)
 |x::r=>if kind x=kd∧name x=s then(x.1,true)else Qcl kd s r
def z0:Nd:=(0,0,[],(0,0,ByteArray.mk #[]),ByteArray.mk #[],0,0)
def at_ (g:List Nd)(i:Int):Nd:=(g[i.toNat]?).getD z0
def find (g:List Nd)(id:Int):Nd×Bool:=if idx g id<0 then(z0,false)else(at_ g (idx g id),true)
theorem idxF_le (id:Int): ∀(k:Nat) (g:List Nd),-1≤idxF id k g∧idxF id k g<k+g.length
 |k,[]=>by simp[idxF];omega
 |k,x::r=>by
  unfold idxF
  have:=idxF_le id (k+1) r
  by_cases h:x.1=id
  ·rw[if_pos h];simp only[Qd];omega
  ·rw[if_neg h];simp only[Qd];omega
theorem idx_le (g:List Nd)(id:Int): -1≤idx g id∧idx g id<g.length:=by
 have:=idxF_le id 0 g
 unfold idx;omega
theorem Qbb {g:List Nd}{i:Int}{x:Nd}{k:Nat}(hk:i=(k:Int))(h:g[k]?=some x):at_ g i=x:=by
 subst hk;simp[at_,h]
def ownT (g:List Nd)(n:Nd):Bool:=if n.2.1≠1∧n.2.1≠15 then decide (n.2.2.2.2.1=ByteArray.mk #[])else named n.2.2.2.2.1&&decide ((Qcl n.2.1 n.2.2.2.2.1 g).1=n.1)
def ownC (n:Nd):Prop:=n.2.1=14∧(n.2.2.2.2.2.1<1∨8<n.2.2.2.2.2.1∨n.2.2.2.2.2.2<1∨4<n.2.2.2.2.2.2)∨n.2.1≠14∧(n.2.2.2.2.2.1≠0∨n.2.2.2.2.2.2≠0)
instance (n:Nd):Decidable (ownC n):=by unfold ownC;infer_instance
def own (g:List Nd)(i:Int)(n:Nd):Bool:=
 if n.1<1∨255<n.1∨0<i∧n.1≤(at_ g (i-1)).1∨insK n.2.1<0∨(n.2.2.1.length:Int)≠insK n.2.1 then false else if ownC n then false else ownT g n
def bget (l:List Bool)(i:Int):Bool:=(l[i.toNat]?).getD false
def iget (l:List Int)(i:Int):Int:=(l[i.toNat]?).getD 0
def Fed (g:List Nd):Prop:=∀x,x∈g→∀k,k∈x.2.2.1→0≤idx g k
def Qhx (g:List Nd)(done:List Bool)(kd:Int):List Int→Bool
 | []=>true
 |k::r=>if kd≠14∧bget done (idx g k)=false then false else Qhx g done kd r
def ready (g:List Nd)(done:List Bool)(n:Nd):Bool:=Qhx g done n.2.1 n.2.2.1
def Qad (g:List Nd)(done:List Bool):Nat→List Nd→Int→Int
 |_,[],a=>a
 |i,x::r,a=>Qad g done (i+1) r (if(a<0∧bget done i=false)∧ready g done x=true then i else a)
def Qbh (g:List Nd):Nat→List Bool→List Int→Option (List Int)
 |0,_,l=>some l
 |f+1,done,l=>if Qad g done 0 g (-1)<0 then none else Qbh g f (done.set (Qad g done 0 g (-1)).toNat true) (l++[Qad g done 0 g (-1)])
def order (g:List Nd):List Int×Bool:=match Qbh g g.length (List.replicate g.length false) []with
 |some l=>(l,true)
 |none=>([],false)
def d0:List Int→Int
 | []=>0
 |a::_=>a
def capd (d:Int):Int:=if 4<d then-1 else d
def Qgt (n:Nd)(l:List Int):Int:=if n.2.1=14 then n.2.2.2.2.2.2 else if n.2.1=12 then d0 l+1 else if n.2.1=13 then d0 l-1 else
 if n.2.1=5∨n.2.1=9 then(if iget l 0≠iget l 1 then-1 else d0 l)else if n.2.1=11∨n.2.1=16∨n.2.1=15 then(if d0 l≠0 then-1 else d0 l)else d0 l
def depthOf (n:Nd)(l:List Int):Int:=capd (Qgt n l)
theorem d0_iget {l:List Int}:iget l 0=d0 l:=by cases l<;>rfl
theorem d0_nil {l:List Int}(h:l.length=0):0=d0 l:=by cases l with
 |nil=>rfl
 |cons a r=>simp at h
def Qat (g:List Nd):List Int→List Int→Option (List Int)
 | [],d=>some d
 |p::r,d=>if depthOf (at_ g p) ((at_ g p).2.2.1.map fun k=>iget d (idx g k))<0 then none else Qat g r (d.set p.toNat (depthOf (at_ g p) ((at_ g p).2.2.1.map fun k=>iget d (idx g k))))
def Qbd (g:List Nd)(d:List Int):List Nd→Bool
 | []=>true
 |x::r=>if x.2.1=14∧iget d (idx g (iget x.2.2.1 0))≠x.2.2.2.2.2.2 then false else Qbd g d r
theorem Qdn (g:List Nd)(done:List Bool): ∀(i:Nat) (l:List Nd) (a:Int),-1≤a→a<i+l.length→ -1≤Qad g done i l a∧Qad g done i l a<i+l.length
 |i,[],a,I,E=>by simp[Qad]at*;omega
 |i,x::r,a,I,E=>by
  unfold Qad
  simp only[Qd]at E ⊢
  have:=Qdn g done (i+1) r (if(a<0∧bget done i=false)∧ready g done x=true then i else a) (by split<;>omega) (by split<;>omega)
  omega
def depths (g:List Nd)(l:List Int):List Int×Bool:=match Qat g l (List.replicate g.length 0)with
 |some d=>if Qbd g d g then(d,true)else([],false)
 |none=>([],false)
abbrev inD (g:List Nd) (d:List Int) (l:List Int):List Int:=l.map fun k=>iget d (idx g k)
def InB (d:List Int):Prop:=∀i,0≤iget d i∧iget d i≤4
theorem InB.rep (n:Nat):InB (List.replicate n 0):=fun i=>by
 unfold iget;rw[Y1];split<;>simp
theorem Qfb (n:Nd)(l:List Int):depthOf n l≤4:=by unfold depthOf capd;split<;>omega
theorem InB.set {d:List Int}(h:InB d)(p:Nat){v:Int}(E:0≤v)(I:v≤4):InB (d.set p v):=fun i=>by
 unfold iget;rw[X6]
 have:=h i
 unfold iget at this
 split
 ·split<;>simp<;>omega
 ·exact this
theorem InB.d0 {d:List Int}(h:InB d)(g:List Nd)(l:List Int): -1≤Graph.d0 (inD g d l)∧Graph.d0 (inD g d l)≤4:=by
 cases l with
 |nil=>simp[Graph.d0]
 |cons k r=>have:=h (idx g k);simp only[inD,Qv,Graph.d0];omega
theorem inD_take {g:List Nd}{d l:List Int}{k:Nat}{x:Int}(h:l[k]?=some x):inD g d (l.take k)++[iget d (idx g x)]=inD g d (l.take (k+1)):=by
 have E:=(Qc.1 h)
 rw[X7,h];simp[inD]
def insS (g:List Nd)(d:List Int)(id:Int):Nat→List Int→List Sp
 |_,[]=>[]
 |k,x::r=>((id,(k:Int)),iget d (idx g x))::insS g d id (k+1) r
def outS (n:Nd)(v:Int):List Sp:=if n.2.1≠15 then [((n.1,2),v)]else []
def spotsF (g:List Nd)(d:List Int):Nat→List Nd→List Sp
 |_,[]=>[]
 |i,n::r=>insS g d n.1 0 n.2.2.1++(outS n (iget d i)++spotsF g d (i+1) r)
def spots (g:List Nd)(d:List Int):List Sp:=spotsF g d 0 g
def atS (p:Pl):List Sp→Int
 | []=> -1
 |x::r=>if x.1=p then x.2 else atS p r
abbrev Sm:=Int×Int×Int×Int×(Int×Int×Int×Int)
def z8:Sm:=(0,0,0,0,(0,0,0,0))
def stepP (d a b:Int)(s:Sm):Sm×Int:=if d<a∨b<d then(z8,11)else((d,s.2),0)
def idP (d:Int):Sm×Int:=stepP d 0 4 (0,d,0,0,(0,0,0,0))
def Qgq (d:Int):Sm×Int:=stepP d 0 3 (0,d,0,1,(0,0,0,0))
def Qgv (d:Int):Sm×Int:=stepP d 1 4 (0,d-1,0,0,(0,0,0,0))
def nextP (d:Int):Sm×Int:=stepP d 1 4 (0,d,1,0,(0,0,0,0))
def Qcw (n:Nd)(d:Int):Sm:=if n.2.1=12 then(Qgq d).1 else if n.2.1=13 then(Qgv d).1 else if n.2.1=14 then(nextP d).1 else(idP d).1
theorem Qhy (s:ByteArray)(pos:Nat):1≤(Utf8.decode s pos).2:=by
 unfold Utf8.decode;simp only[];repeat' split
 all_goals first|exact Qq 1|(simp;done)|omega
def Qay (f:Fun):Bool:=if f.1=3∨f.1=13 then decide (0≤f.2.1∧f.2.1≤64)else if f.1=6∨f.1=11 then decide (1≤f.2.1∧f.2.1≤1048576)else decide (f.2.1=0)
def tail5 (c:UInt8):Bool:=decide (128≤(c.toNat:Int)∧(c.toNat:Int)≤191)
end Go.Graph
end
section
namespace Go.A
open Go.Z
theorem r64n {n:Nat}(h:n<4611686018427387904):R64 ((n:Int)+1):=⟨by omega,by omega⟩
theorem gd1 {α:Type}{p:Prop}[Decidable p](h:p)(x:Option α):gd p x=x:=if_pos h
theorem ixn {α:Type}{xs:List α}{k:Nat}{x:α}(h:xs[k]?=some x):ix xs (k:Int)=some x:=by rw[ix_nat];exact h
theorem ixg {α:Type}{xs:List α}{i:Int}{x:α}(E:0≤i)(h:xs[i.toNat]?=some x):ix xs i=some x:=by unfold ix;rw[if_neg (by omega)];exact h
theorem dropx {α:Type}{xs:List α}{k:Nat}{x:α}(h:xs[k]?=some x):xs.drop k=x::xs.drop (k+1):=by
 obtain⟨E,I⟩:=Qc.1 h
 rw[Yw E,I]
theorem ba {p q:Prop}[Decidable p][Decidable q]:(bif decide p then decide q else false)=decide (p∧q):=by by_cases h:p<;>simp[h]
theorem bo {p q:Prop}[Decidable p][Decidable q]:(bif decide p then true else decide q)=decide (p∨q):=by by_cases h:p<;>simp[h]
theorem bn {p:Prop}[Decidable p]:(!decide p)=decide (¬p):=by by_cases h:p<;>simp[h]
theorem lp {α σ ρ:Type}(xs:List α)(L:Nat→σ→Int→Option ρ)(G:Nat→List α→σ→Option ρ)(P:Nat→σ→Prop)
  (I: ∀f s,P xs.length s→L (f+1) s (xs.length:Int)=G xs.length [] s)
  (J: ∀f s (k:Nat) x,xs[k]?=some x→k<xs.length→P k s→(∀s',P (k+1) s'→L f s' ((k:Int)+1)=G (k+1) (xs.drop (k+1)) s')→L (f+1) s k=G k (x::xs.drop (k+1)) s)
  (N:xs.length<FU) (s:σ) (hs:P 0 s):L FU s 0=G 0 xs s:=by
 have main: ∀(n k f:Nat) (s:σ),k+n=xs.length→n<f→P k s→L f s (k:Int)=G k (xs.drop k) s:=by
  intro n
  induction n with
  |zero=>
   intro k f s hk O hp
   obtain⟨f,rfl⟩: ∃f',f=f'+1:=⟨f-1,by omega⟩
   obtain rfl:k=xs.length:=by omega
   rw[Q2 (Qq _)];exact I f s hp
  |succ n V=>
   intro k f s hk O hp
   obtain⟨f,rfl⟩: ∃f',f=f'+1:=⟨f-1,by omega⟩
   have E:xs[k]?=some xs[k]:=Qe (by omega)
   rw[dropx E]
   exact J f s k _ E (by omega) hp fun s' hp'=>V (k+1) f s' (by omega) (by omega) hp'
 have:=main xs.length 0 FU s (by omega) N hs
 simpa using this
theorem lp0 {α ρ:Type}(xs:List α)(L:Nat→Int→Option ρ)(G:Nat→List α→Option ρ)
  (E: ∀f,L (f+1) (xs.length:Int)=G xs.length [])
  (I: ∀f (k:Nat) x,xs[k]?=some x→k<xs.length→L f ((k:Int)+1)=G (k+1) (xs.drop (k+1))→L (f+1) k=G k (x::xs.drop (k+1)))
  (J:xs.length<FU):L FU 0=G 0 xs:=
 lp xs (fun f (_:Unit) y=>L f y) (fun k l _=>G k l) (fun _ _=>True) (fun f s _=>E f) (fun f s k x N hk _ O=>I f k x N hk (O () trivial)) J () trivial
end Go.A
namespace Go.Proofs.YtlhiofnikdppeaaGreatDoor
open Go.RowKit Go.Graph
theorem Qab:(18446744073709551616:Nat)<A.FU:=by decide
theorem ixb {s:ByteArray}{k:Nat}(h:k<s.size):A.ix s.data.toList (k:Int)=some (Z.bat s k):=by
 refine A.ixn ?_
 have:=Qgj h
 rw[←List.head?_drop,this];rfl
theorem Qac (s:ByteArray):s.data.toList.length=s.size:=rfl
end Go.Proofs.YtlhiofnikdppeaaGreatDoor
end
section
namespace Go.Proofs.YtlhiofnikdppeaaGreatDoor
open Go.RowKit Go.Graph
theorem Qft (s:ByteArray)(i:Nat):(s.get! i)=Z.bat s i:=by
 cases s;simp[ByteArray.get!,Z.bat,getElem!_def,Option.getD]
 rfl
theorem dec_at (s:ByteArray)(i:Nat):Utf8.decode s i=Lib.decodeN (s.size-i) (Z.bat s i).toNat (Z.bat s (i+1)).toNat (Z.bat s (i+2)).toNat (Z.bat s (i+3)).toNat:=by
 rw[Lib.decode_at,Qft,Qft,Qft,Qft]
theorem dec_lt {s:ByteArray}{i:Nat}(h:(Z.bat s i).toNat <128):Utf8.decode s i=((Z.bat s i).toNat,1):=by
 rw[dec_at];unfold Lib.decodeN;rw[if_pos h]
theorem dec_ge {s:ByteArray}{i:Nat}(h:128≤(Z.bat s i).toNat):128≤(Utf8.decode s i).1:=by
 rw[dec_at];unfold Lib.decodeN;rw[if_neg (by omega)]
 repeat' split
 all_goals first|(simp only[];omega)|decide
end Go.Proofs.YtlhiofnikdppeaaGreatDoor
end
