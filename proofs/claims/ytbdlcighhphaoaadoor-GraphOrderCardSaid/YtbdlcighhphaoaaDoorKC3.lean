/- Functions on data, what they tell, and that the code computes them. -/
import Derived.Test.YtbdlcighhphaoaaDoorKC0
import Derived.Test.YtbdlcighhphaoaaDoorKC1
import Derived.Test.YtbdlcighhphaoaaDoorKC2
import Derived.Lib.TrimUEq
section
set_option linter.unusedVariables false
set_option linter.unusedSimpArgs false
set_option maxRecDepth 20000
set_option maxHeartbeats 8000000
set_option synthInstance.maxSize 1000000
set_option synthInstance.maxHeartbeats 400000
namespace Go.Proofs.YtbdlcighhphaoaaDoor
open Go.RowKit
abbrev l3a:List Nat:=[1,2,6125,6165,6205,8560]
abbrev l3b:List Nat:=[1,2,6125,6165,6205,7972,8560]
variable(A0_ A1_ A2_ A5_ A7_ A13_:Option Addr)(g0_ b1_ c1_ c2_ g2_ c3_ b4_ b5_ b6_ c6_ c8_ g10_ c14_:Nat)
def F.bq (a0:D23):Option ((List D64)×Int):=(F.az a0).bind fun r2=>A.om r2.1 (if r2.2≠0 then(some ([],r2.2))else(none)) fun p5=>(if r2.2≠0 then(some ([],r2.2))else((F.aQ p5 a0).bind fun r12=>(some (r12,0))))
theorem o_ax(a0:D23)(r:(List D64)×Int)(hF:F.bq a0=some r):
    A.Ct Tryd.prog 24 [.agg #[.slice A0_ a0.length c1_]] [(0,.sh (.slice T33) [.slice A0_ a0.length c1_] a0),(1,.el none 0 0 A.tabF),(2,.el none 1 0 A.tabA)] [] (fun v H'=>∃(A0':Option Addr) (c1':Nat),v=.tuple #[.slice A0' r.1.length c1',A.i r.2]∧H'=[(0,.own T64 65 A0' c1' r.1)]∧A.h6 r.2):=by
 refine A.Ct.enter Tryd.func24 rfl Tryd.ntmps24 rfl fun w0 F0=>?_;rw[F.bq]at hF;refine A.xl 1 ?_;refine A.AL.box 3 (cs:=[.slice A0_ a0.length c1_]) fun g1=>?_;refine A.n 2 [] (A.dl 2 ?_);refine A.q0 [3] [] [.b 0 0] [(7,.agg #[.slice A0_ a0.length c1_])] ?_;refine A.v 4 [] hF (o_j A0_ c1_ a0) (.s 0 (.s 1 (.s 2 .nil))) ?_;rintro r2 - hF _ _ (⟨hp16,rfl,rfl,hr4⟩|⟨p5,hp16,g6,b7,A8,c9,b10,rfl,rfl,hr11⟩)
 ·refine A.ck ?_;rw[A.om_n hp16]at hF
  refine A.n 5 [(4,.pointer none),(5,A.i r2.2)] (A.dl 3 ?_);refine A.n 2 [(12,.bool (decide (r2.2≠0)))] (A.dx 1 ?_);refine A.c hF ?_ ?_<;>intro hb hF
  ·refine A.xl 1 ?_;refine A.n 3 [(2,.slice none 0 0),(3,A.i r2.2)] (A.dx 1 ?_);obtain rfl:=A.si hF;refine A.nil 44 T64 65 ?_;exact A.rt2 [(0,44)] ⟨none,0,rfl,rfl,hr4⟩
  refine A.xl 3 ?_;refine A.q0 [3] [] [.n,.b 0 0] [(14,.pointer none),(15,.agg #[.slice A0_ a0.length c1_])] ?_;exact A.no0 hF
 refine A.ck ?_;rw[A.om_s hp16]at hF
 refine A.n 5 [(4,.pointer (some ⟨g6,0,none⟩)),(5,A.i r2.2)] (A.dl 3 ?_);refine A.n 2 [(12,.bool (decide (r2.2≠0)))] (A.dx 1 ?_);refine A.c hF ?_ ?_<;>intro hb hF
 ·refine A.xl 1 ?_;refine A.n 3 [(2,.slice none 0 0),(3,A.i r2.2)] (A.dx 1 ?_);obtain rfl:=A.si hF;refine A.nil 45 T64 65 ?_;exact A.rt2 [(0,45)] ⟨none,0,rfl,rfl,hr11⟩
 refine A.xl 3 ?_;refine A.q0 [3] [] [.n,.b 0 0] [(14,.pointer (some ⟨g6,0,none⟩)),(15,.agg #[.slice A0_ a0.length c1_])] ?_;refine A.v 46 [] hF (o_s A8 A0_ g6 b7 c9 b10 c1_ p5 a0) (.m 4 (.m 5 (.m 6 (.m 7 (.s 0 .nil))))) ?_;rintro r12 - hF _ _ ⟨A14,c15,rfl,rfl⟩;refine A.ck ?_;refine A.mvd 47 4 [] ?_;refine A.mvd 48 5 [] ?_;refine A.mvd 49 6 [] ?_;refine A.mvd 50 7 [] ?_;refine A.n 2 [(2,.slice A14 r12.length c15),(3,A.i 0)] (A.dx 1 ?_);obtain rfl:=A.si hF;exact A.rt2 [(0,46)] ⟨A14,c15,rfl,rfl,A.z0⟩
def F.cy (a0:Int):Option Int:=if(bif decide (a0<1)then true else decide ((16:Int)<a0))=true then(some (-1))else(if a0=1 then(some 0)else(if(bif decide (a0=5)then true else decide (a0=9))=true then(some 2)else(some 1)))
def F.cQ (k1:Int→Option (Int×Bool))(a0:D23)(y2:Int)(y5:Bool):Option (Int×Bool):=if y5=true then((A.ix a0 y2).bind fun x6=>(some (x6.1,true)))else(A.gd (Z.R64 (y2+1)) (k1 (y2+1)))
def F.bI (a0:D23)(a1:Int)(a2:ByteArray):Nat→Int→Option (Int×Bool)
 |0,_=>none
 |f+1,y2=>if y2<(a0.length:Int)then((A.ix a0 y2).bind fun x14=>(if x14.2.1=a1 then((A.ix a0 y2).bind fun x21=>(F.cQ (F.bI a0 a1 a2 f) a0 y2 (decide (x21.2.2.2.2.1=a2))))else(F.cQ (F.bI a0 a1 a2 f) a0 y2 false)))else(some (0,false))
def F.dy (a0:D23)(a1:Int)(a2:ByteArray):Option (Int×Bool):=F.bI a0 a1 a2 A.FU 0
def F.cL (a0:UInt8):Option Bool:=if(bif decide ((97:Int)≤(a0.toNat:Int))then decide ((a0.toNat:Int)≤122)else false)=true then(some true)else(some (bif decide ((65:Int)≤(a0.toNat:Int))then decide ((a0.toNat:Int)≤90)else false))
def F.dh (a0:UInt8):Option Bool:=some (bif decide ((48:Int)≤(a0.toNat:Int))then decide ((a0.toNat:Int)≤57)else false)
def F.cz (k1:Int→Option Bool)(y2:Int)(y5:Bool):Option Bool:=if y5=true then(some false)else(A.gd (Z.R64 (y2+1)) (k1 (y2+1)))
def F.bA (a0:ByteArray):Nat→Int→Option Bool
 |0,_=>none
 |f+1,y2=>if y2<(a0.size:Int)then((A.ix a0.data.toList y2).bind fun x7=>((F.cL x7).bind fun r9=>(if(!r9)=true then((A.ix a0.data.toList y2).bind fun x11=>((F.dh x11).bind fun r13=>(F.cz (F.bA a0 f) y2 (!r13))))else(F.cz (F.bA a0 f) y2 false))))else(some true)
def F.cc (a0:ByteArray)(y1:Bool):Option Bool:=if y1=true then(some false)else(F.bA a0 A.FU 0)
def F.ds (a0:ByteArray):Option Bool:=if(bif decide (a0=(ByteArray.mk #[]))then true else decide ((16:Int)<(a0.size:Int)))=true then(F.cc a0 true)else((A.ix a0.data.toList 0).bind fun x15=>((F.cL x15).bind fun r17=>(F.cc a0 (!r17))))
def F.cM (a0:D23)(x2:D33):Option Bool:=if(bif decide (x2.2.1≠1)then decide (x2.2.1≠15)else false)=true then(some (decide (x2.2.2.2.2.1=(ByteArray.mk #[]))))else((F.dy a0 x2.2.1 x2.2.2.2.2.1).bind fun r11=>((F.ds x2.2.2.2.2.1).bind fun r14=>(some (bif r14 then decide (r11.1=x2.1)else false))))
def F.bb (a0:D23)(x2:D33)(y10:Bool):Option Bool:=if y10=true then(some false)else(if x2.2.1=14 then(if(bif bif bif decide (x2.2.2.2.2.2.1<1)then true else decide ((8:Int)<x2.2.2.2.2.2.1)then true else decide (x2.2.2.2.2.2.2<1)then true else decide ((4:Int)<x2.2.2.2.2.2.2))=true then(some false)else(F.cM a0 x2))else(if(bif decide (x2.2.2.2.2.2.1≠0)then true else decide (x2.2.2.2.2.2.2≠0))=true then(some false)else(F.cM a0 x2)))
def F.dx (a0:D23)(a1:Int):Option Bool:=(A.ix a0 a1).bind fun x2=>(if(bif decide (x2.1<1)then true else decide ((255:Int)<x2.1))=true then(F.bb a0 x2 true)else(if(0:Int)<a1 then(A.gd (Z.R64 (a1-1)) ((A.ix a0 (a1-1)).bind fun x17=>(if x2.1≤x17.1 then(F.bb a0 x2 true)else((F.cy x2.2.1).bind fun r25=>(if r25<0 then(F.bb a0 x2 true)else((F.cy x2.2.1).bind fun r28=>(F.bb a0 x2 (decide ((x2.2.2.1.length:Int)≠r28)))))))))else((F.cy x2.2.1).bind fun r31=>(if r31<0 then(F.bb a0 x2 true)else((F.cy x2.2.1).bind fun r34=>(F.bb a0 x2 (decide ((x2.2.2.1.length:Int)≠r34))))))))
def F.dr (y3:Int):Nat→(List Int)→Int→Option (List Int)
 |0,_,_=>none
 |f+1,xs7,y8=>if y8≤y3 then(A.gd ((List.length (α:=Int) xs7+List.length (α:=Int) [y8])*8≤140737488355328) (A.gd (Z.R64 (y8+1)) ((F.dr y3 f) (xs7++[y8]) (y8+1))))else(some xs7)
def F.bB (y1:Int)(y3:Int):Option (List Int):=F.dr y3 A.FU [] y1
def F.b3 (a0:Int):Option (List Int):=if a0=2 then(F.bB 1 8)else(if a0=3 then(F.bB 11 13)else(if a0=4 then(F.bB 21 22)else(if a0=8 then(F.bB 31 34)else(if a0=11 then(F.bB 41 42)else(F.bB 1 0)))))
def F.df (a0:D31)(y3:Bool):Option Bool:=if y3=true then(some (bif decide ((1:Int)≤a0.2.1)then decide (a0.2.1≤1048576)else false))else(some (decide (a0.2.1=0)))
def F.dg (a0:D31)(y2:Bool):Option Bool:=if y2=true then(some (bif decide ((0:Int)≤a0.2.1)then decide (a0.2.1≤64)else false))else(if a0.1=6 then(F.df a0 (decide (a0.1=6)))else(F.df a0 (decide (a0.1=11))))
def F.dv (a0:D31):Option Bool:=if a0.1=3 then(F.dg a0 (decide (a0.1=3)))else(F.dg a0 (decide (a0.1=13)))
def F.b4 (a0:UInt8):Option Bool:=some (bif decide ((128:Int)≤(a0.toNat:Int))then decide ((a0.toNat:Int)≤191)else false)
def F.bJ (x2:UInt8)(y4:UInt8)(y7:Bool):Option Int:=if y7=true then(if(bif decide ((x2.toNat:Int)=240)then decide ((y4.toNat:Int)<144)else false)=true then(some 0)else(if(bif decide ((x2.toNat:Int)=244)then decide ((143:Int)<(y4.toNat:Int))else false)=true then(some 0)else(some 4)))else(some 0)
def F.b5 (a0:ByteArray)(a1:Int)(x2:UInt8)(y4:UInt8)(y6:Bool):Option Int:=if y6=true then(if(bif decide ((x2.toNat:Int)=224)then decide ((y4.toNat:Int)<160)else false)=true then(some 0)else(if(bif decide ((x2.toNat:Int)=237)then decide ((159:Int)<(y4.toNat:Int))else false)=true then(some 0)else(some 3)))else(if(bif bif decide ((240:Int)≤(x2.toNat:Int))then decide ((x2.toNat:Int)≤244)else false then decide ((4:Int)≤(a0.size:Int)-a1)else false)=true then((F.b4 y4).bind fun r8=>(if r8=true then(A.gd (Z.R64 (a1+2)) ((A.ix a0.data.toList (a1+2)).bind fun x11=>((F.b4 x11).bind fun r13=>(if r13=true then(A.gd (Z.R64 (a1+3)) ((A.ix a0.data.toList (a1+3)).bind fun x16=>((F.b4 x16).bind fun r18=>(F.bJ x2 y4 r18))))else(F.bJ x2 y4 false)))))else(F.bJ x2 y4 false)))else(F.bJ x2 y4 false))
def F.cm (a0:ByteArray)(a1:Int)(x2:UInt8)(y4:UInt8)(y5:Bool):Option Int:=if y5=true then(some 2)else(if(bif bif decide ((224:Int)≤(x2.toNat:Int))then decide ((x2.toNat:Int)≤239)else false then decide ((3:Int)≤(a0.size:Int)-a1)else false)=true then((F.b4 y4).bind fun r20=>(if r20=true then(A.gd (Z.R64 (a1+2)) ((A.ix a0.data.toList (a1+2)).bind fun x23=>((F.b4 x23).bind fun r25=>(F.b5 a0 a1 x2 y4 r25))))else(F.b5 a0 a1 x2 y4 false)))else(F.b5 a0 a1 x2 y4 false))
def F.cn (a0:ByteArray)(a1:Int)(x2:UInt8)(y4:UInt8):Option Int:=if(x2.toNat:Int)<128 then(some 1)else(if(bif bif decide ((194:Int)≤(x2.toNat:Int))then decide ((x2.toNat:Int)≤223)else false then decide ((2:Int)≤(a0.size:Int)-a1)else false)=true then((F.b4 y4).bind fun r27=>(F.cm a0 a1 x2 y4 r27))else(F.cm a0 a1 x2 y4 false))
def F.cZ (a0:ByteArray)(a1:Int):Option Int:=A.gd (Z.R64 ((a0.size:Int)-a1)) ((A.ix a0.data.toList a1).bind fun x2=>(if(1:Int)<(a0.size:Int)-a1 then(A.gd (Z.R64 (a1+1)) ((A.ix a0.data.toList (a1+1)).bind fun x30=>(F.cn a0 a1 x2 x30)))else(F.cn a0 a1 x2 (0:UInt8))))
def F.b6 (a0:ByteArray):Nat→Int→Option Bool
 |0,_=>none
 |f+1,y1=>if y1<(a0.size:Int)then((F.cZ a0 y1).bind fun r4=>(if r4=0 then(some false)else(A.gd (Z.R64 (y1+r4)) ((F.b6 a0 f) (y1+r4)))))else(some true)
def F.di (a0:ByteArray):Option Bool:=F.b6 a0 A.FU 0
def F.bu (k1:(List D157)→Int→Option (List D157))(xs3:List D157)(y4:Int)(y10:Int)(y12:Int):Option (List D157):=A.gd ((List.length (α:=D157) xs3+List.length (α:=D157) [(y4,y12)])*16≤140737488355328) (A.gd (Z.R64 (y4+y10)) (k1 (xs3++[(y4,y12)]) (y4+y10)))
def F.aL (a0:ByteArray):Nat→(List D157)→Int→Option (List D157)
 |0,_,_=>none
 |f+1,xs3,y4=>if y4<(a0.size:Int)then((F.cZ a0 y4).bind fun r7=>(if r7=1 then((A.ix a0.data.toList y4).bind fun x19=>(F.bu (F.aL a0 f) xs3 y4 r7 (IntKind.i32.wrap ((x19.toNat:Int)))))else(if r7=2 then(A.gd (Z.R64 (y4+1)) ((A.ix a0.data.toList y4).bind fun x22=>(A.gd ((32:Int)≠0) ((A.ix a0.data.toList (y4+1)).bind fun x25=>(A.gd ((64:Int)≠0) (F.bu (F.aL a0 f) xs3 y4 r7 (IntKind.i32.wrap ((IntKind.i32.wrap ((IntKind.i32.wrap (Int.tmod (x22.toNat:Int) 32))*64))+(IntKind.i32.wrap (Int.tmod (x25.toNat:Int) 64))))))))))else(if r7=3 then(A.gd (Z.R64 (y4+1)∧Z.R64 (y4+2)) ((A.ix a0.data.toList y4).bind fun x29=>(A.gd ((16:Int)≠0) ((A.ix a0.data.toList (y4+1)).bind fun x32=>(A.gd ((64:Int)≠0) ((A.ix a0.data.toList (y4+2)).bind fun x35=>(A.gd ((64:Int)≠0) (F.bu (F.aL a0 f) xs3 y4 r7 (IntKind.i32.wrap ((IntKind.i32.wrap ((IntKind.i32.wrap ((IntKind.i32.wrap ((IntKind.i32.wrap (Int.tmod (x29.toNat:Int) 16))*64))+(IntKind.i32.wrap (Int.tmod (x32.toNat:Int) 64))))*64))+(IntKind.i32.wrap (Int.tmod (x35.toNat:Int) 64))))))))))))else(if r7=4 then(A.gd (Z.R64 (y4+1)∧Z.R64 (y4+2)∧Z.R64 (y4+3)) ((A.ix a0.data.toList y4).bind fun x39=>(A.gd ((8:Int)≠0) ((A.ix a0.data.toList (y4+1)).bind fun x42=>(A.gd ((64:Int)≠0) ((A.ix a0.data.toList (y4+2)).bind fun x45=>(A.gd ((64:Int)≠0) ((A.ix a0.data.toList (y4+3)).bind fun x48=>(A.gd ((64:Int)≠0) (F.bu (F.aL a0 f) xs3 y4 r7 (IntKind.i32.wrap ((IntKind.i32.wrap ((IntKind.i32.wrap ((IntKind.i32.wrap ((IntKind.i32.wrap ((IntKind.i32.wrap ((IntKind.i32.wrap (Int.tmod (x39.toNat:Int) 8))*64))+(IntKind.i32.wrap (Int.tmod (x42.toNat:Int) 64))))*64))+(IntKind.i32.wrap (Int.tmod (x45.toNat:Int) 64))))*64))+(IntKind.i32.wrap (Int.tmod (x48.toNat:Int) 64))))))))))))))else(F.bu (F.aL a0 f) xs3 y4 1 65533))))))else(some xs3)
def F.dz (a0:ByteArray):Option (List D157):=F.aL a0 A.FU [] 0
def F.c8 (y2:Bool):Option Bool:=some y2
def F.cA (y6:Bool):Option Bool:=some y6
def F.cB (a0:D31)(y5:Bool):Option Bool:=if y5=true then(if(a0.2.2.size:Int)≤4 then((F.di a0.2.2).bind fun r7=>(if r7=true then((F.dz a0.2.2).bind fun r9=>(F.cA (decide ((r9.length:Int)=1))))else(F.cA false)))else(F.cA false))else(some (decide (a0.2.2=(ByteArray.mk #[]))))
def F.dt (a0:D31):Option Bool:=if a0.1=5 then(if(bif decide ((1:Int)≤(a0.2.2.size:Int))then decide ((a0.2.2.size:Int)≤16)else false)=true then((F.di a0.2.2).bind fun r3=>(F.c8 r3))else(F.c8 false))else(if a0.1=12 then(F.cB a0 (decide (a0.1=12)))else(F.cB a0 (decide (a0.1=22))))
def F.co (k1:Int→Option Int)(y7:Int)(y10:Bool):Option Int:=if y10=true then(some 0)else(A.gd (Z.R64 (y7+1)) (k1 (y7+1)))
def F.bd (a1:D31)(r2:(List Int)):Nat→Int→Option Int
 |0,_=>none
 |f+1,y7=>if y7<(r2.length:Int)then((A.ix r2 y7).bind fun x12=>(if x12=a1.1 then((F.dv a1).bind fun r17=>(if r17=true then((F.dt a1).bind fun r19=>(F.co (F.bd a1 r2 f) y7 r19))else(F.co (F.bd a1 r2 f) y7 false)))else(F.co (F.bd a1 r2 f) y7 false)))else(some 60)
def F.be (a1:D31)(r2:(List Int))(y6:Bool):Option Int:=if y6=true then(some 0)else(F.bd a1 r2 A.FU 0)
def F.c0 (a0:Int)(a1:D31):Option Int:=(F.b3 a0).bind fun r2=>(if(r2.length:Int)=0 then(F.be a1 r2 (decide (a1=(0,0,ByteArray.mk #[]))))else(F.be a1 r2 false))
def F.b7 (a0:D23)(a1:Int):Nat→Int→Option Int
 |0,_=>none
 |f+1,y2=>if y2<(a0.length:Int)then((A.ix a0 y2).bind fun x5=>(if x5.1=a1 then(some y2)else(A.gd (Z.R64 (y2+1)) ((F.b7 a0 a1 f) (y2+1)))))else(some (-1))
def F.b8 (a0:D23)(a1:Int):Option Int:=F.b7 a0 a1 A.FU 0
def F.cR (k40:Int→Option Int)(y34:Int)(y61:Bool):Option Int:=if y61=true then(some 80)else(A.gd (Z.R64 (y34+1)) (k40 (y34+1)))
def F.bK (k39:Int→Option Int)(a0:D23)(y31:Int):Nat→Int→Option Int
 |0,_=>none
 |f+1,y34=>(A.ix a0 y31).bind fun x37=>(if y34<(x37.2.2.1.length:Int)then((A.ix a0 y31).bind fun x44=>((A.ix x44.2.2.1 y34).bind fun x52=>((F.b8 a0 x52).bind fun r58=>(if r58<0 then(F.cR (F.bK k39 a0 y31 f) y34 true)else((A.ix a0 r58).bind fun x63=>(F.cR (F.bK k39 a0 y31 f) y34 (decide (x63.2.1=15))))))))else(A.gd (Z.R64 (y31+1)) (k39 (y31+1))))
def F.aM (a0:D23):Nat→Int→Option Int
 |0,_=>none
 |f+1,y31=>if y31<(a0.length:Int)then(F.bK (F.aM a0 f) a0 y31 A.FU 0)else(some 0)
def F.bf (a0:D23):Nat→Int→Option Int
 |0,_=>none
 |f+1,y8=>if y8<(a0.length:Int)then((A.ix a0 y8).bind fun x11=>((A.ix a0 y8).bind fun x19=>((F.c0 x11.2.1 x19.2.2.2.1).bind fun r27=>(if r27≠0 then(some 60)else(A.gd (Z.R64 (y8+1)) ((F.bf a0 f) (y8+1)))))))else(F.aM a0 A.FU 0)
def F.bL (a0:D23):Nat→Int→Option Int
 |0,_=>none
 |f+1,y2=>if y2<(a0.length:Int)then((F.dx a0 y2).bind fun r5=>(if(!r5)=true then(some 80)else(A.gd (Z.R64 (y2+1)) ((F.bL a0 f) (y2+1)))))else(F.bf a0 A.FU 0)
def F.dj (a0:D23):Option Int:=if(32:Int)<(a0.length:Int)then(some 80)else(F.bL a0 A.FU 0)
def F.cS (k1:Int→Option Bool)(y3:Int)(y6:Bool):Option Bool:=if y6=true then(some false)else(A.gd (Z.R64 (y3+1)) (k1 (y3+1)))
def F.bM (a0:D23)(a1:D33)(a2:(List Bool)):Nat→Int→Option Bool
 |0,_=>none
 |f+1,y3=>if y3<(a1.2.2.1.length:Int)then(if a1.2.1≠14 then((A.ix a1.2.2.1 y3).bind fun x8=>((F.b8 a0 x8).bind fun r14=>((A.ix a2 r14).bind fun x17=>(F.cS (F.bM a0 a1 a2 f) y3 (!x17)))))else(F.cS (F.bM a0 a1 a2 f) y3 false))else(some true)
def F.dk (a0:D23)(a1:D33)(a2:(List Bool)):Option Bool:=F.bM a0 a1 a2 A.FU 0
def F.cT (k5:Int→Int→Option ((List Int)×Bool))(y14:Int)(y17:Int):Option ((List Int)×Bool):=A.gd (Z.R64 (y14+1)) (k5 y17 (y14+1))
def F.cp (k5:Int→Int→Option ((List Int)×Bool))(y12:Int)(y14:Int)(y20:Bool):Option ((List Int)×Bool):=if y20=true then(F.cT k5 y14 y14)else(F.cT k5 y14 y12)
def F.bg (k4:(List Bool)→(List Int)→Option ((List Int)×Bool))(a0:D23)(xs6:List Bool)(xs10:List Int):Nat→Int→Int→Option ((List Int)×Bool)
 |0,_,_=>none
 |f+1,y12,y14=>if(bif decide (y14<(a0.length:Int))then decide (y14<(a0.length:Int))else false)=true then(if y12<0 then((A.ix xs6 y14).bind fun x21=>(if(!x21)=true then((A.ix a0 y14).bind fun x26=>((F.dk a0 x26 xs6).bind fun r34=>(F.cp (F.bg k4 a0 xs6 xs10 f) y12 y14 r34)))else(F.cp (F.bg k4 a0 xs6 xs10 f) y12 y14 false)))else(F.cp (F.bg k4 a0 xs6 xs10 f) y12 y14 false))else(if y12<0 then(some ([],false))else((A.ix xs6 y12).bind fun x36=>(A.gd ((List.length (α:=Int) xs10+List.length (α:=Int) [y12])*8≤140737488355328) (k4 (xs6.set y12.toNat true) (xs10++[y12])))))
def F.b9 (a0:D23):Nat→(List Bool)→(List Int)→Option ((List Int)×Bool)
 |0,_,_=>none
 |f+1,xs6,xs10=>if(xs10.length:Int)<(a0.length:Int)then(F.bg (F.b9 a0 f) a0 xs6 xs10 A.FU (-1) 0)else(some (xs10,true))
def F.cG (a0:D23):Option ((List Int)×Bool):=A.gd (1*a0.length≤140737488355328) (F.b9 a0 A.FU (List.replicate a0.length (false:Bool)) [])
def F.cU (y6:Int):Option Int:=some y6
def F.aN (y4:Int):Option Int:=if(4:Int)<y4 then(F.cU (-1))else(F.cU y4)
def F.cq (y2:Int)(y23:Bool):Option Int:=if y23=true then(if y2≠0 then(F.aN (-1))else(F.aN y2))else(F.aN y2)
def F.cr (a0:D33)(a1:(List Int))(y2:Int)(y10:Bool):Option Int:=if y10=true then((A.ix a1 0).bind fun x11=>((A.ix a1 1).bind fun x17=>(if x11≠x17 then(F.aN (-1))else(F.aN y2))))else(if a0.2.1=11 then(F.cq y2 (decide (a0.2.1=11)))else(if a0.2.1=16 then(F.cq y2 (decide (a0.2.1=16)))else(F.cq y2 (decide (a0.2.1=15)))))
def F.cs (a0:D33)(a1:(List Int))(y2:Int):Option Int:=if a0.2.1=14 then(F.aN a0.2.2.2.2.2.2)else(if a0.2.1=12 then(A.gd (Z.R64 (y2+1)) (F.aN (y2+1)))else(if a0.2.1=13 then(A.gd (Z.R64 (y2-1)) (F.aN (y2-1)))else(if a0.2.1=5 then(F.cr a0 a1 y2 (decide (a0.2.1=5)))else(F.cr a0 a1 y2 (decide (a0.2.1=9))))))
def F.c1 (a0:D33)(a1:(List Int)):Option Int:=if(0:Int)<(a1.length:Int)then((A.ix a1 0).bind fun x24=>(F.cs a0 a1 x24))else(F.cs a0 a1 0)
def F.bz (k5:(List Int)→Int→Option ((List Int)×Bool))(a0:D23)(a1:(List Int))(xs6:List Int)(y8:Int)(x17:D33):Nat→(List Int)→Int→Option ((List Int)×Bool)
 |0,_,_=>none
 |f+1,xs28,y29=>if y29<(x17.2.2.1.length:Int)then((A.ix x17.2.2.1 y29).bind fun x32=>((F.b8 a0 x32).bind fun r38=>((A.ix xs6 r38).bind fun x41=>(A.gd ((List.length (α:=Int) xs28+List.length (α:=Int) [x41])*8≤140737488355328) (A.gd (Z.R64 (y29+1)) ((F.bz k5 a0 a1 xs6 y8 x17 f) (xs28++[x41]) (y29+1)))))))else((A.ix a1 y8).bind fun x51=>((F.c1 x17 xs28).bind fun r57=>((A.ix xs6 x51).bind fun x60=>((A.ix a1 y8).bind fun x65=>((A.ix (xs6.set x51.toNat r57) x65).bind fun x70=>(if x70<0 then(some ([],false))else(A.gd (Z.R64 (y8+1)) (k5 (xs6.set x51.toNat r57) (y8+1)))))))))
def F.cK (k7:Int→Option ((List Int)×Bool))(y76:Int)(y87:Bool):Option ((List Int)×Bool):=if y87=true then(some ([],false))else(A.gd (Z.R64 (y76+1)) (k7 (y76+1)))
def F.bm (a0:D23)(xs6:List Int):Nat→Int→Option ((List Int)×Bool)
 |0,_=>none
 |f+1,y76=>if y76<(a0.length:Int)then((A.ix a0 y76).bind fun x79=>(if x79.2.1=14 then((A.ix x79.2.2.1 0).bind fun x89=>((F.b8 a0 x89).bind fun r95=>((A.ix xs6 r95).bind fun x98=>(F.cK (F.bm a0 xs6 f) y76 (decide (x98≠x79.2.2.2.2.2.2))))))else(F.cK (F.bm a0 xs6 f) y76 false)))else(some (xs6,true))
def F.bV (a0:D23)(a1:(List Int)):Nat→(List Int)→Int→Option ((List Int)×Bool)
 |0,_,_=>none
 |f+1,xs6,y8=>if y8<(a1.length:Int)then((A.ix a1 y8).bind fun x11=>((A.ix a0 x11).bind fun x17=>(F.bz (F.bV a0 a1 f) a0 a1 xs6 y8 x17 A.FU [] 0)))else(F.bm a0 xs6 A.FU 0)
def F.ct (a0:D23)(a1:(List Int)):Option ((List Int)×Bool):=A.gd (8*a0.length≤140737488355328) (F.bV a0 a1 A.FU (List.replicate a0.length (0:Int)) 0)
def F.dc (a0:D23)(a1:Int):Option (D33×Bool):=(F.b8 a0 a1).bind fun r3=>(if r3<0 then(some ((0,0,[],(0,0,ByteArray.mk #[]),ByteArray.mk #[],0,0),false))else((A.ix a0 r3).bind fun x6=>(A.gd ((List.length (α:=Int) []+List.length (α:=Int) x6.2.2.1)*8≤140737488355328) (some ((x6.1,x6.2.1,[]++x6.2.2.1,x6.2.2.2.1,x6.2.2.2.2.1,x6.2.2.2.2.2.1,x6.2.2.2.2.2.2),true)))))
def F.cH (a0:(List D64))(a1:D46):Nat→Int→Option Int
 |0,_=>none
 |f+1,y2=>if y2<(a0.length:Int)then((A.ix a0 y2).bind fun x5=>(if x5.1=a1 then((A.ix a0 y2).bind fun x11=>(some x11.2))else(A.gd (Z.R64 (y2+1)) ((F.cH a0 a1 f) (y2+1)))))else(some (-1))
def F.dB (a0:(List D64))(a1:D46):Option Int:=F.cH a0 a1 A.FU 0
def F.dd (a0:D23)(a1:(List D64))(a2:D50)(a3:Int):Option Bool:=(F.dc a0 a2.1.1).bind fun r3=>((F.dB a1 a2.2.1).bind fun r16=>(if a3≤r16 then(some (bif bif decide (r3.1.2.1≠14)then true else decide (r3.1.2.2.2.2.2.2≠a3)then true else decide (a2.1.2=2)))else(some false)))
def F.cI (a0:(List D46))(a1:D46):Nat→Int→Option Bool
 |0,_=>none
 |f+1,y2=>if y2<(a0.length:Int)then((A.ix a0 y2).bind fun x5=>(if x5=a1 then(some true)else(A.gd (Z.R64 (y2+1)) ((F.cI a0 a1 f) (y2+1)))))else(some false)
def F.dl (a0:(List D46))(a1:D46):Option Bool:=F.cI a0 a1 A.FU 0
def F.cV (k4:(List D46)→(List D46)→Int→Option Bool)(y20:Int)(xs25:List D46)(xs28:List D46):Option Bool:=A.gd (Z.R64 (y20+1)) (k4 xs25 xs28 (y20+1))
def F.cu (k4:(List D46)→(List D46)→Int→Option Bool)(a2:(List D50))(xs16:List D46)(xs19:List D46)(y20:Int)(y30:Bool):Option Bool:=if y30=true then((A.ix a2 y20).bind fun x31=>(A.gd ((List.length (α:=D46) xs16+List.length (α:=D46) [x31.2.1])*16≤140737488355328) ((A.ix a2 y20).bind fun x40=>(A.gd ((List.length (α:=D46) xs19+List.length (α:=D46) [x40.2.1])*16≤140737488355328) (F.cV k4 y20 (xs16++[x31.2.1]) (xs19++[x40.2.1]))))))else(F.cV k4 y20 xs16 xs19)
def F.aY (k3:(List D46)→(List D46)→Int→Option Bool)(a0:D23)(a1:(List D64))(a2:(List D50))(a3:D64)(y11:Int):Nat→(List D46)→(List D46)→Int→Option Bool
 |0,_,_,_=>none
 |f+1,xs16,xs19,y20=>if y20<(a2.length:Int)then((A.ix a2 y20).bind fun x49=>((A.ix xs19 y11).bind fun x55=>(if x49.1=x55 then((A.ix a2 y20).bind fun x60=>((F.dd a0 a1 (x60.1,x60.2.1,(x60.2.2.1,x60.2.2.2.1,x60.2.2.2.2.1,x60.2.2.2.2.2.1,(x60.2.2.2.2.2.2.1,x60.2.2.2.2.2.2.2.1,x60.2.2.2.2.2.2.2.2.1,x60.2.2.2.2.2.2.2.2.2))) a3.2).bind fun r66=>(if r66=true then((A.ix a2 y20).bind fun x68=>((F.dl xs16 x68.2.1).bind fun r74=>(F.cu (F.aY k3 a0 a1 a2 a3 y11 f) a2 xs16 xs19 y20 (!r74))))else(F.cu (F.aY k3 a0 a1 a2 a3 y11 f) a2 xs16 xs19 y20 false))))else(F.cu (F.aY k3 a0 a1 a2 a3 y11 f) a2 xs16 xs19 y20 false))))else(A.gd (Z.R64 (y11+1)) (k3 xs16 xs19 (y11+1)))
def F.cv (a0:D23)(a1:(List D64))(a2:(List D50))(a3:D64):Nat→(List D46)→(List D46)→Int→Option Bool
 |0,_,_,_=>none
 |f+1,xs7,xs10,y11=>if y11<(xs10.length:Int)then(F.aY (F.cv a0 a1 a2 a3 f) a0 a1 a2 a3 y11 A.FU xs7 xs10 0)else((F.dl xs7 a3.1).bind fun r77=>(some r77))
def F.c2 (a0:D23)(a1:(List D64))(a2:(List D50))(a3:D64):Option Bool:=F.cv a0 a1 a2 a3 A.FU [] [a3.1] 0
def F.cW (k8:(List D64)→Int→Option (List D64))(y5:Int)(xs10:List D64):Option (List D64):=A.gd (Z.R64 (y5+1)) (k8 xs10 (y5+1))
def F.bN (k8:(List D64)→Int→Option (List D64))(a0:D23)(a1:(List Int))(y5:Int)(x12:D33):Nat→(List D64)→Int→Option (List D64)
 |0,_,_=>none
 |f+1,xs22,y23=>if y23<(x12.2.2.1.length:Int)then((A.ix x12.2.2.1 y23).bind fun x26=>((F.b8 a0 x26).bind fun r32=>((A.ix a1 r32).bind fun x35=>(A.gd ((List.length (α:=D64) xs22+List.length (α:=D64) [((x12.1,y23),x35)])*24≤140737488355328) (A.gd (Z.R64 (y23+1)) ((F.bN k8 a0 a1 y5 x12 f) (xs22++[((x12.1,y23),x35)]) (y23+1)))))))else(if x12.2.1≠15 then((A.ix a1 y5).bind fun x46=>(A.gd ((List.length (α:=D64) xs22+List.length (α:=D64) [((x12.1,2),x46)])*24≤140737488355328) (F.cW k8 y5 (xs22++[((x12.1,2),x46)]))))else(F.cW k8 y5 xs22))
def F.ca (a0:D23)(a1:(List Int)):Nat→(List D64)→Int→Option (List D64)
 |0,_,_=>none
 |f+1,xs4,y5=>if(bif decide (y5<(a0.length:Int))then decide (y5<(a1.length:Int))else false)=true then((A.ix a0 y5).bind fun x12=>(F.bN (F.ca a0 a1 f) a0 a1 y5 x12 A.FU xs4 0))else(some xs4)
def F.c3 (a0:D23)(a1:(List Int)):Option (List D64):=F.ca a0 a1 A.FU [] 0
def F.bO (k1:Int→Option Int)(y3:Int)(y6:Bool):Option Int:=if y6=true then(some 20)else(A.gd (Z.R64 (y3+1)) (k1 (y3+1)))
def F.bh (a0:D48):Nat→Int→Option Int
 |0,_=>none
 |f+1,y3=>if y3<4 then((A.ix [a0.2.2.2.2.1,a0.2.2.2.2.2.1,a0.2.2.2.2.2.2.1,a0.2.2.2.2.2.2.2] y3).bind fun x8=>(if x8<0 then(F.bO (F.bh a0 f) y3 true)else((A.ix [a0.2.2.2.2.1,a0.2.2.2.2.2.1,a0.2.2.2.2.2.2.1,a0.2.2.2.2.2.2.2] y3).bind fun x10=>(if(1048576:Int)<x10 then(F.bO (F.bh a0 f) y3 true)else(if a0.2.2.2.1≤y3 then((A.ix [a0.2.2.2.2.1,a0.2.2.2.2.2.1,a0.2.2.2.2.2.2.1,a0.2.2.2.2.2.2.2] y3).bind fun x12=>(F.bO (F.bh a0 f) y3 (decide (x12≠0))))else(F.bO (F.bh a0 f) y3 false))))))else(some 0)
def F.c4 (a0:D48):Option Int:=A.gd (((bif bif bif bif bif decide (a0.1<0)then true else decide ((4:Int)<a0.1)then true else decide (a0.2.2.2.1<0)then true else decide ((4:Int)<a0.2.2.2.1)then true else decide (a0.2.1<0)then true else decide (a0.1<a0.2.1))=false→Z.R64 (a0.2.1+a0.2.2.2.1))) (if(bif bif bif bif bif bif bif bif decide (a0.1<0)then true else decide ((4:Int)<a0.1)then true else decide (a0.2.2.2.1<0)then true else decide ((4:Int)<a0.2.2.2.1)then true else decide (a0.2.1<0)then true else decide (a0.1<a0.2.1)then true else decide ((4:Int)<a0.2.1+a0.2.2.2.1)then true else decide (a0.2.2.1<0)then true else decide ((1048576:Int)<a0.2.2.1))=true then(some 20)else(if(bif decide (a0.2.1=0)then decide (a0.2.2.1≠0)else false)=true then(some 20)else(F.bh a0 A.FU 0)))
theorem o_aH (a0:D48)(h0_:A.h6 a0.1)(h1_:A.h6 a0.2.1)(h2_:A.h6 a0.2.2.1)(h3_:A.h6 a0.2.2.2.1)(h4_:A.h6 a0.2.2.2.2.1)(h5_:A.h6 a0.2.2.2.2.2.1)(h6_:A.h6 a0.2.2.2.2.2.2.1)(h7_:A.h6 a0.2.2.2.2.2.2.2)(r:Int)(hF:F.c4 a0=some r):
    A.Ct Tryd.prog 46 [.agg #[A.i a0.1,A.i a0.2.1,A.i a0.2.2.1,A.i a0.2.2.2.1,A.i a0.2.2.2.2.1,A.i a0.2.2.2.2.2.1,A.i a0.2.2.2.2.2.2.1,A.i a0.2.2.2.2.2.2.2]] [] [] (fun v H'=>v=A.i r∧H'=[]∧A.h6 r):=by
 refine A.Ct.enter Tryd.func46 rfl Tryd.ntmps46 rfl fun w0 F0=>?_;rw[F.c4]at hF;refine A.xl 1 ?_;refine A.AL.box 0 (cs:=[A.i a0.1,A.i a0.2.1,A.i a0.2.2.1,A.i a0.2.2.2.1,A.i a0.2.2.2.2.1,A.i a0.2.2.2.2.2.1,A.i a0.2.2.2.2.2.2.1,A.i a0.2.2.2.2.2.2.2]) fun g1=>?_;refine A.n 1 [] (A.dl 3 ?_);have⟨hc2,hF⟩:=A.g hF;refine A.q [0] [] [.n,.b 0 0,.n,.n,.sy .n,.sy (.b 0 0),.sy .n,.pk,.n,.sy .n,.sy (.b 0 3),.sy .n,.pk,.n,.sy .n,.sy (.b 0 3),.sy .n,.pk,.n,.sy .n,.sy (.b 0 1),.sy .n,.pk,.n,.sy .n,.sy (.b 0 1),.sy .n,.sy (.b 0 0),.sy .n,.pk,.n,.sy .n,.sy (.b 0 1),.sy .n,.sy (.b 0 3),.sy .n,.sy .n,.pk,.n,.sy .n,.sy (.b 0 2),.sy .n,.pk,.n,.sy .n,.sy (.b 0 2),.sy .n,.pk,.n] [(bif bif bif bif bif decide (a0.1<0)then true else decide ((4:Int)<a0.1)then true else decide (a0.2.2.2.1<0)then true else decide ((4:Int)<a0.2.2.2.1)then true else decide (a0.2.1<0)then true else decide (a0.1<a0.2.1))=false→Z.R64 (a0.2.1+a0.2.2.2.1)] [(52,.bool (bif bif bif bif bif bif bif bif decide (a0.1<0)then true else decide ((4:Int)<a0.1)then true else decide (a0.2.2.2.1<0)then true else decide ((4:Int)<a0.2.2.2.1)then true else decide (a0.2.1<0)then true else decide (a0.1<a0.2.1)then true else decide ((4:Int)<a0.2.1+a0.2.2.2.1)then true else decide (a0.2.2.1<0)then true else decide ((1048576:Int)<a0.2.2.1)))] hc2 ?_;refine A.AL.cnd (j:=52) rfl hF (fun hF=>?_) (fun hF=>?_)
 ·refine A.q0 [] [] [.off,.off,.off,.off,.off,.off,.off,.off,.n] [(61,.bool true)] (A.dx 1 ?_);refine A.AX.cnt rfl ?_;refine A.xl 1 ?_;refine A.n 1 [(2,A.i 20)] (A.dx 1 ?_);obtain rfl:=A.si hF;exact A.rt1 [] ⟨rfl,rfl,(A.hasl .i64 (20) rfl)⟩
 refine A.q0 [0] [] [.on .n,.on (.b 0 1),.on .n,.on .n,.sy .n,.sy (.b 0 2),.sy .n,.on .pk,.n] [(61,.bool (bif decide (a0.2.1=0)then decide (a0.2.2.1≠0)else false))] (A.dx 1 ?_);refine A.d hF ?_ ?_<;>intro hb hF
 ·refine A.xl 1 ?_;refine A.n 1 [(2,A.i 20)] (A.dx 1 ?_);obtain rfl:=A.si hF;exact A.rt1 [] ⟨rfl,rfl,(A.hasl .i64 (20) rfl)⟩
 refine A.xl 4 ?_;refine A.n 1 [(3,A.i 0)] (A.dx 2 ?_);refine A.lp_ [1] [0] (fun f nl nh=>∃(y3:Int),nl=[(3,A.i y3)]∧nh=[]∧A.h6 y3∧F.bh a0 f y3=some r) ⟨0,rfl,rfl,A.z0,hF⟩ ?_;rintro f5 _ _ ⟨y3,rfl,rfl,hy4,hF⟩;rcases f5 with _|f5
 ·exact A.no0 hF
 rw[F.bh]at hF;refine A.xl 2 ?_;refine A.n 2 [(63,.bool (decide (y3<4)))] (A.dx 1 ?_);refine A.c hF ?_ ?_<;>intro hb hF
 ·refine A.xx 4 ?_;refine A.AX.join [1,3] [0] (fun nl nh=>∃(y6:Bool),nl=[(90,.bool y6)]∧nh=[]∧F.bO (F.bh a0 f5) y3 y6=some r) ?_ ?_
  ·refine A.xl 0 ?_;refine A.n 2 [(66,A.i y3),(67,.pointer (some ⟨g1,4,none⟩))] ?_;have⟨x8,hv9,hF⟩:=A.b hF;refine A.AL.ixb 0 4 (fun v:Int=>A.i v) [a0.2.2.2.2.1,a0.2.2.2.2.2.1,a0.2.2.2.2.2.2.1,a0.2.2.2.2.2.2.2] hv9 ?_;refine A.q0 [] [4] [.e 0 0,.n,.n] [(71,.bool (decide (x8<0)))] ?_;refine A.AL.cnp (j:=71) rfl hF ?_ ?_<;>intro hb hF
   ·refine A.q0 [] [] [.off,.off,.off,.off,.off,.n,.n,.off,.off,.off,.off,.off,.off,.off,.off,.off,.off,.off,.n] [(90,.bool true)] (A.AL.done ?_);exact A.j ⟨true,rfl,rfl,hF⟩
   refine A.q0 [] [] [.on .n,.on .n] [(72,A.i y3),(73,.pointer (some ⟨g1,4,none⟩))] ?_;refine A.AL.on (dj:=71) rfl rfl ?_;have⟨x10,hv11,hF⟩:=A.b hF;refine A.AL.ixb 0 5 (fun v:Int=>A.i v) [a0.2.2.2.2.1,a0.2.2.2.2.2.1,a0.2.2.2.2.2.2.1,a0.2.2.2.2.2.2.2] hv11 ?_;refine A.q0 [] [5] [.on (.e 0 0),.on .n,.n,.n] [(78,.bool (decide ((1048576:Int)<x10)))] ?_;refine A.AL.cnp (j:=78) rfl hF ?_ ?_<;>intro hb hF
   ·refine A.q0 [] [] [.off,.off,.off,.off,.off,.off,.off,.off,.off,.off,.off,.n] [(90,.bool true)] (A.AL.done ?_);exact A.j ⟨true,rfl,rfl,hF⟩
   refine A.q0 [0] [] [.on .n,.on .n,.on (.b 0 3),.on .n,.on .n] [(83,.bool (decide (a0.2.2.2.1≤y3)))] ?_;refine A.AL.cnp (j:=83) rfl hF ?_ ?_<;>intro hb hF
   ·refine A.q0 [] [] [.on .n,.on .n] [(84,A.i y3),(85,.pointer (some ⟨g1,4,none⟩))] ?_;refine A.AL.on (dj:=83) rfl rfl ?_;have⟨x12,hv13,hF⟩:=A.b hF;refine A.AL.ixb 0 6 (fun v:Int=>A.i v) [a0.2.2.2.2.1,a0.2.2.2.2.2.1,a0.2.2.2.2.2.2.1,a0.2.2.2.2.2.2.2] hv13 ?_;refine A.q0 [] [6] [.on (.e 0 0),.on .n,.on .n,.n] [(90,.bool (decide (x12≠0)))] (A.AL.done ?_);exact A.j ⟨(decide (x12≠0)),rfl,rfl,hF⟩
   refine A.q0 [] [] [.off,.off,.off,.off,.off,.on .n,.n] [(90,.bool false)] (A.AL.done ?_);exact A.j ⟨false,rfl,rfl,hF⟩
  rintro _ _ ⟨y6,rfl,rfl,hF⟩;rw[F.bO]at hF;refine A.d hF ?_ ?_<;>intro hb hF
  ·refine A.xl 1 ?_;refine A.n 1 [(2,A.i 20)] (A.dx 1 ?_);obtain rfl:=A.si hF;exact A.rt1 [] ⟨rfl,rfl,(A.hasl .i64 (20) rfl)⟩
  refine A.xl 3 ?_;have⟨hc7,hF⟩:=A.g hF;refine A.m 3 [Z.R64 (y3+1)] [(3,A.i (y3+1))] hc7 (A.AL.done ?_);exact A.j ⟨_,Nat.lt_succ_self _,⟨(y3+1),rfl,rfl,(Z.i64_has hc7),hF⟩⟩
 refine A.xl 3 ?_;refine A.n 1 [(2,A.i 0)] (A.dx 1 ?_);obtain rfl:=A.si hF;exact A.rt1 [] ⟨rfl,rfl,A.z0⟩
def F.de (a0:Int)(a1:Int)(a2:Int)(a3:Int):Option (D48×Int):=(F.c4 (a0,a1,a2,a3,(0,0,0,0))).bind fun r3=>(if r3≠0 then(some ((0,0,0,0,(0,0,0,0)),11))else(some ((a0,a1,a2,a3,(0,0,0,0)),0)))
def F.dm (a0:Int):Option (D48×Int):=(F.de a0 a0 0 1).bind fun r2=>(some ((r2.1.1,r2.1.2.1,r2.1.2.2.1,r2.1.2.2.2.1,(r2.1.2.2.2.2.1,r2.1.2.2.2.2.2.1,r2.1.2.2.2.2.2.2.1,r2.1.2.2.2.2.2.2.2)),r2.2))
def F.dn (a0:Int):Option (D48×Int):=if a0<1 then(some ((0,0,0,0,(0,0,0,0)),11))else(A.gd (Z.R64 (a0-1)) ((F.de a0 (a0-1) 0 0).bind fun r3=>(some ((r3.1.1,r3.1.2.1,r3.1.2.2.1,r3.1.2.2.2.1,(r3.1.2.2.2.2.1,r3.1.2.2.2.2.2.1,r3.1.2.2.2.2.2.2.1,r3.1.2.2.2.2.2.2.2)),r3.2))))
def F.du (a0:Int):Option (D48×Int):=(F.de a0 a0 1 0).bind fun r2=>(some ((r2.1.1,r2.1.2.1,r2.1.2.2.1,r2.1.2.2.2.1,(r2.1.2.2.2.2.1,r2.1.2.2.2.2.2.1,r2.1.2.2.2.2.2.2.1,r2.1.2.2.2.2.2.2.2)),r2.2))
def F.dw (a0:Int):Option (D48×Int):=(F.de a0 a0 0 0).bind fun r2=>(some ((r2.1.1,r2.1.2.1,r2.1.2.2.1,r2.1.2.2.2.1,(r2.1.2.2.2.2.1,r2.1.2.2.2.2.2.1,r2.1.2.2.2.2.2.2.1,r2.1.2.2.2.2.2.2.2)),r2.2))
def F.bW (y15:Int)(y17:Int)(y19:Int)(y21:Int)(y23:Int)(y25:Int)(y27:Int)(y29:Int):Option D48:=some (y15,y17,y19,y21,(y23,y25,y27,y29))
def F.cN (a0:D33)(a1:Int):Option D48:=(F.dw a1).bind fun r3=>(if a0.2.1=12 then((F.dm a1).bind fun r31=>(F.bW r31.1.1 r31.1.2.1 r31.1.2.2.1 r31.1.2.2.2.1 r31.1.2.2.2.2.1 r31.1.2.2.2.2.2.1 r31.1.2.2.2.2.2.2.1 r31.1.2.2.2.2.2.2.2))else(if a0.2.1=13 then((F.dn a1).bind fun r42=>(F.bW r42.1.1 r42.1.2.1 r42.1.2.2.1 r42.1.2.2.2.1 r42.1.2.2.2.2.1 r42.1.2.2.2.2.2.1 r42.1.2.2.2.2.2.2.1 r42.1.2.2.2.2.2.2.2))else(if a0.2.1=14 then((F.du a1).bind fun r53=>(F.bW r53.1.1 r53.1.2.1 r53.1.2.2.1 r53.1.2.2.2.1 r53.1.2.2.2.2.1 r53.1.2.2.2.2.2.1 r53.1.2.2.2.2.2.2.1 r53.1.2.2.2.2.2.2.2))else(F.bW r3.1.1 r3.1.2.1 r3.1.2.2.1 r3.1.2.2.2.1 r3.1.2.2.2.2.1 r3.1.2.2.2.2.2.1 r3.1.2.2.2.2.2.2.1 r3.1.2.2.2.2.2.2.2))))
def F.cw (k30:(List D50)→Int→Option (List D50))(y5:Int)(xs10:List D50):Option (List D50):=A.gd (Z.R64 (y5+1)) (k30 xs10 (y5+1))
def F.cX (k30:(List D50)→Int→Option (List D50))(y5:Int)(xs33:List D50):Option (List D50):=F.cw k30 y5 xs33
def F.cY (k38:(List D50)→Int→Option (List D50))(y80:Int)(xs92:List D50):Option (List D50):=A.gd (Z.R64 (y80+1)) (k38 xs92 (y80+1))
def F.bv (k37:(List D50)→Int→Option (List D50))(a0:D23)(x12:D64)(r18:D33×Bool)(r59:D48×Int)(y74:Int):Nat→(List D50)→Int→Option (List D50)
 |0,_,_=>none
 |f+1,xs79,y80=>(A.ix a0 y74).bind fun x83=>(if y80<(x83.2.2.1.length:Int)then((A.ix a0 y74).bind fun x94=>((A.ix x94.2.2.1 y80).bind fun x102=>(if x102=r18.1.1 then((A.ix a0 y74).bind fun x108=>(A.gd ((List.length (α:=D50) xs79+List.length (α:=D50) [(x12.1,(x108.1,y80),(r59.1.1,r59.1.2.1,r59.1.2.2.1,r59.1.2.2.2.1,(r59.1.2.2.2.2.1,r59.1.2.2.2.2.2.1,r59.1.2.2.2.2.2.2.1,r59.1.2.2.2.2.2.2.2)))])*96≤140737488355328) (F.cY (F.bv k37 a0 x12 r18 r59 y74 f) y80 (xs79++[(x12.1,(x108.1,y80),(r59.1.1,r59.1.2.1,r59.1.2.2.1,r59.1.2.2.2.1,(r59.1.2.2.2.2.1,r59.1.2.2.2.2.2.1,r59.1.2.2.2.2.2.2.1,r59.1.2.2.2.2.2.2.2)))]))))else(F.cY (F.bv k37 a0 x12 r18 r59 y74 f) y80 xs79))))else(A.gd (Z.R64 (y74+1)) (k37 xs79 (y74+1))))
def F.bP (k30:(List D50)→Int→Option (List D50))(a0:D23)(y5:Int)(x12:D64)(r18:D33×Bool)(r59:D48×Int):Nat→(List D50)→Int→Option (List D50)
 |0,_,_=>none
 |f+1,xs73,y74=>if y74<(a0.length:Int)then(F.bv (F.bP k30 a0 y5 x12 r18 r59 f) a0 x12 r18 r59 y74 A.FU xs73 0)else(F.cw k30 y5 xs73)
def F.bw (a0:D23)(a1:(List D64)):Nat→(List D50)→Int→Option (List D50)
 |0,_,_=>none
 |f+1,xs4,y5=>if y5<(a1.length:Int)then((A.ix a1 y5).bind fun x12=>((F.dc a0 x12.1.1).bind fun r18=>(if x12.1.2≠2 then(if r18.1.2.1≠15 then((A.ix a1 y5).bind fun x34=>((F.cN r18.1 x34.2).bind fun r40=>(A.gd ((List.length (α:=D50) xs4+List.length (α:=D50) [(x12.1,(r18.1.1,2),(r40.1,r40.2.1,r40.2.2.1,r40.2.2.2.1,(r40.2.2.2.2.1,r40.2.2.2.2.2.1,r40.2.2.2.2.2.2.1,r40.2.2.2.2.2.2.2)))])*96≤140737488355328) (F.cX (F.bw a0 a1 f) y5 (xs4++[(x12.1,(r18.1.1,2),(r40.1,r40.2.1,r40.2.2.1,r40.2.2.2.1,(r40.2.2.2.2.1,r40.2.2.2.2.2.1,r40.2.2.2.2.2.2.1,r40.2.2.2.2.2.2.2)))])))))else(F.cX (F.bw a0 a1 f) y5 xs4))else((A.ix a1 y5).bind fun x54=>((F.dw x54.2).bind fun r59=>(F.bP (F.bw a0 a1 f) a0 y5 x12 r18 r59 A.FU xs4 0))))))else(some xs4)
def F.cJ (a0:D23)(a1:(List D64)):Option (List D50):=F.bw a0 a1 A.FU [] 0
def F.bQ (a0:D23)(r5:(List Int)×Bool)(r9:(List Int)×Bool)(r13:(List D64))(r17:(List D50)):Nat→Int→Option ((List Int)×(List Int)×Int)
 |0,_=>none
 |f+1,y21=>if y21<(r13.length:Int)then((A.ix r13 y21).bind fun x24=>((F.c2 a0 r13 r17 (x24.1,x24.2)).bind fun r29=>(if r29=true then(some ([],[],81))else(A.gd (Z.R64 (y21+1)) ((F.bQ a0 r5 r9 r13 r17 f) (y21+1))))))else(some (r5.1,r9.1,0))
def F.c5 (a0:D23):Option ((List Int)×(List Int)×Int):=(F.dj a0).bind fun r2=>(if r2≠0 then(some ([],[],r2))else((F.cG a0).bind fun r5=>(if(!r5.2)=true then(some ([],[],81))else((F.ct a0 r5.1).bind fun r9=>(if(!r9.2)=true then(some ([],[],80))else((F.c3 a0 r9.1).bind fun r13=>((F.cJ a0 r13).bind fun r17=>(F.bQ a0 r5 r9 r13 r17 A.FU 0))))))))
def F.dp (a0:D23):Option ((List D64)×Int):=(F.c5 a0).bind fun r2=>(if r2.2.2≠0 then(some ([],r2.2.2))else((F.c3 a0 r2.2.1).bind fun r9=>(some (r9,0))))
def F.dA (a0:D23):Option ((List D50)×Int):=(F.dp a0).bind fun r2=>(if r2.2≠0 then(some ([],r2.2))else((F.cJ a0 r2.1).bind fun r7=>(some (r7,0))))
def F.aI (a0:D48):Option Int:=(F.c4 (a0.1,a0.2.1,a0.2.2.1,a0.2.2.2.1,(a0.2.2.2.2.1,a0.2.2.2.2.2.1,a0.2.2.2.2.2.2.1,a0.2.2.2.2.2.2.2))).bind fun r2=>(if r2≠0 then(some 0)else(A.gd (Z.R64 (a0.2.1+a0.2.2.2.1)) (some (a0.2.1+a0.2.2.2.1))))
theorem o_aJ (a0:D48)(h0_:A.h6 a0.1)(h1_:A.h6 a0.2.1)(h2_:A.h6 a0.2.2.1)(h3_:A.h6 a0.2.2.2.1)(h4_:A.h6 a0.2.2.2.2.1)(h5_:A.h6 a0.2.2.2.2.2.1)(h6_:A.h6 a0.2.2.2.2.2.2.1)(h7_:A.h6 a0.2.2.2.2.2.2.2)(r:Int)(hF:F.aI a0=some r):
    A.Ct Tryd.prog 32 [.agg #[A.i a0.1,A.i a0.2.1,A.i a0.2.2.1,A.i a0.2.2.2.1,A.i a0.2.2.2.2.1,A.i a0.2.2.2.2.2.1,A.i a0.2.2.2.2.2.2.1,A.i a0.2.2.2.2.2.2.2]] [] [] (fun v H'=>v=A.i r∧H'=[]∧A.h6 r):=by
 refine A.Ct.enter Tryd.func32 rfl Tryd.ntmps32 rfl fun w0 F0=>?_;rw[F.aI]at hF;refine A.xl 1 ?_;refine A.AL.box 0 (cs:=[A.i a0.1,A.i a0.2.1,A.i a0.2.2.1,A.i a0.2.2.2.1,A.i a0.2.2.2.2.1,A.i a0.2.2.2.2.2.1,A.i a0.2.2.2.2.2.2.1,A.i a0.2.2.2.2.2.2.2]) fun g1=>?_;refine A.n 1 [] (A.dl 3 ?_);refine A.q0 [0] [] [.b 0 0] [(3,.agg #[A.i a0.1,A.i a0.2.1,A.i a0.2.2.1,A.i a0.2.2.2.1,A.i a0.2.2.2.2.1,A.i a0.2.2.2.2.2.1,A.i a0.2.2.2.2.2.2.1,A.i a0.2.2.2.2.2.2.2])] ?_;refine A.v 1 [] hF (o_aH (a0.1,a0.2.1,a0.2.2.1,a0.2.2.2.1,(a0.2.2.2.2.1,a0.2.2.2.2.2.1,a0.2.2.2.2.2.2.1,a0.2.2.2.2.2.2.2)) h0_ h1_ h2_ h3_ h4_ h5_ h6_ h7_) .nil ?_;rintro r2 - hF _ _ ⟨rfl,rfl,hr4⟩;refine A.ck ?_;refine A.n 1 [(5,.bool (decide (r2≠0)))] (A.dx 1 ?_);refine A.c hF ?_ ?_<;>intro hb hF
 ·refine A.xl 1 ?_;refine A.n 1 [(2,A.i 0)] (A.dx 1 ?_);obtain rfl:=A.si hF;exact A.rt1 [] ⟨rfl,rfl,A.z0⟩
 refine A.xl 3 ?_;have⟨hc5,hF⟩:=A.g hF;refine A.q [0] [] [.n,.b 0 1,.n,.b 0 3,.n,.n] [Z.R64 (a0.2.1+a0.2.2.2.1)] [(2,A.i (a0.2.1+a0.2.2.2.1))] hc5 (A.dx 1 ?_);obtain rfl:=A.si hF;exact A.rt1 [] ⟨rfl,rfl,(Z.i64_has hc5)⟩
def F.am (a0:(List Int))(a1:Int):Nat→Int→Option Int
 |0,_=>none
 |f+1,y1=>if y1<(a0.length:Int)then((A.ix a0 y1).bind fun x4=>(if a1=x4 then(some y1)else(A.gd (Z.R64 (y1+1)) ((F.am a0 a1 f) (y1+1)))))else(some (-1))
def F.au (a0:(List Int))(a1:Int):Option Int:=F.am a0 a1 A.FU 0
theorem o_n(a0:(List Int))(a1:Int)(h2_:A.h6 a1)(r:Int)(hF:F.au a0 a1=some r):
    A.Ct Tryd.prog 30 [.slice A0_ a0.length c1_,A.i a1] [(0,.ln A.ti A0_ c1_ a0)] [] (fun v H'=>v=A.i r∧H'=[]∧A.h6 r):=by
 refine A.Ct.enter Tryd.func30 rfl Tryd.ntmps30 rfl fun w0 F0=>?_;rw[F.au]at hF;refine A.xl 1 ?_;refine A.n 1 [] (A.dl 3 ?_);refine A.n 3 [(7,A.i (a0.length:Int)),(8,A.i 0)] (A.dx 2 ?_);refine A.lp_ [0,1,7] [0] (fun f nl nh=>∃(y1:Int),nl=[(8,A.i y1)]∧nh=[]∧A.h6 y1∧F.am a0 a1 f y1=some r) ⟨0,rfl,rfl,A.z0,hF⟩ ?_;rintro f3 _ _ ⟨y1,rfl,rfl,hy2,hF⟩;rcases f3 with _|f3
 ·exact A.no0 hF
 rw[F.am]at hF;refine A.xl 1 ?_;refine A.n 1 [(9,.bool (decide (y1<(a0.length:Int))))] (A.dx 2 ?_);refine A.c hF ?_ ?_<;>intro hb hF
 ·refine A.xl 5 ?_;refine A.n 2 [(5,A.i y1)] (A.dl 2 ?_);refine A.n 3 [(11,A.i a1),(12,.slice A0_ a0.length c1_),(13,A.i y1)] ?_;have⟨x4,hv5,hF⟩:=A.b hF;refine A.AL.ixl 0 3 hv5 fun ho6=>?_;intro b7 o8;refine A.q0 [] [3] [.e 0 0,.n] [(16,.bool (decide (a1=x4)))] (A.dx 1 ?_);refine A.c hF ?_ ?_<;>intro hb hF
  ·refine A.xl 1 ?_;refine A.n 2 [(4,A.i y1)] (A.dx 1 ?_);obtain rfl:=A.si hF;exact A.rt1 [] ⟨rfl,rfl,hy2⟩
  refine A.xl 3 ?_;have⟨hc9,hF⟩:=A.g hF;refine A.m 2 [Z.R64 (y1+1)] [(8,A.i (y1+1))] hc9 (A.AL.done ?_);exact A.j ⟨_,Nat.lt_succ_self _,⟨(y1+1),rfl,rfl,(Z.i64_has hc9),hF⟩⟩
 refine A.xl 3 ?_;refine A.n 1 [(4,A.i (-1))] (A.dx 1 ?_);obtain rfl:=A.si hF;exact A.rt1 [] ⟨rfl,rfl,(A.hasl .i64 (-1) rfl)⟩
def F.aG (a0:(List Int))(a1:Int):Option Bool:=(F.au a0 a1).bind fun r1=>(some (decide ((0:Int)≤r1)))
theorem o_u(a0:(List Int))(a1:Int)(h2_:A.h6 a1)(r:Bool)(hF:F.aG a0 a1=some r):
    A.Ct Tryd.prog 31 [.slice A0_ a0.length c1_,A.i a1] [(0,.ln A.ti A0_ c1_ a0)] [] (fun v H'=>v=.bool r∧H'=[]):=by
 refine A.Ct.enter Tryd.func31 rfl Tryd.ntmps31 rfl fun w0 F0=>?_;rw[F.aG]at hF;refine A.xl 1 ?_;refine A.n 1 [] (A.dl 2 ?_);refine A.n 2 [(5,.slice A0_ a0.length c1_),(6,A.i a1)] ?_;refine A.v 1 [] hF (o_n A0_ c1_ a0 a1 h2_) (.s 0 .nil) ?_;rintro r1 - hF _ _ ⟨rfl,rfl,hr3⟩;refine A.ck ?_;refine A.n 2 [(4,.bool (decide ((0:Int)≤r1)))] (A.dx 1 ?_);obtain rfl:=A.si hF;exact A.rt1 [] ⟨rfl,rfl⟩
end Go.Proofs.YtbdlcighhphaoaaDoor
end
section
set_option linter.unusedVariables false
set_option linter.unusedSimpArgs false
set_option linter.unusedSectionVars false
namespace Go.A
open Go.RowKit Go.Z
def Ent {κ:Type}[DecidableEq κ](enc:κ→Value)(m:List (κ×Int))(k:κ)(n:Nat)(o:Obj):Prop:=
 ∃(arr:List MapEntry) (clock i:Nat) (e1:MapEntry) (m':List (κ×Int)),o=.map arr.toArray clock∧(∀e,e∈arr→e.born<clock)∧(arr.map (·.born)).Nodup∧arr[i]?=some e1∧e1.born=n∧
  arr.map (fun e=>(e.key,e.val))=m'.map (fun p=>(enc p.1,Value.int .i64 p.2))∧(∀p,p∈m'→IntKind.i64.has p.2)∧mget 0 m' k=mget 0 m k∧∀u,m'.modify i (fun p=>(p.1,u))=mins m k u
section
variable {r:Option Nat}{P:Program}{Q:Exit→Act→World→Prop}{C:Cx}{l:List (Nat×Value)}{H:List (Nat×Res)}{ops:Array Oper}{rest:List Oper}
variable {κ:Type}[DecidableEq κ]{enc:κ→Value}{kt et tt:TypeId}{b d n:Nat}{m:List (κ×Int)}{T:TypeId}{pos:String}{af:Array Edge}
theorem Mt.ints {w:World}{F:Nat→Prop}{m:List (κ×Int)}(hm:Mt enc (.int .i64) false w F b m): ∃(arr:List MapEntry) (clock:Nat),w.heap[b]?=some (.map arr.toArray clock)∧(∀e,e∈arr→e.born<clock)∧(arr.map (·.born)).Nodup∧arr.map (fun e=>(e.key,e.val))=m.map (fun p=>(enc p.1,Value.int .i64 p.2))∧∀p,p∈m→IntKind.i64.has p.2:=by
 obtain⟨es,⟨arr,clock,hb,h1,h4,h5⟩,hl,h3⟩:=hm
 have key: ∀(i:Nat) (p:κ×Int),m[i]?=some p→es[i]?=some (enc p.1,.int .i64 p.2)∧IntKind.i64.has p.2:=fun i p hp=>by
  obtain⟨cs,h6,h7⟩:=h3 i p hp
  obtain⟨rfl,h8⟩:=h7
  exact⟨h6,h8⟩
 refine⟨arr,clock,hb,h4,h5,?_,fun p hp=>?_⟩
 ·rw[h1]
  refine List.ext_getElem? fun i=>?_
  rw[List.getElem?_map]
  cases hmi:m[i]? with
  |none=>
   rw[List.getElem?_eq_none_iff]at hmi
   exact List.getElem?_eq_none (by omega)
  |some p=>exact(key i p hmi).1
 ·obtain⟨i,hi,rfl⟩:=List.getElem_of_mem hp
  exact(key i _ (List.getElem?_eq_getElem hi)).2
theorem Mt.ofInts {w:World}{F:Nat→Prop}{m:List (κ×Int)}{arr:List MapEntry}{clock:Nat}(hb:w.heap[b]?=some (.map arr.toArray clock))(h4: ∀e,e∈arr→e.born<clock)(h5:(arr.map (·.born)).Nodup)(h1:arr.map (fun e=>(e.key,e.val))=m.map (fun p=>(enc p.1,Value.int .i64 p.2)))(h2: ∀p,p∈m→IntKind.i64.has p.2):Mt enc (.int .i64) false w F b m:=
 ⟨_,⟨arr,clock,hb,h1,h4,h5⟩,by rw[List.length_map],fun i p hp=>⟨[.int .i64 p.2],by rw[List.getElem?_map,hp];rfl,⟨rfl,h2 p (List.mem_of_getElem? hp)⟩⟩⟩
theorem AL.men (k:Nat)(js:List Nat){x y:Operand}(K:Ky P kt enc)(key:κ)(hz: ∀w,(zeroValue et).run P w=.ok (.int .i64 0) w)
  (h: ∀n:Nat,AL r P ops Q rest C ((d,.tuple #[.int .i64 (mget 0 m key),.int .i64 (n:Int)])::l) ((k,.ob b (Ent enc m key n))::ded js H))
  (hk1:hk H k=some (.mp κ enc (.int .i64) false b m):=by rfl) (hx:ev l x=some (.map (some b)):=by rfl) (hy:ev l y=some (enc key):=by rfl) (ht:P.underlying tt=some (.map kt et):=by rfl) (hd:Nat.ble (d+1) C.n=true:=by rfl) (hj:hng [k] js H=true:=by kernel_rfl):
  AL r P ops Q (⟨some d,.mapEntry tt x y,T,pos,af,none⟩::rest) C l H:=fun a w hf hh=>by
 obtain⟨arr,clock,hb,h4,h5,h1,h2⟩:=Mt.ints (hh.hold k _ hk1)
 have hlt:=(Array.getElem?_eq_some_iff.1 hb).1
 have hkeys:arr.map (·.key)=(m.map Prod.fst).map enc:=by
  have:=congrArg (List.map Prod.fst) h1
  simpa[List.map_map,Function.comp_def] using this
 have hlen:arr.length=m.length:=by have:=congrArg List.length h1;simpa using this
 obtain⟨arr1,clock1,i,e1,hrun,hi,hek,hlt1,hnd1,hcase⟩:=run_mapEntry (tt:=tt) (et:=et) K ht hz hb hkeys h4 h5 key
 have hent:e1.val=.int .i64 (mget 0 m key)∧Ent enc m key e1.born (.map arr1.toArray clock1):=by
  rcases hcase with⟨hl,rfl⟩|⟨hl,rfl,rfl,hv⟩
  ·have hmi:=loc_get hl (0:Int)
   have hv:(e1.key,e1.val)=(enc key,Value.int .i64 (mget 0 m key)):=by
    have:=congrArg (fun l=>l[i]?) h1
    simp only[List.getElem?_map,hi,hmi,Option.map_some]at this
    exact Option.some.inj this
   refine⟨(Prod.mk.inj hv).2,arr1,clock1,i,e1,m,rfl,hlt1,hnd1,hi,rfl,h1,h2,rfl,fun u=>?_⟩
   rw[loc_ins,hl]
  ·have hg:mget 0 m key=0:=by
    have: ∀m:List (κ×Int),loc key (m.map Prod.fst)=none→mget 0 m key=0:=by
     intro m
     induction m with
     |nil=>intro _;rfl
     |cons p r ih=>
      intro h
      simp only[List.map_cons,loc]at h
      unfold mget
      by_cases hk:key=p.1
      ·rw[if_pos hk]at h;cases h
      ·rw[if_neg hk]at h ⊢;exact ih (by simpa using h)
    exact this m hl
   refine⟨by rw[hv,hg],arr++[e1],clock1,arr.length,e1,m++[(key,0)],rfl,hlt1,hnd1,hi,rfl,?_,fun p hp=>?_,?_,fun u=>?_⟩
   ·rw[List.map_append,List.map_append,h1]
    simp only[List.map_cons,List.map_nil,hek,hv]
   ·rcases List.mem_append.1 hp with hp|hp
    ·exact h2 p hp
    ·rw[List.mem_singleton]at hp;subst hp;exact(by decide:IntKind.i64.has 0)
   ·have: ∀m:List (κ×Int),loc key (m.map Prod.fst)=none→mget 0 (m++[(key,0)]) key=mget 0 m key:=by
     intro m
     induction m with
     |nil=>intro _;simp[mget]
     |cons p r ih=>
      intro h
      simp only[List.map_cons,loc]at h
      simp only[List.cons_append,mget]
      by_cases hk:key=p.1
      ·rw[if_pos hk]at h;cases h
      ·rw[if_neg hk]at h;rw[if_neg hk,if_neg hk];exact ih (by simpa using h)
    exact this m hl
   ·rw[loc_ins,hl,hlen]
    show(m++[(key,(0:Int))]).modify m.length (fun p=>(p.1,u))=m++[(key,u)]
    refine List.ext_getElem? fun j=>?_
    rw[List.getElem?_modify]
    by_cases hj:m.length=j
    ·subst hj;simp
    ·by_cases hj2:j<m.length
     ·rw[List.getElem?_append_left hj2,List.getElem?_append_left hj2];simp[hj]
     ·rw[List.getElem?_eq_none (by simp;omega),List.getElem?_eq_none (by simp;omega)];rfl
 refine Z.valw (w':=w.putObj b (.map arr1.toArray clock1)) (v:=.tuple #[e1.val,goInt e1.born]) hf hd ?_ fun a1 hf1=>?_
 ·simp only[execOp,Sem.run_bind,hf.eval hx,hf.eval hy,hrun,Result.andThen_ok,Sem.run_pure]
 rw[hent.1]at hf1
 refine h e1.born a1 _ hf1 (Hp.dd (hh.upd (Ch.putObj w b _) (fun b' hb'=>⟨_,hk1,by simpa[Res.bl] using hb'⟩) (fun b' hb'=>.inl ⟨_,hk1,hb'⟩) (fun j hj=>by cases hj) fun F B hF _ _ _ _=>⟨_,World.putObj_heap_same hlt,hent.2⟩) hj)
theorem AL.lke (k:Nat){x y:Operand}{v:Int}(K:Ky P kt enc)(key:κ)(hz: ∀w,(zeroValue et).run P w=.ok (.int .i64 0) w)(hv:mget 0 m key=v)
  (h:IntKind.i64.has v→AL r P ops Q rest C ((d,.int .i64 v)::l) H)
  (hk1:hk H k=some (.ob b (Ent enc m key n)):=by rfl) (hx:ev l x=some (.map (some b)):=by rfl) (hy:ev l y=some (enc key):=by rfl) (ht:P.underlying tt=some (.map kt et):=by rfl) (hd:Nat.ble (d+1) C.n=true:=by rfl):
  AL r P ops Q (⟨some d,.lookup tt x y false,T,pos,af,none⟩::rest) C l H:=fun a w hf hh=>by
 subst hv
 obtain⟨o,hb,arr,clock,i,e1,m',rfl,h4,h5,hi,_,h1,h2,hg,_⟩:=hh.hold k _ hk1
 have hm:Mt enc (.int .i64) false w (fun _=>False) b m':=Mt.ofInts hb h4 h5 h1 h2
 exact Z.st_lookup (t:=.int .i64) (agg:=false) (zs:=[.int .i64 0]) hf hd K ht (show ∀w,(zeroValue et).run P w=.ok (vof false [.int .i64 0]) w from hz) (0:Int) ⟨rfl,by decide,by decide⟩ hm hx key hy fun cs a' hr hf'=>by
  obtain⟨rfl,h8⟩:=hr
  rw[hg]at h8 hf'
  exact h h8 a' w hf' hh
theorem AL.mes (k:Nat)(js:List Nat){x y v:Operand}{u:Int}(key:κ)(hu:IntKind.i64.has u)(h:AL r P ops Q rest C l ((k,.mp κ enc (.int .i64) false b (mins m key u))::ded js H))
  (hk1:hk H k=some (.ob b (Ent enc m key n)):=by rfl) (hx:ev l x=some (.map (some b)):=by rfl) (hy:ev l y=some (.int .i64 (n:Int)):=by rfl) (hv:ev l v=some (.int .i64 u):=by rfl) (hj:hng [k] js H=true:=by kernel_rfl):
  AL r P ops Q (⟨none,.entryStore tt x y v,T,pos,af,none⟩::rest) C l H:=fun a w hf hh=>by
 obtain⟨o,hb,arr,clock,i,e1,m',rfl,h4,h5,hi,rfl,h1,h2,hg,hm⟩:=hh.hold k _ hk1
 have hlt:=(Array.getElem?_eq_some_iff.1 hb).1
 refine Z.skipw (w':=w.putObj b (.map (arr.modify i fun e=>{e with val:=.int .i64 u}).toArray clock)) hf ?_ fun a5 hf5=>h a5 _ hf5 (Hp.dd (hh.upd (Ch.putObj w b _) (fun b' hb'=>⟨_,hk1,by simpa[Res.bl] using hb'⟩) (fun b' hb'=>.inl ⟨_,hk1,hb'⟩) (fun j hj=>by cases hj) fun F B hF _ _ _ _=>?_) hj)
 ·have:=run_entryStore (P:=P) (tt:=tt) hb hi h5 (.int .i64 u)
  rw[show goInt (e1.born:Int)=.int .i64 (e1.born:Int)from rfl]at this
  simp only[execOp,Sem.run_bind,hf.eval hx,hf.eval hy,hf.eval hv,this,Result.andThen_ok,Sem.run_pure]
 ·rw[←hm u]
  refine Mt.ofInts (World.putObj_heap_same hlt) (fun e he=>?_) ?_ ?_ fun p hp=>?_
  ·obtain⟨j,hj,rfl⟩:=List.getElem_of_mem he
   rw[List.getElem_modify]
   have hj':j<arr.length:=by simpa using hj
   have:=h4 arr[j] (List.getElem_mem hj')
   split<;>exact this
  ·have:(arr.modify i fun e=>{e with val:=Value.int .i64 u}).map (·.born)=arr.map (·.born):=by
    refine List.ext_getElem? fun j=>?_
    simp only[List.getElem?_map,List.getElem?_modify]
    cases arr[j]? with
    |none=>rfl
    |some e0=>simp only[Option.map_eq_map,Option.map_some,Option.some.injEq];split<;>rfl
   rw[this];exact h5
  ·refine List.ext_getElem? fun j=>?_
   have hj:=congrArg (fun l=>l[j]?) h1
   simp only[List.getElem?_map,List.getElem?_modify]at hj ⊢
   cases haj:arr[j]? with
   |none=>
    cases hmj:m'[j]? with
    |none=>rfl
    |some p=>rw[haj,hmj]at hj;cases hj
   |some e0=>
    cases hmj:m'[j]? with
    |none=>rw[haj,hmj]at hj;cases hj
    |some p=>
     rw[haj,hmj]at hj
     have hj:=Option.some.inj hj
     obtain⟨q1,q2⟩:=Prod.mk.inj hj
     by_cases hij:i=j
     ·simp[hij,q1]
     ·simp[hij,q1,q2]
  ·obtain⟨j,hj,rfl⟩:=List.getElem_of_mem hp
   rw[List.getElem_modify]
   split
   ·exact hu
   ·exact h2 _ (List.getElem_mem _)
end
end Go.A
end
section
set_option linter.unusedVariables false
set_option linter.unusedSimpArgs false
set_option maxRecDepth 20000
set_option maxHeartbeats 8000000
set_option synthInstance.maxSize 1000000
set_option synthInstance.maxHeartbeats 400000
namespace Go.Proofs.YtbdlcighhphaoaaDoor
open Go.RowKit
variable(A0_ A1_ A2_ A5_ A7_ A13_:Option Addr)(g0_ b1_ c1_ c2_ g2_ c3_ b4_ b5_ b6_ c6_ c8_ g10_ c14_:Nat)
def F.a2 (k30:Int→Option Bool)(y24:Int)(y32:Bool):Option Bool:=if y32=true then(some false)else(A.gd (Z.R64 (y24+1)) (k30 (y24+1)))
def F.ag (k29:Int→Option Bool)(r2:(List Int)×Int)(y10:Int)(x13:D33)(r21:Int):Nat→Int→Option Bool
 |0,_=>none
 |f+1,y24=>if y24<(x13.2.2.1.length:Int)then((A.ix x13.2.2.1 y24).bind fun x27=>(if x13.2.1≠14 then(A.gd (0≤r21∧r21.toNat≤r2.1.length) ((F.aG (List.take r21.toNat r2.1) x27).bind fun r37=>(F.a2 (F.ag k29 r2 y10 x13 r21 f) y24 (!r37))))else(F.a2 (F.ag k29 r2 y10 x13 r21 f) y24 false)))else(A.gd (Z.R64 (y10+1)) (k29 (y10+1)))
def F.a3 (k42:(List (D46×Int))→Int→Option Bool)(y64:Int)(m68:List (D46×Int)):Option Bool:=A.gd (Z.R64 (y64+1)) (k42 m68 (y64+1))
def F.a4 (k42:(List (D46×Int))→Int→Option Bool)(m63:List (D46×Int))(y64:Int)(x70:D50)(y82:Bool):Option Bool:=if y82=true then(some false)else(if x70.2.1.2≠2 then(A.lt (Z.mget (0:Int) m63 x70.2.1) fun x263=>(A.gd (Z.R64 (x263+1)) (F.a3 k42 y64 (Z.mins m63 x70.2.1 (x263+1)))))else(F.a3 k42 y64 m63))
def F.a5 (k43:Int→Option Bool)(y566:Int)(y575:Bool):Option Bool:=if y575=true then(some false)else(A.gd (Z.R64 (y566+1)) (k43 (y566+1)))
def F.ah (r40:(List D64)×Int)(m63:List (D46×Int)):Nat→Int→Option Bool
 |0,_=>none
 |f+1,y566=>if y566<(r40.1.length:Int)then((A.ix r40.1 y566).bind fun x569=>(if x569.1.2≠2 then(A.lt (Z.mget (0:Int) m63 x569.1) fun x577=>(F.a5 (F.ah r40 m63 f) y566 (decide (x577≠1))))else(F.a5 (F.ah r40 m63 f) y566 false)))else(some true)
def F.t (r40:(List D64)×Int)(r45:(List D50)×Int)(m51:List (D46×Int)):Nat→(List (D46×Int))→Int→Option Bool
 |0,_,_=>none
 |f+1,m63,y64=>if y64<(r45.1.length:Int)then((A.ix r45.1 y64).bind fun x70=>(A.lt (Z.mget (0:Int) m51 x70.1) fun x76=>(A.lt (Z.mget (0:Int) m51 x70.2.1) fun x79=>(if(bif bif !(Z.mhas m51 x70.1)then true else !(Z.mhas m51 x70.2.1)then true else decide (x70.2.2.1≠x76))=true then(F.a4 (F.t r40 r45 m51 f) m63 y64 x70 true)else((F.aI (x70.2.2.1,x70.2.2.2.1,x70.2.2.2.2.1,x70.2.2.2.2.2.1,(x70.2.2.2.2.2.2.1,x70.2.2.2.2.2.2.2.1,x70.2.2.2.2.2.2.2.2.1,x70.2.2.2.2.2.2.2.2.2))).bind fun r563=>(F.a4 (F.t r40 r45 m51 f) m63 y64 x70 (decide (r563≠x79))))))))else(F.ah r40 m63 A.FU 0)
def F.aA (r40:(List D64)×Int)(r45:(List D50)×Int):Nat→(List (D46×Int))→Int→Option Bool
 |0,_,_=>none
 |f+1,m51,y52=>if y52<(r40.1.length:Int)then((A.ix r40.1 y52).bind fun x55=>(A.gd (Z.R64 (y52+1)) ((F.aA r40 r45 f) (Z.mins m51 x55.1 x55.2) (y52+1))))else(F.t r40 r45 m51 A.FU [] 0)
def F.al (a0:D23)(r2:(List Int)×Int):Nat→Int→Option Bool
 |0,_=>none
 |f+1,y10=>if y10<(a0.length:Int)then((A.ix a0 y10).bind fun x13=>((F.au r2.1 x13.1).bind fun r21=>(if r21<0 then(some false)else(F.ag (F.al a0 r2 f) r2 y10 x13 r21 A.FU 0))))else((F.bq a0).bind fun r40=>((F.bp a0).bind fun r45=>(if(bif decide (r40.2≠0)then true else decide (r45.2≠0))=true then(some false)else(F.aA r40 r45 A.FU [] 0))))
def F.bi (a0:D23)(r2:(List Int)×Int)(y7:Bool):Option Bool:=if y7=true then((F.cF).bind fun r8=>(some r8))else(if(r2.1.length:Int)≠(a0.length:Int)then(some false)else(F.al a0 r2 A.FU 0))
def F.bR (a0:D23):Option Bool:=(F.bo a0).bind fun r2=>((F.cF).bind fun r580=>(if(!r580)=true then(F.bi a0 r2 true)else((F.db a0).bind fun r582=>(F.bi a0 r2 (bif !r582 then true else decide (r2.2≠0))))))
theorem o_ak(a0:D23)(r:Bool)(hF:F.bR a0=some r):
    A.Ct Tryd.prog 7 [.agg #[.slice A0_ a0.length c1_]] [(0,.sh (.slice T33) [.slice A0_ a0.length c1_] a0),(1,.el none 0 0 A.tabF),(2,.el none 1 0 A.tabA)] [] (fun v H'=>v=.bool r∧H'=[]):=by
 refine A.Ct.enter Tryd.func7 rfl Tryd.ntmps7 rfl fun w0 F0=>?_;rw[F.bR]at hF;refine A.xl 1 ?_;refine A.AL.box 3 (cs:=[.slice A0_ a0.length c1_]) fun g1=>?_;refine A.n 1 [] (A.dl 2 ?_);refine A.q0 [3] [] [.b 0 0] [(26,.agg #[.slice A0_ a0.length c1_])] ?_;refine A.v 4 [] hF (o_z A0_ c1_ a0) (.s 0 (.s 1 (.s 2 .nil))) ?_;rintro r2 - hF _ _ ⟨A4,c5,rfl,rfl,hr6⟩;refine A.ck ?_;refine A.frz 4 [] ?_;refine A.n 5 [(3,.slice A4 r2.1.length c5),(4,A.i r2.2)] (A.dx 2 ?_);refine A.AX.join [1,3] [0,1,2,3,4] (fun nl nh=>∃(y7:Bool),nl=[(40,.bool y7)]∧nh=[]∧F.bi a0 r2 y7=some r) ?_ ?_
 ·refine A.xl 0 ?_;refine A.v 44 [] hF o_ah (.s 1 (.s 2 .nil)) ?_;rintro r580 - hF _ _ ⟨rfl,rfl⟩;refine A.ck ?_;refine A.n 2 [(32,.bool (!r580))] ?_;refine A.AL.cnd (j:=32) rfl hF (fun hF=>?_) (fun hF=>?_)
  ·refine A.q0 [] [] [.off,.off,.off,.n,.n,.off,.off,.n] [(40,.bool true)] (A.AL.done ?_);exact A.j ⟨true,rfl,rfl,hF⟩
  refine A.q0 [3] [] [.on (.b 0 0)] [(33,.agg #[.slice A0_ a0.length c1_])] ?_;refine A.AL.on (dj:=32) rfl rfl ?_;refine A.v 84 [] hF (o_aO A0_ c1_ a0) (.s 0 .nil) ?_;rintro r582 - hF _ _ ⟨rfl,rfl⟩;refine A.ck ?_;refine A.q0 [] [] [.on .n,.n,.n,.sy .n,.sy .n,.pk] [(40,.bool (bif !r582 then true else decide (r2.2≠0)))] (A.AL.done ?_);exact A.j ⟨(bif !r582 then true else decide (r2.2≠0)),rfl,rfl,hF⟩
 rintro _ _ ⟨y7,rfl,rfl,hF⟩;rw[F.bi]at hF;refine A.d hF ?_ ?_<;>intro hb hF
 ·refine A.xl 1 ?_;refine A.v 124 [] hF o_ah (.s 1 (.s 2 .nil)) ?_;rintro r8 - hF _ _ ⟨rfl,rfl⟩;refine A.ck ?_;refine A.n 1 [(2,.bool r8)] (A.dx 1 ?_);obtain rfl:=A.si hF;exact A.rt1 [] ⟨rfl,rfl⟩
 refine A.xl 4 ?_;refine A.q0 [3] [] [.n,.n,.n,.b 0 0,.n,.n] [(47,.bool (decide ((r2.1.length:Int)≠(a0.length:Int))))] (A.dx 1 ?_);refine A.c hF ?_ ?_<;>intro hb hF
 ·refine A.xl 1 ?_;refine A.n 1 [(2,.bool false)] (A.dx 1 ?_);obtain rfl:=A.si hF;exact A.rt1 [] ⟨rfl,rfl⟩
 refine A.xl 4 ?_;refine A.q0 [3] [] [.n,.b 0 0,.n,.n] [(49,.slice A0_ a0.length c1_),(50,A.i (a0.length:Int)),(51,A.i 0)] (A.dx 2 ?_);refine A.lp_ [1,3,49,50] [0,1,2,3,4] (fun f nl nh=>∃(y10:Int),nl=[(51,A.i y10)]∧nh=[]∧A.h6 y10∧F.al a0 r2 f y10=some r) ⟨0,rfl,rfl,A.z0,hF⟩ ?_;rintro f12 _ _ ⟨y10,rfl,rfl,hy11,hF⟩;rcases f12 with _|f12
 ·exact A.no0 hF
 rw[F.al]at hF;refine A.xl 1 ?_;refine A.n 1 [(52,.bool (decide (y10<(a0.length:Int))))] (A.dx 2 ?_);refine A.c hF ?_ ?_<;>intro hb hF
 ·refine A.xl 5 ?_;have⟨x13,hv14,hF⟩:=A.b hF;refine A.AL.ixs 0 5956 hv14 fun ho15=>?_;intro A16 c17 b18 o19;refine A.q0 [] [5956] [.e 0 0] [(54,.agg #[A.i x13.1,A.i x13.2.1,.slice A16 x13.2.2.1.length c17,A.i x13.2.2.2.1.1,A.i x13.2.2.2.1.2.1,.string x13.2.2.2.1.2.2,.string x13.2.2.2.2.1,A.i x13.2.2.2.2.2.1,A.i x13.2.2.2.2.2.2])] ?_;refine A.AL.alloc 5958 (cs:=[A.i 0,A.i 0,.slice none 0 0,A.i 0,A.i 0,.string (ByteArray.mk #[]),.string (ByteArray.mk #[]),A.i 0,A.i 0]) Tryd.zeroValue34 fun g20=>?_;refine A.sw 5958 [] [A.i x13.1,A.i x13.2.1,.slice A16 x13.2.2.1.length c17,A.i x13.2.2.2.1.1,A.i x13.2.2.2.1.2.1,.string x13.2.2.2.1.2.2,.string x13.2.2.2.2.1,A.i x13.2.2.2.2.2.1,A.i x13.2.2.2.2.2.2] ?_;refine A.dl 2 ?_;refine A.q0 [5958] [] [.n,.n,.b 0 0] [(55,.slice A4 r2.1.length c5),(57,A.i x13.1)] ?_;refine A.v 5959 [] hF (o_n A4 c5 r2.1 x13.1 ho15.1) (.l 4 .nil) ?_;rintro r21 - hF _ _ ⟨rfl,rfl,hr23⟩;refine A.ck ?_;refine A.n 1 [(7,A.i r21)] (A.dl 3 ?_);refine A.n 2 [(60,.bool (decide (r21<0)))] (A.dx 1 ?_);refine A.c hF ?_ ?_<;>intro hb hF
  ·refine A.xl 1 ?_;refine A.n 1 [(2,.bool false)] (A.dx 1 ?_);obtain rfl:=A.si hF;exact A.rt1 [] ⟨rfl,rfl⟩
  refine A.xl 3 ?_;refine A.q0 [5958] [] [.n,.b 0 2,.n,.n] [(62,.slice A16 x13.2.2.1.length c17),(63,A.i (x13.2.2.1.length:Int)),(64,A.i 0)] (A.dx 2 ?_);refine A.lp_ [1,3,6,7,49,50,51,62,63] [0,1,2,3,4,5957,5958] (fun f nl nh=>∃(y24:Int),nl=[(64,A.i y24)]∧nh=[]∧A.h6 y24∧F.ag (F.al a0 r2 f12) r2 y10 x13 r21 f y24=some r) ⟨0,rfl,rfl,A.z0,hF⟩ ?_;rintro f26 _ _ ⟨y24,rfl,rfl,hy25,hF⟩;rcases f26 with _|f26
  ·exact A.no0 hF
  rw[F.ag]at hF;refine A.xl 1 ?_;refine A.n 1 [(65,.bool (decide (y24<(x13.2.2.1.length:Int))))] (A.dx 2 ?_);refine A.c hF ?_ ?_<;>intro hb hF
  ·refine A.xl 5 ?_;have⟨x27,hv28,hF⟩:=A.b hF;refine A.AL.ixs 5957 6083 hv28 fun ho29=>?_;intro b30 o31;refine A.q0 [] [6083] [.e 0 0,.n] [(9,A.i x27)] (A.dx 1 ?_);refine A.AX.join [1,3,6,7,49,50,51,62,63,64] [0,1,2,3,4,5957,5958] (fun nl nh=>∃(y32:Bool),nl=[(78,.bool y32)]∧nh=[]∧F.a2 (F.ag (F.al a0 r2 f12) r2 y10 x13 r21 f26) y24 y32=some r) ?_ ?_
   ·refine A.xl 0 ?_;refine A.q0 [5958] [] [.n,.b 0 1,.n,.n] [(71,.bool (decide (x13.2.1≠14)))] ?_;refine A.AL.cnp (j:=71) rfl hF ?_ ?_<;>intro hb hF
    ·refine A.q0 [] [] [.on .n,.on .n] [(72,.slice A4 r2.1.length c5),(73,A.i r21)] ?_;refine A.AL.on (dj:=71) rfl rfl ?_;have⟨hc34,hF⟩:=A.g hF;refine A.AL.cuth 4 6084 (v:=r21.toNat) (Int.toNat_of_nonneg hc34.1).symm hc34.2 fun c36=>?_;refine A.q0 [] [] [.on .n] [(75,A.i x27)] ?_;refine A.AL.on (dj:=71) rfl rfl ?_;refine A.v 6085 [] hF (o_u A4 c36 (List.take r21.toNat r2.1) x27 ho29) (.l 6084 .nil) ?_;rintro r37 - hF _ _ ⟨rfl,rfl⟩;refine A.ck ?_;refine A.q0 [] [] [.on .n,.n] [(78,.bool (!r37))] (A.AL.done ?_);exact A.j ⟨(!r37),rfl,rfl,hF⟩
    refine A.q0 [] [] [.off,.off,.off,.off,.off,.off,.n] [(78,.bool false)] (A.AL.done ?_);exact A.j ⟨false,rfl,rfl,hF⟩
   rintro _ _ ⟨y32,rfl,rfl,hF⟩;rw[F.a2]at hF;refine A.d hF ?_ ?_<;>intro hb hF
   ·refine A.xl 1 ?_;refine A.n 1 [(2,.bool false)] (A.dx 1 ?_);obtain rfl:=A.si hF;exact A.rt1 [] ⟨rfl,rfl⟩
   refine A.xl 3 ?_;have⟨hc33,hF⟩:=A.g hF;refine A.m 2 [Z.R64 (y24+1)] [(64,A.i (y24+1))] hc33 (A.AL.done ?_);exact A.j ⟨_,Nat.lt_succ_self _,⟨(y24+1),rfl,rfl,(Z.i64_has hc33),hF⟩⟩
  refine A.xl 3 ?_;have⟨hc39,hF⟩:=A.g hF;refine A.m 2 [Z.R64 (y10+1)] [(51,A.i (y10+1))] hc39 (A.AL.done ?_);exact A.j ⟨_,Nat.lt_succ_self _,⟨(y10+1),rfl,rfl,(Z.i64_has hc39),hF⟩⟩
 refine A.xl 3 ?_;refine A.q0 [3] [] [.b 0 0] [(82,.agg #[.slice A0_ a0.length c1_])] ?_;refine A.v 6125 [] hF (o_ax A0_ c1_ a0) (.s 0 (.s 1 (.s 2 .nil))) ?_;rintro r40 - hF _ _ ⟨A42,c43,rfl,rfl,hr44⟩;refine A.ck ?_;refine A.frz 6125 [] ?_;refine A.n 5 [(10,.slice A42 r40.1.length c43),(4,A.i r40.2)] (A.dl 2 ?_);refine A.q0 [3] [] [.b 0 0] [(87,.agg #[.slice A0_ a0.length c1_])] ?_;refine A.v 6165 [] hF (o_aw A0_ c1_ a0) (.s 0 (.s 1 (.s 2 .nil))) ?_;rintro r45 - hF _ _ ⟨A47,c48,rfl,rfl,hr49⟩;refine A.ck ?_;refine A.frz 6165 [] ?_;refine A.n 5 [(11,.slice A47 r45.1.length c48),(12,A.i r45.2)] (A.dl 3 ?_);refine A.q0 [] [] [.n,.n,.n,.sy .n,.sy .n,.pk] [(96,.bool (bif decide (r40.2≠0)then true else decide (r45.2≠0)))] (A.dx 1 ?_);refine A.d hF ?_ ?_<;>intro hb hF
 ·refine A.xl 1 ?_;refine A.n 1 [(2,.bool false)] (A.dx 1 ?_);obtain rfl:=A.si hF;exact A.rt1 [] ⟨rfl,rfl⟩
 refine A.xl 3 ?_;refine A.AL.mkm 6205 D46 (fun x:D46=>.agg #[A.i x.1,A.i x.2]) A.ti false fun b50=>?_;refine A.n 1 [(13,.map (some b50))] (A.dl 3 ?_);refine A.n 3 [(98,.slice A42 r40.1.length c43),(99,A.i (r40.1.length:Int)),(100,A.i 0)] (A.dx 2 ?_);refine A.lp_ [10,11,13,98,99] [1,2,6125,6165] (fun f nl nh=>∃(m51:List (D46×Int)),∃(y52:Int),nl=[(100,A.i y52)]∧nh=[(6205,.mp D46 (fun x:D46=>.agg #[A.i x.1,A.i x.2]) A.ti false b50 m51)]∧A.h6 y52∧F.aA r40 r45 f m51 y52=some r) ⟨[],0,rfl,rfl,A.z0,hF⟩ ?_;rintro f54 _ _ ⟨m51,y52,rfl,rfl,hy53,hF⟩;rcases f54 with _|f54
 ·exact A.no0 hF
 rw[F.aA]at hF;refine A.xl 1 ?_;refine A.n 1 [(101,.bool (decide (y52<(r40.1.length:Int))))] (A.dx 2 ?_);refine A.c hF ?_ ?_<;>intro hb hF
 ·refine A.xl 5 ?_;have⟨x55,hv56,hF⟩:=A.b hF;refine A.AL.ixs 6125 7970 hv56 fun ho57=>?_;intro b58 o59;refine A.q0 [] [7970] [.e 0 0] [(103,.agg #[A.i x55.1.1,A.i x55.1.2,A.i x55.2])] ?_;refine A.AL.alloc 7971 (cs:=[A.i 0,A.i 0,A.i 0]) Tryd.zeroValue65 fun g60=>?_;refine A.sw 7971 [] [A.i x55.1.1,A.i x55.1.2,A.i x55.2] ?_;refine A.dl 1 ?_;refine A.q0 [7971] [] [.n,.n,.b 0 0,.n,.b 0 2] [(104,.map (some b50)),(106,.agg #[A.i x55.1.1,A.i x55.1.2]),(108,A.i x55.2)] ?_;refine A.AL.mup (t:=A.ti) 6205 [] (cs:=[A.i x55.2]) (u:=x55.2) ky47 x55.1 ⟨rfl,ho57.2⟩ ?_;refine A.dl 2 ?_;have⟨hc61,hF⟩:=A.g hF;refine A.m 2 [Z.R64 (y52+1)] [(100,A.i (y52+1))] hc61 (A.AL.done ?_);exact A.j ⟨_,Nat.lt_succ_self _,⟨(Z.mins m51 x55.1 x55.2),(y52+1),rfl,rfl,(Z.i64_has hc61),hF⟩⟩
 refine A.xl 3 ?_;refine A.AL.mkm 7972 D46 (fun x:D46=>.agg #[A.i x.1,A.i x.2]) A.ti false fun b62=>?_;refine A.n 1 [(16,.map (some b62))] (A.dl 3 ?_);refine A.n 3 [(111,.slice A47 r45.1.length c48),(112,A.i (r45.1.length:Int)),(113,A.i 0)] (A.dx 2 ?_);refine A.lp_ [10,13,16,111,112] [1,2,6125,6165,6205] (fun f nl nh=>∃(m63:List (D46×Int)),∃(y64:Int),nl=[(113,A.i y64)]∧nh=[(7972,.mp D46 (fun x:D46=>.agg #[A.i x.1,A.i x.2]) A.ti false b62 m63)]∧A.h6 y64∧F.t r40 r45 m51 f m63 y64=some r) ⟨[],0,rfl,rfl,A.z0,hF⟩ ?_;rintro f66 _ _ ⟨m63,y64,rfl,rfl,hy65,hF⟩;rcases f66 with _|f66
 ·exact A.no0 hF
 rw[F.t]at hF;refine A.xl 1 ?_;refine A.n 1 [(114,.bool (decide (y64<(r45.1.length:Int))))] (A.dx 2 ?_);refine A.c hF ?_ ?_<;>intro hb hF
 ·refine A.xx 2 ?_;refine A.AX.join [10,13,16,111,112,113] [1,2,6125,6165,6205] (fun nl nh=>∃(m68:List (D46×Int)),nl=[]∧nh=[(7972,.mp D46 (fun x:D46=>.agg #[A.i x.1,A.i x.2]) A.ti false b62 m68)]∧F.a3 (F.t r40 r45 m51 f66) y64 m68=some r) ?_ ?_
  ·refine A.xl 2 ?_;have⟨x70,hv71,hF⟩:=A.b hF;refine A.AL.ixs 6165 8559 hv71 fun ho72=>?_;intro b73 o74;refine A.q0 [] [8559] [.e 0 0] [(116,.agg #[A.i x70.1.1,A.i x70.1.2,A.i x70.2.1.1,A.i x70.2.1.2,A.i x70.2.2.1,A.i x70.2.2.2.1,A.i x70.2.2.2.2.1,A.i x70.2.2.2.2.2.1,A.i x70.2.2.2.2.2.2.1,A.i x70.2.2.2.2.2.2.2.1,A.i x70.2.2.2.2.2.2.2.2.1,A.i x70.2.2.2.2.2.2.2.2.2])] ?_;refine A.AL.alloc 8560 (cs:=[A.i 0,A.i 0,A.i 0,A.i 0,A.i 0,A.i 0,A.i 0,A.i 0,A.i 0,A.i 0,A.i 0,A.i 0]) Tryd.zeroValue51 fun g75=>?_;refine A.sw 8560 [] [A.i x70.1.1,A.i x70.1.2,A.i x70.2.1.1,A.i x70.2.1.2,A.i x70.2.2.1,A.i x70.2.2.2.1,A.i x70.2.2.2.2.1,A.i x70.2.2.2.2.2.1,A.i x70.2.2.2.2.2.2.1,A.i x70.2.2.2.2.2.2.2.1,A.i x70.2.2.2.2.2.2.2.2.1,A.i x70.2.2.2.2.2.2.2.2.2] ?_;refine A.dl 2 ?_;refine A.q0 [8560] [] [.n,.n,.b 0 0] [(118,.map (some b50)),(120,.agg #[A.i x70.1.1,A.i x70.1.2])] ?_;obtain⟨x76,hv77,hF⟩:=A.lt_some hF;refine A.AL.lk2 (t:=A.ti) 6205 8561 (z:=(0:Int)) (zs:=[A.i 0]) ky47 x70.1 Tryd.zeroValue3 ⟨rfl,by decide⟩ hv77 fun ho78=>?_;refine A.n 5 [(19,A.i x76),(20,.bool (Z.mhas m51 x70.1))] (A.dl 2 ?_);refine A.q0 [8560] [] [.n,.n,.b 0 2] [(125,.map (some b50)),(127,.agg #[A.i x70.2.1.1,A.i x70.2.1.2])] ?_;obtain⟨x79,hv80,hF⟩:=A.lt_some hF;refine A.AL.lk2 (t:=A.ti) 6205 8562 (z:=(0:Int)) (zs:=[A.i 0]) ky47 x70.2.1 Tryd.zeroValue3 ⟨rfl,by decide⟩ hv80 fun ho81=>?_;refine A.n 5 [(21,A.i x79),(22,.bool (Z.mhas m51 x70.2.1))] (A.dx 2 ?_);refine A.AX.join [10,13,16,18,111,112,113] l3b (fun nl nh=>∃(y82:Bool),nl=[(150,.bool y82)]∧nh=[]∧F.a4 (F.t r40 r45 m51 f66) m63 y64 x70 y82=some r) ?_ ?_
   ·refine A.xl 0 ?_;refine A.q0 [8560] [] [.n,.n,.n,.sy .n,.sy .n,.pk,.n,.sy .n,.sy .n,.sy (.b 0 4),.sy .n,.sy .n,.pk,.n] [(144,.bool (bif bif !(Z.mhas m51 x70.1)then true else !(Z.mhas m51 x70.2.1)then true else decide (x70.2.2.1≠x76)))] ?_;refine A.AL.cnd (j:=144) rfl hF (fun hF=>?_) (fun hF=>?_)
    ·refine A.q0 [] [] [.off,.off,.off,.off,.off,.n] [(150,.bool true)] (A.AL.done ?_);exact A.j ⟨true,rfl,rfl,hF⟩
    refine A.q0 [8560] [] [.on .n,.on (.b 0 4)] [(146,.agg #[A.i x70.2.2.1,A.i x70.2.2.2.1,A.i x70.2.2.2.2.1,A.i x70.2.2.2.2.2.1,A.i x70.2.2.2.2.2.2.1,A.i x70.2.2.2.2.2.2.2.1,A.i x70.2.2.2.2.2.2.2.2.1,A.i x70.2.2.2.2.2.2.2.2.2])] ?_;refine A.AL.on (dj:=144) rfl rfl ?_;refine A.v 8563 [] hF (o_aJ (x70.2.2.1,x70.2.2.2.1,x70.2.2.2.2.1,x70.2.2.2.2.2.1,(x70.2.2.2.2.2.2.1,x70.2.2.2.2.2.2.2.1,x70.2.2.2.2.2.2.2.2.1,x70.2.2.2.2.2.2.2.2.2)) ho72.2.2.1 ho72.2.2.2.1 ho72.2.2.2.2.1 ho72.2.2.2.2.2.1 ho72.2.2.2.2.2.2.1 ho72.2.2.2.2.2.2.2.1 ho72.2.2.2.2.2.2.2.2.1 ho72.2.2.2.2.2.2.2.2.2) .nil ?_;rintro r563 - hF _ _ ⟨rfl,rfl,hr565⟩;refine A.ck ?_;refine A.q0 [] [] [.on .n,.on .n,.n] [(150,.bool (decide (r563≠x79)))] (A.AL.done ?_);exact A.j ⟨(decide (r563≠x79)),rfl,rfl,hF⟩
   rintro _ _ ⟨y82,rfl,rfl,hF⟩;rw[F.a4]at hF;refine A.d hF ?_ ?_<;>intro hb hF
   ·refine A.xl 1 ?_;refine A.n 1 [(2,.bool false)] (A.dx 1 ?_);obtain rfl:=A.si hF;exact A.rt1 [] ⟨rfl,rfl⟩
   refine A.xl 3 ?_;refine A.q0 [8560] [] [.n,.n,.b 0 3,.n] [(154,.bool (decide (x70.2.1.2≠2)))] (A.dx 1 ?_);refine A.c hF ?_ ?_<;>intro hb hF
   ·refine A.AX.dr mixed 7 8 (A.mb 8 0) ?_;refine A.hq A.pb [] l3a [8560] [] (A.mb 8 7) 5 [(0,.n),(1,.n),(2,.b 0 2)] [(155,.map (some b62)),(157,.agg #[A.i x70.2.1.1,A.i x70.2.1.2])] ?_;refine A.AH.two 3 5 ?_ ?_
    ·obtain⟨x263,hv264,hF⟩:=A.lt_some hF;refine A.AL.lku (t:=A.ti) 7972 8693 (z:=(0:Int)) (zs:=[A.i 0]) ky47 x70.2.1 Tryd.zeroValue3 ⟨rfl,by decide⟩ hv264 fun ho265=>?_;refine A.AH.nx (A.mb 8 15) l3a ?_;have⟨hc266,hF⟩:=A.g hF;refine A.AH.q A.pb l3a l3a [] [] (A.mb 8 31) 3 [(4,.n)] [159] [Z.R64 (x263+1)] [(159,A.i (x263+1))] hc266 ?_;refine A.AH.one 5 ?_;refine A.AL.men 7972 [] ky47 x70.2.1 Tryd.zeroValue3 fun n383=>?_;refine A.AH.nx (A.mb 8 63) l3a ?_;refine A.hq A.pb l3a l3b [] [] (A.mb 8 127) 1 [(6,.n)] [(161,A.i (n383:Int))] ?_;refine A.AH.one 7 ?_;refine A.AL.mes 7972 [] x70.2.1 (Z.i64_has hc266) ?_;refine A.AH.nm (A.mb 8 255) ?_;refine A.AH.done ?_;refine A.ee 1 ?_;exact A.j ⟨(Z.mins m63 x70.2.1 (x263+1)),rfl,rfl,hF⟩
    refine A.AL.men 7972 [] ky47 x70.2.1 Tryd.zeroValue3 fun n383=>?_;refine A.AH.nx (A.mb 8 39) l3a ?_;refine A.hq A.pb l3a l3b [] [] (A.mb 8 103) 3 [(6,.n)] [(161,A.i (n383:Int))] ?_;refine A.AH.one 3 ?_;obtain⟨x263,hv264,hF⟩:=A.lt_some hF;refine A.AL.lke 7972 ky47 x70.2.1 Tryd.zeroValue3 hv264 fun ho265=>?_;refine A.AH.nx (A.mb 8 111) l3b ?_;have⟨hc266,hF⟩:=A.g hF;refine A.AH.q A.pb l3b l3b [] [] (A.mb 8 127) 1 [(4,.n)] [159] [Z.R64 (x263+1)] [(159,A.i (x263+1))] hc266 ?_;refine A.AH.one 7 ?_;refine A.AL.mes 7972 [] x70.2.1 (Z.i64_has hc266) ?_;refine A.AH.nm (A.mb 8 255) ?_;refine A.AH.done ?_;refine A.ee 1 ?_;exact A.j ⟨(Z.mins m63 x70.2.1 (x263+1)),rfl,rfl,hF⟩
   refine A.xe 2 ?_;exact A.j ⟨m63,rfl,rfl,hF⟩
  rintro _ _ ⟨m68,rfl,rfl,hF⟩;rw[F.a3]at hF;refine A.xl 0 ?_;have⟨hc69,hF⟩:=A.g hF;refine A.m 2 [Z.R64 (y64+1)] [(113,A.i (y64+1))] hc69 (A.AL.done ?_);exact A.j ⟨_,Nat.lt_succ_self _,⟨m68,(y64+1),rfl,rfl,(Z.i64_has hc69),hF⟩⟩
 refine A.xl 4 ?_;refine A.n 3 [(163,.slice A42 r40.1.length c43),(164,A.i (r40.1.length:Int)),(165,A.i 0)] (A.dx 2 ?_);refine A.lp_ [16,163,164] [1,2,6125,7972] (fun f nl nh=>∃(y566:Int),nl=[(165,A.i y566)]∧nh=[]∧A.h6 y566∧F.ah r40 m63 f y566=some r) ⟨0,rfl,rfl,A.z0,hF⟩ ?_;rintro f568 _ _ ⟨y566,rfl,rfl,hy567,hF⟩;rcases f568 with _|f568
 ·exact A.no0 hF
 rw[F.ah]at hF;refine A.xl 1 ?_;refine A.n 1 [(166,.bool (decide (y566<(r40.1.length:Int))))] (A.dx 2 ?_);refine A.c hF ?_ ?_<;>intro hb hF
 ·refine A.xl 5 ?_;have⟨x569,hv570,hF⟩:=A.b hF;refine A.AL.ixs 6125 8849 hv570 fun ho571=>?_;intro b572 o573;refine A.q0 [] [8849] [.e 0 0] [(168,.agg #[A.i x569.1.1,A.i x569.1.2,A.i x569.2])] ?_;refine A.AL.alloc 8850 (cs:=[A.i 0,A.i 0,A.i 0]) Tryd.zeroValue65 fun g574=>?_;refine A.sw 8850 [] [A.i x569.1.1,A.i x569.1.2,A.i x569.2] ?_;refine A.dx 1 ?_;refine A.AX.join [16,163,164,165] [1,2,6125,7972] (fun nl nh=>∃(y575:Bool),nl=[(179,.bool y575)]∧nh=[]∧F.a5 (F.ah r40 m63 f568) y566 y575=some r) ?_ ?_
  ·refine A.xl 0 ?_;refine A.q0 [8850] [] [.n,.n,.b 0 1,.n,.n] [(173,.bool (decide (x569.1.2≠2)))] ?_;refine A.AL.cnp (j:=173) rfl hF ?_ ?_<;>intro hb hF
   ·refine A.q0 [8850] [] [.on .n,.on .n,.on (.b 0 0)] [(174,.map (some b62)),(176,.agg #[A.i x569.1.1,A.i x569.1.2])] ?_;refine A.AL.on (dj:=173) rfl rfl ?_;obtain⟨x577,hv578,hF⟩:=A.lt_some hF;refine A.AL.lku (t:=A.ti) 7972 8851 (z:=(0:Int)) (zs:=[A.i 0]) ky47 x569.1 Tryd.zeroValue3 ⟨rfl,by decide⟩ hv578 fun ho579=>?_;refine A.q0 [] [] [.on .n,.n] [(179,.bool (decide (x577≠1)))] (A.AL.done ?_);exact A.j ⟨(decide (x577≠1)),rfl,rfl,hF⟩
   refine A.q0 [] [] [.off,.off,.off,.off,.off,.n] [(179,.bool false)] (A.AL.done ?_);exact A.j ⟨false,rfl,rfl,hF⟩
  rintro _ _ ⟨y575,rfl,rfl,hF⟩;rw[F.a5]at hF;refine A.d hF ?_ ?_<;>intro hb hF
  ·refine A.xl 1 ?_;refine A.n 1 [(2,.bool false)] (A.dx 1 ?_);obtain rfl:=A.si hF;exact A.rt1 [] ⟨rfl,rfl⟩
  refine A.xl 3 ?_;have⟨hc576,hF⟩:=A.g hF;refine A.m 2 [Z.R64 (y566+1)] [(165,A.i (y566+1))] hc576 (A.AL.done ?_);exact A.j ⟨_,Nat.lt_succ_self _,⟨(y566+1),rfl,rfl,(Z.i64_has hc576),hF⟩⟩
 refine A.xl 3 ?_;refine A.n 1 [(2,.bool true)] (A.dx 1 ?_);obtain rfl:=A.si hF;exact A.rt1 [] ⟨rfl,rfl⟩
end Go.Proofs.YtbdlcighhphaoaaDoor
end
section
end
section
set_option linter.unusedVariables false
namespace Go.A
open Go.RowKit Go.Z Go.Shelf Go.Proofs Go.Lib
def Hall (W:World):List (Nat×Res)→Prop
 | []=>True
 |p::H=>(p.2.bl=[]∧p.2.ref=none∧p.2.holds W (fun _=>True) (fun _ _=>False))∧Hall W H
theorem Hall.at {W:World}: ∀{H:List (Nat×Res)} {k:Nat} {r:Res},Hall W H→hk H k=some r→r.bl=[]∧r.ref=none∧r.holds W (fun _=>True) (fun _ _=>False)
 | [],_,_,_,h=>by cases h
 |(d,u)::H,k,r,ha,h=>by
  rw[hk_cons]at h
  split at h
  ·injection h with h;subst h;exact ha.1
  ·exact ha.2.at h
theorem Hp.start {W:World}{H:List (Nat×Res)}(h:Hall W H):Hp ⟨0,[],W,[],fun _=>True⟩ H W:=by
 have hb: ∀k b,¬Bk H k b:=fun k b ⟨r,h1,h2⟩=>by rw[(h.at h1).1]at h2;cases h2
 refine⟨Ch.refl W,fun k r hk=>?_,fun k b hB=>(hb k b hB).elim,fun k k' b hB=>(hb k b hB).elim,fun k r j hk hr=>?_⟩
 ·exact Res.to (S:=[]) (h.at hk).2.2 (Ch.refl W) (fun b _ _=>⟨by simp,fun k=>hb k b,.inl trivial⟩) (fun b _ _=>⟨by simp,fun k=>hb k b⟩) (fun i b _ hf=>hf.elim) (by simp)
 ·rw[(h.at hk).2.1]at hr;cases hr
theorem Hall.sh {W:World}{t:Ty}{cs:List Value}{x:t.den}{F:Nat→Prop}(h:t.rep W F cs x):(Res.sh t cs x).bl=[]∧(Res.sh t cs x).ref=none∧(Res.sh t cs x).holds W (fun _=>True) (fun _ _=>False):=
 ⟨rfl,rfl,rep_as h fun _ _ _=>trivial⟩
theorem Hall.ln {W:World}{t:Ty}{A:Option Addr}{c n:Nat}{xs:List t.den}{F:Nat→Prop}(h:(Ty.slice t).rep W F [.slice A xs.length c] xs):(Res.ln t A c xs).bl=[]∧(Res.ln t A c xs).ref=none∧(Res.ln t A c xs).holds W (fun _=>True) (fun _ _=>False):=
 ⟨rfl,rfl,Row.to (S:=[]) (Row.of h) (Ch.refl W) (fun _ _ _=>⟨by simp,trivial⟩) (fun _ _ _=>⟨by simp,fun _ h=>h⟩)⟩
def putCells (cs:List Value):Obj→Obj
 | .cells _ t frozen=>.cells cs.toArray t frozen
 |o=>o
theorem tab_cells {w:World}{g3 g4:Nat}(h:Lib.Utf8Tabs g3 g4 w):Cells w ⟨g3,0,none⟩ tabF∧Cells w ⟨g4,0,none⟩ tabA:=by
 constructor
 ·intro j u hu
  rw[Addr.add_lit,Nat.zero_add]
  have hj:j<256:=by have:=(List.getElem?_eq_some_iff.1 hu).1;simpa[tabF] using this
  have e:tabF[j]?=some (.int .u8 (firstT j)):=by simp[tabF,hj]
  rw[e]at hu;injection hu with hu;subst hu
  exact h.1 j hj
 ·intro j u hu
  rw[Addr.add_lit,Nat.zero_add]
  have hj:j<32:=by have:=(List.getElem?_eq_some_iff.1 hu).1;simpa[tabA] using this
  have e:tabA[j]?=some (.int .u8 (if j%2=0 then accLo (j / 2)else accHi (j / 2))):=by simp[tabA,hj]
  rw[e]at hu;injection hu with hu;subst hu
  have:=h.2 (j / 2) (by omega)
  by_cases he:j%2=0
  ·rw[if_pos he]
   have hj2:j=2*(j / 2):=by omega
   rw[hj2];simpa using this.1
  ·rw[if_neg he]
   have hj2:j=2*(j / 2)+1:=by omega
   have h3:(2*(j / 2)+1) / 2=j / 2:=by omega
   rw[hj2,h3];exact this.2
theorem Hall.tabs {w:World}{g3 g4 i j:Nat}(h:Lib.Utf8Tabs g3 g4 w):Hall w [(i,.el none g3 0 tabF),(j,.el none g4 0 tabA)]:=by
 obtain⟨h1,h2⟩:=tab_cells h
 exact⟨⟨rfl,rfl,h1,World.block_lt_of_cell? w _ (h1 0 (.int .u8 (firstT 0)) (by simp[tabF])),fun _ h=>h⟩,⟨rfl,rfl,h2,World.block_lt_of_cell? w _ (h2 0 (.int .u8 (accLo 0)) (by simp[tabA])),fun _ h=>h⟩,trivial⟩
end Go.A
end
section
namespace Go.Graph
abbrev Fun:=Int×Int×ByteArray
abbrev Nd:=Int×Int×List Int×Fun×ByteArray×Int×Int
abbrev Pl:=Int×Int
abbrev Sp:=Pl×Int
abbrev id (x:Nd):Int:=x.1
abbrev kind (x:Nd):Int:=x.2.1
abbrev fn (x:Nd):Fun:=x.2.2.2.1
abbrev name (x:Nd):ByteArray:=x.2.2.2.2.1
abbrev cap (x:Nd):Int:=x.2.2.2.2.2.1
abbrev dep (x:Nd):Int:=x.2.2.2.2.2.2
def Few (g:List Nd):Prop:=g.length≤40∧∀x,x∈g→x.2.2.1.length≤5000∧x.2.2.2.2.1.size≤5000∧x.2.2.2.1.2.2.size≤5000
theorem Few.in {g:List Nd}{k:Nat}{x:Nd}(h:Few g)(hx:g[k]?=some x):x.2.2.1.length≤5000:=(h.2 x (List.mem_of_getElem? hx)).1
theorem dropc {α:Type}{xs:List α}{k:Nat}{x:α}(h:xs[k]?=some x):xs.drop k=x::xs.drop (k+1):=by
 obtain⟨h1,h2⟩:=List.getElem?_eq_some_iff.1 h
 rw[List.drop_eq_getElem_cons h1,h2]
def insK (k:Int):Int:=if k<1∨16<k then-1 else if k=1 then 0 else if k=5∨k=9 then 2 else 1
def letter (c:UInt8):Bool:=decide ((97:Int)≤(c.toNat:Int)∧(c.toNat:Int)≤122∨(65:Int)≤(c.toNat:Int)∧(c.toNat:Int)≤90)
def digit (c:UInt8):Bool:=decide ((48:Int)≤(c.toNat:Int)∧(c.toNat:Int)≤57)
def wordy (l:List UInt8):Bool:=l.all fun c=>letter c||digit c
def named (s:ByteArray):Bool:=decide (s≠ByteArray.mk #[])&&decide ((s.size:Int)≤16)&&letter (Z.bat s 0)&&wordy s.data.toList
theorem drop_bat {s:ByteArray}{i:Nat}(h:i<s.size):s.data.toList.drop i=Z.bat s i::s.data.toList.drop (i+1):=by
 have h':i<s.data.toList.length:=by simpa using h
 rw[List.drop_eq_getElem_cons h']
 have h2:i<s.data.size:=h
 congr 1
 simp[Z.bat,Array.getElem?_eq_getElem h2]
theorem drop_end {s:ByteArray}{i:Nat}(h: ¬i<s.size):s.data.toList.drop i=[]:=
 List.drop_eq_nil_of_le (by have h1:s.data.toList.length=s.size:=rfl;omega)
theorem size_pos {s:ByteArray}(h:s≠ByteArray.mk #[]):0<s.size:=by
 rcases Nat.eq_zero_or_pos s.size with h0|h0
 ·have h1:s.data=#[]:=Array.eq_empty_of_size_eq_zero h0
  exact absurd (by cases s;simp_all) h
 ·exact h0
def idxF (id:Int):Nat→List Nd→Int
 |_,[]=> -1
 |k,x::r=>if x.1=id then(k:Int)else idxF id (k+1) r
def idx (g:List Nd)(id:Int):Int:=idxF id 0 g
def namedF (kd:Int)(s:ByteArray):List Nd→Int×Bool
 | []=>(0,false)
 |x::r=>if kind x=kd∧name x=s then(x.1,true)else namedF kd s r
def z0:Nd:=(0,0,[],(0,0,ByteArray.mk #[]),ByteArray.mk #[],0,0)
def at_ (g:List Nd)(i:Int):Nd:=(g[i.toNat]?).getD z0
def find (g:List Nd)(id:Int):Nd×Bool:=if idx g id<0 then(z0,false)else(at_ g (idx g id),true)
theorem idxF_le (id:Int): ∀(k:Nat) (g:List Nd),-1≤idxF id k g∧idxF id k g<k+g.length
 |k,[]=>by simp[idxF];omega
 |k,x::r=>by
  unfold idxF
  have:=idxF_le id (k+1) r
  by_cases h:x.1=id
  ·rw[if_pos h];simp only[List.length_cons];omega
  ·rw[if_neg h];simp only[List.length_cons];omega
theorem idx_le (g:List Nd)(id:Int): -1≤idx g id∧idx g id<g.length:=by
 have:=idxF_le id 0 g
 unfold idx;omega
theorem at_some {g:List Nd}{i:Int}{x:Nd}{k:Nat}(hk:i=(k:Int))(h:g[k]?=some x):at_ g i=x:=by
 subst hk;simp[at_,h]
def ownT (g:List Nd)(n:Nd):Bool:=if n.2.1≠1∧n.2.1≠15 then decide (n.2.2.2.2.1=ByteArray.mk #[])else named n.2.2.2.2.1&&decide ((namedF n.2.1 n.2.2.2.2.1 g).1=n.1)
def ownC (n:Nd):Prop:=n.2.1=14∧(n.2.2.2.2.2.1<1∨8<n.2.2.2.2.2.1∨n.2.2.2.2.2.2<1∨4<n.2.2.2.2.2.2)∨n.2.1≠14∧(n.2.2.2.2.2.1≠0∨n.2.2.2.2.2.2≠0)
instance (n:Nd):Decidable (ownC n):=by unfold ownC;infer_instance
def own (g:List Nd)(i:Int)(n:Nd):Bool:=
 if n.1<1∨255<n.1∨0<i∧n.1≤(at_ g (i-1)).1∨insK n.2.1<0∨(n.2.2.1.length:Int)≠insK n.2.1 then false else if ownC n then false else ownT g n
def bget (l:List Bool)(i:Int):Bool:=(l[i.toNat]?).getD false
def iget (l:List Int)(i:Int):Int:=(l[i.toNat]?).getD 0
def Fed (g:List Nd):Prop:=∀x,x∈g→∀k,k∈x.2.2.1→0≤idx g k
def readyF (g:List Nd)(done:List Bool)(kd:Int):List Int→Bool
 | []=>true
 |k::r=>if kd≠14∧bget done (idx g k)=false then false else readyF g done kd r
def ready (g:List Nd)(done:List Bool)(n:Nd):Bool:=readyF g done n.2.1 n.2.2.1
def firstF (g:List Nd)(done:List Bool):Nat→List Nd→Int→Int
 |_,[],a=>a
 |i,x::r,a=>firstF g done (i+1) r (if(a<0∧bget done i=false)∧ready g done x=true then i else a)
def orderF (g:List Nd):Nat→List Bool→List Int→Option (List Int)
 |0,_,l=>some l
 |f+1,done,l=>if firstF g done 0 g (-1)<0 then none else orderF g f (done.set (firstF g done 0 g (-1)).toNat true) (l++[firstF g done 0 g (-1)])
def d0:List Int→Int
 | []=>0
 |a::_=>a
def capd (d:Int):Int:=if 4<d then-1 else d
def depthA (n:Nd)(l:List Int):Int:=if n.2.1=14 then n.2.2.2.2.2.2 else if n.2.1=12 then d0 l+1 else if n.2.1=13 then d0 l-1 else
 if n.2.1=5∨n.2.1=9 then(if iget l 0≠iget l 1 then-1 else d0 l)else if n.2.1=11∨n.2.1=16∨n.2.1=15 then(if d0 l≠0 then-1 else d0 l)else d0 l
def depthOf (n:Nd)(l:List Int):Int:=capd (depthA n l)
theorem d0_iget {l:List Int}:iget l 0=d0 l:=by cases l<;>rfl
theorem d0_nil {l:List Int}(h:l.length=0):0=d0 l:=by cases l with
 |nil=>rfl
 |cons a r=>simp at h
def depthsF (g:List Nd):List Int→List Int→Option (List Int)
 | [],d=>some d
 |p::r,d=>if depthOf (at_ g p) ((at_ g p).2.2.1.map fun k=>iget d (idx g k))<0 then none else depthsF g r (d.set p.toNat (depthOf (at_ g p) ((at_ g p).2.2.1.map fun k=>iget d (idx g k))))
def loopsF (g:List Nd)(d:List Int):List Nd→Bool
 | []=>true
 |x::r=>if x.2.1=14∧iget d (idx g (iget x.2.2.1 0))≠x.2.2.2.2.2.2 then false else loopsF g d r
theorem firstF_le (g:List Nd)(done:List Bool): ∀(i:Nat) (l:List Nd) (a:Int),-1≤a→a<i+l.length→ -1≤firstF g done i l a∧firstF g done i l a<i+l.length
 |i,[],a,h1,h2=>by simp[firstF]at*;omega
 |i,x::r,a,h1,h2=>by
  unfold firstF
  simp only[List.length_cons]at h2 ⊢
  have:=firstF_le g done (i+1) r (if(a<0∧bget done i=false)∧ready g done x=true then i else a) (by split<;>omega) (by split<;>omega)
  omega
theorem firstF_x {g:List Nd}{done:List Bool}{k:Nat}{a:Int}{x:Nd}(hx:g[k]?=some x):firstF g done k (g.drop k) a=firstF g done (k+1) (g.drop (k+1)) (if(a<0∧bget done k=false)∧ready g done x=true then k else a):=by
 rw[dropc hx];simp only[firstF]
def depths (g:List Nd)(l:List Int):List Int×Bool:=match depthsF g l (List.replicate g.length 0)with
 |some d=>if loopsF g d g then(d,true)else([],false)
 |none=>([],false)
abbrev inD (g:List Nd) (d:List Int) (l:List Int):List Int:=l.map fun k=>iget d (idx g k)
def InB (d:List Int):Prop:=∀i,0≤iget d i∧iget d i≤4
theorem InB.rep (n:Nat):InB (List.replicate n 0):=fun i=>by
 unfold iget;rw[List.getElem?_replicate];split<;>simp
theorem depthOf_le (n:Nd)(l:List Int):depthOf n l≤4:=by unfold depthOf capd;split<;>omega
theorem InB.set {d:List Int}(h:InB d)(p:Nat){v:Int}(h0:0≤v)(h1:v≤4):InB (d.set p v):=fun i=>by
 unfold iget;rw[List.getElem?_set]
 have:=h i
 unfold iget at this
 split
 ·split<;>simp<;>omega
 ·exact this
theorem InB.d0 {d:List Int}(h:InB d)(g:List Nd)(l:List Int): -1≤Graph.d0 (inD g d l)∧Graph.d0 (inD g d l)≤4:=by
 cases l with
 |nil=>simp[Graph.d0]
 |cons k r=>have:=h (idx g k);simp only[inD,List.map_cons,Graph.d0];omega
theorem inD_take {g:List Nd}{d l:List Int}{k:Nat}{x:Int}(h:l[k]?=some x):inD g d (l.take k)++[iget d (idx g x)]=inD g d (l.take (k+1)):=by
 have h1:=(List.getElem?_eq_some_iff.1 h)
 rw[List.take_add_one,h];simp[inD]
theorem depthsF_x {g:List Nd}{l d:List Int}{k:Nat}{p:Int}{n:Nd}(hp:l[k]?=some p)(hn:at_ g p=n):depthsF g (l.drop k) d=if depthOf n (inD g d n.2.2.1)<0 then none else depthsF g (l.drop (k+1)) (d.set p.toNat (depthOf n (inD g d n.2.2.1))):=by
 rw[dropc hp];simp only[depthsF,hn,inD]
def insS (g:List Nd)(d:List Int)(id:Int):Nat→List Int→List Sp
 |_,[]=>[]
 |k,x::r=>((id,(k:Int)),iget d (idx g x))::insS g d id (k+1) r
def outS (n:Nd)(v:Int):List Sp:=if n.2.1≠15 then [((n.1,2),v)]else []
def spotsF (g:List Nd)(d:List Int):Nat→List Nd→List Sp
 |_,[]=>[]
 |i,n::r=>insS g d n.1 0 n.2.2.1++(outS n (iget d i)++spotsF g d (i+1) r)
def spots (g:List Nd)(d:List Int):List Sp:=spotsF g d 0 g
def atS (p:Pl):List Sp→Int
 | []=> -1
 |x::r=>if x.1=p then x.2 else atS p r
abbrev Sm:=Int×Int×Int×Int×(Int×Int×Int×Int)
def z8:Sm:=(0,0,0,0,(0,0,0,0))
def stepP (d a b:Int)(s:Sm):Sm×Int:=if d<a∨b<d then(z8,11)else((d,s.2),0)
def idP (d:Int):Sm×Int:=stepP d 0 4 (0,d,0,0,(0,0,0,0))
def enterP (d:Int):Sm×Int:=stepP d 0 3 (0,d,0,1,(0,0,0,0))
def leaveP (d:Int):Sm×Int:=stepP d 1 4 (0,d-1,0,0,(0,0,0,0))
def nextP (d:Int):Sm×Int:=stepP d 1 4 (0,d,1,0,(0,0,0,0))
def withinP (n:Nd)(d:Int):Sm:=if n.2.1=12 then(enterP d).1 else if n.2.1=13 then(leaveP d).1 else if n.2.1=14 then(nextP d).1 else(idP d).1
theorem width_pos (s:ByteArray)(pos:Nat):1≤(Utf8.decode s pos).2:=by
 unfold Utf8.decode;simp only[];repeat' split
 all_goals first|exact Nat.le_refl 1|(simp;done)|omega
def numberF (f:Fun):Bool:=if f.1=3∨f.1=13 then decide (0≤f.2.1∧f.2.1≤64)else if f.1=6∨f.1=11 then decide (1≤f.2.1∧f.2.1≤1048576)else decide (f.2.1=0)
def tail5 (c:UInt8):Bool:=decide (128≤(c.toNat:Int)∧(c.toNat:Int)≤191)
end Go.Graph
end
section
set_option linter.unusedVariables false
set_option linter.unusedSimpArgs false
namespace Go.A
open Go.Z
theorem r64n {n:Nat}(h:n<4611686018427387904):R64 ((n:Int)+1):=⟨by omega,by omega⟩
theorem gd1 {α:Type}{p:Prop}[Decidable p](h:p)(x:Option α):gd p x=x:=if_pos h
theorem ixn {α:Type}{xs:List α}{k:Nat}{x:α}(h:xs[k]?=some x):ix xs (k:Int)=some x:=by rw[ix_nat];exact h
theorem ixg {α:Type}{xs:List α}{i:Int}{x:α}(h0:0≤i)(h:xs[i.toNat]?=some x):ix xs i=some x:=by unfold ix;rw[if_neg (by omega)];exact h
theorem dropx {α:Type}{xs:List α}{k:Nat}{x:α}(h:xs[k]?=some x):xs.drop k=x::xs.drop (k+1):=by
 obtain⟨h1,h2⟩:=List.getElem?_eq_some_iff.1 h
 rw[List.drop_eq_getElem_cons h1,h2]
theorem ba {p q:Prop}[Decidable p][Decidable q]:(bif decide p then decide q else false)=decide (p∧q):=by by_cases h:p<;>simp[h]
theorem bo {p q:Prop}[Decidable p][Decidable q]:(bif decide p then true else decide q)=decide (p∨q):=by by_cases h:p<;>simp[h]
theorem bn {p:Prop}[Decidable p]:(!decide p)=decide (¬p):=by by_cases h:p<;>simp[h]
theorem lp {α σ ρ:Type}(xs:List α)(L:Nat→σ→Int→Option ρ)(G:Nat→List α→σ→Option ρ)(P:Nat→σ→Prop)
  (h0: ∀f s,P xs.length s→L (f+1) s (xs.length:Int)=G xs.length [] s)
  (h1: ∀f s (k:Nat) x,xs[k]?=some x→k<xs.length→P k s→(∀s',P (k+1) s'→L f s' ((k:Int)+1)=G (k+1) (xs.drop (k+1)) s')→L (f+1) s k=G k (x::xs.drop (k+1)) s)
  (hl:xs.length<FU) (s:σ) (hs:P 0 s):L FU s 0=G 0 xs s:=by
 have main: ∀(n k f:Nat) (s:σ),k+n=xs.length→n<f→P k s→L f s (k:Int)=G k (xs.drop k) s:=by
  intro n
  induction n with
  |zero=>
   intro k f s hk hf hp
   obtain⟨f,rfl⟩: ∃f',f=f'+1:=⟨f-1,by omega⟩
   obtain rfl:k=xs.length:=by omega
   rw[List.drop_eq_nil_of_le (Nat.le_refl _)];exact h0 f s hp
  |succ n ih=>
   intro k f s hk hf hp
   obtain⟨f,rfl⟩: ∃f',f=f'+1:=⟨f-1,by omega⟩
   have hx:xs[k]?=some xs[k]:=List.getElem?_eq_getElem (by omega)
   rw[dropx hx]
   exact h1 f s k _ hx (by omega) hp fun s' hp'=>ih (k+1) f s' (by omega) (by omega) hp'
 have:=main xs.length 0 FU s (by omega) hl hs
 simpa using this
theorem lp0 {α ρ:Type}(xs:List α)(L:Nat→Int→Option ρ)(G:Nat→List α→Option ρ)
  (h0: ∀f,L (f+1) (xs.length:Int)=G xs.length [])
  (h1: ∀f (k:Nat) x,xs[k]?=some x→k<xs.length→L f ((k:Int)+1)=G (k+1) (xs.drop (k+1))→L (f+1) k=G k (x::xs.drop (k+1)))
  (hl:xs.length<FU):L FU 0=G 0 xs:=
 lp xs (fun f (_:Unit) y=>L f y) (fun k l _=>G k l) (fun _ _=>True) (fun f s _=>h0 f) (fun f s k x hx hk _ ih=>h1 f k x hx hk (ih () trivial)) hl () trivial
end Go.A
namespace Go.Proofs.YtbdlcighhphaoaaDoor
open Go.RowKit Go.Graph
theorem FU_big:(18446744073709551616:Nat)<A.FU:=by decide
theorem Ins_eq (k:Int):F.ce k=F.cy k:=rfl
theorem R08_Ins_eq (k:Int):F.cy k=some (insK k):=by
 unfold F.cy insK
 simp only[Bool.cond_decide]
 by_cases h1:k<1<;>by_cases h2:16<k<;>simp[h1,h2]
 by_cases h3:k=1
 ·simp[h3]
 ·by_cases h4:k=5<;>by_cases h5:k=9<;>simp[h3,h4,h5]
theorem ixb {s:ByteArray}{k:Nat}(h:k<s.size):A.ix s.data.toList (k:Int)=some (Z.bat s k):=by
 refine A.ixn ?_
 have:=drop_bat h
 rw[←List.head?_drop,this];rfl
theorem size_list (s:ByteArray):s.data.toList.length=s.size:=rfl
theorem letter_eq (c:UInt8):F.cL c=some (letter c):=by
 unfold F.cL letter
 by_cases h1:(97:Int)≤(c.toNat:Int)<;>by_cases h2:(c.toNat:Int)≤122<;>simp[h1,h2]
theorem digit_eq (c:UInt8):F.dh c=some (digit c):=by
 unfold F.dh digit
 by_cases h1:(48:Int)≤(c.toNat:Int)<;>by_cases h2:(c.toNat:Int)≤57<;>simp[h1,h2]
theorem name_eq (s:ByteArray)(hs:s.size≤5000):F.ds s=some (named s):=by
 have loop:F.bA s A.FU 0=some (wordy s.data.toList):=A.lp0 s.data.toList (fun f y=>F.bA s f y) (fun _ l=>some (wordy l))
  (fun f=>by rw[F.bA,if_neg (by rw[size_list];omega)];rfl)
  (fun f k x hx hk ih=>by
   have hk':k<s.size:=hk
   rw[F.bA,if_pos (by omega),A.ixn hx,Option.bind_some,letter_eq,Option.bind_some]
   cases hl:letter x with
   |true=>
    simp only[Bool.not_true,Bool.false_eq_true,if_false,F.cz]
    rw[A.gd1 (A.r64n (by omega)),ih];simp[wordy,hl]
   |false=>
    simp only[Bool.not_false,if_true,A.ixn hx,Option.bind_some,digit_eq,F.cz]
    cases hd:digit x with
    |true=>simp only[Bool.not_true,Bool.false_eq_true,if_false];rw[A.gd1 (A.r64n (by omega)),ih];simp[wordy,hl,hd]
    |false=>simp[wordy,hl,hd])
  (by rw[size_list];have:=FU_big;omega)
 unfold F.ds named
 by_cases h1:s=ByteArray.mk #[]
 ·simp[h1,F.cc]
 ·by_cases h2:(16:Int)<(s.size:Int)
  ·have h2': ¬(s.size:Int)≤16:=by omega
   simp[h1,h2,h2',F.cc]
  ·have h2':(s.size:Int)≤16:=by omega
   have h0:=size_pos h1
   have e0:A.ix s.data.toList 0=some (Z.bat s 0):=ixb h0
   simp only[h1,h2,h2',decide_false,cond_false,Bool.false_eq_true,if_false,e0,Option.bind_some,letter_eq,F.cc,loop,decide_true,ne_eq,not_false_eq_true,Bool.and_true,Bool.true_and]
   cases letter (Z.bat s 0)<;>simp
end Go.Proofs.YtbdlcighhphaoaaDoor
end
section
set_option linter.unusedVariables false
set_option linter.unusedSimpArgs false
set_option synthInstance.maxSize 1000000
set_option synthInstance.maxHeartbeats 400000
namespace Go.Proofs.YtbdlcighhphaoaaDoor
open Go.RowKit Go.Graph
theorem bat_get (s:ByteArray)(i:Nat):(s.get! i)=Z.bat s i:=by
 cases s;simp[ByteArray.get!,Z.bat,getElem!_def,Option.getD]
 rfl
theorem dec_at (s:ByteArray)(i:Nat):Utf8.decode s i=Lib.decodeN (s.size-i) (Z.bat s i).toNat (Z.bat s (i+1)).toNat (Z.bat s (i+2)).toNat (Z.bat s (i+3)).toNat:=by
 rw[Lib.decode_at,bat_get,bat_get,bat_get,bat_get]
theorem dec_lt {s:ByteArray}{i:Nat}(h:(Z.bat s i).toNat <128):Utf8.decode s i=((Z.bat s i).toNat,1):=by
 rw[dec_at];unfold Lib.decodeN;rw[if_pos h]
theorem dec_ge {s:ByteArray}{i:Nat}(h:128≤(Z.bat s i).toNat):128≤(Utf8.decode s i).1:=by
 rw[dec_at];unfold Lib.decodeN;rw[if_neg (by omega)]
 repeat' split
 all_goals first|(simp only[];omega)|decide
theorem named_eq (s:ByteArray)(hs:s.size≤9223372036854775807):F.bn s=some (named s):=by
 have loop: ∀(n p f:Nat),s.size-p≤n→n<f→F.aw s f p=some ((if p=0∧0<s.size then letter (Z.bat s 0)else true)&&wordy (s.data.toList.drop p)&&(decide (s≠ByteArray.mk #[])&&decide ((s.size:Int)≤16))):=by
  intro n
  induction n with
  |zero=>
   intro p f hp hf
   obtain⟨f,rfl⟩: ∃f',f=f'+1:=⟨f-1,by omega⟩
   rw[F.aw,if_neg (by omega),drop_end (by omega),if_neg (by omega)]
   by_cases h1:s=ByteArray.mk #[]<;>simp[h1,wordy]
  |succ n ih=>
   intro p f hp hf
   obtain⟨f,rfl⟩: ∃f',f=f'+1:=⟨f-1,by omega⟩
   by_cases hp2:p<s.size
   ·rw[F.aw,if_pos hp2,drop_bat hp2]
    rcases Nat.lt_or_ge (Z.bat s p).toNat 128 with hc|hc
    ·rw[dec_lt hc]
     have ih1:=ih (p+1) f (by omega) (by omega)
     rw[if_neg (fun h=>by omega)]at ih1
     simp only[ih1]
     have e1:(bif decide ((97:Int)≤((Z.bat s p).toNat:Int))then decide (((Z.bat s p).toNat:Int)≤122)else false)=decide ((97:Int)≤((Z.bat s p).toNat:Int)∧((Z.bat s p).toNat:Int)≤122):=by by_cases h:(97:Int)≤((Z.bat s p).toNat:Int)<;>simp[h]
     have e2:(bif decide ((65:Int)≤((Z.bat s p).toNat:Int))then decide (((Z.bat s p).toNat:Int)≤90)else false)=decide ((65:Int)≤((Z.bat s p).toNat:Int)∧((Z.bat s p).toNat:Int)≤90):=by by_cases h:(65:Int)≤((Z.bat s p).toNat:Int)<;>simp[h]
     rw[e1,e2]
     by_cases hL:letter (Z.bat s p)=true
     ·have hL':=hL
      simp only[letter,decide_eq_true_eq]at hL'
      have e3:(if p=0∧0<s.size then letter (Z.bat s 0)else true)=true:=by split;rename_i h;rw[←h.1];exact hL;rfl
      rw[e3]
      simp only[wordy,List.all_cons,hL,Bool.true_or,Bool.true_and]
      by_cases h1:(97:Int)≤((Z.bat s p).toNat:Int)∧((Z.bat s p).toNat:Int)≤122
      ·simp[h1]
      ·have h2:=hL'.resolve_left h1
       simp[h1,h2]
     ·have hL':=hL
      simp only[letter,decide_eq_true_eq,not_or]at hL'
      rw[Bool.not_eq_true]at hL
      simp only[hL'.1,hL'.2,decide_false,Bool.false_eq_true,if_false,Bool.not_false,if_true]
      simp only[wordy,List.all_cons,hL,Bool.false_or]
      by_cases h0:p=0
      ·subst h0;simp[hp2,hL]
      ·have h0': ¬(p:Int)=0:=by omega
       simp only[h0,h0',decide_false,cond_false,false_and,if_false,Bool.true_and]
       by_cases hd:digit (Z.bat s p)=true
       ·have hd':=hd
        simp only[digit,decide_eq_true_eq]at hd'
        have a1: ¬((Z.bat s p).toNat:Int)<48:=by omega
        have a2: ¬(57:Int)<((Z.bat s p).toNat:Int):=by omega
        simp[a1,a2,hd]
       ·have hd':=hd
        simp only[digit,decide_eq_true_eq]at hd'
        rw[Bool.not_eq_true]at hd
        by_cases a1:((Z.bat s p).toNat:Int)<48
        ·simp[a1,hd]
        ·have a2:(57:Int)<((Z.bat s p).toNat:Int):=by omega
         simp[a1,a2,hd]
    ·have hd:=dec_ge hc
     have hL:letter (Z.bat s p)=false:=by unfold letter;rw[decide_eq_false_iff_not];omega
     have hD:digit (Z.bat s p)=false:=by unfold digit;rw[decide_eq_false_iff_not];omega
     have b1: ¬((Utf8.decode s p).1:Int)≤122:=by omega
     have b2: ¬((Utf8.decode s p).1:Int)≤90:=by omega
     have b3:(57:Int)<((Utf8.decode s p).1:Int):=by omega
     have b4: ¬((Utf8.decode s p).1:Int)<48:=by omega
     simp[b1,b2,b3,b4,wordy,hL,hD]
   ·rw[F.aw,if_neg hp2,drop_end hp2,if_neg (by omega)]
    by_cases h1:s=ByteArray.mk #[]<;>simp[h1,wordy]
 unfold F.bn
 rw[loop s.size 0 A.FU (by omega) (by have:=FU_big;omega)]
 unfold named
 by_cases h1:s=ByteArray.mk #[]
 ·simp[h1]
 ·have h0:=size_pos h1
  simp only[h0,and_self,if_true,List.drop_zero,ne_eq,h1,not_false_eq_true,decide_true,Bool.true_and]
  congr 1
  cases letter (Z.bat s 0)<;>cases wordy s.data.toList<;>simp
end Go.Proofs.YtbdlcighhphaoaaDoor
end
section
set_option maxRecDepth 20000
set_option linter.unusedVariables false
set_option linter.unusedSimpArgs false
namespace Go.Proofs.YtbdlcighhphaoaaDoor
open Go.RowKit Go.Graph
theorem tail_eq (c:UInt8):F.b4 c=some (tail5 c):=by
 unfold F.b4 tail5
 by_cases h1:(128:Int)≤(c.toNat:Int)<;>by_cases h2:(c.toNat:Int)≤191<;>simp[h1,h2]
theorem ixk (s:ByteArray)(p k:Nat):A.ix s.data.toList ((p:Int)+(k:Int))=if p+k<s.size then some (Z.bat s (p+k))else none:=by
 have e:(p:Int)+(k:Int)=((p+k:Nat):Int):=by omega
 rw[e]
 by_cases h:p+k<s.size
 ·rw[if_pos h];exact ixb h
 ·rw[if_neg h,A.ix_nat];exact List.getElem?_eq_none (by rw[size_list];omega)
def wid (s:ByteArray)(p:Nat):Nat:=if Utf8.decode s p=(65533,1)then 0 else(Utf8.decode s p).2
theorem wid_le {s:ByteArray}{p:Nat}(h:p<s.size):p+wid s p≤s.size:=by
 unfold wid
 split
 ·omega
 ·rw[dec_at]
  unfold Lib.decodeN
  repeat' split
  all_goals simp only[]
  all_goals omega
def widN (n a b c d:Nat):Nat:=
 if a<128 then 1
 else if(194≤a∧a≤223)∧2≤n∧(128≤b∧b≤191)then 2
 else if(224≤a∧a≤239)∧3≤n∧(128≤b∧b≤191)∧(128≤c∧c≤191)∧¬(a=224∧b<160)∧¬(a=237∧159<b)then 3
 else if(240≤a∧a≤244)∧4≤n∧(128≤b∧b≤191)∧(128≤c∧c≤191)∧(128≤d∧d≤191)∧¬(a=240∧b<144)∧¬(a=244∧143<b)then 4
 else 0
theorem pq (c:Prop)[Decidable c](x w:Nat)(hw:w≠1):(if(if c then(x,w)else(65533,1))=(65533,1)then 0 else(if c then(x,w)else(65533,1)).2)=if c then w else 0:=by
 by_cases h:c<;>simp[h,hw]
theorem widN_eq (n a b c d:Nat)(ha:a<256)(hb:b<256)(hc:c<256)(hd:d<256):(if Lib.decodeN n a b c d=(65533,1)then 0 else(Lib.decodeN n a b c d).2)=widN n a b c d:=by
 unfold Lib.decodeN widN
 by_cases h0:a<128
 ·simp only[h0,if_true,Prod.mk.injEq];rw[if_neg (by omega)]
 ·simp only[h0,if_false]
  by_cases h1:a / 32=6∧1<n∧b / 64=2
  ·simp only[if_pos h1]
   rw[pq _ _ _ (by decide)]
   repeat' split
   all_goals omega
  ·simp only[if_neg h1]
   by_cases h3:a / 16=14∧(1<n∧b / 64=2)∧2<n∧c / 64=2
   ·simp only[if_pos h3]
    rw[pq _ _ _ (by decide)]
    repeat' split
    all_goals omega
   ·simp only[if_neg h3]
    by_cases h5:a / 8=30∧(1<n∧b / 64=2)∧(2<n∧c / 64=2)∧3<n∧d / 64=2
    ·simp only[if_pos h5]
     rw[pq _ _ _ (by decide)]
     repeat' split
     all_goals omega
    ·simp only[if_neg h5,if_true]
     repeat' split
     all_goals omega
theorem wid_N (s:ByteArray)(p:Nat):wid s p=widN (s.size-p) (Z.bat s p).toNat (Z.bat s (p+1)).toNat (Z.bat s (p+2)).toNat (Z.bat s (p+3)).toNat:=by
 rw[←widN_eq _ _ _ _ _ (UInt8.toNat_lt _) (UInt8.toNat_lt _) (UInt8.toNat_lt _) (UInt8.toNat_lt _),←dec_at];rfl
theorem cnd {α:Type}{p:Prop}[Decidable p](x y:α):(bif decide p then x else y)=if p then x else y:=by by_cases h:p<;>simp[h]
set_option maxHeartbeats 4000000 in
theorem width_eq (s:ByteArray)(p:Nat)(hp:p<s.size)(hs:s.size≤5000):F.cZ s p=some (wid s p:Int):=by
 have i1:A.ix s.data.toList ((p:Int)+1)=if p+1<s.size then some (Z.bat s (p+1))else none:=ixk s p 1
 have i2:A.ix s.data.toList ((p:Int)+2)=if p+2<s.size then some (Z.bat s (p+2))else none:=ixk s p 2
 have i3:A.ix s.data.toList ((p:Int)+3)=if p+3<s.size then some (Z.bat s (p+3))else none:=ixk s p 3
 have r1:Z.R64 ((p:Int)+1):=⟨by omega,by omega⟩
 have r2:Z.R64 ((p:Int)+2):=⟨by omega,by omega⟩
 have r3:Z.R64 ((p:Int)+3):=⟨by omega,by omega⟩
 unfold F.cZ
 rw[A.gd1 ⟨by omega,by omega⟩,ixb hp,Option.bind_some,A.gd1 r1,i1,wid_N]
 generalize Z.bat s p=c0 at*
 generalize Z.bat s (p+1)=c1 at*
 generalize Z.bat s (p+2)=c2 at*
 generalize Z.bat s (p+3)=c3 at*
 have t (c:UInt8):tail5 c=decide (128≤c.toNat∧c.toNat≤191):=by unfold tail5;congr 1;exact propext ⟨fun h=>by omega,fun h=>by omega⟩
 by_cases h1:(1:Int)<(s.size:Int)-(p:Int)
 ·rw[if_pos h1,if_pos (by omega),Option.bind_some]
  simp only[F.cn,F.cm,F.b5,F.bJ,tail_eq,Option.bind_some,t,A.gd1 r2,A.gd1 r3,i2,i3]
  unfold widN
  generalize hn:s.size-p=n
  have e2:((2:Int)≤(s.size:Int)-(p:Int))=(2≤n):=propext ⟨fun h=>by omega,fun h=>by omega⟩
  have e3:((3:Int)≤(s.size:Int)-(p:Int))=(3≤n):=propext ⟨fun h=>by omega,fun h=>by omega⟩
  have e4:((4:Int)≤(s.size:Int)-(p:Int))=(4≤n):=propext ⟨fun h=>by omega,fun h=>by omega⟩
  have f2:(p+2<s.size)=(3≤n):=propext ⟨fun h=>by omega,fun h=>by omega⟩
  have f3:(p+3<s.size)=(4≤n):=propext ⟨fun h=>by omega,fun h=>by omega⟩
  have hn2:2≤n:=by omega
  simp only[e2,e3,e4,f2,f3,A.ba,decide_eq_true_eq,hn2,and_true,true_and]
  have q0:((c0.toNat:Int)<128)=(c0.toNat<128):=propext ⟨fun h=>by omega,fun h=>by omega⟩
  have q1:((194:Int)≤(c0.toNat:Int)∧(c0.toNat:Int)≤223)=(194≤c0.toNat∧c0.toNat≤223):=propext ⟨fun h=>by omega,fun h=>by omega⟩
  have q2:((224:Int)≤(c0.toNat:Int)∧(c0.toNat:Int)≤239)=(224≤c0.toNat∧c0.toNat≤239):=propext ⟨fun h=>by omega,fun h=>by omega⟩
  have q3:((240:Int)≤(c0.toNat:Int)∧(c0.toNat:Int)≤244)=(240≤c0.toNat∧c0.toNat≤244):=propext ⟨fun h=>by omega,fun h=>by omega⟩
  have q4:((c0.toNat:Int)=224∧(c1.toNat:Int)<160)=(c0.toNat=224∧c1.toNat<160):=propext ⟨fun h=>by omega,fun h=>by omega⟩
  have q5:((c0.toNat:Int)=237∧(159:Int)<(c1.toNat:Int))=(c0.toNat=237∧159<c1.toNat):=propext ⟨fun h=>by omega,fun h=>by omega⟩
  have q6:((c0.toNat:Int)=240∧(c1.toNat:Int)<144)=(c0.toNat=240∧c1.toNat<144):=propext ⟨fun h=>by omega,fun h=>by omega⟩
  have q7:((c0.toNat:Int)=244∧(143:Int)<(c1.toNat:Int))=(c0.toNat=244∧143<c1.toNat):=propext ⟨fun h=>by omega,fun h=>by omega⟩
  simp only[q0,q1,q2,q3,q4,q5,q6,q7]
  have x1:240≤c0.toNat∧c0.toNat≤244→¬(224≤c0.toNat∧c0.toNat≤239):=fun h h2=>by omega
  have x2:240≤c0.toNat∧c0.toNat≤244→¬(194≤c0.toNat∧c0.toNat≤223):=fun h h2=>by omega
  have x3:224≤c0.toNat∧c0.toNat≤239→¬(194≤c0.toNat∧c0.toNat≤223):=fun h h2=>by omega
  by_cases K0:c0.toNat<128
  ·simp[K0]
  by_cases m1:128≤c1.toNat∧c1.toNat≤191
  ·by_cases K1:194≤c0.toNat∧c0.toNat≤223
   ·simp only[if_neg K0,if_pos K1,if_pos m1,K1,m1,and_self,if_true];rfl
   ·by_cases K2:224≤c0.toNat∧c0.toNat≤239
    ·have K3: ¬(240≤c0.toNat∧c0.toNat≤244):=fun h=>x1 h K2
     by_cases k3:3≤n
     ·by_cases m2:128≤c2.toNat∧c2.toNat≤191
      ·by_cases y1:c0.toNat=224∧c1.toNat<160
       ·simp only[if_neg K0,if_neg K1,if_pos (And.intro K2 k3),if_pos m1,if_pos k3,Option.bind_some,if_pos m2,eq_true y1,if_true,false_and,K1,K3,eq_true y1,not_true_eq_false,and_false,if_false];rfl
       ·by_cases y2:c0.toNat=237∧159<c1.toNat
        ·simp only[if_neg K0,if_neg K1,if_pos (And.intro K2 k3),if_pos m1,if_pos k3,Option.bind_some,if_pos m2,if_neg y1,eq_true y2,if_true,false_and,K1,K3,eq_true y2,not_true_eq_false,and_false,if_false];rfl
        ·simp only[if_neg K0,if_neg K1,if_pos (And.intro K2 k3),if_pos m1,if_pos k3,Option.bind_some,if_pos m2,if_neg y1,if_neg y2,false_and,K1,K2,k3,m1,m2,y1,y2,not_false_eq_true,and_self,if_true,if_false];rfl
      ·simp only[if_neg K0,if_neg K1,if_pos (And.intro K2 k3),if_pos m1,if_pos k3,Option.bind_some,if_neg m2,if_neg K3,false_and,K1,K3,m2,and_false,if_false,Bool.false_eq_true];rfl
     ·simp only[if_neg K0,if_neg K1,k3,and_false,if_neg K3,false_and,K1,K3,if_false];rfl
    ·by_cases K3:240≤c0.toNat∧c0.toNat≤244
     ·by_cases k4:4≤n
      ·have k3:3≤n:=by omega
       by_cases m2:128≤c2.toNat∧c2.toNat≤191
       ·by_cases m3:128≤c3.toNat∧c3.toNat≤191
        ·by_cases y1:c0.toNat=240∧c1.toNat<144
         ·simp only[if_neg K0,if_neg K1,if_neg K2,K2,false_and,if_pos (And.intro K3 k4),if_pos m1,if_pos k3,if_pos k4,Option.bind_some,if_pos m2,if_pos m3,eq_true y1,if_true,K1,eq_true y1,not_true_eq_false,and_false,if_false];rfl
         ·by_cases y2:c0.toNat=244∧143<c1.toNat
          ·simp only[if_neg K0,if_neg K1,if_neg K2,K2,false_and,if_pos (And.intro K3 k4),if_pos m1,if_pos k3,if_pos k4,Option.bind_some,if_pos m2,if_pos m3,if_neg y1,eq_true y2,if_true,K1,eq_true y2,not_true_eq_false,and_false,if_false];rfl
          ·simp only[if_neg K0,if_neg K1,if_neg K2,K2,false_and,if_pos (And.intro K3 k4),if_pos m1,if_pos k3,if_pos k4,Option.bind_some,if_pos m2,if_pos m3,if_neg y1,if_neg y2,K1,K3,k4,m1,m2,m3,y1,y2,not_false_eq_true,and_self,if_true,if_false];rfl
        ·simp only[if_neg K0,if_neg K1,if_neg K2,K2,false_and,if_pos (And.intro K3 k4),if_pos m1,if_pos k3,if_pos k4,Option.bind_some,if_pos m2,if_neg m3,K1,m3,and_false,if_false,Bool.false_eq_true];rfl
       ·simp only[if_neg K0,if_neg K1,if_neg K2,K2,false_and,if_pos (And.intro K3 k4),if_pos m1,if_pos k3,Option.bind_some,if_neg m2,K1,m2,and_false,if_false,Bool.false_eq_true];rfl
      ·simp only[if_neg K0,if_neg K1,if_neg K2,K2,false_and,k4,and_false,K1,if_false];rfl
     ·simp only[if_neg K0,if_neg K1,if_neg K2,if_neg K3,K1,K2,K3,false_and,if_false];rfl
  ·simp[K0,m1]
 ·rw[if_neg h1]
  simp only[F.cn,F.cm,F.b5,F.bJ,A.ba,decide_eq_true_eq]
  unfold widN
  have w0:(c0.toNat:Int)<128↔c0.toNat<128:=⟨fun h=>by omega,fun h=>by omega⟩
  by_cases h2:c0.toNat<128
  ·rw[if_pos (w0.2 h2),if_pos h2];rfl
  ·have a1: ¬((194≤c0.toNat∧c0.toNat≤223)∧2≤s.size-p∧128≤c1.toNat∧c1.toNat≤191):=fun h=>by omega
   have a2: ¬((224≤c0.toNat∧c0.toNat≤239)∧3≤s.size-p∧(128≤c1.toNat∧c1.toNat≤191)∧(128≤c2.toNat∧c2.toNat≤191)∧¬(c0.toNat=224∧c1.toNat<160)∧¬(c0.toNat=237∧159<c1.toNat)):=fun h=>by omega
   have a3: ¬((240≤c0.toNat∧c0.toNat≤244)∧4≤s.size-p∧(128≤c1.toNat∧c1.toNat≤191)∧(128≤c2.toNat∧c2.toNat≤191)∧(128≤c3.toNat∧c3.toNat≤191)∧¬(c0.toNat=240∧c1.toNat<144)∧¬(c0.toNat=244∧143<c1.toNat)):=fun h=>by omega
   rw[if_neg (fun h=>h2 (w0.1 h)),if_neg h2,if_neg a1,if_neg a2,if_neg a3]
   simp only[Bool.false_eq_true,if_false]
   rw[if_neg (fun h=>by omega),if_neg (fun h=>by omega),if_neg (fun h=>by omega)];rfl
def vld (s:ByteArray):Nat→Nat→Bool
 |0,_=>true
 |n+1,p=>if p<s.size then(if wid s p=0 then false else vld s n (p+wid s p))else true
def cnt (s:ByteArray):Nat→Nat→Nat
 |0,_=>0
 |n+1,p=>if p<s.size then 1+cnt s n (p+(Utf8.decode s p).2)else 0
theorem wid_4 (s:ByteArray)(p:Nat):wid s p≤4:=by
 rw[wid_N];unfold widN;repeat' split
 all_goals omega
theorem wid_dec {s:ByteArray}{p:Nat}(h:wid s p≠0):(Utf8.decode s p).2=wid s p:=by
 unfold wid at h ⊢;split at h
 ·exact absurd rfl h
 ·rename_i h2;rw[if_neg h2]
theorem Valid_eq (s:ByteArray)(hs:s.size≤5000):F.di s=some (vld s s.size 0):=by
 have loop: ∀(n p f:Nat),s.size-p≤n→n<f→p≤5010→F.b6 s f (p:Int)=some (vld s n p):=by
  intro n
  induction n with
  |zero=>
   intro p f hp hf _
   obtain⟨f,rfl⟩: ∃f',f=f'+1:=⟨f-1,by omega⟩
   rw[F.b6,if_neg (by omega)];rfl
  |succ n ih=>
   intro p f hp hf hp5
   obtain⟨f,rfl⟩: ∃f',f=f'+1:=⟨f-1,by omega⟩
   rw[F.b6,vld]
   by_cases h:p<s.size
   ·rw[if_pos (by omega),if_pos h,width_eq s p h hs,Option.bind_some]
    have:=wid_le h
    by_cases hw:wid s p=0
    ·rw[if_pos (by omega),if_pos hw]
    ·rw[if_neg (by omega),if_neg hw,A.gd1 ⟨by omega,by omega⟩]
     have e:(p:Int)+(wid s p:Int)=((p+wid s p:Nat):Int):=by omega
     rw[e];exact ih _ f (by omega) (by omega) (by omega)
   ·rw[if_neg (by omega),if_neg h]
 exact loop s.size 0 A.FU (by omega) (by have:=FU_big;omega) (by omega)
theorem validD_eq (s:ByteArray):Lib.validD s.data.toList=vld s s.size 0:=by
 have loop: ∀(n p:Nat),Lib.validGoD n (s.data.toList.drop p)=vld s n p:=by
  intro n
  induction n with
  |zero=>intro p;rfl
  |succ n ih=>
   intro p
   rw[Lib.validGoD,vld]
   by_cases h:p<s.size
   ·have hne:s.data.toList.drop p≠[]:=by rw[drop_bat h];simp
    rw[if_neg hne,if_pos h,Lib.decodeL_drop,List.drop_drop]
    by_cases hw:Utf8.decode s p=(65533,1)
    ·rw[if_pos (by rw[hw];exact⟨rfl,rfl⟩),if_pos (by unfold wid;rw[if_pos hw])]
    ·have e:wid s p=(Utf8.decode s p).2:=by unfold wid;rw[if_neg hw]
     rw[if_neg (fun h2=>hw (Prod.ext h2.1 h2.2)),if_neg (by rw[e];have:=width_pos s p;omega),ih,e]
   ·rw[if_pos (drop_end h),if_neg h]
 have:=loop s.size 0
 rw[List.drop_zero]at this
 exact this
theorem Runes_eq (s:ByteArray)(hs:s.size≤5000)(hv:vld s s.size 0=true): ∃l,F.dz s=some l∧l.length=cnt s s.size 0:=by
 have loop: ∀(n p f:Nat) (xs:List (Int×Int)),s.size-p≤n→n<f→xs.length≤p→p≤5010→vld s n p=true→∃l,F.aL s f xs (p:Int)=some l∧l.length=xs.length+cnt s n p:=by
  intro n
  induction n with
  |zero=>
   intro p f xs hp hf _ _ _
   obtain⟨f,rfl⟩: ∃f',f=f'+1:=⟨f-1,by omega⟩
   rw[F.aL,if_neg (by omega)];exact⟨_,rfl,rfl⟩
  |succ n ih=>
   intro p f xs hp hf hxs hp5 hv
   obtain⟨f,rfl⟩: ∃f',f=f'+1:=⟨f-1,by omega⟩
   rw[F.aL]
   rw[vld]at hv
   rw[cnt]
   by_cases h:p<s.size
   ·rw[if_pos h]at hv
    have hl:=wid_le h
    have h4:=wid_4 s p
    by_cases hw:wid s p=0
    ·rw[if_pos hw]at hv;cases hv
    rw[if_neg hw]at hv
    have hj: ∀(w c:Int),w=(wid s p:Int)→∃l,F.bu (F.aL s f) xs (p:Int) w c=some l∧l.length=xs.length+(1+cnt s n (p+(Utf8.decode s p).2)):=fun w c hwc=>by
     subst hwc
     rw[F.bu,A.gd1 (by simp only[List.length_cons,List.length_nil];omega),A.gd1 ⟨by omega,by omega⟩,wid_dec hw]
     have e:(p:Int)+(wid s p:Int)=((p+wid s p:Nat):Int):=by omega
     rw[e]
     obtain⟨l,h1,h2⟩:=ih (p+wid s p) f (xs++[((p:Int),c)]) (by omega) (by omega) (by simp only[List.length_append,List.length_cons,List.length_nil];omega) (by omega) hv
     exact⟨l,h1,by rw[h2,List.length_append];simp only[List.length_cons,List.length_nil];omega⟩
    have i0:=ixb (s:=s) h
    have i1:A.ix s.data.toList ((p:Int)+1)=if p+1<s.size then some (Z.bat s (p+1))else none:=ixk s p 1
    have i2:A.ix s.data.toList ((p:Int)+2)=if p+2<s.size then some (Z.bat s (p+2))else none:=ixk s p 2
    have i3:A.ix s.data.toList ((p:Int)+3)=if p+3<s.size then some (Z.bat s (p+3))else none:=ixk s p 3
    have r1:Z.R64 ((p:Int)+1):=⟨by omega,by omega⟩
    have r2:Z.R64 ((p:Int)+2):=⟨by omega,by omega⟩
    have r3:Z.R64 ((p:Int)+3):=⟨by omega,by omega⟩
    rw[if_pos (by omega),if_pos h,width_eq s p h hs,Option.bind_some]
    by_cases w1:wid s p=1
    ·rw[if_pos (by omega),i0,Option.bind_some];exact hj _ _ rfl
    rw[if_neg (by omega)]
    by_cases w2:wid s p=2
    ·rw[if_pos (by omega),A.gd1 r1,i0,Option.bind_some,A.gd1 (by decide),i1,if_pos (by omega),Option.bind_some,A.gd1 (by decide)];exact hj _ _ rfl
    rw[if_neg (by omega)]
    by_cases w3:wid s p=3
    ·rw[if_pos (by omega),A.gd1 ⟨r1,r2⟩,i0,Option.bind_some,A.gd1 (by decide),i1,if_pos (by omega),Option.bind_some,A.gd1 (by decide),i2,if_pos (by omega),Option.bind_some,A.gd1 (by decide)];exact hj _ _ rfl
    rw[if_neg (by omega),if_pos (by omega),A.gd1 ⟨r1,r2,r3⟩,i0,Option.bind_some,A.gd1 (by decide),i1,if_pos (by omega),Option.bind_some,A.gd1 (by decide),i2,if_pos (by omega),Option.bind_some,A.gd1 (by decide),i3,if_pos (by omega),Option.bind_some,A.gd1 (by decide)];exact hj _ _ rfl
   ·rw[if_neg (by omega),if_neg h];exact⟨_,rfl,rfl⟩
 obtain⟨l,h1,h2⟩:=loop s.size 0 A.FU [] (by omega) (by have:=FU_big;omega) (by simp) (by omega) hv
 exact⟨l,h1,by simpa using h2⟩
theorem single_eq (s:ByteArray)(hs:s.size≤9223372036854775807):F.cD s=some (if cnt s s.size 0=1 then vld s s.size 0 else false):=by
 have loop: ∀(n p f:Nat) (y:Int),s.size-p≤n→n<f→0≤y→y+n≤9223372036854775807→F.bt s f p y=some (if y+(cnt s n p:Int)=1 then vld s s.size 0 else false):=by
  intro n
  induction n with
  |zero=>
   intro p f y hp hf _ _
   obtain⟨f,rfl⟩: ∃f',f=f'+1:=⟨f-1,by omega⟩
   rw[F.bt,if_neg (by omega),F.a8,validD_eq,Option.bind_some]
   simp only[F.bE]
   have e:y+(cnt s 0 p:Int)=y:=by rw[cnt];omega
   by_cases h:y=1
   ·rw[if_pos h,if_pos (by omega)]
   ·rw[if_neg h,if_neg (by omega)]
  |succ n ih=>
   intro p f y hp hf h0 h2
   obtain⟨f,rfl⟩: ∃f',f=f'+1:=⟨f-1,by omega⟩
   rw[F.bt,cnt]
   by_cases h:p<s.size
   ·rw[if_pos h,if_pos h,A.gd1 ⟨by omega,by omega⟩]
    have hw:=width_pos s p
    rw[ih _ f (y+1) (by omega) (by omega) (by omega) (by omega)]
    congr 2
    exact propext ⟨fun h=>by omega,fun h=>by omega⟩
   ·rw[if_neg h,if_neg h,F.a8,validD_eq,Option.bind_some]
    simp only[F.bE]
    by_cases h:y=1
    ·rw[if_pos h,if_pos (by omega)]
    ·rw[if_neg h,if_neg (by omega)]
 unfold F.cD
 rw[loop s.size 0 A.FU 0 (by omega) (by have:=FU_big;omega) (by omega) (by omega)]
 congr 2
 exact propext ⟨fun h=>by omega,fun h=>by omega⟩
theorem one_small {s:ByteArray}(h1:cnt s s.size 0=1)(h2:vld s s.size 0=true):s.size≤4:=by
 generalize hn:s.size=n at h1 h2
 cases n with
 |zero=>omega
 |succ n=>
  rw[cnt,if_pos (by omega)]at h1
  rw[vld,if_pos (by omega)]at h2
  by_cases hw:wid s 0=0
  ·rw[if_pos hw]at h2;cases h2
  rw[wid_dec hw]at h1
  have:=wid_4 s 0
  cases n with
  |zero=>omega
  |succ n=>
   rw[cnt]at h1
   by_cases h3:0+wid s 0<s.size
   ·rw[if_pos h3]at h1;omega
   ·omega
end Go.Proofs.YtbdlcighhphaoaaDoor
end
section
set_option linter.unusedVariables false
set_option linter.unusedSimpArgs false
set_option synthInstance.maxSize 1000000
set_option synthInstance.maxHeartbeats 400000
namespace Go.Proofs.YtbdlcighhphaoaaDoor
open Go.RowKit Go.Graph
def textP (f:Fun):Bool:=if f.1=5 then decide (f.2.2≠ByteArray.mk #[])&&decide ((f.2.2.size:Int)≤16)&&vld f.2.2 f.2.2.size 0 else if f.1=12∨f.1=22 then decide (cnt f.2.2 f.2.2.size 0=1)&&vld f.2.2 f.2.2.size 0 else decide (f.2.2=ByteArray.mk #[])
theorem number_eq (f:Fun):F.cC f=some (numberF f):=by
 unfold F.cC F.b1 F.b0 numberF
 simp only[A.ba,decide_eq_true_eq]
 by_cases h3:f.1=3
 ·simp[h3]
 ·by_cases h13:f.1=13
  ·simp[h13]
  ·by_cases h6:f.1=6
   ·simp[h6]
   ·by_cases h11:f.1=11<;>simp[h3,h13,h6,h11]
theorem R06_number_eq (f:Fun):F.dv f=some (numberF f):=number_eq f
theorem text_eq (f:Fun)(hs:f.2.2.size≤9223372036854775807):F.da f=some (textP f):=by
 unfold F.da textP
 simp only[F.ch,F.ci,A.ba,single_eq _ hs,F.a8,validD_eq,Option.bind_some,decide_eq_true_eq]
 by_cases h5:f.1=5
 ·simp only[h5,if_true]
  by_cases h1:f.2.2=ByteArray.mk #[]<;>by_cases h2:(f.2.2.size:Int)≤16<;>simp[h1,h2]
 ·by_cases h12:f.1=12
  ·simp[h12]
  ·by_cases h22:f.1=22<;>simp[h5,h12,h22]
theorem one_le {s:ByteArray}:(1:Int)≤(s.size:Int)↔s≠ByteArray.mk #[]:=by
 constructor
 ·intro h e;subst e;exact absurd h (by decide)
 ·intro h;have:=size_pos h;omega
theorem R06_text_eq (f:Fun)(hs:f.2.2.size≤5000):F.dt f=some (textP f):=by
 have hj: ∀y,F.cB f y=some (if y=true then decide (cnt f.2.2 f.2.2.size 0=1)&&vld f.2.2 f.2.2.size 0 else decide (f.2.2=ByteArray.mk #[])):=by
  intro y
  unfold F.cB
  simp only[F.cA,Valid_eq _ hs,Option.bind_some]
  cases y with
  |false=>simp
  |true=>
   simp only[if_true]
   by_cases h4:(f.2.2.size:Int)≤4
   ·rw[if_pos h4]
    cases hv:vld f.2.2 f.2.2.size 0 with
    |true=>
     obtain⟨l,h1,h2⟩:=Runes_eq f.2.2 hs hv
     rw[if_pos rfl,h1,Option.bind_some,Bool.and_true]
     congr 2
     rw[h2];exact propext ⟨fun h=>by omega,fun h=>by omega⟩
    |false=>simp
   ·rw[if_neg h4]
    congr 1
    cases hv:vld f.2.2 f.2.2.size 0 with
    |false=>simp
    |true=>
     by_cases h1:cnt f.2.2 f.2.2.size 0=1
     ·have:=one_small h1 hv;omega
     ·simp[h1]
 unfold F.dt textP
 simp only[F.c8,hj,A.ba,Valid_eq _ hs,Option.bind_some,decide_eq_true_eq,one_le]
 by_cases h5:f.1=5
 ·simp only[h5,if_true]
  by_cases h1:f.2.2=ByteArray.mk #[]<;>by_cases h2:(f.2.2.size:Int)≤16<;>simp[h1,h2]
 ·by_cases h12:f.1=12
  ·simp[h12]
  ·by_cases h22:f.1=22<;>simp[h5,h12,h22]
def anyF (f:Fun)(l:List Int):Int:=if l.any (fun y=>decide (y=f.1)&&(numberF f&&textP f))=true then 0 else 60
def kinds (k:Int):List Int:=if k=2 then [1,2,3,4,5,6,7,8]else if k=3 then [11,12,13]else if k=4 then [21,22]else if k=8 then [31,32,33,34]else if k=11 then [41,42]else []
def chk (k:Int)(f:Fun):Int:=if kinds k=[]then(if f=(0,0,ByteArray.mk #[])then 0 else 60)else anyF f (kinds k)
theorem chk_l (f:Fun)(hs:f.2.2.size≤9223372036854775807): ∀l,F.aV f l=some (anyF f l)
 | []=>rfl
 |y::l=>by
  have ih:=chk_l f hs l
  unfold F.aV
  simp only[F.bX,number_eq,text_eq _ hs,Option.bind_some,ih,anyF,List.any_cons]
  by_cases h:y=f.1
  ·subst h
   cases hn:numberF f<;>cases ht:textP f<;>simp
  ·simp[h]
theorem fn_Check_eq (k:Int)(f:Fun)(hs:f.2.2.size≤9223372036854775807):F.cx k f=some (chk k f):=by
 have u2:F.bc 1 8=some [1,2,3,4,5,6,7,8]:=by kernel_rfl
 have u3:F.bc 11 13=some [11,12,13]:=by kernel_rfl
 have u4:F.bc 21 22=some [21,22]:=by kernel_rfl
 have u8:F.bc 31 34=some [31,32,33,34]:=by kernel_rfl
 have u11:F.bc 41 42=some [41,42]:=by kernel_rfl
 unfold F.cx F.dq F.c9 chk kinds
 by_cases h2:k=2
 ·simp[h2,u2,chk_l f hs]
 ·by_cases h3:k=3
  ·simp[h3,u3,chk_l f hs]
  ·by_cases h4:k=4
   ·simp[h4,u4,chk_l f hs]
   ·by_cases h8:k=8
    ·simp[h8,u8,chk_l f hs]
    ·by_cases h11:k=11
     ·simp[h11,u11,chk_l f hs]
     ·simp only[h2,h3,h4,h8,h11,if_false,Option.bind_some]
      rw[if_pos (by decide),if_pos trivial]
      by_cases hz:f=(0,0,ByteArray.mk #[])
      ·rw[if_neg (fun h=>h hz),if_pos hz]
      ·rw[if_pos hz,if_neg hz]
theorem R06_l (f:Fun)(hs:f.2.2.size≤5000)(l:List Int)(hl:l.length≤100):F.bd f l A.FU 0=some (anyF f l):=
 A.lp0 l (fun n y=>F.bd f l n y) (fun _ t=>some (anyF f t))
  (fun n=>by rw[F.bd,if_neg (by omega)];rfl)
  (fun n k x hx hk ih=>by
   rw[F.bd,if_pos (by omega),A.ixn hx,Option.bind_some]
   simp only[F.co,R06_number_eq,R06_text_eq _ hs,Option.bind_some,ih,A.gd1 (A.r64n (n:=k) (by omega)),anyF,List.any_cons]
   by_cases h:x=f.1
   ·subst h
    cases hn:numberF f<;>cases ht:textP f<;>simp
   ·simp[h])
  (by have:=FU_big;omega)
theorem R06_Check_eq (k:Int)(f:Fun)(hs:f.2.2.size≤5000):F.c0 k f=some (chk k f):=by
 have u2:F.b3 2=some [1,2,3,4,5,6,7,8]:=by kernel_rfl
 have u3:F.b3 3=some [11,12,13]:=by kernel_rfl
 have u4:F.b3 4=some [21,22]:=by kernel_rfl
 have u8:F.b3 8=some [31,32,33,34]:=by kernel_rfl
 have u11:F.b3 11=some [41,42]:=by kernel_rfl
 have u0:F.bB 1 0=some []:=by kernel_rfl
 unfold F.c0 chk kinds
 by_cases h2:k=2
 ·subst h2;rw[u2,Option.bind_some,if_neg (by simp),F.be,if_neg (by simp),R06_l f hs _ (by simp)];simp
 ·by_cases h3:k=3
  ·subst h3;rw[u3,Option.bind_some,if_neg (by simp),F.be,if_neg (by simp),R06_l f hs _ (by simp)];simp
  ·by_cases h4:k=4
   ·subst h4;rw[u4,Option.bind_some,if_neg (by simp),F.be,if_neg (by simp),R06_l f hs _ (by simp)];simp
   ·by_cases h8:k=8
    ·subst h8;rw[u8,Option.bind_some,if_neg (by simp),F.be,if_neg (by simp),R06_l f hs _ (by simp)];simp
    ·by_cases h11:k=11
     ·subst h11;rw[u11,Option.bind_some,if_neg (by simp),F.be,if_neg (by simp),R06_l f hs _ (by simp)];simp
     ·have u:F.b3 k=some []:=by unfold F.b3;simp only[h2,h3,h4,h8,h11,if_false,u0]
      rw[u,Option.bind_some,if_pos (by simp),F.be,R06_l f hs _ (by simp)]
      simp only[h2,h3,h4,h8,h11,if_false,if_true,decide_eq_true_eq,anyF,List.any_nil,Bool.false_eq_true]
      by_cases hz:f=(0,0,ByteArray.mk #[])
      ·rw[if_pos hz,if_pos hz]
      ·rw[if_neg hz,if_neg hz]
def mapOf (g:List Nd):List (Int×Nd):=g.map fun n=>(n.1,n)
def Inc (g:List Nd):Prop:=g.Pairwise fun a b=>a.1<b.1
theorem idxF_cases (z:Nd)(id:Int): ∀(k:Nat) (l:List Nd),(idxF id k l= -1∧(∀n∈l,n.1≠id)∧Z.mget z (mapOf l) id=z∧Z.mhas (mapOf l) id=false)∨(∃j n,idxF id k l=((k+j:Nat):Int)∧l[j]?=some n∧n.1=id∧Z.mget z (mapOf l) id=n∧Z.mhas (mapOf l) id=true)
 |k,[]=>.inl ⟨rfl,by simp,rfl,rfl⟩
 |k,x::r=>by
  unfold idxF mapOf
  simp only[List.map_cons,Z.mget,Z.mhas]
  by_cases h:x.1=id
  ·rw[if_pos h,if_pos h.symm,if_pos h.symm]
   exact .inr ⟨0,x,rfl,rfl,h,rfl,rfl⟩
  ·rw[if_neg h,if_neg (fun e=>h e.symm),if_neg (fun e=>h e.symm)]
   rcases idxF_cases z id (k+1) r with⟨h1,h2,h3,h4⟩|⟨j,n,h1,h2,h3,h4,h5⟩
   ·refine .inl ⟨h1,fun n hn=>?_,h3,h4⟩
    rcases List.mem_cons.1 hn with rfl|hn
    ·exact h
    ·exact h2 n hn
   ·exact .inr ⟨j+1,n,by rw[h1];congr 1;omega,h2,h3,h4,h5⟩
theorem idx_cases (z:Nd)(g:List Nd)(id:Int):(idx g id= -1∧(∀n∈g,n.1≠id)∧Z.mget z (mapOf g) id=z∧Z.mhas (mapOf g) id=false)∨(∃(j:Nat) (n:Nd),idx g id=(j:Int)∧g[j]?=some n∧n.1=id∧Z.mget z (mapOf g) id=n∧Z.mhas (mapOf g) id=true):=by
 have:=idxF_cases z id 0 g
 simp only[Nat.zero_add]at this
 exact this
theorem Inc.lt {g:List Nd}(h:Inc g){i j:Nat}{a b:Nd}(hi:g[i]?=some a)(hj:g[j]?=some b)(hij:i<j):a.1<b.1:=by
 obtain⟨h1,rfl⟩:=List.getElem?_eq_some_iff.1 hi
 obtain⟨h2,rfl⟩:=List.getElem?_eq_some_iff.1 hj
 exact List.pairwise_iff_getElem.1 h i j h1 h2 hij
theorem Inc.inj {g:List Nd}(h:Inc g){i j:Nat}{a b:Nd}(hi:g[i]?=some a)(hj:g[j]?=some b)(e:a.1=b.1):i=j:=by
 rcases Nat.lt_trichotomy i j with h1|h1|h1
 ·have:=h.lt hi hj h1;omega
 ·exact h1
 ·have:=h.lt hj hi h1;omega
theorem Inc.idx {g:List Nd}(h:Inc g){j:Nat}{n:Nd}(hj:g[j]?=some n):Graph.idx g n.1=(j:Int):=by
 rcases idx_cases z0 g n.1 with⟨_,h2,_⟩|⟨i,m,h1,h2,h3,_⟩
 ·exact absurd rfl (h2 n (List.mem_of_getElem? hj))
 ·rw[h1,h.inj h2 hj h3]
theorem Inc.mget {g:List Nd}(h:Inc g){j:Nat}{n z:Nd}(hj:g[j]?=some n):Z.mget z (mapOf g) n.1=n:=by
 rcases idx_cases z g n.1 with⟨_,h2,_⟩|⟨i,m,h1,h2,h3,h4,_⟩
 ·exact absurd rfl (h2 n (List.mem_of_getElem? hj))
 ·have:=h.inj h2 hj h3
  subst this
  rw[h2]at hj;injection hj with hj;rw[h4,hj]
theorem index_eq (g:List Nd)(id:Int)(hg:g.length≤100):F.b8 g id=some (idx g id):=
 A.lp0 g (fun f y=>F.b7 g id f y) (fun k l=>some (idxF id k l))
  (fun f=>by rw[F.b7,if_neg (by omega)];rfl)
  (fun f k x hx hk ih=>by
   rw[F.b7,if_pos (by omega),A.ixn hx,Option.bind_some,idxF]
   by_cases h:x.1=id
   ·rw[if_pos h,if_pos h]
   ·rw[if_neg h,if_neg h,A.gd1 (A.r64n (by omega)),ih])
  (by have:=FU_big;omega)
def ownQ (n:Nd):Bool:=if n.1<1∨255<n.1∨insK n.2.1<0∨(n.2.2.1.length:Int)≠insK n.2.1 then false else if ownC n then false else if n.2.1=1∨n.2.1=15 then named n.2.2.2.2.1 else decide (n.2.2.2.2.1=ByteArray.mk #[])
theorem outside_eq (k:Int):F.aO k=some (decide (k=1∨k=15)):=by
 unfold F.aO;rw[A.bo]
theorem gIns_eq (k:Int):F.ce k=some (insK k):=(Ins_eq k).trans (R08_Ins_eq k)
theorem own_eq (n:Nd)(hs:n.2.2.2.2.1.size≤9223372036854775807):F.cf n=some (ownQ n):=by
 have hj: ∀y,F.bD n y=some (if y=true then false else if ownC n then false else if n.2.1=1∨n.2.1=15 then named n.2.2.2.2.1 else decide (n.2.2.2.2.1=ByteArray.mk #[])):=by
  intro y
  unfold F.bD F.bC ownC
  cases y with
  |true=>simp
  |false=>
   simp only[Bool.false_eq_true,if_false,A.bo,decide_eq_true_eq,outside_eq,Option.bind_some,named_eq _ hs,A.bn]
   by_cases h14:n.2.1=14
   ·simp only[h14,if_true,true_and,not_true_eq_false,ne_eq,false_and,or_false,if_false]
    by_cases hc:n.2.2.2.2.2.1<1∨8<n.2.2.2.2.2.1∨n.2.2.2.2.2.2<1∨4<n.2.2.2.2.2.2
    ·have hc':((n.2.2.2.2.2.1<1∨8<n.2.2.2.2.2.1)∨n.2.2.2.2.2.2<1)∨4<n.2.2.2.2.2.2:=by omega
     rw[if_pos hc',if_pos hc]
    ·have hc': ¬(((n.2.2.2.2.2.1<1∨8<n.2.2.2.2.2.1)∨n.2.2.2.2.2.2<1)∨4<n.2.2.2.2.2.2):=by omega
     rw[if_neg hc',if_neg hc]
     simp
   ·simp only[h14,if_false,false_and,not_false_eq_true,ne_eq,true_and,false_or,if_true]
    by_cases hc: ¬n.2.2.2.2.2.1=0∨¬n.2.2.2.2.2.2=0
    ·rw[if_pos hc,if_pos hc]
    ·rw[if_neg hc,if_neg hc]
     by_cases ho:n.2.1=1∨n.2.1=15
     ·rw[if_pos ho,if_pos ho]
     ·rw[if_neg ho,if_neg ho]
 unfold F.cf ownQ
 simp only[gIns_eq,Option.bind_some,hj,A.bo,decide_eq_true_eq,F.bC]
 by_cases h1:n.1<1∨255<n.1
 ·rw[if_pos h1,if_pos (by omega)]
 ·rw[if_neg h1]
  by_cases h2:insK n.2.1<0
  ·rw[if_pos h2,if_pos trivial,if_pos (by omega)]
  ·rw[if_neg h2]
   by_cases h3:(n.2.2.1.length:Int)≠insK n.2.1
   ·rw[if_pos h3,if_pos (by omega)]
   ·have hb: ¬(n.1<1∨255<n.1∨insK n.2.1<0∨(n.2.2.1.length:Int)≠insK n.2.1):=by omega
    rw[if_neg h3,if_neg hb]
def twiceF (l:List Nd)(n:Nd):Bool:=l.any fun x=>decide (x.2.1=n.2.1)&&decide (x.2.2.2.2.1=n.2.2.2.2.1)
theorem twice_eq (l:List Nd)(n:Nd)(hl:l.length≤100):F.j l n=some (twiceF l n):=by
 have loop:F.a l n A.FU 0=some (if twiceF l n=true then(0:Int)else-1)∨∃i:Nat,F.a l n A.FU 0=some (i:Int)∧twiceF l n=true:=by
  have key: ∀(m k f:Nat),k+m=l.length→m<f→(twiceF (l.drop k) n=true∧∃i:Nat,F.a l n f (k:Int)=some (i:Int))∨(twiceF (l.drop k) n=false∧F.a l n f (k:Int)=some (-1)):=by
   intro m
   induction m with
   |zero=>
    intro k f hk hf
    obtain⟨f,rfl⟩: ∃f',f=f'+1:=⟨f-1,by omega⟩
    rw[F.a,if_neg (by omega),List.drop_eq_nil_of_le (by omega)]
    exact .inr ⟨rfl,rfl⟩
   |succ m ih=>
    intro k f hk hf
    obtain⟨f,rfl⟩: ∃f',f=f'+1:=⟨f-1,by omega⟩
    have hx:l[k]?=some l[k]:=List.getElem?_eq_getElem (by omega)
    generalize l[k]=x at hx
    rw[F.a,if_pos (by omega),A.ixn hx,Option.bind_some,F.cd,Option.bind_some,A.ba,A.dropx hx]
    by_cases h:x.2.1=n.2.1∧x.2.2.2.2.1=n.2.2.2.2.1
    ·left
     exact⟨by simp[twiceF,h.1,h.2],k,by rw[if_pos (by simpa using h)]⟩
    ·rw[if_neg (by simpa using h),A.gd1 (A.r64n (by omega))]
     have e:twiceF (x::l.drop (k+1)) n=twiceF (l.drop (k+1)) n:=by
      simp only[twiceF,List.any_cons]
      rw[←Bool.decide_and,decide_eq_false h,Bool.false_or]
     rw[e]
     exact ih (k+1) f (by omega) (by omega)
  rcases key l.length 0 A.FU (by omega) (by have:=FU_big;omega)with⟨h1,i,h2⟩|⟨h1,h2⟩
  ·rw[List.drop_zero]at h1;exact .inr ⟨i,h2,h1⟩
  ·rw[List.drop_zero]at h1;left;rw[h1];exact h2
 unfold F.j F.z
 rcases loop with h|⟨i,h,h2⟩
 ·rw[show F.a l n A.FU 0=_ from h,Option.bind_some]
  cases twiceF l n<;>simp
 ·rw[show F.a l n A.FU 0=_ from h,Option.bind_some,h2]
  simp
theorem mins_new {κ α:Type}[DecidableEq κ]: ∀{m:List (κ×α)} {k:κ} {x:α},Z.mhas m k=false→Z.mins m k x=m++[(k,x)]
 | [],_,_,_=>rfl
 |(a,y)::r,k,x,h=>by
  simp only[Z.mhas]at h
  by_cases hk:k=a
  ·rw[if_pos hk]at h;cases h
  ·rw[if_neg hk]at h
   unfold Z.mins
   rw[if_neg hk,mins_new h];rfl
theorem mhas_mapOf {l:List Nd}{k:Int}(h: ∀n∈l,n.1≠k):Z.mhas (mapOf l) k=false:=by
 rcases idx_cases z0 l k with⟨_,_,_,h2⟩|⟨j,n,_,h1,h2,_⟩
 ·exact h2
 ·exact absurd h2 (h n (List.mem_of_getElem? h1))
theorem take_s {α:Type}{l:List α}{k:Nat}{x:α}(h:l[k]?=some x):l.take (k+1)=l.take k++[x]:=by rw[List.take_add_one,h];rfl
def okL (g:List Nd):Nat→Int→List Nd→Bool
 |_,_,[]=>true
 |k,last,n::r=>if n.1≤last∨ownQ n=false∨((n.2.1=1∨n.2.1=15)∧twiceF (g.take k) n=true)then false else okL g (k+1) n.1 r
theorem whole_l6 (g:List Nd)(hg:g.length≤100)(hf: ∀x,x∈g→x.2.2.2.2.1.size≤9223372036854775807):F.ae g A.FU [] 0 0=if okL g 0 0 g=true then F.ar g (mapOf g) A.FU 0 else some (none,80):=
 A.lp g (fun f (s:List (Int×Nd)×Int) y=>F.ae g f s.1 s.2 y) (fun k l s=>if okL g k s.2 l=true then F.ar g (mapOf g) A.FU 0 else some (none,80)) (fun k s=>s.1=mapOf (g.take k)∧∀n∈g.take k,n.1≤s.2)
  (fun f s hp=>by
   rw[F.ae,if_neg (by omega),okL,if_pos rfl,hp.1,List.take_of_length_le (Nat.le_refl _)])
  (fun f s k x hx hk hp ih=>by
   obtain⟨hm,hle⟩:=hp
   have hown:=own_eq x (hf x (List.mem_of_getElem? hx))
   have hj: ∀y,F.bs (F.ae g f) s.1 s.2 (k:Int) x y=if x.1≤s.2∨ownQ x=false∨y=true then some (none,80)else F.ae g f (Z.mins s.1 x.1 x) x.1 ((k:Int)+1):=by
    intro y
    rw[F.bs]
    simp only[F.bH,if_true]
    by_cases h1:x.1≤s.2
    ·rw[if_pos h1,if_pos (.inl h1)]
    ·rw[if_neg h1,show F.cf x=_ from hown,Option.bind_some,A.gd1 (A.r64n (by omega))]
     cases ownQ x<;>cases y<;>simp[h1]
   have hnew: ¬x.1≤s.2→F.ae g f (Z.mins s.1 x.1 x) x.1 ((k:Int)+1)=if okL g (k+1) x.1 (g.drop (k+1))=true then F.ar g (mapOf g) A.FU 0 else some (none,80):=fun h1=>by
    rw[hm,mins_new (mhas_mapOf fun n hn e=>by have:=hle n hn;omega)]
    refine ih (mapOf (g.take k)++[(x.1,x)],x.1) ⟨?_,fun n hn=>?_⟩
    ·rw[take_s hx];simp[mapOf]
    ·rw[take_s hx]at hn
     rcases List.mem_append.1 hn with h2|h2
     ·have:=hle n h2;simp only[];omega
     ·rw[List.mem_singleton]at h2;subst h2;exact Int.le_refl _
   rw[F.ae,if_pos (by omega),A.ixn hx,Option.bind_some,outside_eq,Option.bind_some,okL]
   by_cases ho:x.2.1=1∨x.2.1=15
   ·rw[if_pos (by simpa using ho),A.gd1 ⟨by omega,by omega⟩,show((k:Int)).toNat=k from Int.toNat_natCast k,
     show F.j (List.take k g) x=_ from twice_eq (g.take k) x (by rw[List.length_take];omega),Option.bind_some,hj]
    by_cases hb:x.1≤s.2∨ownQ x=false∨twiceF (g.take k) x=true
    ·have hc:x.1≤s.2∨ownQ x=false∨((x.2.1=1∨x.2.1=15)∧twiceF (g.take k) x=true):=by rcases hb with h|h|h;exact .inl h;exact .inr (.inl h);exact .inr (.inr ⟨ho,h⟩)
     rw[if_pos hb,if_pos hc,if_neg Bool.false_ne_true]
    ·have hc: ¬(x.1≤s.2∨ownQ x=false∨((x.2.1=1∨x.2.1=15)∧twiceF (g.take k) x=true)):=fun h=>hb (by rcases h with h|h|h;exact .inl h;exact .inr (.inl h);exact .inr (.inr h.2))
     rw[if_neg hb,if_neg hc]
     exact hnew fun h=>hb (.inl h)
   ·rw[if_neg (by simpa using ho),hj]
    by_cases hb:x.1≤s.2∨ownQ x=false
    ·have hc:x.1≤s.2∨ownQ x=false∨((x.2.1=1∨x.2.1=15)∧twiceF (g.take k) x=true):=by rcases hb with h|h;exact .inl h;exact .inr (.inl h)
     rw[if_pos (by rcases hb with h|h;exact .inl h;exact .inr (.inl h)),if_pos hc,if_neg Bool.false_ne_true]
    ·have hc: ¬(x.1≤s.2∨ownQ x=false∨((x.2.1=1∨x.2.1=15)∧twiceF (g.take k) x=true)):=fun h=>hb (by rcases h with h|h|h;exact .inl h;exact .inr h;exact absurd h.1 ho)
     rw[if_neg (fun h=>hb (by rcases h with h|h|h;exact .inl h;exact .inr h;cases h)),if_neg hc]
     exact hnew fun h=>hb (.inl h))
  (by have:=FU_big;omega) ([],0) ⟨rfl,by simp⟩
theorem whole_l5 (g:List Nd)(m:List (Int×Nd))(hg:g.length≤100)(hf: ∀x,x∈g→x.2.2.2.1.2.2.size≤9223372036854775807):F.ar g m A.FU 0=if g.all (fun n=>decide (chk n.2.1 n.2.2.2.1=0))=true then F.ai g m A.FU 0 else some (none,60):=
 A.lp0 g (fun f y=>F.ar g m f y) (fun _ l=>if l.all (fun n=>decide (chk n.2.1 n.2.2.2.1=0))=true then F.ai g m A.FU 0 else some (none,60))
  (fun f=>by rw[F.ar,if_neg (by omega)];rfl)
  (fun f k x hx hk ih=>by
   have h6:chk x.2.1 x.2.2.2.1≠0→chk x.2.1 x.2.2.2.1=60:=by
    intro h;unfold chk anyF at h ⊢;repeat' split
    all_goals first|rfl|(exfalso;simp_all;done)
   rw[F.ar,if_pos (by omega),A.ixn hx,Option.bind_some,show F.cx x.2.1 x.2.2.2.1=_ from fn_Check_eq x.2.1 x.2.2.2.1 (hf x (List.mem_of_getElem? hx)),Option.bind_some,List.all_cons]
   by_cases h:chk x.2.1 x.2.2.2.1=0
   ·rw[if_neg (fun h2=>h2 h),A.gd1 (A.r64n (by omega)),ih,decide_eq_true h,Bool.true_and]
   ·rw[if_pos h,decide_eq_false h,Bool.false_and,if_neg (by simp),h6 h])
  (by have:=FU_big;omega)
def inOk (g:List Nd)(k:Int):Bool:=if idx g k<0 then false else decide ((at_ g (idx g k)).2.1≠15)
def sortP (g:List Nd)(m:List (Int×Nd)):Option ((Option ((List (Int×Nd))×(List Int)×(List (Int×Int))))×Int):=
 (F.aJ (m,[],[]) g).bind fun r73=>(if(!r73.1)=true then(some (none,81))else((F.aH r73.2).bind fun r79=>(if(!r79.1)=true then(some (none,80))else((F.a9 r79.2 g).bind fun r85=>(if r85=true then(some (none,81))else(some (some r79.2,0)))))))
theorem whole_l4 (g:List Nd)(hg:g.length≤100)(hf: ∀x,x∈g→x.2.2.1.length≤5000):F.ai g (mapOf g) A.FU 0=if g.all (fun n=>n.2.2.1.all (inOk g))=true then sortP g (mapOf g)else some (none,80):=
 A.lp0 g (fun f y=>F.ai g (mapOf g) f y) (fun _ l=>if l.all (fun n=>n.2.2.1.all (inOk g))=true then sortP g (mapOf g)else some (none,80))
  (fun f=>by rw[F.ai,if_neg (by omega)];rfl)
  (fun f k x hx hk ih=>by
   rw[F.ai,if_pos (by omega),A.ixn hx,Option.bind_some]
   have hlen:=hf x (List.mem_of_getElem? hx)
   have loop:=A.lp0 x.2.2.1 (fun f2 y=>F.ba (F.ai g (mapOf g) f) (mapOf g) (k:Int) x f2 y) (fun _ l=>if l.all (inOk g)=true then F.ai g (mapOf g) f ((k:Int)+1)else some (none,80))
    (fun f2=>by rw[F.ba,if_neg (by omega),A.gd1 (A.r64n (by omega))];rfl)
    (fun f2 j y hy hj2 ih2=>by
     rw[F.ba,if_pos (by omega),A.ixn hy,Option.bind_some,A.lt,List.all_cons]
     rcases idx_cases ((0,0,[],(0,0,(ByteArray.mk #[])),(ByteArray.mk #[]),0,0):Nd) g y with⟨h1,_,h3,h4⟩|⟨i,n,h1,h2,h3,h4,h5⟩
     ·rw[h3,h4]
      have:inOk g y=false:=by unfold inOk;rw[if_pos (by omega)]
      rw[this];simp
     ·rw[h4,h5]
      have e:inOk g y=decide (n.2.1≠15):=by unfold inOk;rw[if_neg (by omega),at_some h1 h2]
      rw[e,A.gd1 (A.r64n (by omega)),ih2]
      by_cases h15:n.2.1=15<;>simp[h15])
    (by have:=FU_big;omega)
   rw[loop,ih,List.all_cons]
   cases x.2.2.1.all (inOk g)with
   |true=>rw[if_pos rfl,Bool.true_and]
   |false=>rw[if_neg Bool.false_ne_true,Bool.false_and,if_neg Bool.false_ne_true])
  (by have:=FU_big;omega)
theorem whole_P (g:List Nd)(hb:Few g):F.az g=if(32:Int)<(g.length:Int)then some (none,80)else if okL g 0 0 g=true then(if g.all (fun n=>decide (chk n.2.1 n.2.2.2.1=0))=true then(if g.all (fun n=>n.2.2.1.all (inOk g))=true then sortP g (mapOf g)else some (none,80))else some (none,60))else some (none,80):=by
 have hl:=hb.1
 unfold F.az
 rw[whole_l6 g (by omega) (fun x hx=>Nat.le_trans (hb.2 x hx).2.1 (by decide)),whole_l5 g _ (by omega) (fun x hx=>Nat.le_trans (hb.2 x hx).2.2 (by decide)),whole_l4 g (by omega) (fun x hx=>(hb.2 x hx).1)]
theorem Named_eq (g:List Nd)(kd:Int)(s:ByteArray)(hg:g.length≤100):F.dy g kd s=some (namedF kd s g):=
 A.lp0 g (fun f y=>F.bI g kd s f y) (fun _ l=>some (namedF kd s l))
  (fun f=>by rw[F.bI,if_neg (by omega)];rfl)
  (fun f k x hx hk ih=>by
   rw[F.bI,if_pos (by omega),A.ixn hx,Option.bind_some,namedF]
   simp only[F.cQ,A.ixn hx,Option.bind_some,A.gd1 (A.r64n (n:=k) (by omega)),ih,decide_eq_true_eq,kind,name]
   by_cases h1:x.2.1=kd
   ·by_cases h2:x.2.2.2.2.1=s<;>simp[h1,h2]
   ·simp[h1])
  (by have:=FU_big;omega)
theorem R_own_eq (g:List Nd)(i:Nat)(n:Nd)(hn:g[i]?=some n)(hg:g.length≤100)(hs:n.2.2.2.2.1.size≤5000):F.dx g (i:Int)=some (own g (i:Int) n):=by
 have hi:=(List.getElem?_eq_some_iff.1 hn).1
 have hj1:F.cM g n=some (ownT g n):=by
  unfold F.cM ownT
  simp only[A.ba,decide_eq_true_eq,Named_eq g _ _ hg,name_eq _ hs,Option.bind_some]
  by_cases h:n.2.1≠1∧n.2.1≠15
  ·rw[if_pos h,if_pos h]
  ·rw[if_neg h,if_neg h];cases named n.2.2.2.2.1<;>rfl
 have hj: ∀y,F.bb g n y=some (if y=true then false else if ownC n then false else ownT g n):=by
  intro y
  unfold F.bb ownC
  cases y with
  |true=>simp
  |false=>
   simp only[Bool.false_eq_true,if_false,A.bo,decide_eq_true_eq,hj1]
   by_cases h14:n.2.1=14
   ·simp only[h14,if_true,true_and,not_true_eq_false,ne_eq,false_and,or_false]
    by_cases hc:n.2.2.2.2.2.1<1∨8<n.2.2.2.2.2.1∨n.2.2.2.2.2.2<1∨4<n.2.2.2.2.2.2
    ·rw[if_pos (by omega),if_pos hc]
    ·rw[if_neg (by omega),if_neg hc]
   ·simp only[h14,if_false,false_and,not_false_eq_true,ne_eq,true_and,false_or]
    by_cases hc: ¬n.2.2.2.2.2.1=0∨¬n.2.2.2.2.2.2=0
    ·rw[if_pos hc,if_pos hc]
    ·rw[if_neg hc,if_neg hc]
 have tail:(if insK n.2.1<0 then F.bb g n true else F.bb g n (decide ((n.2.2.1.length:Int)≠insK n.2.1)))=some (if insK n.2.1<0∨(n.2.2.1.length:Int)≠insK n.2.1 then false else if ownC n then false else ownT g n):=by
  simp only[hj,decide_eq_true_eq]
  by_cases h1:insK n.2.1<0
  ·rw[if_pos h1,if_pos trivial,if_pos (.inl h1)]
  ·by_cases h2:(n.2.2.1.length:Int)≠insK n.2.1
   ·rw[if_neg h1,if_pos h2,if_pos (.inr h2)]
   ·have hb: ¬(insK n.2.1<0∨(n.2.2.1.length:Int)≠insK n.2.1):=fun h=>h.elim h1 h2
    rw[if_neg h1,if_neg h2,if_neg hb]
 unfold F.dx own
 rw[A.ixn hn,Option.bind_some]
 simp only[R08_Ins_eq,Option.bind_some,A.bo,decide_eq_true_eq]
 by_cases h1:n.1<1∨255<n.1
 ·rw[if_pos h1,hj,if_pos rfl,if_pos (by omega)]
 ·rw[if_neg h1]
  by_cases h0:(0:Int)<(i:Int)
  ·rw[if_pos h0,A.gd1 ⟨by omega,by omega⟩]
   have hp:g[i-1]?=some g[i-1]:=List.getElem?_eq_getElem (by omega)
   generalize g[i-1]=q at hp
   have e:(i:Int)-1=((i-1:Nat):Int):=by omega
   rw[e,A.ixn hp,Option.bind_some,at_some rfl hp]
   by_cases h2:n.1≤q.1
   ·rw[if_pos h2,hj,if_pos rfl,if_pos (by omega)]
   ·rw[if_neg h2,tail]
    by_cases hb:insK n.2.1<0∨(n.2.2.1.length:Int)≠insK n.2.1
    ·rw[if_pos hb,if_pos (by omega)]
    ·have hc: ¬(n.1<1∨255<n.1∨(0:Int)<(i:Int)∧n.1≤q.1∨insK n.2.1<0∨(n.2.2.1.length:Int)≠insK n.2.1):=by omega
     rw[if_neg hb,if_neg hc]
  ·rw[if_neg h0,tail]
   by_cases hb:insK n.2.1<0∨(n.2.2.1.length:Int)≠insK n.2.1
   ·rw[if_pos hb,if_pos (by omega)]
   ·have hc: ¬(n.1<1∨255<n.1∨(0:Int)<(i:Int)∧n.1≤(at_ g ((i:Int)-1)).1∨insK n.2.1<0∨(n.2.2.1.length:Int)≠insK n.2.1):=by omega
    rw[if_neg hb,if_neg hc]
def okR (g:List Nd):Nat→List Nd→Bool
 |_,[]=>true
 |k,n::r=>own g (k:Int) n&&okR g (k+1) r
theorem parts_l5 (g:List Nd)(hg:g.length≤100)(hf: ∀x,x∈g→x.2.2.2.2.1.size≤5000):F.bL g A.FU 0=if okR g 0 g=true then F.bf g A.FU 0 else some 80:=
 A.lp0 g (fun f y=>F.bL g f y) (fun k l=>if okR g k l=true then F.bf g A.FU 0 else some 80)
  (fun f=>by rw[F.bL,if_neg (by omega)];rfl)
  (fun f k x hx hk ih=>by
   rw[F.bL,if_pos (by omega),R_own_eq g k x hx hg (hf x (List.mem_of_getElem? hx)),Option.bind_some,A.gd1 (A.r64n (by omega)),ih,okR]
   cases own g (k:Int) x<;>simp)
  (by have:=FU_big;omega)
theorem parts_l4 (g:List Nd)(hg:g.length≤100)(hf: ∀x,x∈g→x.2.2.2.1.2.2.size≤5000):F.bf g A.FU 0=if g.all (fun n=>decide (chk n.2.1 n.2.2.2.1=0))=true then F.aM g A.FU 0 else some 60:=
 A.lp0 g (fun f y=>F.bf g f y) (fun _ l=>if l.all (fun n=>decide (chk n.2.1 n.2.2.2.1=0))=true then F.aM g A.FU 0 else some 60)
  (fun f=>by rw[F.bf,if_neg (by omega)];rfl)
  (fun f k x hx hk ih=>by
   rw[F.bf,if_pos (by omega),A.ixn hx,Option.bind_some,Option.bind_some,show F.c0 x.2.1 x.2.2.2.1=_ from R06_Check_eq x.2.1 x.2.2.2.1 (hf x (List.mem_of_getElem? hx)),Option.bind_some,List.all_cons]
   by_cases h:chk x.2.1 x.2.2.2.1=0
   ·rw[if_neg (fun h2=>h2 h),A.gd1 (A.r64n (by omega)),ih,decide_eq_true h,Bool.true_and]
   ·rw[if_pos h,decide_eq_false h,Bool.false_and,if_neg (by simp)])
  (by have:=FU_big;omega)
theorem idx_get {g:List Nd}{id:Int}(h:0≤idx g id): ∃n,g[(idx g id).toNat]?=some n∧at_ g (idx g id)=n∧n.1=id:=by
 rcases idx_cases z0 g id with⟨h1,_⟩|⟨i,n,h1,h2,h3,_⟩
 ·omega
 ·exact⟨n,by rw[h1];exact h2,at_some h1 h2,h3⟩
theorem parts_l3 (g:List Nd)(hg:g.length≤100)(hf: ∀x,x∈g→x.2.2.1.length≤5000):F.aM g A.FU 0=if g.all (fun n=>n.2.2.1.all (inOk g))=true then some 0 else some 80:=
 A.lp0 g (fun f y=>F.aM g f y) (fun _ l=>if l.all (fun n=>n.2.2.1.all (inOk g))=true then some 0 else some 80)
  (fun f=>by rw[F.aM,if_neg (by omega)];rfl)
  (fun f k x hx hk ih=>by
   rw[F.aM,if_pos (by omega)]
   have hlen:=hf x (List.mem_of_getElem? hx)
   have loop:=A.lp0 x.2.2.1 (fun f2 y=>F.bK (F.aM g f) g (k:Int) f2 y) (fun _ l=>if l.all (inOk g)=true then F.aM g f ((k:Int)+1)else some 80)
    (fun f2=>by rw[F.bK,A.ixn hx,Option.bind_some,if_neg (by omega),A.gd1 (A.r64n (by omega))];rfl)
    (fun f2 j y hy hj2 ih2=>by
     rw[F.bK,A.ixn hx,Option.bind_some,if_pos (by omega),Option.bind_some,A.ixn hy,Option.bind_some,index_eq g y hg,Option.bind_some,List.all_cons]
     simp only[F.cR,if_true,decide_eq_true_eq,A.gd1 (A.r64n (n:=j) (by omega)),ih2]
     by_cases h0:idx g y<0
     ·have:inOk g y=false:=by unfold inOk;rw[if_pos h0]
      rw[if_pos h0,this];simp
     ·obtain⟨n,h1,h2,_⟩:=idx_get (g:=g) (id:=y) (by omega)
      have e:inOk g y=decide (n.2.1≠15):=by unfold inOk;rw[if_neg h0,h2]
      rw[if_neg h0,A.ixg (by omega) h1,Option.bind_some,e]
      by_cases h15:n.2.1=15<;>simp[h15])
    (by have:=FU_big;omega)
   rw[loop,ih,List.all_cons]
   cases x.2.2.1.all (inOk g)with
   |true=>rw[if_pos rfl,Bool.true_and]
   |false=>rw[if_neg Bool.false_ne_true,Bool.false_and,if_neg Bool.false_ne_true])
  (by have:=FU_big;omega)
def lastOf (g:List Nd)(k:Nat):Int:=if k=0 then 0 else(at_ g ((k:Int)-1)).1
def BadP (g:List Nd)(k:Nat)(n:Nd):Prop:=n.1≤lastOf g k∨ownQ n=false∨((n.2.1=1∨n.2.1=15)∧twiceF (g.take k) n=true)
theorem lastOf_s {g:List Nd}{k:Nat}{n:Nd}(h:g[k]?=some n):lastOf g (k+1)=n.1:=by
 unfold lastOf;rw[if_neg (by omega),at_some (k:=k) (by omega) h]
theorem okL_iff (g:List Nd): ∀(m k:Nat),k+m=g.length→(okL g k (lastOf g k) (g.drop k)=true↔∀i n,k≤i→g[i]?=some n→¬BadP g i n)
 |0,k,h=>by
  rw[List.drop_eq_nil_of_le (by omega),okL]
  exact⟨fun _ i n hi hn=>by have:=(List.getElem?_eq_some_iff.1 hn).1;omega,fun _=>rfl⟩
 |m+1,k,h=>by
  have hx:g[k]?=some g[k]:=List.getElem?_eq_getElem (by omega)
  generalize g[k]=x at hx
  have ih:=okL_iff g m (k+1) (by omega)
  rw[lastOf_s hx]at ih
  rw[A.dropx hx,okL]
  by_cases hb:BadP g k x
  ·have hb':x.1≤lastOf g k∨ownQ x=false∨((x.2.1=1∨x.2.1=15)∧twiceF (g.take k) x=true):=hb
   rw[if_pos hb']
   exact⟨fun h=>(by cases h),fun h=>absurd hb (h k x (Nat.le_refl _) hx)⟩
  ·have hb': ¬(x.1≤lastOf g k∨ownQ x=false∨((x.2.1=1∨x.2.1=15)∧twiceF (g.take k) x=true)):=hb
   rw[if_neg hb',ih]
   refine⟨fun h i n hi hn=>?_,fun h i n hi hn=>h i n (by omega) hn⟩
   rcases Nat.eq_or_lt_of_le hi with rfl|h2
   ·rw[hx]at hn;injection hn with hn;subst hn;exact hb
   ·exact h i n h2 hn
theorem okR_iff (g:List Nd): ∀(m k:Nat),k+m=g.length→(okR g k (g.drop k)=true↔∀i n,k≤i→g[i]?=some n→own g (i:Int) n=true)
 |0,k,h=>by
  rw[List.drop_eq_nil_of_le (by omega),okR]
  exact⟨fun _ i n hi hn=>by have:=(List.getElem?_eq_some_iff.1 hn).1;omega,fun _=>rfl⟩
 |m+1,k,h=>by
  have hx:g[k]?=some g[k]:=List.getElem?_eq_getElem (by omega)
  generalize g[k]=x at hx
  have ih:=okR_iff g m (k+1) (by omega)
  rw[A.dropx hx,okR,Bool.and_eq_true,ih]
  refine⟨fun h i n hi hn=>?_,fun h=>⟨h k x (Nat.le_refl _) hx,fun i n hi hn=>h i n (by omega) hn⟩⟩
  rcases Nat.eq_or_lt_of_le hi with rfl|h2
  ·rw[hx]at hn;injection hn with hn;subst hn;exact h.1
  ·exact h.2 i n h2 hn
theorem inc_of {g:List Nd}(h: ∀i n,g[i]?=some n→lastOf g i<n.1):Inc g:=by
 unfold Inc
 have key: ∀(d i:Nat) (a b:Nd),g[i]?=some a→g[i+d+1]?=some b→a.1<b.1:=by
  intro d
  induction d with
  |zero=>intro i a b ha hb;have:=h _ b hb;rw[lastOf_s ha]at this;exact this
  |succ d ih=>
   intro i a b ha hb
   have hl:=(List.getElem?_eq_some_iff.1 hb).1
   have hc:g[i+d+1]?=some g[i+d+1]:=List.getElem?_eq_getElem (by omega)
   have h1:=ih i a _ ha hc
   have h2:=h _ b hb
   rw[show i+(d+1)+1=(i+d+1)+1 by omega,lastOf_s hc]at h2
   omega
 refine List.pairwise_iff_getElem.2 fun i j hi hj hij=>?_
 refine key (j-i-1) i _ _ (List.getElem?_eq_getElem hi) ?_
 rw[show i+(j-i-1)+1=j by omega]
 exact List.getElem?_eq_getElem hj
theorem namedF_first (kd:Int)(s:ByteArray): ∀(l:List Nd),(∃(j:Nat) (n:Nd),l[j]?=some n∧n.2.1=kd∧n.2.2.2.2.1=s∧(namedF kd s l)=(n.1,true)∧∀(i:Nat) (m:Nd),i<j→l[i]?=some m→¬(m.2.1=kd∧m.2.2.2.2.1=s))∨(namedF kd s l=(0,false)∧∀m∈l,¬(m.2.1=kd∧m.2.2.2.2.1=s))
 | []=>.inr ⟨rfl,by simp⟩
 |x::r=>by
  unfold namedF
  by_cases h:x.2.1=kd∧x.2.2.2.2.1=s
  ·rw[if_pos h]
   exact .inl ⟨0,x,rfl,h.1,h.2,rfl,fun i m hi=>by omega⟩
  ·have h': ¬(kind x=kd∧name x=s):=h
   rw[if_neg h']
   rcases namedF_first kd s r with⟨j,n,h1,h2,h3,h4,h5⟩|⟨h1,h2⟩
   ·refine .inl ⟨j+1,n,h1,h2,h3,h4,fun i m hi hm=>?_⟩
    cases i with
    |zero=>injection hm with hm;subst hm;exact h
    |succ i=>exact h5 i m (by omega) hm
   ·refine .inr ⟨h1,fun m hm=>?_⟩
    rcases List.mem_cons.1 hm with rfl|hm
    ·exact h
    ·exact h2 m hm
theorem twice_iff {l:List Nd}{n:Nd}:twiceF l n=true↔∃m∈l,m.2.1=n.2.1∧m.2.2.2.2.1=n.2.2.2.2.1:=by
 simp only[twiceF,List.any_eq_true,Bool.and_eq_true,decide_eq_true_eq]
theorem own_iff {g:List Nd}(hi:Inc g){k:Nat}{n:Nd}(hn:g[k]?=some n)(hl:lastOf g k<n.1):own g (k:Int) n=true↔¬BadP g k n:=by
 have hname:(n.2.1=1∨n.2.1=15)→((namedF n.2.1 n.2.2.2.2.1 g).1=n.1↔¬twiceF (g.take k) n=true):=fun _=>by
  rcases namedF_first n.2.1 n.2.2.2.2.1 g with⟨j,m,h1,h2,h3,h4,h5⟩|⟨_,h2⟩
  ·rw[h4]
   have hjk:j≤k:=by
    rcases Nat.lt_or_ge k j with h|h
    ·exact absurd ⟨rfl,rfl⟩ (h5 k n h hn)
    ·exact h
   constructor
   ·intro he ht
    have:j=k:=hi.inj h1 hn he
    subst this
    obtain⟨q,hq,h6⟩:=twice_iff.1 ht
    obtain⟨i,hiq⟩:=List.mem_iff_getElem?.1 hq
    rw[List.getElem?_take]at hiq
    split at hiq
    ·rename_i hij;exact h5 i q hij hiq h6
    ·cases hiq
   ·intro ht
    rcases Nat.lt_or_ge j k with h|h
    ·exact absurd (twice_iff.2 ⟨m,List.mem_iff_getElem?.2 ⟨j,by rw[List.getElem?_take,if_pos h];exact h1⟩,h2,h3⟩) ht
    ·obtain rfl:j=k:=by omega
     rw[hn]at h1;injection h1 with h1;rw[h1]
  ·exact absurd ⟨rfl,rfl⟩ (h2 n (List.mem_of_getElem? hn))
 have hprev: ¬((0:Int)<(k:Int)∧n.1≤(at_ g ((k:Int)-1)).1):=fun h=>by
  unfold lastOf at hl;rw[if_neg (by omega)]at hl;omega
 unfold own BadP ownQ
 by_cases h1:n.1<1∨255<n.1∨insK n.2.1<0∨(n.2.2.1.length:Int)≠insK n.2.1
 ·rw[if_pos (by omega),if_pos h1]
  exact⟨fun h=>(by cases h),fun h=>absurd (.inr (.inl rfl)) h⟩
 ·have hc: ¬(n.1<1∨255<n.1∨(0:Int)<(k:Int)∧n.1≤(at_ g ((k:Int)-1)).1∨insK n.2.1<0∨(n.2.2.1.length:Int)≠insK n.2.1):=by omega
  rw[if_neg hc,if_neg h1]
  by_cases h2:ownC n
  ·rw[if_pos h2,if_pos h2]
   exact⟨fun h=>(by cases h),fun h=>absurd (.inr (.inl rfl)) h⟩
  ·rw[if_neg h2,if_neg h2]
   unfold ownT
   by_cases h3:n.2.1=1∨n.2.1=15
   ·rw[if_neg (by omega),if_pos h3,Bool.and_eq_true,decide_eq_true_eq,hname h3]
    constructor
    ·rintro⟨a,b⟩ (h|h|h)
     ·omega
     ·rw[a]at h;cases h
     ·exact b h.2
    ·intro h
     refine⟨?_,fun ht=>h (.inr (.inr ⟨h3,ht⟩))⟩
     cases hq:named n.2.2.2.2.1 with
     |true=>rfl
     |false=>exact absurd (.inr (.inl hq)) h
   ·rw[if_pos (by omega),if_neg h3]
    constructor
    ·rintro a (h|h|h)
     ·omega
     ·rw[a]at h;cases h
     ·exact h3 h.1
    ·intro h
     cases hq:decide (n.2.2.2.2.1=ByteArray.mk #[])with
     |true=>rfl
     |false=>exact absurd (.inr (.inl hq)) h
theorem own_last {g:List Nd}{k:Nat}{n:Nd}(h:own g (k:Int) n=true):lastOf g k<n.1:=by
 unfold own at h
 by_cases hc:n.1<1∨255<n.1∨(0:Int)<(k:Int)∧n.1≤(at_ g ((k:Int)-1)).1∨insK n.2.1<0∨(n.2.2.1.length:Int)≠insK n.2.1
 ·rw[if_pos hc]at h;cases h
 ·unfold lastOf;split<;>omega
theorem ok_eq (g:List Nd):okL g 0 0 g=okR g 0 g:=by
 have hL:=okL_iff g g.length 0 (by omega)
 have hR:=okR_iff g g.length 0 (by omega)
 rw[List.drop_zero]at hL hR
 rw[show lastOf g 0=0 from rfl]at hL
 rw[Bool.eq_iff_iff,hL,hR]
 constructor
 ·intro h i n _ hn
  have hl: ∀i n,g[i]?=some n→lastOf g i<n.1:=fun i n hn=>by
   have:=h i n (by omega) hn
   exact Int.lt_of_not_ge fun h2=>this (.inl h2)
  exact(own_iff (inc_of hl) hn (hl i n hn)).2 (h i n (by omega) hn)
 ·intro h i n _ hn
  have hl: ∀i n,g[i]?=some n→lastOf g i<n.1:=fun i n hn=>own_last (h i n (by omega) hn)
  exact(own_iff (inc_of hl) hn (hl i n hn)).1 (h i n (by omega) hn)
theorem ok_inc {g:List Nd}(h:okR g 0 g=true):Inc g:=by
 have hR:=okR_iff g g.length 0 (by omega)
 rw[List.drop_zero]at hR
 exact inc_of fun i n hn=>own_last (hR.1 h i n (by omega) hn)
theorem parts_eq (g:List Nd)(hb:Few g):F.dj g=if(32:Int)<(g.length:Int)then some 80 else if okR g 0 g=true then(if g.all (fun n=>decide (chk n.2.1 n.2.2.2.1=0))=true then(if g.all (fun n=>n.2.2.1.all (inOk g))=true then some 0 else some 80)else some 60)else some 80:=by
 have hl:=hb.1
 unfold F.dj
 rw[parts_l5 g (by omega) (fun x hx=>(hb.2 x hx).2.1),parts_l4 g (by omega) (fun x hx=>(hb.2 x hx).2.2),parts_l3 g (by omega) (fun x hx=>(hb.2 x hx).1)]
theorem fed_of {g:List Nd}(h:g.all (fun n=>n.2.2.1.all (inOk g))=true):Fed g:=fun x hx k hk=>by
 have h1:=List.all_eq_true.1 (List.all_eq_true.1 h x hx) k hk
 unfold inOk at h1
 by_cases h0:idx g k<0
 ·rw[if_pos h0]at h1;cases h1
 ·omega
theorem bset_len {l:List Bool}{i:Nat}:(l.set i true).length=l.length:=List.length_set
theorem bget_get {l:List Bool}{i:Nat}(h:i<l.length):l[i]?=some (bget l (i:Int)):=by
 unfold bget;rw[Int.toNat_natCast,List.getElem?_eq_getElem h];rfl
theorem bix {l:List Bool}{i:Int}(h0:0≤i)(h:i<l.length):A.ix l i=some (bget l i):=by
 have e:i=((i.toNat:Nat):Int):=by omega
 rw[e];exact A.ixn (bget_get (by omega))
theorem iix {l:List Int}{i:Int}(h0:0≤i)(h:i<l.length):A.ix l i=some (iget l i):=by
 refine A.ixg h0 ?_
 unfold iget;rw[List.getElem?_eq_getElem (by omega)];rfl
theorem ready_eq (g:List Nd)(n:Nd)(done:List Bool)(hg:g.length≤100)(hd:done.length=g.length)(hl:n.2.2.1.length≤5000)(hf: ∀k∈n.2.2.1,0≤idx g k):F.dk g n done=some (ready g done n):=
 A.lp0 n.2.2.1 (fun f y=>F.bM g n done f y) (fun k l=>some (readyF g done n.2.1 l))
  (fun f=>by rw[F.bM,if_neg (by omega)];rfl)
  (fun f k x hx hk ih=>by
   have h1:=hf x (List.mem_of_getElem? hx)
   have h2:=(idx_le g x).2
   rw[F.bM,if_pos (by omega),readyF]
   simp only[F.cS,A.gd1 (A.r64n (n:=k) (by omega)),ih]
   by_cases h14:n.2.1=14
   ·simp[h14]
   ·rw[if_pos h14,A.ixn hx,Option.bind_some,index_eq g x hg,Option.bind_some,bix h1 (by omega),Option.bind_some]
    cases bget done (idx g x)<;>simp[h14])
  (by have:=FU_big;omega)
theorem order_l3 (g:List Nd)(hb:Few g)(hfed:Fed g)(k4:List Bool→List Int→Option (List Int×Bool))(done:List Bool)(l:List Int)(hd:done.length=g.length)(hl:l.length≤100):
  F.bg k4 g done l A.FU (-1) 0=if firstF g done 0 g (-1)<0 then some ([],false)else k4 (done.set (firstF g done 0 g (-1)).toNat true) (l++[firstF g done 0 g (-1)]):=
 A.lp g (fun f (a:Int) y=>F.bg k4 g done l f a y) (fun k t a=>if firstF g done k t a<0 then some ([],false)else k4 (done.set (firstF g done k t a).toNat true) (l++[firstF g done k t a])) (fun k a=> -1≤a∧a<g.length)
  (fun f a hp=>by
   rw[F.bg,A.ba,if_neg (by simp),firstF]
   by_cases h:a<0
   ·rw[if_pos h,if_pos h]
   ·rw[if_neg h,if_neg h,bix (by omega) (by omega),Option.bind_some,A.gd1 (by simp only[List.length_cons,List.length_nil];omega)])
  (fun f a k x hx hk hp ih=>by
   have hlen:=hb.1
   rw[F.bg,A.ba,if_pos (by simp;omega),firstF]
   simp only[F.cp,F.cT,A.gd1 (A.r64n (n:=k) (by omega)),Bool.false_eq_true,if_false]
   by_cases h:a<0
   ·by_cases hbd:bget done (k:Int)=true
    ·have e:(if(a<0∧bget done (k:Int)=false)∧ready g done x=true then(k:Int)else a)=a:=if_neg (by rw[hbd];simp)
     rw[e,if_pos h,bix (by omega) (by omega),Option.bind_some,hbd]
     simp only[Bool.not_true,Bool.false_eq_true,if_false]
     exact ih a hp
    ·rw[Bool.not_eq_true]at hbd
     have hrd:F.dk g x done=some (ready g done x):=ready_eq g x done (by omega) hd (hb.in hx) (hfed x (List.mem_of_getElem? hx))
     by_cases hr:ready g done x=true
     ·have e:(if(a<0∧bget done (k:Int)=false)∧ready g done x=true then(k:Int)else a)=k:=if_pos ⟨⟨h,hbd⟩,hr⟩
      rw[e,if_pos h,bix (by omega) (by omega),Option.bind_some,hbd]
      simp only[Bool.not_false,if_true,A.ixn hx,Option.bind_some]
      rw[hrd,Option.bind_some,if_pos hr];exact ih k (by omega)
     ·have e:(if(a<0∧bget done (k:Int)=false)∧ready g done x=true then(k:Int)else a)=a:=if_neg (fun h2=>hr h2.2)
      rw[e,if_pos h,bix (by omega) (by omega),Option.bind_some,hbd]
      simp only[Bool.not_false,if_true,A.ixn hx,Option.bind_some]
      rw[hrd,Option.bind_some,if_neg hr];exact ih a hp
   ·have e:(if(a<0∧bget done (k:Int)=false)∧ready g done x=true then(k:Int)else a)=a:=if_neg (fun h2=>h h2.1.1)
    rw[e,if_neg h];exact ih a hp)
  (by have:=FU_big;have:=hb.1;omega) (-1) (by omega)
def ordR (g:List Nd)(r:Nat)(done:List Bool)(l:List Int):List Int×Bool:=match orderF g r done l with
 |some l'=>(l',true)
 |none=>([],false)
theorem order_l4 (g:List Nd)(hb:Few g)(hfed:Fed g): ∀(r f:Nat) (done:List Bool) (l:List Int),r<f→l.length+r=g.length→done.length=g.length→F.b9 g f done l=some (ordR g r done l)
 |0,f,done,l,hf,hl,hd=>by
  obtain⟨f,rfl⟩: ∃f',f=f'+1:=⟨f-1,by omega⟩
  rw[F.b9,if_neg (by omega)];rfl
 |r+1,f,done,l,hf,hl,hd=>by
  obtain⟨f,rfl⟩: ∃f',f=f'+1:=⟨f-1,by omega⟩
  have:=hb.1
  rw[F.b9,if_pos (by omega),order_l3 g hb hfed _ done l hd (by omega),ordR,orderF]
  by_cases h:firstF g done 0 g (-1)<0
  ·rw[if_pos h,if_pos h]
  ·rw[if_neg h,if_neg h,order_l4 g hb hfed r f _ _ (by omega) (by simp only[List.length_append,List.length_cons,List.length_nil];omega) (by rw[bset_len];exact hd)]
   rfl
theorem R_order_eq (g:List Nd)(hb:Few g)(hfed:Fed g):F.cG g=some (ordR g g.length (List.replicate g.length false) []):=by
 have:=hb.1
 unfold F.cG
 rw[A.gd1 (by omega),order_l4 g hb hfed g.length A.FU _ [] (by have:=FU_big;omega) (by simp) (by simp)]
def readyP (m:List (Int×Bool))(n:Nd):Bool:=n.2.2.1.all fun k=>Z.mget false m k||decide (n.2.1=14)
def findP (m:List (Int×Bool)):List Nd→Option Nd
 | []=>none
 |n::r=>if Z.mget false m n.1=false∧readyP m n=true then some n else findP m r
def sortS (g:List Nd):Nat→List (Int×Bool)→List Int→List Int
 |0,_,xs=>xs
 |r+1,m,xs=>match findP m g with
  |some n=>sortS g r (Z.mins m n.1 true) (xs++[n.1])
  |none=>sortS g r m xs
abbrev PlR:=Option (Bool×((List (Int×Nd))×(List Int)×(List (Int×Int))))
theorem sort_l4 (g:List Nd)(hb:Few g)(k29:List Int→List (Int×Bool)→Int→PlR)(xs:List Int)(m:List (Int×Bool))(y:Int)(hxs:xs.length≤100)(hy:0≤y∧y≤100):
  F.u k29 g xs m y A.FU 0=match findP m g with
   |some n=>k29 (xs++[n.1]) (Z.mins m n.1 true) (y+1)
   |none=>k29 xs m (y+1):=
 A.lp0 g (fun f i=>F.u k29 g xs m y f i) (fun _ l=>match findP m l with
   |some n=>k29 (xs++[n.1]) (Z.mins m n.1 true) (y+1)
   |none=>k29 xs m (y+1))
  (fun f=>by rw[F.u,if_neg (by omega),F.aR,A.gd1 ⟨by omega,by omega⟩];rfl)
  (fun f k x hx hk ih=>by
   have hlen:=hb.1
   have hin:=hb.in hx
   rw[F.u,if_pos (by omega),A.ixn hx,Option.bind_some,A.lt,findP]
   have loop:=A.lp0 x.2.2.1 (fun f2 j=>F.aC k29 (F.u k29 g xs m y f) xs m y (k:Int) x f2 j) (fun _ l=>if l.all (fun k=>Z.mget false m k||decide (x.2.1=14))=true then k29 (xs++[x.1]) (Z.mins m x.1 true) (y+1)else F.u k29 g xs m y f ((k:Int)+1))
    (fun f2=>by rw[F.aC,if_neg (by omega),A.gd1 (by simp only[List.length_cons,List.length_nil];omega),F.aR,A.gd1 ⟨by omega,by omega⟩];rfl)
    (fun f2 j z hz hj ih2=>by
     rw[F.aC,if_pos (by omega),A.ixn hz,Option.bind_some,A.lt,A.gd1 (A.r64n (by omega)),ih2,F.aS,A.gd1 (A.r64n (by omega)),List.all_cons]
     cases hm:Z.mget false m z<;>by_cases h14:x.2.1=14<;>simp[h14])
    (by have:=FU_big;omega)
   rw[loop,F.aS,A.gd1 (A.r64n (by omega)),ih]
   cases hm:Z.mget false m x.1 with
   |true=>
    have e: ¬((true:Bool)=false∧readyP m x=true):=fun h=>by cases h.1
    rw[if_pos rfl,if_neg e]
   |false=>
    rw[if_neg Bool.false_ne_true]
    by_cases hr:readyP m x=true
    ·have e:(false:Bool)=false∧readyP m x=true:=⟨rfl,hr⟩
     rw[if_pos (show(x.2.2.1.all fun k=>Z.mget false m k||decide (x.2.1=14))=true from hr),if_pos e]
    ·have e: ¬((false:Bool)=false∧readyP m x=true):=fun h=>hr h.2
     rw[if_neg (show ¬(x.2.2.1.all fun k=>Z.mget false m k||decide (x.2.1=14))=true from hr),if_neg e])
  (by have:=FU_big;have:=hb.1;omega)
theorem sort_l5 (g:List Nd)(hb:Few g)(a0:(List (Int×Nd))×(List Int)×(List (Int×Int))): ∀(r f:Nat) (m:List (Int×Bool)) (xs:List Int) (y:Nat),r<f→y+r=g.length→xs.length≤y→F.ab a0 g f xs m (y:Int)=some (decide (((sortS g r m xs).length:Int)=(g.length:Int)),(a0.1,sortS g r m xs,a0.2.2))
 |0,f,m,xs,y,hf,hy,hx=>by
  obtain⟨f,rfl⟩: ∃f',f=f'+1:=⟨f-1,by omega⟩
  rw[F.ab,if_neg (by omega)];rfl
 |r+1,f,m,xs,y,hf,hy,hx=>by
  obtain⟨f,rfl⟩: ∃f',f=f'+1:=⟨f-1,by omega⟩
  have:=hb.1
  rw[F.ab,if_pos (by omega),sort_l4 g hb _ xs m y (by omega) (by omega),sortS]
  have e:(y:Int)+1=((y+1:Nat):Int):=by omega
  cases findP m g with
  |none=>simp only[];rw[e,sort_l5 g hb a0 r f m xs (y+1) (by omega) (by omega) (by omega)]
  |some n=>simp only[];rw[e,sort_l5 g hb a0 r f _ _ (y+1) (by omega) (by omega) (by simp only[List.length_append,List.length_cons,List.length_nil];omega)]
theorem sort_eq (g:List Nd)(hb:Few g)(m:List (Int×Nd)):F.aJ (m,[],[]) g=some (decide (((sortS g g.length [] []).length:Int)=(g.length:Int)),(m,sortS g g.length [] [],[])):=by
 unfold F.aJ
 exact sort_l5 g hb (m,[],[]) g.length A.FU [] [] 0 (by have:=FU_big;have:=hb.1;omega) (by omega) (by simp)
def Rel (g:List Nd)(done:List Bool)(m:List (Int×Bool)):Prop:=∀(i:Nat) (n:Nd),g[i]?=some n→Z.mget false m n.1=bget done (i:Int)
theorem ready_rel {g:List Nd}{done:List Bool}{m:List (Int×Bool)}(h:Rel g done m){n:Nd}(hf: ∀k∈n.2.2.1,0≤idx g k):readyP m n=ready g done n:=by
 unfold readyP ready
 generalize n.2.2.1=l at hf
 induction l with
 |nil=>rfl
 |cons k r ih=>
  rw[List.all_cons,ih fun x hx=>hf x (List.mem_cons_of_mem _ hx),readyF]
  have h0:=hf k (List.mem_cons_self ..)
  obtain⟨q,h1,h2,h3⟩:=idx_get h0
  have h4:=h _ q h1
  rw[h3,Int.toNat_of_nonneg h0]at h4
  rw[h4]
  cases bget done (idx g k)<;>by_cases h14:n.2.1=14<;>simp[h14]
theorem firstF_keep (g:List Nd)(done:List Bool): ∀(k:Nat) (l:List Nd) (a:Int),0≤a→firstF g done k l a=a
 |_,[],_,_=>rfl
 |k,x::r,a,h=>by
  unfold firstF
  rw[if_neg (fun h2=>by omega)]
  exact firstF_keep g done (k+1) r a h
theorem first_find {g:List Nd}{done:List Bool}{m:List (Int×Bool)}(h:Rel g done m)(hf:Fed g): ∀(r k:Nat),k+r=g.length→(firstF g done k (g.drop k) (-1)= -1∧findP m (g.drop k)=none)∨(∃(i:Nat) (n:Nd),firstF g done k (g.drop k) (-1)=(i:Int)∧g[i]?=some n∧findP m (g.drop k)=some n∧bget done (i:Int)=false)
 |0,k,hk=>by
  rw[List.drop_eq_nil_of_le (by omega)];exact .inl ⟨rfl,rfl⟩
 |r+1,k,hk=>by
  have hx:g[k]?=some g[k]:=List.getElem?_eq_getElem (by omega)
  generalize g[k]=x at hx
  rw[A.dropx hx,firstF,findP,h k x hx,ready_rel h (hf x (List.mem_of_getElem? hx))]
  by_cases hc:bget done (k:Int)=false∧ready g done x=true
  ·rw[if_pos hc,if_pos ⟨⟨by omega,hc.1⟩,hc.2⟩,firstF_keep _ _ _ _ _ (by omega)]
   exact .inr ⟨k,x,rfl,hx,rfl,hc.1⟩
  ·rw[if_neg hc,if_neg (fun h2=>hc ⟨h2.1.2,h2.2⟩)]
   exact first_find h hf r (k+1) (by omega)
def idAt (g:List Nd)(i:Int):Int:=(at_ g i).1
theorem rel_set {g:List Nd}(hi:Inc g){done:List Bool}{m:List (Int×Bool)}(h:Rel g done m)(hd:done.length=g.length){i:Nat}{n:Nd}(hn:g[i]?=some n):Rel g (done.set i true) (Z.mins m n.1 true):=fun j q hq=>by
 rw[Z.mget_ins]
 have hl:=(List.getElem?_eq_some_iff.1 hn).1
 by_cases e:q.1=n.1
 ·have:=hi.inj hq hn e
  subst this
  rw[if_pos e]
  unfold bget
  rw[Int.toNat_natCast,List.getElem?_set_self (by omega)];rfl
 ·rw[if_neg e,h j q hq]
  have hne:i≠j:=fun h2=>e (by subst h2;rw[hn]at hq;injection hq with hq;rw[hq])
  unfold bget
  rw[Int.toNat_natCast,List.getElem?_set_ne hne]
theorem sort_order {g:List Nd}(hi:Inc g)(hf:Fed g): ∀(r:Nat) (done:List Bool) (m:List (Int×Bool)) (l:List Int),Rel g done m→done.length=g.length→(∃l',orderF g r done l=some l'∧sortS g r m (l.map (idAt g))=l'.map (idAt g)∧l'.length=l.length+r)∨(orderF g r done l=none∧(sortS g r m (l.map (idAt g))).length <l.length+r)
 |0,done,m,l,_,_=>.inl ⟨l,rfl,rfl,rfl⟩
 |r+1,done,m,l,h,hd=>by
  rw[orderF,sortS]
  rcases first_find h hf g.length 0 (by omega)with⟨h1,h2⟩|⟨i,n,h1,h2,h3,h4⟩
  ·rw[List.drop_zero]at h1 h2
   rw[h1,if_pos (by omega),h2]
   refine .inr ⟨rfl,?_⟩
   simp only[]
   have stay: ∀(r:Nat) (xs:List Int),sortS g r m xs=xs:=by
    intro r
    induction r with
    |zero=>intro xs;rfl
    |succ r ih=>intro xs;rw[sortS,h2];exact ih xs
   rw[stay,List.length_map];omega
  ·rw[List.drop_zero]at h1 h3
   rw[h1,if_neg (by omega),h3,Int.toNat_natCast]
   simp only[]
   have e:l.map (idAt g)++[n.1]=(l++[(i:Int)]).map (idAt g):=by
    rw[List.map_append];simp only[List.map_cons,List.map_nil,idAt,at_some rfl h2]
   rw[e]
   rcases sort_order hi hf r (done.set i true) (Z.mins m n.1 true) (l++[(i:Int)]) (rel_set hi h hd h2) (by rw[bset_len];exact hd)with⟨l',h5,h6,h7⟩|⟨h5,h6⟩
   ·exact .inl ⟨l',h5,h6,by rw[h7];simp only[List.length_append,List.length_cons,List.length_nil];omega⟩
   ·exact .inr ⟨h5,by simp only[List.length_append,List.length_cons,List.length_nil]at h6;omega⟩
theorem rel_0 (g:List Nd):Rel g (List.replicate g.length false) []:=fun i n hn=>by
 unfold bget
 rw[Int.toNat_natCast,List.getElem?_replicate]
 split<;>rfl
theorem order_sort {g:List Nd}(hb:Few g)(hi:Inc g)(hf:Fed g)(m:List (Int×Nd)):(∃l,F.cG g=some (l,true)∧F.aJ (m,[],[]) g=some (true,(m,l.map (idAt g),[]))∧l.length=g.length∧orderF g g.length (List.replicate g.length false) []=some l)∨(F.cG g=some ([],false)∧∃p,F.aJ (m,[],[]) g=some (false,p)):=by
 rw[R_order_eq g hb hf,sort_eq g hb m,ordR]
 rcases sort_order hi hf g.length (List.replicate g.length false) [] [] (rel_0 g) (by simp)with⟨l,h1,h2,h3⟩|⟨h1,h2⟩
 ·rw[List.map_nil]at h2
  rw[h1,h2]
  left
  refine⟨l,rfl,?_,by simpa using h3,rfl⟩
  rw[List.length_map,decide_eq_true (by simp at h3;omega)]
 ·rw[List.map_nil]at h2
  rw[h1]
  right
  refine⟨rfl,(m,sortS g g.length [] [],[]),?_⟩
  rw[decide_eq_false (by simp at h2;omega)]
end Go.Proofs.YtbdlcighhphaoaaDoor
end
section
set_option linter.unusedVariables false
set_option linter.unusedSimpArgs false
namespace Go.A
theorem mrg_any {α β:Type}[DecidableEq β]{body:α→Option (Option β)}{rest:Option β}{y:β}{p:α→Bool}: ∀{l:List α},(∀x∈l,body x=if p x=true then some (some y)else some none)→mrg body rest l=if l.any p=true then some y else rest
 | [],_=>rfl
 |x::l,h=>by
  have hx:=h x (List.mem_cons_self ..)
  have ih:=mrg_any (rest:=rest) (l:=l) fun z hz=>h z (List.mem_cons_of_mem _ hz)
  unfold mrg
  rw[hx,List.any_cons]
  cases hp:p x with
  |true=>
   simp only[Option.bind_some,if_true,Bool.true_or]
   rw[if_pos]
   rw[List.all_eq_true]
   intro z hz
   have hz2:=h z (List.mem_cons_of_mem _ hz)
   refine decide_eq_true ?_
   rw[hz2]
   cases p z<;>simp
  |false=>
   simp only[Option.bind_some,Bool.false_eq_true,if_false,Bool.false_or]
   exact ih
end Go.A
namespace Go.Proofs.YtbdlcighhphaoaaDoor
open Go.RowKit Go.Graph
theorem R_depth_eq (n:Nd)(l:List Int)(h5:n.2.1=5∨n.2.1=9→2≤l.length)(hb: -1≤d0 l∧d0 l≤4):F.c1 n l=some (depthOf n l):=by
 have hj5:F.cs n l (d0 l)=some (depthOf n l):=by
  unfold F.cs depthOf depthA
  have hj2: ∀y,F.aN y=some (capd y):=fun y=>by unfold F.aN F.cU capd;split<;>rfl
  have hj4: ∀y,(y=true↔n.2.1=5∨n.2.1=9)→F.cr n l (d0 l) y=some (capd (if n.2.1=5∨n.2.1=9 then(if iget l 0≠iget l 1 then-1 else d0 l)else if n.2.1=11∨n.2.1=16∨n.2.1=15 then(if d0 l≠0 then-1 else d0 l)else d0 l)):=fun y hy=>by
   unfold F.cr F.cq
   simp only[hj2,decide_eq_true_eq]
   by_cases h:n.2.1=5∨n.2.1=9
   ·have:=h5 h
    rw[if_pos (hy.2 h),if_pos h,iix (i:=0) (by omega) (by omega),Option.bind_some,iix (i:=1) (by omega) (by omega),Option.bind_some]
    by_cases e:iget l 0=iget l 1
    ·rw[if_neg (fun h=>h e),if_neg (fun h=>h e)]
    ·rw[if_pos e,if_pos e]
   ·rw[if_neg (fun h2=>h (hy.1 h2)),if_neg h]
    by_cases h11:n.2.1=11
    ·simp only[h11,if_true,true_or];split<;>rfl
    ·by_cases h16:n.2.1=16
     ·simp only[h16,if_true,true_or,or_true,if_false,Int.reduceEq];split<;>rfl
     ·by_cases h15:n.2.1=15
      ·simp only[h15,if_true,or_true,if_false,Int.reduceEq];split<;>rfl
      ·simp only[h11,h16,h15,if_false,or_self]
  simp only[hj2]
  by_cases h14:n.2.1=14
  ·rw[if_pos h14,if_pos h14]
  ·rw[if_neg h14,if_neg h14]
   by_cases h12:n.2.1=12
   ·rw[if_pos h12,if_pos h12,A.gd1 ⟨by omega,by omega⟩]
   ·rw[if_neg h12,if_neg h12]
    by_cases h13:n.2.1=13
    ·rw[if_pos h13,if_pos h13,A.gd1 ⟨by omega,by omega⟩]
    ·rw[if_neg h13,if_neg h13]
     by_cases h5':n.2.1=5
     ·rw[if_pos h5',hj4 _ (by simp[h5'])]
     ·rw[if_neg h5',hj4 _ (by simp[h5'])]
 unfold F.c1
 by_cases h:(0:Int)<(l.length:Int)
 ·rw[if_pos h,iix (i:=0) (by omega) (by omega),Option.bind_some,d0_iget];exact hj5
 ·rw[if_neg h,d0_nil (l:=l) (by omega)];exact hj5
def Own (g:List Nd):Prop:=∀n,n∈g→ownQ n=true
theorem own_ins {n:Nd}(h:ownQ n=true):0≤insK n.2.1∧(n.2.2.1.length:Int)=insK n.2.1:=by
 unfold ownQ at h
 by_cases hc:n.1<1∨255<n.1∨insK n.2.1<0∨(n.2.2.1.length:Int)≠insK n.2.1
 ·rw[if_pos hc]at h;cases h
 ·omega
theorem own_id {n:Nd}(h:ownQ n=true):1≤n.1∧n.1≤255:=by
 unfold ownQ at h
 by_cases hc:n.1<1∨255<n.1∨insK n.2.1<0∨(n.2.2.1.length:Int)≠insK n.2.1
 ·rw[if_pos hc]at h;cases h
 ·omega
theorem own_D {n:Nd}(h:ownQ n=true):(n.2.1=14→1≤n.2.2.2.2.2.2∧n.2.2.2.2.2.2≤4)∧(n.2.1≠14→n.2.2.2.2.2.2=0):=by
 unfold ownQ at h
 by_cases hc:n.1<1∨255<n.1∨insK n.2.1<0∨(n.2.2.1.length:Int)≠insK n.2.1
 ·rw[if_pos hc]at h;cases h
 ·rw[if_neg hc]at h
  by_cases h2:ownC n
  ·rw[if_pos h2]at h;cases h
  ·unfold ownC at h2;omega
theorem insK_cases (k:Int)(h:0≤insK k):(k=1∧insK k=0)∨((k=5∨k=9)∧insK k=2)∨(k≠1∧k≠5∧k≠9∧insK k=1):=by
 unfold insK at h ⊢
 by_cases h1:k<1∨16<k
 ·rw[if_pos h1]at h;omega
 ·rw[if_neg h1]
  by_cases h2:k=1
  ·rw[if_pos h2];omega
  ·rw[if_neg h2]
   by_cases h3:k=5∨k=9
   ·rw[if_pos h3];omega
   ·rw[if_neg h3];omega
theorem own_len {n:Nd}(h:ownQ n=true):(n.2.1=1∧n.2.2.1.length=0)∨((n.2.1=5∨n.2.1=9)∧n.2.2.1.length=2)∨(n.2.1≠1∧n.2.1≠5∧n.2.1≠9∧n.2.2.1.length=1):=by
 have h1:=own_ins h
 rcases insK_cases n.2.1 h1.1 with h2|h2|h2<;>omega
theorem iset_len {l:List Int}{i:Nat}{v:Int}:(l.set i v).length=l.length:=List.length_set
theorem depths_l1 (g:List Nd)(l d:List Int)(y:Nat)(p:Nat)(x:Nd)(k5:List Int→Int→Option (List Int×Bool))(hb:Few g)(hfed:Fed g)(ho:Own g)(hd:d.length=g.length)(hib:InB d)(hp:l[y]?=some (p:Int))(hy:y<100)(hx:g[p]?=some x):
  F.bz k5 g l d (y:Int) x A.FU [] 0=if depthOf x (inD g d x.2.2.1)<0 then some ([],false)else k5 (d.set p (depthOf x (inD g d x.2.2.1))) ((y:Int)+1):=by
 have hlen:=hb.1
 have hin:=hb.in hx
 have hpl:=(List.getElem?_eq_some_iff.1 hx).1
 have hxg:=List.mem_of_getElem? hx
 have loop:=A.lp x.2.2.1 (fun f (s:List Int) i=>F.bz k5 g l d (y:Int) x f s i) (fun _ t s=>if depthOf x (s++inD g d t)<0 then some ([],false)else k5 (d.set p (depthOf x (s++inD g d t))) ((y:Int)+1)) (fun k s=>s=inD g d (x.2.2.1.take k))
  (fun f s hs=>by
   rw[List.take_of_length_le (Nat.le_refl _)]at hs
   subst hs
   have hdep:F.c1 x (inD g d x.2.2.1)=some (depthOf x (inD g d x.2.2.1)):=R_depth_eq x (inD g d x.2.2.1) (fun h=>by rcases own_len (ho x hxg)with h2|h2|h2<;>simp only[inD,List.length_map]<;>omega) (hib.d0 g _)
   have e:(inD g d x.2.2.1++inD g d ([]:List Int))=inD g d x.2.2.1:=by simp[inD]
   rw[F.bz,if_neg (by omega),A.ixn hp,Option.bind_some,hdep,Option.bind_some,iix (by omega) (by omega),Option.bind_some,Option.bind_some,e,iix (by omega) (by rw[iset_len];omega),Option.bind_some,A.gd1 (A.r64n (by omega)),Int.toNat_natCast]
   have e2:iget (d.set p (depthOf x (inD g d x.2.2.1))) (p:Int)=depthOf x (inD g d x.2.2.1):=by
    unfold iget;rw[Int.toNat_natCast,List.getElem?_set_self (by omega)];rfl
   rw[e2])
  (fun f s k z hz hk hs ih=>by
   have h1:=hfed x hxg z (List.mem_of_getElem? hz)
   have h2:=(idx_le g z).2
   rw[F.bz,if_pos (by omega),A.ixn hz,Option.bind_some,index_eq g z (by omega),Option.bind_some,iix h1 (by omega),Option.bind_some]
   have hs2:s++[iget d (idx g z)]=inD g d (x.2.2.1.take (k+1)):=by rw[hs];exact inD_take hz
   rw[A.gd1 (by rw[hs];simp only[inD,List.length_map,List.length_take,List.length_cons,List.length_nil];omega),A.gd1 (A.r64n (by omega)),ih _ hs2]
   simp only[inD,List.map_cons,List.append_assoc,List.singleton_append])
  (by have:=FU_big;omega) [] (by simp[inD])
 rw[loop]
 rfl
theorem depths_l3 (g:List Nd)(d:List Int)(hb:Few g)(hfed:Fed g)(ho:Own g)(hd:d.length=g.length):F.bm g d A.FU 0=if loopsF g d g=true then some (d,true)else some ([],false):=
 A.lp0 g (fun f y=>F.bm g d f y) (fun _ t=>if loopsF g d t=true then some (d,true)else some ([],false))
  (fun f=>by rw[F.bm,if_neg (by omega)];rfl)
  (fun f k x hx hk ih=>by
   have hlen:=hb.1
   have hxg:=List.mem_of_getElem? hx
   rw[F.bm,if_pos (by omega),A.ixn hx,Option.bind_some,loopsF]
   simp only[F.cK,A.gd1 (A.r64n (n:=k) (by omega)),ih,decide_eq_true_eq]
   by_cases h14:x.2.1=14
   ·have hl:x.2.2.1.length=1:=by rcases own_len (ho x hxg)with h2|h2|h2<;>omega
    have hk0:x.2.2.1[0]?=some (iget x.2.2.1 0):=by
     unfold iget
     rw[show(0:Int).toNat=0 from rfl,List.getElem?_eq_getElem (by omega)];rfl
    have h1:=hfed x hxg _ (List.mem_of_getElem? hk0)
    have h2:=(idx_le g (iget x.2.2.1 0)).2
    rw[if_pos h14,show A.ix x.2.2.1 0=_ from A.ixn hk0,Option.bind_some,index_eq g _ (by omega),Option.bind_some,iix h1 (by omega),Option.bind_some]
    by_cases e:iget d (idx g (iget x.2.2.1 0))≠x.2.2.2.2.2.2
    ·rw[if_pos e]
     have e2:x.2.1=14∧iget d (idx g (iget x.2.2.1 0))≠x.2.2.2.2.2.2:=⟨h14,e⟩
     rw[if_pos e2,if_neg Bool.false_ne_true]
    ·rw[if_neg e]
     have e2: ¬(x.2.1=14∧iget d (idx g (iget x.2.2.1 0))≠x.2.2.2.2.2.2):=fun h=>e h.2
     rw[if_neg e2]
   ·have e2: ¬(x.2.1=14∧iget d (idx g (iget x.2.2.1 0))≠x.2.2.2.2.2.2):=fun h=>h14 h.1
    rw[if_neg h14,if_neg Bool.false_ne_true,if_neg e2])
  (by have:=FU_big;have:=hb.1;omega)
def Plc (g:List Nd)(l:List Int):Prop:=∀(i:Nat) (p:Int),l[i]?=some p→∃(k:Nat) (n:Nd),p=(k:Int)∧g[k]?=some n
theorem depths_l4 (g:List Nd)(l:List Int)(hb:Few g)(hfed:Fed g)(ho:Own g)(hl:l.length≤60)(hp:Plc g l):F.ct g l=some (depths g l):=by
 have hlen:=hb.1
 have loop:=A.lp l (fun f (s:List Int) i=>F.bV g l f s i) (fun _ t s=>match depthsF g t s with
  |some d=>if loopsF g d g=true then some (d,true)else some ([],false)
  |none=>some ([],false)) (fun k s=>s.length=g.length∧InB s)
  (fun f s hs=>by rw[F.bV,if_neg (by omega),depths_l3 g s hb hfed ho hs.1];rfl)
  (fun f s k x hx hk hs ih=>by
   obtain⟨q,n,rfl,hn⟩:=hp k x hx
   rw[F.bV,if_pos (by omega),A.ixn hx,Option.bind_some,A.ixn hn,Option.bind_some,depths_l1 g l s k q n _ hb hfed ho hs.1 hs.2 hx (by omega) hn,depthsF,at_some rfl hn]
   by_cases h:depthOf n (inD g s n.2.2.1)<0
   ·rw[if_pos h,if_pos h]
   ·rw[if_neg h,if_neg h,Int.toNat_natCast]
    exact ih _ ⟨by rw[iset_len];exact hs.1,hs.2.set q (by omega) (depthOf_le n _)⟩)
  (by have:=FU_big;omega) (List.replicate g.length 0) ⟨by simp,InB.rep _⟩
 unfold F.ct depths
 rw[A.gd1 (by omega),loop]
 cases depthsF g l (List.replicate g.length 0)with
 |none=>rfl
 |some d=>simp only[];cases loopsF g d g<;>rfl
end Go.Proofs.YtbdlcighhphaoaaDoor
end
section
set_option linter.unusedVariables false
set_option linter.unusedSimpArgs false
set_option synthInstance.maxSize 1000000
set_option synthInstance.maxHeartbeats 400000
namespace Go.Proofs.YtbdlcighhphaoaaDoor
open Go.RowKit Go.Graph
def RelD (g:List Nd)(d:List Int)(dm:List (Int×Int)):Prop:=∀(i:Nat) (n:Nd),g[i]?=some n→Z.mget 0 dm n.1=iget d (i:Int)
theorem RelD.in {g:List Nd}{d:List Int}{dm:List (Int×Int)}(h:RelD g d dm){k:Int}(h0:0≤idx g k):Z.mget 0 dm k=iget d (idx g k):=by
 obtain⟨q,h1,_,h3⟩:=idx_get h0
 have h4:=h _ q h1
 rw[h3,Int.toNat_of_nonneg h0]at h4
 exact h4
theorem iget_nat {l:List Int}{i:Nat}(h:i<l.length):l[i]?=some (iget l (i:Int)):=by
 unfold iget;rw[Int.toNat_natCast,List.getElem?_eq_getElem h];rfl
theorem inD_at {g:List Nd}{d l:List Int}{i:Nat}{k:Int}(h:l[i]?=some k):iget (inD g d l) (i:Int)=iget d (idx g k):=by
 unfold iget
 rw[Int.toNat_natCast,inD,List.getElem?_map,h];rfl
theorem out_eq (g:List Nd)(d:List Int)(a0:(List (Int×Nd))×(List Int)×(List (Int×Int)))(n:Nd)(hr:RelD g d a0.2.2)(hib:InB d)(ho:ownQ n=true)(hf: ∀k∈n.2.2.1,0≤idx g k):
  ∃v b,F.br a0 n=some (v,b)∧((b=false∧depthOf n (inD g d n.2.2.1)<0)∨(b=true∧v=depthOf n (inD g d n.2.2.1)∧0≤v)):=by
 have hlen:=own_len ho
 have hD:=own_D ho
 unfold F.br
 by_cases h1:n.2.1=1
 ·have hl:n.2.2.1=[]:=List.eq_nil_of_length_eq_zero (by omega)
  rw[if_pos h1]
  refine⟨0,true,rfl,.inr ⟨rfl,?_,Int.le_refl _⟩⟩
  unfold depthOf depthA capd
  simp only[h1,hl,inD,List.map_nil,d0];simp
 ·rw[if_neg h1]
  by_cases h14:n.2.1=14
  ·rw[if_pos h14]
   have:=hD.1 h14
   refine⟨_,true,rfl,.inr ⟨rfl,?_,by omega⟩⟩
   unfold depthOf depthA capd
   rw[if_pos h14,if_neg (by omega)]
  ·rw[if_neg h14]
   have hpos:0<n.2.2.1.length:=by omega
   obtain⟨k0,hk0⟩: ∃k0,n.2.2.1[0]?=some k0:=⟨_,List.getElem?_eq_getElem hpos⟩
   have f0:=hf k0 (List.mem_of_getElem? hk0)
   have b0:=hib (idx g k0)
   have e0:d0 (inD g d n.2.2.1)=iget d (idx g k0):=by rw[←d0_iget];exact inD_at hk0
   rw[show A.ix n.2.2.1 0=_ from A.ixn hk0,Option.bind_some,A.lt,hr.in f0]
   have hj3: ∀y,(y=true↔(n.2.1=5∨n.2.1=9)∧iget (inD g d n.2.2.1) 0≠iget (inD g d n.2.2.1) 1)→∃v b,F.a1 n (iget d (idx g k0)) y=some (v,b)∧((b=false∧depthOf n (inD g d n.2.2.1)<0)∨(b=true∧v=depthOf n (inD g d n.2.2.1)∧0≤v)):=fun y hy=>by
    unfold F.a1 depthOf depthA
    rw[if_neg h14,e0]
    by_cases hyt:y=true
    ·have h2:=hy.1 hyt
     rw[if_pos hyt]
     refine⟨0,false,rfl,.inl ⟨rfl,?_⟩⟩
     rw[if_neg (by omega),if_neg (by omega),if_pos h2.1,if_pos h2.2];decide
    ·have h2: ¬((n.2.1=5∨n.2.1=9)∧iget (inD g d n.2.2.1) 0≠iget (inD g d n.2.2.1) 1):=fun h=>hyt (hy.2 h)
     rw[if_neg hyt]
     simp only[F.aZ,F.a0,A.ba]
     by_cases h12:n.2.1=12
     ·rw[if_pos h12,if_pos h12,A.gd1 ⟨by omega,by omega⟩]
      unfold capd
      by_cases h4:4<iget d (idx g k0)+1
      ·exact⟨_,_,rfl,.inl ⟨decide_eq_false (by omega),by rw[if_pos h4];decide⟩⟩
      ·exact⟨_,_,rfl,.inr ⟨decide_eq_true (by omega),by rw[if_neg h4],by omega⟩⟩
     ·rw[if_neg h12,if_neg h12]
      by_cases h13:n.2.1=13
      ·rw[if_pos h13,if_pos h13,A.gd1 ⟨by omega,by omega⟩]
       unfold capd
       rw[if_neg (by omega)]
       by_cases h4:0≤iget d (idx g k0)-1
       ·exact⟨_,_,rfl,.inr ⟨decide_eq_true (by omega),rfl,h4⟩⟩
       ·exact⟨_,_,rfl,.inl ⟨decide_eq_false (by omega),by omega⟩⟩
      ·rw[if_neg h13,if_neg h13]
       have hz: ∀x:Int,n.2.1=11∨n.2.1=16∨n.2.1=15→∃v b,(some (iget d (idx g k0),decide (iget d (idx g k0)=0)):Option (Int×Bool))=some (v,b)∧((b=false∧capd (if n.2.1=5∨n.2.1=9 then if iget (inD g d n.2.2.1) 0≠iget (inD g d n.2.2.1) 1 then-1 else iget d (idx g k0)else if n.2.1=11∨n.2.1=16∨n.2.1=15 then if iget d (idx g k0)≠0 then-1 else iget d (idx g k0)else iget d (idx g k0))<0)∨(b=true∧v=capd (if n.2.1=5∨n.2.1=9 then if iget (inD g d n.2.2.1) 0≠iget (inD g d n.2.2.1) 1 then-1 else iget d (idx g k0)else if n.2.1=11∨n.2.1=16∨n.2.1=15 then if iget d (idx g k0)≠0 then-1 else iget d (idx g k0)else iget d (idx g k0))∧0≤v)):=fun _ hk=>by
        rw[if_neg (by omega),if_pos hk]
        by_cases h0:iget d (idx g k0)=0
        ·rw[h0];exact⟨_,_,rfl,.inr ⟨rfl,rfl,Int.le_refl _⟩⟩
        ·rw[if_pos h0];exact⟨_,_,rfl,.inl ⟨decide_eq_false h0,by decide⟩⟩
       by_cases h11:n.2.1=11
       ·rw[if_pos h11];exact hz 0 (.inl h11)
       ·rw[if_neg h11]
        by_cases h16:n.2.1=16
        ·rw[if_pos h16];exact hz 0 (.inr (.inl h16))
        ·rw[if_neg h16]
         by_cases h15:n.2.1=15
         ·rw[if_pos h15];exact hz 0 (.inr (.inr h15))
         ·rw[if_neg h15]
          refine⟨_,_,rfl,.inr ⟨decide_eq_true (by omega),?_,by omega⟩⟩
          by_cases h5:n.2.1=5∨n.2.1=9
          ·rw[if_pos h5,if_neg (fun h=>h2 ⟨h5,h⟩)];unfold capd;rw[if_neg (by omega)]
          ·rw[if_neg h5,if_neg (by omega)];unfold capd;rw[if_neg (by omega)]
   by_cases h2:(1:Int)<(n.2.2.1.length:Int)
   ·have h5:n.2.1=5∨n.2.1=9:=by omega
    obtain⟨k1,hk1⟩: ∃k1,n.2.2.1[1]?=some k1:=⟨_,List.getElem?_eq_getElem (by omega)⟩
    have f1:=hf k1 (List.mem_of_getElem? hk1)
    rw[if_pos h2,show A.ix n.2.2.1 1=_ from A.ixn hk1,Option.bind_some,A.lt,hr.in f1]
    refine hj3 _ ?_
    rw[decide_eq_true_eq,show iget (inD g d n.2.2.1) 0=_ from inD_at hk0,show iget (inD g d n.2.2.1) 1=_ from inD_at hk1]
    exact⟨fun h=>⟨h5,fun e=>h e.symm⟩,fun h e=>h.2 e.symm⟩
   ·rw[if_neg h2]
    exact hj3 false ⟨fun h=>(by cases h),fun h=>by omega⟩
theorem relD_set {g:List Nd}(hi:Inc g){d:List Int}{dm:List (Int×Int)}(h:RelD g d dm)(hd:d.length=g.length){i:Nat}{n:Nd}(hn:g[i]?=some n)(v:Int):RelD g (d.set i v) (Z.mins dm n.1 v):=fun j q hq=>by
 rw[Z.mget_ins]
 have hl:=(List.getElem?_eq_some_iff.1 hn).1
 by_cases e:q.1=n.1
 ·have:=hi.inj hq hn e
  subst this
  rw[if_pos e]
  unfold iget
  rw[Int.toNat_natCast,List.getElem?_set_self (by omega)];rfl
 ·rw[if_neg e,h j q hq]
  have hne:i≠j:=fun h2=>e (by subst h2;rw[hn]at hq;injection hq with hq;rw[hq])
  unfold iget
  rw[Int.toNat_natCast,List.getElem?_set_ne hne]
def KeyD (g:List Nd)(l:List Int)(dm:List (Int×Int)):Prop:=∀id,Z.mhas dm id=l.any fun p=>decide (idAt g p=id)
theorem depths_l3P (g:List Nd)(l:List Int)(hb:Few g)(hi:Inc g)(hfed:Fed g)(ho:Own g)(hl:l.length≤60)(hp:Plc g l): ∀(r k f:Nat) (d:List Int) (dm:List (Int×Int)),k+r=l.length→r<f→RelD g d dm→InB d→d.length=g.length→KeyD g (l.take k) dm→
  (∃d' dm',depthsF g (l.drop k) d=some d'∧F.y (mapOf g,l.map (idAt g),[]) f dm (k:Int)=A.mrg (F.aF (mapOf g,l.map (idAt g),[]) dm') (some (true,(mapOf g,l.map (idAt g),dm'))) (mapOf g)∧RelD g d' dm'∧InB d'∧d'.length=g.length∧KeyD g l dm')∨
  (depthsF g (l.drop k) d=none∧∃p,F.y (mapOf g,l.map (idAt g),[]) f dm (k:Int)=some (false,p))
 |0,k,f,d,dm,hk,hf,h1,h2,h3,h4=>by
  obtain⟨f,rfl⟩: ∃f',f=f'+1:=⟨f-1,by omega⟩
  left
  rw[List.take_of_length_le (by omega)]at h4
  refine⟨d,dm,by rw[List.drop_eq_nil_of_le (by omega)];rfl,?_,h1,h2,h3,h4⟩
  rw[F.y,if_neg (by simp only[List.length_map];omega)]
 |r+1,k,f,d,dm,hk,hf,h1,h2,h3,h4=>by
  obtain⟨f,rfl⟩: ∃f',f=f'+1:=⟨f-1,by omega⟩
  have hx:l[k]?=some l[k]:=List.getElem?_eq_getElem (by omega)
  generalize l[k]=x at hx
  obtain⟨q,n,rfl,hn⟩:=hp k x hx
  have hng:=List.mem_of_getElem? hn
  have hid:idAt g (q:Int)=n.1:=by unfold idAt;rw[at_some rfl hn]
  have e1:A.ix (l.map (idAt g)) (k:Int)=some n.1:=A.ixn (by rw[List.getElem?_map,hx,Option.map_some,hid])
  obtain⟨v,b,ho1,ho2⟩:=out_eq g d (mapOf g,l.map (idAt g),dm) n h1 h2 (ho n hng) (hfed n hng)
  have eF:F.y (mapOf g,l.map (idAt g),[]) (f+1) dm (k:Int)=if(!b)=true then some (false,(mapOf g,l.map (idAt g),dm))else A.gd (Z.R64 ((k:Int)+1)) (F.y (mapOf g,l.map (idAt g),[]) f (Z.mins dm n.1 v) ((k:Int)+1)):=by
   rw[F.y,if_pos (by simp only[List.length_map];omega)]
   simp only[e1,Option.bind_some,A.lt,hi.mget hn]
   rw[show F.br (mapOf g,l.map (idAt g),dm) n=_ from ho1,Option.bind_some]
  rw[A.dropx hx,depthsF,at_some rfl hn,eF]
  rcases ho2 with⟨rfl,h5⟩|⟨rfl,h5,h6⟩
  ·right
   rw[if_pos (show depthOf n (n.2.2.1.map fun k=>iget d (idx g k))<0 from h5)]
   exact⟨rfl,_,if_pos rfl⟩
  ·subst h5
   rw[if_neg (show ¬depthOf n (n.2.2.1.map fun k=>iget d (idx g k))<0 by simp only[inD]at h6;omega),if_neg (by simp),A.gd1 (A.r64n (by omega)),Int.toNat_natCast]
   have:=depths_l3P g l hb hi hfed ho hl hp r (k+1) f (d.set q (depthOf n (inD g d n.2.2.1))) (Z.mins dm n.1 (depthOf n (inD g d n.2.2.1))) (by omega) (by omega) (relD_set hi h1 h3 hn _) (h2.set q h6 (depthOf_le n _)) (by rw[iset_len];exact h3) (fun id=>by
    rw[Z.mhas_ins,take_s hx,List.any_append,h4 id,List.any_cons,List.any_nil,Bool.or_false,hid,Bool.or_comm]
    congr 1
    exact decide_eq_decide.2 ⟨fun h=>h.symm,fun h=>h.symm⟩)
   exact this
theorem loopsF_any (g:List Nd)(d:List Int): ∀l,loopsF g d l= !(l.any fun x=>decide (x.2.1=14∧iget d (idx g (iget x.2.2.1 0))≠x.2.2.2.2.2.2))
 | []=>rfl
 |x::r=>by
  unfold loopsF
  rw[List.any_cons]
  by_cases h:x.2.1=14∧iget d (idx g (iget x.2.2.1 0))≠x.2.2.2.2.2.2
  ·rw[if_pos h,decide_eq_true h];rfl
  ·rw[if_neg h,decide_eq_false h,Bool.false_or];exact loopsF_any g d r
theorem depths_same (g:List Nd)(l:List Int)(hb:Few g)(hi:Inc g)(hfed:Fed g)(ho:Own g)(hl:l.length≤60)(hp:Plc g l):
  (∃d dm,F.ct g l=some (d,true)∧F.aH (mapOf g,l.map (idAt g),[])=some (true,(mapOf g,l.map (idAt g),dm))∧RelD g d dm∧InB d∧d.length=g.length∧KeyD g l dm∧loopsF g d g=true∧depthsF g l (List.replicate g.length 0)=some d)∨
  (F.ct g l=some ([],false)∧∃p,F.aH (mapOf g,l.map (idAt g),[])=some (false,p)):=by
 have h0:RelD g (List.replicate g.length 0) []:=fun i n hn=>by
  unfold iget;rw[Int.toNat_natCast,List.getElem?_replicate];split<;>rfl
 rw[depths_l4 g l hb hfed ho hl hp]
 unfold F.aH depths
 rcases depths_l3P g l hb hi hfed ho hl hp l.length 0 A.FU (List.replicate g.length 0) [] (by omega) (by have:=FU_big;omega) h0 (InB.rep _) (by simp) (fun id=>by simp[Z.mhas])with⟨d,dm,h1,h2,h3,h4,h5,h6⟩|⟨h1,p,h2⟩
 ·rw[List.drop_zero]at h1
  rw[h1]
  simp only[]
  have hm:A.mrg (F.aF (mapOf g,l.map (idAt g),[]) dm) (some (true,(mapOf g,l.map (idAt g),dm))) (mapOf g)=if(mapOf g).any (fun p=>decide (p.2.2.1=14∧iget d (idx g (iget p.2.2.2.1 0))≠p.2.2.2.2.2.2.2))=true then some (false,(mapOf g,l.map (idAt g),dm))else some (true,(mapOf g,l.map (idAt g),dm)):=by
   refine A.mrg_any fun p hp=>?_
   obtain⟨n,hn,rfl⟩:=List.mem_map.1 hp
   unfold F.aF F.aW
   by_cases h14:n.2.1=14
   ·have hl1:n.2.2.1.length=1:=by rcases own_len (ho n hn)with h2|h2|h2<;>omega
    have hk0:n.2.2.1[0]?=some (iget n.2.2.1 0):=iget_nat (i:=0) (by omega)
    have f0:=hfed n hn _ (List.mem_of_getElem? hk0)
    rw[if_pos h14,show A.ix n.2.2.1 0=_ from A.ixn hk0,Option.bind_some,A.lt,h3.in f0]
    by_cases e:iget d (idx g (iget n.2.2.1 0))≠n.2.2.2.2.2.2
    ·rw[decide_eq_true e,if_pos rfl,decide_eq_true (And.intro h14 e),if_pos rfl]
    ·rw[decide_eq_false e,if_neg Bool.false_ne_true,decide_eq_false (fun h=>e h.2),if_neg Bool.false_ne_true]
   ·rw[if_neg h14,if_neg Bool.false_ne_true,decide_eq_false (fun h=>h14 h.1),if_neg Bool.false_ne_true]
  have hany:(mapOf g).any (fun p=>decide (p.2.2.1=14∧iget d (idx g (iget p.2.2.2.1 0))≠p.2.2.2.2.2.2.2))=g.any fun x=>decide (x.2.1=14∧iget d (idx g (iget x.2.2.1 0))≠x.2.2.2.2.2.2):=by
   unfold mapOf;rw[List.any_map];rfl
  have h2':F.y (mapOf g,l.map (idAt g),[]) A.FU [] 0=_:=h2.trans hm
  rw[h2',hany,loopsF_any]
  cases hc:g.any fun x=>decide (x.2.1=14∧iget d (idx g (iget x.2.2.1 0))≠x.2.2.2.2.2.2)with
  |true=>right;exact⟨rfl,_,rfl⟩
  |false=>left;exact⟨d,dm,rfl,rfl,h3,h4,h5,h6,by rw[loopsF_any,hc];rfl,rfl⟩
 ·rw[List.drop_zero]at h1
  rw[h1]
  right
  exact⟨rfl,p,h2⟩
theorem insS_len (g:List Nd)(d:List Int)(id:Int): ∀(k:Nat) (l:List Int),(insS g d id k l).length=l.length
 |_,[]=>rfl
 |k,x::r=>by unfold insS;rw[List.length_cons,List.length_cons,insS_len g d id (k+1) r]
theorem outS_len (n:Nd)(v:Int):(outS n v).length≤1:=by unfold outS;split<;>simp
theorem in2 {g:List Nd}(ho:Own g){n:Nd}(hn:n∈g):n.2.2.1.length≤2:=by rcases own_len (ho n hn)with h|h|h<;>omega
theorem spots_l2P (g:List Nd)(d:List Int)(a0:(List (Int×Nd))×(List Int)×(List (Int×Int)))(k8:List Sp→Int→Option (List Sp))(y:Nat)(x:Nd)(xs:List Sp)(hr:RelD g d a0.2.2)(hx:g[y]?=some x)(hl:x.2.2.1.length≤2)(hf: ∀k∈x.2.2.1,0≤idx g k)(hxs:xs.length≤1000)(hy:y≤100):
  F.ap k8 a0 (y:Int) x A.FU xs 0=k8 (xs++(insS g d x.1 0 x.2.2.1++outS x (iget d (y:Int)))) ((y:Int)+1):=
 A.lp x.2.2.1 (fun f (s:List Sp) i=>F.ap k8 a0 (y:Int) x f s i) (fun k t s=>k8 (s++(insS g d x.1 k t++outS x (iget d (y:Int)))) ((y:Int)+1)) (fun k s=>s.length≤1000+k)
  (fun f s hs=>by
   rw[F.ap,if_neg (by omega),insS,List.nil_append,outS,A.lt,hr y x hx]
   simp only[F.a7,A.gd1 (A.r64n (n:=y) (by omega))]
   by_cases h:x.2.1≠15
   ·rw[if_pos h,if_pos h,A.gd1 (by simp only[List.length_cons,List.length_nil];omega)]
   ·rw[if_neg h,if_neg h,List.append_nil])
  (fun f s k z hz hk hs ih=>by
   have h1:=hf z (List.mem_of_getElem? hz)
   rw[F.ap,if_pos (by omega),A.ixn hz,Option.bind_some,A.lt,hr.in h1,A.gd1 (by simp only[List.length_cons,List.length_nil];omega),A.gd1 (A.r64n (by omega)),ih _ (by simp only[List.length_append,List.length_cons,List.length_nil];omega),insS]
   simp only[List.append_assoc,List.singleton_append,List.cons_append,List.nil_append])
  (by have:=FU_big;omega) xs (by omega)
theorem spotsP_eq (g:List Nd)(d:List Int)(a0:(List (Int×Nd))×(List Int)×(List (Int×Int)))(hb:Few g)(hfed:Fed g)(ho:Own g)(hr:RelD g d a0.2.2):F.aQ a0 g=some (spots g d):=by
 have hlen:=hb.1
 have loop:=A.lp g (fun f (s:List Sp) i=>F.ak a0 g f s i) (fun k t s=>some (s++spotsF g d k t)) (fun k s=>s.length≤3*k)
  (fun f s hs=>by rw[F.ak,if_neg (by omega),spotsF,List.append_nil])
  (fun f s k x hx hk hs ih=>by
   have hxg:=List.mem_of_getElem? hx
   have h2:=in2 ho hxg
   have h3:=outS_len x (iget d (k:Int))
   rw[F.ak,if_pos (by omega),A.ixn hx,Option.bind_some,spots_l2P g d a0 _ k x s hr hx h2 (hfed x hxg) (by omega) (by omega),ih _ (by rw[List.length_append,List.length_append,insS_len];omega),spotsF]
   simp only[List.append_assoc])
  (by have:=FU_big;omega) [] (by simp)
 unfold F.aQ
 rw[loop];rfl
theorem spots_l2R (g:List Nd)(d:List Int)(k8:List Sp→Int→Option (List Sp))(y:Nat)(x:Nd)(xs:List Sp)(hg:g.length≤100)(hd:d.length=g.length)(hx:g[y]?=some x)(hl:x.2.2.1.length≤2)(hf: ∀k∈x.2.2.1,0≤idx g k)(hxs:xs.length≤1000)(hy:y≤100):
  F.bN k8 g d (y:Int) x A.FU xs 0=k8 (xs++(insS g d x.1 0 x.2.2.1++outS x (iget d (y:Int)))) ((y:Int)+1):=
 A.lp x.2.2.1 (fun f (s:List Sp) i=>F.bN k8 g d (y:Int) x f s i) (fun k t s=>k8 (s++(insS g d x.1 k t++outS x (iget d (y:Int)))) ((y:Int)+1)) (fun k s=>s.length≤1000+k)
  (fun f s hs=>by
   have hyl:=(List.getElem?_eq_some_iff.1 hx).1
   rw[F.bN,if_neg (by omega),insS,List.nil_append,outS]
   simp only[F.cW,A.gd1 (A.r64n (n:=y) (by omega))]
   by_cases h:x.2.1≠15
   ·rw[if_pos h,if_pos h,iix (by omega) (by omega),Option.bind_some,A.gd1 (by simp only[List.length_cons,List.length_nil];omega)]
   ·rw[if_neg h,if_neg h,List.append_nil])
  (fun f s k z hz hk hs ih=>by
   have h1:=hf z (List.mem_of_getElem? hz)
   have h2:=(idx_le g z).2
   rw[F.bN,if_pos (by omega),A.ixn hz,Option.bind_some,index_eq g z hg,Option.bind_some,iix h1 (by omega),Option.bind_some,A.gd1 (by simp only[List.length_cons,List.length_nil];omega),A.gd1 (A.r64n (by omega)),ih _ (by simp only[List.length_append,List.length_cons,List.length_nil];omega),insS]
   simp only[List.append_assoc,List.singleton_append,List.cons_append,List.nil_append])
  (by have:=FU_big;omega) xs (by omega)
theorem spotsR_eq (g:List Nd)(d:List Int)(hb:Few g)(hfed:Fed g)(ho:Own g)(hd:d.length=g.length):F.c3 g d=some (spots g d):=by
 have hlen:=hb.1
 have loop:=A.lp g (fun f (s:List Sp) i=>F.ca g d f s i) (fun k t s=>some (s++spotsF g d k t)) (fun k s=>s.length≤3*k)
  (fun f s hs=>by rw[F.ca,A.ba,if_neg (by simp),spotsF,List.append_nil])
  (fun f s k x hx hk hs ih=>by
   have hxg:=List.mem_of_getElem? hx
   have h2:=in2 ho hxg
   have h3:=outS_len x (iget d (k:Int))
   rw[F.ca,A.ba,if_pos (by simp only[decide_eq_true_eq];omega),A.ixn hx,Option.bind_some,spots_l2R g d _ k x s (by omega) hd hx h2 (hfed x hxg) (by omega) (by omega),ih _ (by rw[List.length_append,List.length_append,insS_len];omega),spotsF]
   simp only[List.append_assoc])
  (by have:=FU_big;omega) [] (by simp)
 unfold F.c3
 rw[loop];rfl
abbrev Ed:=Pl×Pl×Sm
theorem five {P:Int→Prop}(h0:P 0)(h1:P 1)(h2:P 2)(h3:P 3)(h4:P 4)(d:Int)(hd:0≤d∧d≤4):P d:=by
 have:d=0∨d=1∨d=2∨d=3∨d=4:=by omega
 rcases this with rfl|rfl|rfl|rfl|rfl<;>assumption
theorem Id_eqP (d:Int)(hd:0≤d∧d≤4):F.cO d=some (idP d):=five (P:=fun d=>F.cO d=some (idP d)) (by kernel_rfl) (by kernel_rfl) (by kernel_rfl) (by kernel_rfl) (by kernel_rfl) d hd
theorem Enter_eqP (d:Int)(hd:0≤d∧d≤4):F.cj d=some (enterP d):=five (P:=fun d=>F.cj d=some (enterP d)) (by kernel_rfl) (by kernel_rfl) (by kernel_rfl) (by kernel_rfl) (by kernel_rfl) d hd
theorem Leave_eqP (d:Int)(hd:0≤d∧d≤4):F.ck d=some (leaveP d):=five (P:=fun d=>F.ck d=some (leaveP d)) (by kernel_rfl) (by kernel_rfl) (by kernel_rfl) (by kernel_rfl) (by kernel_rfl) d hd
theorem Next_eqP (d:Int)(hd:0≤d∧d≤4):F.cE d=some (nextP d):=five (P:=fun d=>F.cE d=some (nextP d)) (by kernel_rfl) (by kernel_rfl) (by kernel_rfl) (by kernel_rfl) (by kernel_rfl) d hd
theorem Id_eqR (d:Int)(hd:0≤d∧d≤4):F.dw d=some (idP d):=five (P:=fun d=>F.dw d=some (idP d)) (by kernel_rfl) (by kernel_rfl) (by kernel_rfl) (by kernel_rfl) (by kernel_rfl) d hd
theorem Enter_eqR (d:Int)(hd:0≤d∧d≤4):F.dm d=some (enterP d):=five (P:=fun d=>F.dm d=some (enterP d)) (by kernel_rfl) (by kernel_rfl) (by kernel_rfl) (by kernel_rfl) (by kernel_rfl) d hd
theorem Leave_eqR (d:Int)(hd:0≤d∧d≤4):F.dn d=some (leaveP d):=five (P:=fun d=>F.dn d=some (leaveP d)) (by kernel_rfl) (by kernel_rfl) (by kernel_rfl) (by kernel_rfl) (by kernel_rfl) d hd
theorem Next_eqR (d:Int)(hd:0≤d∧d≤4):F.du d=some (nextP d):=five (P:=fun d=>F.du d=some (nextP d)) (by kernel_rfl) (by kernel_rfl) (by kernel_rfl) (by kernel_rfl) (by kernel_rfl) d hd
theorem within_eqP (n:Nd)(d:Int)(hd:0≤d∧d≤4):F.bG n d=some (withinP n d):=by
 unfold F.bG withinP
 simp only[Id_eqP d hd,Enter_eqP d hd,Leave_eqP d hd,Next_eqP d hd,Option.bind_some,F.aX]
 repeat' split
 all_goals rfl
theorem within_eqR (n:Nd)(d:Int)(hd:0≤d∧d≤4):F.cN n d=some (withinP n d):=by
 unfold F.cN withinP
 simp only[Id_eqR d hd,Enter_eqR d hd,Leave_eqR d hd,Next_eqR d hd,Option.bind_some,F.bW]
 repeat' split
 all_goals rfl
def useN (id nd:Int):Nat→List Int→List Pl
 |_,[]=>[]
 |k,z::r=>if z=id then(nd,(k:Int))::useN id nd (k+1) r else useN id nd (k+1) r
def usesF (id:Int):List Nd→List Pl
 | []=>[]
 |n::r=>useN id n.1 0 n.2.2.1++usesF id r
theorem useN_len (id nd:Int): ∀(k:Nat) (l:List Int),(useN id nd k l).length≤l.length
 |_,[]=>Nat.le_refl 0
 |k,z::r=>by
  unfold useN
  have:=useN_len id nd (k+1) r
  split<;>simp only[List.length_cons]<;>omega
theorem usesF_len (id:Int): ∀(l:List Nd),(∀n∈l,n.2.2.1.length≤2)→(usesF id l).length≤2*l.length
 | [],_=>Nat.le_refl 0
 |n::r,h=>by
  unfold usesF
  have h1:=usesF_len id r fun x hx=>h x (List.mem_cons_of_mem _ hx)
  have h2:=useN_len id n.1 0 n.2.2.1
  have h3:=h n (List.mem_cons_self ..)
  rw[List.length_append,List.length_cons];omega
theorem Values_eq (g:List Nd)(hg:g.length≤100):F.an g=some g:=
 A.lp0 g (fun f y=>F.r g f y) (fun _ l=>some l)
  (fun f=>by rw[F.r,if_neg (by omega)])
  (fun f k x hx hk ih=>by rw[F.r,if_pos (by omega),A.ixn hx,Option.bind_some,A.gd1 (A.r64n (by omega)),ih];rfl)
  (by have:=FU_big;omega)
theorem users_l2 (id:Int)(n:Nd)(k4:List Pl→Option (List Pl))(xs:List Pl)(hl:n.2.2.1.length≤2)(hxs:xs.length≤1000):F.ax k4 id n A.FU xs 0=k4 (xs++useN id n.1 0 n.2.2.1):=
 A.lp n.2.2.1 (fun f (s:List Pl) i=>F.ax k4 id n f s i) (fun k t s=>k4 (s++useN id n.1 k t)) (fun k s=>s.length≤1000+k)
  (fun f s hs=>by rw[F.ax,if_neg (by omega),useN,List.append_nil])
  (fun f s k z hz hk hs ih=>by
   rw[F.ax,if_pos (by omega),A.ixn hz,Option.bind_some,useN]
   simp only[F.bF,A.gd1 (A.r64n (n:=k) (by omega))]
   by_cases h:z=id
   ·rw[if_pos h,if_pos h,A.gd1 (by simp only[List.length_cons,List.length_nil];omega),ih _ (by simp only[List.length_append,List.length_cons,List.length_nil];omega)]
    simp only[List.append_assoc,List.singleton_append,List.cons_append,List.nil_append]
   ·rw[if_neg h,if_neg h,ih _ (by omega)])
  (by have:=FU_big;omega) xs (by omega)
theorem users_l3 (id:Int): ∀(l:List Nd) (xs:List Pl),(∀n∈l,n.2.2.1.length≤2)→xs.length+2*l.length≤900→F.ay id l xs=some (xs++usesF id l)
 | [],xs,_,_=>by rw[F.ay,usesF,List.append_nil]
 |n::r,xs,h,hx=>by
  have h3:=h n (List.mem_cons_self ..)
  have h2:=useN_len id n.1 0 n.2.2.1
  rw[List.length_cons]at hx
  rw[F.ay,users_l2 id n _ xs h3 (by omega),users_l3 id r _ (fun x hx=>h x (List.mem_cons_of_mem _ hx)) (by rw[List.length_append];omega),usesF,List.append_assoc]
theorem users_eq (g:List Nd)(id:Int)(hb:Few g)(h2: ∀n∈g,n.2.2.1.length≤2):F.cb g id=some (usesF id g):=by
 have:=hb.1
 unfold F.cb F.av
 rw[Option.bind_some,Values_eq g (by omega),Option.bind_some,users_l3 id g [] h2 (by simp;omega)];rfl
def inE (g:List Nd)(d:List Int)(n:Nd):Nat→List Int→List Ed
 |_,[]=>[]
 |k,z::r=>((n.1,(k:Int)),(n.1,2),withinP n (iget d (idx g z)))::inE g d n (k+1) r
def outE (g:List Nd)(n:Nd)(v:Int):List Ed:=(usesF n.1 g).map fun u=>((n.1,2),u,(idP v).1)
def edgesF (g:List Nd)(d:List Int):Nat→List Nd→List Ed
 |_,[]=>[]
 |i,n::r=>if n.2.1=15 then edgesF g d (i+1) r else inE g d n 0 n.2.2.1++(outE g n (iget d (i:Int))++edgesF g d (i+1) r)
def edges (g:List Nd)(d:List Int):List Ed:=edgesF g d 0 g
theorem inE_len (g:List Nd)(d:List Int)(n:Nd): ∀(k:Nat) (l:List Int),(inE g d n k l).length=l.length
 |_,[]=>rfl
 |k,x::r=>by unfold inE;rw[List.length_cons,List.length_cons,inE_len g d n (k+1) r]
theorem edges_l2P (k30:List Ed→Int→Option (List Ed))(y:Nat)(n:Nd)(s:Sm)(us:List Pl)(xs:List Ed)(hy:y≤100)(hu:us.length≤1000)(hxs:xs.length≤10000):
  F.aj k30 (y:Int) n s.1 s.2.1 s.2.2.1 s.2.2.2.1 s.2.2.2.2.1 s.2.2.2.2.2.1 s.2.2.2.2.2.2.1 s.2.2.2.2.2.2.2 us A.FU xs 0=k30 (xs++us.map fun u=>((n.1,2),u,s)) ((y:Int)+1):=
 A.lp us (fun f (t:List Ed) i=>F.aj k30 (y:Int) n s.1 s.2.1 s.2.2.1 s.2.2.2.1 s.2.2.2.2.1 s.2.2.2.2.2.1 s.2.2.2.2.2.2.1 s.2.2.2.2.2.2.2 us f t i) (fun k t e=>k30 (e++t.map fun u=>((n.1,2),u,s)) ((y:Int)+1)) (fun k t=>t.length≤10000+k)
  (fun f t ht=>by rw[F.aj,if_neg (by omega),F.aK,A.gd1 (A.r64n (by omega)),List.map_nil,List.append_nil])
  (fun f t k z hz hk ht ih=>by
   rw[F.aj,if_pos (by omega),A.ixn hz,Option.bind_some,A.gd1 (by simp only[List.length_cons,List.length_nil];omega),A.gd1 (A.r64n (by omega)),ih _ (by simp only[List.length_append,List.length_cons,List.length_nil];omega)]
   simp only[List.append_assoc,List.singleton_append,List.cons_append,List.nil_append,List.map_cons])
  (by have:=FU_big;omega) xs (by omega)
theorem edges_l4P (g:List Nd)(d:List Int)(a0:(List (Int×Nd))×(List Int)×(List (Int×Int)))(k30:List Ed→Int→Option (List Ed))(y:Nat)(n:Nd)(xs:List Ed)(hb:Few g)(ho:Own g)(hib:InB d)(hr:RelD g d a0.2.2)(hn:g[y]?=some n)(hf: ∀k∈n.2.2.1,0≤idx g k)(hxs:xs.length≤9000):
  F.ao k30 a0 g (y:Int) n A.FU xs 0=k30 (xs++(inE g d n 0 n.2.2.1++outE g n (iget d (y:Int)))) ((y:Int)+1):=
 A.lp n.2.2.1 (fun f (t:List Ed) i=>F.ao k30 a0 g (y:Int) n f t i) (fun k t e=>k30 (e++(inE g d n k t++outE g n (iget d (y:Int)))) ((y:Int)+1)) (fun k t=>t.length≤9000+k)
  (fun f t ht=>by
   have hlen:=hb.1
   have hyl:=(List.getElem?_eq_some_iff.1 hn).1
   have h2:=in2 ho (List.mem_of_getElem? hn)
   have hu:=usesF_len n.1 g fun x hx=>in2 ho hx
   rw[F.ao,if_neg (by omega),A.lt,hr y n hn,Id_eqP _ (hib _),Option.bind_some,F.bx,users_eq g n.1 hb (fun x hx=>in2 ho hx),Option.bind_some,
    show F.aj k30 (y:Int) n _ _ _ _ _ _ _ _ (usesF n.1 g) A.FU t 0=_ from edges_l2P k30 y n (idP (iget d (y:Int))).1 (usesF n.1 g) t (by omega) (by omega) (by omega),inE,List.nil_append]
   rfl)
  (fun f t k z hz hk ht ih=>by
   have h1:=hf z (List.mem_of_getElem? hz)
   have h2:=in2 ho (List.mem_of_getElem? hn)
   rw[F.ao,if_pos (by omega),A.ixn hz,Option.bind_some,A.lt,hr.in h1,show F.bG n _=_ from within_eqP n _ (hib _),Option.bind_some,A.gd1 (by simp only[List.length_cons,List.length_nil];omega),A.gd1 (A.r64n (by omega)),ih _ (by simp only[List.length_append,List.length_cons,List.length_nil];omega),inE]
   simp only[List.append_assoc,List.singleton_append,List.cons_append,List.nil_append])
  (by have:=FU_big;have:=in2 ho (List.mem_of_getElem? hn);omega) xs (by omega)
theorem edgesP_eq (g:List Nd)(d:List Int)(a0:(List (Int×Nd))×(List Int)×(List (Int×Int)))(hb:Few g)(hfed:Fed g)(ho:Own g)(hib:InB d)(hr:RelD g d a0.2.2):F.aE a0 g=some (edges g d):=by
 have hlen:=hb.1
 have loop:=A.lp g (fun f (s:List Ed) i=>F.x a0 g f s i) (fun k t s=>some (s++edgesF g d k t)) (fun k s=>s.length≤83*k)
  (fun f s hs=>by rw[F.x,if_neg (by omega),edgesF,List.append_nil])
  (fun f s k x hx hk hs ih=>by
   have hxg:=List.mem_of_getElem? hx
   have h2:=in2 ho hxg
   have hu:=usesF_len x.1 g fun x hx=>in2 ho hx
   rw[F.x,if_pos (by omega),A.ixn hx,Option.bind_some,edgesF]
   by_cases h:x.2.1=15
   ·rw[if_pos h,if_pos h,F.aK,A.gd1 (A.r64n (by omega)),ih _ (by omega)]
   ·rw[if_neg h,if_neg h,edges_l4P g d a0 _ k x s hb ho hib hr hx (hfed x hxg) (by omega),ih _ (by rw[List.length_append,List.length_append,inE_len,outE,List.length_map];omega)]
    simp only[List.append_assoc])
  (by have:=FU_big;omega) [] (by simp)
 unfold F.aE
 rw[loop];rfl
theorem Find_eq (g:List Nd)(hb:Few g){j:Nat}{n:Nd}(hi:Inc g)(hn:g[j]?=some n):F.dc g n.1=some (n,true):=by
 have:=hb.1
 have hin:=hb.in hn
 unfold F.dc
 rw[index_eq g _ (by omega),Option.bind_some,hi.idx hn,if_neg (by omega),A.ixn hn,Option.bind_some,A.gd1 (by simp only[List.length_nil];omega)]
 rfl
theorem edges_l4R (g:List Nd)(k37:List Ed→Int→Option (List Ed))(sp:Sp)(r18:Nd×Bool)(r59:Sm×Int)(j:Nat)(m:Nd)(xs:List Ed)(hg:g.length≤100)(hm:g[j]?=some m)(hl:m.2.2.1.length≤2)(hxs:xs.length≤20000):
  F.bv k37 g sp r18 r59 (j:Int) A.FU xs 0=k37 (xs++(useN r18.1.1 m.1 0 m.2.2.1).map fun u=>(sp.1,u,r59.1)) ((j:Int)+1):=
 A.lp m.2.2.1 (fun f (t:List Ed) i=>F.bv k37 g sp r18 r59 (j:Int) f t i) (fun k t e=>k37 (e++(useN r18.1.1 m.1 k t).map fun u=>(sp.1,u,r59.1)) ((j:Int)+1)) (fun k t=>t.length≤20000+k)
  (fun f t ht=>by
   have hjl:=(List.getElem?_eq_some_iff.1 hm).1
   rw[F.bv,A.ixn hm,Option.bind_some,if_neg (by omega),A.gd1 (A.r64n (by omega)),useN,List.map_nil,List.append_nil])
  (fun f t k z hz hk ht ih=>by
   rw[F.bv,A.ixn hm,Option.bind_some,if_pos (by omega),Option.bind_some,A.ixn hz,Option.bind_some,useN]
   simp only[F.cY,A.gd1 (A.r64n (n:=k) (by omega)),Option.bind_some]
   by_cases h:z=r18.1.1
   ·rw[if_pos h,if_pos h,A.gd1 (by simp only[List.length_cons,List.length_nil];omega),ih _ (by simp only[List.length_append,List.length_cons,List.length_nil];omega)]
    simp only[List.append_assoc,List.singleton_append,List.cons_append,List.nil_append,List.map_cons]
   ·rw[if_neg h,if_neg h,ih _ (by omega)])
  (by have:=FU_big;omega) xs (by omega)
theorem edges_l5R (g:List Nd)(k30:List Ed→Int→Option (List Ed))(y:Nat)(sp:Sp)(r18:Nd×Bool)(r59:Sm×Int)(xs:List Ed)(hb:Few g)(ho:Own g)(hxs:xs.length≤15000)(hy:y≤1000):
  F.bP k30 g (y:Int) sp r18 r59 A.FU xs 0=k30 (xs++(usesF r18.1.1 g).map fun u=>(sp.1,u,r59.1)) ((y:Int)+1):=
 A.lp g (fun f (t:List Ed) i=>F.bP k30 g (y:Int) sp r18 r59 f t i) (fun k t e=>k30 (e++(usesF r18.1.1 t).map fun u=>(sp.1,u,r59.1)) ((y:Int)+1)) (fun k t=>t.length≤15000+2*k)
  (fun f t ht=>by rw[F.bP,if_neg (by omega),F.cw,A.gd1 (A.r64n (by omega)),usesF,List.map_nil,List.append_nil])
  (fun f t k m hm hk ht ih=>by
   have hlen:=hb.1
   have h2:=in2 ho (List.mem_of_getElem? hm)
   have h3:=useN_len r18.1.1 m.1 0 m.2.2.1
   rw[F.bP,if_pos (by omega),edges_l4R g _ sp r18 r59 k m t (by omega) hm h2 (by omega),ih _ (by rw[List.length_append,List.length_map];omega),usesF,List.map_append,List.append_assoc])
  (by have:=FU_big;have:=hb.1;omega) xs (by omega)
def edOf (g:List Nd)(sp:Sp):List Ed:=if sp.1.2≠2 then(if(find g sp.1.1).1.2.1≠15 then [(sp.1,((find g sp.1.1).1.1,2),withinP (find g sp.1.1).1 sp.2)]else [])else(usesF (find g sp.1.1).1.1 g).map fun u=>(sp.1,u,(idP sp.2).1)
def edS (g:List Nd):List Sp→List Ed
 | []=>[]
 |sp::r=>edOf g sp++edS g r
def SpOk (g:List Nd)(sp:Sp):Prop:=(∃(j:Nat) (n:Nd),g[j]?=some n∧n.1=sp.1.1)∧0≤sp.2∧sp.2≤4
theorem find_eq {g:List Nd}(hi:Inc g){j:Nat}{n:Nd}(hn:g[j]?=some n):find g n.1=(n,true):=by
 unfold find
 rw[hi.idx hn,if_neg (by omega),at_some rfl hn]
theorem edgesR_l6 (g:List Nd)(l:List Sp)(hb:Few g)(hi:Inc g)(ho:Own g)(hl:l.length≤130)(hs: ∀sp∈l,SpOk g sp):F.cJ g l=some (edS g l):=by
 have hlen:=hb.1
 have loop:=A.lp l (fun f (s:List Ed) i=>F.bw g l f s i) (fun k t s=>some (s++edS g t)) (fun k s=>s.length≤83*k)
  (fun f s hs=>by rw[F.bw,if_neg (by omega),edS,List.append_nil])
  (fun f s k x hx hk hp ih=>by
   obtain⟨⟨j,n,hn,hid⟩,hd⟩:=hs x (List.mem_of_getElem? hx)
   have hu:=usesF_len n.1 g fun x hx=>in2 ho hx
   rw[F.bw,if_pos (by omega),A.ixn hx,Option.bind_some,←hid,Find_eq g hb hi hn,Option.bind_some,edS,edOf,←hid,find_eq hi hn]
   simp only[F.cX,F.cw,A.gd1 (A.r64n (n:=k) (by omega)),Option.bind_some]
   by_cases h2:x.1.2≠2
   ·rw[if_pos h2,if_pos h2]
    by_cases h15:n.2.1≠15
    ·rw[if_pos h15,if_pos h15,show F.cN n x.2=_ from within_eqR n x.2 hd,Option.bind_some,A.gd1 (by simp only[List.length_cons,List.length_nil];omega),ih _ (by simp only[List.length_append,List.length_cons,List.length_nil];omega),hid]
     simp only[List.append_assoc]
    ·rw[if_neg h15,if_neg h15,ih _ (by omega),List.nil_append]
   ·rw[if_neg h2,if_neg h2,Id_eqR x.2 hd,Option.bind_some,edges_l5R g _ k x (n,true) (idP x.2) s hb ho (by omega) (by omega),ih _ (by rw[List.length_append,List.length_map];show s.length+(usesF n.1 g).length≤_;omega),List.append_assoc])
  (by have:=FU_big;omega) [] (by simp)
 unfold F.cJ
 rw[loop];rfl
theorem edS_app (g:List Nd): ∀(a b:List Sp),edS g (a++b)=edS g a++edS g b
 | [],_=>rfl
 |x::a,b=>by rw[List.cons_append,edS,edS,edS_app g a b,List.append_assoc]
theorem edS_ins {g:List Nd}(hi:Inc g)(d:List Int){j:Nat}{n:Nd}(hn:g[j]?=some n): ∀(k:Nat) (l:List Int),k+l.length≤2→edS g (insS g d n.1 k l)=if n.2.1=15 then []else inE g d n k l
 |k,[],_=>by unfold insS inE edS;split<;>rfl
 |k,z::r,h=>by
  rw[List.length_cons]at h
  have h2:((k:Int):Int)≠2:=by omega
  unfold insS inE
  rw[edS,edS_ins hi d hn (k+1) r (by omega),edOf]
  simp only[find_eq hi hn]
  rw[if_pos h2]
  by_cases h15:n.2.1=15
  ·simp[h15]
  ·rw[if_neg h15,if_neg h15,if_pos h15];rfl
theorem edS_spots {g:List Nd}(hi:Inc g)(ho:Own g)(d:List Int): ∀(m k:Nat),k+m=g.length→edS g (spotsF g d k (g.drop k))=edgesF g d k (g.drop k)
 |0,k,h=>by rw[List.drop_eq_nil_of_le (by omega)];rfl
 |m+1,k,h=>by
  have hx:g[k]?=some g[k]:=List.getElem?_eq_getElem (by omega)
  generalize g[k]=x at hx
  have h2:=in2 ho (List.mem_of_getElem? hx)
  rw[A.dropx hx,spotsF,edgesF,edS_app,edS_app,edS_spots hi ho d m (k+1) (by omega),edS_ins hi d hx 0 _ (by omega)]
  by_cases h15:x.2.1=15
  ·rw[if_pos h15,if_pos h15,outS,if_neg (fun h=>h h15),edS];rfl
  ·rw[if_neg h15,if_neg h15,outS,if_pos h15,edS,edOf]
   simp only[find_eq hi hx]
   rw[if_neg (fun h=>h rfl),edS,List.append_nil];rfl
theorem o_aK {g:List Nd}{d:List Int}(hib:InB d){j:Nat}{n:Nd}(hn:g[j]?=some n): ∀(k:Nat) (l:List Int),∀sp∈insS g d n.1 k l,SpOk g sp
 |_,[],sp,h=>by cases h
 |k,z::r,sp,h=>by
  unfold insS at h
  rcases List.mem_cons.1 h with rfl|h
  ·exact⟨⟨j,n,hn,rfl⟩,hib _⟩
  ·exact o_aK hib hn (k+1) r sp h
theorem o_am {g:List Nd}{d:List Int}(hib:InB d): ∀(m k:Nat),k+m=g.length→∀sp∈spotsF g d k (g.drop k),SpOk g sp
 |0,k,h,sp,hs=>by rw[List.drop_eq_nil_of_le (by omega)]at hs;cases hs
 |m+1,k,h,sp,hs=>by
  have hx:g[k]?=some g[k]:=List.getElem?_eq_getElem (by omega)
  generalize g[k]=x at hx
  rw[A.dropx hx,spotsF]at hs
  rcases List.mem_append.1 hs with hs|hs
  ·exact o_aK hib hx 0 _ sp hs
  ·rcases List.mem_append.1 hs with hs|hs
   ·unfold outS at hs
    split at hs
    ·rw[List.mem_singleton]at hs;subst hs;exact⟨⟨k,x,hx,rfl⟩,hib _⟩
    ·cases hs
   ·exact o_am hib m (k+1) (by omega) sp hs
theorem spots_len {g:List Nd}(ho:Own g)(d:List Int): ∀(m k:Nat),k+m=g.length→(spotsF g d k (g.drop k)).length≤3*m
 |0,k,h=>by rw[List.drop_eq_nil_of_le (by omega)];exact Nat.le_refl 0
 |m+1,k,h=>by
  have hx:g[k]?=some g[k]:=List.getElem?_eq_getElem (by omega)
  generalize g[k]=x at hx
  have h2:=in2 ho (List.mem_of_getElem? hx)
  have h3:=outS_len x (iget d (k:Int))
  have h4:=spots_len ho d m (k+1) (by omega)
  rw[A.dropx hx,spotsF,List.length_append,List.length_append,insS_len];omega
theorem edgesR_eq (g:List Nd)(d:List Int)(hb:Few g)(hi:Inc g)(ho:Own g)(hib:InB d):F.cJ g (spots g d)=some (edges g d):=by
 have h1:=spots_len ho d g.length 0 (by omega)
 have h2:=o_am (d:=d) (g:=g) hib g.length 0 (by omega)
 have h3:=edS_spots hi ho d g.length 0 (by omega)
 rw[List.drop_zero]at h1 h2 h3
 have:=hb.1
 rw[edgesR_l6 g (spots g d) hb hi ho (by unfold spots;omega) h2]
 exact congrArg some h3
end Go.Proofs.YtbdlcighhphaoaaDoor
end
