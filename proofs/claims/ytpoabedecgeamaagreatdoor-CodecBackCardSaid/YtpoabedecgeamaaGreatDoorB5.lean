import Derived.Test.YtpoabedecgeamaaGreatDoorB4
import Derived.Lib.TrimUEq
set_option linter.defProp false
set_option linter.unusedVariables false
set_option linter.unusedSimpArgs false
set_option maxRecDepth 20000
set_option maxHeartbeats 8000000
set_option synthInstance.maxSize 1000000
set_option synthInstance.maxHeartbeats 400000
section
namespace Go.Proofs.YtpoabedecgeamaaGreatDoor
open Go.RowKit
abbrev l5a:List Value:=[A.i 0,A.i 0,A.i 0,A.i 0,A.i 0,A.i 0,A.i 0,A.i 0,A.i 0,A.i 0,.slice none 0 0,.slice none 0 0,.slice none 0 0,.slice none 0 0,.slice none 0 0,A.i 0,.slice none 0 0,.bool false,A.i 0]
abbrev l5b:List Nat:=[0,1,2,3,4,5,6,7,8,9,10,11,12,13,258,259]
abbrev l5c:List Nat:=[0,1,2,3,4,5,6,7,8,9,10,11,12,13,258]
abbrev l5d:List Nat:=[0,1,2,3,4,5,6,7,8,9,10,11,12,13]
variable(A0_ A1_ A2_ A3_ A4_ A5_ A6_ A7_ A8_ A10_ A12_ A13_ A14_ A15_ A16_ A17_ A18_ A19_ A21_ A24_ A26_ A34_ A36_ A38_ A40_ A42_ A44_ A45_ A46_ A49_:Option Addr)(g0_ b1_ c1_ g1_ c2_ g2_ c3_ b4_ c4_ b5_ c5_ g5_ b6_ c6_ c7_ c8_ c9_ g10_ c11_ c13_ c14_ c15_ c16_ c17_ c18_ c19_ c20_ c22_ c25_ c27_ g27_ c35_ c37_ c39_ c41_ c43_ c45_ c46_ c47_ c50_:Nat)
def F.cW (a:Bool):Option Bool:=some a
def F.bM (a:D48)(e:D48):Nat->Int->Option Bool
 |0,_=>none
 |f+1,h=>if h<(a.2.2.2.2.2.1.length:Int)then((A.ix a.2.2.2.2.2.1 h).bind λk=>((A.ix e.2.2.2.2.2.1 h).bind λo=>(if k≠o then(some false)else(A.gd (Z.R64 (h+1)) ((F.bM a e f) (h+1))))))else((F.dn a.2.2.2.2.1 e.2.2.2.2.1).bind λp=>(if p=true then((F.c9 a.2.2.2.2.2.2.1 e.2.2.2.2.2.2.1).bind λs=>(if s=true then((F.cG a.2.2.2.2.2.2.2.2.1 e.2.2.2.2.2.2.2.2.1).bind λt=>(F.cW t))else(F.cW false)))else(F.cW false)))
def F.cf (a:D48)(e:D48)(f:Bool):Option Bool:=if f=true then(some false)else(F.bM a e A.FU 0)
def F.cJ (a:D48)(e:D48):Option Bool:=if(bif decide (a.1≠e.1)then true else decide (a.2.1≠e.2.1))=true then(F.cf a e true)else(if a.2.2.1≠e.2.2.1 then(F.cf a e true)else(F.cf a e (bif bif bif bif decide (a.2.2.2.1≠e.2.2.2.1)then true else decide (a.2.2.2.2.2.2.2.1≠e.2.2.2.2.2.2.2.1)then true else decide (a.2.2.2.2.2.2.2.2.2.1≠e.2.2.2.2.2.2.2.2.2.1)then true else decide (a.2.2.2.2.2.2.2.2.2.2≠e.2.2.2.2.2.2.2.2.2.2)then true else decide ((a.2.2.2.2.2.1.length:Int)≠(e.2.2.2.2.2.1.length:Int)))))
theorem o_bz(h:D48)(k:D48)(a6:A.h6 h.1)(a7:A.h6 h.2.1)(a8:A.h6 h.2.2.1.1)(a9:A.h6 h.2.2.1.2)(aa:A.h6 h.2.2.2.1.1)(ab:A.h6 h.2.2.2.1.2.1)(ac:A.h6 h.2.2.2.1.2.2.1)(ad:A.h6 h.2.2.2.1.2.2.2.1)(ae:A.h6 h.2.2.2.1.2.2.2.2.1)(af:A.h6 h.2.2.2.1.2.2.2.2.2)(ag:A.h6 h.2.2.2.2.2.2.2.1)(ah:A.h6 h.2.2.2.2.2.2.2.2.2.2)(ai:A.h6 k.1)(aj:A.h6 k.2.1)(ak:A.h6 k.2.2.1.1)(al:A.h6 k.2.2.1.2)(am:A.h6 k.2.2.2.1.1)(an:A.h6 k.2.2.2.1.2.1)(ao:A.h6 k.2.2.2.1.2.2.1)(ap:A.h6 k.2.2.2.1.2.2.2.1)(aq:A.h6 k.2.2.2.1.2.2.2.2.1)(ar:A.h6 k.2.2.2.1.2.2.2.2.2)(au:A.h6 k.2.2.2.2.2.2.2.1)(av:A.h6 k.2.2.2.2.2.2.2.2.2.2)(r:Bool)(o:F.cJ h k=some r):
    A.Ct Tryz.prog 16 [(A.rap h A10_ c11_ A12_ c13_ A14_ c15_ A16_ c17_ A18_ c19_ A21_ c22_),(A.rap k A34_ c35_ A36_ c37_ A38_ c39_ A40_ c41_ A42_ c43_ A45_ c46_)] [(0,.sh (.slice T85) [.slice A10_ h.2.2.2.2.1.length c11_] h.2.2.2.2.1),(1,.sh (.slice T95) [.slice A12_ h.2.2.2.2.2.1.length c13_] h.2.2.2.2.2.1),(2,.sh A.TI [.slice A14_ h.2.2.2.2.2.2.1.1.length c15_] h.2.2.2.2.2.2.1.1),(3,.sh (.slice T64) [.slice A16_ h.2.2.2.2.2.2.1.2.1.length c17_] h.2.2.2.2.2.2.1.2.1),(4,.sh (.slice T87) [.slice A18_ h.2.2.2.2.2.2.1.2.2.length c19_] h.2.2.2.2.2.2.1.2.2),(5,.sh (.slice T59) [.slice A21_ h.2.2.2.2.2.2.2.2.1.length c22_] h.2.2.2.2.2.2.2.2.1),(6,.sh (.slice T85) [.slice A34_ k.2.2.2.2.1.length c35_] k.2.2.2.2.1),(7,.sh (.slice T95) [.slice A36_ k.2.2.2.2.2.1.length c37_] k.2.2.2.2.2.1),(8,.sh A.TI [.slice A38_ k.2.2.2.2.2.2.1.1.length c39_] k.2.2.2.2.2.2.1.1),(9,.sh (.slice T64) [.slice A40_ k.2.2.2.2.2.2.1.2.1.length c41_] k.2.2.2.2.2.2.1.2.1),(10,.sh (.slice T87) [.slice A42_ k.2.2.2.2.2.2.1.2.2.length c43_] k.2.2.2.2.2.2.1.2.2),(11,.sh (.slice T59) [.slice A45_ k.2.2.2.2.2.2.2.2.1.length c46_] k.2.2.2.2.2.2.2.2.1)] [] (λv H'=>v=.bool r/\H'=[]):=by
 refine Y7 Tryz.func16 rfl Tryz.ntmps16 rfl λw0 F0=>?_;rw[F.cJ]at o;refine Jb 1 ?_;refine Ji 12 (cs:=(A.rak h A10_ c11_ A12_ c13_ A14_ c15_ A16_ c17_ A18_ c19_ A21_ c22_)) λg1=>?_;refine Ji 13 (cs:=(A.rak k A34_ c35_ A36_ c37_ A38_ c39_ A40_ c41_ A42_ c43_ A45_ c46_)) λg2=>?_;refine Jo 1 [] 2 ?_;refine Ja [2,3] l5d (λu z=>∃(B:Bool),u=[(61,.bool B)]/\z=[]/\F.cf h k B=some r) ?_ ?_;refine Vs 0 [12,13] [] [.n,.b 0 0,.n,.b 1 0,.n,.n,.sy .n,.sy (.b 0 1),.sy .n,.sy (.b 1 1),.sy .n,.pk,.n] [(18,.bool (bif decide (h.1≠k.1)then true else decide (h.2.1≠k.2.1)))] ?_;refine Vl (j:=18) rfl o (λo=>?_) (λo=>?_);refine Jc [] [] [.off,.off,.off,.off,.off,.n,.n,.off,.off,.off,.off,.off,.n,.n,.off,.off,.off,.off,.off,.n,.n,.off,.off,.off,.off,.off,.n,.n,.off,.off,.off,.off,.off,.n,.n,.off,.off,.off,.off,.off,.off,.off,.n] [(61,.bool true)] (Y3 ?_);exact Jz ⟨true,rfl,rfl,o⟩;refine Jc [12,13] [] [.on .n,.on (.b 0 2),.on .n,.on (.b 1 2)] [(20,(A.rae h.2.2.1)),(22,(A.rae k.2.2.1))] (J4 (dj:=18) rfl rfl ?_);refine Vw rfl (λa w hf hh=>eqagg_neq37 (x:=h.2.2.1) (y:=k.2.2.1) (hf.eval rfl) (hf.eval rfl)) ?_;refine Jt 2 [(25,.bool (decide (h.2.2.1≠k.2.2.1)))] (V6 (j:=25) rfl o ?_ ?_)<;>intro E o;refine Jc [] [] [.off,.off,.off,.off,.off,.n,.n,.off,.off,.off,.off,.off,.n,.n,.off,.off,.off,.off,.off,.n,.n,.off,.off,.off,.off,.off,.n,.n,.off,.off,.off,.off,.off,.off,.off,.n] [(61,.bool true)] (Y3 ?_);exact Jz ⟨true,rfl,rfl,o⟩;refine Jc [12,13] [] [.on .n,.on (.b 0 4),.on .n,.on (.b 1 4)] [(27,(A.raf h.2.2.2.1)),(29,(A.raf k.2.2.2.1))] (J4 (dj:=25) rfl rfl ?_);refine Vw rfl (λa w hf hh=>eqagg_neq40 (x:=h.2.2.2.1) (y:=k.2.2.2.1) (hf.eval rfl) (hf.eval rfl)) ?_;refine Jc [12,13] [] [.n,.n,.sy .n,.sy (.b 0 15),.sy .n,.sy (.b 1 15),.sy .n,.pk,.n,.sy .n,.sy (.b 0 17),.sy .n,.sy (.b 1 17),.sy .n,.pk,.n,.sy .n,.sy (.b 0 18),.sy .n,.sy (.b 1 18),.sy .n,.pk,.n,.sy .n,.sy (.b 0 11),.sy .n,.sy .n,.sy (.b 1 11),.sy .n,.sy .n,.pk] [(61,.bool (bif bif bif bif decide (h.2.2.2.1≠k.2.2.2.1)then true else decide (h.2.2.2.2.2.2.2.1≠k.2.2.2.2.2.2.2.1)then true else decide (h.2.2.2.2.2.2.2.2.2.1≠k.2.2.2.2.2.2.2.2.2.1)then true else decide (h.2.2.2.2.2.2.2.2.2.2≠k.2.2.2.2.2.2.2.2.2.2)then true else decide ((h.2.2.2.2.2.1.length:Int)≠(k.2.2.2.2.2.1.length:Int))))] (Y3 ?_);exact Jz ⟨(bif bif bif bif decide (h.2.2.2.1≠k.2.2.2.1)then true else decide (h.2.2.2.2.2.2.2.1≠k.2.2.2.2.2.2.2.1)then true else decide (h.2.2.2.2.2.2.2.2.2.1≠k.2.2.2.2.2.2.2.2.2.1)then true else decide (h.2.2.2.2.2.2.2.2.2.2≠k.2.2.2.2.2.2.2.2.2.2)then true else decide ((h.2.2.2.2.2.1.length:Int)≠(k.2.2.2.2.2.1.length:Int))),rfl,rfl,o⟩;rintro _ _ ⟨B,rfl,rfl,o⟩;rw[F.cf]at o;refine Um o ?_ ?_<;>intro E o;refine Jv 1 1 [(4,.bool false)] 1 ?_;exact A.ke o (Vc ⟨rfl,rfl⟩);refine Jv 4 1 [(5,A.i 0)] 2 ?_;refine J5 [2,3] l5d (λf u z=>∃(p:Int),u=[(5,A.i p)]/\z=[]/\A.h6 p/\F.bM h k f p=some r) ⟨0,rfl,rfl,Jg,o⟩ ?_;rintro L _ _ ⟨p,rfl,rfl,aw,o⟩;rcases L with _|L
 exact J1 o;rw[F.bM]at o;refine Vy 2 [12] [] [.n,.n,.b 0 11,.n,.n] [(66,.bool (decide (p<(h.2.2.2.2.2.1.length:Int))))] 1 ?_;refine Up o ?_ ?_<;>intro E o;refine Ua 5 ?_;refine Vb mixed 11 11 (A.mb 11 0) ?_;refine J6 Jr [] l5d [12,13] [] (A.mb 11 231) 5 [(0,.n),(2,.n),(5,.n),(7,.n),(1,.b 0 11),(6,.b 1 11)] [(71,A.i p),(76,A.i p),(70,.slice A12_ h.2.2.2.2.2.1.length c13_),(75,.slice A36_ k.2.2.2.2.2.1.length c37_)] ?_;have⟨N,O,o⟩:=J0 o;refine V7 1 258 O λax=>?_;intro ay az a2;refine Vj Jr l5d l5c 3 (A.mb 11 239) rfl (λa w hf hh=>Vu (t:=T95) O a2 hf) ?_;refine J6 Jr l5c l5c [] [258] (A.mb 11 255) 3 [(4,.e 0 0)] [(73,(A.rah N))] ?_;have⟨U,V,o⟩:=J0 o;refine V7 7 259 V λb0=>?_;intro b1 b2 a3;refine Vj Jr l5c l5b 8 (A.mb 11 511) rfl (λa w hf hh=>Vu (t:=T95) V a3 hf) ?_;refine J6 Jr l5b l5b [] [259] (A.mb 11 1023) 1 [(9,.e 0 0)] [(78,(A.rah U))] (Vj Jr l5b l5b 10 (A.mb 11 2047) rfl (λa w hf hh=>eqagg_neq96 (x:=N) (y:=U) (hf.eval rfl) (hf.eval rfl)) ?_);refine Jq ?_;refine A.ex 1 ?_;refine Up o ?_ ?_<;>intro E o;refine Jv 1 1 [(4,.bool false)] 1 ?_;exact A.ke o (Vc ⟨rfl,rfl⟩);refine Jb 3 ?_;have⟨W,o⟩:=Vn o;refine Ub 3 [Z.R64 (p+1)] [(5,A.i (p+1))] W (Y3 ?_);exact Jz ⟨_,Qm _,⟨(p+1),rfl,rfl,(Y9 W),o⟩⟩;refine Ua 2 ?_;refine Ja [] [] (λu z=>∃(J:Bool),u=[(4,.bool J)]/\z=[]/\F.cW J=some r) ?_ ?_;refine Vs 0 [12,13] [] [.n,.b 0 10,.n,.b 1 10] [(81,.slice A10_ h.2.2.2.2.1.length c11_),(83,.slice A34_ k.2.2.2.2.1.length c35_)] ?_;refine J8 260 [] o (o_bs A10_ A34_ c11_ c35_ h.2.2.2.2.1 k.2.2.2.2.1) (.l 0 (.l 6 .nil)) ?_;rintro a4 - o _ _ ⟨rfl,rfl⟩;refine Y8 (Jt 1 [(85,.bool a4)] (Vl (j:=85) rfl o (λo=>?_) (λo=>?_)));refine Jc [12,13] [] [.on .n,.on (.b 0 12),.on .n,.on (.b 1 12)] [(87,(A.rau h.2.2.2.2.2.2.1 A14_ c15_ A16_ c17_ A18_ c19_)),(89,(A.rau k.2.2.2.2.2.2.1 A38_ c39_ A40_ c41_ A42_ c43_))] (J4 (dj:=85) rfl rfl ?_);have⟨X,a5,o⟩:=J0 o;refine V1 300 [] (first:=[]) (cap:=[]) cf37 (o_bl A14_ A16_ A18_ A38_ A40_ A42_ c15_ c17_ c19_ c39_ c41_ c43_ h.2.2.2.2.2.2.1 k.2.2.2.2.2.2.1 X a5) (.s 2 (.s 3 (.s 4 (.s 8 (.s 9 (.s 10 .nil)))))) ?_;rintro _ _ ⟨rfl,rfl⟩;refine Y8 (Jt 2 [(92,.bool X)] (Vl (j:=92) rfl o (λo=>?_) (λo=>?_)));refine Jc [12,13] [] [.on .n,.on (.b 0 16),.on .n,.on (.b 1 16)] [(94,.slice A21_ h.2.2.2.2.2.2.2.2.1.length c22_),(96,.slice A45_ k.2.2.2.2.2.2.2.2.1.length c46_)] (J4 (dj:=92) rfl rfl ?_);refine J8 340 [] o (o_be A21_ A45_ c22_ c46_ h.2.2.2.2.2.2.2.2.1 k.2.2.2.2.2.2.2.2.1) (.l 5 (.l 11 .nil)) ?_;rintro Y - o _ _ ⟨rfl,rfl⟩;refine Y8 (Jt 2 [(4,.bool Y)] (Y3 ?_));exact Jz ⟨Y,rfl,rfl,o⟩;refine Jc [] [] [.off,.off,.off,.off,.off,.n,.n] [(4,.bool false)] (Y3 ?_);exact Jz ⟨false,rfl,rfl,o⟩;refine Jc [] [] [.off,.off,.off,.off,.off,.n,.n,.off,.off,.off,.off,.off,.n,.n] [(4,.bool false)] (Y3 ?_);exact Jz ⟨false,rfl,rfl,o⟩;rintro _ _ ⟨J,rfl,rfl,o⟩;rw[F.cW]at o;exact A.ke o (Vc ⟨rfl,rfl⟩)
def F.bs (a:D184):Option (Int ⊕ ((List D59)×D184)):=(F.d a).bind λe=>A.sm e λf=>(some (.inr f))
theorem o_aF(f:D184)(p:A.h6 f.2.2)(r:Int ⊕ ((List D59)×D184))(e:F.bs f=some r):
    A.Cp Tryz.prog pv 40 [.pointer (some ⟨g0_,0,none⟩)] [(0,.blk g0_ 129 [.pointer (some ⟨g1_,0,none⟩)]),(1,.blk g1_ 185 (A.rai f A2_ c3_)),(2,.sh (.slice Z.Ty.byte) [.slice A2_ f.2.1.length c3_] f.2.1)] ([g0_]++([g1_]++[])) (λv H'=>∃(x_:(List D59)×D184),r=.inr x_/\∃(A0':Option Addr) (c1':Nat) (A2':Option Addr) (c3':Nat),v=.slice A0' x_.1.length c1'/\H'=[(0,.own T59 60 A0' c1' x_.1),(1,.blk g0_ 129 [.pointer (some ⟨g1_,0,none⟩)]),(2,.blk g1_ 185 [.bool x_.2.1,.slice A2' x_.2.2.1.length c3',A.i x_.2.2.2]),(3,.sh (.slice Z.Ty.byte) [.slice A2' x_.2.2.1.length c3'] x_.2.2.1)]/\A.h6 x_.2.2.2) (A.EZ r):=by
 refine Jj Tryz.func40 rfl Tryz.ntmps40 rfl λy z=>?_;rw[F.bs]at e;refine Jb 1 ?_;refine Jl 1 [] 2 ?_;refine Jt 3 [(3,.pointer (some ⟨g0_,0,none⟩)),(5,.func (.func 89) #[.pointer (some ⟨g0_,0,none⟩)] #[])] ?_;have⟨s,t,e⟩:=J0 e;refine Y4 3 [] (first:=[]) (cap:=[]) cf88 (o_h A2_ g0_ g1_ c3_ f p s t) (.m 0 (.m 1 (.m 2 .nil))) Y6 (Jd e) ?_;rintro _ _ ⟨o,rfl,h,k,u,x,rfl,rfl,hr8⟩;refine Y8 ?_;replace e:=Je e;refine Y2 4 0 [] ?_;refine Y2 5 1 [] ?_;refine Y2 6 2 [] ?_;refine Jo 1 [(2,.slice h o.1.length k)] 1 ?_;obtain rfl:=Jh e;exact J3 [(0,3),(1,0),(2,1),(3,2)] (.slice h o.1.length k) (λa w hf hh=>J7 rfl (Js hf rfl)) (⟨_,rfl,h,k,u,x,rfl,rfl,hr8⟩)
def F.a7 (a:Int)(e:(List D59))(f:(List D59)):Option (List D59):=if a≠0 then(some e)else(some f)
theorem o_ai(f:Int)(e:(List D59))(k:(List D59))(o:A.h6 f)(r:(List D59))(h:F.a7 f e k=some r):
    A.CtD Tryz.prog 91 [.pointer (some ⟨g0_,0,none⟩),.pointer (some ⟨g2_,0,none⟩),.pointer (some ⟨g5_,0,none⟩)] [(0,.blk g0_ 28 [A.i f]),(1,.blk g2_ 47 [.slice A3_ e.length c4_]),(2,.sh (.slice T59) [.slice A3_ e.length c4_] e),(3,.blk g5_ 47 [.slice A6_ k.length c7_]),(4,.sh (.slice T59) [.slice A6_ k.length c7_] k)] ([g0_]++([g2_]++([g5_]++[]))) (λv H'=>∃(A0':Option Addr) (c1':Nat),v=.tuple #[]/\H'=[(0,.blk g0_ 28 [A.i f]),(1,.blk g2_ 47 [.slice A3_ e.length c4_]),(2,.sh (.slice T59) [.slice A3_ e.length c4_] e),(3,.blk g5_ 47 [.slice A0' r.length c1']),(4,.sh (.slice T59) [.slice A0' r.length c1'] r)]):=by
 refine A.CtD.enter Tryz.func91 rfl Tryz.ntmps91 rfl λp s=>?_;rw[F.a7]at h;refine Vy 1 [0] [] [.b 0 0,.n] [(4,.bool (decide (f≠0)))] 1 ?_;refine Up h ?_ ?_<;>intro t h;refine Vs 0 [1] [] [.b 0 0] [(5,.slice A3_ e.length c4_)] ?_;refine Jy 2 5 ?_;refine Ju 3 [] [.slice A3_ e.length c4_] ?_;refine Y3 ?_;obtain rfl:=Jh h;exact Vx [(0,0),(1,1),(2,2),(3,3),(4,5)] (.tuple #[]) (λa w hf hh=>Ve rfl w) (⟨A3_,c4_,rfl,rfl⟩);refine Vg 1 ?_;obtain rfl:=Jh h;exact Vx [(0,0),(1,1),(2,2),(3,3),(4,4)] (.tuple #[]) (λa w hf hh=>Ve rfl w) (⟨A6_,c7_,rfl,rfl⟩)
def F.aw (h:(List UInt8)):Option ((List D59)×Int):=(F.dk h).bind λk=>A.om k (none) λo=>((F.bs o).bind λp=>A.se p (λa=>((F.a7 a [] []).bind λs=>(some (s,a)))) λe=>((F.bp e.2).bind λf=>((F.a7 f [] e.1).bind λt=>(some (t,f)))))
theorem o_v(f:(List UInt8))(r:(List D59)×Int)(e:F.aw f=some r):
    A.Ct Tryz.prog 39 [.func (.func 40) #[] #[],.slice A0_ f.length c1_] [(0,.ln Z.Ty.byte A0_ c1_ f)] [] (λv H'=>∃(A0':Option Addr) (c1':Nat),v=.tuple #[.slice A0' r.1.length c1',A.i r.2]/\H'=[(0,.sh (.slice T59) [.slice A0' r.1.length c1'] r.1)]/\A.h6 r.2):=by
 refine Ud Tryz.func39 rfl Tryz.ntmps39 rfl λw0 F0=>?_;rw[F.aw]at e;refine Jb 1 ?_;refine Y5 1 (cs:=[.slice none 0 0]) Tryz.zeroValue47 λk=>?_;refine Y5 2 (cs:=[A.i 0]) Tryz.zeroValue28 λo=>?_;refine Jf 2 ?_;refine Y5 3 (cs:=[.slice none 0 0]) Tryz.zeroValue47 λp=>?_;refine Jf 2 ?_;refine Jt 1 [(8,.func (.func 91) #[] #[.pointer (some ⟨o,0,none⟩),.pointer (some ⟨p,0,none⟩),.pointer (some ⟨k,0,none⟩)])] (A.AL.dfrC ?_);refine Jf 2 ?_;refine A.AL.dfr ?_;refine Jf 2 ?_;refine Jt 1 [(9,.slice A0_ f.length c1_)] (J8 4 [] e (o_aG A0_ c1_ f) (.s 0 .nil) ?_);rintro r4 - e _ _ (⟨hp35,rfl,rfl⟩|⟨Y,hp35,t,A9,a2,rfl,rfl,hr11⟩);refine Y8 ?_;rw[A.om_n hp35]at e;refine Jt 1 [(11,.agg #[.pointer none])] (Ji 44 (cs:=[.pointer none]) λJ=>?_);refine Jl 1 [(7,.pointer (some ⟨J,0,none⟩))] 2 ?_;refine Jt 2 [(13,.func (.func 40) #[] #[]),(14,.pointer (some ⟨J,0,none⟩))] ?_;exact J1 e;refine Y8 ?_;rw[A.om_s hp35]at e;refine Jt 1 [(11,.agg #[.pointer (some ⟨t,0,none⟩)])] (Ji 45 (cs:=[.pointer (some ⟨t,0,none⟩)]) λB=>?_);refine Jl 1 [(7,.pointer (some ⟨B,0,none⟩))] 2 ?_;refine Jt 2 [(13,.func (.func 40) #[] #[]),(14,.pointer (some ⟨B,0,none⟩))] ?_;have⟨a3,a4,e⟩:=J0 e;refine Uj 46 [] (first:=[]) (cap:=[]) cf40 (o_aF A9 B t a2 Y hr11 a3 a4) (.m 45 (.m 4 (.m 5 .nil))) (λL he29=>?_) ?_;obtain⟨rfl,hx30⟩:=he29;replace e:=A.se_l e;refine A.panL ?_;refine A.LV.n1 2 cf48 (λg a0 x h=>caught_p g a0 x h) Jg ?_;refine Va 169 T59 ?_;refine Va 170 T59 ?_;have⟨N,a5,e⟩:=J0 e;refine Us 171 [] (first:=[]) (cap:=[.pointer (some ⟨o,0,none⟩),.pointer (some ⟨p,0,none⟩),.pointer (some ⟨k,0,none⟩)]) cf91 (o_ai none none o p 0 k 0 L [] [] hx30 N a5) (.m 2 (.m 3 (.m 169 (.m 1 (.m 170 .nil))))) ?_;rintro _ _ ⟨O,U,rfl,rfl⟩;refine Y8 (Y2 171 2 [] ?_);refine Y2 172 3 [] ?_;refine Y2 173 169 [] ?_;refine Y2 174 1 [] ?_;refine Y2 175 170 [] ?_;obtain rfl:=Jh e;exact Vz [(0,170)] (.tuple #[.slice O N.length U,A.i L]) (λa w hf hh=>Vo rfl (V0 hf rfl Tryz.isAgg47 (Jn hh 1)) (V0 hf rfl Tryz.isAgg28 (Jn hh 2))) (⟨O,U,rfl,rfl,hx30⟩);rintro _ _ ⟨u,rfl,y,z,a6,a7,rfl,rfl,hr20⟩;refine Y8 ?_;replace e:=A.se_r e;refine Y2 47 45 [] ?_;refine Y2 48 4 [] ?_;refine Y2 49 5 [] ?_;refine Ue 46 [] ?_;refine Jy 46 86 ?_;refine Ju 1 [] [.slice y u.1.length z] ?_;refine Vr 2 ?_;refine A.AX.drN mixed 6 8 (A.mb 8 0) ?_;refine J6 A.pqN [] [0,1,2,3,4,5,45,46,86] [1,45] [] (A.mb 8 31) 3 [(0,.b 0 0),(1,.n),(2,.n),(3,.n),(4,.b 1 0)] [(16,.slice y u.1.length z),(20,.pointer (some ⟨t,0,none⟩))] (Jm 5 ?_);refine J8 87 [] e (o_aj a6 t a7 u.2 hr20) (.m 4 (.m 5 .nil)) ?_;rintro E - e _ _ ⟨rfl,rfl,hr23⟩;refine Y8 (Y2 87 4 [] ?_);refine Y2 88 5 [] ?_;refine Jw (A.mb 8 63) [0,1,2,3,4,5,45,46,86] ?_;refine Jm 6 ?_;refine Jy 86 127 ?_;refine Ju 1 [] [.slice y u.1.length z] ?_;refine V8 (A.mb 8 127) ?_;refine A.AH.bh 7 ?_;refine Jm 7 ?_;refine Ju 2 [] [A.i E] ?_;refine V8 (A.mb 8 255) ?_;refine A.AH.doneN ?_;refine A.ex 1 ?_;refine Uq ?_;refine A.LV.n0 2 cf48 Qbs hr23 ?_;refine Va 128 T59 ?_;have⟨V,a8,e⟩:=J0 e;refine Us 129 [] (first:=[]) (cap:=[.pointer (some ⟨o,0,none⟩),.pointer (some ⟨p,0,none⟩),.pointer (some ⟨k,0,none⟩)]) cf91 (o_ai none y o p 0 k z E [] u.1 hr23 V a8) (.m 2 (.m 3 (.m 128 (.m 1 (.m 127 .nil))))) ?_;rintro _ _ ⟨W,X,rfl,rfl⟩;refine Y8 (Y2 129 2 [] ?_);refine Y2 130 3 [] ?_;refine Y2 131 128 [] ?_;refine Y2 132 1 [] ?_;refine Y2 133 127 [] ?_;obtain rfl:=Jh e;exact Vz [(0,127)] (.tuple #[.slice W V.length X,A.i E]) (λa w hf hh=>Vo rfl (V0 hf rfl Tryz.isAgg47 (Jn hh 1)) (V0 hf rfl Tryz.isAgg28 (Jn hh 2))) (⟨W,X,rfl,rfl,hr23⟩)
def F.bV (a:(List UInt8)):Option ((List D59)×Int):=(F.aw a).bind λe=>(some e)
theorem o_aQ(a:(List UInt8))(r:(List D59)×Int)(e:F.bV a=some r):
    A.Ct Tryz.prog 17 [.slice A0_ a.length c1_] [(0,.ln Z.Ty.byte A0_ c1_ a)] [] (λv H'=>∃(A0':Option Addr) (c1':Nat),v=.tuple #[.slice A0' r.1.length c1',A.i r.2]/\H'=[(0,.sh (.slice T59) [.slice A0' r.1.length c1'] r.1)]/\A.h6 r.2):=by
 refine Y7 Tryz.func17 rfl Tryz.ntmps17 rfl λo p=>?_;rw[F.bV]at e;refine Jb 1 ?_;refine Jl 2 [] 2 ?_;refine Jt 1 [(4,.slice A0_ a.length c1_)] (J8 1 [] e (o_v A0_ c1_ a) (.s 0 .nil) ?_);rintro f - e _ _ ⟨h,k,rfl,rfl,hr5⟩;refine Y8 (Jo 4 [(2,.slice h f.1.length k),(3,A.i f.2)] 1 ?_);obtain rfl:=Jh e;exact Vk [(0,1)] ⟨h,k,rfl,rfl,hr5⟩
def F.cr:Option Bool:=some true
def F.cs (a:Bool):Option Bool:=if a=true then(some false)else(F.cr)
def F.bN (a:(List UInt8)):Option Bool:=(F.bV a).bind λe=>(if e.2=0 then((F.cB e.1).bind λf=>(if f.2≠0 then(F.cs true)else((F.bP f.1 a).bind λh=>(F.cs (!h)))))else(F.cr))
def F.ct (a:(List UInt8))(e:Bool):Option Bool:=if e=true then(some false)else(F.bN a)
def F.bO (a:(List UInt8)):Option Bool:=(F.ce a).bind λe=>(if e.2=0 then((F.bA e.1).bind λf=>(if f.2≠0 then(F.ct a true)else((F.bP f.1 a).bind λh=>(F.ct a (!h)))))else(F.bN a))
def F.cu (a:(List UInt8))(e:Bool):Option Bool:=if e=true then(some false)else(F.bO a)
def F.cv (e:D23)(a:(List UInt8))(k:Bool):Option Bool:=if k=true then(some false)else((F.dE e).bind λf=>(if f.2=0 then((F.cl f.1).bind λh=>(if h.2≠0 then(F.cu a true)else((F.d2 h.1 e).bind λo=>(F.cu a (!o)))))else(F.bO a)))
def F.aZ (a:D48)(e:D23)(f:(List UInt8))(o:Bool):Option Bool:=if o=true then((F.ea).bind λp=>(some p))else((F.bA a).bind λh=>((F.ce h.1).bind λk=>(if(bif decide (h.2≠0)then true else decide (k.2≠0))=true then(F.cv e f true)else((F.cJ k.1 a).bind λs=>(F.cv e f (!s))))))
def F.da (a:D48)(e:D23)(f:(List UInt8)):Option Bool:=(F.ea).bind λh=>(if(!h)=true then(F.aZ a e f true)else((F.dm a).bind λk=>(if(!k)=true then(F.aZ a e f true)else((F.dK e).bind λo=>(F.aZ a e f (bif !o then true else decide ((3000:Int)<(f.length:Int))))))))
theorem o_bm(e:D48)(o:D23)(f:(List UInt8))(ak:A.h6 e.1)(al:A.h6 e.2.1)(am:A.h6 e.2.2.1.1)(an:A.h6 e.2.2.1.2)(ao:A.h6 e.2.2.2.1.1)(ap:A.h6 e.2.2.2.1.2.1)(aq:A.h6 e.2.2.2.1.2.2.1)(ar:A.h6 e.2.2.2.1.2.2.2.1)(au:A.h6 e.2.2.2.1.2.2.2.2.1)(av:A.h6 e.2.2.2.1.2.2.2.2.2)(aw:A.h6 e.2.2.2.2.2.2.2.1)(ax:A.h6 e.2.2.2.2.2.2.2.2.2.2)(r:Bool)(a:F.da e o f=some r):
    A.Ct Tryz.prog 4 [(A.rap e A10_ c11_ A12_ c13_ A14_ c15_ A16_ c17_ A18_ c19_ A21_ c22_),.agg #[.slice A24_ o.length c25_],.slice A26_ f.length c27_] [(0,.sh (.slice T85) [.slice A10_ e.2.2.2.2.1.length c11_] e.2.2.2.2.1),(1,.sh (.slice T95) [.slice A12_ e.2.2.2.2.2.1.length c13_] e.2.2.2.2.2.1),(2,.sh A.TI [.slice A14_ e.2.2.2.2.2.2.1.1.length c15_] e.2.2.2.2.2.2.1.1),(3,.sh (.slice T64) [.slice A16_ e.2.2.2.2.2.2.1.2.1.length c17_] e.2.2.2.2.2.2.1.2.1),(4,.sh (.slice T87) [.slice A18_ e.2.2.2.2.2.2.1.2.2.length c19_] e.2.2.2.2.2.2.1.2.2),(5,.sh (.slice T59) [.slice A21_ e.2.2.2.2.2.2.2.2.1.length c22_] e.2.2.2.2.2.2.2.2.1),(6,.sh (.slice T64) [.slice A24_ o.length c25_] o),(7,.ln Z.Ty.byte A26_ c27_ f),(8,.el none 1 0 A.tabF),(9,.el none 2 0 A.tabA)] [] (λv H'=>v=.bool r/\H'=[]):=by
 refine Y7 Tryz.func4 rfl Tryz.ntmps4 rfl λw0 F0=>?_;rw[F.da]at a;refine Jb 1 ?_;refine Ji 10 (cs:=(A.rak e A10_ c11_ A12_ c13_ A14_ c15_ A16_ c17_ A18_ c19_ A21_ c22_)) λg1=>?_;refine Ji 11 (cs:=[.slice A24_ o.length c25_]) λg2=>?_;refine Jo 1 [] 2 ?_;refine Ja [2,3,4] [0,1,2,3,4,5,6,7,8,9,10,11] (λh k=>∃(y3:Bool),h=[(40,.bool y3)]/\k=[]/\F.aZ e o f y3=some r) ?_ ?_;refine Jb 0 ?_;refine J8 12 [] a o_a9 .nil ?_;rintro bj - a _ _ ⟨rfl,rfl⟩;refine Y8 (Jt 2 [(25,.bool (!bj))] (Vl (j:=25) rfl a (λa=>?_) (λa=>?_)));refine Jc [] [] [.off,.off,.off,.n,.n,.off,.off,.off,.off,.n,.n,.off,.off,.off,.n] [(40,.bool true)] (Y3 ?_);exact Jz ⟨true,rfl,rfl,a⟩;refine Jc [10] [] [.on (.b 0 0)] [(26,(A.rap e A10_ c11_ A12_ c13_ A14_ c15_ A16_ c17_ A18_ c19_ A21_ c22_))] (J4 (dj:=25) rfl rfl ?_);have⟨bd,bk,a⟩:=J0 a;refine V1 52 [] (first:=[]) (cap:=[]) cf13 (o_bM A10_ A12_ A14_ A16_ A18_ A21_ c11_ c13_ c15_ c17_ c19_ c22_ e ak al am an ao ap aq ar au av aw ax bd bk) (.s 0 (.s 1 (.s 2 (.s 3 (.s 4 (.s 5 .nil)))))) ?_;rintro _ _ ⟨rfl,rfl⟩;refine Y8 (Jc [] [] [.on .n,.n,.n] [(30,.bool (!bd))] (Vl (j:=30) rfl a (λa=>?_) (λa=>?_)));refine Jc [] [] [.off,.off,.off,.off,.n,.n,.off,.off,.off,.n] [(40,.bool true)] (Y3 ?_);exact Jz ⟨true,rfl,rfl,a⟩;refine Jc [11] [] [.on .n,.on (.b 0 0)] [(32,.slice A24_ o.length c25_)] (J4 (dj:=30) rfl rfl ?_);refine J8 92 [] a (o_ba A24_ c25_ o) (.s 6 .nil) ?_;rintro bf - a _ _ ⟨rfl,rfl⟩;refine Y8 (Jc [] [] [.on .n,.n,.n,.sy .n,.sy .n,.sy .n,.pk] [(40,.bool (bif !bf then true else decide ((3000:Int)<(f.length:Int))))] (Y3 ?_));exact Jz ⟨(bif !bf then true else decide ((3000:Int)<(f.length:Int))),rfl,rfl,a⟩;rintro _ _ ⟨y3,rfl,rfl,a⟩;rw[F.aZ]at a;refine Um a ?_ ?_<;>intro p a;refine Jb 1 ?_;refine J8 132 [] a o_a9 .nil ?_;rintro r4 - a _ _ ⟨rfl,rfl⟩;refine Y8 (Jo 1 [(6,.bool r4)] 1 ?_);exact A.ke a (Vc ⟨rfl,rfl⟩);refine Vs 3 [10] [] [.b 0 0] [(43,(A.rap e A10_ c11_ A12_ c13_ A14_ c15_ A16_ c17_ A18_ c19_ A21_ c22_))] ?_;have⟨x,bl,a⟩:=J0 a;refine V1 172 [] (first:=[]) (cap:=[]) cf14 (o_bd A10_ A12_ A14_ A16_ A18_ A21_ c11_ c13_ c15_ c17_ c19_ c22_ e ak al am an ao ap aq ar au av aw ax x bl) (.s 0 (.s 1 (.s 2 (.s 3 (.s 4 (.s 5 .nil)))))) ?_;rintro _ _ ⟨A8,c9,rfl,rfl,hr10⟩;refine Y8 (Jl 5 [(7,.slice A8 x.1.length c9),(8,A.i x.2)] 2 ?_);refine Jt 1 [(48,.slice A8 x.1.length c9)] (J8 212 [] a (o_aC A8 c9 x.1) (.l 172 .nil) ?_);rintro t - a _ _ ⟨J,L,N,O,U,V,W,X,Y,a3,a4,a5,rfl,rfl,hr13,hr14,hr15,hr16,hr17,hr18,hr19,hr20,hr21,hr22,hr33,hr36,hr37⟩;refine Y8 (Jt 3 [(50,(A.rap t.1 J L N O U V W X Y a3 a4 a5)),(51,A.i t.2)] (Y5 252 (cs:=l5a) Tryz.zeroValue49 λbq=>?_));refine Jy 212 253 ?_;refine Jy 213 254 ?_;refine Jy 214 255 ?_;refine Jy 215 256 ?_;refine Jy 216 257 ?_;refine Jy 217 258 ?_;refine Ju 252 [] (A.rak t.1 J L N O U V W X Y a3 a4 a5) ?_;refine Jo 1 [(10,A.i t.2)] 2 ?_;refine Ja [2,4] [6,7,8,9,11] (λh k=>∃(ay:Bool),h=[(63,.bool ay)]/\k=[]/\F.cv o f ay=some r) ?_ ?_;refine Vs 0 [] [] [.n,.n,.n,.sy .n,.sy .n,.pk,.n] [(58,.bool (bif decide (x.2≠0)then true else decide (t.2≠0)))] ?_;refine Vl (j:=58) rfl a (λa=>?_) (λa=>?_);refine Jc [] [] [.off,.off,.off,.off,.n] [(63,.bool true)] (Y3 ?_);exact Jz ⟨true,rfl,rfl,a⟩;refine Jc [252,10] [] [.on (.b 0 0),.on (.b 1 0)] [(59,(A.rap t.1 J L N O U V W X Y a3 a4 a5)),(60,(A.rap e A10_ c11_ A12_ c13_ A14_ c15_ A16_ c17_ A18_ c19_ A21_ c22_))] (J4 (dj:=58) rfl rfl ?_);have⟨az,bm,a⟩:=J0 a;refine V1 259 [] (first:=[]) (cap:=[]) cf16 (o_bz J N U W Y a4 A10_ A12_ A14_ A16_ A18_ A21_ L O V X a3 a5 c11_ c13_ c15_ c17_ c19_ c22_ t.1 e hr13 hr14 hr15 hr16 hr17 hr18 hr19 hr20 hr21 hr22 hr33 hr36 ak al am an ao ap aq ar au av aw ax az bm) (.s 253 (.s 254 (.s 255 (.s 256 (.s 257 (.s 258 (.s 0 (.s 1 (.s 2 (.s 3 (.s 4 (.s 5 .nil)))))))))))) ?_;rintro _ _ ⟨rfl,rfl⟩;refine Y8 (Jc [] [] [.on .n,.n] [(63,.bool (!az))] (Y3 ?_));exact Jz ⟨(!az),rfl,rfl,a⟩;rintro _ _ ⟨ay,rfl,rfl,a⟩;rw[F.cv]at a;refine Um a ?_ ?_<;>intro p a;refine Jv 1 1 [(6,.bool false)] 1 ?_;exact A.ke a (Vc ⟨rfl,rfl⟩);refine Ua 2 ?_;refine Ja [2] [7,8,9] (λh k=>h=[]/\k=[]/\F.bO f=some r) ?_ ?_;refine Vs 1 [11] [] [.b 0 0] [(65,.agg #[.slice A24_ o.length c25_])] ?_;refine J8 299 [] a (o_bw A24_ c25_ o) (.s 6 (.s 8 (.s 9 .nil))) ?_;rintro z - a _ _ ⟨b0,b1,rfl,rfl,hr93⟩;refine Y8 (Jl 5 [(11,.slice b0 z.1.length b1),(12,A.i z.2)] 2 ?_);refine Jo 2 [(70,.bool (decide (z.2=0)))] 1 ?_;refine Up a ?_ ?_<;>intro p a;refine Vd 1 1 [(72,.slice b0 z.1.length b1)] ?_;refine J8 339 [] a (o_a3 b0 b1 z.1) (.l 299 (.s 8 (.s 9 .nil))) ?_;rintro u - a _ _ ⟨a6,a7,rfl,rfl,hr98⟩;refine Y8 (Jt 3 [(74,.agg #[.slice a6 u.1.length a7]),(75,A.i u.2)] (Y5 379 (cs:=[.slice none 0 0]) Tryz.zeroValue24 λbr=>?_));refine Jy 339 380 ?_;refine Ju 379 [] [.slice a6 u.1.length a7] ?_;refine Jo 1 [(14,A.i u.2)] 1 ?_;refine Ja [2] [7,8,9] (λh k=>∃(b2:Bool),h=[(83,.bool b2)]/\k=[]/\F.cu f b2=some r) ?_ ?_;refine Vd 0 3 [(78,.bool (decide (u.2≠0)))] ?_;refine V6 (j:=78) rfl a ?_ ?_<;>intro p a;refine Jc [] [] [.off,.off,.off,.off,.n] [(83,.bool true)] (Y3 ?_);exact Jz ⟨true,rfl,rfl,a⟩;refine Jc [379,11] [] [.on (.b 0 0),.on (.b 1 0)] [(79,.agg #[.slice a6 u.1.length a7]),(80,.agg #[.slice A24_ o.length c25_])] (J4 (dj:=78) rfl rfl ?_);refine J8 381 [] a (o_bh a6 A24_ a7 c25_ u.1 o) (.s 380 (.s 6 .nil)) ?_;rintro bg - a _ _ ⟨rfl,rfl⟩;refine Y8 (Jc [] [] [.on .n,.n] [(83,.bool (!bg))] (Y3 ?_));exact Jz ⟨(!bg),rfl,rfl,a⟩;rintro _ _ ⟨b2,rfl,rfl,a⟩;rw[F.cu]at a;refine Um a ?_ ?_<;>intro p a;refine Jv 1 1 [(6,.bool false)] 1 ?_;exact A.ke a (Vc ⟨rfl,rfl⟩);refine Vg 1 ?_;exact Jz ⟨rfl,rfl,a⟩;refine Vg 1 ?_;exact Jz ⟨rfl,rfl,a⟩;rintro _ _ ⟨rfl,rfl,a⟩;rw[F.bO]at a;refine Ja [2] [7,8,9] (λh k=>h=[]/\k=[]/\F.bN f=some r) ?_ ?_;refine Vd 1 1 [(85,.slice A26_ f.length c27_)] ?_;refine J8 421 [] a (o_aC A26_ c27_ f) (.s 7 .nil) ?_;rintro w - a _ _ ⟨a8,a9,aa,ab,ac,ad,ae,af,ag,ah,ai,aj,rfl,rfl,hr55,hr56,hr57,hr58,hr59,hr60,hr61,hr62,hr63,hr64,hr75,hr78,hr79⟩;refine Y8 (Jt 3 [(87,(A.rap w.1 a8 a9 aa ab ac ad ae af ag ah ai aj)),(88,A.i w.2)] (Y5 461 (cs:=l5a) Tryz.zeroValue49 λbt=>?_));refine Jy 421 462 ?_;refine Jy 422 463 ?_;refine Jy 423 464 ?_;refine Jy 424 465 ?_;refine Jy 425 466 ?_;refine Jy 426 467 ?_;refine Ju 461 [] (A.rak w.1 a8 a9 aa ab ac ad ae af ag ah ai aj) ?_;refine Jl 1 [(16,A.i w.2)] 2 ?_;refine Jo 2 [(90,.bool (decide (w.2=0)))] 1 ?_;refine Up a ?_ ?_<;>intro p a;refine Vs 1 [461] [] [.b 0 0] [(92,(A.rap w.1 a8 a9 aa ab ac ad ae af ag ah ai aj))] ?_;have⟨y,bp,a⟩:=J0 a;refine V1 468 [] (first:=[]) (cap:=[]) cf14 (o_bd a8 aa ac ae ag ai a9 ab ad af ah aj w.1 hr55 hr56 hr57 hr58 hr59 hr60 hr61 hr62 hr63 hr64 hr75 hr78 y bp) (.s 462 (.s 463 (.s 464 (.s 465 (.s 466 (.s 467 .nil)))))) ?_;rintro _ _ ⟨b3,b4,rfl,rfl,hr85⟩;refine Y8 (Jo 5 [(17,.slice b3 y.1.length b4),(18,A.i y.2)] 1 ?_);refine Ja [2] [7,8,9] (λh k=>∃(b5:Bool),h=[(103,.bool b5)]/\k=[]/\F.ct f b5=some r) ?_ ?_;refine Vd 0 3 [(98,.bool (decide (y.2≠0)))] ?_;refine V6 (j:=98) rfl a ?_ ?_<;>intro p a;refine Jc [] [] [.off,.off,.off,.off,.n] [(103,.bool true)] (Y3 ?_);exact Jz ⟨true,rfl,rfl,a⟩;refine Jc [] [] [.on .n,.on .n] [(99,.slice b3 y.1.length b4),(100,.slice A26_ f.length c27_)] (J4 (dj:=98) rfl rfl ?_);refine J8 508 [] a (o_w b3 A26_ b4 c27_ y.1 f) (.l 468 (.s 7 .nil)) ?_;rintro bh - a _ _ ⟨rfl,rfl⟩;refine Y8 (Jc [] [] [.on .n,.n] [(103,.bool (!bh))] (Y3 ?_));exact Jz ⟨(!bh),rfl,rfl,a⟩;rintro _ _ ⟨b5,rfl,rfl,a⟩;rw[F.ct]at a;refine Um a ?_ ?_<;>intro p a;refine Jv 1 1 [(6,.bool false)] 1 ?_;exact A.ke a (Vc ⟨rfl,rfl⟩);refine Vg 1 ?_;exact Jz ⟨rfl,rfl,a⟩;refine Vg 1 ?_;exact Jz ⟨rfl,rfl,a⟩;rintro _ _ ⟨rfl,rfl,a⟩;rw[F.bN]at a;refine Ja [] [] (λh k=>h=[]/\k=[]/\F.cr=some r) ?_ ?_;refine Vd 1 1 [(105,.slice A26_ f.length c27_)] ?_;refine J8 548 [] a (o_aQ A26_ c27_ f) (.s 7 .nil) ?_;rintro B - a _ _ ⟨b6,b7,rfl,rfl,hr44⟩;refine Y8 (Jl 5 [(19,.slice b6 B.1.length b7),(20,A.i B.2)] 2 ?_);refine Jo 2 [(110,.bool (decide (B.2=0)))] 1 ?_;refine Up a ?_ ?_<;>intro p a;refine Vd 1 1 [(112,.slice b6 B.1.length b7)] ?_;refine J8 588 [] a (o_aE b6 b7 B.1) (.l 548 .nil) ?_;rintro E - a _ _ ⟨b9,bb,rfl,rfl,hr49⟩;refine Y8 (Jo 5 [(21,.slice b9 E.1.length bb),(22,A.i E.2)] 1 ?_);refine Ja [] [8,9] (λh k=>∃(bc:Bool),h=[(123,.bool bc)]/\k=[]/\F.cs bc=some r) ?_ ?_;refine Vd 0 3 [(118,.bool (decide (E.2≠0)))] ?_;refine V6 (j:=118) rfl a ?_ ?_<;>intro p a;refine Jc [] [] [.off,.off,.off,.off,.n] [(123,.bool true)] (Y3 ?_);exact Jz ⟨true,rfl,rfl,a⟩;refine Jc [] [] [.on .n,.on .n] [(119,.slice b9 E.1.length bb),(120,.slice A26_ f.length c27_)] (J4 (dj:=118) rfl rfl ?_);refine J8 628 [] a (o_w b9 A26_ bb c27_ E.1 f) (.l 588 (.s 7 .nil)) ?_;rintro bi - a _ _ ⟨rfl,rfl⟩;refine Y8 (Jc [] [] [.on .n,.n] [(123,.bool (!bi))] (Y3 ?_));exact Jz ⟨(!bi),rfl,rfl,a⟩;rintro _ _ ⟨bc,rfl,rfl,a⟩;rw[F.cs]at a;refine Um a ?_ ?_<;>intro p a;refine Jv 1 1 [(6,.bool false)] 1 ?_;exact A.ke a (Vc ⟨rfl,rfl⟩);refine Vg 1 ?_;exact Jz ⟨rfl,rfl,a⟩;refine Vg 1 ?_;exact Jz ⟨rfl,rfl,a⟩;rintro _ _ ⟨rfl,rfl,a⟩;rw[F.cr]at a;refine Jv 1 1 [(6,.bool true)] 1 ?_;exact A.ke a (Vc ⟨rfl,rfl⟩)
end Go.Proofs.YtpoabedecgeamaaGreatDoor
end
section
namespace Go.A
open Go.RowKit Go.Z
def sub (a k:Nat):Bool:=Nat.beq (a&&& k) a
def sub_iff {a k:Nat}:sub a k=true↔∀i,a.testBit i=true->k.testBit i=true:=by
 unfold sub;constructor;intro h i J;have h:=Wj h;rw[<-h,Nat.testBit_and,Qr]at J;exact J.2;intro h;have:a&&& k=a:=Nat.eq_of_testBit_eq λi=>by
  rw[Nat.testBit_and];cases L:a.testBit i with
  |false=>rfl
  |true=>rw[h i L];rfl
 rw[this];exact Yq a
def mb_get: ∀(n k i:Nat),i<n->(mb n k)[i]?=some (k.testBit i)
 |0,_,_,h=>absurd h (Nat.not_lt_zero _)
 |n+1,k,0,_=>by
  rw[mb,W7,Nat.testBit_zero];congr 1;rcases Nat.mod_two_eq_zero_or_one k with h|h<;>rw[h]<;>rfl
 |n+1,k,i+1,h=>by
  rw[mb,Ww,mb_get n (k / 2) i (by omega),Nat.testBit_succ]
def mb_len: ∀n k,(mb n k).length=n
 |0,_=>rfl
 |n+1,k=>by rw[mb,Qi,mb_len n]
def Qiq {n k i:Nat}{b:Bool}(h:i<n):(mb n k).toArray.getD i b=k.testBit i:=by
 rw[Wt,Xe,mb_get n k i h];rfl
def mb_getD_ge {n k i:Nat}{b:Bool}(h:n<=i):(mb n k).toArray.getD i b=b:=by
 rw[Wt,Xe,Xb (by rw[mb_len];exact h)];rfl
def Qio (n:Nat):List Edge->Nat
 | []=>0
 |e::r=>bif Region.binds .any e then(1<<<(min e.on n))|||Qio n r else Qio n r
def Qhg {n k:Nat}(hk:k.testBit n=false): ∀l:List Edge,sub (Qio n l) k=true↔∀e∈l,Region.binds .any e=true->e.on<n/\k.testBit e.on=true
 | []=>by rw[sub_iff];simp[Qio]
 |e::r=>by
  have V:=Qhg hk r;rw[sub_iff]at V ⊢;unfold Qio;cases hb:Region.binds .any e with
  |false=>
   rw[cond_false,V];constructor;intro h x J L;rcases Qn.1 J with rfl|J
   rw[hb]at L;cases L;exact h x J L;intro h x J;exact h x (Qh _ J)
  |true=>
   rw[cond_true];constructor;intro h;have W:=V.1 λi N=>h i (by rw[Nat.testBit_or,N,Bool.or_true]);intro x J L;rcases Qn.1 J with rfl|J
   have O:=h (min x.on n) (by rw[Nat.testBit_or,Nat.one_shiftLeft,Nat.testBit_two_pow_self,Bool.true_or]);by_cases Y:x.on<n;rw[X2 (Nat.le_of_lt Y)]at O;exact⟨Y,O⟩;rw[Nat.min_eq_right (Ya Y),hk]at O;cases O;exact W x J L;intro h i N;rw[Nat.testBit_or,Yd]at N;rcases N with N|N
   rw[Nat.one_shiftLeft,Nat.testBit_two_pow]at N;have:=Wv N;obtain⟨W,O⟩:=h e (Qj ..) hb;rw[X2 (Nat.le_of_lt W)]at this;rw[<-this];exact O;exact V.2 (λx J=>h x (Qh _ J)) i N
def waits (ops:List Oper):List Nat:=ops.map λo=>Qio ops.length o.after.toList
def rdyF:List Nat->Nat->Nat->List Nat
 | [],_,_=>[]
 |a::ws,k,i=>bif !(k.testBit i)&&sub a k then i::rdyF ws k (i+1)else rdyF ws k (i+1)
def Qdp {k:Nat}: ∀(ws:List Nat) (i:Nat),rdyF ws k i=((List.range ws.length).filter λm=> !(k.testBit (i+m))&&((ws[m]?).map λa=>sub a k).getD false).map (i+ ·)
 | [],i=>rfl
 |a::ws,i=>by
  rw[rdyF,Qdp ws (i+1),Qi,List.range_succ_eq_map,X5,List.filter_map,W7,Ws,Yw,Yj];have e:(List.filter (λm=> !(k.testBit (i+1+m))&&((ws[m]?).map λa=>sub a k).getD false) (List.range ws.length)).map (i+1+ ·)=
    ((List.filter ((λm=> !(k.testBit (i+m))&&(((a::ws)[m]?).map λa=>sub a k).getD false)∘Nat.succ) (List.range ws.length)).map Nat.succ).map (i+ ·):=by
   rw[List.map_map];have J:((λm=> !(k.testBit (i+m))&&(((a::ws)[m]?).map λa=>sub a k).getD false)∘Nat.succ)=λm=> !(k.testBit (i+1+m))&&((ws[m]?).map λa=>sub a k).getD false:=by
    funext m;simp only[Function.comp_apply,Nat.succ_eq_add_one,Ww];rw[show i+(m+1)=i+1+m by omega]
   rw[J];congr 1;funext m;simp only[Function.comp_apply,Nat.succ_eq_add_one];omega
  rw[e];cases (!(k.testBit i)&&sub a k)<;>simp
def after_all {n k:Nat}(hk:k.testBit n=false)(o:Oper):(o.after.all λe=> !Region.binds .any e||(mb n k).toArray.getD e.on false)=sub (Qio n o.after.toList) k:=by
 rw[Yc,Qhg hk,Array.all_eq_true_iff_forall_mem];constructor;intro h e J L;have:=h e (Array.mem_toList_iff.1 J);rw[L,W9,Xt]at this;by_cases N:e.on<n;rw[Qiq N]at this;exact⟨N,this⟩;rw[mb_getD_ge (Ya N)]at this;cases this;intro h e J;cases L:Region.binds .any e with
 |false=>rfl
 |true=>
  obtain⟨O,V⟩:=h e (Array.mem_toList_iff.2 J) L;rw[W9,Xt,Qiq O];exact V
def ready_eq {ops:List Oper}{n k:Nat}{ws:List Nat}(L:waits ops=ws)(N:ops.length=n)(hk:k.testBit n=false):Region.ready .any ops.toArray (mb n k).toArray=rdyF ws k 0:=by
 subst L;subst N;rw[Qdp];unfold Region.ready waits;rw[Q9,Yk];have: ∀(p:Nat->Bool),(List.filter p (List.range ops.length)).map (0+ ·)=List.filter p (List.range ops.length):=λp=>by
  rw[show(λx:Nat=>0+x)=id from funext λx=>Xf x,List.map_id]
 rw[this];refine List.filter_congr λi J=>?_;have J:=List.mem_range.1 J;rw[Qiq J,Xf,Xe,Qy,Qf J];simp only[Ws,Yw];rw[after_all hk]
def maskL:List Nat->Nat
 | []=>0
 |j::r=>(1<<<j)|||maskL r
def badB (ops:Array Oper)(i:Nat)(oi:Oper)(j:Nat):Bool:= !(j==i||match ops[j]? with
 |some oj=>oj.after.any (λe=>Region.binds .any e&&e.on==i)||oi.apart ops oj
 |none=>true)
def bads (ops:List Oper):List Nat:=(List.range ops.length).map λi=>match ops[i]? with
 |some oi=>maskL ((List.range ops.length).filter (badB ops.toArray i oi))
 |none=>0
structure Tabs (lo:List Oper) (n:Nat) (ws bs:List Nat):Prop where
 len:lo.length=n
 w:waits lo=ws
 b:bads lo=bs
 ns:(Region.noSelect lo.toArray&&Qbm lo.toArray)=true
section
variable {r:Option Nat}{P:Program}{lo:List Oper}{Q:Exit->Act->World->Prop}{C:Cx}{l:List (Nat×Value)}{H Hq:List (Nat×Res)}{m n:Nat}{ws bs:List Nat}
end
end Go.A
end
section
namespace Go.Proofs.YtpoabedecgeamaaGreatDoor
open Go.RowKit
def F.d3 (a:Int):Option Int:=if(bif decide (a<1)then true else decide ((16:Int)<a))=true then(some (-1))else(if a=1 then(some 0)else(if(bif decide (a=5)then true else decide (a=9))=true then(some 2)else(some 1)))
def F.en (e:Int->Option (Int×Bool))(f:D23)(a:Int)(h:Bool):Option (Int×Bool):=if h=true then((A.ix f a).bind λk=>(some (k.1,true)))else(A.gd (Z.R64 (a+1)) (e (a+1)))
def F.cX (a:D23)(h:Int)(k:ByteArray):Nat->Int->Option (Int×Bool)
 |0,_=>none
 |f+1,e=>if e<(a.length:Int)then((A.ix a e).bind λo=>(if o.2.1=h then((A.ix a e).bind λp=>(F.en (F.cX a h k f) a e (decide (p.2.2.2.2.1=k))))else(F.en (F.cX a h k f) a e false)))else(some (0,false))
def F.e0 (a:D23)(e:Int)(f:ByteArray):Option (Int×Bool):=F.cX a e f A.FU 0
def F.eM (a:UInt8):Option Bool:=some (bif decide ((48:Int)<=(a.toNat:Int))then decide ((a.toNat:Int)<=57)else false)
def F.el (a:UInt8):Option Bool:=if(bif decide ((97:Int)<=(a.toNat:Int))then decide ((a.toNat:Int)<=122)else false)=true then(some true)else(some (bif decide ((65:Int)<=(a.toNat:Int))then decide ((a.toNat:Int)<=90)else false))
def F.d6 (e:Int->Option Bool)(a:Int)(f:Bool):Option Bool:=if f=true then(some false)else(A.gd (Z.R64 (a+1)) (e (a+1)))
def F.cK (a:ByteArray):Nat->Int->Option Bool
 |0,_=>none
 |f+1,e=>if e<(a.size:Int)then((A.ix a.data.toList e).bind λh=>((F.el h).bind λk=>(if(!k)=true then((A.ix a.data.toList e).bind λo=>((F.eM o).bind λp=>(F.d6 (F.cK a f) e (!p))))else(F.d6 (F.cK a f) e false))))else(some true)
def F.dG (a:ByteArray)(e:Bool):Option Bool:=if e=true then(some false)else(F.cK a A.FU 0)
def F.eW (a:ByteArray):Option Bool:=if(bif decide (a=(ByteArray.mk #[]))then true else decide ((16:Int)<(a.size:Int)))=true then(F.dG a true)else((A.ix a.data.toList 0).bind λe=>((F.el e).bind λf=>(F.dG a (!f))))
def F.dS (e:D23)(a:D64):Option Bool:=if(bif decide (a.2.1≠1)then decide (a.2.1≠15)else false)=true then(some (decide (a.2.2.2.2.1=(ByteArray.mk #[]))))else((F.e0 e a.2.1 a.2.2.2.2.1).bind λf=>((F.eW a.2.2.2.2.1).bind λh=>(some (bif h then decide (f.1=a.1)else false))))
def eqq_R08_own_j1:True:=(λ_=>trivial) @F.dS.eq_1
def F.bt (e:D23)(a:D64)(f:Bool):Option Bool:=if f=true then(some false)else(if a.2.1=14 then(if(bif bif bif decide (a.2.2.2.2.2.1<1)then true else decide ((8:Int)<a.2.2.2.2.2.1)then true else decide (a.2.2.2.2.2.2<1)then true else decide ((4:Int)<a.2.2.2.2.2.2))=true then(some false)else(F.dS e a))else(if(bif decide (a.2.2.2.2.2.1≠0)then true else decide (a.2.2.2.2.2.2≠0))=true then(some false)else(F.dS e a)))
def eqq_R08_own_j2:True:=(λ_=>trivial) @F.bt.eq_1
def F.eU (e:D23)(f:Int):Option Bool:=(A.ix e f).bind λa=>(if(bif decide (a.1<1)then true else decide ((255:Int)<a.1))=true then(F.bt e a true)else(if(0:Int)<f then(A.gd (Z.R64 (f-1)) ((A.ix e (f-1)).bind λh=>(if a.1<=h.1 then(F.bt e a true)else((F.d3 a.2.1).bind λk=>(if k<0 then(F.bt e a true)else((F.d3 a.2.1).bind λo=>(F.bt e a (decide ((a.2.2.1.length:Int)≠o)))))))))else((F.d3 a.2.1).bind λp=>(if p<0 then(F.bt e a true)else((F.d3 a.2.1).bind λs=>(F.bt e a (decide ((a.2.2.1.length:Int)≠s))))))))
def eqq_R08_own:True:=(λ_=>trivial) @F.eU.eq_1
def F.eK (a:D62)(e:Bool):Option Bool:=if e=true then(some (bif decide ((1:Int)<=a.2.1)then decide (a.2.1<=1048576)else false))else(some (decide (a.2.1=0)))
def F.eL (a:D62)(e:Bool):Option Bool:=if e=true then(some (bif decide ((0:Int)<=a.2.1)then decide (a.2.1<=64)else false))else(if a.1=6 then(F.eK a (decide (a.1=6)))else(F.eK a (decide (a.1=11))))
def F.eY (a:D62):Option Bool:=if a.1=3 then(F.eL a (decide (a.1=3)))else(F.eL a (decide (a.1=13)))
def F.dp (a:UInt8):Option Bool:=some (bif decide ((128:Int)<=(a.toNat:Int))then decide ((a.toNat:Int)<=191)else false)
def F.cw (a:UInt8)(e:UInt8)(f:Bool):Option Int:=if f=true then(if(bif decide ((a.toNat:Int)=240)then decide ((e.toNat:Int)<144)else false)=true then(some 0)else(if(bif decide ((a.toNat:Int)=244)then decide ((143:Int)<(e.toNat:Int))else false)=true then(some 0)else(some 4)))else(some 0)
def eqq_R05_width_j1:True:=(λ_=>trivial) @F.cw.eq_1
def F.cY (h:ByteArray)(f:Int)(a:UInt8)(e:UInt8)(k:Bool):Option Int:=if k=true then(if(bif decide ((a.toNat:Int)=224)then decide ((e.toNat:Int)<160)else false)=true then(some 0)else(if(bif decide ((a.toNat:Int)=237)then decide ((159:Int)<(e.toNat:Int))else false)=true then(some 0)else(some 3)))else(if(bif bif decide ((240:Int)<=(a.toNat:Int))then decide ((a.toNat:Int)<=244)else false then decide ((4:Int)<=(h.size:Int)-f)else false)=true then((F.dp e).bind λo=>(if o=true then(A.gd (Z.R64 (f+2)) ((A.ix h.data.toList (f+2)).bind λp=>((F.dp p).bind λs=>(if s=true then(A.gd (Z.R64 (f+3)) ((A.ix h.data.toList (f+3)).bind λt=>((F.dp t).bind λu=>(F.cw a e u))))else(F.cw a e false)))))else(F.cw a e false)))else(F.cw a e false))
def eqq_R05_width_j2:True:=(λ_=>trivial) @F.cY.eq_1
def F.dq (e:ByteArray)(a:Int)(f:UInt8)(h:UInt8)(k:Bool):Option Int:=if k=true then(some 2)else(if(bif bif decide ((224:Int)<=(f.toNat:Int))then decide ((f.toNat:Int)<=239)else false then decide ((3:Int)<=(e.size:Int)-a)else false)=true then((F.dp h).bind λo=>(if o=true then(A.gd (Z.R64 (a+2)) ((A.ix e.data.toList (a+2)).bind λp=>((F.dp p).bind λs=>(F.cY e a f h s))))else(F.cY e a f h false)))else(F.cY e a f h false))
def eqq_R05_width_j3:True:=(λ_=>trivial) @F.dq.eq_1
def F.dr (e:ByteArray)(f:Int)(a:UInt8)(h:UInt8):Option Int:=if(a.toNat:Int)<128 then(some 1)else(if(bif bif decide ((194:Int)<=(a.toNat:Int))then decide ((a.toNat:Int)<=223)else false then decide ((2:Int)<=(e.size:Int)-f)else false)=true then((F.dp h).bind λk=>(F.dq e f a h k))else(F.dq e f a h false))
def eqq_R05_width_j4:True:=(λ_=>trivial) @F.dr.eq_1
def F.ef (e:ByteArray)(a:Int):Option Int:=A.gd (Z.R64 ((e.size:Int)-a)) ((A.ix e.data.toList a).bind λf=>(if(1:Int)<(e.size:Int)-a then(A.gd (Z.R64 (a+1)) ((A.ix e.data.toList (a+1)).bind λh=>(F.dr e a f h)))else(F.dr e a f (0:UInt8))))
def eqq_R05_width:True:=(λ_=>trivial) @F.ef.eq_1
def F.ds (e:ByteArray):Nat->Int->Option Bool
 |0,_=>none
 |f+1,a=>if a<(e.size:Int)then((F.ef e a).bind λh=>(if h=0 then(some false)else(A.gd (Z.R64 (a+h)) ((F.ds e f) (a+h)))))else(some true)
def F.eN (a:ByteArray):Option Bool:=F.ds a A.FU 0
def F.bW (k:(List D259)->Int->Option (List D259))(e:List D259)(a:Int)(f:Int)(h:Int):Option (List D259):=A.gd ((List.length (α:=D259) e+List.length (α:=D259) [(a,h)])*16<=140737488355328) (A.gd (Z.R64 (a+f)) (k (e++[(a,h)]) (a+f)))
def eqq_R05_Runes_j1:True:=(λ_=>trivial) @F.bW.eq_1
def F.a8 (e:ByteArray):Nat->(List D259)->Int->Option (List D259)
 |0,_,_=>none
 |f+1,k,a=>if a<(e.size:Int)then((F.ef e a).bind λh=>(if h=1 then((A.ix e.data.toList a).bind λo=>(F.bW (F.a8 e f) k a h (IntKind.i32.wrap ((o.toNat:Int)))))else(if h=2 then(A.gd (Z.R64 (a+1)) ((A.ix e.data.toList a).bind λp=>(A.gd ((32:Int)≠0) ((A.ix e.data.toList (a+1)).bind λs=>(A.gd ((64:Int)≠0) (F.bW (F.a8 e f) k a h (IntKind.i32.wrap ((IntKind.i32.wrap ((IntKind.i32.wrap (Int.tmod (p.toNat:Int) 32))*64))+(IntKind.i32.wrap (Int.tmod (s.toNat:Int) 64))))))))))else(if h=3 then(A.gd (Z.R64 (a+1)/\Z.R64 (a+2)) ((A.ix e.data.toList a).bind λt=>(A.gd ((16:Int)≠0) ((A.ix e.data.toList (a+1)).bind λu=>(A.gd ((64:Int)≠0) ((A.ix e.data.toList (a+2)).bind λw=>(A.gd ((64:Int)≠0) (F.bW (F.a8 e f) k a h (IntKind.i32.wrap ((IntKind.i32.wrap ((IntKind.i32.wrap ((IntKind.i32.wrap ((IntKind.i32.wrap (Int.tmod (t.toNat:Int) 16))*64))+(IntKind.i32.wrap (Int.tmod (u.toNat:Int) 64))))*64))+(IntKind.i32.wrap (Int.tmod (w.toNat:Int) 64))))))))))))else(if h=4 then(A.gd (Z.R64 (a+1)/\Z.R64 (a+2)/\Z.R64 (a+3)) ((A.ix e.data.toList a).bind λx=>(A.gd ((8:Int)≠0) ((A.ix e.data.toList (a+1)).bind λy=>(A.gd ((64:Int)≠0) ((A.ix e.data.toList (a+2)).bind λz=>(A.gd ((64:Int)≠0) ((A.ix e.data.toList (a+3)).bind λB=>(A.gd ((64:Int)≠0) (F.bW (F.a8 e f) k a h (IntKind.i32.wrap ((IntKind.i32.wrap ((IntKind.i32.wrap ((IntKind.i32.wrap ((IntKind.i32.wrap ((IntKind.i32.wrap ((IntKind.i32.wrap (Int.tmod (x.toNat:Int) 8))*64))+(IntKind.i32.wrap (Int.tmod (y.toNat:Int) 64))))*64))+(IntKind.i32.wrap (Int.tmod (z.toNat:Int) 64))))*64))+(IntKind.i32.wrap (Int.tmod (B.toNat:Int) 64))))))))))))))else(F.bW (F.a8 e f) k a 1 65533))))))else(some k)
def F.e1 (a:ByteArray):Option (List D259):=F.a8 a A.FU [] 0
def F.eE (a:Bool):Option Bool:=some a
def F.d7 (a:Bool):Option Bool:=some a
def F.dH (a:D62)(e:Bool):Option Bool:=if e=true then(if(a.2.2.size:Int)<=4 then((F.eN a.2.2).bind λf=>(if f=true then((F.e1 a.2.2).bind λh=>(F.d7 (decide ((h.length:Int)=1))))else(F.d7 false)))else(F.d7 false))else(some (decide (a.2.2=(ByteArray.mk #[]))))
def eqq_R06_text_j3:True:=(λ_=>trivial) @F.dH.eq_1
def F.eI (a:D62):Option Bool:=if a.1=5 then(if(bif decide ((1:Int)<=(a.2.2.size:Int))then decide ((a.2.2.size:Int)<=16)else false)=true then((F.eN a.2.2).bind λe=>(F.eE e))else(F.eE false))else(if a.1=12 then(F.dH a (decide (a.1=12)))else(F.dH a (decide (a.1=22))))
def eqq_R06_text:True:=(λ_=>trivial) @F.eI.eq_1
def F.eV (h:Int):Nat->(List Int)->Int->Option (List Int)
 |0,_,_=>none
 |f+1,e,a=>if a<=h then(A.gd ((List.length (α:=Int) e+List.length (α:=Int) [a])*8<=140737488355328) (A.gd (Z.R64 (a+1)) ((F.eV h f) (e++[a]) (a+1))))else(some e)
def F.cL (a:Int)(e:Int):Option (List Int):=F.eV e A.FU [] a
def F.dt (a:Int):Option (List Int):=if a=2 then(F.cL 1 8)else(if a=3 then(F.cL 11 13)else(if a=4 then(F.cL 21 22)else(if a=8 then(F.cL 31 34)else(if a=11 then(F.cL 41 42)else(F.cL 1 0)))))
def F.dT (e:Int->Option Int)(a:Int)(f:Bool):Option Int:=if f=true then(some 0)else(A.gd (Z.R64 (a+1)) (e (a+1)))
def F.bX (a:D62)(e:(List Int)):Nat->Int->Option Int
 |0,_=>none
 |f+1,h=>if h<(e.length:Int)then((A.ix e h).bind λk=>(if k=a.1 then((F.eY a).bind λo=>(if o=true then((F.eI a).bind λp=>(F.dT (F.bX a e f) h p))else(F.dT (F.bX a e f) h false)))else(F.dT (F.bX a e f) h false)))else(some 60)
def F.bY (a:D62)(e:(List Int))(f:Bool):Option Int:=if f=true then(some 0)else(F.bX a e A.FU 0)
def F.ey (f:Int)(a:D62):Option Int:=(F.dt f).bind λe=>(if(e.length:Int)=0 then(F.bY a e (decide (a=(0,0,ByteArray.mk #[]))))else(F.bY a e false))
def F.du (e:D23)(h:Int):Nat->Int->Option Int
 |0,_=>none
 |f+1,a=>if a<(e.length:Int)then((A.ix e a).bind λk=>(if k.1=h then(some a)else(A.gd (Z.R64 (a+1)) ((F.du e h f) (a+1)))))else(some (-1))
def F.dv (a:D23)(e:Int):Option Int:=F.du a e A.FU 0
def F.eo (e:Int->Option Int)(a:Int)(f:Bool):Option Int:=if f=true then(some 80)else(A.gd (Z.R64 (a+1)) (e (a+1)))
def F.cZ (k:Int->Option Int)(a:D23)(e:Int):Nat->Int->Option Int
 |0,_=>none
 |f+1,h=>(A.ix a e).bind λp=>(if h<(p.2.2.1.length:Int)then((A.ix a e).bind λs=>((A.ix s.2.2.1 h).bind λt=>((F.dv a t).bind λo=>(if o<0 then(F.eo (F.cZ k a e f) h true)else((A.ix a o).bind λu=>(F.eo (F.cZ k a e f) h (decide (u.2.1=15))))))))else(A.gd (Z.R64 (e+1)) (k (e+1))))
def F.a9 (a:D23):Nat->Int->Option Int
 |0,_=>none
 |f+1,e=>if e<(a.length:Int)then(F.cZ (F.a9 a f) a e A.FU 0)else(some 0)
def F.bZ (a:D23):Nat->Int->Option Int
 |0,_=>none
 |f+1,e=>if e<(a.length:Int)then((A.ix a e).bind λh=>((A.ix a e).bind λk=>((F.ey h.2.1 k.2.2.2.1).bind λo=>(if o≠0 then(some 60)else(A.gd (Z.R64 (e+1)) ((F.bZ a f) (e+1)))))))else(F.a9 a A.FU 0)
def F.c0 (a:D23):Nat->Int->Option Int
 |0,_=>none
 |f+1,e=>if e<(a.length:Int)then((F.eU a e).bind λh=>(if(!h)=true then(some 80)else(A.gd (Z.R64 (e+1)) ((F.c0 a f) (e+1)))))else(F.bZ a A.FU 0)
def F.eO (a:D23):Option Int:=if(32:Int)<(a.length:Int)then(some 80)else(F.c0 a A.FU 0)
def F.ep (e:Int->Option Bool)(a:Int)(f:Bool):Option Bool:=if f=true then(some false)else(A.gd (Z.R64 (a+1)) (e (a+1)))
def F.c1 (h:D23)(a:D64)(k:(List Bool)):Nat->Int->Option Bool
 |0,_=>none
 |f+1,e=>if e<(a.2.2.1.length:Int)then(if a.2.1≠14 then((A.ix a.2.2.1 e).bind λo=>((F.dv h o).bind λp=>((A.ix k p).bind λs=>(F.ep (F.c1 h a k f) e (!s)))))else(F.ep (F.c1 h a k f) e false))else(some true)
def F.eP (a:D23)(e:D64)(f:(List Bool)):Option Bool:=F.c1 a e f A.FU 0
def F.eq (e:Int->Int->Option ((List Int)×Bool))(a:Int)(f:Int):Option ((List Int)×Bool):=A.gd (Z.R64 (a+1)) (e f (a+1))
def F.dU (e:Int->Int->Option ((List Int)×Bool))(f:Int)(a:Int)(h:Bool):Option ((List Int)×Bool):=if h=true then(F.eq e a a)else(F.eq e a f)
def F.b0 (p:(List Bool)->(List Int)->Option ((List Int)×Bool))(e:D23)(h:List Bool)(o:List Int):Nat->Int->Int->Option ((List Int)×Bool)
 |0,_,_=>none
 |f+1,a,k=>if(bif decide (k<(e.length:Int))then decide (k<(e.length:Int))else false)=true then(if a<0 then((A.ix h k).bind λs=>(if(!s)=true then((A.ix e k).bind λt=>((F.eP e t h).bind λu=>(F.dU (F.b0 p e h o f) a k u)))else(F.dU (F.b0 p e h o f) a k false)))else(F.dU (F.b0 p e h o f) a k false))else(if a<0 then(some ([],false))else((A.ix h a).bind λw=>(A.gd ((List.length (α:=Int) o+List.length (α:=Int) [a])*8<=140737488355328) (p (h.set a.toNat true) (o++[a])))))
def F.dw (a:D23):Nat->(List Bool)->(List Int)->Option ((List Int)×Bool)
 |0,_,_=>none
 |f+1,h,e=>if(e.length:Int)<(a.length:Int)then(F.b0 (F.dw a f) a h e A.FU (-1) 0)else(some (e,true))
def F.eg (a:D23):Option ((List Int)×Bool):=A.gd (1*a.length<=140737488355328) (F.dw a A.FU (List.replicate a.length (false:Bool)) [])
def F.er (a:Int):Option Int:=some a
def F.ba (a:Int):Option Int:=if(4:Int)<a then(F.er (-1))else(F.er a)
def F.dV (a:Int)(e:Bool):Option Int:=if e=true then(if a≠0 then(F.ba (-1))else(F.ba a))else(F.ba a)
def F.dx (a:D64)(f:(List Int))(e:Int)(h:Bool):Option Int:=if h=true then((A.ix f 0).bind λk=>((A.ix f 1).bind λo=>(if k≠o then(F.ba (-1))else(F.ba e))))else(if a.2.1=11 then(F.dV e (decide (a.2.1=11)))else(if a.2.1=16 then(F.dV e (decide (a.2.1=16)))else(F.dV e (decide (a.2.1=15)))))
def eqq_R08_depth_j4:True:=(λ_=>trivial) @F.dx.eq_1
def F.dy (a:D64)(f:(List Int))(e:Int):Option Int:=if a.2.1=14 then(F.ba a.2.2.2.2.2.2)else(if a.2.1=12 then(A.gd (Z.R64 (e+1)) (F.ba (e+1)))else(if a.2.1=13 then(A.gd (Z.R64 (e-1)) (F.ba (e-1)))else(if a.2.1=5 then(F.dx a f e (decide (a.2.1=5)))else(F.dx a f e (decide (a.2.1=9))))))
def eqq_R08_depth_j5:True:=(λ_=>trivial) @F.dy.eq_1
def F.ez (e:D64)(a:(List Int)):Option Int:=if(0:Int)<(a.length:Int)then((A.ix a 0).bind λf=>(F.dy e a f))else(F.dy e a 0)
def F.cC (t:(List Int)->Int->Option ((List Int)×Bool))(u:D23)(o:(List Int))(a:List Int)(e:Int)(h:D64):Nat->(List Int)->Int->Option ((List Int)×Bool)
 |0,_,_=>none
 |f+1,p,k=>if k<(h.2.2.1.length:Int)then((A.ix h.2.2.1 k).bind λy=>((F.dv u y).bind λz=>((A.ix a z).bind λw=>(A.gd ((List.length (α:=Int) p+List.length (α:=Int) [w])*8<=140737488355328) (A.gd (Z.R64 (k+1)) ((F.cC t u o a e h f) (p++[w]) (k+1)))))))else((A.ix o e).bind λs=>((F.ez h p).bind λx=>((A.ix a s).bind λJ=>((A.ix o e).bind λB=>((A.ix (a.set s.toNat x) B).bind λE=>(if E<0 then(some ([],false))else(A.gd (Z.R64 (e+1)) (t (a.set s.toNat x) (e+1)))))))))
def F.ek (e:Int->Option ((List Int)×Bool))(a:Int)(f:Bool):Option ((List Int)×Bool):=if f=true then(some ([],false))else(A.gd (Z.R64 (a+1)) (e (a+1)))
def F.b4 (a:D23)(e:List Int):Nat->Int->Option ((List Int)×Bool)
 |0,_=>none
 |f+1,h=>if h<(a.length:Int)then((A.ix a h).bind λk=>(if k.2.1=14 then((A.ix k.2.2.1 0).bind λo=>((F.dv a o).bind λp=>((A.ix e p).bind λs=>(F.ek (F.b4 a e f) h (decide (s≠k.2.2.2.2.2.2))))))else(F.ek (F.b4 a e f) h false)))else(some (e,true))
def F.db (a:D23)(e:(List Int)):Nat->(List Int)->Int->Option ((List Int)×Bool)
 |0,_,_=>none
 |f+1,k,h=>if h<(e.length:Int)then((A.ix e h).bind λo=>((A.ix a o).bind λp=>(F.cC (F.db a e f) a e k h p A.FU [] 0)))else(F.b4 a k A.FU 0)
def F.dW (a:D23)(e:(List Int)):Option ((List Int)×Bool):=A.gd (8*a.length<=140737488355328) (F.db a e A.FU (List.replicate a.length (0:Int)) 0)
def F.es (e:(List D181)->Int->Option (List D181))(a:Int)(f:List D181):Option (List D181):=A.gd (Z.R64 (a+1)) (e f (a+1))
def F.c2 (o:(List D181)->Int->Option (List D181))(s:D23)(p:(List Int))(k:Int)(a:D64):Nat->(List D181)->Int->Option (List D181)
 |0,_,_=>none
 |f+1,h,e=>if e<(a.2.2.1.length:Int)then((A.ix a.2.2.1 e).bind λw=>((F.dv s w).bind λx=>((A.ix p x).bind λt=>(A.gd ((List.length (α:=D181) h+List.length (α:=D181) [((a.1,e),t)])*24<=140737488355328) (A.gd (Z.R64 (e+1)) ((F.c2 o s p k a f) (h++[((a.1,e),t)]) (e+1)))))))else(if a.2.1≠15 then((A.ix p k).bind λu=>(A.gd ((List.length (α:=D181) h+List.length (α:=D181) [((a.1,2),u)])*24<=140737488355328) (F.es o k (h++[((a.1,2),u)]))))else(F.es o k h))
def F.dz (a:D23)(h:(List Int)):Nat->(List D181)->Int->Option (List D181)
 |0,_,_=>none
 |f+1,k,e=>if(bif decide (e<(a.length:Int))then decide (e<(h.length:Int))else false)=true then((A.ix a e).bind λo=>(F.c2 (F.dz a h f) a h e o A.FU k 0))else(some k)
def F.eQ (a:D23)(e:(List Int)):Option (List D181):=F.dz a e A.FU [] 0
def F.dX (e:Int->Option Int)(a:Int)(f:Bool):Option Int:=if f=true then(some 20)else(A.gd (Z.R64 (a+1)) (e (a+1)))
def F.dA (a:D218):Nat->Int->Option Int
 |0,_=>none
 |f+1,e=>if e<4 then((A.ix [a.2.2.2.2.1,a.2.2.2.2.2.1,a.2.2.2.2.2.2.1,a.2.2.2.2.2.2.2] e).bind λh=>(if h<0 then(F.dX (F.dA a f) e true)else((A.ix [a.2.2.2.2.1,a.2.2.2.2.2.1,a.2.2.2.2.2.2.1,a.2.2.2.2.2.2.2] e).bind λk=>(if(1048576:Int)<k then(F.dX (F.dA a f) e true)else(if a.2.2.2.1<=e then((A.ix [a.2.2.2.2.1,a.2.2.2.2.2.1,a.2.2.2.2.2.2.1,a.2.2.2.2.2.2.2] e).bind λo=>(F.dX (F.dA a f) e (decide (o≠0))))else(F.dX (F.dA a f) e false))))))else(some 0)
def F.e2 (a:D218):Option Int:=A.gd (((bif bif bif bif bif decide (a.1<0)then true else decide ((4:Int)<a.1)then true else decide (a.2.2.2.1<0)then true else decide ((4:Int)<a.2.2.2.1)then true else decide (a.2.1<0)then true else decide (a.1<a.2.1))=false->Z.R64 (a.2.1+a.2.2.2.1))) (if(bif bif bif bif bif bif bif bif decide (a.1<0)then true else decide ((4:Int)<a.1)then true else decide (a.2.2.2.1<0)then true else decide ((4:Int)<a.2.2.2.1)then true else decide (a.2.1<0)then true else decide (a.1<a.2.1)then true else decide ((4:Int)<a.2.1+a.2.2.2.1)then true else decide (a.2.2.1<0)then true else decide ((1048576:Int)<a.2.2.1))=true then(some 20)else(if(bif decide (a.2.1=0)then decide (a.2.2.1≠0)else false)=true then(some 20)else(F.dA a A.FU 0)))
def eqq_R02_Check:True:=(λ_=>trivial) @F.e2.eq_1
def F.eJ (a:Int)(e:Int)(f:Int)(h:Int):Option (D218×Int):=(F.e2 (a,e,f,h,(0,0,0,0))).bind λk=>(if k≠0 then(some ((0,0,0,0,(0,0,0,0)),11))else(some ((a,e,f,h,(0,0,0,0)),0)))
def F.eZ (a:Int):Option (D218×Int):=(F.eJ a a 0 0).bind λe=>(some e)
def F.et (e:D23)(h:Int):Option (D64×Bool):=(F.dv e h).bind λf=>(if f<0 then(some ((0,0,[],(0,0,ByteArray.mk #[]),ByteArray.mk #[],0,0),false))else((A.ix e f).bind λa=>(A.gd ((List.length (α:=Int) []+List.length (α:=Int) a.2.2.1)*8<=140737488355328) (some ((a.1,a.2.1,[]++a.2.2.1,a.2.2.2.1,a.2.2.2.2.1,a.2.2.2.2.2.1,a.2.2.2.2.2.2),true)))))
def eqq_R08_Find:True:=(λ_=>trivial) @F.et.eq_1
def F.eR (a:Int):Option (D218×Int):=(F.eJ a a 0 1).bind λe=>(some e)
def F.eA (a:Int):Option (D218×Int):=if a<1 then(some ((0,0,0,0,(0,0,0,0)),11))else(A.gd (Z.R64 (a-1)) ((F.eJ a (a-1) 0 0).bind λe=>(some e)))
def eqq_R02_Leave:True:=(λ_=>trivial) @F.eA.eq_1
def F.eX (a:Int):Option (D218×Int):=(F.eJ a a 1 0).bind λe=>(some e)
def F.dc (a:Int)(e:Int)(f:Int)(h:Int)(k:Int)(o:Int)(p:Int)(s:Int):Option D218:=some (a,e,f,h,(k,o,p,s))
def F.dY (o:D64)(k:Int):Option D218:=(F.eZ k).bind λa=>(if o.2.1=12 then((F.eR k).bind λe=>(F.dc e.1.1 e.1.2.1 e.1.2.2.1 e.1.2.2.2.1 e.1.2.2.2.2.1 e.1.2.2.2.2.2.1 e.1.2.2.2.2.2.2.1 e.1.2.2.2.2.2.2.2))else(if o.2.1=13 then((F.eA k).bind λf=>(F.dc f.1.1 f.1.2.1 f.1.2.2.1 f.1.2.2.2.1 f.1.2.2.2.2.1 f.1.2.2.2.2.2.1 f.1.2.2.2.2.2.2.1 f.1.2.2.2.2.2.2.2))else(if o.2.1=14 then((F.eX k).bind λh=>(F.dc h.1.1 h.1.2.1 h.1.2.2.1 h.1.2.2.2.1 h.1.2.2.2.2.1 h.1.2.2.2.2.2.1 h.1.2.2.2.2.2.2.1 h.1.2.2.2.2.2.2.2))else(F.dc a.1.1 a.1.2.1 a.1.2.2.1 a.1.2.2.2.1 a.1.2.2.2.2.1 a.1.2.2.2.2.2.1 a.1.2.2.2.2.2.2.1 a.1.2.2.2.2.2.2.2))))
def eqq_R08_within:True:=(λ_=>trivial) @F.dY.eq_1
def F.dZ (e:(List D220)->Int->Option (List D220))(a:Int)(f:List D220):Option (List D220):=A.gd (Z.R64 (a+1)) (e f (a+1))
def F.eu (a:(List D220)->Int->Option (List D220))(e:Int)(f:List D220):Option (List D220):=F.dZ a e f
def F.ev (e:(List D220)->Int->Option (List D220))(a:Int)(f:List D220):Option (List D220):=A.gd (Z.R64 (a+1)) (e f (a+1))
def F.cx (s:(List D220)->Int->Option (List D220))(h:D23)(k:D181)(t:D64×Bool)(o:D218×Int)(a:Int):Nat->(List D220)->Int->Option (List D220)
 |0,_,_=>none
 |f+1,p,e=>(A.ix h a).bind λw=>(if e<(w.2.2.1.length:Int)then((A.ix h a).bind λx=>((A.ix x.2.2.1 e).bind λy=>(if y=t.1.1 then((A.ix h a).bind λu=>(A.gd ((List.length (α:=D220) p+List.length (α:=D220) [(k.1,(u.1,e),o.1)])*96<=140737488355328) (F.ev (F.cx s h k t o a f) e (p++[(k.1,(u.1,e),o.1)]))))else(F.ev (F.cx s h k t o a f) e p))))else(A.gd (Z.R64 (a+1)) (s p (a+1))))
def F.c3 (e:(List D220)->Int->Option (List D220))(a:D23)(h:Int)(k:D181)(o:D64×Bool)(p:D218×Int):Nat->(List D220)->Int->Option (List D220)
 |0,_,_=>none
 |f+1,s,t=>if t<(a.length:Int)then(F.cx (F.c3 e a h k o p f) a k o p t A.FU s 0)else(F.dZ e h s)
def F.cy (h:D23)(a:(List D181)):Nat->(List D220)->Int->Option (List D220)
 |0,_,_=>none
 |f+1,k,e=>if e<(a.length:Int)then((A.ix a e).bind λo=>((F.et h o.1.1).bind λp=>(if o.1.2≠2 then(if p.1.2.1≠15 then((A.ix a e).bind λt=>((F.dY p.1 t.2).bind λs=>(A.gd ((List.length (α:=D220) k+List.length (α:=D220) [(o.1,(p.1.1,2),s)])*96<=140737488355328) (F.eu (F.cy h a f) e (k++[(o.1,(p.1.1,2),s)])))))else(F.eu (F.cy h a f) e k))else((A.ix a e).bind λu=>((F.eZ u.2).bind λw=>(F.c3 (F.cy h a f) h e o p w A.FU k 0))))))else(some k)
def F.eB (a:D23)(e:(List D181)):Option (List D220):=F.cy a e A.FU [] 0
def F.eh (e:(List D181))(h:D36):Nat->Int->Option Int
 |0,_=>none
 |f+1,a=>if a<(e.length:Int)then((A.ix e a).bind λk=>(if k.1=h then((A.ix e a).bind λo=>(some o.2))else(A.gd (Z.R64 (a+1)) ((F.eh e h f) (a+1)))))else(some (-1))
def F.e4 (a:(List D181))(e:D36):Option Int:=F.eh a e A.FU 0
def F.ew (h:D23)(k:(List D181))(a:D220)(e:Int):Option Bool:=(F.et h a.1.1).bind λf=>((F.e4 k a.2.1).bind λo=>(if e<=o then(some (bif bif decide (f.1.2.1≠14)then true else decide (f.1.2.2.2.2.2.2≠e)then true else decide (a.1.2=2)))else(some false)))
def eqq_R08_open:True:=(λ_=>trivial) @F.ew.eq_1
def F.ei (e:(List D36))(h:D36):Nat->Int->Option Bool
 |0,_=>none
 |f+1,a=>if a<(e.length:Int)then((A.ix e a).bind λk=>(if k=h then(some true)else(A.gd (Z.R64 (a+1)) ((F.ei e h f) (a+1)))))else(some false)
def F.eS (a:(List D36))(e:D36):Option Bool:=F.ei a e A.FU 0
def F.ex (e:(List D36)->(List D36)->Int->Option Bool)(a:Int)(f:List D36)(h:List D36):Option Bool:=A.gd (Z.R64 (a+1)) (e f h (a+1))
def F.dB (h:(List D36)->(List D36)->Int->Option Bool)(k:(List D220))(e:List D36)(f:List D36)(a:Int)(s:Bool):Option Bool:=if s=true then((A.ix k a).bind λo=>(A.gd ((List.length (α:=D36) e+List.length (α:=D36) [o.2.1])*16<=140737488355328) ((A.ix k a).bind λp=>(A.gd ((List.length (α:=D36) f+List.length (α:=D36) [p.2.1])*16<=140737488355328) (F.ex h a (e++[o.2.1]) (f++[p.2.1]))))))else(F.ex h a e f)
def eqq_R08_round_j2:True:=(λ_=>trivial) @F.dB.eq_1
def F.bu (p:(List D36)->(List D36)->Int->Option Bool)(s:D23)(t:(List D181))(a:(List D220))(u:D181)(h:Int):Nat->(List D36)->(List D36)->Int->Option Bool
 |0,_,_,_=>none
 |f+1,k,o,e=>if e<(a.length:Int)then((A.ix a e).bind λw=>((A.ix o h).bind λx=>(if w.1=x then((A.ix a e).bind λy=>((F.ew s t y u.2).bind λz=>(if z=true then((A.ix a e).bind λB=>((F.eS k B.2.1).bind λE=>(F.dB (F.bu p s t a u h f) a k o e (!E))))else(F.dB (F.bu p s t a u h f) a k o e false))))else(F.dB (F.bu p s t a u h f) a k o e false))))else(A.gd (Z.R64 (h+1)) (p k o (h+1)))
def F.d0 (e:D23)(h:(List D181))(k:(List D220))(a:D181):Nat->(List D36)->(List D36)->Int->Option Bool
 |0,_,_,_=>none
 |f+1,o,p,s=>if s<(p.length:Int)then(F.bu (F.d0 e h k a f) e h k a s A.FU o p 0)else((F.eS o a.1).bind λt=>(some t))
def F.eC (e:D23)(f:(List D181))(h:(List D220))(a:D181):Option Bool:=F.d0 e f h a A.FU [] [a.1] 0
def F.c4 (h:D23)(k:(List Int)×Bool)(o:(List Int)×Bool)(a:(List D181))(p:(List D220)):Nat->Int->Option ((List Int)×(List Int)×Int)
 |0,_=>none
 |f+1,e=>if e<(a.length:Int)then((A.ix a e).bind λs=>((F.eC h a p s).bind λt=>(if t=true then(some ([],[],81))else(A.gd (Z.R64 (e+1)) ((F.c4 h k o a p f) (e+1))))))else(some (k.1,o.1,0))
def F.ej (a:D23):Option ((List Int)×(List Int)×Int):=(F.eO a).bind λh=>(if h≠0 then(some ([],[],h))else((F.eg a).bind λe=>(if(!e.2)=true then(some ([],[],81))else((F.dW a e.1).bind λf=>(if(!f.2)=true then(some ([],[],80))else((F.eQ a f.1).bind λk=>((F.eB a k).bind λo=>(F.c4 a e f k o A.FU 0))))))))
def eqq_R08_whole:True:=(λ_=>trivial) @F.ej.eq_1
def F.e3 (a:D23):Option Int:=(F.ej a).bind λe=>(some e.2.2)
end Go.Proofs.YtpoabedecgeamaaGreatDoor
end
section
end
section
namespace Go.A
open Go.RowKit Go.Z Go.Shelf Go.Proofs Go.Lib
def Hall (W:World):List (Nat×Res)->Prop
 | []=>True
 |p::H=>(p.2.bl=[]/\p.2.ref=none/\p.2.holds W (λ_=>True) (λ_ _=>False))/\Hall W H
def Hall.at {W:World}: ∀{H:List (Nat×Res)} {k:Nat} {r:Res},Hall W H->hk H k=some r->r.bl=[]/\r.ref=none/\r.holds W (λ_=>True) (λ_ _=>False)
 | [],_,_,_,h=>by cases h
 |(d,u)::H,k,r,J,h=>by
  rw[Qaa]at h;split at h;injection h with h;subst h;exact J.1
  exact J.2.at h
def Hp.start {W:World}{H:List (Nat×Res)}(h:Hall W H):Hp ⟨0,[],W,[],λ_=>True⟩ H W:=by
 have J: ∀k b,¬Bk H k b:=λk b ⟨r,V,N⟩=>by rw[(h.at V).1]at N;cases N
 refine⟨Ch.refl W,λk r hk=>?_,λk b L=>(J k b L).elim,λk k' b L=>(J k b L).elim,λk r j hk O=>?_⟩;exact Res.to (S:=[]) (h.at hk).2.2 (Ch.refl W) (λb _ _=>⟨by simp,λk=>J k b,.inl trivial⟩) (λb _ _=>⟨by simp,λk=>J k b⟩) (λi b _ Y=>Y.elim) (by simp);rw[(h.at hk).2.1]at O;cases O
def Hall.sh {W:World}{t:Ty}{cs:List Value}{x:t.den}{F:Nat->Prop}(h:t.rep W F cs x):(Res.sh t cs x).bl=[]/\(Res.sh t cs x).ref=none/\(Res.sh t cs x).holds W (λ_=>True) (λ_ _=>False):=
 ⟨rfl,rfl,rep_as h λ_ _ _=>trivial⟩
def Hall.ln {W:World}{t:Ty}{A:Option Addr}{c n:Nat}{xs:List t.den}{F:Nat->Prop}(h:(Ty.slice t).rep W F [.slice A xs.length c] xs):(Res.ln t A c xs).bl=[]/\(Res.ln t A c xs).ref=none/\(Res.ln t A c xs).holds W (λ_=>True) (λ_ _=>False):=
 ⟨rfl,rfl,Row.to (S:=[]) (Row.of h) (Ch.refl W) (λ_ _ _=>⟨by simp,trivial⟩) (λ_ _ _=>⟨by simp,λ_ h=>h⟩)⟩
def putCells (cs:List Value):Obj->Obj
 | .cells _ t frozen=>.cells cs.toArray t frozen
 |o=>o
def tab_cells {w:World}{O V:Nat}(h:Lib.Utf8Tabs O V w):Cells w ⟨O,0,none⟩ tabF/\Cells w ⟨V,0,none⟩ tabA:=by
 constructor;intro j u J;rw[Addr.add_lit,Xf];have N:j<256:=by have:=(Qe.1 J).1;simpa[tabF] using this
 have e:tabF[j]?=some (.int .u8 (firstT j)):=by simp[tabF,N]
 rw[e]at J;injection J with J;subst J
 exact h.1 j N;intro j u J;rw[Addr.add_lit,Xf];have N:j<32:=by have:=(Qe.1 J).1;simpa[tabA] using this
 have e:tabA[j]?=some (.int .u8 (if j%2=0 then accLo (j / 2)else accHi (j / 2))):=by simp[tabA,N]
 rw[e]at J;injection J with J;subst J
 have:=h.2 (j / 2) (by omega);by_cases W:j%2=0;rw[Qc W];have L:j=2*(j / 2):=by omega
 rw[L];simpa using this.1;rw[Qb W];have L:j=2*(j / 2)+1:=by omega
 have Y:(2*(j / 2)+1) / 2=j / 2:=by omega
 rw[L,Y];exact this.2
def Hall.tabs {w:World}{J L i j:Nat}(h:Lib.Utf8Tabs J L w):Hall w [(i,.el none J 0 tabF),(j,.el none L 0 tabA)]:=by
 obtain⟨N,O⟩:=tab_cells h;exact⟨⟨rfl,rfl,N,World.block_lt_of_cell? w _ (N 0 (.int .u8 (firstT 0)) (by simp[tabF])),λ_ h=>h⟩,⟨rfl,rfl,O,World.block_lt_of_cell? w _ (O 0 (.int .u8 (accLo 0)) (by simp[tabA])),λ_ h=>h⟩,trivial⟩
end Go.A
end
section
namespace Go.Graph
abbrev Fun:=Int×Int×ByteArray
abbrev Nd:=Int×Int×List Int×Fun×ByteArray×Int×Int
abbrev Pl:=Int×Int
abbrev Sp:=Pl×Int
abbrev id (x:Nd):Int:=x.1
abbrev kind (x:Nd):Int:=x.2.1
abbrev fn (x:Nd):Fun:=x.2.2.2.1
abbrev name (x:Nd):ByteArray:=x.2.2.2.2.1
abbrev cap (x:Nd):Int:=x.2.2.2.2.2.1
abbrev dep (x:Nd):Int:=x.2.2.2.2.2.2
def Few (g:List Nd):Prop:=g.length<=40/\∀x,x∈g->x.2.2.1.length<=5000/\x.2.2.2.2.1.size<=5000/\x.2.2.2.1.2.2.size<=5000
def Few.in {g:List Nd}{k:Nat}{x:Nd}(h:Few g)(J:g[k]?=some x):x.2.2.1.length<=5000:=(h.2 x (Qg J)).1
def insK (k:Int):Int:=if k<1\/16<k then-1 else if k=1 then 0 else if k=5\/k=9 then 2 else 1
def Qaw (c:UInt8):Bool:=decide ((97:Int)<=(c.toNat:Int)/\(c.toNat:Int)<=122\/(65:Int)<=(c.toNat:Int)/\(c.toNat:Int)<=90)
def Qgk (c:UInt8):Bool:=decide ((48:Int)<=(c.toNat:Int)/\(c.toNat:Int)<=57)
def Qcy (l:List UInt8):Bool:=l.all λc=>Qaw c||Qgk c
def named (s:ByteArray):Bool:=decide (s≠ByteArray.mk #[])&&decide ((s.size:Int)<=16)&&Qaw (Z.bat s 0)&&Qcy s.data.toList
def Qgn {s:ByteArray}{i:Nat}(h:i<s.size):s.data.toList.drop i=Z.bat s i::s.data.toList.drop (i+1):=by
 have h':i<s.data.toList.length:=by simpa using h
 rw[Xn h'];have J:i<s.data.size:=h;congr 1;simp[Z.bat,X1 J]
def Qgl {s:ByteArray}{i:Nat}(h: ¬i<s.size):s.data.toList.drop i=[]:=
 Wg (by have J:s.data.toList.length=s.size:=rfl;omega)
def Qfq {s:ByteArray}(h:s≠ByteArray.mk #[]):0<s.size:=by
 rcases Nat.eq_zero_or_pos s.size with h0|h0
 have J:s.data=#[]:=Array.eq_empty_of_size_eq_zero h0;exact absurd (by cases s;simp_all) h;exact h0
def idxF (id:Int):Nat->List Nd->Int
 |_,[]=> -1
 |k,x::r=>if x.1=id then(k:Int)else idxF id (k+1) r
def idx (g:List Nd)(id:Int):Int:=idxF id 0 g
def Qcq (kd:Int)(s:ByteArray):List Nd->Int×Bool
 | []=>(0,false)
 |x::r=>if kind x=kd/\name x=s then(x.1,true)else Qcq kd s r
def z0:Nd:=(0,0,[],(0,0,ByteArray.mk #[]),ByteArray.mk #[],0,0)
def at_ (g:List Nd)(i:Int):Nd:=(g[i.toNat]?).getD z0
def find (g:List Nd)(id:Int):Nd×Bool:=if idx g id<0 then(z0,false)else(at_ g (idx g id),true)
def idxF_le (id:Int): ∀(k:Nat) (g:List Nd),-1<=idxF id k g/\idxF id k g<k+g.length
 |k,[]=>by simp[idxF];omega
 |k,x::r=>by
  unfold idxF;have:=idxF_le id (k+1) r;by_cases h:x.1=id;rw[Qc h];simp only[Qi];omega;rw[Qb h];simp only[Qi];omega
def idx_le (g:List Nd)(id:Int): -1<=idx g id/\idx g id<g.length:=by
 have:=idxF_le id 0 g;unfold idx;omega
def Qbg {g:List Nd}{i:Int}{x:Nd}{k:Nat}(hk:i=(k:Int))(h:g[k]?=some x):at_ g i=x:=by
 subst hk;simp[at_,h]
def ownT (g:List Nd)(n:Nd):Bool:=if n.2.1≠1/\n.2.1≠15 then decide (n.2.2.2.2.1=ByteArray.mk #[])else named n.2.2.2.2.1&&decide ((Qcq n.2.1 n.2.2.2.2.1 g).1=n.1)
def ownC (n:Nd):Prop:=n.2.1=14/\(n.2.2.2.2.2.1<1\/8<n.2.2.2.2.2.1\/n.2.2.2.2.2.2<1\/4<n.2.2.2.2.2.2)\/n.2.1≠14/\(n.2.2.2.2.2.1≠0\/n.2.2.2.2.2.2≠0)
instance (n:Nd):Decidable (ownC n):=by unfold ownC;infer_instance
def own (g:List Nd)(i:Int)(n:Nd):Bool:=
 if n.1<1\/255<n.1\/0<i/\n.1<=(at_ g (i-1)).1\/insK n.2.1<0\/(n.2.2.1.length:Int)≠insK n.2.1 then false else if ownC n then false else ownT g n
def bget (l:List Bool)(i:Int):Bool:=(l[i.toNat]?).getD false
def iget (l:List Int)(i:Int):Int:=(l[i.toNat]?).getD 0
def Fed (g:List Nd):Prop:=∀x,x∈g->∀k,k∈x.2.2.1->0<=idx g k
def Qhf (g:List Nd)(done:List Bool)(kd:Int):List Int->Bool
 | []=>true
 |k::r=>if kd≠14/\bget done (idx g k)=false then false else Qhf g done kd r
def ready (g:List Nd)(done:List Bool)(n:Nd):Bool:=Qhf g done n.2.1 n.2.2.1
def Qah (g:List Nd)(done:List Bool):Nat->List Nd->Int->Int
 |_,[],a=>a
 |i,x::r,a=>Qah g done (i+1) r (if(a<0/\bget done i=false)/\ready g done x=true then i else a)
def Qbz (g:List Nd):Nat->List Bool->List Int->Option (List Int)
 |0,_,l=>some l
 |f+1,done,l=>if Qah g done 0 g (-1)<0 then none else Qbz g f (done.set (Qah g done 0 g (-1)).toNat true) (l++[Qah g done 0 g (-1)])
def d0:List Int->Int
 | []=>0
 |a::_=>a
def capd (d:Int):Int:=if 4<d then-1 else d
def Qha (n:Nd)(l:List Int):Int:=if n.2.1=14 then n.2.2.2.2.2.2 else if n.2.1=12 then d0 l+1 else if n.2.1=13 then d0 l-1 else
 if n.2.1=5\/n.2.1=9 then(if iget l 0≠iget l 1 then-1 else d0 l)else if n.2.1=11\/n.2.1=16\/n.2.1=15 then(if d0 l≠0 then-1 else d0 l)else d0 l
def depthOf (n:Nd)(l:List Int):Int:=capd (Qha n l)
def d0_iget {l:List Int}:iget l 0=d0 l:=by cases l<;>rfl
def d0_nil {l:List Int}(h:l.length=0):0=d0 l:=by cases l with
 |nil=>rfl
 |cons a r=>simp at h
def Qba (g:List Nd):List Int->List Int->Option (List Int)
 | [],d=>some d
 |p::r,d=>if depthOf (at_ g p) ((at_ g p).2.2.1.map λk=>iget d (idx g k))<0 then none else Qba g r (d.set p.toNat (depthOf (at_ g p) ((at_ g p).2.2.1.map λk=>iget d (idx g k))))
def Qbp (g:List Nd)(d:List Int):List Nd->Bool
 | []=>true
 |x::r=>if x.2.1=14/\iget d (idx g (iget x.2.2.1 0))≠x.2.2.2.2.2.2 then false else Qbp g d r
def Qet (g:List Nd)(done:List Bool): ∀(i:Nat) (l:List Nd) (a:Int),-1<=a->a<i+l.length-> -1<=Qah g done i l a/\Qah g done i l a<i+l.length
 |i,[],a,L,J=>by simp[Qah]at*;omega
 |i,x::r,a,L,J=>by
  unfold Qah;simp only[Qi]at J ⊢;have:=Qet g done (i+1) r (if(a<0/\bget done i=false)/\ready g done x=true then i else a) (by split<;>omega) (by split<;>omega);omega
def depths (g:List Nd)(l:List Int):List Int×Bool:=match Qba g l (List.replicate g.length 0)with
 |some d=>if Qbp g d g then(d,true)else([],false)
 |none=>([],false)
abbrev inD (g:List Nd) (d:List Int) (l:List Int):List Int:=l.map λk=>iget d (idx g k)
def InB (d:List Int):Prop:=∀i,0<=iget d i/\iget d i<=4
def InB.rep (n:Nat):InB (List.replicate n 0):=λi=>by
 unfold iget;rw[Yh];split<;>simp
def Qfp (n:Nd)(l:List Int):depthOf n l<=4:=by unfold depthOf capd;split<;>omega
def InB.set {d:List Int}(h:InB d)(p:Nat){v:Int}(h0:0<=v)(J:v<=4):InB (d.set p v):=λi=>by
 unfold iget;rw[List.getElem?_set];have:=h i;unfold iget at this;split;split<;>simp<;>omega;exact this
def InB.d0 {d:List Int}(h:InB d)(g:List Nd)(l:List Int): -1<=Graph.d0 (inD g d l)/\Graph.d0 (inD g d l)<=4:=by
 cases l with
 |nil=>simp[Graph.d0]
 |cons k r=>have:=h (idx g k);simp only[inD,Q0,Graph.d0];omega
def inD_take {g:List Nd}{d l:List Int}{k:Nat}{x:Int}(h:l[k]?=some x):inD g d (l.take k)++[iget d (idx g x)]=inD g d (l.take (k+1)):=by
 have J:=(Qe.1 h);rw[List.take_add_one,h];simp[inD]
def insS (g:List Nd)(d:List Int)(id:Int):Nat->List Int->List Sp
 |_,[]=>[]
 |k,x::r=>((id,(k:Int)),iget d (idx g x))::insS g d id (k+1) r
def outS (n:Nd)(v:Int):List Sp:=if n.2.1≠15 then [((n.1,2),v)]else []
def spotsF (g:List Nd)(d:List Int):Nat->List Nd->List Sp
 |_,[]=>[]
 |i,n::r=>insS g d n.1 0 n.2.2.1++(outS n (iget d i)++spotsF g d (i+1) r)
def spots (g:List Nd)(d:List Int):List Sp:=spotsF g d 0 g
def atS (p:Pl):List Sp->Int
 | []=> -1
 |x::r=>if x.1=p then x.2 else atS p r
abbrev Sm:=Int×Int×Int×Int×(Int×Int×Int×Int)
def z8:Sm:=(0,0,0,0,(0,0,0,0))
def stepP (d a b:Int)(s:Sm):Sm×Int:=if d<a\/b<d then(z8,11)else((d,s.2),0)
def idP (d:Int):Sm×Int:=stepP d 0 4 (0,d,0,0,(0,0,0,0))
def Qht (d:Int):Sm×Int:=stepP d 0 3 (0,d,0,1,(0,0,0,0))
def Qhj (d:Int):Sm×Int:=stepP d 1 4 (0,d-1,0,0,(0,0,0,0))
def nextP (d:Int):Sm×Int:=stepP d 1 4 (0,d,1,0,(0,0,0,0))
def Qct (n:Nd)(d:Int):Sm:=if n.2.1=12 then(Qht d).1 else if n.2.1=13 then(Qhj d).1 else if n.2.1=14 then(nextP d).1 else(idP d).1
def Qgw (s:ByteArray)(pos:Nat):1<=(Utf8.decode s pos).2:=by
 unfold Utf8.decode;simp only[];repeat' split
 all_goals first|exact Q3 1|(simp;done)|omega
def Qcx (f:Fun):Bool:=if f.1=3\/f.1=13 then decide (0<=f.2.1/\f.2.1<=64)else if f.1=6\/f.1=11 then decide (1<=f.2.1/\f.2.1<=1048576)else decide (f.2.1=0)
def tail5 (c:UInt8):Bool:=decide (128<=(c.toNat:Int)/\(c.toNat:Int)<=191)
end Go.Graph
end
section
namespace Go.A
open Go.Z
def r64n {n:Nat}(h:n<4611686018427387904):R64 ((n:Int)+1):=⟨by omega,by omega⟩
def gd1 {α:Type}{p:Prop}[Decidable p](h:p)(x:Option α):gd p x=x:=Qc h
def ixn {α:Type}{xs:List α}{k:Nat}{x:α}(h:xs[k]?=some x):ix xs (k:Int)=some x:=by rw[ix_nat];exact h
def ixg {α:Type}{xs:List α}{i:Int}{x:α}(h0:0<=i)(h:xs[i.toNat]?=some x):ix xs i=some x:=by unfold ix;rw[Qb (by omega)];exact h
def dropx {α:Type}{xs:List α}{k:Nat}{x:α}(h:xs[k]?=some x):xs.drop k=x::xs.drop (k+1):=by
 obtain⟨J,L⟩:=Qe.1 h;rw[Xn J,L]
def ba {p q:Prop}[Decidable p][Decidable q]:(bif decide p then decide q else false)=decide (p/\q):=by by_cases h:p<;>simp[h]
def bo {p q:Prop}[Decidable p][Decidable q]:(bif decide p then true else decide q)=decide (p\/q):=by by_cases h:p<;>simp[h]
def bn {p:Prop}[Decidable p]:(!decide p)=decide (¬p):=by by_cases h:p<;>simp[h]
def lp {α σ ρ:Type}(xs:List α)(L:Nat->σ->Int->Option ρ)(G:Nat->List α->σ->Option ρ)(P:Nat->σ->Prop)
  (h0: ∀f s,P xs.length s->L (f+1) s (xs.length:Int)=G xs.length [] s)
  (N: ∀f s (k:Nat) x,xs[k]?=some x->k<xs.length->P k s->(∀s',P (k+1) s'->L f s' ((k:Int)+1)=G (k+1) (xs.drop (k+1)) s')->L (f+1) s k=G k (x::xs.drop (k+1)) s)
  (O:xs.length<FU) (s:σ) (V:P 0 s):L FU s 0=G 0 xs s:=by
 have main: ∀(n k f:Nat) (s:σ),k+n=xs.length->n<f->P k s->L f s (k:Int)=G k (xs.drop k) s:=by
  intro n;induction n with
  |zero=>
   intro k f s hk W hp;obtain⟨f,rfl⟩: ∃f',f=f'+1:=⟨f-1,by omega⟩;obtain rfl:k=xs.length:=by omega
   rw[Wg (Q3 _)];exact h0 f s hp
  |succ n Y=>
   intro k f s hk W hp;obtain⟨f,rfl⟩: ∃f',f=f'+1:=⟨f-1,by omega⟩;have J:xs[k]?=some xs[k]:=Qf (by omega);rw[dropx J];exact N f s k _ J (by omega) hp λs' hp'=>Y (k+1) f s' (by omega) (by omega) hp'
 have:=main xs.length 0 FU s (by omega) O V;simpa using this
def lp0 {α ρ:Type}(xs:List α)(L:Nat->Int->Option ρ)(G:Nat->List α->Option ρ)
  (h0: ∀f,L (f+1) (xs.length:Int)=G xs.length [])
  (J: ∀f (k:Nat) x,xs[k]?=some x->k<xs.length->L f ((k:Int)+1)=G (k+1) (xs.drop (k+1))->L (f+1) k=G k (x::xs.drop (k+1)))
  (N:xs.length<FU):L FU 0=G 0 xs:=
 lp xs (λf (_:Unit) y=>L f y) (λk l _=>G k l) (λ_ _=>True) (λf s _=>h0 f) (λf s k x O hk _ V=>J f k x O hk (V () trivial)) N () trivial
end Go.A
namespace Go.Proofs.YtpoabedecgeamaaGreatDoor
open Go.RowKit Go.Graph
def Qab:(18446744073709551616:Nat)<A.FU:=by decide
def ixb {s:ByteArray}{k:Nat}(h:k<s.size):A.ix s.data.toList (k:Int)=some (Z.bat s k):=by
 refine A.ixn ?_;have:=Qgn h;rw[<-List.head?_drop,this];rfl
def Qdz (s:ByteArray):s.data.toList.length=s.size:=rfl
end Go.Proofs.YtpoabedecgeamaaGreatDoor
end
section
namespace Go.Codec
def fm_take {α β:Type}(f:α->List β){xs:List α}{k:Nat}{x:α}(h:xs[k]?=some x):(xs.take (k+1)).flatMap f=(xs.take k).flatMap f++f x:=by
 rw[Xk (Qe.1 h).1,List.flatMap_append,(Qe.1 h).2];simp
def fm_le {α β:Type}(f:α->List β)(xs:List α)(k:Nat):((xs.take k).flatMap f).length<=(xs.flatMap f).length:=by
 have J:xs.flatMap f=(xs.take k).flatMap f++(xs.drop k).flatMap f:=by rw[<-List.flatMap_append,Xo]
 rw[J,Qd];omega
def fm_len {α β:Type}(f:α->List β)(m:Nat): ∀xs:List α,(∀x∈xs,(f x).length<=m)->(xs.flatMap f).length<=m*xs.length
 | [],_=>by simp
 |x::xs,h=>by
  have L:=h x (Qj ..);have N:=fm_len f m xs λy J=>h y (Qh _ J);rw[List.flatMap_cons,Qd,Qi,Nat.mul_succ];omega
def ints_len (xs:List Int):(xs.flatMap encInt).length<=9*xs.length:=fm_len _ _ xs λx _=>(encInt_length x).2
def Qbj (s:ByteArray):Prop:=s.size<=65536
def gFn (f:Fn):Prop:=Qbj f.2.2
def gNode (n:Node):Prop:=n.2.2.1.length<=65536/\gFn n.2.2.2.1/\Qbj n.2.2.2.2.1
def gMove (m:Move):Prop:=gFn m.2.2.2.2
def Qip {α:Type}(g:α->Prop)(l:List α):Prop:=l.length<=65536/\∀a∈l,g a
def gDelta (d:Delta):Prop:=d.1.length<=65536/\Qip gNode d.2.1/\Qip gMove d.2.2
def gRec (r:Rec):Prop:=Qbj r.2
def Qea (x:Entry):Prop:=Qbj x.2.2.1
def gMsg (m:Msg):Prop:=Qip gRec m.2.2.2.2.1/\m.2.2.2.2.2.1.length<=65536/\gDelta m.2.2.2.2.2.2.1/\Qip Qea m.2.2.2.2.2.2.2.2.1
instance decTail:DecidableEq (List Entry×Bool×Int):=inferInstance
instance decDelta:DecidableEq Delta:=inferInstance
instance decRest:DecidableEq (List Change×Delta×Int×List Entry×Bool×Int):=inferInstance
instance decMsg:DecidableEq Msg:=inferInstance
def text_len (s:ByteArray):(Qaq s).length<=9+s.size:=by
 have:=(encInt_length (s.size:Int)).2;have J:s.data.toList.length=s.size:=rfl;unfold Qaq;rw[Qd,J];omega
def Qay {α:Type}(f:α->Bytes)(m:Nat)(xs:List α)(h: ∀x∈xs,(f x).length<=m):(Qac f xs).length<=9+m*xs.length:=by
 have:=(encInt_length (xs.length:Int)).2;have:=fm_len f m xs h;unfold Qac;rw[Qd];omega
def sNode (n:Node):Prop:=n.2.2.1.length<=5000/\n.2.2.2.1.2.2.size<=5000/\n.2.2.2.2.1.size<=5000
def sMsg (x:Msg):Prop:=
 (x.2.2.2.2.1.length<=200/\∀a∈x.2.2.2.2.1,a.2.size<=9000)/\x.2.2.2.2.2.1.length<=200/\(x.2.2.2.2.2.2.2.2.1.length<=200/\∀a∈x.2.2.2.2.2.2.2.2.1,a.2.2.1.size<=9000)/\
 (x.2.2.2.2.2.2.1.2.2.length<=200/\∀a∈x.2.2.2.2.2.2.1.2.2,a.2.2.2.2.2.2.size<=9000)/\x.2.2.2.2.2.2.1.1.length<=200/\x.2.2.2.2.2.2.1.2.1.length<=40/\∀a∈x.2.2.2.2.2.2.1.2.1,sNode a
def fn_len (f:Fn):(Qeu f).length<=27+f.2.2.size:=by
 have J:=(encInt_length f.1).2;have L:=(encInt_length f.2.1).2;have N:=text_len f.2.2;unfold Qeu;simp only[Qd];omega
def node_len (n:Node)(h:sNode n):(Qaj n).length<=60000:=by
 obtain⟨J,L,N⟩:=h;have e1:=(encInt_length n.1).2;have e2:=(encInt_length n.2.1).2;have e3:=(encInt_length n.2.2.2.2.2.1).2;have e4:=(encInt_length n.2.2.2.2.2.2).2;have O:=Qay encInt 9 n.2.2.1 λx _=>(encInt_length x).2;have V:=fn_len n.2.2.2.1;have W:=text_len n.2.2.2.2.1;unfold Qaj;simp only[Qd];omega
def change_len (c:Change):(Qaf c).length<=90:=by
 have e1:=(encInt_length c.1.1).2;have e2:=(encInt_length c.1.2).2;have e3:=(encInt_length c.2.1.1).2;have e4:=(encInt_length c.2.1.2.1).2;have J:=(encInt_length c.2.1.2.2.1).2;have L:=(encInt_length c.2.1.2.2.2.1).2;have N:=(encInt_length c.2.1.2.2.2.2.1).2;have O:=(encInt_length c.2.1.2.2.2.2.2).2;have V:=(encInt_length c.2.2).2;unfold Qaf Qas Qaz Qhp;simp only[Qd];omega
def sMsg_g {x:Msg}(h:sMsg x):gMsg x/\(Qbq x).length<=70368744177664:=by
 obtain⟨⟨V,L⟩,c1,⟨n1,N⟩,⟨W,O⟩,Y,d1,d2⟩:=h;refine⟨⟨⟨by omega,λa J=>?_⟩,by omega,⟨by omega,⟨by omega,λa J=>?_⟩,by omega,λa J=>?_⟩,by omega,λa J=>?_⟩,?_⟩;have:=L a J;unfold gRec Qbj;omega;obtain⟨p1,p2,p3⟩:=d2 a J;exact⟨by omega,by unfold gFn Qbj;omega,by unfold Qbj;omega⟩;have:=O a J;unfold gMove gFn Qbj;omega;have:=N a J;unfold Qea Qbj;omega;have e1:=(encInt_length x.1).2;have e2:=(encInt_length x.2.1).2;have e3:=(encInt_length x.2.2.1.1).2;have e4:=(encInt_length x.2.2.1.2).2;have e5:=(encInt_length x.2.2.2.1.1).2;have e6:=(encInt_length x.2.2.2.1.2.1).2;have e7:=(encInt_length x.2.2.2.1.2.2.1).2;have e8:=(encInt_length x.2.2.2.1.2.2.2.1).2;have e9:=(encInt_length x.2.2.2.1.2.2.2.2.1).2;have e10:=(encInt_length x.2.2.2.1.2.2.2.2.2).2;have l1:=Qay Qbf 10000 x.2.2.2.2.1 λa J=>by
  have:=L a J;have:=text_len a.2;have:=(encInt_length a.1).2;unfold Qbf;rw[Qd];omega
 have l2:=Qay Qaf 90 x.2.2.2.2.2.1 λa _=>change_len a;have l3:=Qay encInt 9 x.2.2.2.2.2.2.1.1 λa _=>(encInt_length a).2;have l4:=Qay Qaj 60000 x.2.2.2.2.2.2.1.2.1 λa J=>node_len a (d2 a J);have l5:=Qay Qar 10000 x.2.2.2.2.2.2.1.2.2 λa J=>by
  have:=O a J;have:=fn_len a.2.2.2.2;have:=(encInt_length a.1).2;have:=(encInt_length a.2.1).2;have:=(encInt_length a.2.2.1).2;have:=(encInt_length a.2.2.2.1).2;unfold Qar;simp only[Qd];omega
 have l6:=Qay Qai 10000 x.2.2.2.2.2.2.2.2.1 λa J=>by
  have:=N a J;have:=text_len a.2.2.1;have:=(encInt_length a.1).2;have:=(encInt_length a.2.1).2;have:=(encInt_length a.2.2.2).2;unfold Qai;simp only[Qd];omega
 have e11:=(encInt_length x.2.2.2.2.2.2.2.1).2;have e12:=(encInt_length (b01 x.2.2.2.2.2.2.2.2.2.1)).2;have e13:=(encInt_length x.2.2.2.2.2.2.2.2.2.2).2;unfold Qbq Qas Qaz Qhp Qax;simp only[Qd];omega
def seen {α:Type}(f:α->Nat)(xs:List α)(u:Int):Prop:=u<1048576->∀a∈xs,(f a:Int)<=u
def seen_nil {α:Type}(f:α->Nat)(u:Int):seen f [] u:=λ_ a h=>by simp at h
def seen_step {α:Type}{f:α->Nat}{xs:List α}{k:Nat}{a:α}{u v:Int}(h:seen f (xs.take k) u)(L:xs[k]?=some a)(h0:0<=u)(O:min (u+min (f a:Int) 1048576) 1048576<=v):seen f (xs.take (k+1)) v:=λN b J=>by
 rw[Xk (Qe.1 L).1,(Qe.1 L).2]at J;rcases Qw.1 J with J|J
 have:=h (by omega) b J;omega;simp only[Qk]at J;subst J;omega
def seen_all {α:Type}{f:α->Nat}{xs:List α}{k n:Nat}{u:Int}{m:Nat}(h:seen f ((xs.take n).take k) u)(hk: ¬(k:Int)<((xs.take n).length:Int))(J:xs.length<=n)(N:u<=m)(O:m<1048576): ∀a∈xs,f a<=m:=λa L=>by
 rw[Q7 J]at hk h;rw[Q7 (by omega)]at h;have:=h (by omega) a L;omega
def intBody (n:Nat)(neg:Bool)(bs:Bytes):Int×Nat×Int:=
 if bs.length<=n then(0,0,71)
 else if 9223372036854775808<=val ((bs.drop 1).take n)then(0,0,70)
 else if encInt (if neg then-1-(val ((bs.drop 1).take n):Int)else(val ((bs.drop 1).take n):Int))=bs.take (n+1)then(if neg then-1-(val ((bs.drop 1).take n):Int)else(val ((bs.drop 1).take n):Int),n+1,0)
 else(0,0,70)
def takeI:Bytes->Int×Nat×Int
 | []=>(0,0,71)
 |b::r=>
  if b.toNat<50 then((b.toNat:Int)-50,1,0)else if b.toNat<100 then(0,0,70)else if b.toNat<=199 then((b.toNat:Int)-100,1,0)else if 215<b.toNat then(0,0,70)
  else if 207<b.toNat then intBody (b.toNat-207) true (b::r)else intBody (b.toNat-199) false (b::r)
def val_lt: ∀(l:Bytes),val l<256^l.length:=by
 intro l;have h: ∀(l:Bytes) (u:Nat),l.foldl (λu c=>u*256+c.toNat) u+1<=(u+1)*256^l.length:=by
  intro l;induction l with
  |nil=>intro u;simp
  |cons c l J=>
   intro u;have:=J (u*256+c.toNat);have L:=c.toNat_lt;rw[List.foldl_cons,Qi,Nat.pow_succ];refine Wq this ?_;rw[Y1 (256^l.length) 256,<-Nat.mul_assoc];exact Xg _ (by omega)
 have:=h l 0;unfold val;omega
def val_lt8 {l:Bytes}(h:l.length<=8):val l<18446744073709551616:=by
 have J:=val_lt l;have L:256^l.length<=256^8:=Nat.pow_le_pow_right (by decide) h;have N:(256:Nat)^8=18446744073709551616:=by decide
 omega
def val_lt7 {l:Bytes}(h:l.length<=7):val l*256+255<18446744073709551616:=by
 have J:=val_lt l;have L:256^l.length<=256^7:=Nat.pow_le_pow_right (by decide) h;have N:(256:Nat)^7=72057594037927936:=by decide
 omega
def val_take {l:Bytes}{k:Nat}{c:UInt8}(h:l[k]?=some c):val (l.take (k+1))=val (l.take k)*256+c.toNat:=by
 rw[Xk (Qe.1 h).1,val_snoc,(Qe.1 h).2]
def takeI_nil {bs:Bytes}(h:(bs.length:Int)=0):takeI bs=(0,0,71):=by
 have:bs=[]:=Qx (by omega);rw[this];rfl
section
variable {bs:Bytes}{b:UInt8}(h0:bs[0]?=some b)
include h0
def Qau:takeI bs=if b.toNat<50 then((b.toNat:Int)-50,1,0)else if b.toNat<100 then(0,0,70)else if b.toNat<=199 then((b.toNat:Int)-100,1,0)else if 215<b.toNat then(0,0,70)
  else if 207<b.toNat then intBody (b.toNat-207) true bs else intBody (b.toNat-199) false bs:=by
 cases bs with
 |nil=>simp at h0
 |cons c r=>simp at h0;subst h0;rfl
def takeI_low (h:(b.toNat:Int)<50):takeI bs=((b.toNat:Int)-50,1,0):=by rw[Qau h0,Qc (by omega)]
def takeI_gap (h: ¬(b.toNat:Int)<50)(J:(b.toNat:Int)<100):takeI bs=(0,0,70):=by rw[Qau h0,Qb (by omega),Qc (by omega)]
def takeI_mid (h: ¬(b.toNat:Int)<100)(J:(b.toNat:Int)<=199):takeI bs=((b.toNat:Int)-100,1,0):=by rw[Qau h0,Qb (by omega),Qb (by omega),Qc (by omega)]
def takeI_high (h:(215:Int)<b.toNat):takeI bs=(0,0,70):=by rw[Qau h0,Qb (by omega),Qb (by omega),Qb (by omega),Qc (by omega)]
def takeI_neg (h:(207:Int)<b.toNat)(J: ¬(215:Int)<b.toNat):takeI bs=intBody (b.toNat-207) true bs:=by rw[Qau h0,Qb (by omega),Qb (by omega),Qb (by omega),Qb (by omega),Qc (by omega)]
def takeI_pos (h: ¬(207:Int)<b.toNat)(J: ¬(b.toNat:Int)<=199):takeI bs=intBody (b.toNat-199) false bs:=by rw[Qau h0,Qb (by omega),Qb (by omega),Qb (by omega),Qb (by omega),Qb (by omega)]
end
def Qbv {n:Nat}{neg:Bool}{bs:Bytes}(h:bs.length<=n):intBody n neg bs=(0,0,71):=by unfold intBody;rw[Qc h]
def Qdg {n:Nat}{neg:Bool}{bs:Bytes}(h: ¬bs.length<=n)(J:9223372036854775808<=val ((bs.drop 1).take n)):intBody n neg bs=(0,0,70):=by unfold intBody;rw[Qb h,Qc J]
def Qdj {n:Nat}{neg:Bool}{bs:Bytes}{v:Int}(h: ¬bs.length<=n)(J:v=if neg then-1-(val ((bs.drop 1).take n):Int)else(val ((bs.drop 1).take n):Int))(L: ¬encInt v=bs.take (n+1)):intBody n neg bs=(0,0,70):=by
 unfold intBody;rw[Qb h];split;rfl;rw[<-J,Qb L]
def o_aR {n:Nat}{neg:Bool}{bs:Bytes}{v:Int}(h: ¬bs.length<=n)(J: ¬9223372036854775808<=val ((bs.drop 1).take n))(L:v=if neg then-1-(val ((bs.drop 1).take n):Int)else(val ((bs.drop 1).take n):Int))(N:encInt v=bs.take (n+1)):
  intBody n neg bs=(v,n+1,0):=by
 unfold intBody;rw[Qb h,Qb J,<-L,Qc N]
def takeI_err {bs:Bytes}:(takeI bs).2.2=0->1<=(takeI bs).2.1/\(takeI bs).2.1<=bs.length/\(takeI bs).2.1<=9/\okInt (takeI bs).1:=by
 cases bs with
 |nil=>intro h;simp[takeI]at h
 |cons b r=>
  intro h;have W:=b.toNat_lt;have body: ∀(n:Nat) (neg:Bool),n<=8->(intBody n neg (b::r)).2.2=0->1<=(intBody n neg (b::r)).2.1/\(intBody n neg (b::r)).2.1<=(b::r).length/\(intBody n neg (b::r)).2.1<=9/\okInt (intBody n neg (b::r)).1:=by
   intro n neg Y h;by_cases J:(b::r).length<=n;rw[Qbv J]at h;simp at h;by_cases N:9223372036854775808<=val (((b::r).drop 1).take n);rw[Qdg J N]at h;simp at h;by_cases L:encInt (if neg then-1-(val (((b::r).drop 1).take n):Int)else(val (((b::r).drop 1).take n):Int))=(b::r).take (n+1);rw[o_aR J N rfl L];refine⟨by simp,by simp only;omega,by simp only;omega,?_⟩;unfold okInt;cases neg;simp only[Qv,Q5];omega;simp only[Wx];omega;rw[Qdj J rfl L]at h;simp at h
  simp only[takeI]at h ⊢;split at h;rename_i J;simp only[Qc J,Qi];refine⟨by omega,by omega,by omega,?_⟩;unfold okInt;omega;rename_i J;rw[Qb J];split at h;simp at h;rename_i N;rw[Qb N];split at h;rename_i L;simp only[Qc L,Qi];refine⟨by omega,by omega,by omega,?_⟩;unfold okInt;omega;rename_i L;rw[Qb L];split at h;simp at h;rename_i V;rw[Qb V];split at h;rename_i O;rw[Qc O];exact body _ _ (by omega) h;rename_i O;rw[Qb O];exact body _ _ (by omega) h
def u8_mod (u:Nat):UInt8.ofNat (u%256)=UInt8.ofNat u:=UInt8.toNat_inj.1 (by simp)
def cutv {bs:Bytes}{m n:Nat}(h:m=n+1):(bs.take m).drop 1=(bs.drop 1).take n:=by subst h;rw[List.drop_take];rfl
def ba_mk {l m:Bytes}(h:ByteArray.mk l.toArray=ByteArray.mk m.toArray):l=m:=by
 injection h with h;exact List.toArray_inj h
def Qav (bs:Bytes):((takeI bs).2.2=0/\1<=(takeI bs).2.1/\(takeI bs).2.1<=bs.length/\(takeI bs).2.1<=9/\okInt (takeI bs).1)\/((takeI bs).2.2≠0/\(takeI bs).2.1=0/\(takeI bs).1=0):=by
 by_cases h:(takeI bs).2.2=0;exact .inl ⟨h,takeI_err h⟩;right;refine⟨h,?_⟩;have body: ∀n neg bs,(intBody n neg bs).2.2≠0->(intBody n neg bs).2.1=0/\(intBody n neg bs).1=0:=by
  intro n neg bs h;by_cases J:bs.length<=n;rw[Qbv J];exact⟨rfl,rfl⟩;by_cases L:9223372036854775808<=val ((bs.drop 1).take n);rw[Qdg J L];exact⟨rfl,rfl⟩;by_cases N:encInt (if neg then-1-(val ((bs.drop 1).take n):Int)else(val ((bs.drop 1).take n):Int))=bs.take (n+1);rw[o_aR J L rfl N]at h;exact absurd rfl h;rw[Qdj J rfl N];exact⟨rfl,rfl⟩
 cases bs with
 |nil=>exact⟨rfl,rfl⟩
 |cons b r=>
  simp only[takeI]at h ⊢;by_cases J:b.toNat<50;rw[Qc J]at h;exact absurd rfl h;rw[Qb J]at h ⊢;by_cases L:b.toNat<100;rw[Qc L];exact⟨rfl,rfl⟩;rw[Qb L]at h ⊢;by_cases N:b.toNat<=199;rw[Qc N]at h;exact absurd rfl h;rw[Qb N]at h ⊢;by_cases O:215<b.toNat;rw[Qc O];exact⟨rfl,rfl⟩;rw[Qb O]at h ⊢;by_cases V:207<b.toNat;rw[Qc V]at h ⊢;exact body _ _ _ h;rw[Qb V]at h ⊢;exact body _ _ _ h
def Qcl:ByteArray:=ByteArray.mk #[]
def takeT (bs:Bytes):ByteArray×Nat×Int:=
 if(takeI bs).2.2≠0 then(Qcl,0,(takeI bs).2.2)
 else if(takeI bs).1<0 then(Qcl,0,70)
 else if 65536<(takeI bs).1 then(Qcl,0,3)
 else if((bs.length:Int)-(takeI bs).2.1)<(takeI bs).1 then(Qcl,0,71)
 else(ByteArray.mk ((bs.drop (takeI bs).2.1).take (takeI bs).1.toNat).toArray,(takeI bs).2.1+(takeI bs).1.toNat,0)
def Qeo {bs:Bytes}(h:(takeI bs).2.2≠0):takeT bs=(Qcl,0,(takeI bs).2.2):=by unfold takeT;rw[Qc h]
def Qdo {bs:Bytes}(h: ¬(takeI bs).2.2≠0)(J:(takeI bs).1<0):takeT bs=(Qcl,0,70):=by unfold takeT;rw[Qb h,Qc J]
def Qer {bs:Bytes}(h: ¬(takeI bs).2.2≠0)(J:65536<(takeI bs).1):takeT bs=(Qcl,0,3):=by unfold takeT;rw[Qb h,Qb (by omega),Qc J]
def Qcc {bs:Bytes}(h: ¬(takeI bs).2.2≠0)(h0: ¬(takeI bs).1<0)(J: ¬65536<(takeI bs).1)(L:((bs.length:Int)-(takeI bs).2.1)<(takeI bs).1):takeT bs=(Qcl,0,71):=by unfold takeT;rw[Qb h,Qb h0,Qb J,Qc L]
def o_aY {bs:Bytes}(h: ¬(takeI bs).2.2≠0)(h0: ¬(takeI bs).1<0)(J: ¬65536<(takeI bs).1)(L: ¬((bs.length:Int)-(takeI bs).2.1)<(takeI bs).1):
  takeT bs=(ByteArray.mk ((bs.drop (takeI bs).2.1).take (takeI bs).1.toNat).toArray,(takeI bs).2.1+(takeI bs).1.toNat,0):=by unfold takeT;rw[Qb h,Qb h0,Qb J,Qb L]
def Qhe (bs:Bytes):((takeT bs).2.2=0/\1<=(takeT bs).2.1/\(takeT bs).2.1<=bs.length/\(takeT bs).1.size<=65536)\/((takeT bs).2.2≠0/\(takeT bs).2.1=0/\(takeT bs).1=Qcl):=by
 rcases Qav bs with⟨e0,e1,e2,e3,e4⟩|⟨e0,e1,e2⟩
 by_cases h0:(takeI bs).1<0;rw[Qdo (by omega) h0];right;exact⟨by simp,rfl,rfl⟩;by_cases J:65536<(takeI bs).1;rw[Qer (by omega) J];right;exact⟨by simp,rfl,rfl⟩;by_cases L:((bs.length:Int)-(takeI bs).2.1)<(takeI bs).1;rw[Qcc (by omega) h0 J L];right;exact⟨by simp,rfl,rfl⟩;rw[o_aY (by omega) h0 J L];left;refine⟨rfl,by simp only;omega,by simp only;omega,?_⟩;show((bs.drop (takeI bs).2.1).take (takeI bs).1.toNat).toArray.size<=65536;rw[Yk,Qp];omega;rw[Qeo e0];right;exact⟨e0,rfl,rfl⟩
end Go.Codec
end
section
namespace Go.Proofs.YtpoabedecgeamaaGreatDoor
open Go.RowKit Go.Codec
def b8n (u:Nat):A.b8 (u:Int)=UInt8.ofNat u:=by
 unfold A.b8;rw[show((u:Int)%256).toNat=u%256 by omega];exact u8_mod u
def b8i {n:Int}(h:0<=n):A.b8 n=UInt8.ofNat n.toNat:=by
 obtain⟨u,rfl⟩:=Yi h;rw[b8n];rfl
def wl1 (y:UInt8): ∀(k u:Nat) (xs:List UInt8) (f:Nat),u<256^k->k<f->xs.length+k<=100->F.b8 y f xs (u:Int)=some ([UInt8.ofNat (y.toNat+(be k u++xs).length)]++(be k u++xs)):=by
 intro k;induction k with
 |zero=>
  intro u xs f J L N;obtain⟨f,rfl⟩: ∃f',f=f'+1:=⟨f-1,by omega⟩;obtain rfl:u=0:=by simpa using J
  rw[F.b8,Qb (by omega),A.gd1 (by simp only[Xp];omega),be_zero];rw[Z.wrap_u8,Wc];rw[show(y.toNat:Int)+((UInt8.ofNat xs.length).toNat:Int)=((y.toNat+(UInt8.ofNat xs.length).toNat:Nat):Int) by omega,b8n];have:(UInt8.ofNat xs.length).toNat=xs.length:=by simp;omega
  rw[this]
 |succ k O=>
  intro u xs f J L N;obtain⟨f,rfl⟩: ∃f',f=f'+1:=⟨f-1,by omega⟩;by_cases h0:u=0;subst h0;rw[F.b8,Qb (by omega),A.gd1 (by simp only[Xp];omega),be_zero];rw[Z.wrap_u8,Wc];rw[show(y.toNat:Int)+((UInt8.ofNat xs.length).toNat:Int)=((y.toNat+(UInt8.ofNat xs.length).toNat:Nat):Int) by omega,b8n];have:(UInt8.ofNat xs.length).toNat=xs.length:=by simp;omega
  rw[this];rw[F.b8,Qc (by omega),A.gd1 (by simp only[Xp];omega),A.gd1 (by decide)];rw[show(u:Int) / 2^((8:Int)).toNat=((u / 256:Nat):Int) by rw[show(2:Int)^((8:Int)).toNat=256 by decide];omega];rw[O (u / 256) ([A.b8 (u:Int)]++xs) f (by rw[Nat.pow_succ]at J;omega) (by omega) (by simp only[Qd,Xp];omega),b8n,be_step _ _ (by omega)];simp only[Qo]
def Qeg {p q:Prop}[Decidable p][Decidable q]:((bif decide p then decide q else false)=true)↔(p/\q):=by rw[A.ba,decide_eq_true_iff]
def wInt (n:Int)(h:okInt n):F.dg n=some (encInt n):=by
 unfold okInt at h;have V:(256:Nat)^8=18446744073709551616:=by decide
 unfold F.dg F.dC;by_cases J:0<=n/\n<100;rw[Qc (Qeg.2 J),A.gd1 ⟨by omega,by omega⟩,b8i (by omega),enc_one n J.1 J.2];rw[Qb (λe=>J (Qeg.1 e))];by_cases L:n<0/\ -50<=n;rw[Qc (Qeg.2 L),A.gd1 ⟨by omega,by omega⟩,b8i (by omega),enc_low n L.1 L.2];rw[Qb (λe=>L (Qeg.1 e))];by_cases O:n<0;rw[Qc O,A.gd1 ⟨by omega,by omega⟩,Z.u64_in _ (by omega),show(-1-n:Int)=(((-1-n).toNat:Nat):Int) by omega,wl1 207 8 _ [] A.FU (by omega) (by have:=Qab;omega) (by simp)];have N:=Qbe 8 (-1-n).toNat;rw[<-enc_dn n (by omega) (be 8 (-1-n).toNat) rfl N,Wk];have:(UInt8.ofNat (be 8 (-1-n).toNat).length).toNat=(be 8 (-1-n).toNat).length:=by simp;omega
 rw[this];rfl;rw[Qb O,Z.u64_in _ (by omega),show(n:Int)=((n.toNat:Nat):Int) by omega,wl1 199 8 _ [] A.FU (by omega) (by have:=Qab;omega) (by simp)];have N:=Qbe 8 n.toNat;rw[show((n.toNat:Nat):Int)=n by omega,<-enc_up n (by omega) (be 8 n.toNat) rfl N,Wk];have:(UInt8.ofNat (be 8 n.toNat).length).toNat=(be 8 n.toNat).length:=by simp;omega
 rw[this];rfl
def tr (t:Int×Nat×Int):Int×Int×Int:=(t.1,(t.2.1:Int),t.2.2)
def tt (t:ByteArray×Nat×Int):ByteArray×Int×Int:=(t.1,(t.2.1:Int),t.2.2)
def wrapU {u:Nat}(J:u<18446744073709551616):(u<9223372036854775808/\IntKind.i64.wrap (u:Int)=u)\/(9223372036854775808<=u/\IntKind.i64.wrap (u:Int)=(u:Int)-18446744073709551616):=by
 by_cases h:u<9223372036854775808;left;refine⟨h,?_⟩;simp[IntKind.wrap,IntKind.bits,IntKind.signed];omega;right;refine⟨by omega,?_⟩;simp[IntKind.wrap,IntKind.bits,IntKind.signed];omega
def nv (neg:Bool)(u:Nat):Int:=if neg then-1-(u:Int)else(u:Int)
def o_b3 {neg:Bool}{u:Nat}(h:u<9223372036854775808):okInt (nv neg u):=by
 unfold nv okInt;cases neg<;>simp<;>omega
def body_eq {k:Nat}{neg:Bool}{bs:List UInt8}(h: ¬bs.length<=k)(O:val ((bs.drop 1).take k)<9223372036854775808)(Q:Bool->Option (Int×Int×Int))(N:Q true=some (0,0,70))(L:Q false=some (nv neg (val ((bs.drop 1).take k)),(k:Int)+1,0)):
  Q (!decide (encInt (nv neg (val ((bs.drop 1).take k)))=bs.take (k+1)))=some (tr (intBody k neg bs)):=by
 by_cases J:encInt (nv neg (val ((bs.drop 1).take k)))=bs.take (k+1);rw[Wl J,W9,L,o_aR h (by omega) rfl (by unfold nv at J;exact J)];simp[tr,nv];rw[Wp J,Xu,N,Qdj h rfl (by unfold nv at J;exact J)];rfl
def Qfv (a b:List UInt8):F.bP a b=some (decide (a=b)):=by
 unfold F.bP;congr 1;exact decide_eq_decide.2 ⟨λh=>ba_mk h,λh=>by rw[h]⟩
def wj2 {k u:Nat}{neg:Bool}{bs:List UInt8}(hk:k<=8)(h: ¬bs.length<=k)(V:bs.length<=140737488355328)(O:u=val ((bs.drop 1).take k)):
  F.cU bs (k:Int) (u:Int) (if neg then-1-IntKind.i64.wrap (u:Int)else IntKind.i64.wrap (u:Int))=some (tr (intBody k neg bs)):=by
 have J:u<18446744073709551616:=by rw[O];exact val_lt8 (by rw[Qp];omega)
 unfold F.cU;rcases wrapU J with⟨L,N⟩|⟨L,N⟩
 rw[N,Qb (by omega),A.gd1 ⟨by omega,by omega⟩,A.gd1 ⟨by omega,by omega⟩];have e:(if neg then-1-(u:Int)else(u:Int))=nv neg u:=rfl;rw[e,wInt _ (o_b3 L),Qa,Qfv,Qa,show((k:Int)+1).toNat=k+1 by omega];subst O;refine body_eq h L (λb=>F.a5 (k:Int) (nv neg (val ((bs.drop 1).take k))) b) ?_ ?_;show F.a5 _ _ true=_;unfold F.a5;rw[Qc rfl];show F.a5 _ _ false=_;unfold F.a5;rw[Qb Q8,A.gd1 ⟨by omega,by omega⟩];rw[N,Qc (by omega)];unfold F.a5;rw[Qc rfl,Qdg h (by omega)];rfl
def wj4 {k:Nat}{neg:Bool}{bs:List UInt8}{b:UInt8}(hk:k<=8)(N:bs.length<=140737488355328)(O:(207<b.toNat)↔neg=true):F.cV bs b (k:Int)=some (tr (intBody k neg bs)):=by
 unfold F.cV;by_cases h:bs.length<=k;rw[Qc (by omega),Qbv h];rfl;rw[Qb (by omega),A.gd1 ⟨⟨by omega,by omega⟩,by omega,by omega⟩,A.gd1 ⟨by omega,by omega,by omega⟩];have e:(List.drop ((1:Int).toNat) (List.take (((k:Int)+1).toNat) bs))=(bs.drop 1).take k:=cutv (by omega);have W:((bs.drop 1).take k).length=k:=by rw[Qp,Qz];omega
 exact A.lp ((bs.drop 1).take k) (λf (s:Int) y=>F.ck bs b (k:Int) f s y) (λ_ _ _=>some (tr (intBody k neg bs))) (λj s=>s=(val (((bs.drop 1).take k).take j):Int))
  (λf s J=>by
   have hfull:((bs.drop 1).take k).take ((bs.drop 1).take k).length=(bs.drop 1).take k:=Xz;rw[hfull]at J;subst J;have L:val ((bs.drop 1).take k)<18446744073709551616:=val_lt8 (by omega);rw[F.ck,e,Qb (by omega)];have hr: -9223372036854775808<=IntKind.i64.wrap (val ((bs.drop 1).take k):Int)/\IntKind.i64.wrap (val ((bs.drop 1).take k):Int)<=9223372036854775807:=by
    rcases wrapU L with⟨Y,h2⟩|⟨Y,h2⟩<;>omega
   cases neg with
   |true=>
    rw[Qc (by have:=O.2 rfl;omega),A.gd1 ⟨by omega,by omega⟩];exact wj2 (neg:=true) hk h N rfl
   |false=>
    rw[Qb (by have: ¬207<b.toNat:=λe=>Q8 (O.1 e);omega)];exact wj2 (neg:=false) hk h N rfl)
  (λf s j x V hj J ih=>by
   have h7:val (((bs.drop 1).take k).take j)*256+255<18446744073709551616:=val_lt7 (by rw[Qp];omega);subst J;rw[F.ck,e,Qc (by omega),A.ixn V,Qa,A.gd1 (by unfold A.sh8;omega),A.gd1 (A.r64n (by omega))];exact ih _ (by rw[val_take V];omega))
  (by have:=Qab;omega) 0 (by simp[val])
def wTake (bs:List UInt8)(Y:bs.length<=140737488355328):F.ee bs=some (tr (takeI bs)):=by
 unfold F.ee;by_cases h:(bs.length:Int)=0;rw[Qc h,takeI_nil h];rfl;rw[Qb h];cases bs with
 |nil=>simp at h
 |cons b r=>
  have h0:(b::r)[0]?=some b:=rfl;have hb:=b.toNat_lt;have W:A.ix (b::r) 0=some b:=A.ixn (k:=0) h0;rw[W,Qa];by_cases J:(b.toNat:Int)<50;rw[Qc J,A.gd1 ⟨⟨by omega,by omega⟩,by omega,by omega⟩,takeI_low h0 J];rfl;rw[Qb J];by_cases L:(b.toNat:Int)<100;rw[Qc L,takeI_gap h0 J L];rfl;rw[Qb L];by_cases N:(b.toNat:Int)<=199;rw[Qc N,A.gd1 ⟨⟨by omega,by omega⟩,by omega,by omega⟩,takeI_mid h0 L N];rfl;rw[Qb N];by_cases O:(215:Int)<(b.toNat:Int);rw[Qc O,takeI_high h0 O];rfl;rw[Qb O,A.gd1 ⟨⟨by omega,by omega⟩,by omega,by omega⟩];by_cases V:(207:Int)<(b.toNat:Int);rw[Qc V,A.gd1 ⟨⟨by omega,by omega⟩,by omega,by omega⟩,takeI_neg h0 V O,show(b.toNat:Int)-207=((b.toNat-207:Nat):Int) by omega];exact wj4 (by omega) Y ⟨λ_=>rfl,λ_=>by omega⟩;rw[Qb V,takeI_pos h0 V N,show(b.toNat:Int)-199=((b.toNat-199:Nat):Int) by omega];exact wj4 (by omega) Y ⟨λe=>by omega,λe=>by cases e⟩
end Go.Proofs.YtpoabedecgeamaaGreatDoor
end
section
namespace Go.Z
def ok_i {n:Int}(h:IntKind.i64.has n):Codec.okInt n:=has_i64 h
def ok_list {t:Ty}{xs:List t.den}{p:t.den->Prop}(h:(Ty.slice t).ok xs)(hp: ∀x,t.ok x->p x):Codec.okList p xs:=⟨h.1,λx J=>hp x (h.2 x J)⟩
abbrev I:=Ty.int .i64
abbrev tyFn:=Ty.pair I (.pair I .str)
abbrev tyNode:=Ty.pair I (.pair I (.pair (.slice I) (.pair tyFn (.pair .str (.pair I I)))))
abbrev tyMove:=Ty.pair I (.pair I (.pair I (.pair I tyFn)))
abbrev tyDelta:=Ty.pair (.slice I) (.pair (.slice tyNode) (.slice tyMove))
abbrev tyRec:=Ty.pair I .str
abbrev tyTime:=Ty.pair I (.pair I (.pair I (.pair I (.pair I I))))
abbrev Qin:=Ty.pair I I
abbrev Qgg:=Ty.pair Qin (.pair tyTime I)
abbrev Qii:=Ty.pair I (.pair I (.pair .str I))
abbrev tyMsg:=Ty.pair I (.pair I (.pair Qin (.pair tyTime (.pair (.slice tyRec) (.pair (.slice Qgg) (.pair tyDelta (.pair I (.pair (.slice Qii) (.pair .bool I)))))))))
def ok_fn {f:Codec.Fn}(h:tyFn.ok f):Codec.okFn f:=⟨ok_i h.1,ok_i h.2.1,h.2.2⟩
def ok_node {n:Codec.Node}(h:tyNode.ok n):Codec.okNode n:=⟨ok_i h.1,ok_i h.2.1,ok_list (t:=I) h.2.2.1 λ_ h=>ok_i h,ok_fn h.2.2.2.1,h.2.2.2.2.1,ok_i h.2.2.2.2.2.1,ok_i h.2.2.2.2.2.2⟩
def ok_move {n:Codec.Move}(h:tyMove.ok n):Codec.okMove n:=⟨ok_i h.1,ok_i h.2.1,ok_i h.2.2.1,ok_i h.2.2.2.1,ok_fn h.2.2.2.2⟩
def ok_delta {d:Codec.Delta}(h:tyDelta.ok d):Codec.okDelta d:=⟨ok_list (t:=I) h.1 λ_ h=>ok_i h,ok_list (t:=tyNode) h.2.1 λ_ h=>ok_node h,ok_list (t:=tyMove) h.2.2 λ_ h=>ok_move h⟩
def ok_rec {r:Codec.Rec}(h:tyRec.ok r):Codec.okRec r:=⟨ok_i h.1,h.2⟩
def ok_time {r:Codec.Time}(h:tyTime.ok r):Codec.okTime r:=⟨ok_i h.1,ok_i h.2.1,ok_i h.2.2.1,ok_i h.2.2.2.1,ok_i h.2.2.2.2.1,ok_i h.2.2.2.2.2⟩
def ok_place {r:Codec.Place}(h:Qin.ok r):Codec.okPlace r:=⟨ok_i h.1,ok_i h.2⟩
def ok_change {r:Codec.Change}(h:Qgg.ok r):Codec.okChange r:=⟨ok_place h.1,ok_time h.2.1,ok_i h.2.2⟩
def ok_entry {r:Codec.Entry}(h:Qii.ok r):Codec.okEntry r:=⟨ok_i h.1,ok_i h.2.1,h.2.2.1,ok_i h.2.2.2⟩
def ok_msg {m:Codec.Msg}(h:tyMsg.ok m):Codec.okMsg m:=
 ⟨ok_i h.1,ok_i h.2.1,ok_place h.2.2.1,ok_time h.2.2.2.1,ok_list (t:=tyRec) h.2.2.2.2.1 λ_ h=>ok_rec h,ok_list (t:=Qgg) h.2.2.2.2.2.1 λ_ h=>ok_change h,ok_delta h.2.2.2.2.2.2.1,ok_i h.2.2.2.2.2.2.2.1,
  ok_list (t:=Qii) h.2.2.2.2.2.2.2.2.1 λ_ h=>ok_entry h,trivial,ok_i h.2.2.2.2.2.2.2.2.2.2⟩
end Go.Z
end
section
namespace Go.Proofs.YtpoabedecgeamaaGreatDoor
open Go.RowKit Go.Codec
abbrev BB:Nat:=70368744177664
def puts {α:Type}(enc:α->Bytes)(xs:List α)(L:Nat->List UInt8->Int->Option (Int ⊕ List UInt8))(w:List UInt8)(h0: ∀f s,L (f+1) s (xs.length:Int)=some (.inr s))
  (O: ∀f s (k:Nat) x,xs[k]?=some x->k<xs.length->(s++enc x).length<=BB->L (f+1) s (k:Int)=L f (s++enc x) ((k:Int)+1)) (V:(w++xs.flatMap enc).length<=BB) (hl:xs.length<=65536):L A.FU w 0=some (.inr (w++xs.flatMap enc)):=
 A.lp xs L (λ_ _ _=>some (.inr (w++xs.flatMap enc))) (λk s=>s=w++(xs.take k).flatMap enc)
  (λf s J=>by rw[h0,J,Xz])
  (λf s k x N hk J W=>by
   have e:=fm_take enc N;have Y:=fm_le enc xs (k+1);rw[O f s k x N hk (by rw[J,Qo,<-e];simp only[Qd]at V ⊢;omega)];exact W _ (by rw[J,Qo,<-e]))
  (by have:=Qab;omega) w (by simp)
def wInts (l:List Int)(Y:l.length<=1000)(N: ∀n∈l,okInt n):F.d8 l=some (l.flatMap encInt):=by
 unfold F.d8;exact A.lp l (λf (s:List UInt8) y=>F.cg l f s y) (λ_ _ _=>some (l.flatMap encInt)) (λk s=>s=(l.take k).flatMap encInt)
  (λf s J=>by rw[F.cg,Qb (by omega),J,Xz])
  (λf s k x L hk J O=>by
   have e:=fm_take encInt L;have V:=ints_len (l.take k);have W:=(encInt_length x).2;rw[Qp]at V;rw[F.cg,Qc (by omega),A.ixn L,Qa,wInt x (N x (Qg L)),Qa,A.gd1 (by rw[J];omega),A.gd1 (A.r64n (by omega))];exact O _ (by rw[J,<-e]))
  (by have:=Qab;omega) [] rfl
def wJoin (a b:List UInt8)(h:(a++b).length<=BB):F.c5 [a,b]=some (a++b):=by
 unfold F.c5 F.eH;have e:[a,b].flatten=a++b:=by simp
 rw[e,A.gd1 h];rfl
def pInts (w:List UInt8)(l:List Int)(J:l.length<=1000)(L: ∀n∈l,okInt n)(h:(w++l.flatMap encInt).length<=BB):F.b w l=some (w++l.flatMap encInt):=by
 unfold F.b;rw[wInts l J L,Qa,wJoin _ _ h];rfl
def pI1 (w:List UInt8){a:Int}(J:okInt a)(h:(w++encInt a).length<=BB):F.b w [a]=some (w++encInt a):=by
 have:=pInts w [a] (by simp) (by simpa using J) (by simpa using h);rw[this];simp
def pI2 (w:List UInt8){a b:Int}(J:okInt a)(L:okInt b)(h:(w++(encInt a++encInt b)).length<=BB):F.b w [a,b]=some (w++(encInt a++encInt b)):=by
 have:=pInts w [a,b] (by simp) (by simp[J,L]) (by simpa using h);rw[this];simp
def pI4 (w:List UInt8){a b c d:Int}(J:okInt a)(L:okInt b)(N:okInt c)(O:okInt d)(h:(w++(encInt a++(encInt b++(encInt c++encInt d)))).length<=BB):F.b w [a,b,c,d]=some (w++(encInt a++(encInt b++(encInt c++encInt d)))):=by
 have:=pInts w [a,b,c,d] (by simp) (by simp[J,L,N,O]) (by simpa using h);rw[this];simp
def wText (s:ByteArray)(J:Qbj s):F.d9 s=some (Qaq s,0):=by
 unfold Qbj at J;unfold F.d9;have L:=(encInt_length (s.size:Int)).2;rw[Qb (by omega),wInt _ (by unfold okInt;omega),Qa,A.gd1 (by omega)];rfl
def pText (w:List UInt8)(s:ByteArray)(J:Qbj s)(h:(w++Qaq s).length<=BB):F.aT w s=some (.inr (w++Qaq s)):=by
 unfold F.aT;rw[wText s J,Qa];show((F.n 0).bind _)=_;rw[show F.n 0=some (.inr ())from rfl,Qa];show((F.c5 [w,Qaq s]).bind _)=_;rw[wJoin _ _ h];rfl
def okN {n:Nat}(h:n<=9223372036854775807):okInt (n:Int):=by unfold okInt;omega
def pFn (w:List UInt8)(f:Codec.Fn)(J:okFn f)(L:gFn f)(h:(w++Qeu f).length<=BB):F.b2 w f=some (.inr (w++Qeu f)):=by
 unfold Qeu at h ⊢;unfold F.b2;rw[pI2 w J.1 J.2.1 (by simp only[Qd]at h ⊢;omega),Qa,pText _ _ L (by simp only[Qd]at h ⊢;omega),Qa];simp only[A.sm,Qo]
def pList {α:Type}(enc:α->Bytes)(xs:List α)(J:xs.length<=65536)(w:List UInt8)(h:(w++Qac enc xs).length<=BB):(w++encInt (xs.length:Int)).length<=BB/\((w++encInt (xs.length:Int))++xs.flatMap enc).length<=BB:=by
 unfold Qac at h;simp only[Qd]at h ⊢;omega
def pNums (w:List UInt8)(l:List Int)(J:l.length<=65536)(N: ∀n∈l,okInt n)(h:(w++Qac encInt l).length<=BB):F.ao w l=some (.inr (w++Qac encInt l)):=by
 obtain⟨O,V⟩:=pList encInt l J w h;unfold F.ao F.ax F.v;rw[Qb (by omega),pI1 w (okN (by omega)) O,Qa,Qa];rw[puts encInt l (λf s y=>F.w l f s y) _ (λf s=>by rw[F.w,Qb (by omega)])
  (λf s k x L hk W=>by
   rw[F.w,Qc (by omega),A.ixn L,Qa,F.v,pI1 s (N x (Qg L)) W,Qa,Qa,A.gd1 (A.r64n (by omega))]) V J]
 unfold Qac;simp only[Qo]
def pNode (w:List UInt8)(n:Codec.Node)(J:okNode n)(L:gNode n)(h:(w++Qaj n).length<=BB):F.b5 w n=some (.inr (w++Qaj n)):=by
 unfold Qaj at h ⊢;unfold F.b5;rw[pI2 w J.1 J.2.1 (by simp only[Qd]at h ⊢;omega),Qa,pNums _ _ L.1 J.2.2.1.2 (by simp only[Qd]at h ⊢;omega),Qa];simp only[A.sm];rw[show(n.2.2.2.1:Codec.Fn)=n.2.2.2.1 from rfl,pFn _ _ J.2.2.2.1 L.2.1 (by simp only[Qd]at h ⊢;omega),Qa];simp only[];rw[pText _ _ L.2.2 (by simp only[Qd]at h ⊢;omega),Qa];simp only[];rw[pI2 _ J.2.2.2.2.2.1 J.2.2.2.2.2.2 (by simp only[Qd]at h ⊢;omega),Qa];simp only[Qo]
def pMove (w:List UInt8)(m:Codec.Move)(J:okMove m)(L:gMove m)(h:(w++Qar m).length<=BB):F.b6 w m=some (.inr (w++Qar m)):=by
 unfold Qar at h ⊢;unfold F.b6;rw[pI4 w J.1 J.2.1 J.2.2.1 J.2.2.2.1 (by simp only[Qd]at h ⊢;omega),Qa];rw[show(m.2.2.2.2:Codec.Fn)=m.2.2.2.2 from rfl,pFn _ _ J.2.2.2.2 L (by simp only[Qd]at h ⊢;omega),Qa];simp only[A.sm,Qo]
def pRec (w:List UInt8)(r:Codec.Rec)(J:okRec r)(L:gRec r)(h:(w++Qbf r).length<=BB):F.cp w r=some (.inr (w++Qbf r)):=by
 unfold Qbf at h ⊢;unfold F.cp;rw[pI1 w J.1 (by simp only[Qd]at h ⊢;omega),Qa,pText _ _ L (by simp only[Qd]at h ⊢;omega),Qa];simp only[A.sm,Qo]
def pEntry (w:List UInt8)(x:Codec.Entry)(J:okEntry x)(L:Qea x)(h:(w++Qai x).length<=BB):F.bQ w x=some (.inr (w++Qai x)):=by
 unfold Qai at h ⊢;unfold F.bQ;rw[pI2 w J.1 J.2.1 (by simp only[Qd]at h ⊢;omega),Qa,pText _ _ L (by simp only[Qd]at h ⊢;omega),Qa];simp only[A.sm];rw[pI1 _ J.2.2.2 (by simp only[Qd]at h ⊢;omega),Qa];simp only[Qo]
def pPlace (w:List UInt8)(p:Codec.Place)(J:okPlace p)(h:(w++Qas p).length<=BB):F.bl w p=some (w++Qas p):=by
 unfold Qas at h ⊢;unfold F.bl;rw[pI2 w J.1 J.2 h];rfl
def pTime (w:List UInt8)(t:Codec.Time)(J:okTime t)(h:(w++Qaz t).length<=BB):F.bz w t=some (w++Qaz t):=by
 unfold Qaz Qhp at h ⊢;unfold F.bz;rw[pI2 w J.1 J.2.1 (by simp only[Qd]at h ⊢;omega),Qa,pI4 _ J.2.2.1 J.2.2.2.1 J.2.2.2.2.1 J.2.2.2.2.2 (by simp only[Qd]at h ⊢;omega),Qa];simp only[Qo]
def pChange (w:List UInt8)(c:Codec.Change)(J:okChange c)(h:(w++Qaf c).length<=BB):F.bE w c=some (w++Qaf c):=by
 unfold Qaf at h ⊢;unfold F.bE;rw[show(c.1:Codec.Place)=c.1 from rfl,pPlace w _ J.1 (by simp only[Qd]at h ⊢;omega),Qa];rw[show(c.2.1:Codec.Time)=c.2.1 from rfl,pTime _ _ J.2.1 (by simp only[Qd]at h ⊢;omega),Qa];rw[pI1 _ J.2.2 (by simp only[Qd]at h ⊢;omega),Qa];simp only[Qo]
def smr {α β:Type}(x:α)(k:α->Option (Int ⊕ β)):A.sm (.inr x) k=k x:=rfl
def pRecs (w:List UInt8)(l:List Codec.Rec)(L:l.length<=65536)(N: ∀n∈l,okRec n)(O: ∀n∈l,gRec n)(h:(w++Qac Qbf l).length<=BB):F.ar w l=some (.inr (w++Qac Qbf l)):=by
 obtain⟨V,W⟩:=pList Qbf l L w h;unfold F.ar F.al F.v;rw[Qb (by omega),pI1 w (okN (by omega)) V,Qa,Qa];rw[puts Qbf l (λf s y=>F.o l f s y) _ (λf s=>by rw[F.o,Qb (by omega)])
  (λf s k x J hk Y=>by
   rw[F.o,Qc (by omega),A.ixn J,Qa];rw[show(x:Codec.Rec)=x from rfl,pRec s x (N x (Qg J)) (O x (Qg J)) Y,Qa];rw[smr,A.gd1 (A.r64n (by omega))]) W L]
 unfold Qac;simp only[Qo]
def pChanges (w:List UInt8)(l:List Codec.Change)(J:l.length<=65536)(N: ∀n∈l,okChange n)(h:(w++Qac Qaf l).length<=BB):F.ae w l=some (.inr (w++Qac Qaf l)):=by
 obtain⟨O,V⟩:=pList Qaf l J w h;unfold F.ae F.x F.v;rw[Qb (by omega),pI1 w (okN (by omega)) O,Qa,Qa];rw[puts Qaf l (λf s y=>F.f l f s y) _ (λf s=>by rw[F.f,Qb (by omega)])
  (λf s k x L hk W=>by
   rw[F.f,Qc (by omega),A.ixn L,Qa];rw[show(x:Codec.Change)=x from rfl,pChange s x (N x (Qg L)) W,Qa];rw[A.gd1 (A.r64n (by omega))]) V J]
 unfold Qac;simp only[Qo]
def pEntries (w:List UInt8)(l:List Codec.Entry)(L:l.length<=65536)(N: ∀n∈l,okEntry n)(O: ∀n∈l,Qea n)(h:(w++Qac Qai l).length<=BB):F.t w l=some (.inr (w++Qac Qai l)):=by
 obtain⟨V,W⟩:=pList Qai l L w h;unfold F.t F.z F.v;rw[Qb (by omega),pI1 w (okN (by omega)) V,Qa,Qa];rw[puts Qai l (λf s y=>F.h l f s y) _ (λf s=>by rw[F.h,Qb (by omega)])
  (λf s k x J hk Y=>by
   rw[F.h,Qc (by omega),A.ixn J,Qa];rw[show(x:Codec.Entry)=x from rfl,pEntry s x (N x (Qg J)) (O x (Qg J)) Y,Qa];rw[smr,A.gd1 (A.r64n (by omega))]) W L]
 unfold Qac;simp only[Qo]
def pNodes (w:List UInt8)(l:List Codec.Node)(L:l.length<=65536)(N: ∀n∈l,okNode n)(O: ∀n∈l,gNode n)(h:(w++Qac Qaj l).length<=BB):F.y w l=some (.inr (w++Qac Qaj l)):=by
 obtain⟨V,W⟩:=pList Qaj l L w h;unfold F.y F.ai F.v;rw[Qb (by omega),pI1 w (okN (by omega)) V,Qa,Qa];rw[puts Qaj l (λf s y=>F.i l f s y) _ (λf s=>by rw[F.i,Qb (by omega)])
  (λf s k x J hk Y=>by
   rw[F.i,Qc (by omega),A.ixn J,Qa];rw[show(x:Codec.Node)=x from rfl,pNode s x (N x (Qg J)) (O x (Qg J)) Y,Qa];rw[smr,A.gd1 (A.r64n (by omega))]) W L]
 unfold Qac;simp only[Qo]
def pMoves (w:List UInt8)(l:List Codec.Move)(L:l.length<=65536)(N: ∀n∈l,okMove n)(O: ∀n∈l,gMove n)(h:(w++Qac Qar l).length<=BB):F.an w l=some (.inr (w++Qac Qar l)):=by
 obtain⟨V,W⟩:=pList Qar l L w h;unfold F.an F.aj F.v;rw[Qb (by omega),pI1 w (okN (by omega)) V,Qa,Qa];rw[puts Qar l (λf s y=>F.k l f s y) _ (λf s=>by rw[F.k,Qb (by omega)])
  (λf s k x J hk Y=>by
   rw[F.k,Qc (by omega),A.ixn J,Qa];rw[show(x:Codec.Move)=x from rfl,pMove s x (N x (Qg J)) (O x (Qg J)) Y,Qa];rw[smr,A.gd1 (A.r64n (by omega))]) W L]
 unfold Qac;simp only[Qo]
def pDelta (w:List UInt8)(d:Codec.Delta)(L:okDelta d)(J:gDelta d)(h:(w++Qax d).length<=BB):F.bT w d=some (.inr (w++Qax d)):=by
 unfold Qax at h ⊢;unfold F.bT;rw[pNums w _ J.1 L.1.2 (by simp only[Qd]at h ⊢;omega),Qa];simp only[A.sm];rw[pNodes _ _ J.2.1.1 L.2.1.2 J.2.1.2 (by simp only[Qd]at h ⊢;omega),Qa];simp only[];rw[pMoves _ _ J.2.2.1 L.2.2.2 J.2.2.2 (by simp only[Qd]at h ⊢;omega),Qa];simp only[Qo]
def pMsg (w:List UInt8)(m:Codec.Msg)(N:okMsg m)(J:gMsg m)(h:(w++Qbq m).length<=BB):F.bd w m=some (.inr (w++Qbq m)):=by
 obtain⟨O,V,W,Y,o5,o6,o7,o8,o9,_,o11⟩:=N;unfold Qbq at h ⊢;unfold F.bd;rw[pI2 w O V (by simp only[Qd]at h ⊢;omega),Qa];rw[show(m.2.2.1:Codec.Place)=m.2.2.1 from rfl,pPlace _ _ W (by simp only[Qd]at h ⊢;omega),Qa];rw[show(m.2.2.2.1:Codec.Time)=m.2.2.2.1 from rfl,pTime _ _ Y (by simp only[Qd]at h ⊢;omega),Qa];rw[pRecs _ _ J.1.1 o5.2 J.1.2 (by simp only[Qd]at h ⊢;omega),Qa];simp only[A.sm];rw[pChanges _ _ J.2.1 o6.2 (by simp only[Qd]at h ⊢;omega),Qa];simp only[];rw[show(m.2.2.2.2.2.2.1:Codec.Delta)=m.2.2.2.2.2.2.1 from rfl,pDelta _ _ o7 J.2.2.1 (by simp only[Qd]at h ⊢;omega),Qa];simp only[];rw[pI1 _ o8 (by simp only[Qd]at h ⊢;omega),Qa];rw[pEntries _ _ J.2.2.2.1 o9.2 J.2.2.2.2 (by simp only[Qd]at h ⊢;omega),Qa];simp only[F.bF];by_cases L:m.2.2.2.2.2.2.2.2.2.1=true;rw[Qc L];rw[L]at h ⊢;rw[pI2 _ (a:=1) (by unfold okInt;omega) o11 (by simp only[Qd,b01]at h ⊢;simp at h ⊢;omega),Qa];simp[Qo,b01];rw[Qb L];have L:m.2.2.2.2.2.2.2.2.2.1=false:=by simpa using L
 rw[L]at h ⊢;rw[pI2 _ (a:=0) (by unfold okInt;omega) o11 (by simp only[Qd,b01]at h ⊢;simp at h ⊢;omega),Qa];simp[Qo,b01]
def Qhb (m:Codec.Msg)(J:okMsg m)(L:sMsg m):F.bA m=some (Qbq m,0):=by
 obtain⟨N,O⟩:=sMsg_g L;unfold F.bA F.am;show(((F.bd [] m).bind _).bind _)=_;rw[pMsg [] m J N (by simpa using O),Qa];rfl
abbrev Pz (α:Type):=List UInt8->Int ⊕ (α×Nat)
def pr {α:Type}(x:α):Pz α:=λ_=>.inr (x,0)
def pe {α:Type}(e:Int):Pz α:=λ_=>.inl e
def pb {α β:Type}(p:Pz α)(q:α->Pz β):Pz β:=λbs=>match p bs with
 | .inl e=>.inl e
 | .inr (x,k)=>match q x (bs.drop k)with
  | .inl e=>.inl e
  | .inr (y,j)=>.inr (y,k+j)
def PF {α:Type}(p:Pz α):Prop:=∀bs,(∀e,p bs=.inl e->e≠0)/\∀x k,p bs=.inr (x,k)->k<=bs.length
def Qcs {α:Type}(x:α):PF (pr x):=λbs=>⟨λe h=>(by cases h),λy k h=>by cases h;omega⟩
def PF_pe {α:Type}{e:Int}(J:e≠0):PF (pe e:Pz α):=λbs=>⟨λe' h=>by cases h;exact J,λy k h=>by cases h⟩
def Qae {α β:Type}{p:Pz α}{q:α->Pz β}(hp:PF p)(hq: ∀x,PF (q x)):PF (pb p q):=λbs=>by
 unfold pb;cases h:p bs with
 |inl e=>exact⟨λe' h'=>by cases h';exact(hp bs).1 e h,λy k h'=>by cases h'⟩
 |inr v=>
  obtain⟨x,k⟩:=v;have hk:=(hp bs).2 x k h
  (try dsimp only)
  cases J:q x (bs.drop k)with
  |inl e=>exact⟨λe' h'=>by cases h';exact(hq x _).1 e J,λy k h'=>by cases h'⟩
  |inr L=>
   obtain⟨y,j⟩:=L;have N:=(hq x _).2 y j J;rw[Qz]at N;exact⟨λe' h'=>(by cases h'),λy k h'=>by cases h';omega⟩
def PQ {α:Type}(p:Pz α)(Q:α->Prop):Prop:=∀bs x k,p bs=.inr (x,k)->Q x
def PQ_pr {α:Type}{x:α}{Q:α->Prop}(h:Q x):PQ (pr x) Q:=λbs y k h'=>by cases h';exact h
def PQ_pb {α β:Type}{p:Pz α}{q:α->Pz β}{P:α->Prop}{Q:β->Prop}(hp:PQ p P)(hq: ∀x,P x->PQ (q x) Q):PQ (pb p q) Q:=λbs y k h=>by
 unfold pb at h;cases J:p bs with
 |inl e=>rw[J]at h;cases h
 |inr v=>
  obtain⟨x,k0⟩:=v;rw[J]at h;dsimp only at h;cases L:q x (bs.drop k0)with
  |inl e=>rw[L]at h;cases h
  |inr N=>
   obtain⟨O,j⟩:=N;rw[L]at h;cases h;exact hq x (hp _ _ _ J) _ _ _ L
def PQ_t {α:Type}(p:Pz α):PQ p λ_=>True:=λ_ _ _ _=>trivial
def pI:Pz Int:=λbs=>if(takeI bs).2.2≠0 then .inl (takeI bs).2.2 else .inr ((takeI bs).1,(takeI bs).2.1)
def pT:Pz ByteArray:=λbs=>if(takeT bs).2.2≠0 then .inl (takeT bs).2.2 else .inr ((takeT bs).1,(takeT bs).2.1)
def pC:Pz Int:=λbs=>if(takeI bs).2.2≠0 then .inl (takeI bs).2.2 else if(takeI bs).1<0 then .inl 70 else if 65536<(takeI bs).1 then .inl 3 else .inr ((takeI bs).1,(takeI bs).2.1)
def PF_I:PF pI:=λbs=>by
 unfold pI;rcases Qav bs with⟨h0,L,J,_⟩|⟨h0,_⟩
 rw[Qb (by simp[h0])];exact⟨λe h=>(by cases h),λx k h=>by cases h;exact J⟩;rw[Qc h0];exact⟨λe h=>by cases h;exact h0,λx k h=>by cases h⟩
def PF_T:PF pT:=λbs=>by
 unfold pT;rcases Qhe bs with⟨h0,L,J,_⟩|⟨h0,_⟩
 rw[Qb (by simp[h0])];exact⟨λe h=>(by cases h),λx k h=>by cases h;exact J⟩;rw[Qc h0];exact⟨λe h=>by cases h;exact h0,λx k h=>by cases h⟩
def PF_C:PF pC:=λbs=>by
 unfold pC;rcases Qav bs with⟨h0,L,J,_⟩|⟨h0,_⟩
 rw[Qb (by simp[h0])];split;exact⟨λe h=>by cases h;decide,λx k h=>by cases h⟩;split;exact⟨λe h=>by cases h;decide,λx k h=>by cases h⟩;exact⟨λe h=>(by cases h),λx k h=>by cases h;exact J⟩;rw[Qc h0];exact⟨λe h=>by cases h;exact h0,λx k h=>by cases h⟩
def PQ_C:PQ pC λn=>0<=n/\n<=65536:=λbs x k h=>by
 unfold pC at h;split at h;cases h;split at h;cases h;split at h;cases h;cases h;omega
def pn {α:Type}(p:Pz α):Nat->Pz (List α)
 |0=>pr []
 |n+1=>pb p λx=>pb (pn p n) λxs=>pr (x::xs)
def PF_n {α:Type}{p:Pz α}(hp:PF p): ∀n,PF (pn p n)
 |0=>Qcs []
 |n+1=>Qae hp λx=>Qae (PF_n hp n) λxs=>Qcs _
def PQ_n {α:Type}{p:Pz α}{P:α->Prop}(hp:PQ p P): ∀n,PQ (pn p n) λxs=>xs.length=n/\∀x∈xs,P x
 |0=>PQ_pr ⟨rfl,λx L=>by cases L⟩
 |n+1=>PQ_pb hp λx L=>PQ_pb (PQ_n hp n) λxs J=>PQ_pr ⟨by rw[Qi,J.1],λy N=>by
   rcases Qn.1 N with rfl|N
   exact L;exact J.2 y N⟩
def pL {α:Type}(p:Pz α):Pz (List α):=pb pC λn=>pn p n.toNat
def PF_L {α:Type}{p:Pz α}(hp:PF p):PF (pL p):=Qae PF_C λn=>PF_n hp _
def PQ_L {α:Type}{p:Pz α}{P:α->Prop}(hp:PQ p P):PQ (pL p) λxs=>xs.length<=65536/\∀x∈xs,P x:=
 PQ_pb PQ_C λn J bs xs k h=>by
  have:=PQ_n hp _ bs xs k h;exact⟨by omega,this.2⟩
abbrev Rd:=Bool×List UInt8×Int
def ot {α:Type}(bs:List UInt8)(at_:Nat):Int ⊕ (α×Nat)->Int ⊕ (α×Rd)
 | .inl e=>.inl e
 | .inr (x,k)=>.inr (x,(true,bs,((at_+k:Nat):Int)))
def PA {α:Type}(f:Rd->Option (Int ⊕ (α×Rd)))(p:Pz α):Prop:=∀bs (at_:Nat),at_<=bs.length->bs.length<=70368744177664->f (true,bs,(at_:Int))=some (ot bs at_ (p (bs.drop at_)))
def Qex {α:Type}(x:α):PA (λs=>some (.inr (x,s))) (pr x):=λbs at_ h J=>by simp[pr,ot]
def Qag {α β:Type}{f:Rd->Option (Int ⊕ (α×Rd))}{g:α->Rd->Option (Int ⊕ (β×Rd))}{p:Pz α}{q:α->Pz β}(L:PA f p)(hp:PF p)(N: ∀x,PA (g x) (q x)):
  PA (λs=>(f s).bind λr=>A.sm r λx=>g x.1 x.2) (pb p q):=λbs at_ h J=>by
 unfold pb
 (try dsimp only)
 rw[L bs at_ h J,Qa];cases O:p (bs.drop at_)with
 |inl e=>rfl
 |inr v=>
  obtain⟨x,k⟩:=v;have hk:=(hp _).2 x k O;rw[Qz]at hk;show g x (true,bs,((at_+k:Nat):Int))=_;rw[N x bs (at_+k) (by omega) J]
  (try dsimp only)
  rw[Xj];cases q x (bs.drop (at_+k))with
  |inl e=>rfl
  |inr V=>obtain⟨y,j⟩:=V;simp only[ot,Xh]
def wRI (bs:List UInt8)(at_:Nat)(h:at_<=bs.length)(L:bs.length<=70368744177664):F.b3 (true,bs,(at_:Int))=some ((takeI (bs.drop at_)).1,(takeI (bs.drop at_)).2.2,(true,bs,((at_+(takeI (bs.drop at_)).2.1:Nat):Int))):=by
 have hk:(takeI (bs.drop at_)).2.1<=1048576:=by
  rcases Qav (bs.drop at_)with⟨h0,J,N,O,_⟩|⟨h0,J,_⟩
  omega;omega
 unfold F.b3 F.ap;rw[Qa,Qb (by simp),A.gd1 ⟨by dsimp only;omega,by dsimp only;omega⟩]
 (try dsimp only)
 rw[show((at_:Int)).toNat=at_ by omega,wTake _ (by rw[Qz];omega),Qa];unfold tr
 (try dsimp only)
 rw[A.gd1 ⟨by omega,by omega⟩];rw[show((at_:Int)+((takeI (bs.drop at_)).2.1:Int))=((at_+(takeI (bs.drop at_)).2.1:Nat):Int) by omega]
def Qap:PA F.c pI:=λbs at_ h J=>by
 unfold F.c
 (try dsimp only)
 rw[wRI bs at_ h J,Qa];unfold pI F.n
 (try dsimp only)
 by_cases h0:(takeI (bs.drop at_)).2.2≠0;rw[Qc h0,Qc h0,Qa];rfl;rw[Qb h0,Qb h0,Qa];rfl
def Qbb:PA F.j pI:=λbs at_ h J=>by
 unfold F.j
 (try dsimp only)
 rw[Qap bs at_ h J,Qa];cases L:pI (bs.drop at_)with
 |inl e=>rfl
 |inr v=>obtain⟨x,k⟩:=v;rfl
def wLen (bs:List UInt8)(at_:Nat)(h:at_<=bs.length)(N:bs.length<=70368744177664):
  F.bk (true,bs,(at_:Int)) 65536=some (match pC (bs.drop at_)with
   | .inl e=>(0,e,(true,bs,(at_:Int)))
   | .inr (n,k)=>(n,0,(true,bs,((at_+k:Nat):Int)))):=by
 unfold F.bk F.cd F.ap;rw[Qa,Qb (by simp),Qa]
 (try dsimp only)
 rw[wRI bs at_ h N,Qa];unfold pC F.aO F.cj F.bC F.ap
 (try dsimp only)
 by_cases h0:(takeI (bs.drop at_)).2.2≠0;rw[Qc h0,Qc h0];rw[Qa,Qc (by simp[h0]),Qa,Qc h0];rw[Qb h0,Qb h0];by_cases J:(takeI (bs.drop at_)).1<0;rw[Qc J,Qc J,Qa];rfl;rw[Qb J,Qb J];by_cases L:65536<(takeI (bs.drop at_)).1;rw[Qc L,Qc L,Qa];rfl;rw[Qb L,Qb L,Qa,Qb (by simp[h0]),Qa,Qb h0]
def Qfw:PA F.aU pT:=λbs at_ h V=>by
 unfold F.aU F.c6 F.cd F.ap
 (try dsimp only)
 rw[Qa,Qb (by simp),Qa,wLen bs at_ h V,Qa];unfold pT pC;by_cases h0:(takeI (bs.drop at_)).2.2≠0
 ·rw[Qc h0,Qeo h0]
  (try dsimp only)
  rw[Qc h0,Qa,Qc h0];unfold F.n;rw[Qc h0];rfl
 rw[Qb h0];by_cases J:(takeI (bs.drop at_)).1<0;rw[Qc J,Qdo h0 J];rfl;rw[Qb J];by_cases L:65536<(takeI (bs.drop at_)).1;rw[Qc L,Qer h0 L];rfl;rw[Qb L]
 (try dsimp only)
 have hk:(takeI (bs.drop at_)).2.1<=bs.length-at_:=by
  rcases Qav (bs.drop at_)with⟨_,N,J,_⟩|⟨N,_⟩
  rw[Qz]at J;omega;exact absurd N h0
 rw[Qb (by simp),A.gd1 ⟨by omega,by omega⟩];by_cases O:((bs.length:Int)-((at_+(takeI (bs.drop at_)).2.1:Nat):Int))<(takeI (bs.drop at_)).1;rw[Qc O,Qcc h0 J L (by rw[Qz];omega)];rfl;rw[Qb O,o_aY h0 J L (by rw[Qz];omega),A.gd1 ⟨⟨by omega,by omega⟩,by omega,by omega⟩,A.gd1 ⟨by omega,by omega,by omega⟩,A.gd1 ⟨by omega,by omega⟩,Qa];unfold F.n;simp only[ne_eq,not_true_eq_false,Q5,Qa,ot];simp only[A.sm];obtain⟨n,W⟩:=Yi (show 0<=(takeI (bs.drop at_)).1 by omega);rw[W,show(((at_+(takeI (bs.drop at_)).2.1:Nat):Int)).toNat=at_+(takeI (bs.drop at_)).2.1 by omega,show(((at_+(takeI (bs.drop at_)).2.1:Nat):Int)+(n:Int)).toNat=(at_+(takeI (bs.drop at_)).2.1)+n by omega];rw[List.drop_take,Nat.add_sub_cancel_left,Xj,show((n:Int)).toNat=n by omega];rw[show(((at_+(takeI (bs.drop at_)).2.1:Nat):Int)+(n:Int))=((at_+((takeI (bs.drop at_)).2.1+n):Nat):Int) by omega]
def PA_rows {α:Type}(c:Nat)(W:c<=1000){f:Rd->Option (Int ⊕ (α×Rd))}{p:Pz α}(Y:PA f p)(hp:PF p)(L:(Int×Int×Rd)->Nat->List UInt8->List α->Bool->Int->Int->Option (Int ⊕ (List α×Rd)))
  (V: ∀(n:Int×Int×Rd) m bs acc b at_ y,L n (m+1) bs acc b at_ y=if y<n.1 then(f (b,bs,at_)).bind λr=>A.sm r λx=>A.gd ((acc.length+[x.1].length)*c<=140737488355328) (A.gd (Z.R64 (y+1)) (L n m x.2.2.1 (acc++[x.1]) x.2.1 x.2.2.2 (y+1)))else some (.inr (acc,(b,bs,at_)))):
  ∀(n:Nat) (J:Int×Int×Rd),n<=65536->J.1=(n:Int)->∀(m fu:Nat) (acc:List α) (bs:List UInt8) (at_:Nat),acc.length+m=n->m<fu->at_<=bs.length->bs.length<=70368744177664->
   L J fu bs acc true (at_:Int) (acc.length:Int)=some (ot bs at_ (match pn p m (bs.drop at_)with| .inl e=>.inl e| .inr (xs,k)=>.inr (acc++xs,k))):=by
 intro n J hn hr m;induction m with
 |zero=>
  intro fu acc bs at_ hm N h O;obtain⟨fu,rfl⟩: ∃f',fu=f'+1:=⟨fu-1,by omega⟩;rw[V,Qb (by omega)];simp[pn,pr,ot]
 |succ m ih=>
  intro fu acc bs at_ hm N h O;obtain⟨fu,rfl⟩: ∃f',fu=f'+1:=⟨fu-1,by omega⟩;rw[V,Qc (by omega),Y bs at_ h O,Qa];unfold pn pb;cases h1:p (bs.drop at_)with
  |inl e=>rfl
  |inr v=>
   obtain⟨x,k⟩:=v;have hk:=(hp _).2 x k h1;rw[Qz]at hk;have hx:((acc.length+[x].length)*c<=140737488355328):=by
    have:(acc.length+[x].length)*c<=65536*1000:=Nat.mul_le_mul (by simp only[Xp];omega) W;omega
   simp only[ot,A.sm];rw[A.gd1 hx,A.gd1 (A.r64n (by omega))];have:=ih fu (acc++[x]) bs (at_+k) (by simp only[Qd,Xp];omega) (by omega) (by omega) O;rw[show(((acc++[x]).length:Nat):Int)=(acc.length:Int)+1 by simp]at this;rw[this];rw[Xj];cases h3:pn p m (bs.drop (at_+k))with
   |inl e=>rfl
   |inr v2=>obtain⟨xs,j⟩:=v2;simp[ot,pr,Xh]
def PA_L {α:Type}(c:Nat)(V:c<=1000){f:Rd->Option (Int ⊕ (α×Rd))}{p:Pz α}(W:PA f p)(hp:PF p)(L:(Int×Int×Rd)->Nat->List UInt8->List α->Bool->Int->Int->Option (Int ⊕ (List α×Rd)))
  (Y: ∀(n:Int×Int×Rd) m bs acc b at_ y,L n (m+1) bs acc b at_ y=if y<n.1 then(f (b,bs,at_)).bind λr=>A.sm r λx=>A.gd ((acc.length+[x.1].length)*c<=140737488355328) (A.gd (Z.R64 (y+1)) (L n m x.2.2.1 (acc++[x.1]) x.2.1 x.2.2.2 (y+1)))else some (.inr (acc,(b,bs,at_))))
  (G:Rd->Option (Int ⊕ (List α×Rd))) (hG: ∀s,G s=(F.aF s).bind λJ=>(F.n J.2.1).bind λr8=>A.sm r8 λx10=>L J A.FU J.2.2.2.1 [] J.2.2.1 J.2.2.2.2 0):PA G (pL p):=λbs at_ h O=>by
 rw[hG];unfold F.aF
 (try dsimp only)
 rw[wLen bs at_ h O,Qa];unfold pL pb;cases N:pC (bs.drop at_)with
 |inl e=>
  have he:=(PF_C _).1 e N
  (try dsimp only)
  rw[Qa];unfold F.n;rw[Qc he];rfl
 |inr v=>
  obtain⟨n,k⟩:=v;have hk:=(PF_C _).2 n k N;have hn:=PQ_C _ _ _ N;rw[Qz]at hk
  (try dsimp only)
  rw[Qa];unfold F.n;simp only[ne_eq,not_true_eq_false,Q5,Qa,A.sm];have:=PA_rows c V W hp L Y n.toNat (n,0,(true,bs,((at_+k:Nat):Int))) (by omega) (by dsimp only;omega) n.toNat A.FU [] bs (at_+k) (by simp) (by have:=Qab;omega) (by omega) O;rw[show(([]:List α).length:Int)=0 from rfl]at this;rw[this,Xj];cases pn p n.toNat (bs.drop (at_+k))with
  |inl e=>rfl
  |inr v2=>obtain⟨xs,j⟩:=v2;simp[ot,Xh]
def pPl:Pz Codec.Place:=pb pI λa=>pb pI λb=>pr (a,b)
def pTm:Pz Codec.Time:=pb pI λa=>pb pI λb=>pb pI λc=>pb pI λd=>pb pI λe=>pb pI λf=>pr (a,b,c,d,e,f)
def pRc:Pz Codec.Rec:=pb pI λa=>pb pT λb=>pr (a,b)
def pCh:Pz Codec.Change:=pb pPl λa=>pb pTm λb=>pb pI λc=>pr (a,b,c)
def pFc:Pz Codec.Fn:=pb pI λa=>pb pI λb=>pb pT λc=>pr (a,b,c)
def pNd:Pz Codec.Node:=pb pI λa=>pb pI λb=>pb (pL pI) λc=>pb pFc λd=>pb pT λe=>pb pI λf=>pb pI λg=>pr (a,b,c,d,e,f,g)
def pMv:Pz Codec.Move:=pb pI λa=>pb pI λb=>pb pI λc=>pb pI λd=>pb pFc λe=>pr (a,b,c,d,e)
def pDl:Pz Codec.Delta:=pb (pL pI) λa=>pb (pL pNd) λb=>pb (pL pMv) λc=>pr (a,b,c)
def pEn:Pz Codec.Entry:=pb pI λa=>pb pI λb=>pb pT λc=>pb pI λd=>pr (a,b,c,d)
def pYs:Pz Bool:=pb pI λn=>if n=0\/n=1 then pr (decide (n=1))else pe 70
def pMs:Pz Codec.Msg:=pb pI λa=>pb pI λb=>pb pPl λc=>pb pTm λd=>pb (pL pRc) λe=>pb (pL pCh) λf=>pb pDl λg=>pb pI λh=>pb (pL pEn) λi=>pb pYs λj=>pb pI λk=>pr (a,b,c,d,e,f,g,h,i,j,k)
def PF_Pl:PF pPl:=Qae PF_I λ_=>Qae PF_I λ_=>Qcs _
def PF_Tm:PF pTm:=Qae PF_I λ_=>Qae PF_I λ_=>Qae PF_I λ_=>Qae PF_I λ_=>Qae PF_I λ_=>Qae PF_I λ_=>Qcs _
def PF_Rc:PF pRc:=Qae PF_I λ_=>Qae PF_T λ_=>Qcs _
def PF_Ch:PF pCh:=Qae PF_Pl λ_=>Qae PF_Tm λ_=>Qae PF_I λ_=>Qcs _
def PF_Fc:PF pFc:=Qae PF_I λ_=>Qae PF_I λ_=>Qae PF_T λ_=>Qcs _
def PF_Nd:PF pNd:=Qae PF_I λ_=>Qae PF_I λ_=>Qae (PF_L PF_I) λ_=>Qae PF_Fc λ_=>Qae PF_T λ_=>Qae PF_I λ_=>Qae PF_I λ_=>Qcs _
def PF_Mv:PF pMv:=Qae PF_I λ_=>Qae PF_I λ_=>Qae PF_I λ_=>Qae PF_I λ_=>Qae PF_Fc λ_=>Qcs _
def PF_Dl:PF pDl:=Qae (PF_L PF_I) λ_=>Qae (PF_L PF_Nd) λ_=>Qae (PF_L PF_Mv) λ_=>Qcs _
def PF_En:PF pEn:=Qae PF_I λ_=>Qae PF_I λ_=>Qae PF_T λ_=>Qae PF_I λ_=>Qcs _
def PF_Ys:PF pYs:=Qae PF_I λn=>by
 split;exact Qcs _;exact PF_pe (by decide)
def PF_Ms:PF pMs:=Qae PF_I λ_=>Qae PF_I λ_=>Qae PF_Pl λ_=>Qae PF_Tm λ_=>Qae (PF_L PF_Rc) λ_=>Qae (PF_L PF_Ch) λ_=>Qae PF_Dl λ_=>Qae PF_I λ_=>Qae (PF_L PF_En) λ_=>Qae PF_Ys λ_=>Qae PF_I λ_=>Qcs _
def PA_cg {α:Type}{f g:Rd->Option (Int ⊕ (α×Rd))}{p:Pz α}(h: ∀s,f s=g s)(J:PA g p):PA f p:=λbs at_ L N=>by rw[h];exact J bs at_ L N
def PA_Pl:PA F.bU pPl:=Qag Qbb PF_I λa=>Qag Qbb PF_I λb=>Qex ((a,b):Codec.Place)
def PA_Rc:PA F.c7 pRc:=Qag Qap PF_I λa=>Qag Qfw PF_T λb=>Qex ((a,b):Codec.Rec)
def PA_Fc:PA F.cD pFc:=Qag Qbb PF_I λa=>Qag Qap PF_I λb=>Qag Qfw PF_T λc=>Qex ((a,b,c):Codec.Fn)
def PA_Ti:PA F.aB (pL pI):=PA_L 8 (by decide) Qbb PF_I F.af (λn m bs acc b at_ y=>by rw[F.af]) _ (λs=>rfl)
def PA_Nd:PA F.cM pNd:=Qag Qbb PF_I λa=>Qag Qbb PF_I λb=>Qag PA_Ti (PF_L PF_I) λc=>Qag PA_Fc PF_Fc λd=>Qag Qfw PF_T λe=>Qag Qap PF_I λf=>Qag Qbb PF_I λg=>Qex ((a,b,c,d,e,f,g):Codec.Node)
def PA_Mv:PA F.cN pMv:=Qag Qbb PF_I λa=>Qag Qbb PF_I λb=>Qag Qbb PF_I λc=>Qag Qap PF_I λd=>Qag PA_Fc PF_Fc λe=>Qex ((a,b,c,d,e):Codec.Move)
def PA_En:PA F.cF pEn:=Qag Qbb PF_I λa=>Qag Qap PF_I λb=>Qag Qfw PF_T λc=>Qag Qap PF_I λd=>Qex ((a,b,c,d):Codec.Entry)
def PA_Tn:PA F.g (pL pNd):=PA_L 104 (by decide) PA_Nd PF_Nd F.r (λn m bs acc b at_ y=>by rw[F.r]) _ (λs=>rfl)
def PA_Tm:PA F.aE (pL pMv):=PA_L 64 (by decide) PA_Mv PF_Mv F.s (λn m bs acc b at_ y=>by rw[F.s]) _ (λs=>rfl)
def PA_Te:PA F.d (pL pEn):=PA_L 40 (by decide) PA_En PF_En F.p (λn m bs acc b at_ y=>by rw[F.p]) _ (λs=>rfl)
def PA_Tr:PA F.aI (pL pRc):=PA_L 24 (by decide) PA_Rc PF_Rc F.u (λn m bs acc b at_ y=>by rw[F.u]) _ (λs=>rfl)
def PA_Dl:PA F.cE pDl:=Qag PA_Ti (PF_L PF_I) λa=>Qag PA_Tn (PF_L PF_Nd) λb=>Qag PA_Tm (PF_L PF_Mv) λc=>Qex ((a,b,c):Codec.Delta)
def PA_Es:PA F.bs (pL pEn):=PA_cg (g:=F.d) (λs=>by
 unfold F.bs;show(F.d s).bind _=_;cases F.d s with
 |none=>rfl
 |some v=>cases v<;>rfl) PA_Te
def Qgo (f:Nat)(y23 y25 a b c d:Int)(i:Int)(J:0<=i/\i<4){q:Int->Pz Codec.Time}
  (hq: ∀x,PA (λs=>F.q f s.2.1 s.1 s.2.2 y23 y25 (if i=0 then x else a) (if i=1 then x else b) (if i=2 then x else c) (if i=3 then x else d) (i+1)) (q x)):
  PA (λs=>F.q (f+1) s.2.1 s.1 s.2.2 y23 y25 a b c d i) (pb pI q):=
 PA_cg (λs=>by
  rw[F.q,Qc J.2];have L: ∃v,A.ix [a,b,c,d] i=some v:=by
   obtain⟨k,rfl⟩:=Yi J.1;have hk:k<[a,b,c,d].length:=by simp only[Qi,Ql];omega
   exact⟨_,A.ixn (Qf hk)⟩
  obtain⟨v,N⟩:=L;rw[N];simp only[Qa];rw[show(λx40:Int×Rd=>A.gd (Z.R64 (i+1)) (F.q f x40.2.2.1 x40.2.1 x40.2.2.2 y23 y25 (if i=0 then x40.1 else a) (if i=1 then x40.1 else b) (if i=2 then x40.1 else c) (if i=3 then x40.1 else d) (i+1)))=λx40=>F.q f x40.2.2.1 x40.2.1 x40.2.2.2 y23 y25 (if i=0 then x40.1 else a) (if i=1 then x40.1 else b) (if i=2 then x40.1 else c) (if i=3 then x40.1 else d) (i+1)from funext λx=>A.gd1 (show Z.R64 (i+1)from⟨by omega,by omega⟩) _]) (Qag Qap PF_I hq)
def PA_Tim:PA F.b7 pTm:=by
 have J: ∃f,A.FU=f+5:=⟨A.FU-5,by have:=Qab;omega⟩;obtain⟨f,J⟩:=J;refine PA_cg (g:=λs=>(F.c s).bind λr=>A.sm r λx=>(F.j x.2).bind λr=>A.sm r λy=>F.q (f+5) y.2.2.1 y.2.1 y.2.2.2 x.1 y.1 0 0 0 0 0) (λs=>by rw[<-J];rfl) ?_;refine Qag (g:=λn s=>(F.j s).bind λr=>A.sm r λy=>F.q (f+5) y.2.2.1 y.2.1 y.2.2.2 n y.1 0 0 0 0 0) Qap PF_I λn=>?_;refine Qag (g:=λm s=>F.q (f+5) s.2.1 s.1 s.2.2 n m 0 0 0 0 0) Qbb PF_I λm=>?_;refine Qgo (f+4) n m 0 0 0 0 0 (by omega) λa=>?_;refine Qgo (f+3) n m a 0 0 0 1 (by omega) λb=>?_;refine Qgo (f+2) n m a b 0 0 2 (by omega) λc=>?_;refine Qgo (f+1) n m a b c 0 3 (by omega) λd=>?_;refine PA_cg (λs=>?_) (Qex ((n,m,a,b,c,d):Codec.Time));show F.q (f+1) s.2.1 s.1 s.2.2 n m a b c d 4=_;rw[F.q,Qb (by omega)]
def PA_Ch:PA F.cA pCh:=Qag PA_Pl PF_Pl λa=>Qag PA_Tim PF_Tm λb=>Qag Qap PF_I λc=>Qex ((a,b,c):Codec.Change)
def PA_Tc:PA F.au (pL pCh):=PA_L 72 (by decide) PA_Ch PF_Ch F.l (λn m bs acc b at_ y=>by rw[F.l]) _ (λs=>rfl)
def PA_Ys {β:Type}{G:Int->Rd->Option (Int ⊕ (β×Rd))}{q:Bool->Pz β}(N: ∀n,PA (G n) (q (decide (n=1)))):
  PA (λs=>(F.c s).bind λr=>A.sm r λx=>if(bif decide (x.1<0)then true else decide ((1:Int)<x.1))=true then((F.n 70).bind λr94=>A.sm r94 λx96=>G x.1 x.2)else G x.1 x.2) (pb pYs q):=λbs at_ h L=>by
 (try dsimp only)
 rw[Qap bs at_ h L,Qa];unfold pYs pb;cases O:pI (bs.drop at_)with
 |inl e=>rfl
 |inr v=>
  obtain⟨n,k⟩:=v;have hk:=PF_I _ |>.2 n k O;rw[Qz]at hk;simp only[ot,A.sm];by_cases J:n=0\/n=1;rw[Qc J,Qb (by rcases J with rfl|rfl<;>simp)];have:=N n bs (at_+k) (by omega) L;rw[this];simp only[pr,Yj,Xj];cases q (decide (n=1)) (bs.drop (at_+k))with
  |inl e=>rfl
  |inr V=>obtain⟨y,j⟩:=V;simp only[ot,Xh]
  rw[Qb J,Qc (by
   by_cases h0:n<0;simp[h0];simp only[h0,decide_false,cond_false,Qq];omega)]
  rfl
def PA_Ms:PA F.cq pMs:=by
 have H:=Qag Qbb PF_I λa=>Qag Qap PF_I λb=>Qag PA_Pl PF_Pl λc=>Qag PA_Tim PF_Tm λd=>Qag PA_Tr (PF_L PF_Rc) λe=>Qag PA_Tc (PF_L PF_Ch) λf=>Qag PA_Dl PF_Dl λg=>Qag Qap PF_I λh=>Qag PA_Te (PF_L PF_En) λi=>PA_Ys (G:=λn s=>(F.c s).bind λr=>A.sm r λx=>some (.inr (((a,b,c,d,e,f,g,h,i,decide (n=1),x.1):Codec.Msg),x.2))) (q:=λj=>pb pI λk=>pr (a,b,c,d,e,f,g,h,i,j,k)) λj=>Qag Qap PF_I λk=>Qex ((a,b,c,d,e,f,g,h,i,decide (j=1),k):Codec.Msg);refine PA_cg (λs=>?_) H;unfold F.cq F.bG;rfl
def fin {α:Type}(p:Pz α)(z:α)(bs:List UInt8):α×Int:=match p bs with
 | .inl e=>(z,e)
 | .inr (x,k)=>if k<bs.length then(z,72)else(x,0)
def P_fin {α:Type}{f:Rd->Option (Int ⊕ (α×Rd))}{p:Pz α}(V:PA f p)(hp:PF p)(z:α)(bs:List UInt8)(W:bs.length<=70368744177664)(R1:Int->α->α->Option α)(J: ∀e x y,R1 e x y=if e≠0 then some x else some y):
  ((F.dk bs).bind λY=>A.om Y none λp7=>(f p7).bind λr13=>A.se r13 (λe=>(R1 e z z).bind λr=>some (r,e)) λx15=>(F.bp x15.2).bind λr25=>(R1 r25 z x15.1).bind λr=>some (r,r25))=some (fin p z bs):=by
 have e0:F.dk bs=some (some (true,bs,0)):=by
  unfold F.dk F.d4;rw[A.gd1 (by simp;omega),Qa,A.gd1 ⟨by omega,by simp⟩];simp
 rw[e0,Qa];have:=V bs 0 (by omega) W;simp only[A.om];rw[show((true,bs,0):Rd)=(true,bs,((0:Nat):Int))from rfl,this,Qa];unfold fin;rw[Wh];cases N:p bs with
 |inl e=>
  have L:=(hp bs).1 e N;simp only[ot,A.se];rw[J,Qc L];rfl
 |inr v=>
  obtain⟨x,k⟩:=v;have hk:=(hp bs).2 x k N;simp only[ot,A.se];unfold F.bp F.ap;rw[Qa,Qb (by simp)]
  (try dsimp only)
  by_cases O:k<bs.length;rw[Qc (by omega),Qc O,Qa,J,Qc (by decide)];rfl;rw[Qb (by omega),Qb O,Qa,J,Qb (by decide)];rfl
def zM:Codec.Msg:=(0,0,(0,0),(0,0,(0,0,0,0)),[],[],([],[],[]),0,[],false,0)
def Qib (bs:List UInt8)(J:bs.length<=70368744177664):F.bV bs=some (fin (pL pEn) [] bs):=by
 have L:F.aw bs=some (fin (pL pEn) [] bs):=P_fin PA_Es (PF_L PF_En) [] bs J F.a7 (λe x y=>rfl);unfold F.bV;rw[L,Qa]
def pMsg_eq (bs:List UInt8)(J:bs.length<=70368744177664):F.ce bs=some (fin pMs zM bs):=by
 have L:F.aJ bs=some (fin pMs zM bs):=P_fin PA_Ms PF_Ms zM bs J F.bq (λe x y=>rfl);unfold F.ce;rw[L,Qa]
def lD (d:Codec.Delta):Prop:=d.1.length<=65536/\(d.2.1.length<=65536/\∀n∈d.2.1,n.2.2.1.length<=65536)/\d.2.2.length<=65536
def lM (m:Codec.Msg):Prop:=m.2.2.2.2.1.length<=65536/\m.2.2.2.2.2.1.length<=65536/\lD m.2.2.2.2.2.2.1/\m.2.2.2.2.2.2.2.2.1.length<=65536
def PQ_mono {α:Type}{p:Pz α}{P Q:α->Prop}(h:PQ p P)(hq: ∀x,P x->Q x):PQ p Q:=λbs x k J=>hq x (h bs x k J)
def Qis {α:Type}(xs:List α)(V:xs.length<=65536)(L:Nat->Int->Option Bool)(r:Option Bool)(h0: ∀f,L (f+1) (xs.length:Int)=r)
  (J: ∀f (k:Nat) x,xs[k]?=some x->k<xs.length->L (f+1) (k:Int)=L f ((k:Int)+1)):L A.FU 0=r:=
 A.lp xs (λf (_:Unit) y=>L f y) (λ_ _ _=>r) (λ_ _=>True) (λf s _=>h0 f) (λf s k x N hk _ O=>by rw[J f k x N hk];exact O () trivial) (by have:=Qab;omega) () trivial
def sameMoves (l:List Codec.Move)(J:l.length<=65536):F.c8 l l=some true:=by
 unfold F.c8;rw[Qb (by simp)];exact Qis l J (F.be l l) _ (λf=>by rw[F.be,Qb (by omega)]) (λf k x L hk=>by
  rw[F.be,Qc (by omega),A.ixn L,Qa,Qa,Qb (by simp),A.gd1 (A.r64n (by omega))])
def Qit (l:List Codec.Entry)(J:l.length<=65536):F.cG l l=some true:=by
 unfold F.cG;rw[Qb (by simp)];exact Qis l J (F.aY l l) _ (λf=>by rw[F.aY,Qb (by omega)]) (λf k x L hk=>by
  rw[F.aY,Qc (by omega),A.ixn L,Qa,Qa,Qb (by simp),A.gd1 (A.r64n (by omega))])
def sameRecs (l:List Codec.Rec)(J:l.length<=65536):F.dn l l=some true:=by
 unfold F.dn;rw[Qb (by simp)];exact Qis l J (F.br l l) _ (λf=>by rw[F.br,Qb (by omega)]) (λf k x L hk=>by
  rw[F.br,Qc (by omega),A.ixn L,Qa,Qa,Qb (by simp),A.gd1 (A.r64n (by omega))])
def Qhm (l:List Codec.Node)(N:l.length<=65536)(L: ∀n∈l,n.2.2.1.length<=65536):F.d2 l l=some true:=by
 unfold F.d2;rw[Qb (by simp)];exact Qis l N (F.a6 l l) _ (λf=>by rw[F.a6,Qb (by omega)]) (λf k x J hk=>by
  rw[F.a6,Qc (by omega),A.ixn J,Qa,Qa];unfold F.d5;rw[Qb (by simp)];unfold F.dF;rw[Qb (by simp)];exact Qis x.2.2.1 (L x (Qg J)) (F.cI (F.a6 l l f) (k:Int) x.2.2.1 x.2.2.1) _ (λf=>by
    rw[F.cI,Qb (by omega),A.gd1 (A.r64n (by omega))]) (λf j y O W=>by
   have V:=L x (Qg J);rw[F.cI,Qc (by omega),A.ixn O,Qa,Qa,Qb (by simp),A.gd1 (A.r64n (by omega))]))
def sameDelta (d:Codec.Delta)(h:lD d):F.c9 d d=some true:=by
 unfold F.c9 F.bL;rw[Qb (by simp),Qhm _ h.2.1.1 h.2.1.2,Qa,Qb (by simp),sameMoves _ h.2.2,Qa,Qb (by simp)];exact Qis d.1 h.1 (F.bf d d) _ (λf=>by rw[F.bf,Qb (by omega)]) (λf k x J hk=>by
  have:=h.1;rw[F.bf,Qc (by omega),A.ixn J,Qa,Qa,Qb (by simp),A.gd1 (A.r64n (by omega))])
def sameMsg (m:Codec.Msg)(h:lM m):F.cJ m m=some true:=by
 obtain⟨J,L,N,O⟩:=h;unfold F.cJ F.cf;rw[Qb (by simp),Qb (by simp),Qb (by simp)];exact Qis m.2.2.2.2.2.1 L (F.bM m m) _ (λf=>by
   rw[F.bM,Qb (by omega),sameRecs _ J,Qa,Qc rfl];rw[show(m.2.2.2.2.2.2.1:Codec.Delta)=m.2.2.2.2.2.2.1 from rfl,sameDelta _ N,Qa,Qc rfl,Qit _ O];rfl) (λf k x V hk=>by
  rw[F.bM,Qc (by omega),A.ixn V,Qa,Qa,Qb (by simp),A.gd1 (A.r64n (by omega))])
def sumL {α:Type}(ys:List α)(f:α->Nat)(L:Nat->Int->Int->Option Bool)(K:Int->Option Bool)(T:Option Bool->Prop)(hy:ys.length<=300)(J:Int)(hu:0<=J/\J<=1048576)
  (h0: ∀fu u,L (fu+1) u (ys.length:Int)=K u)
  (h1: ∀fu u (k:Nat) x,ys[k]?=some x->k<ys.length->0<=u->u<=1048576->∃v,L (fu+1) u (k:Int)=L fu v ((k:Int)+1)/\u<=v/\v<=1048576/\min (u+min (f x:Int) 1048576) 1048576<=v)
  (hK: ∀u,J<=u->u<=1048576->Codec.seen f ys u->T (K u)):T (L A.FU J 0):=by
 have main: ∀n k fu u,k+n=ys.length->n<fu->J<=u->u<=1048576->Codec.seen f (ys.take k) u->T (L fu u ((k:Nat):Int)):=by
  intro n;induction n with
  |zero=>
   intro k fu u hk Y O N W;obtain⟨fu,rfl⟩: ∃f',fu=f'+1:=⟨fu-1,by omega⟩;obtain rfl:k=ys.length:=by omega
   rw[h0];rw[Xz]at W;exact hK u O N W
  |succ n ih=>
   intro k fu u hk Y O N W;obtain⟨fu,rfl⟩: ∃f',fu=f'+1:=⟨fu-1,by omega⟩;have V:k<ys.length:=by omega
   have hx:ys[k]?=some ys[k]:=Qf V;obtain⟨v,e,h2,h3,h4⟩:=h1 fu u k _ hx V (by omega) N;rw[e];exact ih (k+1) fu v (by omega) (by omega) (by omega) h3 (Codec.seen_step W hx (by omega) h4)
 have:=main ys.length 0 A.FU J (by omega) (by have:=Qab;omega) (by omega) hu.2 (Codec.seen_nil f J);exact this
def all_of_seen {α:Type}{f:α->Nat}{xs:List α}{u:Int}{c m:Nat}(h:Codec.seen f (xs.take c) u)(J:xs.length<=c)(N:u<=m)(O:m<1048576): ∀a∈xs,f a<=m:=λa L=>by
 rw[Q7 J]at h;have:=h (by omega) a L;omega
def tk300 {α:Type}(xs:List α):xs.take ((min (xs.length:Int) 300).toNat)=xs.take 300:=by
 by_cases h:xs.length<=300;rw[show(min (xs.length:Int) 300).toNat=xs.length by omega,Xz,Q7 h];rw[show(min (xs.length:Int) 300).toNat=300 by omega]
def tk99 {α:Type}(xs:List α):xs.take ((min (xs.length:Int) 99).toNat)=xs.take 99:=by
 by_cases h:xs.length<=99;rw[show(min (xs.length:Int) 99).toNat=xs.length by omega,Xz,Q7 h];rw[show(min (xs.length:Int) 99).toNat=99 by omega]
def Qek (l:List Codec.Node): ∃b,F.dK l=some b/\(b=true->l.length<=40/\∀a∈l,sNode a):=by
 unfold F.dK;rw[A.gd1 ⟨by omega,by omega⟩];refine sumL (l.take 99) (λn:Codec.Node=>n.2.2.1.length+n.2.2.2.1.2.2.size+n.2.2.2.2.1.size) (F.ch l) (λu=>some (bif decide ((l.length:Int)<=40)then decide (u<=5000)else false)) (λo=>∃b,o=some b/\(b=true->l.length<=40/\∀a∈l,sNode a))
  (by rw[Qp];omega) 0 (by omega) (λfu u=>by rw[F.ch,tk99,Qb (by omega)]) (λfu u k x J hk h0 L=>?_) (λu h0 L N=>⟨_,rfl,λO=>?_⟩)
 have V:k<99:=by rw[Qp]at hk;omega
 refine⟨_,by rw[F.ch,tk99,Qc (by omega),A.ixn J,Qa,A.gd1 ⟨⟨by omega,by omega⟩,⟨by omega,by omega⟩,by omega,by omega⟩,A.gd1 (A.r64n (by omega))],by omega,by omega,by omega⟩;have:=Qeg.1 O;refine⟨by omega,λa W=>?_⟩;have:=all_of_seen (m:=5000) N (by omega) (by omega) (by omega) a W;unfold sNode;omega
def o_bW (m:Codec.Msg): ∃b,F.dm m=some b/\(b=true->sMsg m):=by
 unfold F.dm;rw[A.gd1 ⟨by omega,by omega⟩];refine sumL (m.2.2.2.2.1.take 300) (λr:Codec.Rec=>r.2.size) (F.co m) _ (λo=>∃b,o=some b/\(b=true->sMsg m)) (by rw[Qp];omega) 0 (by omega)
  (λfu u=>by rw[F.co,tk300,Qb (by omega),A.gd1 ⟨by omega,by omega⟩]) (λfu u k x J hk h0 Y=>?_) (λu1 a1 b1 N=>?_)
 have L:k<300:=by rw[Qp]at hk;omega
 refine⟨_,by rw[F.co,tk300,Qc (by omega),A.ixn J,Qa,A.gd1 ⟨by omega,by omega⟩,A.gd1 (A.r64n (by omega))],by omega,by omega,by omega⟩;refine sumL (m.2.2.2.2.2.2.2.2.1.take 300) (λr:Codec.Entry=>r.2.2.1.size) (F.cn m) _ (λo=>∃b,o=some b/\(b=true->sMsg m)) (by rw[Qp];omega) u1 (by omega)
  (λfu u=>by rw[F.cn,tk300,Qb (by omega),A.gd1 ⟨by omega,by omega⟩]) (λfu u k x J hk h0 Y=>?_) (λu2 a2 b2 O=>?_)
 have L:k<300:=by rw[Qp]at hk;omega
 refine⟨_,by rw[F.cn,tk300,Qc (by omega),A.ixn J,Qa,A.gd1 ⟨by omega,by omega⟩,A.gd1 (A.r64n (by omega))],by omega,by omega,by omega⟩;refine sumL (m.2.2.2.2.2.2.1.2.2.take 300) (λr:Codec.Move=>r.2.2.2.2.2.2.size) (F.cm m) _ (λo=>∃b,o=some b/\(b=true->sMsg m)) (by rw[Qp];omega) u2 (by omega)
  (λfu u=>by rw[F.cm,tk300,Qb (by omega)]) (λfu u k x J hk h0 Y=>?_) (λu3 a3 b3 V=>?_)
 have L:k<300:=by rw[Qp]at hk;omega
 refine⟨_,by rw[F.cm,tk300,Qc (by omega),A.ixn J,Qa,A.gd1 ⟨by omega,by omega⟩,A.gd1 (A.r64n (by omega))],by omega,by omega,by omega⟩;unfold F.dl;split;rename_i W;obtain⟨b,hb,hn⟩:=Qek m.2.2.2.2.2.2.1.2.1;refine⟨b,by rw[hb];rfl,λe=>?_⟩;obtain⟨n1,n2⟩:=hn e;have W:(((((m.2.2.2.2.1.length:Int)<=200/\(m.2.2.2.2.2.1.length:Int)<=200)/\(m.2.2.2.2.2.2.2.2.1.length:Int)<=200)/\(m.2.2.2.2.2.2.1.2.2.length:Int)<=200)/\(m.2.2.2.2.2.2.1.1.length:Int)<=200)/\u3<=9000:=by
  revert W;simp only[A.ba,Qq];exact id
 obtain⟨⟨⟨⟨⟨c1,c2⟩,c3⟩,c4⟩,c5⟩,c6⟩:=W;exact⟨⟨by omega,all_of_seen (m:=9000) N (by omega) (by omega) (by omega)⟩,by omega,⟨by omega,all_of_seen (m:=9000) O (by omega) (by omega) (by omega)⟩,⟨by omega,all_of_seen (m:=9000) V (by omega) (by omega) (by omega)⟩,by omega,n1,n2⟩;exact⟨false,rfl,λe=>by cases e⟩
def o_bN:F.ea=some true:=by kernel_rfl
end Go.Proofs.YtpoabedecgeamaaGreatDoor
end
section
namespace Go.Codec
def takeI_up {L:Nat}{n:Int}{be r:Bytes}{neg:Bool}(J:be.length=L)(W:1<=L)(Y:L<=8)(hv:val be<9223372036854775808)(N:n=if neg then-1-(val be:Int)else(val be:Int))(O:encInt n=UInt8.ofNat ((if neg then 207 else 199)+L)::be):
  takeI (UInt8.ofNat ((if neg then 207 else 199)+L)::be++r)=(n,L+1,0):=by
 have V:(UInt8.ofNat ((if neg then 207 else 199)+L)).toNat=(if neg then 207 else 199)+L:=Qge _ (by split<;>omega);have hbody:intBody L neg (UInt8.ofNat ((if neg then 207 else 199)+L)::be++r)=(n,L+1,0):=by
  have e1:((UInt8.ofNat ((if neg then 207 else 199)+L)::be++r).drop 1).take L=be:=by
   rw[Wi,List.drop_succ_cons,Wh,<-J,Yo]
  refine o_aR (by simp;omega) (by rw[e1];omega) (by rw[e1];exact N) ?_;rw[O,Wi,List.take_succ_cons,<-J,Yo]
 simp only[Wi,takeI,V]at hbody ⊢;cases neg;simp only[Qv,Q5]at hbody ⊢;rw[Qb (by omega),Qb (by omega),Qb (by omega),Qb (by omega),Qb (by omega),show 199+L-199=L by omega];exact hbody;simp only[Wx]at hbody ⊢;rw[Qb (by omega),Qb (by omega),Qb (by omega),Qb (by omega),Qc (by omega),show 207+L-207=L by omega];exact hbody
def enc_forms (n:Int)(h:okInt n):(∃c:UInt8,encInt n=[c])\/∃(neg:Bool) (be:Bytes),1<=be.length/\be.length<=8/\val be<9223372036854775808/\(n=if neg then-1-(val be:Int)else(val be:Int))/\encInt n=UInt8.ofNat ((if neg then 207 else 199)+be.length)::be:=by
 unfold okInt at h;have O:(256:Nat)^8=18446744073709551616:=by decide
 by_cases J:0<=n/\n<100;left;exact⟨_,by unfold encInt;rw[Qc J]⟩;by_cases L:n<0/\ -50<=n;left;exact⟨_,by unfold encInt;rw[Qb J,Qc L]⟩;right;by_cases N:0<=n;refine⟨false,be 8 n.toNat,be_pos 7 _ (by omega),Qbe 8 _,?_,?_,?_⟩;rw[val_be 8 _ (by omega)];omega;rw[val_be 8 _ (by omega)];simp;omega;unfold encInt;rw[Qb J,Qb L,Qc N];simp;refine⟨true,be 8 (-1-n).toNat,be_pos 7 _ (by omega),Qbe 8 _,?_,?_,?_⟩;rw[val_be 8 _ (by omega)];omega;rw[val_be 8 _ (by omega)];simp;omega;unfold encInt;rw[Qb J,Qb L,Qb N];simp
def Qds (n:Int)(r:Bytes)(h:okInt n):takeI (encInt n++r)=(n,(encInt n).length,0):=by
 by_cases N:0<=n/\n<100;have L:encInt n=[UInt8.ofNat (100+n.toNat)]:=by unfold encInt;rw[Qc N]
 rw[L];simp only[Wz,takeI,Qge (100+n.toNat) (by omega)];rw[Qb (by omega),Qb (by omega),Qc (by omega)];simp;omega;by_cases O:n<0/\ -50<=n;have L:encInt n=[UInt8.ofNat ((50+n).toNat)]:=by unfold encInt;rw[Qb N,Qc O]
 rw[L];simp only[Wz,takeI,Qge (50+n).toNat (by omega)];rw[Qc (by omega)];simp;omega;rcases enc_forms n h with⟨c,J⟩|⟨neg,be',b1,b8,W,Y,L⟩
 exfalso;unfold okInt at h;by_cases V:0<=n;have:=be_pos 7 n.toNat (by omega);unfold encInt at J;rw[Qb N,Qb O,Qc V]at J;injection J with _ J;rw[J]at this;simp at this
 have:=be_pos 7 (-1-n).toNat (by omega);unfold encInt at J;rw[Qb N,Qb O,Qb V]at J;injection J with _ J;rw[J]at this;simp at this
 have:=takeI_up (r:=r) rfl b1 b8 W Y L;rw[L,this];simp
def fr (b:Bytes):Bytes:=encInt (b.length:Int)++b
def fr_length (b:Bytes):(fr b).length=(encInt (b.length:Int)).length+b.length:=by unfold fr;simp
def takeT_fr (b r:Bytes)(h:b.length<=65536):takeT (fr b++r)=(ByteArray.mk b.toArray,(fr b).length,0):=by
 have J:takeI (fr b++r)=((b.length:Int),(encInt (b.length:Int)).length,0):=by
  unfold fr;rw[Qo];exact Qds _ _ (by unfold okInt;omega)
 rw[o_aY (by rw[J];simp) (by rw[J];simp) (by rw[J];simp;omega) (by rw[J];simp[fr];omega),J];simp only[Q4,fr_length];congr 1;unfold fr;rw[Qo,List.drop_left,Yo]
def frs (l:List Bytes):Bytes:=(l.map fr).flatten
end Go.Codec
end
section
namespace Go.Proofs.YtpoabedecgeamaaGreatDoor
open Go.RowKit Go.Codec
def RT {α:Type}(p:Pz α)(b:List UInt8)(x:α):Prop:=∀r,p (b++r)=.inr (x,b.length)
def RT_pb {α β:Type}{p:Pz α}{q:α->Pz β}{b1 b2:List UInt8}{x:α}{y:β}(J:RT p b1 x)(L:RT (q x) b2 y):RT (pb p q) (b1++b2) y:=λr=>by
 unfold pb;rw[Qo,J (b2++r)]
 (try dsimp only)
 rw[List.drop_left,L r,Qd]
def RT_e {α β:Type}{p:Pz α}{f:α->β}{b1:List UInt8}{x:α}(J:RT p b1 x):RT (pb p λa=>pr (f a)) b1 (f x):=λr=>by
 unfold pb;rw[J r];rfl
def RT_I {n:Int}(h:okInt n):RT pI (encInt n) n:=λr=>by
 unfold pI;rw[Qds n r h,Qb (by simp)]
def RT_C {n:Nat}(h:n<=65536):RT pC (encInt (n:Int)) (n:Int):=λr=>by
 unfold pC;rw[Qds _ r (okN (by omega)),Qb (by simp),Qb (by dsimp only;omega),Qb (by dsimp only;omega)]
def RT_T {s:ByteArray}(h:Qbj s):RT pT (Qaq s) s:=λr=>by
 unfold pT;have e:Qaq s=fr s.data.toList:=rfl;rw[e,takeT_fr _ r (show s.data.toList.length<=65536 from h),Qb (by simp)]
def RT_n {α:Type}{p:Pz α}{enc:α->List UInt8}: ∀xs:List α,(∀x∈xs,RT p (enc x) x)->RT (pn p xs.length) (xs.flatMap enc) xs
 | [],_=>λr=>rfl
 |x::xs,h=>by
  rw[List.flatMap_cons,Qi];exact RT_pb (h x (Qj ..)) (RT_e (RT_n xs λy J=>h y (Qh _ J)))
def RT_L {α:Type}{p:Pz α}{enc:α->List UInt8}{xs:List α}(J:xs.length<=65536)(h: ∀x∈xs,RT p (enc x) x):RT (pL p) (Qac enc xs) xs:=
 RT_pb (RT_C J) (RT_n xs h)
def RT_Is {l:List Int}(J:l.length<=65536)(h: ∀n∈l,okInt n):RT (pL pI) (Qac encInt l) l:=RT_L J λn L=>RT_I (h n L)
def RT_Fc {f:Codec.Fn}(J:okFn f)(L:gFn f):RT pFc (Qeu f) f:=RT_pb (RT_I J.1) (RT_pb (RT_I J.2.1) (RT_e (RT_T L)))
def RT_Pl {p:Codec.Place}(J:okPlace p):RT pPl (Qas p) p:=RT_pb (RT_I J.1) (RT_e (RT_I J.2))
def RT_Tm {t:Codec.Time}(J:okTime t):RT pTm (Qaz t) t:=RT_pb (RT_I J.1) (RT_pb (RT_I J.2.1) (RT_pb (RT_I J.2.2.1) (RT_pb (RT_I J.2.2.2.1) (RT_pb (RT_I J.2.2.2.2.1) (RT_e (RT_I J.2.2.2.2.2))))))
def RT_Rc {r:Codec.Rec}(J:okRec r)(L:gRec r):RT pRc (Qbf r) r:=RT_pb (RT_I J.1) (RT_e (RT_T L))
def RT_Ch {c:Codec.Change}(J:okChange c):RT pCh (Qaf c) c:=RT_pb (RT_Pl J.1) (RT_pb (RT_Tm J.2.1) (RT_e (RT_I J.2.2)))
def RT_Nd {n:Codec.Node}(J:okNode n)(L:gNode n):RT pNd (Qaj n) n:=
 RT_pb (RT_I J.1) (RT_pb (RT_I J.2.1) (RT_pb (RT_Is L.1 J.2.2.1.2) (RT_pb (RT_Fc J.2.2.2.1 L.2.1) (RT_pb (RT_T L.2.2) (RT_pb (RT_I J.2.2.2.2.2.1) (RT_e (RT_I J.2.2.2.2.2.2)))))))
def RT_Mv {m:Codec.Move}(J:okMove m)(L:gMove m):RT pMv (Qar m) m:=RT_pb (RT_I J.1) (RT_pb (RT_I J.2.1) (RT_pb (RT_I J.2.2.1) (RT_pb (RT_I J.2.2.2.1) (RT_e (RT_Fc J.2.2.2.2 L)))))
def RT_Dl {d:Codec.Delta}(N:okDelta d)(J:gDelta d):RT pDl (Qax d) d:=
 RT_pb (RT_Is J.1 N.1.2) (RT_pb (RT_L J.2.1.1 λn L=>RT_Nd (N.2.1.2 n L) (J.2.1.2 n L)) (RT_e (RT_L J.2.2.1 λn L=>RT_Mv (N.2.2.2 n L) (J.2.2.2 n L))))
def RT_En {x:Codec.Entry}(J:okEntry x)(L:Qea x):RT pEn (Qai x) x:=RT_pb (RT_I J.1) (RT_pb (RT_I J.2.1) (RT_pb (RT_T L) (RT_e (RT_I J.2.2.2))))
def RT_Ys (b:Bool):RT pYs (encInt (b01 b)) b:=λr=>by
 have h:okInt (b01 b):=by unfold b01 okInt;cases b<;>simp
 unfold pYs pb;rw[RT_I h r]
 (try dsimp only)
 cases b<;>rfl
def RT_Ms {m:Codec.Msg}(N:okMsg m)(L:gMsg m):RT pMs (Qbq m) m:=by
 obtain⟨O,V,W,Y,o5,o6,o7,o8,o9,_,o11⟩:=N;exact RT_pb (RT_I O) (RT_pb (RT_I V) (RT_pb (RT_Pl W) (RT_pb (RT_Tm Y) (RT_pb (RT_L L.1.1 λn J=>RT_Rc (o5.2 n J) (L.1.2 n J)) (RT_pb (RT_L L.2.1 λn J=>RT_Ch (o6.2 n J)) (RT_pb (RT_Dl o7 L.2.2.1)
  (RT_pb (RT_I o8) (RT_pb (RT_L L.2.2.2.1 λn J=>RT_En (o9.2 n J) (L.2.2.2.2 n J)) (RT_pb (RT_Ys _) (RT_e (RT_I o11)))))))))))
def fin_RT {α:Type}{p:Pz α}{b:List UInt8}{x:α}(h:RT p b x)(z:α):fin p z b=(x,0):=by
 have:=h [];rw[Wk]at this;unfold fin;rw[this];dsimp only;rw[Qb (by omega)]
def Qec (bs:List UInt8)(h:(takeI bs).2.2=0):encInt (takeI bs).1=bs.take (takeI bs).2.1:=by
 have body: ∀n neg bs,(intBody n neg bs).2.2=0->encInt (intBody n neg bs).1=bs.take (intBody n neg bs).2.1:=by
  intro n neg bs h;by_cases J:bs.length<=n;rw[Qbv J]at h;simp at h;by_cases N:9223372036854775808<=val ((bs.drop 1).take n);rw[Qdg J N]at h;simp at h;by_cases L:encInt (if neg then-1-(val ((bs.drop 1).take n):Int)else(val ((bs.drop 1).take n):Int))=bs.take (n+1);rw[o_aR J N rfl L];exact L;rw[Qdj J rfl L]at h;simp at h
 cases bs with
 |nil=>simp[takeI]at h
 |cons b r=>
  have W:=b.toNat_lt;simp only[takeI]at h ⊢;by_cases J:b.toNat<50
  ·rw[Qc J]
   (try dsimp only)
   unfold encInt;rw[Qb (by omega),Qc (by omega),show(50+((b.toNat:Int)-50)).toNat=b.toNat by omega,UInt8.ofNat_toNat];rfl
  rw[Qb J]at h ⊢;by_cases N:b.toNat<100;rw[Qc N]at h;simp at h;rw[Qb N]at h ⊢;by_cases L:b.toNat<=199
  ·rw[Qc L]
   (try dsimp only)
   unfold encInt;rw[Qc (by omega),show 100+((b.toNat:Int)-100).toNat=b.toNat by omega,UInt8.ofNat_toNat];rfl
  rw[Qb L]at h ⊢;by_cases O:215<b.toNat;rw[Qc O]at h;simp at h;rw[Qb O]at h ⊢;by_cases V:207<b.toNat;rw[Qc V]at h ⊢;exact body _ _ _ h;rw[Qb V]at h ⊢;exact body _ _ _ h
def IV {α:Type}(p:Pz α)(E:α->List UInt8):Prop:=∀bs x k,p bs=.inr (x,k)->E x=bs.take k
def IW {β:Type}(p:Pz β)(pre:List UInt8)(E:β->List UInt8):Prop:=∀bs y k,p bs=.inr (y,k)->E y=pre++bs.take k
def IW_pb {α β:Type}{p:Pz α}{q:α->Pz β}{Ea:α->List UInt8}{E:β->List UInt8}{pre:List UInt8}(hp:IV p Ea)(hq: ∀x,IW (q x) (pre++Ea x) E):IW (pb p q) pre E:=λbs y k h=>by
 unfold pb at h;cases J:p bs with
 |inl e=>rw[J]at h;cases h
 |inr v=>
  obtain⟨x,k0⟩:=v;rw[J]at h;dsimp only at h;cases L:q x (bs.drop k0)with
  |inl e=>rw[L]at h;cases h
  |inr N=>
   obtain⟨O,j⟩:=N;rw[L]at h;cases h;rw[hq x _ _ _ L,hp _ _ _ J,Qo,List.take_add]
def Qde {β:Type}{y:β}{pre:List UInt8}{E:β->List UInt8}(h:E y=pre):IW (pr y) pre E:=λbs y' k h'=>by
 cases h';rw[h];simp
def Qew {β:Type}{p:Pz β}{E:β->List UInt8}(h:IW p [] E):IV p E:=λbs y k hk=>by simpa using h bs y k hk
def IV_I:IV pI encInt:=λbs x k h=>by
 unfold pI at h;split at h;cases h;rename_i h0;cases h;exact Qec bs (by simpa using h0)
def IV_C:IV pC encInt:=λbs x k h=>by
 unfold pC at h;split at h;cases h;rename_i h0;split at h;cases h;split at h;cases h;cases h;exact Qec bs (by simpa using h0)
def IV_T:IV pT Qaq:=λbs x k h=>by
 unfold pT at h;split at h;cases h;rename_i h0;cases h;have J:(takeI bs).2.2=0:=by
  by_cases J:(takeI bs).2.2≠0;rw[Qeo J]at h0;exact absurd J (by simpa using h0);simpa using J
 by_cases L:(takeI bs).1<0;rw[Qdo (by simp[J]) L]at h0;simp at h0;by_cases N:65536<(takeI bs).1;rw[Qer (by simp[J]) N]at h0;simp at h0;by_cases V:((bs.length:Int)-(takeI bs).2.1)<(takeI bs).1;rw[Qcc (by simp[J]) L N V]at h0;simp at h0;rw[o_aY (by simp[J]) L N V]
 (try dsimp only)
 have hk:(takeI bs).2.1<=bs.length:=by
  rcases Qav bs with⟨_,_,O,_⟩|⟨O,_⟩
  exact O;exact absurd J O
 have W:((bs.drop (takeI bs).2.1).take (takeI bs).1.toNat).length=(takeI bs).1.toNat:=by rw[Qp,Qz];omega
 unfold Qaq;show encInt ((((bs.drop (takeI bs).2.1).take (takeI bs).1.toNat).toArray.size:Nat):Int)++((bs.drop (takeI bs).2.1).take (takeI bs).1.toNat).toArray.toList=_;rw[Yk,W,show(((takeI bs).1.toNat:Nat):Int)=(takeI bs).1 by omega,Qec bs J,List.take_add]
def IW_n {α:Type}{p:Pz α}{enc:α->List UInt8}(hp:IV p enc): ∀n pre,IW (pn p n) pre λxs=>pre++xs.flatMap enc
 |0,pre=>Qde (by simp)
 |n+1,pre=>IW_pb hp λx=>IW_pb (Ea:=λxs=>xs.flatMap enc) (λbs xs k h=>by simpa using IW_n hp n [] bs xs k h) λxs=>Qde (by simp[Qo])
def IV_L {α:Type}{p:Pz α}{enc:α->List UInt8}(hp:IV p enc):IV (pL p) (Qac enc):=λbs xs k h=>by
 unfold pL pb at h;cases J:pC bs with
 |inl e=>rw[J]at h;cases h
 |inr v=>
  obtain⟨n,k0⟩:=v;rw[J]at h;dsimp only at h;have O:=PQ_C _ _ _ J;cases L:pn p n.toNat (bs.drop k0)with
  |inl e=>rw[L]at h;cases h
  |inr N=>
   obtain⟨V,j⟩:=N;rw[L]at h;cases h;have e:=IW_n hp n.toNat [] _ _ _ L;have e2:=(PQ_n (PQ_t p) n.toNat _ _ _ L).1;simp only[Wc]at e;unfold Qac;rw[e,e2,show((n.toNat:Nat):Int)=n by omega,IV_C _ _ _ J,List.take_add]
def IV_Fc:IV pFc Qeu:=Qew (IW_pb IV_I λa=>IW_pb IV_I λb=>IW_pb IV_T λc=>Qde (by simp[Qeu]))
def IV_Pl:IV pPl Qas:=Qew (IW_pb IV_I λa=>IW_pb IV_I λb=>Qde (by simp[Qas]))
def IV_Tm:IV pTm Qaz:=Qew (IW_pb IV_I λa=>IW_pb IV_I λb=>IW_pb IV_I λc=>IW_pb IV_I λd=>IW_pb IV_I λe=>IW_pb IV_I λf=>Qde (by simp[Qaz,Qhp]))
def IV_Rc:IV pRc Qbf:=Qew (IW_pb IV_I λa=>IW_pb IV_T λb=>Qde (by simp[Qbf]))
def IV_Ch:IV pCh Qaf:=Qew (IW_pb IV_Pl λa=>IW_pb IV_Tm λb=>IW_pb IV_I λc=>Qde (by simp[Qaf]))
def IV_Nd:IV pNd Qaj:=Qew (IW_pb IV_I λa=>IW_pb IV_I λb=>IW_pb (IV_L IV_I) λc=>IW_pb IV_Fc λd=>IW_pb IV_T λe=>IW_pb IV_I λf=>IW_pb IV_I λg=>Qde (by simp[Qaj]))
def IV_Mv:IV pMv Qar:=Qew (IW_pb IV_I λa=>IW_pb IV_I λb=>IW_pb IV_I λc=>IW_pb IV_I λd=>IW_pb IV_Fc λe=>Qde (by simp[Qar]))
def IV_Dl:IV pDl Qax:=Qew (IW_pb (IV_L IV_I) λa=>IW_pb (IV_L IV_Nd) λb=>IW_pb (IV_L IV_Mv) λc=>Qde (by simp[Qax]))
def IV_En:IV pEn Qai:=Qew (IW_pb IV_I λa=>IW_pb IV_I λb=>IW_pb IV_T λc=>IW_pb IV_I λd=>Qde (by simp[Qai]))
def IV_Ys:IV pYs λb=>encInt (b01 b):=λbs x k h=>by
 unfold pYs pb at h;cases J:pI bs with
 |inl e=>rw[J]at h;cases h
 |inr v=>
  obtain⟨n,k0⟩:=v;rw[J]at h;dsimp only at h;by_cases L:n=0\/n=1;rw[Qc L]at h;cases h;have e:=IV_I _ _ _ J;rcases L with rfl|rfl<;>exact e
  rw[Qb L]at h;cases h
def IV_Ms:IV pMs Qbq:=Qew (IW_pb IV_I λa=>IW_pb IV_I λb=>IW_pb IV_Pl λc=>IW_pb IV_Tm λd=>IW_pb (IV_L IV_Rc) λe=>IW_pb (IV_L IV_Ch) λf=>IW_pb IV_Dl λg=>IW_pb IV_I λh=>IW_pb (IV_L IV_En) λi=>IW_pb IV_Ys λj=>IW_pb IV_I λk=>Qde (by simp[Qbq]))
def fin_IV {α:Type}{p:Pz α}{E:α->List UInt8}(h:IV p E)(hp:PF p){z:α}{b:List UInt8}(J:(fin p z b).2=0):E (fin p z b).1=b/\∃x k,p b=.inr (x,k)/\(fin p z b).1=x:=by
 unfold fin at J ⊢;cases L:p b with
 |inl e=>
  rw[L]at J;dsimp only at J;exact absurd J ((hp b).1 e L)
 |inr v=>
  obtain⟨x,k⟩:=v;rw[L]at J;dsimp only at J ⊢;have hk:=(hp b).2 x k L;by_cases N:k<b.length;rw[Qc N]at J;simp at J;rw[Qb N];refine⟨?_,x,k,rfl,rfl⟩;rw[h b x k L,Q7 (by omega)]
def PQ_I:PQ pI okInt:=λbs x k h=>by
 unfold pI at h;split at h;cases h;rename_i h0;cases h;rcases Qav bs with⟨_,_,_,_,J⟩|⟨J,_⟩
 exact J;exact absurd J h0
def PQ_T:PQ pT Qbj:=λbs x k h=>by
 unfold pT at h;split at h;cases h;rename_i h0;cases h;rcases Qhe bs with⟨_,_,_,J⟩|⟨J,_⟩
 exact J;exact absurd J h0
def gok {s:ByteArray}(h:Qbj s):okText s:=by unfold Qbj at h;unfold okText;omega
def Qgv {α:Type}{p:Pz α}{P:α->Prop}(hp:PQ p P):PQ (pL p) λxs=>okList P xs/\xs.length<=65536:=PQ_mono (PQ_L hp) λxs h=>⟨⟨by omega,h.2⟩,h.1⟩
def PQ_Fco:PQ pFc λf=>okFn f/\gFn f:=PQ_pb PQ_I λa L=>PQ_pb PQ_I λb N=>PQ_pb PQ_T λc J=>PQ_pr ⟨⟨L,N,gok J⟩,J⟩
def PQ_Plo:PQ pPl okPlace:=PQ_pb PQ_I λa J=>PQ_pb PQ_I λb L=>PQ_pr ⟨J,L⟩
def PQ_Tmo:PQ pTm okTime:=PQ_pb PQ_I λa J=>PQ_pb PQ_I λb L=>PQ_pb PQ_I λc N=>PQ_pb PQ_I λd O=>PQ_pb PQ_I λe V=>PQ_pb PQ_I λf W=>PQ_pr ⟨J,L,N,O,V,W⟩
def PQ_Rco:PQ pRc λr=>okRec r/\gRec r:=PQ_pb PQ_I λa L=>PQ_pb PQ_T λb J=>PQ_pr ⟨⟨L,gok J⟩,J⟩
def PQ_Cho:PQ pCh okChange:=PQ_pb PQ_Plo λa J=>PQ_pb PQ_Tmo λb L=>PQ_pb PQ_I λc N=>PQ_pr ⟨J,L,N⟩
def PQ_Ndo:PQ pNd λn=>okNode n/\gNode n:=PQ_pb PQ_I λa O=>PQ_pb PQ_I λb V=>PQ_pb (Qgv PQ_I) λc J=>PQ_pb PQ_Fco λd L=>PQ_pb PQ_T λe N=>PQ_pb PQ_I λf W=>PQ_pb PQ_I λg Y=>PQ_pr ⟨⟨O,V,J.1,L.1,gok N,W,Y⟩,J.2,L.2,N⟩
def PQ_Mvo:PQ pMv λn=>okMove n/\gMove n:=PQ_pb PQ_I λa L=>PQ_pb PQ_I λb N=>PQ_pb PQ_I λc O=>PQ_pb PQ_I λd V=>PQ_pb PQ_Fco λe J=>PQ_pr ⟨⟨L,N,O,V,J.1⟩,J.2⟩
def PQ_Eno:PQ pEn λn=>okEntry n/\Qea n:=PQ_pb PQ_I λa L=>PQ_pb PQ_I λb N=>PQ_pb PQ_T λc J=>PQ_pb PQ_I λd O=>PQ_pr ⟨⟨L,N,gok J,O⟩,J⟩
def oL {α:Type}{P Q:α->Prop}{l:List α}(h:okList (λx=>P x/\Q x) l/\l.length<=65536):okList P l/\Qip Q l:=⟨⟨h.1.1,λa J=>(h.1.2 a J).1⟩,h.2,λa J=>(h.1.2 a J).2⟩
def PQ_Dlo:PQ pDl λd=>okDelta d/\gDelta d:=PQ_pb (Qgv PQ_I) λa J=>PQ_pb (Qgv PQ_Ndo) λb L=>PQ_pb (Qgv PQ_Mvo) λc N=>PQ_pr ⟨⟨J.1,(oL L).1,(oL N).1⟩,J.2,(oL L).2,(oL N).2⟩
def PQ_Mso:PQ pMs λm=>okMsg m/\gMsg m:=PQ_pb PQ_I λa V=>PQ_pb PQ_I λb W=>PQ_pb PQ_Plo λc Y=>PQ_pb PQ_Tmo λd hd=>PQ_pb (Qgv PQ_Rco) λe J=>PQ_pb (Qgv PQ_Cho) λf L=>PQ_pb PQ_Dlo λg N=>PQ_pb PQ_I λh hh=>PQ_pb (Qgv PQ_Eno) λi O=>PQ_pb (PQ_t _) λj hj=>PQ_pb PQ_I λk hk=>
 PQ_pr ⟨⟨V,W,Y,hd,(oL J).1,L.1,N.1,hh,(oL O).1,trivial,hk⟩,(oL J).2,L.2,N.2,(oL O).2⟩
end Go.Proofs.YtpoabedecgeamaaGreatDoor
end
section
namespace Go.Proofs.YtpoabedecgeamaaGreatDoor
open Go.RowKit Go.Graph
def Ins_eq (k:Int):F.dL k=F.d3 k:=rfl
def Qfi (k:Int):F.d3 k=some (insK k):=by
 unfold F.d3 insK;simp only[Bool.cond_decide];by_cases L:k<1<;>by_cases N:16<k<;>simp[L,N];by_cases J:k=1;simp[J];by_cases O:k=5<;>by_cases V:k=9<;>simp[J,O,V]
def Qhc (c:UInt8):F.el c=some (Qaw c):=by
 unfold F.el Qaw;by_cases J:(97:Int)<=(c.toNat:Int)<;>by_cases L:(c.toNat:Int)<=122<;>simp[J,L]
def digit_eq (c:UInt8):F.eM c=some (Qgk c):=by
 unfold F.eM Qgk;by_cases J:(48:Int)<=(c.toNat:Int)<;>by_cases L:(c.toNat:Int)<=57<;>simp[J,L]
def name_eq (s:ByteArray)(Y:s.size<=5000):F.eW s=some (named s):=by
 have loop:F.cK s A.FU 0=some (Qcy s.data.toList):=A.lp0 s.data.toList (λf y=>F.cK s f y) (λ_ l=>some (Qcy l))
  (λf=>by rw[F.cK,Qb (by rw[Qdz];omega)];rfl)
  (λf k x N hk O=>by
   have hk':k<s.size:=hk;rw[F.cK,Qc (by omega),A.ixn N,Qa,Qhc,Qa];cases L:Qaw x with
   |true=>
    simp only[W9,Qv,Q5,F.d6];rw[A.gd1 (A.r64n (by omega)),O];simp[Qcy,L]
   |false=>
    simp only[Xu,Wx,A.ixn N,Qa,digit_eq,F.d6];cases V:Qgk x with
    |true=>simp only[W9,Qv,Q5];rw[A.gd1 (A.r64n (by omega)),O];simp[Qcy,L,V]
    |false=>simp[Qcy,L,V])
  (by rw[Qdz];have:=Qab;omega)
 unfold F.eW named;by_cases J:s=ByteArray.mk #[];simp[J,F.dG];by_cases W:(16:Int)<(s.size:Int);have h2': ¬(s.size:Int)<=16:=by omega
 simp[J,W,h2',F.dG];have h2':(s.size:Int)<=16:=by omega
 have h0:=Qfq J;have e0:A.ix s.data.toList 0=some (Z.bat s 0):=ixb h0;simp only[J,W,h2',decide_false,cond_false,Qv,Q5,e0,Qa,Qhc,F.dG,loop,decide_true,ne_eq,not_false_eq_true,Xr,Xy];cases Qaw (Z.bat s 0)<;>simp
def Qfs (s:ByteArray)(i:Nat):(s.get! i)=Z.bat s i:=by
 cases s;simp[ByteArray.get!,Z.bat,getElem!_def,Option.getD];rfl
def dec_at (s:ByteArray)(i:Nat):Utf8.decode s i=Lib.decodeN (s.size-i) (Z.bat s i).toNat (Z.bat s (i+1)).toNat (Z.bat s (i+2)).toNat (Z.bat s (i+3)).toNat:=by
 rw[Lib.decode_at,Qfs,Qfs,Qfs,Qfs]
def dec_lt {s:ByteArray}{i:Nat}(h:(Z.bat s i).toNat <128):Utf8.decode s i=((Z.bat s i).toNat,1):=by
 rw[dec_at];unfold Lib.decodeN;rw[Qc h]
def dec_ge {s:ByteArray}{i:Nat}(h:128<=(Z.bat s i).toNat):128<=(Utf8.decode s i).1:=by
 rw[dec_at];unfold Lib.decodeN;rw[Qb (by omega)];repeat' split
 all_goals first|(simp only[];omega)|decide
def named_eq (s:ByteArray)(hs:s.size<=9223372036854775807):F.b9 s=some (named s):=by
 have loop: ∀(n p f:Nat),s.size-p<=n->n<f->F.aQ s f p=some ((if p=0/\0<s.size then Qaw (Z.bat s 0)else true)&&Qcy (s.data.toList.drop p)&&(decide (s≠ByteArray.mk #[])&&decide ((s.size:Int)<=16))):=by
  intro n;induction n with
  |zero=>
   intro p f hp Y;obtain⟨f,rfl⟩: ∃f',f=f'+1:=⟨f-1,by omega⟩;rw[F.aQ,Qb (by omega),Qgl (by omega),Qb (by omega)];by_cases J:s=ByteArray.mk #[]<;>simp[J,Qcy]
  |succ n ih=>
   intro p f hp Y;obtain⟨f,rfl⟩: ∃f',f=f'+1:=⟨f-1,by omega⟩;by_cases L:p<s.size;rw[F.aQ,Qc L,Qgn L];rcases X9 (Z.bat s p).toNat 128 with W|W
   rw[dec_lt W];have V:=ih (p+1) f (by omega) (by omega);rw[Qb (λh=>by omega)]at V;simp only[V];have e1:(bif decide ((97:Int)<=((Z.bat s p).toNat:Int))then decide (((Z.bat s p).toNat:Int)<=122)else false)=decide ((97:Int)<=((Z.bat s p).toNat:Int)/\((Z.bat s p).toNat:Int)<=122):=by by_cases h:(97:Int)<=((Z.bat s p).toNat:Int)<;>simp[h]
   have e2:(bif decide ((65:Int)<=((Z.bat s p).toNat:Int))then decide (((Z.bat s p).toNat:Int)<=90)else false)=decide ((65:Int)<=((Z.bat s p).toNat:Int)/\((Z.bat s p).toNat:Int)<=90):=by by_cases h:(65:Int)<=((Z.bat s p).toNat:Int)<;>simp[h]
   rw[e1,e2];by_cases N:Qaw (Z.bat s p)=true;have hL':=N;simp only[Qaw,Qq]at hL';have e3:(if p=0/\0<s.size then Qaw (Z.bat s 0)else true)=true:=by split;rename_i h;rw[<-h.1];exact N;rfl
   rw[e3];simp only[Qcy,Xi,N,Bool.true_or,Xy];by_cases J:(97:Int)<=((Z.bat s p).toNat:Int)/\((Z.bat s p).toNat:Int)<=122;simp[J];have h2:=hL'.resolve_left J;simp[J,h2];have hL':=N;simp only[Qaw,Qq,not_or]at hL';rw[Bool.not_eq_true]at N;simp only[hL'.1,hL'.2,decide_false,Qv,Q5,Xu,Wx];simp only[Qcy,Xi,N,Xt];by_cases h0:p=0;subst h0;simp[L,N];have h0': ¬(p:Int)=0:=by omega
   simp only[h0,h0',decide_false,cond_false,false_and,Q5,Xy];by_cases O:Qgk (Z.bat s p)=true;have hd':=O;simp only[Qgk,Qq]at hd';have a1: ¬((Z.bat s p).toNat:Int)<48:=by omega
   have a2: ¬(57:Int)<((Z.bat s p).toNat:Int):=by omega
   simp[a1,a2,O];have hd':=O;simp only[Qgk,Qq]at hd';rw[Bool.not_eq_true]at O;by_cases a1:((Z.bat s p).toNat:Int)<48;simp[a1,O];have a2:(57:Int)<((Z.bat s p).toNat:Int):=by omega
   simp[a1,a2,O];have O:=dec_ge W;have N:Qaw (Z.bat s p)=false:=by unfold Qaw;rw[decide_eq_false_iff_not];omega
   have hD:Qgk (Z.bat s p)=false:=by unfold Qgk;rw[decide_eq_false_iff_not];omega
   have b1: ¬((Utf8.decode s p).1:Int)<=122:=by omega
   have b2: ¬((Utf8.decode s p).1:Int)<=90:=by omega
   have b3:(57:Int)<((Utf8.decode s p).1:Int):=by omega
   have b4: ¬((Utf8.decode s p).1:Int)<48:=by omega
   simp[b1,b2,b3,b4,Qcy,N,hD];rw[F.aQ,Qb L,Qgl L,Qb (by omega)];by_cases J:s=ByteArray.mk #[]<;>simp[J,Qcy]
 unfold F.b9;rw[loop s.size 0 A.FU (by omega) (by have:=Qab;omega)];unfold named;by_cases J:s=ByteArray.mk #[];simp[J];have h0:=Qfq J;simp only[h0,and_self,Wx,Wh,ne_eq,J,not_false_eq_true,decide_true,Xy];congr 1;cases Qaw (Z.bat s 0)<;>cases Qcy s.data.toList<;>simp
end Go.Proofs.YtpoabedecgeamaaGreatDoor
end
