import Derived.Test.YtligcbdjiolamaaGreatDoorA6
import Derived.Lib.TrimUEq
import Derived.Lib.MapLaws
import Derived.Lib.ValidU
set_option linter.defProp false
set_option linter.unusedVariables false
set_option linter.unusedSimpArgs false
set_option maxRecDepth 20000
set_option maxHeartbeats 8000000
set_option synthInstance.maxSize 1000000
set_option synthInstance.maxHeartbeats 400000
section
namespace Go.Proofs.YtligcbdjiolamaaGreatDoor
open Go.RowKit
abbrev l7a:QM:=[0,1,2,3,169,334]
variable(A0_ A1_ A2_ A3_ A4_ A5_ A7_ A9_ A10_ A11_ A12_ A13_ A15_ A17_ A19_ A21_ A23_ A25_ A27_ A29_ A31_:QK)(g0_ b1_ c1_ c2_ g2_ c3_ b4_ c4_ b5_ c5_ b6_ c6_ c8_ c10_ g10_ c11_ c12_ c13_ c14_ c16_ c18_ c20_ c22_ c24_ c26_ c28_ c30_ c32_:Nat)
def F.a7:Option (List (Int×(List D58))):=A.gd (Z.R64 (15+1)) (some [])
def F.a8 (e:D70):Option (List (Int×(List D58))):=A.gd (Z.R64 (14+1)) (if(0:Int)<(e.2.2.2.2.2.2.2.2.2.2.2.2.2.2.2.length:Int)then((F.a e.2.2.2.2.2.2.2.2.2.2.2.2.2.2.2).bind λf=>(A.cns (15,f) (F.a7)))else(F.a7))
def F.a9 (e:D70):Option (List (Int×(List D58))):=A.gd (Z.R64 (13+1)) (if(0:Int)<(e.2.2.2.2.2.2.2.2.2.2.2.2.2.2.1.length:Int)then((F.a e.2.2.2.2.2.2.2.2.2.2.2.2.2.2.1).bind λf=>(A.cns (14,f) (F.a8 e)))else(F.a8 e))
def F.ba (e:D70):Option (List (Int×(List D58))):=A.gd (Z.R64 (12+1)) (if(0:Int)<(e.2.2.2.2.2.2.2.2.2.2.2.2.2.1.length:Int)then((F.a e.2.2.2.2.2.2.2.2.2.2.2.2.2.1).bind λf=>(A.cns (13,f) (F.a9 e)))else(F.a9 e))
def F.bb (e:D70):Option (List (Int×(List D58))):=A.gd (Z.R64 (11+1)) (if(0:Int)<(e.2.2.2.2.2.2.2.2.2.2.2.2.1.length:Int)then((F.a e.2.2.2.2.2.2.2.2.2.2.2.2.1).bind λf=>(A.cns (12,f) (F.ba e)))else(F.ba e))
def F.bc (e:D70):Option (List (Int×(List D58))):=A.gd (Z.R64 (10+1)) (if(0:Int)<(e.2.2.2.2.2.2.2.2.2.2.2.1.length:Int)then((F.a e.2.2.2.2.2.2.2.2.2.2.2.1).bind λf=>(A.cns (11,f) (F.bb e)))else(F.bb e))
def F.bd (e:D70):Option (List (Int×(List D58))):=A.gd (Z.R64 (9+1)) (if(0:Int)<(e.2.2.2.2.2.2.2.2.2.2.1.length:Int)then((F.a e.2.2.2.2.2.2.2.2.2.2.1).bind λf=>(A.cns (10,f) (F.bc e)))else(F.bc e))
def F.be (e:D70):Option (List (Int×(List D58))):=A.gd (Z.R64 (8+1)) (if(0:Int)<(e.2.2.2.2.2.2.2.2.2.1.length:Int)then((F.a e.2.2.2.2.2.2.2.2.2.1).bind λf=>(A.cns (9,f) (F.bd e)))else(F.bd e))
def F.bf (e:D70):Option (List (Int×(List D58))):=A.gd (Z.R64 (7+1)) (if(0:Int)<(e.2.2.2.2.2.2.2.2.1.length:Int)then((F.a e.2.2.2.2.2.2.2.2.1).bind λf=>(A.cns (8,f) (F.be e)))else(F.be e))
def F.aM (e:D70):Option (List (Int×(List D58))):=A.gd (Z.R64 (6+1)) (if(0:Int)<(e.2.2.2.2.2.2.2.1.length:Int)then((F.a e.2.2.2.2.2.2.2.1).bind λf=>(A.cns (7,f) (F.bf e)))else(F.bf e))
def F.aN (e:D70):Option (List (Int×(List D58))):=A.gd (Z.R64 (5+1)) (if(0:Int)<(e.2.2.2.2.2.2.1.length:Int)then((F.a e.2.2.2.2.2.2.1).bind λf=>(A.cns (6,f) (F.aM e)))else(F.aM e))
def F.aO (e:D70):Option (List (Int×(List D58))):=A.gd (Z.R64 (4+1)) (if(0:Int)<(e.2.2.2.2.2.1.length:Int)then((F.a e.2.2.2.2.2.1).bind λf=>(A.cns (5,f) (F.aN e)))else(F.aN e))
def F.aP (e:D70):Option (List (Int×(List D58))):=A.gd (Z.R64 (3+1)) (if(0:Int)<(e.2.2.2.2.1.length:Int)then((F.a e.2.2.2.2.1).bind λf=>(A.cns (4,f) (F.aO e)))else(F.aO e))
def F.aQ (e:D70):Option (List (Int×(List D58))):=A.gd (Z.R64 (2+1)) (if(0:Int)<(e.2.2.2.1.length:Int)then((F.a e.2.2.2.1).bind λf=>(A.cns (3,f) (F.aP e)))else(F.aP e))
def F.aR (e:D70):Option (List (Int×(List D58))):=A.gd (Z.R64 (1+1)) (if(0:Int)<(e.2.2.1.length:Int)then((F.a e.2.2.1).bind λf=>(A.cns (2,f) (F.aQ e)))else(F.aQ e))
def F.aS (e:D70):Option (List (Int×(List D58))):=A.gd (Z.R64 (0+1)) (if(0:Int)<(e.2.1.length:Int)then((F.a e.2.1).bind λf=>(A.cns (1,f) (F.aR e)))else(F.aR e))
def F.bj (e:D70):Option (List (Int×(List D58))):=if(0:Int)<(e.1.length:Int)then((F.a e.1).bind λf=>(A.cns (0,f) (F.aS e)))else(F.aS e)
theorem o_aR(f:D70)(xs:List (Int×(List D58)))(a:F.bj f=some xs):
    A.Sq Tryz.prog 26 [.pointer (some ⟨g0_,0,none⟩)] [(0,.el none g0_ 0 (A.ram f A1_ c2_ A3_ c4_ A5_ c6_ A7_ c8_ A9_ c10_ A11_ c12_ A13_ c14_ A15_ c16_ A17_ c18_ A19_ c20_ A21_ c22_ A23_ c24_ A25_ c26_ A27_ c28_ A29_ c30_ A31_ c32_)),(1,.sh (.slice T58) [.slice A1_ f.1.length c2_] f.1),(2,.sh (.slice T58) [.slice A3_ f.2.1.length c4_] f.2.1),(3,.sh (.slice T58) [.slice A5_ f.2.2.1.length c6_] f.2.2.1),(4,.sh (.slice T58) [.slice A7_ f.2.2.2.1.length c8_] f.2.2.2.1),(5,.sh (.slice T58) [.slice A9_ f.2.2.2.2.1.length c10_] f.2.2.2.2.1),(6,.sh (.slice T58) [.slice A11_ f.2.2.2.2.2.1.length c12_] f.2.2.2.2.2.1),(7,.sh (.slice T58) [.slice A13_ f.2.2.2.2.2.2.1.length c14_] f.2.2.2.2.2.2.1),(8,.sh (.slice T58) [.slice A15_ f.2.2.2.2.2.2.2.1.length c16_] f.2.2.2.2.2.2.2.1),(9,.sh (.slice T58) [.slice A17_ f.2.2.2.2.2.2.2.2.1.length c18_] f.2.2.2.2.2.2.2.2.1),(10,.sh (.slice T58) [.slice A19_ f.2.2.2.2.2.2.2.2.2.1.length c20_] f.2.2.2.2.2.2.2.2.2.1),(11,.sh (.slice T58) [.slice A21_ f.2.2.2.2.2.2.2.2.2.2.1.length c22_] f.2.2.2.2.2.2.2.2.2.2.1),(12,.sh (.slice T58) [.slice A23_ f.2.2.2.2.2.2.2.2.2.2.2.1.length c24_] f.2.2.2.2.2.2.2.2.2.2.2.1),(13,.sh (.slice T58) [.slice A25_ f.2.2.2.2.2.2.2.2.2.2.2.2.1.length c26_] f.2.2.2.2.2.2.2.2.2.2.2.2.1),(14,.sh (.slice T58) [.slice A27_ f.2.2.2.2.2.2.2.2.2.2.2.2.2.1.length c28_] f.2.2.2.2.2.2.2.2.2.2.2.2.2.1),(15,.sh (.slice T58) [.slice A29_ f.2.2.2.2.2.2.2.2.2.2.2.2.2.2.1.length c30_] f.2.2.2.2.2.2.2.2.2.2.2.2.2.2.1),(16,.sh (.slice T58) [.slice A31_ f.2.2.2.2.2.2.2.2.2.2.2.2.2.2.2.length c32_] f.2.2.2.2.2.2.2.2.2.2.2.2.2.2.2)] (Z.Ty.pair A.ti (Z.Ty.slice T58)) (λcs=>[Z.vof false (cs.take 1),Z.vof false (cs.drop 1)]) xs:=by
 refine A.Sq.enter Tryz.func26 rfl Tryz.ntmps26 rfl λlid w0 J Jx Φ hY hJ0=>?_;obtain⟨rs0,hrs⟩: ∃rs0,rs0=xs:=⟨_,rfl⟩;have hR0:A.Rem xs 0 rs0:=hrs▸A.Rem.zero xs;rw[F.bj,<-hrs]at a;clear hrs;refine Uy 1 [] [0] [.e 0 0,.n] [(5,.agg #[.slice A1_ f.1.length c2_,.slice A3_ f.2.1.length c4_,.slice A5_ f.2.2.1.length c6_,.slice A7_ f.2.2.2.1.length c8_,.slice A9_ f.2.2.2.2.1.length c10_,.slice A11_ f.2.2.2.2.2.1.length c12_,.slice A13_ f.2.2.2.2.2.2.1.length c14_,.slice A15_ f.2.2.2.2.2.2.2.1.length c16_,.slice A17_ f.2.2.2.2.2.2.2.2.1.length c18_,.slice A19_ f.2.2.2.2.2.2.2.2.2.1.length c20_,.slice A21_ f.2.2.2.2.2.2.2.2.2.2.1.length c22_,.slice A23_ f.2.2.2.2.2.2.2.2.2.2.2.1.length c24_,.slice A25_ f.2.2.2.2.2.2.2.2.2.2.2.2.1.length c26_,.slice A27_ f.2.2.2.2.2.2.2.2.2.2.2.2.2.1.length c28_,.slice A29_ f.2.2.2.2.2.2.2.2.2.2.2.2.2.2.1.length c30_,.slice A31_ f.2.2.2.2.2.2.2.2.2.2.2.2.2.2.2.length c32_]),(6,A.i 0)] 2 ?_;refine A.AX.unr ?_;refine Vq 1 1 [(7,QC)] 2 ?_;refine Vw rfl ?_;refine U0 2 ?_;refine U1 (A.CY 22 Φ) [0,5,6] QF (λi h k=>∃(rs:List (Int×(List D58))),h=[]/\k=[]/\J i.1 i.2/\A.Rem xs i.1 rs/\F.aS f=some rs) ?_ ?_;refine Uf 2 1 [(8,A.i 0)] ?_;refine A.AL.ixv (λv:Value=>v) (A.ram f A1_ c2_ A3_ c4_ A5_ c6_ A7_ c8_ A9_ c10_ A11_ c12_ A13_ c14_ A15_ c16_ A17_ c18_ A19_ c20_ A21_ c22_ A23_ c24_ A25_ c26_ A27_ c28_ A29_ c30_ A31_ c32_) (i:=0) (v:=.slice A1_ f.1.length c2_) rfl ?_ (hx:=by kernel_rfl);refine Vr 2 [(3,A.i 0),(4,.slice A1_ f.1.length c2_)] 2 ?_;refine Uw 4 [(13,.bool (decide ((0:Int)<(f.1.length:Int))))] (V6 (j:=13) rfl a ?_ ?_)<;>intro o a;refine Vp [] [] [.on .n,.on .n,.on .n] [(14,.func (.yield lid) #[] #[]),(15,A.i 0),(16,.slice A1_ f.1.length c2_)] (Vo (dj:=13) rfl rfl ?_);refine Ue 17 [] a (o_a A1_ c2_ f.1) (.l 1 .nil (h1:=by kernel_rfl)) ?_;rintro p - a _ _ ⟨ay,az,rfl,rfl⟩;refine Vs (Vo (dj:=13) rfl rfl ?_);refine U5 17 [] ?_;obtain⟨rs236,hqrs236,a⟩:=Uu a;refine Uv (t:=.pair A.ti (Z.Ty.slice T58)) (x:=(0,p)) hY hJ0 (hqrs236▸hR0) [A.i 0,.slice ay p.length az] ⟨⟨rfl,Vv⟩,.inl ⟨17,rfl⟩⟩ (λr hJ238 hR239=>?_) (λr hX240=>?_);refine V5 [] [] [.on .n,.n] [(20,QB)] 1 ?_;refine V2 rfl ?_;refine Ub 2 ?_;exact Un (1,r) QF [] [] ⟨_,rfl,rfl,hJ238,hR239,a⟩;refine V5 [] [] [.on .n,.n] [(20,QC)] 1 ?_;refine Vw rfl ?_;exact U4 hY hX240;refine V5 [] [] [.off,.off,.off,.off,.off,.off,.n] [(20,QB)] 1 ?_;refine V2 rfl ?_;refine Ub 2 ?_;exact Un (0,w0) QF [] [] ⟨_,rfl,rfl,hJ0,hR0,a⟩;rintro⟨s,w2⟩ _ _ ⟨rs5,rfl,rfl,hJ3,hR4,a⟩;rw[F.aS]at a;refine Vl 0 ?_;have⟨b1,a⟩:=Ui a;refine U3 2 [Z.R64 (0+1)] [(6,A.i 1)] b1 (Vg ?_);refine A.AE.unr ?_;refine Vq 1 1 [(7,QC)] 2 ?_;refine Vw rfl ?_;refine U0 2 ?_;refine U1 (A.CY 22 Φ) [0,5,6] QF (λi h k=>∃(rs:List (Int×(List D58))),h=[]/\k=[]/\J i.1 i.2/\A.Rem xs i.1 rs/\F.aR f=some rs) ?_ ?_;refine Uf 2 1 [(8,A.i 1)] ?_;refine A.AL.ixv (λv:Value=>v) (A.ram f A1_ c2_ A3_ c4_ A5_ c6_ A7_ c8_ A9_ c10_ A11_ c12_ A13_ c14_ A15_ c16_ A17_ c18_ A19_ c20_ A21_ c22_ A23_ c24_ A25_ c26_ A27_ c28_ A29_ c30_ A31_ c32_) (i:=1) (v:=.slice A3_ f.2.1.length c4_) rfl ?_ (hx:=by kernel_rfl);refine Vr 2 [(3,A.i 1),(4,.slice A3_ f.2.1.length c4_)] 2 ?_;refine Uw 4 [(13,.bool (decide ((0:Int)<(f.2.1.length:Int))))] (V6 (j:=13) rfl a ?_ ?_)<;>intro o a;refine Vp [] [] [.on .n,.on .n,.on .n] [(14,.func (.yield lid) #[] #[]),(15,A.i 1),(16,.slice A3_ f.2.1.length c4_)] (Vo (dj:=13) rfl rfl ?_);refine Ue 57 [] a (o_a A3_ c4_ f.2.1) (.l 2 .nil (h1:=by kernel_rfl)) ?_;rintro u - a _ _ ⟨b2,b3,rfl,rfl⟩;refine Vs (Vo (dj:=13) rfl rfl ?_);refine U5 57 [] ?_;obtain⟨rs227,hqrs227,a⟩:=Uu a;refine Uv (t:=.pair A.ti (Z.Ty.slice T58)) (x:=(1,u)) hY hJ3 (hqrs227▸hR4) [A.i 1,.slice b2 u.length b3] ⟨⟨rfl,(V1 1)⟩,.inl ⟨57,rfl⟩⟩ (λw hJ229 hR230=>?_) (λw hX231=>?_);refine V5 [] [] [.on .n,.n] [(20,QB)] 1 ?_;refine V2 rfl ?_;refine Ub 2 ?_;exact Un (s+1,w) QF [] [] ⟨_,rfl,rfl,hJ229,hR230,a⟩;refine V5 [] [] [.on .n,.n] [(20,QC)] 1 ?_;refine Vw rfl ?_;exact U4 hY hX231;refine V5 [] [] [.off,.off,.off,.off,.off,.off,.n] [(20,QB)] 1 ?_;refine V2 rfl ?_;refine Ub 2 ?_;exact Un (s,w2) QF [] [] ⟨_,rfl,rfl,hJ3,hR4,a⟩;rintro⟨y,w8⟩ _ _ ⟨rs11,rfl,rfl,hJ9,hR10,a⟩;rw[F.aR]at a;refine Vl 0 ?_;have⟨b4,a⟩:=Ui a;refine U3 2 [Z.R64 (1+1)] [(6,A.i 2)] b4 (Vg ?_);refine A.AE.unr ?_;refine Vq 1 1 [(7,QC)] 2 ?_;refine Vw rfl ?_;refine U0 2 ?_;refine U1 (A.CY 22 Φ) [0,5,6] QF (λi h k=>∃(rs:List (Int×(List D58))),h=[]/\k=[]/\J i.1 i.2/\A.Rem xs i.1 rs/\F.aQ f=some rs) ?_ ?_;refine Uf 2 1 [(8,A.i 2)] ?_;refine A.AL.ixv (λv:Value=>v) (A.ram f A1_ c2_ A3_ c4_ A5_ c6_ A7_ c8_ A9_ c10_ A11_ c12_ A13_ c14_ A15_ c16_ A17_ c18_ A19_ c20_ A21_ c22_ A23_ c24_ A25_ c26_ A27_ c28_ A29_ c30_ A31_ c32_) (i:=2) (v:=.slice A5_ f.2.2.1.length c6_) rfl ?_ (hx:=by kernel_rfl);refine Vr 2 [(3,A.i 2),(4,.slice A5_ f.2.2.1.length c6_)] 2 ?_;refine Uw 4 [(13,.bool (decide ((0:Int)<(f.2.2.1.length:Int))))] (V6 (j:=13) rfl a ?_ ?_)<;>intro o a;refine Vp [] [] [.on .n,.on .n,.on .n] [(14,.func (.yield lid) #[] #[]),(15,A.i 2),(16,.slice A5_ f.2.2.1.length c6_)] (Vo (dj:=13) rfl rfl ?_);refine Ue 97 [] a (o_a A5_ c6_ f.2.2.1) (.l 3 .nil (h1:=by kernel_rfl)) ?_;rintro z - a _ _ ⟨b5,b6,rfl,rfl⟩;refine Vs (Vo (dj:=13) rfl rfl ?_);refine U5 97 [] ?_;obtain⟨rs218,hqrs218,a⟩:=Uu a;refine Uv (t:=.pair A.ti (Z.Ty.slice T58)) (x:=(2,z)) hY hJ9 (hqrs218▸hR10) [A.i 2,.slice b5 z.length b6] ⟨⟨rfl,(V1 2)⟩,.inl ⟨97,rfl⟩⟩ (λB hJ220 hR221=>?_) (λB hX222=>?_);refine V5 [] [] [.on .n,.n] [(20,QB)] 1 ?_;refine V2 rfl ?_;refine Ub 2 ?_;exact Un (y+1,B) QF [] [] ⟨_,rfl,rfl,hJ220,hR221,a⟩;refine V5 [] [] [.on .n,.n] [(20,QC)] 1 ?_;refine Vw rfl ?_;exact U4 hY hX222;refine V5 [] [] [.off,.off,.off,.off,.off,.off,.n] [(20,QB)] 1 ?_;refine V2 rfl ?_;refine Ub 2 ?_;exact Un (y,w8) QF [] [] ⟨_,rfl,rfl,hJ9,hR10,a⟩;rintro⟨C,b7⟩ _ _ ⟨rs17,rfl,rfl,hJ15,hR16,a⟩;rw[F.aQ]at a;refine Vl 0 ?_;have⟨b9,a⟩:=Ui a;refine U3 2 [Z.R64 (2+1)] [(6,A.i 3)] b9 (Vg ?_);refine A.AE.unr ?_;refine Vq 1 1 [(7,QC)] 2 ?_;refine Vw rfl ?_;refine U0 2 ?_;refine U1 (A.CY 22 Φ) [0,5,6] QF (λi h k=>∃(rs:List (Int×(List D58))),h=[]/\k=[]/\J i.1 i.2/\A.Rem xs i.1 rs/\F.aP f=some rs) ?_ ?_;refine Uf 2 1 [(8,A.i 3)] ?_;refine A.AL.ixv (λv:Value=>v) (A.ram f A1_ c2_ A3_ c4_ A5_ c6_ A7_ c8_ A9_ c10_ A11_ c12_ A13_ c14_ A15_ c16_ A17_ c18_ A19_ c20_ A21_ c22_ A23_ c24_ A25_ c26_ A27_ c28_ A29_ c30_ A31_ c32_) (i:=3) (v:=.slice A7_ f.2.2.2.1.length c8_) rfl ?_ (hx:=by kernel_rfl);refine Vr 2 [(3,A.i 3),(4,.slice A7_ f.2.2.2.1.length c8_)] 2 ?_;refine Uw 4 [(13,.bool (decide ((0:Int)<(f.2.2.2.1.length:Int))))] (V6 (j:=13) rfl a ?_ ?_)<;>intro o a;refine Vp [] [] [.on .n,.on .n,.on .n] [(14,.func (.yield lid) #[] #[]),(15,A.i 3),(16,.slice A7_ f.2.2.2.1.length c8_)] (Vo (dj:=13) rfl rfl ?_);refine Ue 137 [] a (o_a A7_ c8_ f.2.2.2.1) (.l 4 .nil (h1:=by kernel_rfl)) ?_;rintro E - a _ _ ⟨bg,bh,rfl,rfl⟩;refine Vs (Vo (dj:=13) rfl rfl ?_);refine U5 137 [] ?_;obtain⟨rs209,hqrs209,a⟩:=Uu a;refine Uv (t:=.pair A.ti (Z.Ty.slice T58)) (x:=(3,E)) hY hJ15 (hqrs209▸hR16) [A.i 3,.slice bg E.length bh] ⟨⟨rfl,(V1 3)⟩,.inl ⟨137,rfl⟩⟩ (λH hJ211 hR212=>?_) (λH hX213=>?_);refine V5 [] [] [.on .n,.n] [(20,QB)] 1 ?_;refine V2 rfl ?_;refine Ub 2 ?_;exact Un (C+1,H) QF [] [] ⟨_,rfl,rfl,hJ211,hR212,a⟩;refine V5 [] [] [.on .n,.n] [(20,QC)] 1 ?_;refine Vw rfl ?_;exact U4 hY hX213;refine V5 [] [] [.off,.off,.off,.off,.off,.off,.n] [(20,QB)] 1 ?_;refine V2 rfl ?_;refine Ub 2 ?_;exact Un (C,b7) QF [] [] ⟨_,rfl,rfl,hJ15,hR16,a⟩;rintro⟨I,bi⟩ _ _ ⟨rs23,rfl,rfl,hJ21,hR22,a⟩;rw[F.aP]at a;refine Vl 0 ?_;have⟨bk,a⟩:=Ui a;refine U3 2 [Z.R64 (3+1)] [(6,A.i 4)] bk (Vg ?_);refine A.AE.unr ?_;refine Vq 1 1 [(7,QC)] 2 ?_;refine Vw rfl ?_;refine U0 2 ?_;refine U1 (A.CY 22 Φ) [0,5,6] QF (λi h k=>∃(rs:List (Int×(List D58))),h=[]/\k=[]/\J i.1 i.2/\A.Rem xs i.1 rs/\F.aO f=some rs) ?_ ?_;refine Uf 2 1 [(8,A.i 4)] ?_;refine A.AL.ixv (λv:Value=>v) (A.ram f A1_ c2_ A3_ c4_ A5_ c6_ A7_ c8_ A9_ c10_ A11_ c12_ A13_ c14_ A15_ c16_ A17_ c18_ A19_ c20_ A21_ c22_ A23_ c24_ A25_ c26_ A27_ c28_ A29_ c30_ A31_ c32_) (i:=4) (v:=.slice A9_ f.2.2.2.2.1.length c10_) rfl ?_ (hx:=by kernel_rfl);refine Vr 2 [(3,A.i 4),(4,.slice A9_ f.2.2.2.2.1.length c10_)] 2 ?_;refine Uw 4 [(13,.bool (decide ((0:Int)<(f.2.2.2.2.1.length:Int))))] (V6 (j:=13) rfl a ?_ ?_)<;>intro o a;refine Vp [] [] [.on .n,.on .n,.on .n] [(14,.func (.yield lid) #[] #[]),(15,A.i 4),(16,.slice A9_ f.2.2.2.2.1.length c10_)] (Vo (dj:=13) rfl rfl ?_);refine Ue 177 [] a (o_a A9_ c10_ f.2.2.2.2.1) (.l 5 .nil (h1:=by kernel_rfl)) ?_;rintro L - a _ _ ⟨bm,bp,rfl,rfl⟩;refine Vs (Vo (dj:=13) rfl rfl ?_);refine U5 177 [] ?_;obtain⟨rs200,hqrs200,a⟩:=Uu a;refine Uv (t:=.pair A.ti (Z.Ty.slice T58)) (x:=(4,L)) hY hJ21 (hqrs200▸hR22) [A.i 4,.slice bm L.length bp] ⟨⟨rfl,(V1 4)⟩,.inl ⟨177,rfl⟩⟩ (λN hJ202 hR203=>?_) (λN hX204=>?_);refine V5 [] [] [.on .n,.n] [(20,QB)] 1 ?_;refine V2 rfl ?_;refine Ub 2 ?_;exact Un (I+1,N) QF [] [] ⟨_,rfl,rfl,hJ202,hR203,a⟩;refine V5 [] [] [.on .n,.n] [(20,QC)] 1 ?_;refine Vw rfl ?_;exact U4 hY hX204;refine V5 [] [] [.off,.off,.off,.off,.off,.off,.n] [(20,QB)] 1 ?_;refine V2 rfl ?_;refine Ub 2 ?_;exact Un (I,bi) QF [] [] ⟨_,rfl,rfl,hJ21,hR22,a⟩;rintro⟨P,bq⟩ _ _ ⟨rs29,rfl,rfl,hJ27,hR28,a⟩;rw[F.aO]at a;refine Vl 0 ?_;have⟨br,a⟩:=Ui a;refine U3 2 [Z.R64 (4+1)] [(6,A.i 5)] br (Vg ?_);refine A.AE.unr ?_;refine Vq 1 1 [(7,QC)] 2 ?_;refine Vw rfl ?_;refine U0 2 ?_;refine U1 (A.CY 22 Φ) [0,5,6] QF (λi h k=>∃(rs:List (Int×(List D58))),h=[]/\k=[]/\J i.1 i.2/\A.Rem xs i.1 rs/\F.aN f=some rs) ?_ ?_;refine Uf 2 1 [(8,A.i 5)] ?_;refine A.AL.ixv (λv:Value=>v) (A.ram f A1_ c2_ A3_ c4_ A5_ c6_ A7_ c8_ A9_ c10_ A11_ c12_ A13_ c14_ A15_ c16_ A17_ c18_ A19_ c20_ A21_ c22_ A23_ c24_ A25_ c26_ A27_ c28_ A29_ c30_ A31_ c32_) (i:=5) (v:=.slice A11_ f.2.2.2.2.2.1.length c12_) rfl ?_ (hx:=by kernel_rfl);refine Vr 2 [(3,A.i 5),(4,.slice A11_ f.2.2.2.2.2.1.length c12_)] 2 ?_;refine Uw 4 [(13,.bool (decide ((0:Int)<(f.2.2.2.2.2.1.length:Int))))] (V6 (j:=13) rfl a ?_ ?_)<;>intro o a;refine Vp [] [] [.on .n,.on .n,.on .n] [(14,.func (.yield lid) #[] #[]),(15,A.i 5),(16,.slice A11_ f.2.2.2.2.2.1.length c12_)] (Vo (dj:=13) rfl rfl ?_);refine Ue 217 [] a (o_a A11_ c12_ f.2.2.2.2.2.1) (.l 6 .nil (h1:=by kernel_rfl)) ?_;rintro Q - a _ _ ⟨bs,bt,rfl,rfl⟩;refine Vs (Vo (dj:=13) rfl rfl ?_);refine U5 217 [] ?_;obtain⟨rs191,hqrs191,a⟩:=Uu a;refine Uv (t:=.pair A.ti (Z.Ty.slice T58)) (x:=(5,Q)) hY hJ27 (hqrs191▸hR28) [A.i 5,.slice bs Q.length bt] ⟨⟨rfl,(V1 5)⟩,.inl ⟨217,rfl⟩⟩ (λU hJ193 hR194=>?_) (λU hX195=>?_);refine V5 [] [] [.on .n,.n] [(20,QB)] 1 ?_;refine V2 rfl ?_;refine Ub 2 ?_;exact Un (P+1,U) QF [] [] ⟨_,rfl,rfl,hJ193,hR194,a⟩;refine V5 [] [] [.on .n,.n] [(20,QC)] 1 ?_;refine Vw rfl ?_;exact U4 hY hX195;refine V5 [] [] [.off,.off,.off,.off,.off,.off,.n] [(20,QB)] 1 ?_;refine V2 rfl ?_;refine Ub 2 ?_;exact Un (P,bq) QF [] [] ⟨_,rfl,rfl,hJ27,hR28,a⟩;rintro⟨W,bu⟩ _ _ ⟨rs35,rfl,rfl,hJ33,hR34,a⟩;rw[F.aN]at a;refine Vl 0 ?_;have⟨bw,a⟩:=Ui a;refine U3 2 [Z.R64 (5+1)] [(6,A.i 6)] bw (Vg ?_);refine A.AE.unr ?_;refine Vq 1 1 [(7,QC)] 2 ?_;refine Vw rfl ?_;refine U0 2 ?_;refine U1 (A.CY 22 Φ) [0,5,6] QF (λi h k=>∃(rs:List (Int×(List D58))),h=[]/\k=[]/\J i.1 i.2/\A.Rem xs i.1 rs/\F.aM f=some rs) ?_ ?_;refine Uf 2 1 [(8,A.i 6)] ?_;refine A.AL.ixv (λv:Value=>v) (A.ram f A1_ c2_ A3_ c4_ A5_ c6_ A7_ c8_ A9_ c10_ A11_ c12_ A13_ c14_ A15_ c16_ A17_ c18_ A19_ c20_ A21_ c22_ A23_ c24_ A25_ c26_ A27_ c28_ A29_ c30_ A31_ c32_) (i:=6) (v:=.slice A13_ f.2.2.2.2.2.2.1.length c14_) rfl ?_ (hx:=by kernel_rfl);refine Vr 2 [(3,A.i 6),(4,.slice A13_ f.2.2.2.2.2.2.1.length c14_)] 2 ?_;refine Uw 4 [(13,.bool (decide ((0:Int)<(f.2.2.2.2.2.2.1.length:Int))))] (V6 (j:=13) rfl a ?_ ?_)<;>intro o a;refine Vp [] [] [.on .n,.on .n,.on .n] [(14,.func (.yield lid) #[] #[]),(15,A.i 6),(16,.slice A13_ f.2.2.2.2.2.2.1.length c14_)] (Vo (dj:=13) rfl rfl ?_);refine Ue 257 [] a (o_a A13_ c14_ f.2.2.2.2.2.2.1) (.l 7 .nil (h1:=by kernel_rfl)) ?_;rintro Y - a _ _ ⟨bx,bz,rfl,rfl⟩;refine Vs (Vo (dj:=13) rfl rfl ?_);refine U5 257 [] ?_;obtain⟨rs182,hqrs182,a⟩:=Uu a;refine Uv (t:=.pair A.ti (Z.Ty.slice T58)) (x:=(6,Y)) hY hJ33 (hqrs182▸hR34) [A.i 6,.slice bx Y.length bz] ⟨⟨rfl,(V1 6)⟩,.inl ⟨257,rfl⟩⟩ (λa0 hJ184 hR185=>?_) (λa0 hX186=>?_);refine V5 [] [] [.on .n,.n] [(20,QB)] 1 ?_;refine V2 rfl ?_;refine Ub 2 ?_;exact Un (W+1,a0) QF [] [] ⟨_,rfl,rfl,hJ184,hR185,a⟩;refine V5 [] [] [.on .n,.n] [(20,QC)] 1 ?_;refine Vw rfl ?_;exact U4 hY hX186;refine V5 [] [] [.off,.off,.off,.off,.off,.off,.n] [(20,QB)] 1 ?_;refine V2 rfl ?_;refine Ub 2 ?_;exact Un (W,bu) QF [] [] ⟨_,rfl,rfl,hJ33,hR34,a⟩;rintro⟨a1,c0⟩ _ _ ⟨rs41,rfl,rfl,hJ39,hR40,a⟩;rw[F.aM]at a;refine Vl 0 ?_;have⟨c1,a⟩:=Ui a;refine U3 2 [Z.R64 (6+1)] [(6,A.i 7)] c1 (Vg ?_);refine A.AE.unr ?_;refine Vq 1 1 [(7,QC)] 2 ?_;refine Vw rfl ?_;refine U0 2 ?_;refine U1 (A.CY 22 Φ) [0,5,6] QF (λi h k=>∃(rs:List (Int×(List D58))),h=[]/\k=[]/\J i.1 i.2/\A.Rem xs i.1 rs/\F.bf f=some rs) ?_ ?_;refine Uf 2 1 [(8,A.i 7)] ?_;refine A.AL.ixv (λv:Value=>v) (A.ram f A1_ c2_ A3_ c4_ A5_ c6_ A7_ c8_ A9_ c10_ A11_ c12_ A13_ c14_ A15_ c16_ A17_ c18_ A19_ c20_ A21_ c22_ A23_ c24_ A25_ c26_ A27_ c28_ A29_ c30_ A31_ c32_) (i:=7) (v:=.slice A15_ f.2.2.2.2.2.2.2.1.length c16_) rfl ?_ (hx:=by kernel_rfl);refine Vr 2 [(3,A.i 7),(4,.slice A15_ f.2.2.2.2.2.2.2.1.length c16_)] 2 ?_;refine Uw 4 [(13,.bool (decide ((0:Int)<(f.2.2.2.2.2.2.2.1.length:Int))))] (V6 (j:=13) rfl a ?_ ?_)<;>intro o a;refine Vp [] [] [.on .n,.on .n,.on .n] [(14,.func (.yield lid) #[] #[]),(15,A.i 7),(16,.slice A15_ f.2.2.2.2.2.2.2.1.length c16_)] (Vo (dj:=13) rfl rfl ?_);refine Ue 297 [] a (o_a A15_ c16_ f.2.2.2.2.2.2.2.1) (.l 8 .nil (h1:=by kernel_rfl)) ?_;rintro a2 - a _ _ ⟨c2,c3,rfl,rfl⟩;refine Vs (Vo (dj:=13) rfl rfl ?_);refine U5 297 [] ?_;obtain⟨rs173,hqrs173,a⟩:=Uu a;refine Uv (t:=.pair A.ti (Z.Ty.slice T58)) (x:=(7,a2)) hY hJ39 (hqrs173▸hR40) [A.i 7,.slice c2 a2.length c3] ⟨⟨rfl,(V1 7)⟩,.inl ⟨297,rfl⟩⟩ (λa3 hJ175 hR176=>?_) (λa3 hX177=>?_);refine V5 [] [] [.on .n,.n] [(20,QB)] 1 ?_;refine V2 rfl ?_;refine Ub 2 ?_;exact Un (a1+1,a3) QF [] [] ⟨_,rfl,rfl,hJ175,hR176,a⟩;refine V5 [] [] [.on .n,.n] [(20,QC)] 1 ?_;refine Vw rfl ?_;exact U4 hY hX177;refine V5 [] [] [.off,.off,.off,.off,.off,.off,.n] [(20,QB)] 1 ?_;refine V2 rfl ?_;refine Ub 2 ?_;exact Un (a1,c0) QF [] [] ⟨_,rfl,rfl,hJ39,hR40,a⟩;rintro⟨a4,c4⟩ _ _ ⟨rs47,rfl,rfl,hJ45,hR46,a⟩;rw[F.bf]at a;refine Vl 0 ?_;have⟨c5,a⟩:=Ui a;refine U3 2 [Z.R64 (7+1)] [(6,A.i 8)] c5 (Vg ?_);refine A.AE.unr ?_;refine Vq 1 1 [(7,QC)] 2 ?_;refine Vw rfl ?_;refine U0 2 ?_;refine U1 (A.CY 22 Φ) [0,5,6] QF (λi h k=>∃(rs:List (Int×(List D58))),h=[]/\k=[]/\J i.1 i.2/\A.Rem xs i.1 rs/\F.be f=some rs) ?_ ?_;refine Uf 2 1 [(8,A.i 8)] ?_;refine A.AL.ixv (λv:Value=>v) (A.ram f A1_ c2_ A3_ c4_ A5_ c6_ A7_ c8_ A9_ c10_ A11_ c12_ A13_ c14_ A15_ c16_ A17_ c18_ A19_ c20_ A21_ c22_ A23_ c24_ A25_ c26_ A27_ c28_ A29_ c30_ A31_ c32_) (i:=8) (v:=.slice A17_ f.2.2.2.2.2.2.2.2.1.length c18_) rfl ?_ (hx:=by kernel_rfl);refine Vr 2 [(3,A.i 8),(4,.slice A17_ f.2.2.2.2.2.2.2.2.1.length c18_)] 2 ?_;refine Uw 4 [(13,.bool (decide ((0:Int)<(f.2.2.2.2.2.2.2.2.1.length:Int))))] (V6 (j:=13) rfl a ?_ ?_)<;>intro o a;refine Vp [] [] [.on .n,.on .n,.on .n] [(14,.func (.yield lid) #[] #[]),(15,A.i 8),(16,.slice A17_ f.2.2.2.2.2.2.2.2.1.length c18_)] (Vo (dj:=13) rfl rfl ?_);refine Ue 337 [] a (o_a A17_ c18_ f.2.2.2.2.2.2.2.2.1) (.l 9 .nil (h1:=by kernel_rfl)) ?_;rintro a5 - a _ _ ⟨c6,c7,rfl,rfl⟩;refine Vs (Vo (dj:=13) rfl rfl ?_);refine U5 337 [] ?_;obtain⟨rs164,hqrs164,a⟩:=Uu a;refine Uv (t:=.pair A.ti (Z.Ty.slice T58)) (x:=(8,a5)) hY hJ45 (hqrs164▸hR46) [A.i 8,.slice c6 a5.length c7] ⟨⟨rfl,(V1 8)⟩,.inl ⟨337,rfl⟩⟩ (λa6 hJ166 hR167=>?_) (λa6 hX168=>?_);refine V5 [] [] [.on .n,.n] [(20,QB)] 1 ?_;refine V2 rfl ?_;refine Ub 2 ?_;exact Un (a4+1,a6) QF [] [] ⟨_,rfl,rfl,hJ166,hR167,a⟩;refine V5 [] [] [.on .n,.n] [(20,QC)] 1 ?_;refine Vw rfl ?_;exact U4 hY hX168;refine V5 [] [] [.off,.off,.off,.off,.off,.off,.n] [(20,QB)] 1 ?_;refine V2 rfl ?_;refine Ub 2 ?_;exact Un (a4,c4) QF [] [] ⟨_,rfl,rfl,hJ45,hR46,a⟩;rintro⟨aa,c8⟩ _ _ ⟨rs53,rfl,rfl,hJ51,hR52,a⟩;rw[F.be]at a;refine Vl 0 ?_;have⟨c9,a⟩:=Ui a;refine U3 2 [Z.R64 (8+1)] [(6,A.i 9)] c9 (Vg ?_);refine A.AE.unr ?_;refine Vq 1 1 [(7,QC)] 2 ?_;refine Vw rfl ?_;refine U0 2 ?_;refine U1 (A.CY 22 Φ) [0,5,6] QF (λi h k=>∃(rs:List (Int×(List D58))),h=[]/\k=[]/\J i.1 i.2/\A.Rem xs i.1 rs/\F.bd f=some rs) ?_ ?_;refine Uf 2 1 [(8,A.i 9)] ?_;refine A.AL.ixv (λv:Value=>v) (A.ram f A1_ c2_ A3_ c4_ A5_ c6_ A7_ c8_ A9_ c10_ A11_ c12_ A13_ c14_ A15_ c16_ A17_ c18_ A19_ c20_ A21_ c22_ A23_ c24_ A25_ c26_ A27_ c28_ A29_ c30_ A31_ c32_) (i:=9) (v:=.slice A19_ f.2.2.2.2.2.2.2.2.2.1.length c20_) rfl ?_ (hx:=by kernel_rfl);refine Vr 2 [(3,A.i 9),(4,.slice A19_ f.2.2.2.2.2.2.2.2.2.1.length c20_)] 2 ?_;refine Uw 4 [(13,.bool (decide ((0:Int)<(f.2.2.2.2.2.2.2.2.2.1.length:Int))))] (V6 (j:=13) rfl a ?_ ?_)<;>intro o a;refine Vp [] [] [.on .n,.on .n,.on .n] [(14,.func (.yield lid) #[] #[]),(15,A.i 9),(16,.slice A19_ f.2.2.2.2.2.2.2.2.2.1.length c20_)] (Vo (dj:=13) rfl rfl ?_);refine Ue 377 [] a (o_a A19_ c20_ f.2.2.2.2.2.2.2.2.2.1) (.l 10 .nil (h1:=by kernel_rfl)) ?_;rintro ab - a _ _ ⟨ca,cb,rfl,rfl⟩;refine Vs (Vo (dj:=13) rfl rfl ?_);refine U5 377 [] ?_;obtain⟨rs155,hqrs155,a⟩:=Uu a;refine Uv (t:=.pair A.ti (Z.Ty.slice T58)) (x:=(9,ab)) hY hJ51 (hqrs155▸hR52) [A.i 9,.slice ca ab.length cb] ⟨⟨rfl,(V1 9)⟩,.inl ⟨377,rfl⟩⟩ (λac hJ157 hR158=>?_) (λac hX159=>?_);refine V5 [] [] [.on .n,.n] [(20,QB)] 1 ?_;refine V2 rfl ?_;refine Ub 2 ?_;exact Un (aa+1,ac) QF [] [] ⟨_,rfl,rfl,hJ157,hR158,a⟩;refine V5 [] [] [.on .n,.n] [(20,QC)] 1 ?_;refine Vw rfl ?_;exact U4 hY hX159;refine V5 [] [] [.off,.off,.off,.off,.off,.off,.n] [(20,QB)] 1 ?_;refine V2 rfl ?_;refine Ub 2 ?_;exact Un (aa,c8) QF [] [] ⟨_,rfl,rfl,hJ51,hR52,a⟩;rintro⟨ad,cc⟩ _ _ ⟨rs59,rfl,rfl,hJ57,hR58,a⟩;rw[F.bd]at a;refine Vl 0 ?_;have⟨cd,a⟩:=Ui a;refine U3 2 [Z.R64 (9+1)] [(6,A.i 10)] cd (Vg ?_);refine A.AE.unr ?_;refine Vq 1 1 [(7,QC)] 2 ?_;refine Vw rfl ?_;refine U0 2 ?_;refine U1 (A.CY 22 Φ) [0,5,6] QF (λi h k=>∃(rs:List (Int×(List D58))),h=[]/\k=[]/\J i.1 i.2/\A.Rem xs i.1 rs/\F.bc f=some rs) ?_ ?_;refine Uf 2 1 [(8,A.i 10)] ?_;refine A.AL.ixv (λv:Value=>v) (A.ram f A1_ c2_ A3_ c4_ A5_ c6_ A7_ c8_ A9_ c10_ A11_ c12_ A13_ c14_ A15_ c16_ A17_ c18_ A19_ c20_ A21_ c22_ A23_ c24_ A25_ c26_ A27_ c28_ A29_ c30_ A31_ c32_) (i:=10) (v:=.slice A21_ f.2.2.2.2.2.2.2.2.2.2.1.length c22_) rfl ?_ (hx:=by kernel_rfl);refine Vr 2 [(3,A.i 10),(4,.slice A21_ f.2.2.2.2.2.2.2.2.2.2.1.length c22_)] 2 ?_;refine Uw 4 [(13,.bool (decide ((0:Int)<(f.2.2.2.2.2.2.2.2.2.2.1.length:Int))))] (V6 (j:=13) rfl a ?_ ?_)<;>intro o a;refine Vp [] [] [.on .n,.on .n,.on .n] [(14,.func (.yield lid) #[] #[]),(15,A.i 10),(16,.slice A21_ f.2.2.2.2.2.2.2.2.2.2.1.length c22_)] (Vo (dj:=13) rfl rfl ?_);refine Ue 417 [] a (o_a A21_ c22_ f.2.2.2.2.2.2.2.2.2.2.1) (.l 11 .nil (h1:=by kernel_rfl)) ?_;rintro ae - a _ _ ⟨cf,cg,rfl,rfl⟩;refine Vs (Vo (dj:=13) rfl rfl ?_);refine U5 417 [] ?_;obtain⟨rs146,hqrs146,a⟩:=Uu a;refine Uv (t:=.pair A.ti (Z.Ty.slice T58)) (x:=(10,ae)) hY hJ57 (hqrs146▸hR58) [A.i 10,.slice cf ae.length cg] ⟨⟨rfl,(V1 10)⟩,.inl ⟨417,rfl⟩⟩ (λaf hJ148 hR149=>?_) (λaf hX150=>?_);refine V5 [] [] [.on .n,.n] [(20,QB)] 1 ?_;refine V2 rfl ?_;refine Ub 2 ?_;exact Un (ad+1,af) QF [] [] ⟨_,rfl,rfl,hJ148,hR149,a⟩;refine V5 [] [] [.on .n,.n] [(20,QC)] 1 ?_;refine Vw rfl ?_;exact U4 hY hX150;refine V5 [] [] [.off,.off,.off,.off,.off,.off,.n] [(20,QB)] 1 ?_;refine V2 rfl ?_;refine Ub 2 ?_;exact Un (ad,cc) QF [] [] ⟨_,rfl,rfl,hJ57,hR58,a⟩;rintro⟨ag,ch⟩ _ _ ⟨rs65,rfl,rfl,hJ63,hR64,a⟩;rw[F.bc]at a;refine Vl 0 ?_;have⟨ci,a⟩:=Ui a;refine U3 2 [Z.R64 (10+1)] [(6,A.i 11)] ci (Vg ?_);refine A.AE.unr ?_;refine Vq 1 1 [(7,QC)] 2 ?_;refine Vw rfl ?_;refine U0 2 ?_;refine U1 (A.CY 22 Φ) [0,5,6] QF (λi h k=>∃(rs:List (Int×(List D58))),h=[]/\k=[]/\J i.1 i.2/\A.Rem xs i.1 rs/\F.bb f=some rs) ?_ ?_;refine Uf 2 1 [(8,A.i 11)] ?_;refine A.AL.ixv (λv:Value=>v) (A.ram f A1_ c2_ A3_ c4_ A5_ c6_ A7_ c8_ A9_ c10_ A11_ c12_ A13_ c14_ A15_ c16_ A17_ c18_ A19_ c20_ A21_ c22_ A23_ c24_ A25_ c26_ A27_ c28_ A29_ c30_ A31_ c32_) (i:=11) (v:=.slice A23_ f.2.2.2.2.2.2.2.2.2.2.2.1.length c24_) rfl ?_ (hx:=by kernel_rfl);refine Vr 2 [(3,A.i 11),(4,.slice A23_ f.2.2.2.2.2.2.2.2.2.2.2.1.length c24_)] 2 ?_;refine Uw 4 [(13,.bool (decide ((0:Int)<(f.2.2.2.2.2.2.2.2.2.2.2.1.length:Int))))] (V6 (j:=13) rfl a ?_ ?_)<;>intro o a;refine Vp [] [] [.on .n,.on .n,.on .n] [(14,.func (.yield lid) #[] #[]),(15,A.i 11),(16,.slice A23_ f.2.2.2.2.2.2.2.2.2.2.2.1.length c24_)] (Vo (dj:=13) rfl rfl ?_);refine Ue 457 [] a (o_a A23_ c24_ f.2.2.2.2.2.2.2.2.2.2.2.1) (.l 12 .nil (h1:=by kernel_rfl)) ?_;rintro ah - a _ _ ⟨cj,cm,rfl,rfl⟩;refine Vs (Vo (dj:=13) rfl rfl ?_);refine U5 457 [] ?_;obtain⟨rs137,hqrs137,a⟩:=Uu a;refine Uv (t:=.pair A.ti (Z.Ty.slice T58)) (x:=(11,ah)) hY hJ63 (hqrs137▸hR64) [A.i 11,.slice cj ah.length cm] ⟨⟨rfl,(V1 11)⟩,.inl ⟨457,rfl⟩⟩ (λaj hJ139 hR140=>?_) (λaj hX141=>?_);refine V5 [] [] [.on .n,.n] [(20,QB)] 1 ?_;refine V2 rfl ?_;refine Ub 2 ?_;exact Un (ag+1,aj) QF [] [] ⟨_,rfl,rfl,hJ139,hR140,a⟩;refine V5 [] [] [.on .n,.n] [(20,QC)] 1 ?_;refine Vw rfl ?_;exact U4 hY hX141;refine V5 [] [] [.off,.off,.off,.off,.off,.off,.n] [(20,QB)] 1 ?_;refine V2 rfl ?_;refine Ub 2 ?_;exact Un (ag,ch) QF [] [] ⟨_,rfl,rfl,hJ63,hR64,a⟩;rintro⟨ak,cn⟩ _ _ ⟨rs71,rfl,rfl,hJ69,hR70,a⟩;rw[F.bb]at a;refine Vl 0 ?_;have⟨co,a⟩:=Ui a;refine U3 2 [Z.R64 (11+1)] [(6,A.i 12)] co (Vg ?_);refine A.AE.unr ?_;refine Vq 1 1 [(7,QC)] 2 ?_;refine Vw rfl ?_;refine U0 2 ?_;refine U1 (A.CY 22 Φ) [0,5,6] QF (λi h k=>∃(rs:List (Int×(List D58))),h=[]/\k=[]/\J i.1 i.2/\A.Rem xs i.1 rs/\F.ba f=some rs) ?_ ?_;refine Uf 2 1 [(8,A.i 12)] ?_;refine A.AL.ixv (λv:Value=>v) (A.ram f A1_ c2_ A3_ c4_ A5_ c6_ A7_ c8_ A9_ c10_ A11_ c12_ A13_ c14_ A15_ c16_ A17_ c18_ A19_ c20_ A21_ c22_ A23_ c24_ A25_ c26_ A27_ c28_ A29_ c30_ A31_ c32_) (i:=12) (v:=.slice A25_ f.2.2.2.2.2.2.2.2.2.2.2.2.1.length c26_) rfl ?_ (hx:=by kernel_rfl);refine Vr 2 [(3,A.i 12),(4,.slice A25_ f.2.2.2.2.2.2.2.2.2.2.2.2.1.length c26_)] 2 ?_;refine Uw 4 [(13,.bool (decide ((0:Int)<(f.2.2.2.2.2.2.2.2.2.2.2.2.1.length:Int))))] (V6 (j:=13) rfl a ?_ ?_)<;>intro o a;refine Vp [] [] [.on .n,.on .n,.on .n] [(14,.func (.yield lid) #[] #[]),(15,A.i 12),(16,.slice A25_ f.2.2.2.2.2.2.2.2.2.2.2.2.1.length c26_)] (Vo (dj:=13) rfl rfl ?_);refine Ue 497 [] a (o_a A25_ c26_ f.2.2.2.2.2.2.2.2.2.2.2.2.1) (.l 13 .nil (h1:=by kernel_rfl)) ?_;rintro al - a _ _ ⟨cp,cq,rfl,rfl⟩;refine Vs (Vo (dj:=13) rfl rfl ?_);refine U5 497 [] ?_;obtain⟨rs128,hqrs128,a⟩:=Uu a;refine Uv (t:=.pair A.ti (Z.Ty.slice T58)) (x:=(12,al)) hY hJ69 (hqrs128▸hR70) [A.i 12,.slice cp al.length cq] ⟨⟨rfl,(V1 12)⟩,.inl ⟨497,rfl⟩⟩ (λam hJ130 hR131=>?_) (λam hX132=>?_);refine V5 [] [] [.on .n,.n] [(20,QB)] 1 ?_;refine V2 rfl ?_;refine Ub 2 ?_;exact Un (ak+1,am) QF [] [] ⟨_,rfl,rfl,hJ130,hR131,a⟩;refine V5 [] [] [.on .n,.n] [(20,QC)] 1 ?_;refine Vw rfl ?_;exact U4 hY hX132;refine V5 [] [] [.off,.off,.off,.off,.off,.off,.n] [(20,QB)] 1 ?_;refine V2 rfl ?_;refine Ub 2 ?_;exact Un (ak,cn) QF [] [] ⟨_,rfl,rfl,hJ69,hR70,a⟩;rintro⟨an,cr⟩ _ _ ⟨rs77,rfl,rfl,hJ75,hR76,a⟩;rw[F.ba]at a;refine Vl 0 ?_;have⟨ct,a⟩:=Ui a;refine U3 2 [Z.R64 (12+1)] [(6,A.i 13)] ct (Vg ?_);refine A.AE.unr ?_;refine Vq 1 1 [(7,QC)] 2 ?_;refine Vw rfl ?_;refine U0 2 ?_;refine U1 (A.CY 22 Φ) [0,5,6] QF (λi h k=>∃(rs:List (Int×(List D58))),h=[]/\k=[]/\J i.1 i.2/\A.Rem xs i.1 rs/\F.a9 f=some rs) ?_ ?_;refine Uf 2 1 [(8,A.i 13)] ?_;refine A.AL.ixv (λv:Value=>v) (A.ram f A1_ c2_ A3_ c4_ A5_ c6_ A7_ c8_ A9_ c10_ A11_ c12_ A13_ c14_ A15_ c16_ A17_ c18_ A19_ c20_ A21_ c22_ A23_ c24_ A25_ c26_ A27_ c28_ A29_ c30_ A31_ c32_) (i:=13) (v:=.slice A27_ f.2.2.2.2.2.2.2.2.2.2.2.2.2.1.length c28_) rfl ?_ (hx:=by kernel_rfl);refine Vr 2 [(3,A.i 13),(4,.slice A27_ f.2.2.2.2.2.2.2.2.2.2.2.2.2.1.length c28_)] 2 ?_;refine Uw 4 [(13,.bool (decide ((0:Int)<(f.2.2.2.2.2.2.2.2.2.2.2.2.2.1.length:Int))))] (V6 (j:=13) rfl a ?_ ?_)<;>intro o a;refine Vp [] [] [.on .n,.on .n,.on .n] [(14,.func (.yield lid) #[] #[]),(15,A.i 13),(16,.slice A27_ f.2.2.2.2.2.2.2.2.2.2.2.2.2.1.length c28_)] (Vo (dj:=13) rfl rfl ?_);refine Ue 537 [] a (o_a A27_ c28_ f.2.2.2.2.2.2.2.2.2.2.2.2.2.1) (.l 14 .nil (h1:=by kernel_rfl)) ?_;rintro ao - a _ _ ⟨cu,cw,rfl,rfl⟩;refine Vs (Vo (dj:=13) rfl rfl ?_);refine U5 537 [] ?_;obtain⟨rs119,hqrs119,a⟩:=Uu a;refine Uv (t:=.pair A.ti (Z.Ty.slice T58)) (x:=(13,ao)) hY hJ75 (hqrs119▸hR76) [A.i 13,.slice cu ao.length cw] ⟨⟨rfl,(V1 13)⟩,.inl ⟨537,rfl⟩⟩ (λap hJ121 hR122=>?_) (λap hX123=>?_);refine V5 [] [] [.on .n,.n] [(20,QB)] 1 ?_;refine V2 rfl ?_;refine Ub 2 ?_;exact Un (an+1,ap) QF [] [] ⟨_,rfl,rfl,hJ121,hR122,a⟩;refine V5 [] [] [.on .n,.n] [(20,QC)] 1 ?_;refine Vw rfl ?_;exact U4 hY hX123;refine V5 [] [] [.off,.off,.off,.off,.off,.off,.n] [(20,QB)] 1 ?_;refine V2 rfl ?_;refine Ub 2 ?_;exact Un (an,cr) QF [] [] ⟨_,rfl,rfl,hJ75,hR76,a⟩;rintro⟨aq,cx⟩ _ _ ⟨rs83,rfl,rfl,hJ81,hR82,a⟩;rw[F.a9]at a;refine Vl 0 ?_;have⟨cy,a⟩:=Ui a;refine U3 2 [Z.R64 (13+1)] [(6,A.i 14)] cy (Vg ?_);refine A.AE.unr ?_;refine Vq 1 1 [(7,QC)] 2 ?_;refine Vw rfl ?_;refine U0 2 ?_;refine U1 (A.CY 22 Φ) [0,5,6] QF (λi h k=>∃(rs:List (Int×(List D58))),h=[]/\k=[]/\J i.1 i.2/\A.Rem xs i.1 rs/\F.a8 f=some rs) ?_ ?_;refine Uf 2 1 [(8,A.i 14)] ?_;refine A.AL.ixv (λv:Value=>v) (A.ram f A1_ c2_ A3_ c4_ A5_ c6_ A7_ c8_ A9_ c10_ A11_ c12_ A13_ c14_ A15_ c16_ A17_ c18_ A19_ c20_ A21_ c22_ A23_ c24_ A25_ c26_ A27_ c28_ A29_ c30_ A31_ c32_) (i:=14) (v:=.slice A29_ f.2.2.2.2.2.2.2.2.2.2.2.2.2.2.1.length c30_) rfl ?_ (hx:=by kernel_rfl);refine Vr 2 [(3,A.i 14),(4,.slice A29_ f.2.2.2.2.2.2.2.2.2.2.2.2.2.2.1.length c30_)] 2 ?_;refine Uw 4 [(13,.bool (decide ((0:Int)<(f.2.2.2.2.2.2.2.2.2.2.2.2.2.2.1.length:Int))))] (V6 (j:=13) rfl a ?_ ?_)<;>intro o a;refine Vp [] [] [.on .n,.on .n,.on .n] [(14,.func (.yield lid) #[] #[]),(15,A.i 14),(16,.slice A29_ f.2.2.2.2.2.2.2.2.2.2.2.2.2.2.1.length c30_)] (Vo (dj:=13) rfl rfl ?_);refine Ue 577 [] a (o_a A29_ c30_ f.2.2.2.2.2.2.2.2.2.2.2.2.2.2.1) (.l 15 .nil (h1:=by kernel_rfl)) ?_;rintro ar - a _ _ ⟨cz,d1,rfl,rfl⟩;refine Vs (Vo (dj:=13) rfl rfl ?_);refine U5 577 [] ?_;obtain⟨rs110,hqrs110,a⟩:=Uu a;refine Uv (t:=.pair A.ti (Z.Ty.slice T58)) (x:=(14,ar)) hY hJ81 (hqrs110▸hR82) [A.i 14,.slice cz ar.length d1] ⟨⟨rfl,(V1 14)⟩,.inl ⟨577,rfl⟩⟩ (λau hJ112 hR113=>?_) (λau hX114=>?_);refine V5 [] [] [.on .n,.n] [(20,QB)] 1 ?_;refine V2 rfl ?_;refine Ub 2 ?_;exact Un (aq+1,au) QF [] [] ⟨_,rfl,rfl,hJ112,hR113,a⟩;refine V5 [] [] [.on .n,.n] [(20,QC)] 1 ?_;refine Vw rfl ?_;exact U4 hY hX114;refine V5 [] [] [.off,.off,.off,.off,.off,.off,.n] [(20,QB)] 1 ?_;refine V2 rfl ?_;refine Ub 2 ?_;exact Un (aq,cx) QF [] [] ⟨_,rfl,rfl,hJ81,hR82,a⟩;rintro⟨av,d2⟩ _ _ ⟨rs89,rfl,rfl,hJ87,hR88,a⟩;rw[F.a8]at a;refine Vl 0 ?_;have⟨d3,a⟩:=Ui a;refine U3 2 [Z.R64 (14+1)] [(6,A.i 15)] d3 (Vg ?_);refine A.AE.unr ?_;refine Vq 1 1 [(7,QC)] 2 ?_;refine Vw rfl ?_;refine U0 2 ?_;refine U1 (A.CY 22 Φ) [0,5,6] QF (λi h k=>∃(rs:List (Int×(List D58))),h=[]/\k=[]/\J i.1 i.2/\A.Rem xs i.1 rs/\F.a7=some rs) ?_ ?_;refine Uf 2 1 [(8,A.i 15)] ?_;refine A.AL.ixv (λv:Value=>v) (A.ram f A1_ c2_ A3_ c4_ A5_ c6_ A7_ c8_ A9_ c10_ A11_ c12_ A13_ c14_ A15_ c16_ A17_ c18_ A19_ c20_ A21_ c22_ A23_ c24_ A25_ c26_ A27_ c28_ A29_ c30_ A31_ c32_) (i:=15) (v:=.slice A31_ f.2.2.2.2.2.2.2.2.2.2.2.2.2.2.2.length c32_) rfl ?_ (hx:=by kernel_rfl);refine Vr 2 [(3,A.i 15),(4,.slice A31_ f.2.2.2.2.2.2.2.2.2.2.2.2.2.2.2.length c32_)] 2 ?_;refine Uw 4 [(13,.bool (decide ((0:Int)<(f.2.2.2.2.2.2.2.2.2.2.2.2.2.2.2.length:Int))))] (V6 (j:=13) rfl a ?_ ?_)<;>intro o a;refine Vp [] [] [.on .n,.on .n,.on .n] [(14,.func (.yield lid) #[] #[]),(15,A.i 15),(16,.slice A31_ f.2.2.2.2.2.2.2.2.2.2.2.2.2.2.2.length c32_)] (Vo (dj:=13) rfl rfl ?_);refine Ue 617 [] a (o_a A31_ c32_ f.2.2.2.2.2.2.2.2.2.2.2.2.2.2.2) (.l 16 .nil (h1:=by kernel_rfl)) ?_;rintro aw - a _ _ ⟨d4,d5,rfl,rfl⟩;refine Vs (Vo (dj:=13) rfl rfl ?_);refine U5 617 [] ?_;obtain⟨rs101,hqrs101,a⟩:=Uu a;refine Uv (t:=.pair A.ti (Z.Ty.slice T58)) (x:=(15,aw)) hY hJ87 (hqrs101▸hR88) [A.i 15,.slice d4 aw.length d5] ⟨⟨rfl,(V1 15)⟩,.inl ⟨617,rfl⟩⟩ (λax hJ103 hR104=>?_) (λax hX105=>?_);refine V5 [] [] [.on .n,.n] [(20,QB)] 1 ?_;refine V2 rfl ?_;refine Ub 2 ?_;exact Un (av+1,ax) QF [] [] ⟨_,rfl,rfl,hJ103,hR104,a⟩;refine V5 [] [] [.on .n,.n] [(20,QC)] 1 ?_;refine Vw rfl ?_;exact U4 hY hX105;refine V5 [] [] [.off,.off,.off,.off,.off,.off,.n] [(20,QB)] 1 ?_;refine V2 rfl ?_;refine Ub 2 ?_;exact Un (av,d2) QF [] [] ⟨_,rfl,rfl,hJ87,hR88,a⟩;rintro⟨d7,d8⟩ _ _ ⟨rs95,rfl,rfl,hJ93,hR94,a⟩;rw[F.a7]at a;refine Vl 0 ?_;have⟨d6,a⟩:=Ui a;refine U3 2 [Z.R64 (15+1)] [(6,A.i 16)] d6 (Vg ?_);refine A.AE.unr ?_;refine Vq 1 1 [(7,QB)] 2 ?_;refine V2 rfl ?_;refine Ub 1 ?_;obtain rfl:=V8 a;exact A.AE.rtY hY hJ93 hR94
def F.k (e:Int):List (Int×(List D58))->(List D42)->Option (List D42)
 | [],a=>some a
 |h::f,a=>if e<=(a.length:Int)then(some a)else(A.gd ((List.length (α:=D42) a+List.length (α:=D42) [h])*32<=140737488355328) ((F.k e f) (a++[h])))
def F.ag (a:D70)(e:Int):Option (List D42):=(F.bj a).bind λf=>F.k e f []
theorem o_an(e:D70)(u:Int)(Q:A.h6 u)(r:(List D42))(h:F.ag e u=some r):
    A.Ct Tryz.prog 14 [.func (.func 26) #[] #[.pointer (some ⟨g0_,0,none⟩)],A.i u] [(0,.el none g0_ 0 (A.ram e A1_ c2_ A3_ c4_ A5_ c6_ A7_ c8_ A9_ c10_ A11_ c12_ A13_ c14_ A15_ c16_ A17_ c18_ A19_ c20_ A21_ c22_ A23_ c24_ A25_ c26_ A27_ c28_ A29_ c30_ A31_ c32_)),(1,.sh (.slice T58) [.slice A1_ e.1.length c2_] e.1),(2,.sh (.slice T58) [.slice A3_ e.2.1.length c4_] e.2.1),(3,.sh (.slice T58) [.slice A5_ e.2.2.1.length c6_] e.2.2.1),(4,.sh (.slice T58) [.slice A7_ e.2.2.2.1.length c8_] e.2.2.2.1),(5,.sh (.slice T58) [.slice A9_ e.2.2.2.2.1.length c10_] e.2.2.2.2.1),(6,.sh (.slice T58) [.slice A11_ e.2.2.2.2.2.1.length c12_] e.2.2.2.2.2.1),(7,.sh (.slice T58) [.slice A13_ e.2.2.2.2.2.2.1.length c14_] e.2.2.2.2.2.2.1),(8,.sh (.slice T58) [.slice A15_ e.2.2.2.2.2.2.2.1.length c16_] e.2.2.2.2.2.2.2.1),(9,.sh (.slice T58) [.slice A17_ e.2.2.2.2.2.2.2.2.1.length c18_] e.2.2.2.2.2.2.2.2.1),(10,.sh (.slice T58) [.slice A19_ e.2.2.2.2.2.2.2.2.2.1.length c20_] e.2.2.2.2.2.2.2.2.2.1),(11,.sh (.slice T58) [.slice A21_ e.2.2.2.2.2.2.2.2.2.2.1.length c22_] e.2.2.2.2.2.2.2.2.2.2.1),(12,.sh (.slice T58) [.slice A23_ e.2.2.2.2.2.2.2.2.2.2.2.1.length c24_] e.2.2.2.2.2.2.2.2.2.2.2.1),(13,.sh (.slice T58) [.slice A25_ e.2.2.2.2.2.2.2.2.2.2.2.2.1.length c26_] e.2.2.2.2.2.2.2.2.2.2.2.2.1),(14,.sh (.slice T58) [.slice A27_ e.2.2.2.2.2.2.2.2.2.2.2.2.2.1.length c28_] e.2.2.2.2.2.2.2.2.2.2.2.2.2.1),(15,.sh (.slice T58) [.slice A29_ e.2.2.2.2.2.2.2.2.2.2.2.2.2.2.1.length c30_] e.2.2.2.2.2.2.2.2.2.2.2.2.2.2.1),(16,.sh (.slice T58) [.slice A31_ e.2.2.2.2.2.2.2.2.2.2.2.2.2.2.2.length c32_] e.2.2.2.2.2.2.2.2.2.2.2.2.2.2.2)] [] (λv H'=>∃(A0':QK) (c1':Nat),v=.slice A0' r.length c1'/\H'=[(0,.own T42 43 A0' c1' r)]):=by
 refine A.Ct.enterM Tryz.func14 rfl Tryz.ntmps14 rfl λU W=>?_;rw[F.ag]at h;refine Vl 1 ?_;refine Vm 17 (cs:=[A.i u]) λJ=>?_;refine Vr 1 [] 2 ?_;refine Vj 18 (cs:=[QA]) Tryz.zeroValue29 λy=>?_;refine Uq 3 ?_;refine Uw 1 [(8,.func (.func 26) #[] #[.pointer (some ⟨g0_,0,none⟩)])] (Ux rfl (λa w hf hh=>Z.r_eqfn rfl (hf.eval rfl)) ?_);refine Kh 1 ?_;refine V2 rfl ?_;refine Vq 4 1 [(10,.func (.func 26) #[] #[.pointer (some ⟨g0_,0,none⟩)])] 2 ?_;refine Ka 25 T42 43 ?_;have⟨H,L,h⟩:=Uz h;refine A.AX.rgf 26 27 28 [0,1,2,3,4,5,6,7,8,9,10,11,12,13,14,15,16,17] [18,25,0,1,2,3,4,5,6,7,8,9,10,11,12,13,14,15,16,17] [27,26,18,25,0,1,2,3,4,5,6,7,8,9,10,11,12,13,14,15,16,17] (λk N=>∃(f:List D42)(l:QK)(p:Nat),N=[(18,.blk y 29 [.slice l f.length p]),(25,.own T42 43 l p f)]/\F.k u (List.drop k H) f=some r) [(18,.blk y 29 [QA]),(25,.own T42 43 none 0 [])] cf26 (o_aR A1_ A3_ A5_ A7_ A9_ A11_ A13_ A15_ A17_ A19_ A21_ A23_ A25_ A27_ A29_ A31_ g0_ c2_ c4_ c6_ c8_ c10_ c12_ c14_ c16_ c18_ c20_ c22_ c24_ c26_ c28_ c30_ c32_ e H L) (λ_=>rfl) ⟨[],none,0,rfl,h⟩ ?_ ?_ ?_;rintro P _ D19 L20 ⟨f,l,p,rfl,h⟩;exact⟨⟨_,(.s 0 (.s 1 (.s 2 (.s 3 (.s 4 (.s 5 (.s 6 (.s 7 (.s 8 (.s 9 (.s 10 (.s 11 (.s 12 (.s 13 (.s 14 (.s 15 (.s 16 .nil)))))))))))))))))⟩,rfl,λo=>rfl⟩;rintro P _ t D19 L20 Y a0 ⟨f,l,p,rfl,h⟩ hx29 hxo30 I;intro z B;rw[A.drop_at hx29,F.k]at h;refine Vl 1 ?_;refine Vr 1 [(6,A.i t.1)] 1 ?_;refine Uw 1 [(7,.slice z t.2.length B)] (Vg ?_);refine A.AE.flip 26 27 λa2=>?_;refine Uy 3 [18,17] [] [.b 0 0,.n,.b 1 0,.n] [(16,.bool (decide (u<=(f.length:Int))))] 1 ?_;refine Km h ?_ ?_<;>intro hb h;refine A.AX.bexit I [27,1,2,3,4,5,6,7,8,9,10,11,12,13,14,15,16,17,18,25,28,26] 100000 [(27,100027),(1,100001),(2,100002),(3,100003),(4,100004),(5,100005),(6,100006),(7,100007),(8,100008),(9,100009),(10,100010),(11,100011),(12,100012),(13,100013),(14,100014),(15,100015),(16,100016),(17,100017),(18,100018),(25,100025),(28,100028),(26,100026),(0,0)] [(1,.sh (.slice T58) [.slice A1_ e.1.length c2_] e.1),(2,.sh (.slice T58) [.slice A3_ e.2.1.length c4_] e.2.1),(3,.sh (.slice T58) [.slice A5_ e.2.2.1.length c6_] e.2.2.1),(4,.sh (.slice T58) [.slice A7_ e.2.2.2.1.length c8_] e.2.2.2.1),(5,.sh (.slice T58) [.slice A9_ e.2.2.2.2.1.length c10_] e.2.2.2.2.1),(6,.sh (.slice T58) [.slice A11_ e.2.2.2.2.2.1.length c12_] e.2.2.2.2.2.1),(7,.sh (.slice T58) [.slice A13_ e.2.2.2.2.2.2.1.length c14_] e.2.2.2.2.2.2.1),(8,.sh (.slice T58) [.slice A15_ e.2.2.2.2.2.2.2.1.length c16_] e.2.2.2.2.2.2.2.1),(9,.sh (.slice T58) [.slice A17_ e.2.2.2.2.2.2.2.2.1.length c18_] e.2.2.2.2.2.2.2.2.1),(10,.sh (.slice T58) [.slice A19_ e.2.2.2.2.2.2.2.2.2.1.length c20_] e.2.2.2.2.2.2.2.2.2.1),(11,.sh (.slice T58) [.slice A21_ e.2.2.2.2.2.2.2.2.2.2.1.length c22_] e.2.2.2.2.2.2.2.2.2.2.1),(12,.sh (.slice T58) [.slice A23_ e.2.2.2.2.2.2.2.2.2.2.2.1.length c24_] e.2.2.2.2.2.2.2.2.2.2.2.1),(13,.sh (.slice T58) [.slice A25_ e.2.2.2.2.2.2.2.2.2.2.2.2.1.length c26_] e.2.2.2.2.2.2.2.2.2.2.2.2.1),(14,.sh (.slice T58) [.slice A27_ e.2.2.2.2.2.2.2.2.2.2.2.2.2.1.length c28_] e.2.2.2.2.2.2.2.2.2.2.2.2.2.1),(15,.sh (.slice T58) [.slice A29_ e.2.2.2.2.2.2.2.2.2.2.2.2.2.2.1.length c30_] e.2.2.2.2.2.2.2.2.2.2.2.2.2.2.1),(16,.sh (.slice T58) [.slice A31_ e.2.2.2.2.2.2.2.2.2.2.2.2.2.2.2.length c32_] e.2.2.2.2.2.2.2.2.2.2.2.2.2.2.2),(17,.blk J 3 [A.i u]),(18,.blk y 29 [.slice l f.length p]),(25,.own T42 43 l p f),(28,.sh (.slice T58) [.slice z t.2.length B] t.2),(26,.ob D19 A.dfT),(0,.el none g0_ 0 (A.ram e A1_ c2_ A3_ c4_ A5_ c6_ A7_ c8_ A9_ c10_ A11_ c12_ A13_ c14_ A15_ c16_ A17_ c18_ A19_ c20_ A21_ c22_ A23_ c24_ A25_ c26_ A27_ c28_ A29_ c30_ A31_ c32_))] ?_ rfl rfl;refine A.AE.x rfl ?_;refine A.el 2 ?_;refine V5 [18] [] [.b 0 0,.n] [(4,.slice l f.length p)] 1 ?_;obtain rfl:=V8 h;exact Kv (Ds:=[D19]) [26] [(0,25)] (.slice l f.length p) (⟨rfl,trivial⟩) (λa w hf hh=>Kp rfl (Ut hf rfl)) (⟨l,p,rfl,rfl⟩);refine Uj 2 [18] [] [.b 0 0,.n,.n,.n] [(17,.slice l f.length p),(20,.agg #[A.i t.1,.slice z t.2.length B])] ?_;refine Ug 31 (ty:=T42) (cs:=[A.i t.1,.slice z t.2.length B]) [t] ⟨⟨⟨rfl,hxo30.1⟩,.inl ⟨28,rfl⟩⟩,rfl⟩ (λa3=>?_) Tryz.zeroValue43 Tryz.sizeOf43;have⟨hl37,h⟩:=Ui h;refine Uo (k:=25) [] (Kd (k:=31) rfl) inf43 hl37 λC E=>?_;refine Ul 18 [] [.slice C ((f++[t]).length) E] ?_;refine Ki 1 ?_;exact A.AE.bn I [27,26,18,25,1,2,3,4,5,6,7,8,9,10,11,12,13,14,15,16,17] 100000 [(27,100027),(26,100026),(18,100018),(25,100025),(0,0),(1,100001),(2,100002),(3,100003),(4,100004),(5,100005),(6,100006),(7,100007),(8,100008),(9,100009),(10,100010),(11,100011),(12,100012),(13,100013),(14,100014),(15,100015),(16,100016),(17,100017)] [(18,.blk y 29 [.slice C ((f++[t]).length) E]),(25,.own T42 43 C E (f++[t]))] ⟨(f++[t]),C,E,rfl,h⟩ rfl rfl;rintro _ D19 L20 ⟨f,l,p,rfl,h⟩;rw[Y3,F.k]at h;refine A.el 3 ?_;refine V5 [18] [] [.b 0 0,.n] [(4,.slice l f.length p)] 1 ?_;obtain rfl:=V8 h;exact Kv (Ds:=[D19]) [26] [(0,25)] (.slice l f.length p) (⟨rfl,trivial⟩) (λa w hf hh=>Kp rfl (Ut hf rfl)) (⟨l,p,rfl,rfl⟩)
def F.cC (a:Bool):Option Bool:=some a
def F.cD (a:Bool):Option Bool:=some a
def F.cE (a:Bool):Option Bool:=some a
def F.dS (a:D50):Option Bool:=if a.2.2.1=1 then(if a.2.2.2.1=0 then(F.cC (decide (a.2.2.2.2=(0,0,QE))))else(F.cC false))else(if a.2.2.1=2 then(if(bif decide ((0:Int)<=a.2.2.2.1)then decide (a.2.2.2.1<=1048576)else false)=true then(F.cD (decide (a.2.2.2.2=(0,0,QE))))else(F.cD false))else(if a.2.2.1=3 then(if a.2.2.2.1=0 then((F.bq 2 a.2.2.2.2).bind λe=>(F.cE (decide (e=0))))else(F.cE false))else(some false)))
theorem o_cx (f:D50)(C:A.h6 f.1)(E:A.h6 f.2.1)(H:A.h6 f.2.2.1)(I:A.h6 f.2.2.2.1)(u:A.h6 f.2.2.2.2.1)(z:A.h6 f.2.2.2.2.2.1)(B:f.2.2.2.2.2.2.size<=maxLen)(r:Bool)(e:F.dS f=some r):
    A.Ct Tryz.prog 65 [(A.ran f)] [] [] (λv H'=>v=.bool r/\H'=[]):=by
 refine Vh Tryz.func65 rfl Tryz.ntmps65 rfl λJ L=>?_;rw[F.dS]at e;refine Vl 1 ?_;refine Vm 0 (cs:=(A.rah f)) λN=>?_;refine Vr 1 [] 2 ?_;refine Uw 1 [(4,.agg #[A.i 0,A.i 0,.string (QE)])] (Vj 1 (cs:=[A.i 0,A.i 0,.string (QE)]) Tryz.zeroValue47 λP=>?_);refine Ul 1 [] [A.i 0,A.i 0,.string (QE)] ?_;refine Uq 2 ?_;refine Vp [0] [] [.n,.b 0 2] [(6,A.i f.2.2.1)] (Uq 3 ?_);refine Vy 2 [(7,.bool (decide (f.2.2.1=1)))] 1 ?_;refine Km e ?_ ?_<;>intro l e;refine Vi [] [] (λh k=>∃(o:Bool),h=[(2,.bool o)]/\k=[]/\F.cC o=some r) ?_ ?_;refine Uj 0 [0] [] [.n,.b 0 3,.n,.n] [(12,.bool (decide (f.2.2.2.1=0)))] ?_;refine V6 (j:=12) rfl e ?_ ?_<;>intro l e;refine Vp [0,1] [] [.on .n,.on (.b 0 4),.on (.b 1 0)] [(14,(A.rap f.2.2.2.2)),(15,.agg #[A.i 0,A.i 0,.string (QE)])] (Vo (dj:=12) rfl rfl ?_);refine Ux rfl (λa w hf hh=>eqagg_eql47 (x:=f.2.2.2.2) (y:=(0,0,QE)) (hf.eval rfl) (hf.eval rfl)) ?_;refine Uw 2 [(2,.bool (decide (f.2.2.2.2=(0,0,QE))))] (Vg ?_);exact V0 ⟨(decide (f.2.2.2.2=(0,0,QE))),rfl,rfl,e⟩;refine Vp [] [] [.off,.off,.off,.off,.n,.n] [(2,QB)] (Vg ?_);exact V0 ⟨false,rfl,rfl,e⟩;rintro _ _ ⟨o,rfl,rfl,e⟩;rw[F.cC]at e;exact A.ke e (Vx ⟨rfl,rfl⟩);refine V7 1 2 [(18,.bool (decide (f.2.2.1=2)))] 1 e ?_ ?_<;>intro l e;refine Vi [] [] (λh k=>∃(p:Bool),h=[(2,.bool p)]/\k=[]/\F.cD p=some r) ?_ ?_;refine Uj 0 [0] [] [.n,.b 0 3,.n,.n,.sy .n,.sy (.b 0 3),.sy .n,.pk,.n] [(28,.bool (bif decide ((0:Int)<=f.2.2.2.1)then decide (f.2.2.2.1<=1048576)else false))] ?_;refine Uh (j:=28) rfl e (λe=>?_) (λe=>?_);refine Vp [0,1] [] [.on .n,.on (.b 0 4),.on (.b 1 0)] [(30,(A.rap f.2.2.2.2)),(31,.agg #[A.i 0,A.i 0,.string (QE)])] (Vo (dj:=28) rfl rfl ?_);refine Ux rfl (λa w hf hh=>eqagg_eql47 (x:=f.2.2.2.2) (y:=(0,0,QE)) (hf.eval rfl) (hf.eval rfl)) ?_;refine Uw 2 [(2,.bool (decide (f.2.2.2.2=(0,0,QE))))] (Vg ?_);exact V0 ⟨(decide (f.2.2.2.2=(0,0,QE))),rfl,rfl,e⟩;refine Vp [] [] [.off,.off,.off,.off,.n,.n] [(2,QB)] (Vg ?_);exact V0 ⟨false,rfl,rfl,e⟩;rintro _ _ ⟨p,rfl,rfl,e⟩;rw[F.cD]at e;exact A.ke e (Vx ⟨rfl,rfl⟩);refine V7 1 2 [(34,.bool (decide (f.2.2.1=3)))] 1 e ?_ ?_<;>intro l e;refine Vi [] [] (λh k=>∃(s:Bool),h=[(2,.bool s)]/\k=[]/\F.cE s=some r) ?_ ?_;refine Uj 0 [0] [] [.n,.b 0 3,.n,.n] [(39,.bool (decide (f.2.2.2.1=0)))] ?_;refine V6 (j:=39) rfl e ?_ ?_<;>intro l e;refine Vp [0] [] [.on .n,.on (.b 0 4)] [(41,(A.rap f.2.2.2.2))] (Vo (dj:=39) rfl rfl ?_);refine Ue 2 [] e (o_am 2 f.2.2.2.2 (V1 2) u z B) .nil ?_;rintro t - e _ _ ⟨rfl,rfl,hr8⟩;refine Vs (Vp [] [] [.on .n,.n,.n] [(2,.bool (decide (t=0)))] (Vg ?_));exact V0 ⟨(decide (t=0)),rfl,rfl,e⟩;refine Vp [] [] [.off,.off,.off,.off,.n,.n] [(2,QB)] (Vg ?_);exact V0 ⟨false,rfl,rfl,e⟩;rintro _ _ ⟨s,rfl,rfl,e⟩;rw[F.cE]at e;exact A.ke e (Vx ⟨rfl,rfl⟩);refine Vq 1 1 [(2,QB)] 1 ?_;exact A.ke e (Vx ⟨rfl,rfl⟩)
def F.dy (a:D48):Option (ByteArray×Bool):=if(bif decide (a.2.1=11)then decide (a.2.2.2.1.1=41)else false)=true then(some (ByteArray.mk #[116,111,116,97,108,47,111,110,101],true))else(if(bif decide (a.2.1=11)then decide (a.2.2.2.1.1=42)else false)=true then(some (ByteArray.mk #[116,111,116,97,108,47,115,105,122,101],true))else(if a.2.1=16 then(some (ByteArray.mk #[102,114,101,115,104],true))else(some (QE,false))))
theorem o_bg(a:D48)(h:A.h6 a.1)(k:A.h6 a.2.1)(l:A.h6 a.2.2.2.1.1)(o:A.h6 a.2.2.2.1.2.1)(p:a.2.2.2.1.2.2.size<=maxLen)(s:a.2.2.2.2.1.size<=maxLen)(t:A.h6 a.2.2.2.2.2.1)(u:A.h6 a.2.2.2.2.2.2)(r:ByteArray×Bool)(e:F.dy a=some r):
    A.Ct Tryz.prog 66 [(A.rao a A2_ c3_)] [(0,.sh A.TI [.slice A2_ a.2.2.1.length c3_] a.2.2.1)] [] (λv H'=>v=.tuple #[.string r.1,.bool r.2]/\H'=[]/\r.1.size<=maxLen):=by
 refine Vh Tryz.func66 rfl Tryz.ntmps66 rfl λw x=>?_;rw[F.dy]at e;refine Vl 1 ?_;refine Vm 1 (cs:=(A.rai a A2_ c3_)) λy=>?_;refine Vr 2 [] 4 ?_;refine V5 [1] [] [.n,.b 0 1,.n,.n,.sy .n,.sy .n,.sy (.b 0 3),.sy .n,.pk,.n] [(4,.bool (bif decide (a.2.1=11)then decide (a.2.2.2.1.1=41)else false))] 1 ?_;refine U9 e ?_ ?_<;>intro f e;refine Vq 1 2 [(2,.string (ByteArray.mk #[116,111,116,97,108,47,111,110,101])),(3,QC)] 1 ?_;obtain rfl:=V8 e;exact U8 [] ⟨rfl,rfl,(K8 (ByteArray.mk #[116,111,116,97,108,47,111,110,101]) rfl)⟩;refine Uy 1 [1] [] [.n,.b 0 1,.n,.n,.sy .n,.sy .n,.sy (.b 0 3),.sy .n,.pk,.n] [(14,.bool (bif decide (a.2.1=11)then decide (a.2.2.2.1.1=42)else false))] 1 ?_;refine U9 e ?_ ?_<;>intro f e;refine Vq 1 2 [(2,.string (ByteArray.mk #[116,111,116,97,108,47,115,105,122,101])),(3,QC)] 1 ?_;obtain rfl:=V8 e;exact U8 [] ⟨rfl,rfl,(K8 (ByteArray.mk #[116,111,116,97,108,47,115,105,122,101]) rfl)⟩;refine Uy 1 [1] [] [.n,.b 0 1,.n,.n] [(24,.bool (decide (a.2.1=16)))] 1 ?_;refine Km e ?_ ?_<;>intro f e;refine Vq 1 2 [(2,.string (ByteArray.mk #[102,114,101,115,104])),(3,QC)] 1 ?_;obtain rfl:=V8 e;exact U8 [] ⟨rfl,rfl,(K8 (ByteArray.mk #[102,114,101,115,104]) rfl)⟩;refine Vq 4 2 [(2,.string (QE)),(3,QB)] 1 ?_;obtain rfl:=V8 e;exact U8 [] ⟨rfl,rfl,(K8 (QE) rfl)⟩
def F.cF (f:D48)(h:D48)(k:D50)(l:Bool):Option Int:=if l=true then(some 180)else((F.dy f).bind λa=>((F.dy h).bind λe=>(if(bif bif !a.2 then true else !e.2 then true else decide (a.1≠e.1))=true then(some 181)else(if(bif decide (k.2.2.1=2)then decide (a.1=(ByteArray.mk #[102,114,101,115,104]))else false)=true then(some 181)else(some 0)))))
def F.dT (e:D48)(f:D48)(a:D50):Option Int:=if(bif decide (a.1≠e.1)then true else decide (a.2.1≠f.1))=true then(F.cF e f a true)else((F.dS a).bind λh=>(F.cF e f a (!h)))
theorem o_cy(e:D48)(f:D48)(h:D50)(t:A.h6 e.1)(u:A.h6 e.2.1)(w:A.h6 e.2.2.2.1.1)(x:A.h6 e.2.2.2.1.2.1)(y:e.2.2.2.1.2.2.size<=maxLen)(z:e.2.2.2.2.1.size<=maxLen)(B:A.h6 e.2.2.2.2.2.1)(C:A.h6 e.2.2.2.2.2.2)(E:A.h6 f.1)(H:A.h6 f.2.1)(I:A.h6 f.2.2.2.1.1)(J:A.h6 f.2.2.2.1.2.1)(L:f.2.2.2.1.2.2.size<=maxLen)(N:f.2.2.2.2.1.size<=maxLen)(P:A.h6 f.2.2.2.2.2.1)(Q:A.h6 f.2.2.2.2.2.2)(U:A.h6 h.1)(W:A.h6 h.2.1)(Y:A.h6 h.2.2.1)(a3:A.h6 h.2.2.2.1)(a4:A.h6 h.2.2.2.2.1)(a5:A.h6 h.2.2.2.2.2.1)(a6:h.2.2.2.2.2.2.size<=maxLen)(r:Int)(a:F.dT e f h=some r):
    A.Ct Tryz.prog 41 [(A.rao e A2_ c3_),(A.rao f A12_ c13_),(A.ran h)] [(0,.sh A.TI [.slice A2_ e.2.2.1.length c3_] e.2.2.1),(1,.sh A.TI [.slice A12_ f.2.2.1.length c13_] f.2.2.1)] [] (λv H'=>v=A.i r/\H'=[]/\A.h6 r):=by
 refine Vh Tryz.func41 rfl Tryz.ntmps41 rfl λw0 F0=>?_;rw[F.dT]at a;refine Vl 1 ?_;refine Vm 2 (cs:=(A.rai e A2_ c3_)) λg1=>?_;refine Vm 3 (cs:=(A.rai f A12_ c13_)) λg2=>?_;refine Vm 4 (cs:=(A.rah h)) λg3=>?_;refine Vy 1 [] 2 ?_;refine Vi [3,4,5] [0,1,2,3,4] (λnl nh=>∃(o:Bool),nl=[(27,.bool o)]/\nh=[]/\F.cF e f h o=some r) ?_ ?_;refine Uj 0 [4,2,3] [] [.n,.b 0 0,.n,.b 1 0,.n,.n,.sy .n,.sy (.b 0 1),.sy .n,.sy (.b 2 0),.sy .n,.pk,.n] [(23,.bool (bif decide (h.1≠e.1)then true else decide (h.2.1≠f.1)))] ?_;refine Uh (j:=23) rfl a (λa=>?_) (λa=>?_);refine Vp [] [] [.off,.off,.off,.n] [(27,QC)] (Vg ?_);exact V0 ⟨true,rfl,rfl,a⟩;refine Vp [4] [] [.on (.b 0 0)] [(24,(A.ran h))] (Vo (dj:=23) rfl rfl ?_);refine Ue 5 [] a (o_cx h U W Y a3 a4 a5 a6) .nil ?_;rintro p - a _ _ ⟨rfl,rfl⟩;refine Vs (Vp [] [] [.on .n,.n] [(27,.bool (!p))] (Vg ?_));exact V0 ⟨(!p),rfl,rfl,a⟩;rintro _ _ ⟨o,rfl,rfl,a⟩;rw[F.cF]at a;refine U9 a ?_ ?_<;>intro hb a;refine Vq 1 1 [(6,A.i 180)] 1 ?_;exact A.ke a (Vx ⟨rfl,rfl,(V1 180)⟩);refine Uj 3 [2] [] [.b 0 0] [(29,(A.rao e A2_ c3_))] ?_;refine Ue 45 [] a (o_bg A2_ c3_ e t u w x y z B C) (.s 0 .nil) ?_;rintro k - a _ _ ⟨rfl,rfl,hr7⟩;refine Vs (Vr 5 [(7,.string k.1),(8,.bool k.2)] 2 ?_);refine Vp [3] [] [.b 0 0] [(34,(A.rao f A12_ c13_))] (Ue 85 [] a (o_bg A12_ c13_ f E H I J L N P Q) (.s 1 .nil) ?_);rintro l - a _ _ ⟨rfl,rfl,hr10⟩;refine Vs (Vr 5 [(9,.string l.1),(10,.bool l.2)] 3 ?_);refine Vp [] [] [.n,.n,.n,.sy .n,.sy .n,.pk,.n,.sy .n,.sy .n,.sy .n,.pk,.n] [(49,.bool (bif bif !k.2 then true else !l.2 then true else decide (k.1≠l.1)))] (Uh (j:=49) rfl a (λa=>?_) (λa=>?_));refine V5 [] [] [.off,.off,.off,.off,.off,.off,.off,.n] [(57,QC)] 1 ?_;refine Vw rfl ?_;refine Vq 1 1 [(6,A.i 181)] 1 ?_;exact A.ke a (Vx ⟨rfl,rfl,(V1 181)⟩);refine V5 [4] [] [.on .n,.on (.b 0 2),.on .n,.on .n,.sy .n,.sy .n,.on .pk,.n] [(57,.bool (bif decide (h.2.2.1=2)then decide (k.1=(ByteArray.mk #[102,114,101,115,104]))else false))] 1 ?_;refine U9 a ?_ ?_<;>intro hb a;refine Vq 1 1 [(6,A.i 181)] 1 ?_;exact A.ke a (Vx ⟨rfl,rfl,(V1 181)⟩);refine Vq 3 1 [(6,A.i 0)] 1 ?_;exact A.ke a (Vx ⟨rfl,rfl,Vv⟩)
def F.dO (e:Int)(a:Int):Option Int:=A.gd (((decide (a≠0))=true->a≠0)/\((decide (a≠0))=true->Z.R64 (Int.tdiv 1099511627776 a))) (if(bif decide (a≠0)then decide (Int.tdiv 1099511627776 a<e)else false)=true then(some 1099511627776)else(A.gd (Z.R64 (e*a)) (some (e*a))))
theorem o_bK (f:Int)(a:Int)(l:A.h6 f)(o:A.h6 a)(r:Int)(e:F.dO f a=some r):
    A.Ct Tryz.prog 68 [A.i f,A.i a] [] [] (λv H'=>v=A.i r/\H'=[]/\A.h6 r):=by
 refine Vh Tryz.func68 rfl Tryz.ntmps68 rfl λp s=>?_;rw[F.dO]at e;refine Vl 1 ?_;refine Vr 1 [] 3 ?_;have⟨k,e⟩:=Ui e;refine A.q [] [] [.n,.n,.n,.sy .n,.sy .n,.sy .n,.sy .n,.pk] [(decide (a≠0))=true->a≠0,(decide (a≠0))=true->Z.R64 (Int.tdiv 1099511627776 a)] [(12,.bool (bif decide (a≠0)then decide (Int.tdiv 1099511627776 a<f)else false))] k (Kh 1 ?_);refine U9 e ?_ ?_<;>intro t e;refine Vq 1 1 [(4,A.i 1099511627776)] 1 ?_;exact A.ke e (Vx ⟨rfl,rfl,(V1 1099511627776)⟩);refine Vl 3 ?_;have⟨h,e⟩:=Ui e;refine U3 4 [Z.R64 (f*a)] [(4,A.i (f*a))] h (Kh 1 ?_);exact A.ke e (Vx ⟨rfl,rfl,(Vk h)⟩)
def F.d5 (e:Int)(f:D46)(h:D61):Option Int:=(F.bq e f).bind λa=>(if a≠0 then(some a)else((F.co h).bind λk=>(some k)))
theorem o_cS (h:Int)(e:D46)(f:D61)(l:A.h6 h)(o:A.h6 e.1)(p:A.h6 e.2.1)(s:e.2.2.size<=maxLen)(t:A.h6 f.1)(u:f.2.size<=maxLen)(r:Int)(a:F.d5 h e f=some r):
    A.Ct Tryz.prog 110 [A.i h,(A.rap e),(A.rar f)] [] [] (λv H'=>v=A.i r/\H'=[]/\A.h6 r):=by
 refine Vh Tryz.func110 rfl Tryz.ntmps110 rfl λx y=>?_;rw[F.d5]at a;refine Vl 1 ?_;refine Vm 0 (cs:=(A.raj e)) λz=>?_;refine Vm 1 (cs:=(A.ral f)) λB=>?_;refine Vr 1 [] 3 ?_;refine Vp [0] [] [.n,.b 0 0] [(8,A.i h),(9,(A.rap e))] (Ue 2 [] a (o_am h e l o p s) .nil ?_);rintro k - a _ _ ⟨rfl,rfl,hr5⟩;refine Vs (Vr 1 [(7,A.i k)] 2 ?_);refine Vy 2 [(12,.bool (decide (k≠0)))] 1 ?_;refine Km a ?_ ?_<;>intro C a;refine Vq 1 2 [(6,A.i k)] 1 ?_;exact A.ke a (Vx ⟨rfl,rfl,hr5⟩);refine Uj 3 [1] [] [.b 0 0] [(14,(A.rar f))] ?_;refine Ue 42 [] a (o_aQ f t u) .nil ?_;rintro w - a _ _ ⟨rfl,rfl,hr8⟩;refine Vs (Vy 1 [(6,A.i w)] 1 ?_);exact A.ke a (Vx ⟨rfl,rfl,hr8⟩)
def F.cl (e:(List UInt8)->Int->Option ByteArray)(a:Int)(f:List UInt8):Option ByteArray:=A.gd (Z.R64 (a+1)) (e f (a+1))
def F.bD (f:(List UInt8)->Int->Option ByteArray)(e:List UInt8)(a:Int)(h:Bool):Option ByteArray:=if h=true then((A.ix e a).bind λk=>((A.ix e a).bind λl=>(F.cl f a (e.set a.toNat (A.b8 ((k.toNat:Int)-32))))))else(F.cl f a e)
def F.ab (h:ByteArray):Nat->(List UInt8)->Int->Option ByteArray
 |0,_,_=>none
 |f+1,a,e=>if e<((h.data.toList).length:Int)then((A.ix a e).bind λk=>(if(97:Int)<=(k.toNat:Int)then((A.ix a e).bind λl=>(F.bD (F.ab h f) a e (decide ((l.toNat:Int)<=122))))else(F.bD (F.ab h f) a e false)))else(some (ByteArray.mk (a).toArray))
def F.d0 (a:ByteArray):Option ByteArray:=F.ab a A.FU a.data.toList 0
theorem o_cn (h:ByteArray)(H:h.size<=maxLen)(r:ByteArray)(a:F.d0 h=some r):
    A.Ct Tryz.prog 112 [.string h] [] [] (λv H'=>v=.string r/\H'=[]/\r.size<=maxLen):=by
 refine Vh Tryz.func112 rfl Tryz.ntmps112 rfl λP Q=>?_;rw[F.d0]at a;refine Vl 1 ?_;refine Vr 1 [] 2 ?_;refine Uw 1 [(5,.string h)] (A.AL.cvb 0 H λo p=>?_);refine Vr 1 [(3,.slice (some ⟨o,0,none⟩) ((h.data.toList).length) p)] 3 ?_;refine Vy 1 [(4,A.i 0)] 2 ?_;refine Ud [3] [] (λf s t=>∃(l:List UInt8)(k:Int),s=[(4,A.i k)]/\t=[(0,.ob o (A.Bs 5 p l))]/\(h.data.toList).length=l.length/\A.h6 k/\F.ab h f l k=some r) ⟨h.data.toList,0,rfl,rfl,rfl,Vv,a⟩ ?_;rintro w _ _ ⟨l,k,rfl,rfl,hn4,U,a⟩;rcases w with _|w
 exact Ua a;rw[F.ab]at a;refine V7 2 4 [(10,.bool (decide (k<((h.data.toList).length:Int))))] 1 a ?_ ?_<;>intro z a;refine U0 2 ?_;refine Vi [3,4] [] (λs t=>∃(u:List UInt8),s=[]/\t=[(0,.ob o (A.Bs 5 p u))]/\(h.data.toList).length=u.length/\F.cl (F.ab h w) k u=some r) ?_ ?_;refine U0 1 ?_;refine Vi [3,4] [0] (λs t=>∃(x:Bool),s=[(24,.bool x)]/\t=[]/\F.bD (F.ab h w) l k x=some r) ?_ ?_;refine Uf 0 2 [(13,.slice (some ⟨o,0,none⟩) ((h.data.toList).length) p),(14,A.i k)] ?_;have⟨I,J,a⟩:=Uz a;refine A.AL.ixB 0 9 J hn4 ?_;refine Vp [] [9] [.e 0 0,.n,.n] [(18,.bool (decide ((97:Int)<=(I.toNat:Int))))] (V6 (j:=18) rfl a ?_ ?_)<;>intro z a;refine Vp [] [] [.on .n,.on .n] [(19,.slice (some ⟨o,0,none⟩) ((h.data.toList).length) p),(20,A.i k)] (Vo (dj:=18) rfl rfl ?_);have⟨B,L,a⟩:=Uz a;refine A.AL.ixB 0 10 L hn4 ?_;refine Vp [] [10] [.on (.e 0 0),.on .n,.n] [(24,.bool (decide ((B.toNat:Int)<=122)))] (Vg ?_);exact V0 ⟨(decide ((B.toNat:Int)<=122)),rfl,rfl,a⟩;refine Vp [] [] [.off,.off,.off,.off,.off,.n] [(24,QB)] (Vg ?_);exact V0 ⟨false,rfl,rfl,a⟩;rintro _ _ ⟨x,rfl,rfl,a⟩;rw[F.bD]at a;refine U9 a ?_ ?_<;>intro z a;refine Uf 0 2 [(25,.slice (some ⟨o,0,none⟩) ((h.data.toList).length) p),(26,A.i k)] ?_;have⟨y,N,a⟩:=Uz a;refine A.AL.ixB 0 11 N hn4 ?_;refine Vp [] [11] [.e 0 0,.n] [(29,.int .u8 (IntKind.u8.wrap ((y.toNat:Int)-32)))] ?_;have⟨W,C,a⟩:=Uz a;refine A.AL.ixB 0 12 C hn4 ?_;refine A.AL.stB 0 12 [11,12] (A.b8 ((y.toNat:Int)-32)) C (A.b8_wrap _) ?_;refine Ki 1 ?_;exact V0 ⟨(l.set k.toNat (A.b8 ((y.toNat:Int)-32))),rfl,rfl,(by rw[X9];exact hn4),a⟩;refine Ub 2 ?_;exact V0 ⟨l,rfl,rfl,hn4,a⟩;rintro _ _ ⟨u,rfl,rfl,hn9,a⟩;rw[F.cl]at a;refine Vl 0 ?_;have⟨E,a⟩:=Ui a;refine U3 3 [Z.R64 (k+1)] [(4,A.i (k+1))] E (Vg ?_);exact V0 ⟨_,Qo _,⟨u,(k+1),rfl,rfl,hn9,(Vk E),a⟩⟩;refine Uf 3 1 [(31,.slice (some ⟨o,0,none⟩) ((h.data.toList).length) p)] ?_;refine A.okB 0 λhl20=>?_;refine A.AL.cbs 0 hn4 ?_;refine Vy 1 [(2,.string (ByteArray.mk (l).toArray))] 1 ?_;exact A.ke a (Vx ⟨rfl,rfl,(A.mk_le hl20)⟩)
def F.cG (f:ByteArray)(a:Int)(e:Int):Option ByteArray:=A.gd (0<=a/\a<=e/\e<=(f.size:Int)) (some (f.extract a.toNat e.toNat))
def F.cH (a:ByteArray)(e:(List D183))(f:Int)(h:Int):Option ByteArray:=if f<(e.length:Int)then((A.ix e f).bind λk=>(F.cG a h k.1))else(F.cG a h (a.size:Int))
def F.dp (e:ByteArray)(a:(List D183))(f:Int)(h:Int):Option ByteArray:=if f<(a.length:Int)then((A.ix a f).bind λk=>(F.cH e a h k.1))else(F.cH e a h (e.size:Int))
theorem o_aY(f:ByteArray)(h:(List D183))(p:Int)(l:Int)(s:f.size<=maxLen)(I:A.h6 p)(J:A.h6 l)(r:ByteArray)(a:F.dp f h p l=some r):
    A.Ct Tryz.prog 113 [.string f,.slice A1_ h.length c2_,A.i p,A.i l] [(0,.ln T183 A1_ c2_ h)] [] (λv H'=>v=.string r/\H'=[]/\r.size<=maxLen):=by
 refine Vh Tryz.func113 rfl Tryz.ntmps113 rfl λL N=>?_;rw[F.dp]at a;refine Vl 1 ?_;refine Vr 1 [] 2 ?_;refine Vy 6 [(9,A.i (f.size:Int)),(10,A.i (f.size:Int))] 1 ?_;refine Vi [0,1,3,10] [0] (λt u=>∃(k:Int),t=[(9,A.i k)]/\u=[]/\A.h6 k/\F.cH f h l k=some r) ?_ ?_;refine V7 1 4 [(18,.bool (decide (p<(h.length:Int))))] 1 a ?_ ?_<;>intro y a;refine Uf 0 2 [(19,.slice A1_ h.length c2_),(20,A.i p)] ?_;have⟨w,z,a⟩:=Uz a;refine Kf 0 1 z λB=>?_;intro P Q;refine Vp [] [1] [.n,.e 0 0,.n] [(9,A.i w.1)] (Vg ?_);exact V0 ⟨w.1,rfl,rfl,B.1,a⟩;refine Ub 1 ?_;exact V0 ⟨(f.size:Int),rfl,rfl,(A.has_nat s),a⟩;rintro _ _ ⟨k,rfl,rfl,U,a⟩;rw[F.cH]at a;refine Vi [0,9] [] (λt u=>∃(o:Int),t=[(10,A.i o)]/\u=[]/\A.h6 o/\F.cG f k o=some r) ?_ ?_;refine V7 1 4 [(27,.bool (decide (l<(h.length:Int))))] 1 a ?_ ?_<;>intro y a;refine Uf 0 2 [(28,.slice A1_ h.length c2_),(29,A.i l)] ?_;have⟨x,C,a⟩:=Uz a;refine Kf 0 2 C λE=>?_;intro W Y;refine Vp [] [2] [.n,.e 0 0,.n] [(10,A.i x.1)] (Vg ?_);exact V0 ⟨x.1,rfl,rfl,E.1,a⟩;refine Ub 1 ?_;exact V0 ⟨(f.size:Int),rfl,rfl,(A.has_nat s),a⟩;rintro _ _ ⟨o,rfl,rfl,a4,a⟩;rw[F.cG]at a;refine Uf 1 3 [(33,.string f),(34,A.i k),(35,A.i o)] ?_;have⟨H,a⟩:=Ui a;refine A.AL.slb H ?_;refine Vy 1 [(8,.string (f.extract k.toNat o.toNat))] 1 ?_;exact A.ke a (Vx ⟨rfl,rfl,(A.ext_le s)⟩)
def F.aY (k:ByteArray)(e:(List D183)):Nat->ByteArray->Int->Option ByteArray
 |0,_,_=>none
 |f+1,h,a=>if a<(e.length:Int)then(A.gd (Z.R64 (a+1)) ((F.dp k e a (a+1)).bind λl=>(A.gd (l.size+h.size<=9223372036854775807) (A.gd (Z.R64 (a+1)) ((F.aY k e f) (l++h) (a+1))))))else(some h)
def F.ea (a:ByteArray):Option ByteArray:=(F.bV a).bind λe=>(F.aY a e A.FU (QE) 0)
theorem o_cz (h:ByteArray)(u:h.size<=maxLen)(r:ByteArray)(a:F.ea h=some r):
    A.Ct Tryz.prog 114 [.string h] [] [] (λv H'=>v=.string r/\H'=[]/\r.size<=maxLen):=by
 refine Vh Tryz.func114 rfl Tryz.ntmps114 rfl λI J=>?_;rw[F.ea]at a;refine Vl 1 ?_;refine Vr 1 [] 2 ?_;refine Uw 1 [(6,.string h)] (Ue 0 [] a (o_aa h u) .nil ?_);rintro l - a _ _ ⟨p,s,rfl,rfl⟩;refine Vs (Vr 1 [(3,.slice p l.length s)] 2 ?_);refine Vr 1 [(4,.string (QE))] 3 ?_;refine Vy 1 [(5,A.i 0)] 2 ?_;refine Ud [0,3] [0] (λf B C=>∃(k:ByteArray)(e:Int),B=[(4,.string k),(5,A.i e)]/\C=[]/\k.size<=maxLen/\A.h6 e/\F.aY h l f k e=some r) ⟨(QE),0,rfl,rfl,(K8 (QE) rfl),Vv,a⟩ ?_;rintro w _ _ ⟨k,e,rfl,rfl,E,H,a⟩;rcases w with _|w
 exact Ua a;rw[F.aY]at a;refine V7 2 4 [(11,.bool (decide (e<(l.length:Int))))] 1 a ?_ ?_<;>intro L a;refine Vl 4 ?_;have⟨x,a⟩:=Ui a;refine U3 5 [Z.R64 (e+1)] [(14,.string h),(15,.slice p l.length s),(16,A.i e),(18,A.i (e+1))] x ?_;refine Ue 120 [] a (o_aY p s h l e (e+1) u H (Vk x)) (.o 0 .nil) ?_;rintro t - a _ _ ⟨rfl,rfl,hr13⟩;refine Vs ?_;have⟨y,a⟩:=Ui a;refine U3 3 [t.size+k.size<=9223372036854775807] [(4,.string (t++k))] y (Uq 2 ?_);have⟨z,a⟩:=Ui a;refine U3 3 [Z.R64 (e+1)] [(5,A.i (e+1))] z (Vg ?_);exact V0 ⟨_,Qo _,⟨(t++k),(e+1),rfl,rfl,(A.cat_le y),(Vk z),a⟩⟩;refine Vq 3 2 [(2,.string k)] 1 ?_;exact A.ke a (Vx ⟨rfl,rfl,E⟩)
def F.db (e:Int->Int->Option ByteArray)(a:Int)(f:Int):Option ByteArray:=A.gd (Z.R64 (a+1)) (e f (a+1))
def F.cu (a:Int->Int->Option ByteArray)(h:Int)(k:Int)(e:Int)(f:Int):Option ByteArray:=if f<=h then(F.db a e f)else(F.db a e k)
def F.aJ (e:ByteArray)(l:Int)(h:(List D183)):Nat->Int->Int->Option ByteArray
 |0,_,_=>none
 |f+1,k,a=>if a<(h.length:Int)then(A.gd (Z.R64 (a+1)) (if a+1<(h.length:Int)then(A.gd (Z.R64 (a+1)) ((A.ix h (a+1)).bind λo=>(F.cu (F.aJ e l h f) l k a o.1)))else(F.cu (F.aJ e l h f) l k a (e.size:Int))))else(A.gd (0<=k/\k<=(e.size:Int)) (some (e.extract 0 k.toNat)))
def F.eq (a:ByteArray)(e:Int):Option ByteArray:=(F.bV a).bind λf=>(F.aJ a e f A.FU 0 0)
theorem o_cT (k:ByteArray)(l:Int)(y:k.size<=maxLen)(Y:A.h6 l)(r:ByteArray)(a:F.eq k l=some r):
    A.Ct Tryz.prog 115 [.string k,A.i l] [] [] (λv H'=>v=.string r/\H'=[]/\r.size<=maxLen):=by
 refine Vh Tryz.func115 rfl Tryz.ntmps115 rfl λw0 F0=>?_;rw[F.eq]at a;refine Vl 1 ?_;refine Vr 1 [] 2 ?_;refine Uw 1 [(9,.string k)] (Ue 0 [] a (o_aa k y) .nil ?_);rintro p - a _ _ ⟨z,B,rfl,rfl⟩;refine Vs (Vr 1 [(5,.slice z p.length B)] 2 ?_);refine Vr 1 [(6,A.i 0)] 3 ?_;refine Vy 1 [(7,A.i 0)] 2 ?_;refine Ud [0,1,5] [0] (λf t u=>∃(o:Int)(h:Int),t=[(6,A.i o),(7,A.i h)]/\u=[]/\A.h6 o/\A.h6 h/\F.aJ k l p f o h=some r) ⟨0,0,rfl,rfl,Vv,Vv,a⟩ ?_;rintro x _ _ ⟨o,h,rfl,rfl,I,a2,a⟩;rcases x with _|x
 exact Ua a;rw[F.aJ]at a;refine V7 2 4 [(14,.bool (decide (h<(p.length:Int))))] 1 a ?_ ?_<;>intro C a;refine U0 2 ?_;refine Vi [0,1,5,7] [0] (λt u=>∃(w:Int),t=[(6,A.i w)]/\u=[]/\A.h6 w/\F.db (F.aJ k l p x) h w=some r) ?_ ?_;refine Vq 2 3 [(8,A.i (k.size:Int))] 1 ?_;refine Vi [0,1,5,6,7] [0] (λt u=>∃(s:Int),t=[(8,A.i s)]/\u=[]/\A.h6 s/\F.cu (F.aJ k l p x) l o h s=some r) ?_ ?_;refine Vl 1 ?_;have⟨J,a⟩:=Ui a;refine U3 5 [Z.R64 (h+1)] [(23,.bool (decide (h+1<(p.length:Int))))] J (Kh 1 ?_);refine Km a ?_ ?_<;>intro C a;refine Vl 0 ?_;have⟨L,a⟩:=Ui a;refine U3 3 [Z.R64 (h+1)] [(24,.slice z p.length B),(26,A.i (h+1))] L ?_;have⟨E,N,a⟩:=Uz a;refine Kq 0 42 N λP=>?_;intro a3 a4;refine Vp [] [42] [.n,.e 0 0,.n] [(8,A.i E.1)] (Vg ?_);exact V0 ⟨E.1,rfl,rfl,P.1,a⟩;refine Ub 1 ?_;exact V0 ⟨(k.size:Int),rfl,rfl,(A.has_nat y),a⟩;rintro _ _ ⟨s,rfl,rfl,Q,a⟩;rw[F.cu]at a;refine V7 1 3 [(32,.bool (decide (s<=l)))] 1 a ?_ ?_<;>intro C a;refine Uf 0 2 [(6,A.i s)] ?_;refine Ki 1 ?_;exact V0 ⟨s,rfl,rfl,Q,a⟩;refine Ub 2 ?_;exact V0 ⟨o,rfl,rfl,I,a⟩;rintro _ _ ⟨w,rfl,rfl,U,a⟩;rw[F.db]at a;refine Vl 0 ?_;have⟨H,a⟩:=Ui a;refine U3 3 [Z.R64 (h+1)] [(7,A.i (h+1))] H (Vg ?_);exact V0 ⟨_,Qo _,⟨w,(h+1),rfl,rfl,U,(Vk H),a⟩⟩;refine Uf 3 2 [(34,.string k),(35,A.i o)] ?_;have⟨W,a⟩:=Ui a;refine A.AL.slh W ?_;refine Vy 1 [(4,.string (k.extract 0 o.toNat))] 1 ?_;exact A.ke a (Vx ⟨rfl,rfl,(A.ext_le y)⟩)
def F.aK (a:Int)(e:ByteArray):Option (D61×Int):=some ((a,e),0)
def F.d6 (e:D46)(a:D61):Option (D61×Int):=(F.d5 2 e a).bind λh=>(if h≠0 then(some ((0,QE),h))else((F.bV a.2).bind λf=>(if e.1=2 then((F.d0 a.2).bind λl=>(F.aK a.1 l))else(if e.1=3 then((F.dp a.2 f 0 e.2.1).bind λo=>(F.aK a.1 o))else(if e.1=4 then((F.ea a.2).bind λp=>(F.aK a.1 p))else(if e.1=5 then(A.gd (a.2.size+e.2.2.size<=9223372036854775807) ((F.eq (a.2++e.2.2) 64).bind λr=>(F.aK a.1 r)))else(if e.1=6 then(A.gd (e.2.1≠0/\Z.R64 ((Int.tmod a.1 e.2.1)+e.2.1)/\e.2.1≠0) (F.aK (Int.tmod ((Int.tmod a.1 e.2.1)+e.2.1) e.2.1) a.2))else(if e.1=7 then(F.aK (f.length:Int) a.2)else(if e.1=8 then(if(0:Int)<(f.length:Int)then((A.ix f 0).bind λk=>(A.gd (Z.R64 (k.2)) (F.aK k.2 a.2)))else(F.aK 0 a.2))else(F.aK a.1 a.2))))))))))
theorem o_cU (k:D46)(h:D61)(W:A.h6 k.1)(N:A.h6 k.2.1)(Y:k.2.2.size<=maxLen)(y:A.h6 h.1)(l:h.2.size<=maxLen)(r:D61×Int)(f:F.d6 k h=some r):
    A.Ct Tryz.prog 69 [(A.rap k),(A.rar h)] [] [] (λv H'=>v=.tuple #[(A.rar r.1),A.i r.2]/\H'=[]/\A.h6 r.1.1/\r.1.2.size<=maxLen/\A.h6 r.2):=by
 refine Vh Tryz.func69 rfl Tryz.ntmps69 rfl λw0 F0=>?_;rw[F.d6]at f;refine Vl 1 ?_;refine Vm 0 (cs:=(A.raj k)) λg1=>?_;refine Vm 1 (cs:=(A.ral h)) λp=>?_;refine Vj 2 (cs:=[A.i 0,.string (QE)]) Tryz.zeroValue62 λg3=>?_;refine Vr 1 [] 3 ?_;refine Vp [0,1] [] [.b 0 0,.b 1 0] [(8,(A.rap k)),(9,(A.rar h))] (Ue 3 [] f (o_cS 2 k h (V1 2) W N Y y l) .nil ?_);rintro z - f _ _ ⟨rfl,rfl,hr6⟩;refine Vs (Vr 1 [(6,A.i z)] 2 ?_);refine Vy 2 [(12,.bool (decide (z≠0)))] 1 ?_;refine Km f ?_ ?_<;>intro t f;refine Uf 1 2 [(13,.agg #[A.i 0,.string (QE)]),(14,A.i z)] ?_;refine Ul 2 [] [A.i 0,.string (QE)] ?_;refine Vy 1 [(5,A.i z)] 1 ?_;obtain rfl:=V8 f;exact Up [] (.tuple #[.agg #[A.i 0,.string (QE)],A.i z]) (λa w hf hh=>Kc rfl (Ke hf rfl Tryz.isAgg62 Tryz.sizeOf62 (Ur hh 2) rfl) (Ut hf rfl)) (⟨rfl,rfl,Vv,(K8 (QE) rfl),hr6⟩);refine Uj 3 [1] [] [.n,.b 0 1] [(16,.string h.2)] ?_;refine Ue 43 [] f (o_aa h.2 l) .nil ?_;rintro s - f _ _ ⟨C,E,rfl,rfl⟩;refine Vs (Vy 1 [(7,.slice C s.length E)] 1 ?_);refine Vi [3,4] [2] (λnl nh=>∃(u:Int)(x:ByteArray),nl=[]/\nh=[(1,.blk p 62 [A.i u,.string x])]/\A.h6 u/\x.size<=maxLen/\F.aK u x=some r) ?_ ?_;refine Uj 1 [0] [] [.n,.b 0 0] [(19,A.i k.1)] ?_;refine Uq 3 ?_;refine Vy 2 [(20,.bool (decide (k.1=2)))] 1 ?_;refine Km f ?_ ?_<;>intro t f;refine Uj 0 [1] [] [.n,.b 0 1] [(23,.string h.2)] ?_;refine Ue 83 [] f (o_cn h.2 l) .nil ?_;rintro H - f _ _ ⟨rfl,rfl,hr17⟩;refine Vs (Uw 1 [(25,.pointer (some ⟨p,1,none⟩))] (V3 1 [] (new:=[.string H]) (cs':=[A.i h.1,.string H]) ?_));refine Ki 1 ?_;exact V0 ⟨h.1,H,rfl,rfl,y,hr17,f⟩;refine V7 1 2 [(26,.bool (decide (k.1=3)))] 1 f ?_ ?_<;>intro t f;refine Uj 0 [1,0] [] [.n,.b 0 1,.n,.n,.b 1 1] [(29,.string h.2),(30,.slice C s.length E),(32,A.i k.2.1)] ?_;refine Ue 123 [] f (o_aY C E h.2 s 0 k.2.1 l Vv N) (.o 43 .nil) ?_;rintro I - f _ _ ⟨rfl,rfl,hr20⟩;refine Vs (Uw 1 [(34,.pointer (some ⟨p,1,none⟩))] (V3 1 [] (new:=[.string I]) (cs':=[A.i h.1,.string I]) ?_));refine Ki 1 ?_;exact V0 ⟨h.1,I,rfl,rfl,y,hr20,f⟩;refine V7 1 2 [(35,.bool (decide (k.1=4)))] 1 f ?_ ?_<;>intro t f;refine Uj 0 [1] [] [.n,.b 0 1] [(38,.string h.2)] ?_;refine Ue 163 [] f (o_cz h.2 l) .nil ?_;rintro J - f _ _ ⟨rfl,rfl,hr23⟩;refine Vs (Uw 1 [(40,.pointer (some ⟨p,1,none⟩))] (V3 1 [] (new:=[.string J]) (cs':=[A.i h.1,.string J]) ?_));refine Ki 1 ?_;exact V0 ⟨h.1,J,rfl,rfl,y,hr23,f⟩;refine V7 1 2 [(41,.bool (decide (k.1=5)))] 1 f ?_ ?_<;>intro t f;refine Vl 0 ?_;have⟨P,f⟩:=Ui f;refine A.q [1,0] [] [.n,.b 0 1,.n,.b 1 2,.n] [h.2.size+k.2.2.size<=9223372036854775807] [(47,.string (h.2++k.2.2))] P (Ue 203 [] f (o_cT (h.2++k.2.2) 64 (A.cat_le P) (V1 64)) .nil ?_);rintro L - f _ _ ⟨rfl,rfl,hr27⟩;refine Vs (Uw 1 [(49,.pointer (some ⟨p,1,none⟩))] (V3 1 [] (new:=[.string L]) (cs':=[A.i h.1,.string L]) ?_));refine Ki 1 ?_;exact V0 ⟨h.1,L,rfl,rfl,y,hr27,f⟩;refine V7 1 2 [(50,.bool (decide (k.1=6)))] 1 f ?_ ?_<;>intro t f;refine V9 mixed 12 13 (A.mb 13 0) ?_;have⟨Q,f⟩:=Ui f;refine K5 Vn [] [0,1,2,43] [1,0] [] (A.mb 13 4095) 1 [(0,.n),(2,.n),(5,.n),(8,.n),(1,.b 0 0),(3,.b 1 1),(6,.b 1 1),(9,.b 1 1),(4,.n),(7,.n),(10,.n),(11,.n)] [62,63] [k.2.1≠0,Z.R64 ((Int.tmod h.1 k.2.1)+k.2.1),k.2.1≠0] [(62,A.i (Int.tmod ((Int.tmod h.1 k.2.1)+k.2.1) k.2.1)),(63,.pointer (some ⟨p,0,none⟩))] Q ?_;refine Vu 12 ?_;refine V3 1 [] (new:=[A.i (Int.tmod ((Int.tmod h.1 k.2.1)+k.2.1) k.2.1)]) (cs':=[A.i (Int.tmod ((Int.tmod h.1 k.2.1)+k.2.1) k.2.1),.string h.2]) ?_;refine Ku (A.mb 13 8191) ?_;refine Vt ?_;refine A.ee 1 ?_;exact V0 ⟨(Int.tmod ((Int.tmod h.1 k.2.1)+k.2.1) k.2.1),h.2,rfl,rfl,(A.tmod_has (Vk Q.2.1)),l,f⟩;refine V7 1 2 [(64,.bool (decide (k.1=7)))] 1 f ?_ ?_<;>intro t f;refine Uf 0 3 [(67,A.i (s.length:Int)),(68,.pointer (some ⟨p,0,none⟩))] ?_;refine V3 1 [] (new:=[A.i (s.length:Int)]) (cs':=[A.i (s.length:Int),.string h.2]) ?_;refine Ki 1 ?_;refine A.oko 43 λhl29=>?_;exact V0 ⟨(s.length:Int),h.2,rfl,rfl,(A.has_len hl29.1),l,f⟩;refine V7 1 2 [(69,.bool (decide (k.1=8)))] 1 f ?_ ?_<;>intro t f;refine Uf 1 1 [(71,.pointer (some ⟨p,0,none⟩))] ?_;refine V3 1 [] (new:=[A.i 0]) (cs':=[A.i 0,.string h.2]) ?_;refine Uq 2 ?_;refine Vy 3 [(74,.bool (decide ((0:Int)<(s.length:Int))))] 1 ?_;refine Km f ?_ ?_<;>intro t f;refine Uf 0 1 [(75,.slice C s.length E)] ?_;have⟨B,a2,f⟩:=Uz f;refine Kq 43 243 a2 λa5=>?_;intro a6 a7;have⟨U,f⟩:=Ui f;refine A.q [] [243] [.n,.e 0 1,.n,.n] [Z.R64 (B.2)] [(79,A.i B.2),(80,.pointer (some ⟨p,0,none⟩))] U (V3 1 [] (new:=[A.i B.2]) (cs':=[A.i B.2,.string h.2]) ?_);refine Ki 1 ?_;exact V0 ⟨B.2,h.2,rfl,rfl,(Vk U),l,f⟩;refine Ub 2 ?_;exact V0 ⟨0,h.2,rfl,rfl,Vv,l,f⟩;refine Ub 2 ?_;exact V0 ⟨h.1,h.2,rfl,rfl,y,l,f⟩;rintro _ _ ⟨u,x,rfl,rfl,a3,a4,f⟩;rw[F.aK]at f;refine Uj 1 [1] [] [.b 0 0] [(81,.agg #[A.i u,.string x])] ?_;refine Ul 2 [] [A.i u,.string x] ?_;refine Vy 1 [(5,A.i 0)] 1 ?_;obtain rfl:=V8 f;exact Up [] (.tuple #[.agg #[A.i u,.string x],A.i 0]) (λa w hf hh=>Kc rfl (Ke hf rfl Tryz.isAgg62 Tryz.sizeOf62 (Ur hh 2) rfl) (Ut hf rfl)) (⟨rfl,rfl,a3,a4,Vv⟩)
def F.cm (a:D48)(e:Int)(f:ByteArray)(h:Int):Option D58:=some (a.1,e,f,h)
def F.dz (e:D48)(f:D50)(a:D58):Option D58:=if f.2.2.1=2 then((F.dO a.2.2.2 f.2.2.2.1).bind λk=>(F.cm e a.2.1 a.2.2.1 k))else(if f.2.2.1=3 then((F.d6 f.2.2.2.2 (a.2.1,a.2.2.1)).bind λh=>(if e.2.1=16 then(F.cm e h.1.1 h.1.2 a.2.2.2)else(F.cm e h.1.1 a.2.2.1 a.2.2.2)))else(F.cm e a.2.1 a.2.2.1 a.2.2.2))
theorem o_co(f:D48)(k:D50)(e:D58)(C:A.h6 f.1)(W:A.h6 f.2.1)(Y:A.h6 f.2.2.2.1.1)(a3:A.h6 f.2.2.2.1.2.1)(a4:f.2.2.2.1.2.2.size<=maxLen)(a5:f.2.2.2.2.1.size<=maxLen)(a6:A.h6 f.2.2.2.2.2.1)(a7:A.h6 f.2.2.2.2.2.2)(a8:A.h6 k.1)(a9:A.h6 k.2.1)(aa:A.h6 k.2.2.1)(E:A.h6 k.2.2.2.1)(H:A.h6 k.2.2.2.2.1)(I:A.h6 k.2.2.2.2.2.1)(J:k.2.2.2.2.2.2.size<=maxLen)(ab:A.h6 e.1)(y:A.h6 e.2.1)(u:e.2.2.1.size<=maxLen)(x:A.h6 e.2.2.2)(r:D58)(h:F.dz f k e=some r):
    A.Ct Tryz.prog 43 [(A.rao f A2_ c3_),(A.ran k),(A.raq e)] [(0,.sh A.TI [.slice A2_ f.2.2.1.length c3_] f.2.2.1)] [] (λv H'=>v=(A.raq r)/\H'=[]/\A.h6 r.1/\A.h6 r.2.1/\r.2.2.1.size<=maxLen/\A.h6 r.2.2.2):=by
 refine Vh Tryz.func43 rfl Tryz.ntmps43 rfl λw0 F0=>?_;rw[F.dz]at h;refine Vl 1 ?_;refine Vm 1 (cs:=(A.rai f A2_ c3_)) λg1=>?_;refine Vm 2 (cs:=(A.rah k)) λg2=>?_;refine Vm 3 (cs:=(A.rak e)) λt=>?_;refine Vj 4 (cs:=[A.i 0,A.i 0,.string (QE),A.i 0]) Tryz.zeroValue59 λg4=>?_;refine Uq 2 ?_;refine Vp [1] [] [.n,.b 0 0,.n] [(10,A.i f.1),(11,.pointer (some ⟨t,0,none⟩))] (V3 3 [] (new:=[A.i f.1]) (cs':=[A.i f.1,A.i e.2.1,.string e.2.2.1,A.i e.2.2.2]) ?_);refine Kh 1 ?_;refine Vi [5,6] [4] (λL N=>∃(o:Int)(p:ByteArray)(s:Int),L=[]/\N=[(3,.blk t 59 [A.i f.1,A.i o,.string p,A.i s])]/\A.h6 o/\p.size<=maxLen/\A.h6 s/\F.cm f o p s=some r) ?_ ?_;refine Uj 1 [2] [] [.n,.b 0 2] [(13,A.i k.2.2.1)] ?_;refine Uq 3 ?_;refine Vy 2 [(14,.bool (decide (k.2.2.1=2)))] 1 ?_;refine Km h ?_ ?_<;>intro B h;refine Uj 0 [3,2] [] [.n,.b 0 3,.n,.b 1 3] [(17,A.i e.2.2.2),(19,A.i k.2.2.2.1)] ?_;refine Ue 5 [] h (o_bK e.2.2.2 k.2.2.2.1 x E) .nil ?_;rintro z - h _ _ ⟨rfl,rfl,hr13⟩;refine Vs (Uw 1 [(21,.pointer (some ⟨t,3,none⟩))] (V3 3 [] (new:=[A.i z]) (cs':=[A.i f.1,A.i e.2.1,.string e.2.2.1,A.i z]) ?_));refine Ki 1 ?_;exact V0 ⟨e.2.1,e.2.2.1,z,rfl,rfl,y,u,hr13,h⟩;refine V7 1 2 [(22,.bool (decide (k.2.2.1=3)))] 1 h ?_ ?_<;>intro B h;refine Uj 1 [2,3] [] [.n,.b 0 4,.n,.b 1 1,.n,.b 1 2,.n] [(26,(A.rap k.2.2.2.2)),(31,.agg #[A.i e.2.1,.string e.2.2.1])] ?_;refine Ue 45 [] h (o_cU k.2.2.2.2 (e.2.1,e.2.2.1) H I J y u) .nil ?_;rintro l - h _ _ ⟨rfl,rfl,hr16,hr17,hr18⟩;refine Vs (Uw 3 [(33,(A.rar l.1)),(34,A.i l.2)] (Vj 85 (cs:=[A.i 0,.string (QE)]) Tryz.zeroValue62 λac=>?_));refine Ul 85 [] (A.ral l.1) ?_;refine Vr 1 [] 2 ?_;refine Vp [85] [] [.n,.b 0 0,.n] [(36,A.i l.1.1),(37,.pointer (some ⟨t,1,none⟩))] (V3 3 [] (new:=[A.i l.1.1]) (cs':=[A.i f.1,A.i l.1.1,.string e.2.2.1,A.i e.2.2.2]) ?_);refine Uq 2 ?_;refine V5 [1] [] [.n,.b 0 1,.n] [(40,.bool (decide (f.2.1=16)))] 1 ?_;refine Km h ?_ ?_<;>intro B h;refine Uj 0 [85] [] [.n,.b 0 1,.n] [(42,.string l.1.2),(43,.pointer (some ⟨t,2,none⟩))] ?_;refine V3 3 [] (new:=[.string l.1.2]) (cs':=[A.i f.1,A.i l.1.1,.string l.1.2,A.i e.2.2.2]) ?_;refine Ki 1 ?_;exact V0 ⟨l.1.1,l.1.2,e.2.2.2,rfl,rfl,hr16,hr17,x,h⟩;refine Ub 2 ?_;exact V0 ⟨l.1.1,e.2.2.1,e.2.2.2,rfl,rfl,hr16,u,x,h⟩;refine Ub 2 ?_;exact V0 ⟨e.2.1,e.2.2.1,e.2.2.2,rfl,rfl,y,u,x,h⟩;rintro _ _ ⟨o,p,s,rfl,rfl,P,Q,U,h⟩;rw[F.cm]at h;refine Uj 1 [3] [] [.b 0 0] [(44,.agg #[A.i f.1,A.i o,.string p,A.i s])] ?_;refine Ul 4 [] [A.i f.1,A.i o,.string p,A.i s] ?_;refine Kh 1 ?_;obtain rfl:=V8 h;exact Up [] (.agg #[A.i f.1,A.i o,.string p,A.i s]) (λa w hf hh=>Kp rfl (Ke hf rfl Tryz.isAgg59 Tryz.sizeOf59 (Ur hh 4) rfl)) (⟨rfl,rfl,C,P,Q,U⟩)
def F.aq (e:D48)(k:D50)(h:(List D58)):Nat->(List D58)->Int->Option ((List D58)×Int)
 |0,_,_=>none
 |f+1,l,a=>if a<(h.length:Int)then((A.ix h a).bind λo=>((F.dz e k o).bind λp=>((F.d4 l p (decide (e.2.1=16))).bind λr=>(A.gd (Z.R64 (a+1)) ((F.aq e k h f) r (a+1))))))else(some (l,0))
def F.bt (a:D48)(e:D50)(f:(List D58))(k:Bool):Option ((List D58)×Int):=if k=true then(some ([],180))else((F.ck (e.1,a.2.1,a.2.2.1,a.2.2.2.1,a.2.2.2.2.1,a.2.2.2.2.2.1,a.2.2.2.2.2.2) f).bind λh=>(if h≠0 then(some ([],h))else(F.aq a e f A.FU [] 0)))
def F.b1 (a:D48)(e:D50)(f:(List D58)):Option ((List D58)×Int):=if a.1≠e.2.1 then(F.bt a e f true)else((F.dT (e.1,a.2.1,a.2.2.1,a.2.2.2.1,a.2.2.2.2.1,a.2.2.2.2.2.1,a.2.2.2.2.2.2) a e).bind λh=>(F.bt a e f (decide (h≠0))))
theorem o_ar(h:D48)(l:D50)(o:(List D58))(a3:A.h6 h.1)(z:A.h6 h.2.1)(B:A.h6 h.2.2.2.1.1)(C:A.h6 h.2.2.2.1.2.1)(E:h.2.2.2.1.2.2.size<=maxLen)(H:h.2.2.2.2.1.size<=maxLen)(I:A.h6 h.2.2.2.2.2.1)(J:A.h6 h.2.2.2.2.2.2)(L:A.h6 l.1)(a4:A.h6 l.2.1)(a5:A.h6 l.2.2.1)(a6:A.h6 l.2.2.2.1)(a7:A.h6 l.2.2.2.2.1)(a8:A.h6 l.2.2.2.2.2.1)(a9:l.2.2.2.2.2.2.size<=maxLen)(r:(List D58)×Int)(k:F.b1 h l o=some r):
    A.Ct Tryz.prog 18 [(A.rao h A2_ c3_),(A.ran l),.slice A17_ o.length c18_] [(0,.sh A.TI [.slice A2_ h.2.2.1.length c3_] h.2.2.1),(1,.ln T58 A17_ c18_ o)] [] (λv H'=>∃(A0':QK) (c1':Nat),v=.tuple #[.slice A0' r.1.length c1',A.i r.2]/\H'=[(0,.sh (.slice T58) [.slice A0' r.1.length c1'] r.1)]/\A.h6 r.2):=by
 refine Vh Tryz.func18 rfl Tryz.ntmps18 rfl λw0 F0=>?_;rw[F.b1]at k;refine Vl 1 ?_;refine Vm 2 (cs:=(A.rai h A2_ c3_)) λg1=>?_;refine Vm 3 (cs:=(A.rah l)) λg2=>?_;refine Vr 2 [] 2 ?_;refine Vp [2] [] [.b 0 0] [(12,(A.rao h A2_ c3_))] (Vj 4 (cs:=[A.i 0,A.i 0,QA,A.i 0,A.i 0,.string (QE),.string (QE),A.i 0,A.i 0]) Tryz.zeroValue49 λg3=>?_);refine Ul 4 [] (A.rai h A2_ c3_) ?_;refine Uq 2 ?_;refine Vp [3] [] [.n,.b 0 0,.n] [(14,A.i l.1),(15,.pointer (some ⟨g3,0,none⟩))] (V3 4 [] (new:=[A.i l.1]) (cs':=[A.i l.1,A.i h.2.1,.slice A2_ h.2.2.1.length c3_,A.i h.2.2.2.1.1,A.i h.2.2.2.1.2.1,.string h.2.2.2.1.2.2,.string h.2.2.2.2.1,A.i h.2.2.2.2.2.1,A.i h.2.2.2.2.2.2]) ?_);refine Kh 2 ?_;refine Vi [2,3,4,8] [0,1,2,3,4] (λP Q=>∃(U:Bool),P=[(27,.bool U)]/\Q=[]/\F.bt h l o U=some r) ?_ ?_;refine Uj 0 [2,3] [] [.n,.b 0 0,.n,.b 1 1,.n,.n] [(21,.bool (decide (h.1≠l.2.1)))] ?_;refine V6 (j:=21) rfl k ?_ ?_<;>intro W k;refine Vp [] [] [.off,.off,.off,.off,.off,.n] [(27,QC)] (Vg ?_);exact V0 ⟨true,rfl,rfl,k⟩;refine Vp [4,2,3] [] [.on (.b 0 0),.on (.b 1 0),.on (.b 2 0)] [(22,.agg #[A.i l.1,A.i h.2.1,.slice A2_ h.2.2.1.length c3_,A.i h.2.2.2.1.1,A.i h.2.2.2.1.2.1,.string h.2.2.2.1.2.2,.string h.2.2.2.2.1,A.i h.2.2.2.2.2.1,A.i h.2.2.2.2.2.2]),(23,(A.rao h A2_ c3_)),(24,(A.ran l))] (Vo (dj:=21) rfl rfl ?_);refine Ue 5 [] k (o_cy A2_ A2_ c3_ c3_ (l.1,h.2.1,h.2.2.1,h.2.2.2.1,h.2.2.2.2.1,h.2.2.2.2.2.1,h.2.2.2.2.2.2) h l L z B C E H I J a3 z B C E H I J L a4 a5 a6 a7 a8 a9) (.s 0 (.s 0 .nil)) ?_;rintro aa - k _ _ ⟨rfl,rfl,hr33⟩;refine Vs (Vp [] [] [.on .n,.n] [(27,.bool (decide (aa≠0)))] (Vg ?_));exact V0 ⟨(decide (aa≠0)),rfl,rfl,k⟩;rintro _ _ ⟨U,rfl,rfl,k⟩;rw[F.bt]at k;refine U9 k ?_ ?_<;>intro W k;refine Vq 1 2 [(6,QA),(7,A.i 180)] 1 ?_;obtain rfl:=V8 k;refine A.snil 45 T58 ?_;exact U8 [(0,45)] ⟨none,0,rfl,rfl,(V1 180)⟩;refine Uj 4 [4] [] [.b 0 0,.n] [(28,.agg #[A.i l.1,A.i h.2.1,.slice A2_ h.2.2.1.length c3_,A.i h.2.2.2.1.1,A.i h.2.2.2.1.2.1,.string h.2.2.2.1.2.2,.string h.2.2.2.2.1,A.i h.2.2.2.2.2.1,A.i h.2.2.2.2.2.2]),(29,.slice A17_ o.length c18_)] ?_;refine Ue 46 [] k (o_aW A2_ A17_ c3_ c18_ (l.1,h.2.1,h.2.2.1,h.2.2.2.1,h.2.2.2.2.1,h.2.2.2.2.2.1,h.2.2.2.2.2.2) o L z B C E H I J) (.s 0 (.s 1 .nil)) ?_;rintro Y - k _ _ ⟨rfl,rfl,hr7⟩;refine Vs (Vr 1 [(9,A.i Y)] 2 ?_);refine Vy 2 [(32,.bool (decide (Y≠0)))] 1 ?_;refine Km k ?_ ?_<;>intro W k;refine Vq 1 3 [(6,QA),(7,A.i Y)] 1 ?_;obtain rfl:=V8 k;refine A.snil 86 T58 ?_;exact U8 [(0,86)] ⟨none,0,rfl,rfl,hr7⟩;refine Vl 3 ?_;refine Vr 1 [(10,QA)] 3 ?_;refine Vy 1 [(11,A.i 0)] 2 ?_;refine A.snil 169 T58 ?_;refine Ud [2,3,4] [0,1,2,3] (λf P Q=>∃(u:List D58)(p:Int)(x:QK)(y:Nat),P=[(10,.slice x u.length y),(11,A.i p)]/\Q=[(169,.sh (.slice T58) [.slice x u.length y] u)]/\A.h6 p/\F.aq h l o f u p=some r) ⟨[],0,none,0,rfl,rfl,Vv,k⟩ ?_;rintro ab _ _ ⟨u,p,x,y,rfl,rfl,al,k⟩;rcases ab with _|ab
 exact Ua k;rw[F.aq]at k;refine V7 2 4 [(37,.bool (decide (p<(o.length:Int))))] 1 k ?_ ?_<;>intro W k;refine U0 4 ?_;refine V9 mixed 13 13 (A.mb 13 0) ?_;refine V4 Vn [] [0,1,2,3,169] [2,3] [] (A.mb 13 1823) 5 [(0,.n),(1,.b 0 0),(2,.b 1 0),(3,.n),(4,.n),(8,.n),(9,.b 0 1),(10,.n)] [(40,.slice x u.length y),(41,(A.rao h A2_ c3_)),(42,(A.ran l)),(43,.slice A17_ o.length c18_),(44,A.i p),(50,.bool (decide (h.2.1=16)))] ?_;have⟨ac,ad,k⟩:=Uz k;refine U6 1 334 ad λN=>?_;intro am an aj;refine Uc Vn [0,1,2,3,169] l7a 5 (A.mb 13 1855) rfl (λa w hf hh=>Um (t:=T58) ad aj hf) ?_;refine V4 Vn l7a l7a [] [334] (A.mb 13 1919) 3 [(6,.e 0 0)] [(46,(A.raq ac))] (Vu 7 ?_);refine Ue 335 [] k (o_co A2_ c3_ h l ac a3 z B C E H I J L a4 a5 a6 a7 a8 a9 N.1 N.2.1 N.2.2.1 N.2.2.2) (.s 0 .nil) ?_;rintro ak - k _ _ ⟨rfl,rfl,hr22,hr23,hr24,hr25⟩;refine Vs (Vz (A.mb 13 2047) l7a ?_);refine Vu 11 ?_;refine Ue 375 [] k (o_cQ x y u ak (decide (h.2.1=16)) hr22 hr23 hr24 hr25) (.s 169 .nil) ?_;rintro ae - k _ _ ⟨af,ag,rfl,rfl⟩;refine Vs (Vz (A.mb 13 4095) l7a ?_);refine V4 Vn l7a [0,1,2,3,169,334,375] [] [] (A.mb 13 8191) 0 [(12,.n)] [(10,.slice af ae.length ag)] (Vt ?_);refine A.el 2 ?_;have⟨ah,k⟩:=Ui k;refine U3 3 [Z.R64 (p+1)] [(11,A.i (p+1))] ah (Vg ?_);refine A.mv 169 415 [] ?_;refine Kg 375 169 [] ?_;exact V0 ⟨_,Qo _,⟨ae,(p+1),af,ag,rfl,rfl,(Vk ah),k⟩⟩;refine Vq 3 3 [(6,.slice x u.length y),(7,A.i 0)] 1 ?_;obtain rfl:=V8 k;exact U8 [(0,169)] ⟨x,y,rfl,rfl,Vv⟩
def F.ao (e:D48)(o:D50)(p:(List D58)×Int)(h:(List D42)):Nat->(List D58)->Int->Option Bool
 |0,_,_=>none
 |f+1,k,a=>if a<(h.length:Int)then((A.ix h a).bind λr=>((F.b1 e o r.2).bind λl=>(if l.2≠0 then(some false)else(A.gd ((List.length (α:=D58) k+List.length (α:=D58) l.1)*40<=140737488355328) (A.gd (Z.R64 (a+1)) ((F.ao e o p h f) (k++l.1) (a+1)))))))else((F.cn [(1,1,[],(0,0,QE),ByteArray.mk #[97],0,0),e] k).bind λs=>((F.dl s p.1).bind λt=>(some t)))
def F.ad (e:D48)(f:D50)(a:UInt8)(h:(List D58))(k:(List D58)×Int)(l:Bool):Option Bool:=if l=true then(some true)else(A.gd (Z.R64 ((a.toNat:Int))/\(16:Int)≠0/\Z.R64 (1+(Int.tmod (a.toNat:Int) 16))) ((F.cq (1+(Int.tmod (a.toNat:Int) 16)) h).bind λo=>((F.ag o 99).bind λp=>(F.ao e f k p A.FU [] 0))))
def F.ap (a:D48)(e:D50)(k:UInt8)(f:(List D58))(l:Bool):Option Bool:=if l=true then((F.eb).bind λo=>(some o))else((F.b1 a e f).bind λh=>(if h.2≠0 then(F.ad a e k f h true)else((F.cZ [(1,1,[],(0,0,QE),ByteArray.mk #[97],0,0),a]).bind λp=>(F.ad a e k f h (decide (p≠0))))))
def F.cw (a:D48)(e:D50)(h:UInt8)(f:(List D58)):Option Bool:=(F.eb).bind λk=>(if(!k)=true then(F.ap a e h f true)else((F.dV [] f).bind λl=>(if(!l)=true then(F.ap a e h f true)else((F.d3 [a]).bind λo=>(F.ap a e h f (bif !o then true else decide ((2000:Int)<(e.2.2.2.2.2.2.size:Int))))))))
theorem o_a4(h:D48)(p:D50)(w:UInt8)(t:(List D58))(L:A.h6 h.1)(N:A.h6 h.2.1)(P:A.h6 h.2.2.2.1.1)(Q:A.h6 h.2.2.2.1.2.1)(U:h.2.2.2.1.2.2.size<=maxLen)(W:h.2.2.2.2.1.size<=maxLen)(Y:A.h6 h.2.2.2.2.2.1)(a4:A.h6 h.2.2.2.2.2.2)(a9:A.h6 p.1)(aa:A.h6 p.2.1)(ab:A.h6 p.2.2.1)(ac:A.h6 p.2.2.2.1)(ae:A.h6 p.2.2.2.2.1)(af:A.h6 p.2.2.2.2.2.1)(ag:p.2.2.2.2.2.2.size<=maxLen)(r:Bool)(a:F.cw h p w t=some r):
    A.Ct Tryz.prog 5 [(A.rao h A2_ c3_),(A.ran p),.int .u8 (w.toNat:Int),.slice A17_ t.length c18_] [(0,.sh A.TI [.slice A2_ h.2.2.1.length c3_] h.2.2.1),(1,.sh (.slice T58) [.slice A17_ t.length c18_] t),(2,.el none 0 0 A.tabF),(3,.el none 1 0 A.tabA)] [] (λv H'=>v=.bool r/\H'=[]):=by
 refine Vh Tryz.func5 rfl Tryz.ntmps5 rfl λw0 F0=>?_;rw[F.cw]at a;refine Vl 1 ?_;refine Vm 4 (cs:=(A.rai h A2_ c3_)) λg1=>?_;refine Vm 5 (cs:=(A.rah p)) λg2=>?_;refine Vy 1 [] 2 ?_;refine Vi [2,3,4,5] [0,1,2,3,4,5] (λI J=>∃(y3:Bool),I=[(36,.bool y3)]/\J=[]/\F.ap h p w t y3=some r) ?_ ?_;refine Vl 0 ?_;refine Ue 6 [] a o_aJ .nil ?_;rintro av - a _ _ ⟨rfl,rfl⟩;refine Vs (Uw 2 [(19,.bool (!av))] (Uh (j:=19) rfl a (λa=>?_) (λa=>?_)));refine Vp [] [] [.off,.off,.off,.n,.n,.off,.off,.off,.off,.n,.n,.off,.off,.off,.off,.off,.n] [(36,QC)] (Vg ?_);exact V0 ⟨true,rfl,rfl,a⟩;refine Vp [] [] [.on .n] [(20,.slice A17_ t.length c18_)] (Vo (dj:=19) rfl rfl ?_);refine Ue 46 [] a (o_bZ none A17_ 0 c18_ [] t) (.ns (.s 1 .nil)) ?_;rintro aw - a _ _ ⟨rfl,rfl⟩;refine Vs (Vp [] [] [.on .n,.n,.n] [(24,.bool (!aw))] (Uh (j:=24) rfl a (λa=>?_) (λa=>?_)));refine Vp [] [] [.off,.off,.off,.off,.n,.n,.off,.off,.off,.off,.off,.n] [(36,QC)] (Vg ?_);exact V0 ⟨true,rfl,rfl,a⟩;refine Vp [4] [] [.on (.b 0 0)] [(25,(A.rao h A2_ c3_))] (Vo (dj:=24) rfl rfl ?_);refine Ug 86 (ty:=T48) (cs:=(A.rai h A2_ c3_)) [h] ⟨⟨⟨rfl,L⟩,⟨rfl,N⟩,.inl ⟨0,rfl⟩,⟨⟨rfl,P⟩,⟨rfl,Q⟩,⟨rfl,U⟩⟩,⟨rfl,W⟩,⟨rfl,Y⟩,⟨rfl,a4⟩⟩,rfl⟩ (λax=>?_) Tryz.zeroValue49 Tryz.sizeOf49;refine Vo (dj:=24) rfl rfl ?_;refine U5 86 [] ?_;refine Ue 87 [] a (o_cM (some ⟨ax,0,none⟩) 1 [h]) (.s 86 .nil) ?_;rintro ah - a _ _ ⟨rfl,rfl⟩;refine Vs (Vp [5] [] [.on .n,.n,.n,.sy .n,.sy .n,.sy (.b 0 6),.sy .n,.sy .n,.pk] [(36,.bool (bif !ah then true else decide ((2000:Int)<(p.2.2.2.2.2.2.size:Int))))] (Vg ?_));exact V0 ⟨(bif !ah then true else decide ((2000:Int)<(p.2.2.2.2.2.2.size:Int))),rfl,rfl,a⟩;rintro _ _ ⟨y3,rfl,rfl,a⟩;rw[F.ap]at a;refine U9 a ?_ ?_<;>intro hb a;refine Vl 1 ?_;refine Ue 127 [] a o_aJ .nil ?_;rintro r4 - a _ _ ⟨rfl,rfl⟩;refine Vs (Vy 1 [(8,.bool r4)] 1 ?_);exact A.ke a (Vx ⟨rfl,rfl⟩);refine Uj 3 [4,5] [] [.b 0 0,.b 1 0,.n] [(39,(A.rao h A2_ c3_)),(40,(A.ran p)),(41,.slice A17_ t.length c18_)] ?_;refine Ue 167 [] a (o_ar A2_ A17_ c3_ c18_ h p t L N P Q U W Y a4 a9 aa ab ac ae af ag) (.s 0 (.l 1 .nil)) ?_;rintro y - a _ _ ⟨A8,c9,rfl,rfl,hr10⟩;refine Vs (Vr 5 [(9,.slice A8 y.1.length c9),(10,A.i y.2)] 2 ?_);refine Vp [4] [] [.n,.b 0 0] [(45,.agg #[A.i 1,A.i 1,QA,A.i 0,A.i 0,.string (QE),.string (ByteArray.mk #[97]),A.i 0,A.i 0]),(46,(A.rao h A2_ c3_))] (Ug 207 (ty:=T48) (cs:=[A.i 1,A.i 1,QA,A.i 0,A.i 0,.string (QE),.string (ByteArray.mk #[97]),A.i 0,A.i 0,A.i h.1,A.i h.2.1,.slice A2_ h.2.2.1.length c3_,A.i h.2.2.2.1.1,A.i h.2.2.2.1.2.1,.string h.2.2.2.1.2.2,.string h.2.2.2.2.1,A.i h.2.2.2.2.2.1,A.i h.2.2.2.2.2.2]) [(1,1,[],(0,0,QE),ByteArray.mk #[97],0,0),h] ⟨⟨⟨rfl,(V1 1)⟩,⟨rfl,(V1 1)⟩,.inr ⟨rfl,rfl⟩,⟨⟨rfl,Vv⟩,⟨rfl,Vv⟩,⟨rfl,(K8 (QE) rfl)⟩⟩,⟨rfl,(K8 (ByteArray.mk #[97]) rfl)⟩,⟨rfl,Vv⟩,⟨rfl,Vv⟩⟩,⟨⟨⟨rfl,L⟩,⟨rfl,N⟩,.inl ⟨0,rfl⟩,⟨⟨rfl,P⟩,⟨rfl,Q⟩,⟨rfl,U⟩⟩,⟨rfl,W⟩,⟨rfl,Y⟩,⟨rfl,a4⟩⟩,rfl⟩⟩ (λz=>?_) Tryz.zeroValue49 Tryz.sizeOf49);refine Uw 1 [(48,.agg #[.slice (some ⟨z,0,none⟩) 2 2])] (Vj 208 (cs:=[QA]) Tryz.zeroValue24 λcb=>?_);refine Ul 208 [] [.slice (some ⟨z,0,none⟩) 2 2] ?_;refine Kh 2 ?_;refine U5 207 [] ?_;refine Vi [2,3,4,5,9,11] [0,1,2,3,4,5,167,207,208] (λI J=>∃(a8:Bool),I=[(55,.bool a8)]/\J=[]/\F.ad h p w t y a8=some r) ?_ ?_;refine Uf 0 3 [(51,.bool (decide (y.2≠0)))] ?_;refine V6 (j:=51) rfl a ?_ ?_<;>intro hb a;refine Vp [] [] [.off,.off,.off,.n] [(55,QC)] (Vg ?_);exact V0 ⟨true,rfl,rfl,a⟩;refine Vp [208] [] [.on (.b 0 0)] [(52,.agg #[.slice (some ⟨z,0,none⟩) 2 2])] (Vo (dj:=51) rfl rfl ?_);refine Ue 249 [] a (o_ck (some ⟨z,0,none⟩) 2 [(1,1,[],(0,0,QE),ByteArray.mk #[97],0,0),h]) (.s 207 .nil) ?_;rintro aj - a _ _ ⟨rfl,rfl,hr85⟩;refine Vs (Vp [] [] [.on .n,.n] [(55,.bool (decide (aj≠0)))] (Vg ?_));exact V0 ⟨(decide (aj≠0)),rfl,rfl,a⟩;rintro _ _ ⟨a8,rfl,rfl,a⟩;rw[F.ad]at a;refine U9 a ?_ ?_<;>intro hb a;refine Vq 1 1 [(8,QC)] 1 ?_;exact A.ke a (Vx ⟨rfl,rfl⟩);refine Vl 3 ?_;refine Vr 1 [(12,QA)] 3 ?_;have⟨ak,a⟩:=Ui a;refine U3 5 [Z.R64 ((w.toNat:Int)),(16:Int)≠0,Z.R64 (1+(Int.tmod (w.toNat:Int) 16))] [(59,A.i (1+(Int.tmod (w.toNat:Int) 16))),(60,.slice A17_ t.length c18_)] ak ?_;refine Ue 289 [] a (o_bA A17_ c18_ (1+(Int.tmod (w.toNat:Int) 16)) t (Vk ak.2.2)) (.s 1 .nil) ?_;rintro ay - a _ _ ⟨az,b0,b1,b2,b3,b4,b5,b6,b7,b9,bb,bc,be,bf,bg,bh,bi,bj,bk,bm,bp,bq,br,bs,bt,bu,bw,bx,bz,c0,c1,c2,c3,rfl,rfl⟩;refine Vs ?_;have⟨a5,c4,a⟩:=Uz a;refine A.AL.call 329 [] (first:=[]) (cap:=[]) cf14 (o_an b0 b2 b4 b6 b9 bc bf bh bj bm bq bs bu bx c0 c2 az b1 b3 b5 b7 bb be bg bi bk bp br bt bw bz c1 c3 ay 99 (V1 99) a5 c4) (.b 289 (.s 290 (.s 291 (.s 292 (.s 293 (.s 294 (.s 295 (.s 296 (.s 297 (.s 298 (.s 299 (.s 300 (.s 301 (.s 302 (.s 303 (.s 304 (.s 305 .nil))))))))))))))))) ?_;rintro _ _ ⟨cc,cd,rfl,rfl⟩;refine Vs (Vy 2 [(63,A.i (a5.length:Int)),(64,A.i 0)] 2 ?_);refine Ka 493 T58 59 ?_;refine Ud [4,5,9,11,62,63] [0,2,3,4,5,167,207,208,329] (λf I J=>∃(u:List D58)(x:Int)(B:QK)(C:Nat),I=[(12,.slice B u.length C),(64,A.i x)]/\J=[(493,.own T58 59 B C u)]/\A.h6 x/\F.ao h p y a5 f u x=some r) ⟨[],0,none,0,rfl,rfl,Vv,a⟩ ?_;rintro al _ _ ⟨u,x,B,C,rfl,rfl,cf,a⟩;rcases al with _|al
 exact Ua a;rw[F.ao]at a;refine V7 1 1 [(65,.bool (decide (x<(a5.length:Int))))] 2 a ?_ ?_<;>intro hb a;refine Vl 5 ?_;have⟨E,c5,a⟩:=Uz a;refine Kq 329 740 c5 λcg=>?_;intro a6 a7 ch ci;refine Vp [] [740] [.e 0 0] [(67,.agg #[A.i E.1,.slice a6 E.2.length a7])] (Vj 742 (cs:=[A.i 0,QA]) Tryz.zeroValue43 λcj=>?_);refine Ul 742 [] [A.i E.1,.slice a6 E.2.length a7] ?_;refine Uq 2 ?_;refine Vp [4,5,742] [] [.b 0 0,.b 1 0,.n,.b 2 1] [(69,(A.rao h A2_ c3_)),(70,(A.ran p)),(72,.slice a6 E.2.length a7)] (Ue 743 [] a (o_ar A2_ a6 c3_ a7 h p E.2 L N P Q U W Y a4 a9 aa ab ac ae af ag) (.s 0 (.l 741 .nil)) ?_);rintro H - a _ _ ⟨am,an,rfl,rfl,hr72⟩;refine Vs (Vr 5 [(15,.slice am H.1.length an),(16,A.i H.2)] 3 ?_);refine Vy 2 [(77,.bool (decide (H.2≠0)))] 1 ?_;refine Km a ?_ ?_<;>intro hb a;refine Vq 1 1 [(8,QB)] 1 ?_;exact A.ke a (Vx ⟨rfl,rfl⟩);refine Uf 2 2 [(78,.slice B u.length C),(79,.slice am H.1.length an)] ?_;have⟨hl75,a⟩:=Ui a;refine Uo (k:=493) [] (A.rowS (k:=743) rfl) Qkp hl75 λaq ar=>?_;refine Vr 1 [(12,.slice aq ((u++H.1).length) ar)] 2 ?_;have⟨au,a⟩:=Ui a;refine U3 2 [Z.R64 (x+1)] [(64,A.i (x+1))] au (Vg ?_);exact V0 ⟨_,Qo _,⟨(u++H.1),(x+1),aq,ar,rfl,rfl,(Vk au),a⟩⟩;refine Uj 3 [208] [] [.b 0 0,.n] [(82,.agg #[.slice (some ⟨z,0,none⟩) 2 2]),(83,.slice B u.length C)] ?_;refine Ue 783 [] a (o_b5 (some ⟨z,0,none⟩) B 2 C [(1,1,[],(0,0,QE),ByteArray.mk #[97],0,0),h] u) (.s 207 (.o 493 (.s 2 (.s 3 .nil)))) ?_;rintro c6 - a _ _ ⟨c7,c8,rfl,rfl⟩;refine Vs (Uw 1 [(85,.slice A8 y.1.length c9)] (Ue 823 [] a (o_cq c7 A8 c8 c9 c6 y.1) (.o 783 (.l 167 .nil)) ?_));rintro ca - a _ _ ⟨rfl,rfl⟩;refine Vs (Vy 1 [(8,.bool ca)] 1 ?_);exact A.ke a (Vx ⟨rfl,rfl⟩)
end Go.Proofs.YtligcbdjiolamaaGreatDoor
end
section
end
section
namespace Go.A
open Go.RowKit Go.Z Go.Shelf Go.Proofs Go.Lib
def Hall (W:World):QJ->Prop
 | []=>True
 |p::H=>(p.2.bl=[]/\p.2.ref=none/\p.2.holds W (λ_=>True) (λ_ _=>False))/\Hall W H
def Hall.at {W:World}: ∀{H:QJ} {k:Nat} {r:Res},Hall W H->hk H k=some r->r.bl=[]/\r.ref=none/\r.holds W (λ_=>True) (λ_ _=>False)
 | [],_,_,_,h=>by cases h
 |(d,u)::H,k,r,E,h=>by
  rw[Qab]at h;split at h;injection h with h;subst h;exact E.1
  exact E.2.at h
def Hp.start {W:World}{H:QJ}(h:Hall W H):Hp ⟨0,[],W,[],λ_=>True⟩ H W:=by
 have E: ∀k b,¬Bk H k b:=λk b ⟨r,h1,h2⟩=>by rw[(h.at h1).1]at h2;cases h2
 refine⟨Ch.refl W,λk r hk=>?_,λk b I=>(E k b I).elim,λk k' b I=>(E k b I).elim,λk r j hk J=>?_⟩;exact Res.to (S:=[]) (h.at hk).2.2 (Ch.refl W) (λb _ _=>⟨by simp,λk=>E k b,.inl trivial⟩) (λb _ _=>⟨by simp,λk=>E k b⟩) (λi b _ N=>N.elim) (by simp);rw[(h.at hk).2.1]at J;cases J
def Hall.sh {W:World}{t:Ty}{cs:QL}{x:t.den}{F:Nat->Prop}(h:t.rep W F cs x):(Res.sh t cs x).bl=[]/\(Res.sh t cs x).ref=none/\(Res.sh t cs x).holds W (λ_=>True) (λ_ _=>False):=
 ⟨rfl,rfl,Qga h λ_ _ _=>trivial⟩
def putCells (cs:QL):Obj->Obj
 | .cells _ t frozen=>.cells cs.toArray t frozen
 |o=>o
def tab_cells {w:World}{J N:Nat}(h:Lib.Utf8Tabs J N w):Cells w ⟨J,0,none⟩ tabF/\Cells w ⟨N,0,none⟩ tabA:=by
 constructor;intro j u E;rw[Wf,Wl];have I:j<256:=by have:=(Qe.1 E).1;simpa[tabF] using this
 have e:tabF[j]?=some (.int .u8 (firstT j)):=by simp[tabF,I]
 rw[e]at E;injection E with E;subst E
 exact h.1 j I;intro j u E;rw[Wf,Wl];have I:j<32:=by have:=(Qe.1 E).1;simpa[tabA] using this
 have e:tabA[j]?=some (.int .u8 (if j%2=0 then accLo (j / 2)else accHi (j / 2))):=by simp[tabA,I]
 rw[e]at E;injection E with E;subst E
 have:=h.2 (j / 2) (by omega);by_cases W:j%2=0;rw[Qc W];have H:j=2*(j / 2):=by omega
 rw[H];simpa using this.1;rw[Qb W];have H:j=2*(j / 2)+1:=by omega
 have Y:(2*(j / 2)+1) / 2=j / 2:=by omega
 rw[H,Y];exact this.2
def Hall.tabs {w:World}{E H i j:Nat}(h:Lib.Utf8Tabs E H w):Hall w [(i,.el none E 0 tabF),(j,.el none H 0 tabA)]:=by
 obtain⟨h1,h2⟩:=tab_cells h;exact⟨⟨rfl,rfl,h1,World.block_lt_of_cell? w _ (h1 0 (.int .u8 (firstT 0)) (by simp[tabF])),λ_ h=>h⟩,⟨rfl,rfl,h2,World.block_lt_of_cell? w _ (h2 0 (.int .u8 (accLo 0)) (by simp[tabA])),λ_ h=>h⟩,trivial⟩
end Go.A
end
section
namespace Go.Graph
abbrev Fun:=Int×Int×ByteArray
abbrev Nd:=Int×Int×QP×Fun×ByteArray×Int×Int
abbrev Pl:=Int×Int
abbrev Sp:=Pl×Int
abbrev id (x:Nd):Int:=x.1
abbrev kind (x:Nd):Int:=x.2.1
abbrev ins (x:Nd):QP:=x.2.2.1
abbrev fn (x:Nd):Fun:=x.2.2.2.1
abbrev name (x:Nd):ByteArray:=x.2.2.2.2.1
abbrev cap (x:Nd):Int:=x.2.2.2.2.2.1
abbrev dep (x:Nd):Int:=x.2.2.2.2.2.2
def Few (g:List Nd):Prop:=g.length<=40/\∀x,x∈g->x.2.2.1.length<=5000/\x.2.2.2.2.1.size<=5000/\x.2.2.2.1.2.2.size<=5000
def Few.in {g:List Nd}{k:Nat}{x:Nd}(h:Few g)(hx:g[k]?=some x):x.2.2.1.length<=5000:=(h.2 x (Qu hx)).1
def insK (k:Int):Int:=if k<1\/16<k then-1 else if k=1 then 0 else if k=5\/k=9 then 2 else 1
def Qba (c:UInt8):Bool:=decide ((97:Int)<=(c.toNat:Int)/\(c.toNat:Int)<=122\/(65:Int)<=(c.toNat:Int)/\(c.toNat:Int)<=90)
def Qgs (c:UInt8):Bool:=decide ((48:Int)<=(c.toNat:Int)/\(c.toNat:Int)<=57)
def Qdg (l:List UInt8):Bool:=l.all λc=>Qba c||Qgs c
def named (s:ByteArray):Bool:=decide (s≠QE)&&decide ((s.size:Int)<=16)&&Qba (Z.bat s 0)&&Qdg s.data.toList
def Qij {s:ByteArray}{i:Nat}(h:i<s.size):s.data.toList.drop i=Z.bat s i::s.data.toList.drop (i+1):=by
 have h':i<s.data.toList.length:=by simpa using h
 rw[Yt h'];have h2:i<s.data.size:=h;congr 1;simp[Z.bat,Wg h2]
def Qgu {s:ByteArray}{i:Nat}(h: ¬i<s.size):s.data.toList.drop i=[]:=
 Xi (by have h1:s.data.toList.length=s.size:=rfl;omega)
def Qhc {s:ByteArray}(h:s≠QE):0<s.size:=by
 rcases Nat.eq_zero_or_pos s.size with h0|h0
 have h1:s.data=#[]:=Y2 h0;exact absurd (by cases s;simp_all) h;exact h0
def idxF (id:Int):Nat->List Nd->Int
 |_,[]=> -1
 |k,x::r=>if x.1=id then(k:Int)else idxF id (k+1) r
def idx (g:List Nd)(id:Int):Int:=idxF id 0 g
def Qcz (kd:Int)(s:ByteArray):List Nd->Int×Bool
 | []=>(0,false)
 |x::r=>if kind x=kd/\name x=s then(x.1,true)else Qcz kd s r
def z0:Nd:=(0,0,[],(0,0,QE),QE,0,0)
def at_ (g:List Nd)(i:Int):Nd:=(g[i.toNat]?).getD z0
def find (g:List Nd)(id:Int):Nd×Bool:=if idx g id<0 then(z0,false)else(at_ g (idx g id),true)
def idxF_le (id:Int): ∀(k:Nat) (g:List Nd),-1<=idxF id k g/\idxF id k g<k+g.length
 |k,[]=>by simp[idxF];omega
 |k,x::r=>by
  unfold idxF;have:=idxF_le id (k+1) r;by_cases h:x.1=id;rw[Qc h];simp only[Q2];omega;rw[Qb h];simp only[Q2];omega
def idx_le (g:List Nd)(id:Int): -1<=idx g id/\idx g id<g.length:=by
 have:=idxF_le id 0 g;unfold idx;omega
def Qie {g:List Nd}{i:Int}{x:Nd}{k:Nat}(hk:i=(k:Int))(h:g[k]?=some x):at_ g i=x:=by
 subst hk;simp[at_,h]
def ownT (g:List Nd)(n:Nd):Bool:=if n.2.1≠1/\n.2.1≠15 then decide (n.2.2.2.2.1=QE)else named n.2.2.2.2.1&&decide ((Qcz n.2.1 n.2.2.2.2.1 g).1=n.1)
def ownC (n:Nd):Prop:=n.2.1=14/\(n.2.2.2.2.2.1<1\/8<n.2.2.2.2.2.1\/n.2.2.2.2.2.2<1\/4<n.2.2.2.2.2.2)\/n.2.1≠14/\(n.2.2.2.2.2.1≠0\/n.2.2.2.2.2.2≠0)
instance (n:Nd):Decidable (ownC n):=by unfold ownC;infer_instance
def own (g:List Nd)(i:Int)(n:Nd):Bool:=
 if n.1<1\/255<n.1\/0<i/\n.1<=(at_ g (i-1)).1\/insK n.2.1<0\/(n.2.2.1.length:Int)≠insK n.2.1 then false else if ownC n then false else ownT g n
def bget (l:List Bool)(i:Int):Bool:=(l[i.toNat]?).getD false
def iget (l:QP)(i:Int):Int:=(l[i.toNat]?).getD 0
def Fed (g:List Nd):Prop:=∀x,x∈g->∀k,k∈x.2.2.1->0<=idx g k
def readyF (g:List Nd)(done:List Bool)(kd:Int):QP->Bool
 | []=>true
 |k::r=>if kd≠14/\bget done (idx g k)=false then false else readyF g done kd r
def ready (g:List Nd)(done:List Bool)(n:Nd):Bool:=readyF g done n.2.1 n.2.2.1
def firstF (g:List Nd)(done:List Bool):Nat->List Nd->Int->Int
 |_,[],a=>a
 |i,x::r,a=>firstF g done (i+1) r (if(a<0/\bget done i=false)/\ready g done x=true then i else a)
def orderF (g:List Nd):Nat->List Bool->QP->Option (QP)
 |0,_,l=>some l
 |f+1,done,l=>if firstF g done 0 g (-1)<0 then none else orderF g f (done.set (firstF g done 0 g (-1)).toNat true) (l++[firstF g done 0 g (-1)])
def order (g:List Nd):QP×Bool:=match orderF g g.length (List.replicate g.length false) []with
 |some l=>(l,true)
 |none=>([],false)
def d0:QP->Int
 | []=>0
 |a::_=>a
def capd (d:Int):Int:=if 4<d then-1 else d
def depthA (n:Nd)(l:QP):Int:=if n.2.1=14 then n.2.2.2.2.2.2 else if n.2.1=12 then d0 l+1 else if n.2.1=13 then d0 l-1 else
 if n.2.1=5\/n.2.1=9 then(if iget l 0≠iget l 1 then-1 else d0 l)else if n.2.1=11\/n.2.1=16\/n.2.1=15 then(if d0 l≠0 then-1 else d0 l)else d0 l
def depthOf (n:Nd)(l:QP):Int:=capd (depthA n l)
def depthsF (g:List Nd):QP->QP->Option (QP)
 | [],d=>some d
 |p::r,d=>if depthOf (at_ g p) ((at_ g p).2.2.1.map λk=>iget d (idx g k))<0 then none else depthsF g r (d.set p.toNat (depthOf (at_ g p) ((at_ g p).2.2.1.map λk=>iget d (idx g k))))
def loopsF (g:List Nd)(d:QP):List Nd->Bool
 | []=>true
 |x::r=>if x.2.1=14/\iget d (idx g (iget x.2.2.1 0))≠x.2.2.2.2.2.2 then false else loopsF g d r
def InB (d:QP):Prop:=∀i,0<=iget d i/\iget d i<=4
def InB.rep (n:Nat):InB (List.replicate n 0):=λi=>by
 unfold iget;rw[Js];split<;>simp
def InB.set {d:QP}(h:InB d)(p:Nat){v:Int}(h0:0<=v)(h1:v<=4):InB (d.set p v):=λi=>by
 unfold iget;rw[Jb];have:=h i;unfold iget at this;split;split<;>simp<;>omega;exact this
def insS (g:List Nd)(d:QP)(id:Int):Nat->QP->List Sp
 |_,[]=>[]
 |k,x::r=>((id,(k:Int)),iget d (idx g x))::insS g d id (k+1) r
def outS (n:Nd)(v:Int):List Sp:=if n.2.1≠15 then [((n.1,2),v)]else []
def spotsF (g:List Nd)(d:QP):Nat->List Nd->List Sp
 |_,[]=>[]
 |i,n::r=>insS g d n.1 0 n.2.2.1++(outS n (iget d i)++spotsF g d (i+1) r)
def spots (g:List Nd)(d:QP):List Sp:=spotsF g d 0 g
def atS (p:Pl):List Sp->Int
 | []=> -1
 |x::r=>if x.1=p then x.2 else atS p r
abbrev Sm:=Int×Int×Int×Int×(Int×Int×Int×Int)
def z8:Sm:=(0,0,0,0,(0,0,0,0))
def stepP (d a b:Int)(s:Sm):Sm×Int:=if d<a\/b<d then(z8,11)else((d,s.2),0)
def idP (d:Int):Sm×Int:=stepP d 0 4 (0,d,0,0,(0,0,0,0))
def enterP (d:Int):Sm×Int:=stepP d 0 3 (0,d,0,1,(0,0,0,0))
def leaveP (d:Int):Sm×Int:=stepP d 1 4 (0,d-1,0,0,(0,0,0,0))
def nextP (d:Int):Sm×Int:=stepP d 1 4 (0,d,1,0,(0,0,0,0))
def withinP (n:Nd)(d:Int):Sm:=if n.2.1=12 then(enterP d).1 else if n.2.1=13 then(leaveP d).1 else if n.2.1=14 then(nextP d).1 else(idP d).1
def Qjx (s:ByteArray)(pos:Nat):1<=(Utf8.decode s pos).2:=by
 unfold Utf8.decode;simp only[];repeat' split
 all_goals first|exact Qr 1|(simp;done)|omega
def Qbs (f:Fun):Bool:=if f.1=3\/f.1=13 then decide (0<=f.2.1/\f.2.1<=64)else if f.1=6\/f.1=11 then decide (1<=f.2.1/\f.2.1<=1048576)else decide (f.2.1=0)
def tail5 (c:UInt8):Bool:=decide (128<=(c.toNat:Int)/\(c.toNat:Int)<=191)
end Go.Graph
end
section
namespace Go.A
open Go.Z
def r64n {n:Nat}(h:n<4611686018427387904):R64 ((n:Int)+1):=⟨by omega,by omega⟩
def gd1 {α:Type}{p:Prop}[Decidable p](h:p)(x:Option α):gd p x=x:=Qc h
def ixn {α:Type}{xs:List α}{k:Nat}{x:α}(h:xs[k]?=some x):ix xs (k:Int)=some x:=by rw[ix_nat];exact h
def ixg {α:Type}{xs:List α}{i:Int}{x:α}(h0:0<=i)(h:xs[i.toNat]?=some x):ix xs i=some x:=by unfold ix;rw[Qb (by omega)];exact h
def dropx {α:Type}{xs:List α}{k:Nat}{x:α}(h:xs[k]?=some x):xs.drop k=x::xs.drop (k+1):=by
 obtain⟨h1,h2⟩:=Qe.1 h;rw[Yt h1,h2]
def ba {p q:Prop}[Decidable p][Decidable q]:(bif decide p then decide q else false)=decide (p/\q):=by by_cases h:p<;>simp[h]
def bo {p q:Prop}[Decidable p][Decidable q]:(bif decide p then true else decide q)=decide (p\/q):=by by_cases h:p<;>simp[h]
def bn {p:Prop}[Decidable p]:(!decide p)=decide (¬p):=by by_cases h:p<;>simp[h]
def lp {α σ ρ:Type}(xs:List α)(L:Nat->σ->Int->Option ρ)(G:Nat->List α->σ->Option ρ)(P:Nat->σ->Prop)
  (h0: ∀f s,P xs.length s->L (f+1) s (xs.length:Int)=G xs.length [] s)
  (h1: ∀f s (k:Nat) x,xs[k]?=some x->k<xs.length->P k s->(∀s',P (k+1) s'->L f s' ((k:Int)+1)=G (k+1) (xs.drop (k+1)) s')->L (f+1) s k=G k (x::xs.drop (k+1)) s)
  (E:xs.length<FU) (s:σ) (H:P 0 s):L FU s 0=G 0 xs s:=by
 have main: ∀(n k f:Nat) (s:σ),k+n=xs.length->n<f->P k s->L f s (k:Int)=G k (xs.drop k) s:=by
  intro n;induction n with
  |zero=>
   intro k f s hk I hp;obtain⟨f,rfl⟩: ∃f',f=f'+1:=⟨f-1,by omega⟩;obtain rfl:k=xs.length:=by omega
   rw[Xi (Qr _)];exact h0 f s hp
  |succ n ih=>
   intro k f s hk I hp;obtain⟨f,rfl⟩: ∃f',f=f'+1:=⟨f-1,by omega⟩;have hx:xs[k]?=some xs[k]:=Qj (by omega);rw[dropx hx];exact h1 f s k _ hx (by omega) hp λs' hp'=>ih (k+1) f s' (by omega) (by omega) hp'
 have:=main xs.length 0 FU s (by omega) E H;simpa using this
def lp0 {α ρ:Type}(xs:List α)(L:Nat->Int->Option ρ)(G:Nat->List α->Option ρ)
  (h0: ∀f,L (f+1) (xs.length:Int)=G xs.length [])
  (h1: ∀f (k:Nat) x,xs[k]?=some x->k<xs.length->L f ((k:Int)+1)=G (k+1) (xs.drop (k+1))->L (f+1) k=G k (x::xs.drop (k+1)))
  (E:xs.length<FU):L FU 0=G 0 xs:=
 lp xs (λf (_:Unit) y=>L f y) (λk l _=>G k l) (λ_ _=>True) (λf s _=>h0 f) (λf s k x hx hk _ ih=>h1 f k x hx hk (ih () trivial)) E () trivial
end Go.A
namespace Go.Proofs.YtligcbdjiolamaaGreatDoor
open Go.RowKit Go.Graph
def Qac:(18446744073709551616:Nat)<A.FU:=by decide
def ixb {s:ByteArray}{k:Nat}(h:k<s.size):A.ix s.data.toList (k:Int)=some (Z.bat s k):=by
 refine A.ixn ?_;have:=Qij h;rw[<-List.head?_drop,this];rfl
def Qad (s:ByteArray):s.data.toList.length=s.size:=rfl
end Go.Proofs.YtligcbdjiolamaaGreatDoor
end
section
namespace Go.Proofs.YtligcbdjiolamaaGreatDoor
open Go.RowKit Go.Graph
def Qho (s:ByteArray)(i:Nat):(s.get! i)=Z.bat s i:=by
 cases s;simp[ByteArray.get!,Z.bat,getElem!_def,Option.getD];rfl
def Qja (s:ByteArray)(i:Nat):Utf8.decode s i=Lib.decodeN (s.size-i) (Z.bat s i).toNat (Z.bat s (i+1)).toNat (Z.bat s (i+2)).toNat (Z.bat s (i+3)).toNat:=by
 rw[Lib.decode_at,Qho,Qho,Qho,Qho]
def dec_lt {s:ByteArray}{i:Nat}(h:(Z.bat s i).toNat <128):Utf8.decode s i=((Z.bat s i).toNat,1):=by
 rw[Qja];unfold Lib.decodeN;rw[Qc h]
def dec_ge {s:ByteArray}{i:Nat}(h:128<=(Z.bat s i).toNat):128<=(Utf8.decode s i).1:=by
 rw[Qja];unfold Lib.decodeN;rw[Qb (by omega)];repeat' split
 all_goals first|(simp only[];omega)|decide
def tail_eq (c:UInt8):F.b0 c=some (tail5 c):=by
 unfold F.b0 tail5;by_cases h1:(128:Int)<=(c.toNat:Int)<;>by_cases h2:(c.toNat:Int)<=191<;>simp[h1,h2]
def ixk (s:ByteArray)(p k:Nat):A.ix s.data.toList ((p:Int)+(k:Int))=if p+k<s.size then some (Z.bat s (p+k))else none:=by
 have e:(p:Int)+(k:Int)=((p+k:Nat):Int):=by omega
 rw[e];by_cases h:p+k<s.size;rw[Qc h];exact ixb h;rw[Qb h,A.ix_nat];exact Wh (by rw[Qad];omega)
def wid (s:ByteArray)(p:Nat):Nat:=if Utf8.decode s p=(65533,1)then 0 else(Utf8.decode s p).2
def wid_le {s:ByteArray}{p:Nat}(h:p<s.size):p+wid s p<=s.size:=by
 unfold wid;split;omega
 ·rw[Qja]
  unfold Lib.decodeN;repeat' split
  all_goals simp only[]
  all_goals omega
def widN (n a b c d:Nat):Nat:=
 if a<128 then 1
 else if(194<=a/\a<=223)/\2<=n/\(128<=b/\b<=191)then 2
 else if(224<=a/\a<=239)/\3<=n/\(128<=b/\b<=191)/\(128<=c/\c<=191)/\¬(a=224/\b<160)/\¬(a=237/\159<b)then 3
 else if(240<=a/\a<=244)/\4<=n/\(128<=b/\b<=191)/\(128<=c/\c<=191)/\(128<=d/\d<=191)/\¬(a=240/\b<144)/\¬(a=244/\143<b)then 4
 else 0
def pq (c:Prop)[Decidable c](x w:Nat)(E:w≠1):(if(if c then(x,w)else(65533,1))=(65533,1)then 0 else(if c then(x,w)else(65533,1)).2)=if c then w else 0:=by
 by_cases h:c<;>simp[h,E]
def widN_eq (n a b c d:Nat)(I:a<256)(J:b<256)(N:c<256)(W:d<256):(if Lib.decodeN n a b c d=(65533,1)then 0 else(Lib.decodeN n a b c d).2)=widN n a b c d:=by
 unfold Lib.decodeN widN;by_cases h0:a<128;simp only[h0,Xo,Qt];rw[Qb (by omega)]
 ·simp only[h0,Wd]
  by_cases h1:a / 32=6/\1<n/\b / 64=2
  ·simp only[Qc h1]
   rw[pq _ _ _ (by decide)];repeat' split
   all_goals omega
  ·simp only[Qb h1]
   by_cases E:a / 16=14/\(1<n/\b / 64=2)/\2<n/\c / 64=2
   ·simp only[Qc E]
    rw[pq _ _ _ (by decide)];repeat' split
    all_goals omega
   ·simp only[Qb E]
    by_cases H:a / 8=30/\(1<n/\b / 64=2)/\(2<n/\c / 64=2)/\3<n/\d / 64=2
    ·simp only[Qc H]
     rw[pq _ _ _ (by decide)];repeat' split
     all_goals omega
    ·simp only[Qb H,Xo]
     repeat' split
     all_goals omega
def wid_N (s:ByteArray)(p:Nat):wid s p=widN (s.size-p) (Z.bat s p).toNat (Z.bat s (p+1)).toNat (Z.bat s (p+2)).toNat (Z.bat s (p+3)).toNat:=by
 rw[<-widN_eq _ _ _ _ _ (UInt8.toNat_lt _) (UInt8.toNat_lt _) (UInt8.toNat_lt _) (UInt8.toNat_lt _),<-Qja];rfl
def cnd {α:Type}{p:Prop}[Decidable p](x y:α):(bif decide p then x else y)=if p then x else y:=by by_cases h:p<;>simp[h]
set_option maxHeartbeats 4000000 in
def Qhf (s:ByteArray)(p:Nat)(hp:p<s.size)(hs:s.size<=5000):F.dv s p=some (wid s p:Int):=by
 have i1:A.ix s.data.toList ((p:Int)+1)=if p+1<s.size then some (Z.bat s (p+1))else none:=ixk s p 1;have i2:A.ix s.data.toList ((p:Int)+2)=if p+2<s.size then some (Z.bat s (p+2))else none:=ixk s p 2;have i3:A.ix s.data.toList ((p:Int)+3)=if p+3<s.size then some (Z.bat s (p+3))else none:=ixk s p 3;have r1:Z.R64 ((p:Int)+1):=⟨by omega,by omega⟩;have r2:Z.R64 ((p:Int)+2):=⟨by omega,by omega⟩;have r3:Z.R64 ((p:Int)+3):=⟨by omega,by omega⟩;unfold F.dv;rw[A.gd1 ⟨by omega,by omega⟩,ixb hp,Qa,A.gd1 r1,i1,wid_N];generalize Z.bat s p=c0 at*;generalize Z.bat s (p+1)=c1 at*;generalize Z.bat s (p+2)=c2 at*;generalize Z.bat s (p+3)=c3 at*;have t (c:UInt8):tail5 c=decide (128<=c.toNat/\c.toNat<=191):=by unfold tail5;congr 1;exact propext ⟨λh=>by omega,λh=>by omega⟩
 by_cases h1:(1:Int)<(s.size:Int)-(p:Int);rw[Qc h1,Qc (by omega),Qa];simp only[F.cd,F.cc,F.bz,F.a2,tail_eq,Qa,t,A.gd1 r2,A.gd1 r3,i2,i3];unfold widN;generalize hn:s.size-p=n;have e2:((2:Int)<=(s.size:Int)-(p:Int))=(2<=n):=propext ⟨λh=>by omega,λh=>by omega⟩;have e3:((3:Int)<=(s.size:Int)-(p:Int))=(3<=n):=propext ⟨λh=>by omega,λh=>by omega⟩;have e4:((4:Int)<=(s.size:Int)-(p:Int))=(4<=n):=propext ⟨λh=>by omega,λh=>by omega⟩;have f2:(p+2<s.size)=(3<=n):=propext ⟨λh=>by omega,λh=>by omega⟩;have f3:(p+3<s.size)=(4<=n):=propext ⟨λh=>by omega,λh=>by omega⟩;have hn2:2<=n:=by omega
 simp only[e2,e3,e4,f2,f3,A.ba,Qy,hn2,and_true,true_and];have q0:((c0.toNat:Int)<128)=(c0.toNat<128):=propext ⟨λh=>by omega,λh=>by omega⟩;have q1:((194:Int)<=(c0.toNat:Int)/\(c0.toNat:Int)<=223)=(194<=c0.toNat/\c0.toNat<=223):=propext ⟨λh=>by omega,λh=>by omega⟩;have q2:((224:Int)<=(c0.toNat:Int)/\(c0.toNat:Int)<=239)=(224<=c0.toNat/\c0.toNat<=239):=propext ⟨λh=>by omega,λh=>by omega⟩;have q3:((240:Int)<=(c0.toNat:Int)/\(c0.toNat:Int)<=244)=(240<=c0.toNat/\c0.toNat<=244):=propext ⟨λh=>by omega,λh=>by omega⟩;have q4:((c0.toNat:Int)=224/\(c1.toNat:Int)<160)=(c0.toNat=224/\c1.toNat<160):=propext ⟨λh=>by omega,λh=>by omega⟩;have q5:((c0.toNat:Int)=237/\(159:Int)<(c1.toNat:Int))=(c0.toNat=237/\159<c1.toNat):=propext ⟨λh=>by omega,λh=>by omega⟩;have q6:((c0.toNat:Int)=240/\(c1.toNat:Int)<144)=(c0.toNat=240/\c1.toNat<144):=propext ⟨λh=>by omega,λh=>by omega⟩;have q7:((c0.toNat:Int)=244/\(143:Int)<(c1.toNat:Int))=(c0.toNat=244/\143<c1.toNat):=propext ⟨λh=>by omega,λh=>by omega⟩;simp only[q0,q1,q2,q3,q4,q5,q6,q7];have x1:240<=c0.toNat/\c0.toNat<=244->¬(224<=c0.toNat/\c0.toNat<=239):=λh h2=>by omega
 have x2:240<=c0.toNat/\c0.toNat<=244->¬(194<=c0.toNat/\c0.toNat<=223):=λh h2=>by omega
 have x3:224<=c0.toNat/\c0.toNat<=239->¬(194<=c0.toNat/\c0.toNat<=223):=λh h2=>by omega
 by_cases K0:c0.toNat<128;simp[K0];by_cases H:128<=c1.toNat/\c1.toNat<=191;by_cases K1:194<=c0.toNat/\c0.toNat<=223;simp only[Qb K0,Qc K1,Qc H,K1,H,and_self,Xo];rfl;by_cases K2:224<=c0.toNat/\c0.toNat<=239;have K3: ¬(240<=c0.toNat/\c0.toNat<=244):=λh=>x1 h K2;by_cases E:3<=n;by_cases I:128<=c2.toNat/\c2.toNat<=191;by_cases J:c0.toNat=224/\c1.toNat<160;simp only[Qb K0,Qb K1,Qc (And.intro K2 E),Qc H,Qc E,Qa,Qc I,eq_true J,Xo,false_and,K1,K3,eq_true J,not_true_eq_false,and_false,Wd];rfl;by_cases W:c0.toNat=237/\159<c1.toNat;simp only[Qb K0,Qb K1,Qc (And.intro K2 E),Qc H,Qc E,Qa,Qc I,Qb J,eq_true W,Xo,false_and,K1,K3,eq_true W,not_true_eq_false,and_false,Wd];rfl;simp only[Qb K0,Qb K1,Qc (And.intro K2 E),Qc H,Qc E,Qa,Qc I,Qb J,Qb W,false_and,K1,K2,E,H,I,J,W,not_false_eq_true,and_self,Xo,Wd];rfl;simp only[Qb K0,Qb K1,Qc (And.intro K2 E),Qc H,Qc E,Qa,Qb I,Qb K3,false_and,K1,K3,I,and_false,Wd,Q3];rfl;simp only[Qb K0,Qb K1,E,and_false,Qb K3,false_and,K1,K3,Wd];rfl;by_cases K3:240<=c0.toNat/\c0.toNat<=244;by_cases N:4<=n;have E:3<=n:=by omega
 by_cases I:128<=c2.toNat/\c2.toNat<=191;by_cases Y:128<=c3.toNat/\c3.toNat<=191;by_cases J:c0.toNat=240/\c1.toNat<144;simp only[Qb K0,Qb K1,Qb K2,K2,false_and,Qc (And.intro K3 N),Qc H,Qc E,Qc N,Qa,Qc I,Qc Y,eq_true J,Xo,K1,eq_true J,not_true_eq_false,and_false,Wd];rfl;by_cases W:c0.toNat=244/\143<c1.toNat;simp only[Qb K0,Qb K1,Qb K2,K2,false_and,Qc (And.intro K3 N),Qc H,Qc E,Qc N,Qa,Qc I,Qc Y,Qb J,eq_true W,Xo,K1,eq_true W,not_true_eq_false,and_false,Wd];rfl;simp only[Qb K0,Qb K1,Qb K2,K2,false_and,Qc (And.intro K3 N),Qc H,Qc E,Qc N,Qa,Qc I,Qc Y,Qb J,Qb W,K1,K3,N,H,I,Y,J,W,not_false_eq_true,and_self,Xo,Wd];rfl;simp only[Qb K0,Qb K1,Qb K2,K2,false_and,Qc (And.intro K3 N),Qc H,Qc E,Qc N,Qa,Qc I,Qb Y,K1,Y,and_false,Wd,Q3];rfl;simp only[Qb K0,Qb K1,Qb K2,K2,false_and,Qc (And.intro K3 N),Qc H,Qc E,Qa,Qb I,K1,I,and_false,Wd,Q3];rfl;simp only[Qb K0,Qb K1,Qb K2,K2,false_and,N,and_false,K1,Wd];rfl;simp only[Qb K0,Qb K1,Qb K2,Qb K3,K1,K2,K3,false_and,Wd];rfl;simp[K0,H];rw[Qb h1];simp only[F.cd,F.cc,F.bz,F.a2,A.ba,Qy];unfold widN;have w0:(c0.toNat:Int)<128↔c0.toNat<128:=⟨λh=>by omega,λh=>by omega⟩;by_cases h2:c0.toNat<128;rw[Qc (w0.2 h2),Qc h2];rfl;have a1: ¬((194<=c0.toNat/\c0.toNat<=223)/\2<=s.size-p/\128<=c1.toNat/\c1.toNat<=191):=λh=>by omega
 have a2: ¬((224<=c0.toNat/\c0.toNat<=239)/\3<=s.size-p/\(128<=c1.toNat/\c1.toNat<=191)/\(128<=c2.toNat/\c2.toNat<=191)/\¬(c0.toNat=224/\c1.toNat<160)/\¬(c0.toNat=237/\159<c1.toNat)):=λh=>by omega
 have a3: ¬((240<=c0.toNat/\c0.toNat<=244)/\4<=s.size-p/\(128<=c1.toNat/\c1.toNat<=191)/\(128<=c2.toNat/\c2.toNat<=191)/\(128<=c3.toNat/\c3.toNat<=191)/\¬(c0.toNat=240/\c1.toNat<144)/\¬(c0.toNat=244/\143<c1.toNat)):=λh=>by omega
 rw[Qb (λh=>h2 (w0.1 h)),Qb h2,Qb a1,Qb a2,Qb a3];simp only[Q3,Wd];rw[Qb (λh=>by omega),Qb (λh=>by omega),Qb (λh=>by omega)];rfl
def vld (s:ByteArray):Nat->Nat->Bool
 |0,_=>true
 |n+1,p=>if p<s.size then(if wid s p=0 then false else vld s n (p+wid s p))else true
def cnt (s:ByteArray):Nat->Nat->Nat
 |0,_=>0
 |n+1,p=>if p<s.size then 1+cnt s n (p+(Utf8.decode s p).2)else 0
def wid_4 (s:ByteArray)(p:Nat):wid s p<=4:=by
 rw[wid_N];unfold widN;repeat' split
 all_goals omega
def Qfi {s:ByteArray}{p:Nat}(h:wid s p≠0):(Utf8.decode s p).2=wid s p:=by
 unfold wid at h ⊢;split at h;exact absurd rfl h;rename_i h2;rw[Qb h2]
def Qgw (s:ByteArray)(H:s.size<=5000):F.dw s=some (vld s s.size 0):=by
 have loop: ∀(n p f:Nat),s.size-p<=n->n<f->p<=5010->F.bA s f (p:Int)=some (vld s n p):=by
  intro n;induction n with
  |zero=>
   intro p f hp I _;obtain⟨f,rfl⟩: ∃f',f=f'+1:=⟨f-1,by omega⟩;rw[F.bA,Qb (by omega)];rfl
  |succ n ih=>
   intro p f hp I J;obtain⟨f,rfl⟩: ∃f',f=f'+1:=⟨f-1,by omega⟩;rw[F.bA,vld];by_cases h:p<s.size;rw[Qc (by omega),Qc h,Qhf s p h H,Qa];have:=wid_le h;by_cases E:wid s p=0;rw[Qc (by omega),Qc E];rw[Qb (by omega),Qb E,A.gd1 ⟨by omega,by omega⟩];have e:(p:Int)+(wid s p:Int)=((p+wid s p:Nat):Int):=by omega
   rw[e];exact ih _ f (by omega) (by omega) (by omega);rw[Qb (by omega),Qb h]
 exact loop s.size 0 A.FU (by omega) (by have:=Qac;omega) (by omega)
def Qbf (s:ByteArray):Lib.validD s.data.toList=vld s s.size 0:=by
 have loop: ∀(n p:Nat),Lib.validGoD n (s.data.toList.drop p)=vld s n p:=by
  intro n;induction n with
  |zero=>intro p;rfl
  |succ n ih=>
   intro p;rw[Lib.validGoD,vld];by_cases h:p<s.size;have H:s.data.toList.drop p≠[]:=by rw[Qij h];simp
   rw[Qb H,Qc h,Lib.decodeL_drop,Yq];by_cases E:Utf8.decode s p=(65533,1);rw[Qc (by rw[E];exact⟨rfl,rfl⟩),Qc (by unfold wid;rw[Qc E])];have e:wid s p=(Utf8.decode s p).2:=by unfold wid;rw[Qb E]
   rw[Qb (λh2=>E (Prod.ext h2.1 h2.2)),Qb (by rw[e];have:=Qjx s p;omega),ih,e];rw[Qc (Qgu h),Qb h]
 have:=loop s.size 0;rw[X5]at this;exact this
def Runes_eq (s:ByteArray)(hs:s.size<=5000)(E:vld s s.size 0=true): ∃l,F.bV s=some l/\l.length=cnt s s.size 0:=by
 have loop: ∀(n p f:Nat) (xs:List (Int×Int)),s.size-p<=n->n<f->xs.length<=p->p<=5010->vld s n p=true->∃l,F.j s f xs (p:Int)=some l/\l.length=xs.length+cnt s n p:=by
  intro n;induction n with
  |zero=>
   intro p f xs hp hf _ _ _;obtain⟨f,rfl⟩: ∃f',f=f'+1:=⟨f-1,by omega⟩;rw[F.j,Qb (by omega)];exact⟨_,rfl,rfl⟩
  |succ n ih=>
   intro p f xs hp hf hxs hp5 E;obtain⟨f,rfl⟩: ∃f',f=f'+1:=⟨f-1,by omega⟩;rw[F.j];rw[vld]at E;rw[cnt];by_cases h:p<s.size;rw[Qc h]at E;have hl:=wid_le h;have h4:=wid_4 s p;by_cases J:wid s p=0;rw[Qc J]at E;cases E;rw[Qb J]at E;have H: ∀(w c:Int),w=(wid s p:Int)->∃l,F.al (F.j s f) xs (p:Int) w c=some l/\l.length=xs.length+(1+cnt s n (p+(Utf8.decode s p).2)):=λw c N=>by
    subst N;rw[F.al,A.gd1 (by simp only[Q2,Wx];omega),A.gd1 ⟨by omega,by omega⟩,Qfi J];have e:(p:Int)+(wid s p:Int)=((p+wid s p:Nat):Int):=by omega
    rw[e];obtain⟨l,h1,h2⟩:=ih (p+wid s p) f (xs++[((p:Int),c)]) (by omega) (by omega) (by simp only[Qz,Q2,Wx];omega) (by omega) E;exact⟨l,h1,by rw[h2,Qz];simp only[Q2,Wx];omega⟩
   have I:=ixb (s:=s) h;have W:A.ix s.data.toList ((p:Int)+1)=if p+1<s.size then some (Z.bat s (p+1))else none:=ixk s p 1;have i2:A.ix s.data.toList ((p:Int)+2)=if p+2<s.size then some (Z.bat s (p+2))else none:=ixk s p 2;have i3:A.ix s.data.toList ((p:Int)+3)=if p+3<s.size then some (Z.bat s (p+3))else none:=ixk s p 3;have Y:Z.R64 ((p:Int)+1):=⟨by omega,by omega⟩;have r2:Z.R64 ((p:Int)+2):=⟨by omega,by omega⟩;have r3:Z.R64 ((p:Int)+3):=⟨by omega,by omega⟩;rw[Qc (by omega),Qc h,Qhf s p h hs,Qa];by_cases w1:wid s p=1;rw[Qc (by omega),I,Qa];exact H _ _ rfl;rw[Qb (by omega)];by_cases w2:wid s p=2;rw[Qc (by omega),A.gd1 Y,I,Qa,A.gd1 (by decide),W,Qc (by omega),Qa,A.gd1 (by decide)];exact H _ _ rfl;rw[Qb (by omega)];by_cases w3:wid s p=3;rw[Qc (by omega),A.gd1 ⟨Y,r2⟩,I,Qa,A.gd1 (by decide),W,Qc (by omega),Qa,A.gd1 (by decide),i2,Qc (by omega),Qa,A.gd1 (by decide)];exact H _ _ rfl;rw[Qb (by omega),Qc (by omega),A.gd1 ⟨Y,r2,r3⟩,I,Qa,A.gd1 (by decide),W,Qc (by omega),Qa,A.gd1 (by decide),i2,Qc (by omega),Qa,A.gd1 (by decide),i3,Qc (by omega),Qa,A.gd1 (by decide)];exact H _ _ rfl;rw[Qb (by omega),Qb h];exact⟨_,rfl,rfl⟩
 obtain⟨l,h1,h2⟩:=loop s.size 0 A.FU [] (by omega) (by have:=Qac;omega) (by simp) (by omega) E;exact⟨l,h1,by simpa using h2⟩
def single_eq (s:ByteArray)(H:s.size<=9223372036854775807):F.dX s=some (if cnt s s.size 0=1 then vld s s.size 0 else false):=by
 have loop: ∀(n p f:Nat) (y:Int),s.size-p<=n->n<f->0<=y->y+n<=9223372036854775807->F.bv s f p y=some (if y+(cnt s n p:Int)=1 then vld s s.size 0 else false):=by
  intro n;induction n with
  |zero=>
   intro p f y hp E _ _;obtain⟨f,rfl⟩: ∃f',f=f'+1:=⟨f-1,by omega⟩;rw[F.bv,Qb (by omega),F.ah,Qbf,Qa];simp only[F.b7];have e:y+(cnt s 0 p:Int)=y:=by rw[cnt];omega
   by_cases h:y=1;rw[Qc h,Qc (by omega)];rw[Qb h,Qb (by omega)]
  |succ n ih=>
   intro p f y hp E h0 h2;obtain⟨f,rfl⟩: ∃f',f=f'+1:=⟨f-1,by omega⟩;rw[F.bv,cnt];by_cases h:p<s.size;rw[Qc h,Qc h,A.gd1 ⟨by omega,by omega⟩];have I:=Qjx s p;rw[ih _ f (y+1) (by omega) (by omega) (by omega) (by omega)];congr 2;exact propext ⟨λh=>by omega,λh=>by omega⟩;rw[Qb h,Qb h,F.ah,Qbf,Qa];simp only[F.b7];by_cases h:y=1;rw[Qc h,Qc (by omega)];rw[Qb h,Qb (by omega)]
 unfold F.dX;rw[loop s.size 0 A.FU 0 (by omega) (by have:=Qac;omega) (by omega) (by omega)];congr 2;exact propext ⟨λh=>by omega,λh=>by omega⟩
def one_small {s:ByteArray}(h1:cnt s s.size 0=1)(h2:vld s s.size 0=true):s.size<=4:=by
 generalize I:s.size=n at h1 h2;cases n with
 |zero=>omega
 |succ n=>
  rw[cnt,Qc (by omega)]at h1;rw[vld,Qc (by omega)]at h2;by_cases E:wid s 0=0;rw[Qc E]at h2;cases h2;rw[Qfi E]at h1;have:=wid_4 s 0;cases n with
  |zero=>omega
  |succ n=>
   rw[cnt]at h1;by_cases H:0+wid s 0<s.size;rw[Qc H]at h1;omega;omega
def Qhd (f:Fun):Bool:=if f.1=5 then decide (f.2.2≠QE)&&decide ((f.2.2.size:Int)<=16)&&vld f.2.2 f.2.2.size 0 else if f.1=12\/f.1=22 then decide (cnt f.2.2 f.2.2.size 0=1)&&vld f.2.2 f.2.2.size 0 else decide (f.2.2=QE)
def Qjp (f:Fun):F.dW f=some (Qbs f):=by
 unfold F.dW F.cP F.cO Qbs;simp only[A.ba,Qy];by_cases I:f.1=3;simp[I];by_cases E:f.1=13;simp[E];by_cases h6:f.1=6;simp[h6];by_cases H:f.1=11<;>simp[I,E,h6,H]
def Qhw (f:Fun):F.d1 f=some (Qbs f):=Qjp f
def text_eq (f:Fun)(J:f.2.2.size<=9223372036854775807):F.eo f=some (Qhd f):=by
 unfold F.eo Qhd;simp only[F.dA,F.dB,A.ba,single_eq _ J,F.ah,Qbf,Qa,Qy];by_cases I:f.1=5;simp only[I,Xo];by_cases h1:f.2.2=QE<;>by_cases h2:(f.2.2.size:Int)<=16<;>simp[h1,h2];by_cases E:f.1=12;simp[E];by_cases H:f.1=22<;>simp[I,E,H]
def one_le {s:ByteArray}:(1:Int)<=(s.size:Int)↔s≠QE:=by
 constructor;intro h e;subst e;exact absurd h (by decide);intro h;have:=Qhc h;omega
def Qku (f:Fun)(H:f.2.2.size<=5000):F.d9 f=some (Qhd f):=by
 have Y: ∀y,F.cA f y=some (if y=true then decide (cnt f.2.2 f.2.2.size 0=1)&&vld f.2.2 f.2.2.size 0 else decide (f.2.2=QE)):=by
  intro y;unfold F.cA;simp only[F.cz,Qgw _ H,Qa];cases y with
  |false=>simp
  |true=>
   simp only[Xo];by_cases N:(f.2.2.size:Int)<=4;rw[Qc N];cases I:vld f.2.2 f.2.2.size 0 with
   |true=>
    obtain⟨l,h1,h2⟩:=Runes_eq f.2.2 H I;rw[Qc rfl,h1,Qa,Yx];congr 2;rw[h2];exact propext ⟨λh=>by omega,λh=>by omega⟩
   |false=>simp
   rw[Qb N];congr 1;cases I:vld f.2.2 f.2.2.size 0 with
   |false=>simp
   |true=>
    by_cases h1:cnt f.2.2 f.2.2.size 0=1;have:=one_small h1 I;omega;simp[h1]
 unfold F.d9 Qhd;simp only[F.de,Y,A.ba,Qgw _ H,Qa,Qy,one_le];by_cases W:f.1=5;simp only[W,Xo];by_cases h1:f.2.2=QE<;>by_cases h2:(f.2.2.size:Int)<=16<;>simp[h1,h2];by_cases E:f.1=12;simp[E];by_cases J:f.1=22<;>simp[W,E,J]
def anyF (f:Fun)(l:QP):Int:=if l.any (λy=>decide (y=f.1)&&(Qbs f&&Qhd f))=true then 0 else 60
def kinds (k:Int):QP:=if k=2 then [1,2,3,4,5,6,7,8]else if k=3 then [11,12,13]else if k=4 then [21,22]else if k=8 then [31,32,33,34]else if k=11 then [41,42]else []
def chk (k:Int)(f:Fun):Int:=if kinds k=[]then(if f=(0,0,QE)then 0 else 60)else anyF f (kinds k)
def chk_l (f:Fun)(E:f.2.2.size<=9223372036854775807): ∀l,F.aC f l=some (anyF f l)
 | []=>rfl
 |y::l=>by
  have ih:=chk_l f E l;unfold F.aC;simp only[F.cx,Qjp,text_eq _ E,Qa,ih,anyF,Jo];by_cases h:y=f.1;subst h;cases H:Qbs f<;>cases I:Qhd f<;>simp;simp[h]
def Qla (k:Int)(f:Fun)(E:f.2.2.size<=9223372036854775807):F.dP k f=some (chk k f):=by
 have Y:F.a0 1 8=some [1,2,3,4,5,6,7,8]:=by kernel_rfl
 have u3:F.a0 11 13=some [11,12,13]:=by kernel_rfl
 have u4:F.a0 21 22=some [21,22]:=by kernel_rfl
 have u8:F.a0 31 34=some [31,32,33,34]:=by kernel_rfl
 have u11:F.a0 41 42=some [41,42]:=by kernel_rfl
 unfold F.dP F.eB F.en chk kinds;by_cases h2:k=2;simp[h2,Y,chk_l f E];by_cases J:k=3;simp[J,u3,chk_l f E];by_cases N:k=4;simp[N,u4,chk_l f E];by_cases W:k=8;simp[W,u8,chk_l f E];by_cases H:k=11;simp[H,u11,chk_l f E];simp only[h2,J,N,W,H,Wd,Qa];rw[Qc (by decide),Qc trivial];by_cases I:f=(0,0,QE);rw[Qb (λh=>h I),Qc I];rw[Qc I,Qb I]
def R06_l (f:Fun)(E:f.2.2.size<=5000)(l:QP)(H:l.length<=100):F.am f l A.FU 0=some (anyF f l):=
 A.lp0 l (λn y=>F.am f l n y) (λ_ t=>some (anyF f t))
  (λn=>by rw[F.am,Qb (by omega)];rfl)
  (λn k x hx hk ih=>by
   rw[F.am,Qc (by omega),A.ixn hx,Qa];simp only[F.ce,Qhw,Qku _ E,Qa,ih,A.gd1 (A.r64n (n:=k) (by omega)),anyF,Jo];by_cases h:x=f.1;subst h;cases I:Qbs f<;>cases J:Qhd f<;>simp;simp[h])
  (by have:=Qac;omega)
def Qcc (k:Int)(f:Fun)(H:f.2.2.size<=5000):F.bq k f=some (chk k f):=by
 have Y:F.bZ 2=some [1,2,3,4,5,6,7,8]:=by kernel_rfl
 have u3:F.bZ 3=some [11,12,13]:=by kernel_rfl
 have u4:F.bZ 4=some [21,22]:=by kernel_rfl
 have u8:F.bZ 8=some [31,32,33,34]:=by kernel_rfl
 have u11:F.bZ 11=some [41,42]:=by kernel_rfl
 have u0:F.aX 1 0=some []:=by kernel_rfl
 unfold F.bq chk kinds;by_cases h2:k=2;subst h2;rw[Y,Qa,Qb (by simp),F.av,Qb (by simp),R06_l f H _ (by simp)];simp;by_cases J:k=3;subst J;rw[u3,Qa,Qb (by simp),F.av,Qb (by simp),R06_l f H _ (by simp)];simp;by_cases N:k=4;subst N;rw[u4,Qa,Qb (by simp),F.av,Qb (by simp),R06_l f H _ (by simp)];simp;by_cases W:k=8;subst W;rw[u8,Qa,Qb (by simp),F.av,Qb (by simp),R06_l f H _ (by simp)];simp;by_cases E:k=11;subst E;rw[u11,Qa,Qb (by simp),F.av,Qb (by simp),R06_l f H _ (by simp)];simp;have u:F.bZ k=some []:=by unfold F.bZ;simp only[h2,J,N,W,E,Wd,u0]
 rw[u,Qa,Qc (by simp),F.av,R06_l f H _ (by simp)];simp only[h2,J,N,W,E,Wd,Xo,Qy,anyF,List.any_nil,Q3];by_cases I:f=(0,0,QE);rw[Qc I,Qc I];rw[Qb I,Qb I]
end Go.Proofs.YtligcbdjiolamaaGreatDoor
end
section
namespace Go.Utf
open Go.Lib
abbrev Rn:=List UInt8×Int
def enc_eq (r:Int):(Utf8.encode r).data.toList=encodeRune r:=by
 unfold Utf8.encode encodeRune;by_cases h1:0<=r/\r<=127;rw[encodeRuneZ_one h1.1 h1.2];have H:Utf8.valid r=true:=by simp[Utf8.valid];omega
 rw[Qc H];have I:r.toNat<128:=by omega
 simp only[I,Xo];simp;by_cases h2:128<=r/\r<=2047;rw[encodeRuneZ_two h2.1 h2.2];have H:Utf8.valid r=true:=by simp[Utf8.valid];omega
 rw[Qc H];obtain⟨n,rfl⟩: ∃n:Nat,r=n:=⟨r.toNat,by omega⟩;have I: ¬(n<128):=by omega
 have E:n<2048:=by omega
 simp only[We,I,Wd,E,Xo,Wc,Ji];have N:(192+(n:Int) / 64).toNat=192+n / 64:=by omega
 have W:(128+(n:Int)%64).toNat=128+n%64:=by omega
 rw[N,W];by_cases h3:(2048<=r/\r<55296)\/(57343<r/\r<=65535);rw[encodeRuneZ_three h3];have H:Utf8.valid r=true:=by simp[Utf8.valid];omega
 rw[Qc H];obtain⟨n,rfl⟩: ∃n:Nat,r=n:=⟨r.toNat,by omega⟩;have I: ¬(n<128):=by omega
 have E: ¬n<2048:=by omega
 have J:n<65536:=by omega
 simp only[We,I,Wd,E,J,Xo,Wc,Ji];have N:(224+(n:Int) / 4096).toNat=224+n / 4096:=by omega
 have W:(128+(n:Int) / 64%64).toNat=128+n / 64%64:=by omega
 have Y:(128+(n:Int)%64).toNat=128+n%64:=by omega
 rw[N,W,Y];by_cases h4:65536<=r/\r<=1114111;rw[encodeRuneZ_four h4.1 h4.2];have H:Utf8.valid r=true:=by simp[Utf8.valid];omega
 rw[Qc H];obtain⟨n,rfl⟩: ∃n:Nat,r=n:=⟨r.toNat,by omega⟩;have I: ¬(n<128):=by omega
 have E: ¬n<2048:=by omega
 have J: ¬n<65536:=by omega
 simp only[We,I,Wd,E,J,Wc,Ji];have e0:(240+(n:Int) / 262144).toNat=240+n / 262144:=by omega
 have N:(128+(n:Int) / 4096%64).toNat=128+n / 4096%64:=by omega
 have W:(128+(n:Int) / 64%64).toNat=128+n / 64%64:=by omega
 have Y:(128+(n:Int)%64).toNat=128+n%64:=by omega
 rw[e0,N,W,Y];rw[encodeRuneZ_bad (by omega)];have H: ¬Utf8.valid r=true:=by simp[Utf8.valid];omega
 rw[Qb H];rfl
def decN_ext {n n' b0 b1 b2 b3 c1 c2 c3:Nat}{r k:Nat}(h:decodeN n b0 b1 b2 b3=(r,k))(W: ¬(r=65533/\k=1))(hn:k<=n')(h1:1<k->c1=b1)(h2:2<k->c2=b2)(Y:3<k->c3=b3):decodeN n' b0 c1 c2 c3=(r,k):=by
 rcases decodeN_shape n b0 b1 b2 b3 with⟨q,e⟩|⟨q1,N,I,qv,e⟩|⟨q1,N,I,J,qv,qs,e⟩|⟨q1,N,I,J,q5,qv,qw,e⟩|e
 rw[e]at h;injection h with E H;subst E;subst H
 unfold decodeN;rw[Qc q];rw[e]at h;injection h with E H;subst E;subst H
 obtain rfl:=h1 (by omega);unfold decodeN;rw[Qb (by omega),Qc ⟨q1,by omega,I⟩,Qc qv];rw[e]at h;injection h with E H;subst E;subst H
 obtain rfl:=h1 (by omega);obtain rfl:=h2 (by omega);unfold decodeN;rw[Qb (by omega),Qb (by omega),Qc ⟨q1,⟨by omega,I⟩,by omega,J⟩,Qc ⟨qv,by omega⟩];rw[e]at h;injection h with E H;subst E;subst H
 obtain rfl:=h1 (by omega);obtain rfl:=h2 (by omega);obtain rfl:=Y (by omega);unfold decodeN;rw[Qb (by omega),Qb (by omega),Qb (by omega),Qc ⟨q1,⟨by omega,I⟩,⟨by omega,J⟩,by omega,q5⟩,Qc ⟨qv,.inr ⟨by omega,qw⟩⟩];rw[e]at h;injection h with E H;subst E;subst H
 exact absurd ⟨rfl,rfl⟩ W
structure Ck (c:Rn):Prop where
 ne:c.1≠[]
 four:c.1.length<=4
 enc:(Utf8.encode c.2).data.toList=c.1
 dec: ∀rest,decodeL (c.1++rest)=(c.2.toNat,c.1.length)
 nn:0<=c.2
 top:c.2<=1114111
 ok: ¬(c.2.toNat=65533/\c.1.length=1)
def Qjd (l:List UInt8):(decodeL l).2<=4:=by
 rw[decodeL_N];rcases decodeN_shape l.length (l.getD 0 0).toNat (l.getD 1 0).toNat (l.getD 2 0).toNat (l.getD 3 0).toNat with⟨c,e⟩|⟨c1,c2,c3,cv,e⟩|⟨c1,c2,c3,c4,cv,cs,e⟩|⟨c1,c2,c3,c4,c5,cv,cw,e⟩|e
 all_goals (rw[e];simp)
def Ck.of {l:List UInt8}(E:l≠[])(H: ¬((decodeL l).1=65533/\(decodeL l).2=1)):Ck (l.take (decodeL l).2,((decodeL l).1:Int)):=by
 have W:=decodeL_width l;have I:=decodeL_le l E;have hlen:(l.take (decodeL l).2).length=(decodeL l).2:=by rw[Qx];omega
 refine⟨λh=>?_,by show(l.take _).length<=4;rw[hlen];exact Qjd l,?_,λrest=>?_,by simp,?_,?_⟩;have:=Wq List.length h;simp only[Wx]at this;rw[hlen]at this;omega;exact(enc_eq _).trans (encode_decode l E H);show decodeL (l.take (decodeL l).2++rest)=((((decodeL l).1:Nat):Int).toNat,(l.take (decodeL l).2).length);rw[hlen,We];have e:decodeL l=decodeN l.length (l.getD 0 0).toNat (l.getD 1 0).toNat (l.getD 2 0).toNat (l.getD 3 0).toNat:=decodeL_N l;obtain⟨r,k,J⟩: ∃r k,decodeL l=(r,k):=⟨_,_,rfl⟩;rw[J]at H W I hlen ⊢;rw[J]at e;simp only at H W I hlen ⊢;have N: ∀i,i<k->(l.take k++rest).getD i 0=l.getD i 0:=λi Y=>by
  simp only[List.getD];rw[Wn (by rw[hlen];exact Y),Wt Y]
 rw[decodeL_N,N 0 (by omega)];refine decN_ext e.symm H (by rw[Qz,hlen];omega) (λh=>by rw[N 1 h]) (λh=>by rw[N 2 h]) (λh=>by rw[N 3 h]);have:=decodeL_rune l;show((decodeL l).1:Int)<=1114111;omega;show ¬((((decodeL l).1:Nat):Int).toNat=65533/\(l.take (decodeL l).2).length=1);rw[hlen,We];exact H
def Ck.len {c:Rn}(h:Ck c):1<=c.1.length:=by
 cases E:c.1 with
 |nil=>exact absurd E h.ne
 |cons a b=>simp
def ckF:Nat->List UInt8->List Rn
 |0,_=>[]
 |n+1,l=>if l=[]then []else(l.take (decodeL l).2,((decodeL l).1:Int))::ckF n (l.drop (decodeL l).2)
def cks (l:List UInt8):List Rn:=ckF l.length l
abbrev flat (cs:List Rn):List UInt8:=cs.flatMap (·.1)
def Qam (c:Rn)(cs:List Rn):flat (c::cs)=c.1++flat cs:=rfl
def Qeb: ∀(n:Nat) (l:List UInt8),l.length<=n->flat (ckF n l)=l
 |0,l,h=>by rw[Wz (Nat.le_zero.1 h)];rfl
 |n+1,l,h=>by
  unfold ckF;by_cases E:l=[];rw[Qc E,E];rfl;rw[Qb E,Qam,Qeb n _ (by have:=decodeL_width l;rw[W7];have:=List.length_pos_iff.2 E;omega)];exact X4 _ _
def Qin: ∀(n:Nat) (l:List UInt8),l.length<=n->validGoD n l=true->∀c,c∈ckF n l->Ck c
 |0,l,h,_,c,E=>by cases E
 |n+1,l,h,H,c,E=>by
  unfold ckF at E;unfold validGoD at H;by_cases I:l=[];rw[Qc I]at E;cases E;rw[Qb I]at E H;split at H;cases H;rename_i J;rcases Qn.1 E with rfl|E
  exact Ck.of I J;exact Qin n _ (by have:=decodeL_width l;rw[W7];have:=List.length_pos_iff.2 I;omega) H c E
def Qid: ∀(cs:List Rn) (n:Nat),(∀c,c∈cs->Ck c)->(flat cs).length<=n->ckF n (flat cs)=cs/\validGoD n (flat cs)=true
 | [],n,_,_=>by cases n with
  |zero=>exact⟨rfl,rfl⟩
  |succ n=>exact⟨by unfold ckF;rw[Qc (show flat ([]:List Rn)=[]from rfl)],by unfold validGoD;rw[Qc (show flat ([]:List Rn)=[]from rfl)]⟩
 |c::cs,n,h,I=>by
  have E:=h c (Qh ..);have h1:=E.len;rw[Qam]at I ⊢;rw[Qz]at I;obtain⟨n,rfl⟩: ∃m,n=m+1:=⟨n-1,by omega⟩;have H:c.1++flat cs≠[]:=λe=>E.ne (List.append_eq_nil_iff.1 e).1;obtain⟨J,N⟩:=Qid cs n (λx hx=>h x (Qf _ hx)) (by omega);unfold ckF validGoD;rw[Qb H,Qb H,E.dec];simp only[J0,List.drop_left];rw[Qb E.ok,J,Xz E.nn];exact⟨rfl,N⟩
def cks_flat {cs:List Rn}(h: ∀c,c∈cs->Ck c):cks (flat cs)=cs:=(Qid cs _ h (Qr _)).1
def valid_flat {cs:List Rn}(h: ∀c,c∈cs->Ck c):validD (flat cs)=true:=(Qid cs _ h (Qr _)).2
def valid_cks {l:List UInt8}(h:validD l=true):flat (cks l)=l/\∀c,c∈cks l->Ck c:=⟨Qeb _ _ (Qr _),Qin _ _ (Qr _) h⟩
def foldl_toList (ns:QP): ∀s:ByteArray,(ns.foldl (λr n=>r++Utf8.encode n) s).data.toList=s.data.toList++ns.flatMap λn=>(Utf8.encode n).data.toList:=by
 induction ns with
 |nil=>intro s;simp
 |cons n ns ih=>intro s;rw[Vb,ih];simp[ByteArray.data_append]
def ba_eq {s t:ByteArray}(h:s.data.toList=t.data.toList):s=t:=by
 cases s;cases t;congr;exact Yf.1 h
def ats:Int->List Rn->List (Int×Int)
 |_,[]=>[]
 |p,c::cs=>(p,c.2)::ats (p+c.1.length) cs
def Qav: ∀(p:Int) (cs:List Rn),(ats p cs).length=cs.length
 |_,[]=>rfl
 |p,c::cs=>by rw[ats,Q2,Qav _ cs,Q2]
def Qhn: ∀(cs:List Rn) (p:Int) (k:Nat),(ats p cs)[k]?=(cs[k]?).map λc=>(p+((flat (cs.take k)).length:Int),c.2)
 | [],p,k=>by simp[ats]
 |c::cs,p,0=>by simp[ats]
 |c::cs,p,k+1=>by
  rw[ats,Ww,Qhn cs _ k,Ww,List.take_succ_cons,Qam,Qz];congr;funext c';congr 1;omega
def bd (n:Nat):Nat->List Rn->Nat
 |p,[]=>p
 |p,c::cs=>if p+c.1.length<=n then bd n (p+c.1.length) cs else p
def bd_pre (n:Nat): ∀(cs:List Rn) (p:Nat),p<=n->∃k,bd n p cs=p+(flat (cs.take k)).length/\bd n p cs<=n
 | [],p,h=>⟨0,by simp[bd],by simpa[bd] using h⟩
 |c::cs,p,h=>by
  unfold bd;split;rename_i hp;obtain⟨k,h1,h2⟩:=bd_pre n cs _ hp;exact⟨k+1,by rw[h1,List.take_succ_cons,Qam,Qz];omega,h2⟩;exact⟨0,by simp,h⟩
def Qfc (cs:List Rn)(k:Nat):(flat cs).take (flat (cs.take k)).length=flat (cs.take k):=by
 have:flat cs=flat (cs.take k)++flat (cs.drop k):=by rw[<-List.flatMap_append,X4]
 rw[this,J0]
end Go.Utf
end
section
namespace Go.Proofs.YtligcbdjiolamaaGreatDoor
open Go.RowKit Go.Graph Go.Utf
def drop_ne {s:ByteArray}{p:Nat}(h:p<s.size):s.data.toList.drop p≠[]:=λe=>by
 have:=Wq List.length e;rw[W7,Qad]at this;simp only[Wx]at this;omega
def drop_nil {s:ByteArray}{p:Nat}(h: ¬p<s.size):s.data.toList.drop p=[]:=Xi (by rw[Qad];omega)
def ck_step {s:ByteArray}{n p:Nat}(h:p<s.size):ckF (n+1) (s.data.toList.drop p)=((s.data.toList.drop p).take (Utf8.decode s p).2,((Utf8.decode s p).1:Int))::ckF n (s.data.toList.drop (p+(Utf8.decode s p).2)):=by
 rw[ckF,Qb (drop_ne h),Lib.decodeL_drop,Yq]
def ck_end {s:ByteArray}{n p:Nat}(h: ¬p<s.size):ckF n (s.data.toList.drop p)=[]:=by
 rw[drop_nil h];cases n with
 |zero=>rfl
 |succ n=>rw[ckF,Qc rfl]
def dec_fits {s:ByteArray}{p:Nat}(h:p<s.size):1<=(Utf8.decode s p).2/\p+(Utf8.decode s p).2<=s.size:=by
 rw[<-Lib.decodeL_drop];have h1:=Lib.decodeL_width (s.data.toList.drop p);have h2:=Lib.decodeL_le _ (drop_ne h);rw[W7,Qad]at h2;omega
def Qay (a b:List Rn):flat (a++b)=flat a++flat b:=List.flatMap_append
def i32_small {x:Int}(h0:0<=x)(h1:x<2147483648):QD x=x:=by
 simp[QD,IntKind.wrap,IntKind.bits,IntKind.signed];omega
def dec_shape {s:ByteArray}{p:Nat}(E:wid s p≠0):
  (wid s p=1/\(Utf8.decode s p).1=(Z.bat s p).toNat)\/
  (wid s p=2/\(Utf8.decode s p).1=(Z.bat s p).toNat%32*64+(Z.bat s (p+1)).toNat%64)\/
  (wid s p=3/\(Utf8.decode s p).1=(Z.bat s p).toNat%16*4096+(Z.bat s (p+1)).toNat%64*64+(Z.bat s (p+2)).toNat%64)\/
  (wid s p=4/\(Utf8.decode s p).1=(Z.bat s p).toNat%8*262144+(Z.bat s (p+1)).toNat%64*4096+(Z.bat s (p+2)).toNat%64*64+(Z.bat s (p+3)).toNat%64):=by
 have h2:=Qfi E;have H:Utf8.decode s p≠(65533,1):=λe=>E (by unfold wid;rw[Qc e]);rw[<-h2];rw[Qja]at H ⊢;rcases Lib.decodeN_shape (s.size-p) (Z.bat s p).toNat (Z.bat s (p+1)).toNat (Z.bat s (p+2)).toNat (Z.bat s (p+3)).toNat with⟨c,e⟩|⟨c1,c2,c3,cv,e⟩|⟨c1,c2,c3,c4,cv,cs,e⟩|⟨c1,c2,c3,c4,c5,cv,cw,e⟩|e
 rw[e];exact .inl ⟨rfl,rfl⟩;rw[e];exact .inr (.inl ⟨rfl,rfl⟩);rw[e];exact .inr (.inr (.inl ⟨rfl,rfl⟩));rw[e];exact .inr (.inr (.inr ⟨rfl,rfl⟩));exact absurd e H
def Qff (s:ByteArray)(hs:s.size<=5000)(E:vld s s.size 0=true):F.bV s=some (ats 0 (cks s.data.toList)):=by
 have loop: ∀(n p f:Nat) (xs:List (Int×Int)),s.size-p<=n->n<f->xs.length<=p->p<=5010->vld s n p=true->F.j s f xs (p:Int)=some (xs++ats p (ckF n (s.data.toList.drop p))):=by
  intro n;induction n with
  |zero=>
   intro p f xs hp hf _ _ _;obtain⟨f,rfl⟩: ∃f',f=f'+1:=⟨f-1,by omega⟩;rw[F.j,Qb (by omega),ck_end (by omega)];simp[ats]
  |succ n ih=>
   intro p f xs hp hf hxs hp5 E;obtain⟨f,rfl⟩: ∃f',f=f'+1:=⟨f-1,by omega⟩;rw[F.j];rw[vld]at E;by_cases h:p<s.size;rw[Qc h]at E;have hl:=wid_le h;have h4:=wid_4 s p;by_cases H:wid s p=0;rw[Qc H]at E;cases E;rw[Qb H]at E;have hd:=dec_fits h;have N: ∀(w c:Int),w=(wid s p:Int)->c=((Utf8.decode s p).1:Int)->F.al (F.j s f) xs (p:Int) w c=some (xs++ats p (ckF (n+1) (s.data.toList.drop p))):=λw c Y hc=>by
    subst Y;subst hc;rw[F.al,A.gd1 (by simp only[Q2,Wx];omega),A.gd1 ⟨by omega,by omega⟩];have e:(p:Int)+(wid s p:Int)=((p+wid s p:Nat):Int):=by omega
    have e2:((s.data.toList.drop p).take (Utf8.decode s p).2).length=wid s p:=by
     rw[Qx,W7,Qad,<-Qfi H];omega
    rw[e,ih (p+wid s p) f (xs++[((p:Int),((Utf8.decode s p).1:Int))]) (by omega) (by omega) (by simp only[Qz,Q2,Wx];omega) (by omega) E,ck_step h,ats,e2,Qfi H,<-e];simp
   have W:=ixb (s:=s) h;have i1:A.ix s.data.toList ((p:Int)+1)=if p+1<s.size then some (Z.bat s (p+1))else none:=ixk s p 1;have i2:A.ix s.data.toList ((p:Int)+2)=if p+2<s.size then some (Z.bat s (p+2))else none:=ixk s p 2;have i3:A.ix s.data.toList ((p:Int)+3)=if p+3<s.size then some (Z.bat s (p+3))else none:=ixk s p 3;have r1:Z.R64 ((p:Int)+1):=⟨by omega,by omega⟩;have r2:Z.R64 ((p:Int)+2):=⟨by omega,by omega⟩;have r3:Z.R64 ((p:Int)+3):=⟨by omega,by omega⟩;have k0:=(Z.bat s p).toNat_lt;have k1:=(Z.bat s (p+1)).toNat_lt;have k2:=(Z.bat s (p+2)).toNat_lt;have k3:=(Z.bat s (p+3)).toNat_lt;rw[Qc (by omega),Qhf s p h hs,Qa];have tm: ∀(b m:Nat),Int.tmod (b:Int) (m:Int)=((b%m:Nat):Int):=λb m=>by
    rw[Int.tmod_eq_emod_of_nonneg (by omega)];rfl
   rcases dec_shape H with⟨w1,e⟩|⟨w2,e⟩|⟨w3,e⟩|⟨w4,e⟩
   rw[Qc (by omega),W,Qa];exact N _ _ rfl (by rw[e,i32_small (by omega) (by omega)]);rw[Qb (by omega),Qc (by omega),A.gd1 r1,W,Qa,A.gd1 (by decide),i1,Qc (by omega),Qa,A.gd1 (by decide)];refine N _ _ rfl ?_;have I:Int.tmod ((Z.bat s p).toNat:Int) 32=(((Z.bat s p).toNat%32:Nat):Int):=tm _ 32;have J:Int.tmod ((Z.bat s (p+1)).toNat:Int) 64=(((Z.bat s (p+1)).toNat%64:Nat):Int):=tm _ 64;rw[e,I,J];rw[i32_small (x:=(((Z.bat s p).toNat%32:Nat):Int)) (by omega) (by omega),i32_small (x:=(((Z.bat s p).toNat%32:Nat):Int)*64) (by omega) (by omega),i32_small (x:=(((Z.bat s (p+1)).toNat%64:Nat):Int)) (by omega) (by omega),i32_small (by omega) (by omega)];omega;rw[Qb (by omega),Qb (by omega),Qc (by omega),A.gd1 ⟨r1,r2⟩,W,Qa,A.gd1 (by decide),i1,Qc (by omega),Qa,A.gd1 (by decide),i2,Qc (by omega),Qa,A.gd1 (by decide)];refine N _ _ rfl ?_;have I:Int.tmod ((Z.bat s p).toNat:Int) 16=(((Z.bat s p).toNat%16:Nat):Int):=tm _ 16;have J:Int.tmod ((Z.bat s (p+1)).toNat:Int) 64=(((Z.bat s (p+1)).toNat%64:Nat):Int):=tm _ 64;have t3:Int.tmod ((Z.bat s (p+2)).toNat:Int) 64=(((Z.bat s (p+2)).toNat%64:Nat):Int):=tm _ 64;rw[e,I,J,t3];generalize hu:(Z.bat s p).toNat%16=u;generalize hx:(Z.bat s (p+1)).toNat%64=x;generalize hy:(Z.bat s (p+2)).toNat%64=y;have hu':u<16:=by omega
   have hx':x<64:=by omega
   have hy':y<64:=by omega
   rw[i32_small (x:=(u:Int)) (by omega) (by omega),i32_small (x:=(u:Int)*64) (by omega) (by omega),i32_small (x:=(x:Int)) (by omega) (by omega),i32_small (x:=(u:Int)*64+(x:Int)) (by omega) (by omega),i32_small (x:=((u:Int)*64+(x:Int))*64) (by omega) (by omega),i32_small (x:=(y:Int)) (by omega) (by omega),i32_small (by omega) (by omega)];omega;rw[Qb (by omega),Qb (by omega),Qb (by omega),Qc (by omega),A.gd1 ⟨r1,r2,r3⟩,W,Qa,A.gd1 (by decide),i1,Qc (by omega),Qa,A.gd1 (by decide),i2,Qc (by omega),Qa,A.gd1 (by decide),i3,Qc (by omega),Qa,A.gd1 (by decide)];refine N _ _ rfl ?_;have I:Int.tmod ((Z.bat s p).toNat:Int) 8=(((Z.bat s p).toNat%8:Nat):Int):=tm _ 8;have J:Int.tmod ((Z.bat s (p+1)).toNat:Int) 64=(((Z.bat s (p+1)).toNat%64:Nat):Int):=tm _ 64;have t3:Int.tmod ((Z.bat s (p+2)).toNat:Int) 64=(((Z.bat s (p+2)).toNat%64:Nat):Int):=tm _ 64;have t4:Int.tmod ((Z.bat s (p+3)).toNat:Int) 64=(((Z.bat s (p+3)).toNat%64:Nat):Int):=tm _ 64;rw[e,I,J,t3,t4];generalize hu:(Z.bat s p).toNat%8=u;generalize hx:(Z.bat s (p+1)).toNat%64=x;generalize hy:(Z.bat s (p+2)).toNat%64=y;generalize hz:(Z.bat s (p+3)).toNat%64=z;have hu':u<8:=by omega
   have hx':x<64:=by omega
   have hy':y<64:=by omega
   have hz':z<64:=by omega
   rw[i32_small (x:=(u:Int)) (by omega) (by omega),i32_small (x:=(u:Int)*64) (by omega) (by omega),i32_small (x:=(x:Int)) (by omega) (by omega),i32_small (x:=(u:Int)*64+(x:Int)) (by omega) (by omega),i32_small (x:=((u:Int)*64+(x:Int))*64) (by omega) (by omega),i32_small (x:=(y:Int)) (by omega) (by omega),
    i32_small (x:=((u:Int)*64+(x:Int))*64+(y:Int)) (by omega) (by omega),i32_small (x:=(((u:Int)*64+(x:Int))*64+(y:Int))*64) (by omega) (by omega),i32_small (x:=(z:Int)) (by omega) (by omega),i32_small (by omega) (by omega)]
   omega;rw[Qb (by omega),ck_end h];simp[ats]
 have:=loop s.size 0 A.FU [] (by omega) (by have:=Qac;omega) (by simp) (by omega) E;rw[F.bV];exact this
def R05_Cut_eq (s:ByteArray)(n:Nat)(hs:s.size<=5000)(hv:vld s s.size 0=true):F.eq s n=some (s.extract 0 (bd n 0 (cks s.data.toList))):=by
 rw[F.eq,Qff s hs hv,Qa];obtain⟨cs,H⟩: ∃cs,cs=cks s.data.toList:=⟨_,rfl⟩;have J:flat cs=s.data.toList:=by rw[H];exact Qeb _ _ (Qr _)
 have N:(flat cs).length=s.size:=by rw[J,Qad]
 have hcl:cs.length<=s.size:=by
  rw[H];have: ∀(n:Nat) (l:List UInt8),(ckF n l).length<=n:=by
   intro n;induction n with
   |zero=>intro l;simp[ckF]
   |succ n ih=>intro l;unfold ckF;split<;>simp;exact ih _
  exact this _ _
 rw[<-H];have loop: ∀(m k f e:Nat),k+m=cs.length->m<f->e<=s.size->((flat (cs.take k)).length<=n->e=(flat (cs.take k)).length)->F.aJ s n (ats 0 cs) f e k=some (s.extract 0 (if(flat (cs.take k)).length<=n then bd n (flat (cs.take k)).length (cs.drop k)else e)):=by
  intro m;induction m with
  |zero=>
   intro k f e hk J Y hp;obtain⟨f,rfl⟩: ∃f',f=f'+1:=⟨f-1,by omega⟩;rw[F.aJ,Qb (by rw[Qav];omega),Xi (by omega),bd,A.gd1 ⟨by omega,by omega⟩,We];split;rename_i h;rw[hp h];rfl
  |succ m ih=>
   intro k f e hk J Y hp;obtain⟨f,rfl⟩: ∃f',f=f'+1:=⟨f-1,by omega⟩;have I:cs[k]?=some cs[k]:=Qj (by omega);have W:cs.take (k+1)=cs.take k++[cs[k]]:=by rw[X2,I];rfl
   have hq:(flat (cs.take (k+1))).length=(flat (cs.take k)).length+cs[k].1.length:=by rw[W,Qay,Qz];simp
   have hqs:(flat (cs.take (k+1))).length<=s.size:=by
    have h1:=Wq List.length (Qfc cs (k+1));rw[Qx]at h1;omega
   have next: ∀q:Nat,q=(flat (cs.take (k+1))).length->F.cu (F.aJ s n (ats 0 cs) f) n e k q=some (s.extract 0 (if(flat (cs.take k)).length<=n then bd n (flat (cs.take k)).length (cs.drop k)else e)):=λq E=>by
    have ek:(k:Int)+1=((k+1:Nat):Int):=by omega
    rw[F.cu,A.dropx I,bd,<-hq,<-E];by_cases h:q<=n;rw[Qc (by omega),F.db,A.gd1 ⟨by omega,by omega⟩,ek,ih (k+1) f q (by omega) (by omega) (by omega) (λ_=>E),<-E,Qc h,Qc h,Qc (by omega)];rw[Qb (by omega),F.db,A.gd1 ⟨by omega,by omega⟩,ek,ih (k+1) f e (by omega) (by omega) Y (λh2=>by omega),<-E,Qb h,Qb h];split;rename_i h3;rw[hp h3];rfl
   rw[F.aJ,Qc (by rw[Qav];omega),A.gd1 ⟨by omega,by omega⟩];by_cases hl:k+1<cs.length
   ·have hx:(ats 0 cs)[k+1]?=some ((0:Int)+((flat (cs.take (k+1))).length:Int),cs[k+1].2):=by
     rw[Qhn,Qj hl];rfl
    rw[Qc (by rw[Qav];omega),A.gd1 ⟨by omega,by omega⟩,show(k:Int)+1=((k+1:Nat):Int) by omega,A.ixn hx,Qa];show F.cu _ _ _ _ ((0:Int)+((flat (cs.take (k+1))).length:Int))=_;rw[Int.zero_add];exact next _ rfl
   ·rw[Qb (by rw[Qav];omega)]
    exact next _ (by rw[Xd (by omega),N])
 have:=loop cs.length 0 A.FU 0 (by omega) (by have:=Qac;omega) (by omega) (by simp);simpa using this
def upB (b:UInt8):UInt8:=if 97<=b.toNat/\b.toNat<=122 then UInt8.ofNat (b.toNat-32)else b
def upper (s:ByteArray):ByteArray:=⟨(s.data.toList.map upB).toArray⟩
def up_set {l:List UInt8}{k:Nat}{x:UInt8}(h:l[k]?=some x):((l.take k).map upB++l.drop k).set k (upB x)=(l.take (k+1)).map upB++l.drop (k+1):=by
 have E:=(Qe.1 h).1;have hk:((l.take k).map upB).length=k:=by rw[W6,Qx];omega
 rw[List.set_append_right _ _ (by omega),hk,Nat.sub_self,A.dropx h,X2,h];simp
def up_get {l:List UInt8}{k:Nat}{x:UInt8}(h:l[k]?=some x):((l.take k).map upB++l.drop k)[k]?=some x:=by
 have E:=(Qe.1 h).1;have hk:((l.take k).map upB).length=k:=by rw[W6,Qx];omega
 rw[W9 (by omega),hk,Nat.sub_self,A.dropx h];rfl
def up_same {l:List UInt8}{k:Nat}{x:UInt8}(h:l[k]?=some x)(hx:upB x=x):(l.take k).map upB++l.drop k=(l.take (k+1)).map upB++l.drop (k+1):=by
 rw[<-up_set h,hx];refine(Xf λi=>?_);rw[Jb];split;rename_i e;subst e;rw[up_get h];split;rfl;rename_i h2;have:=up_get h;rw[Wh (by omega)]at this;cases this;rfl
def b8_up {x:UInt8}(h:97<=x.toNat/\x.toNat<=122):A.b8 ((x.toNat:Int)-32)=upB x:=by
 unfold A.b8 upB;rw[Qc h];congr 1;omega
def Qjl (s:ByteArray)(I:s.size<=9223372036854775806):F.d0 s=some (upper s):=by
 have:=A.lp s.data.toList (λf (xs:List UInt8) y=>F.ab s f xs y) (λ_ _ _=>some (upper s)) (λk xs=>xs=(s.data.toList.take k).map upB++s.data.toList.drop k)
  (λf xs hp=>by
   show F.ab s (f+1) xs _=_;rw[F.ab,Qb (by omega),hp,List.take_length,Y3,Xy];rfl)
  (λf xs k x hx hk hp ih=>by
   subst hp;have H:k<s.size:=by rw[<-Qad];exact hk
   show F.ab s (f+1) _ _=_;have no:upB x=x->F.bD (F.ab s f) ((s.data.toList.take k).map upB++s.data.toList.drop k) (k:Int) false=some (upper s):=λE=>by
    rw[F.bD,Qb (by simp),F.cl,A.gd1 ⟨by omega,by omega⟩,up_same hx E];exact ih _ rfl
   rw[F.ab,Qc (by omega),A.ixn (up_get hx),Qa];by_cases h:97<=x.toNat;rw[Qc (by omega),Qa];by_cases h2:x.toNat<=122;rw[show decide ((x.toNat:Int)<=122)=true from Q4 (by omega),F.bD,Qc rfl,A.ixn (up_get hx),Qa,Qa,F.cl,A.gd1 ⟨by omega,by omega⟩,b8_up ⟨h,h2⟩,We,up_set hx];exact ih _ rfl;rw[show decide ((x.toNat:Int)<=122)=false from Wu (by omega)];exact no (by unfold upB;rw[Qb (by omega)]);rw[Qb (by omega)];exact no (by unfold upB;rw[Qb (by omega)]))
  (by have:=Qac;rw[Qad];omega) s.data.toList (by simp)
 rw[F.d0];exact this
abbrev pos (cs:List Rn) (k:Nat):Nat:=(flat (cs.take k)).length
def pos_le (cs:List Rn){a b:Nat}(h:a<=b):pos cs a<=pos cs b:=by
 have:cs.take b=cs.take a++(cs.take b).drop a:=by
  rw[Ju];have:=X4 a (cs.take b);rw[Jv,Xx h,Ju]at this;exact this.symm
 show(flat _).length<=(flat _).length;rw[this,Qay,Qz];omega
def Qky {s:ByteArray}{cs:List Rn}(E:flat cs=s.data.toList)(k:Nat):pos cs k<=s.size:=by
 have h1:=Wq List.length (Qfc cs k);rw[Qx,E,Qad]at h1;show(flat (cs.take k)).length<=_;omega
def pos_all {s:ByteArray}{cs:List Rn}(E:flat cs=s.data.toList){k:Nat}(h:cs.length<=k):pos cs k=s.size:=by
 show(flat (cs.take k)).length=_;rw[Xd h,E,Qad]
def part_eq {s:ByteArray}{cs:List Rn}(H:flat cs=s.data.toList){a b:Nat}(h:a<=b):F.dp s (ats 0 cs) a b=some (s.extract (pos cs a) (pos cs b)):=by
 have I: ∀u v:Nat,u=pos cs a->v=pos cs b->F.cG s u v=some (s.extract (pos cs a) (pos cs b)):=λu v E N=>by
  have:=pos_le cs h;have:=Qky H b;rw[F.cG,A.gd1 ⟨by omega,by omega,by omega⟩,We,We,E,N]
 have at_: ∀k,k<cs.length->(ats 0 cs)[k]?=some ((pos cs k:Int),cs[k]!.2):=λk hk=>by
  rw[Qhn,Qj hk,Wo,Int.zero_add,getElem!_pos cs k hk]
 have J: ∀u:Nat,u=pos cs a->F.cH s (ats 0 cs) b u=some (s.extract (pos cs a) (pos cs b)):=λu E=>by
  rw[F.cH,Qav];by_cases W:b<cs.length;rw[Qc (by omega),A.ixn (at_ b W),Qa];exact I u _ E rfl;rw[Qb (by omega)];exact I u _ E (pos_all H (by omega)).symm
 rw[F.dp,Qav];by_cases Y:a<cs.length;rw[Qc (by omega),A.ixn (at_ a Y),Qa];exact J _ rfl;rw[Qb (by omega)];exact J _ (pos_all H (by omega)).symm
def Qhm {s:ByteArray}{cs:List Rn}(H:flat cs=s.data.toList)(a b:Nat):(s.extract (pos cs a) (pos cs b)).data.toList=flat ((cs.take b).drop a):=by
 rw[ByteArray.data_extract,Array.toList_extract,List.extract_eq_take_drop,<-H];by_cases h:a<=b;have I:cs.take b=cs.take a++(cs.take b).drop a:=by
  have:=X4 a (cs.take b);rw[Jv,Xx h]at this;exact this.symm
 have E:flat (cs.take b)=flat (cs.take a)++flat ((cs.take b).drop a):=by rw[<-Qay,<-I]
 have J:flat cs=flat (cs.take a)++(flat ((cs.take b).drop a)++flat (cs.drop b)):=by
  rw[<-Jz,<-E,<-Qay,X4]
 have N:pos cs b-pos cs a=(flat ((cs.take b).drop a)).length:=by
  show(flat (cs.take b)).length -(flat (cs.take a)).length=_;rw[E,Qz];omega
 rw[J,show pos cs a=(flat (cs.take a)).length from rfl,List.drop_left];rw[show(flat (cs.take b)).length -(flat (cs.take a)).length=(flat ((cs.take b).drop a)).length from N,J0];have h1:=pos_le cs (show b<=a by omega);have h2:(cs.take b).drop a=[]:=Xi (by rw[Qx];omega);rw[show pos cs b-pos cs a=0 by omega,h2,List.take_zero];rfl
def turn_eq (s:ByteArray)(N:s.size<=5000)(Y:vld s s.size 0=true):F.ea s=some ⟨(flat (cks s.data.toList).reverse).toArray⟩:=by
 rw[F.ea,Qff s N Y,Qa];obtain⟨cs,E⟩: ∃cs,cs=cks s.data.toList:=⟨_,rfl⟩;have H:flat cs=s.data.toList:=by rw[E];exact Qeb _ _ (Qr _)
 rw[<-E];have I: ∀k,(flat (cs.take k).reverse).length=pos cs k:=λk=>by
  show(flat _).length=(flat _).length;simp only[List.length_flatMap];rw[List.map_reverse,List.sum_reverse]
 have hcl:cs.length<=5000:=by
  have: ∀(n:Nat) (l:List UInt8),(ckF n l).length<=n:=by
   intro n;induction n with
   |zero=>intro l;simp[ckF]
   |succ n ih=>intro l;unfold ckF;split<;>simp;exact ih _
  have:=this s.data.toList.length s.data.toList;rw[E];rw[Qad]at this;exact Wb this N
 have:=A.lp cs (λf (y:ByteArray) k=>F.aY s (ats 0 cs) f y k) (λ_ _ _=>some (⟨(flat cs.reverse).toArray⟩:ByteArray)) (λk y=>y=⟨(flat (cs.take k).reverse).toArray⟩)
  (λf y hp=>by
   show F.aY s (ats 0 cs) (f+1) y _=_;rw[F.aY,Qb (by rw[Qav];omega),hp,List.take_length])
  (λf y k x hx hk hp ih=>by
   subst hp;show F.aY s (ats 0 cs) (f+1) _ _=_;have W:Z.R64 ((k:Int)+1):=⟨by omega,by omega⟩;have ek:(k:Int)+1=((k+1:Nat):Int):=by omega
   have J:(ByteArray.mk (flat (cs.take k).reverse).toArray).size=pos cs k:=by
    show(flat (cs.take k).reverse).toArray.size=_;rw[Xk,I]
   have hp1:=Qky H (k+1);have hp0:=Qky H k;have hes:(s.extract (pos cs k) (pos cs (k+1))).size<=s.size:=by rw[ByteArray.size_extract];omega
   rw[F.aY,Qc (by rw[Qav];omega),A.gd1 W,ek,part_eq H (show k<=k+1 by omega),Qa,A.gd1 (by rw[J];omega),A.gd1 (by rw[<-ek];exact W),<-ek];refine ih _ ?_;refine ba_eq ?_;rw[ByteArray.data_append,Array.toList_append,Qhm H];have e1:(cs.take (k+1)).drop k=[x]:=by
    rw[X2,hx,List.drop_append_of_le_length (by rw[Qx];omega),Xi (by rw[Qx];omega)];rfl
   have e2:(cs.take (k+1)).reverse=x::(cs.take k).reverse:=by rw[X2,hx];simp
   rw[e1,e2,Qam];simp)
  (by have:=Qac;omega) (QE) (by simp)
 exact this
end Go.Proofs.YtligcbdjiolamaaGreatDoor
end
