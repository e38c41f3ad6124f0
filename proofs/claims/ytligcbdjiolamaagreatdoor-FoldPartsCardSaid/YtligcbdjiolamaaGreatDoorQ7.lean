import Derived.Test.YtligcbdjiolamaaGreatDoorQ6
import Derived.Lib.TrimUEq
import Derived.Lib.MapLaws
import Derived.Lib.ValidU
set_option linter.defProp false
set_option linter.unusedVariables false
set_option linter.unusedSimpArgs false
set_option maxRecDepth 20000
set_option maxHeartbeats 8000000
set_option synthInstance.maxSize 1000000
set_option synthInstance.maxHeartbeats 400000
section
namespace Go.Proofs.YtligcbdjiolamaaGreatDoor
open Go.RowKit
variable(A0_ A1_ A2_ A3_ A4_ A5_ A7_ A9_ A10_ A11_ A12_ A13_ A15_ A17_ A19_ A21_ A23_ A25_ A27_ A29_ A31_:QK)(g0_ b1_ c1_ c2_ g2_ c3_ b4_ c4_ b5_ c5_ b6_ c6_ c8_ c10_ g10_ c11_ c12_ c13_ c14_ c16_ c18_ c20_ c22_ c24_ c26_ c28_ c30_ c32_:Nat)
def F.bI:Option (List (Int×(List D58))):=A.gd (Z.R64 (15+1)) (some [])
def F.bJ (e:D70):Option (List (Int×(List D58))):=A.gd (Z.R64 (14+1)) (if(0:Int)<(e.2.2.2.2.2.2.2.2.2.2.2.2.2.2.2.length:Int)then((F.a e.2.2.2.2.2.2.2.2.2.2.2.2.2.2.2).bind λf=>(A.cns (15,f) (F.bI)))else(F.bI))
def F.bK (e:D70):Option (List (Int×(List D58))):=A.gd (Z.R64 (13+1)) (if(0:Int)<(e.2.2.2.2.2.2.2.2.2.2.2.2.2.2.1.length:Int)then((F.a e.2.2.2.2.2.2.2.2.2.2.2.2.2.2.1).bind λf=>(A.cns (14,f) (F.bJ e)))else(F.bJ e))
def F.bL (e:D70):Option (List (Int×(List D58))):=A.gd (Z.R64 (12+1)) (if(0:Int)<(e.2.2.2.2.2.2.2.2.2.2.2.2.2.1.length:Int)then((F.a e.2.2.2.2.2.2.2.2.2.2.2.2.2.1).bind λf=>(A.cns (13,f) (F.bK e)))else(F.bK e))
def F.bM (e:D70):Option (List (Int×(List D58))):=A.gd (Z.R64 (11+1)) (if(0:Int)<(e.2.2.2.2.2.2.2.2.2.2.2.2.1.length:Int)then((F.a e.2.2.2.2.2.2.2.2.2.2.2.2.1).bind λf=>(A.cns (12,f) (F.bL e)))else(F.bL e))
def F.bN (e:D70):Option (List (Int×(List D58))):=A.gd (Z.R64 (10+1)) (if(0:Int)<(e.2.2.2.2.2.2.2.2.2.2.2.1.length:Int)then((F.a e.2.2.2.2.2.2.2.2.2.2.2.1).bind λf=>(A.cns (11,f) (F.bM e)))else(F.bM e))
def F.bO (e:D70):Option (List (Int×(List D58))):=A.gd (Z.R64 (9+1)) (if(0:Int)<(e.2.2.2.2.2.2.2.2.2.2.1.length:Int)then((F.a e.2.2.2.2.2.2.2.2.2.2.1).bind λf=>(A.cns (10,f) (F.bN e)))else(F.bN e))
def F.bP (e:D70):Option (List (Int×(List D58))):=A.gd (Z.R64 (8+1)) (if(0:Int)<(e.2.2.2.2.2.2.2.2.2.1.length:Int)then((F.a e.2.2.2.2.2.2.2.2.2.1).bind λf=>(A.cns (9,f) (F.bO e)))else(F.bO e))
def F.bQ (e:D70):Option (List (Int×(List D58))):=A.gd (Z.R64 (7+1)) (if(0:Int)<(e.2.2.2.2.2.2.2.2.1.length:Int)then((F.a e.2.2.2.2.2.2.2.2.1).bind λf=>(A.cns (8,f) (F.bP e)))else(F.bP e))
def F.bl (e:D70):Option (List (Int×(List D58))):=A.gd (Z.R64 (6+1)) (if(0:Int)<(e.2.2.2.2.2.2.2.1.length:Int)then((F.a e.2.2.2.2.2.2.2.1).bind λf=>(A.cns (7,f) (F.bQ e)))else(F.bQ e))
def F.bm (e:D70):Option (List (Int×(List D58))):=A.gd (Z.R64 (5+1)) (if(0:Int)<(e.2.2.2.2.2.2.1.length:Int)then((F.a e.2.2.2.2.2.2.1).bind λf=>(A.cns (6,f) (F.bl e)))else(F.bl e))
def F.bn (e:D70):Option (List (Int×(List D58))):=A.gd (Z.R64 (4+1)) (if(0:Int)<(e.2.2.2.2.2.1.length:Int)then((F.a e.2.2.2.2.2.1).bind λf=>(A.cns (5,f) (F.bm e)))else(F.bm e))
def F.bo (e:D70):Option (List (Int×(List D58))):=A.gd (Z.R64 (3+1)) (if(0:Int)<(e.2.2.2.2.1.length:Int)then((F.a e.2.2.2.2.1).bind λf=>(A.cns (4,f) (F.bn e)))else(F.bn e))
def F.bp (e:D70):Option (List (Int×(List D58))):=A.gd (Z.R64 (2+1)) (if(0:Int)<(e.2.2.2.1.length:Int)then((F.a e.2.2.2.1).bind λf=>(A.cns (3,f) (F.bo e)))else(F.bo e))
def F.bq (e:D70):Option (List (Int×(List D58))):=A.gd (Z.R64 (1+1)) (if(0:Int)<(e.2.2.1.length:Int)then((F.a e.2.2.1).bind λf=>(A.cns (2,f) (F.bp e)))else(F.bp e))
def F.br (e:D70):Option (List (Int×(List D58))):=A.gd (Z.R64 (0+1)) (if(0:Int)<(e.2.1.length:Int)then((F.a e.2.1).bind λf=>(A.cns (1,f) (F.bq e)))else(F.bq e))
def F.bS (e:D70):Option (List (Int×(List D58))):=if(0:Int)<(e.1.length:Int)then((F.a e.1).bind λf=>(A.cns (0,f) (F.br e)))else(F.br e)
theorem o_aQ(f:D70)(xs:List (Int×(List D58)))(a:F.bS f=some xs):
    A.Sq Tryz.prog 26 [.pointer (some ⟨g0_,0,none⟩)] [(0,.el none g0_ 0 (A.rak f A1_ c2_ A3_ c4_ A5_ c6_ A7_ c8_ A9_ c10_ A11_ c12_ A13_ c14_ A15_ c16_ A17_ c18_ A19_ c20_ A21_ c22_ A23_ c24_ A25_ c26_ A27_ c28_ A29_ c30_ A31_ c32_)),(1,.sh (.slice T58) [.slice A1_ f.1.length c2_] f.1),(2,.sh (.slice T58) [.slice A3_ f.2.1.length c4_] f.2.1),(3,.sh (.slice T58) [.slice A5_ f.2.2.1.length c6_] f.2.2.1),(4,.sh (.slice T58) [.slice A7_ f.2.2.2.1.length c8_] f.2.2.2.1),(5,.sh (.slice T58) [.slice A9_ f.2.2.2.2.1.length c10_] f.2.2.2.2.1),(6,.sh (.slice T58) [.slice A11_ f.2.2.2.2.2.1.length c12_] f.2.2.2.2.2.1),(7,.sh (.slice T58) [.slice A13_ f.2.2.2.2.2.2.1.length c14_] f.2.2.2.2.2.2.1),(8,.sh (.slice T58) [.slice A15_ f.2.2.2.2.2.2.2.1.length c16_] f.2.2.2.2.2.2.2.1),(9,.sh (.slice T58) [.slice A17_ f.2.2.2.2.2.2.2.2.1.length c18_] f.2.2.2.2.2.2.2.2.1),(10,.sh (.slice T58) [.slice A19_ f.2.2.2.2.2.2.2.2.2.1.length c20_] f.2.2.2.2.2.2.2.2.2.1),(11,.sh (.slice T58) [.slice A21_ f.2.2.2.2.2.2.2.2.2.2.1.length c22_] f.2.2.2.2.2.2.2.2.2.2.1),(12,.sh (.slice T58) [.slice A23_ f.2.2.2.2.2.2.2.2.2.2.2.1.length c24_] f.2.2.2.2.2.2.2.2.2.2.2.1),(13,.sh (.slice T58) [.slice A25_ f.2.2.2.2.2.2.2.2.2.2.2.2.1.length c26_] f.2.2.2.2.2.2.2.2.2.2.2.2.1),(14,.sh (.slice T58) [.slice A27_ f.2.2.2.2.2.2.2.2.2.2.2.2.2.1.length c28_] f.2.2.2.2.2.2.2.2.2.2.2.2.2.1),(15,.sh (.slice T58) [.slice A29_ f.2.2.2.2.2.2.2.2.2.2.2.2.2.2.1.length c30_] f.2.2.2.2.2.2.2.2.2.2.2.2.2.2.1),(16,.sh (.slice T58) [.slice A31_ f.2.2.2.2.2.2.2.2.2.2.2.2.2.2.2.length c32_] f.2.2.2.2.2.2.2.2.2.2.2.2.2.2.2)] (Z.Ty.pair A.ti (Z.Ty.slice T58)) (λcs=>[Z.vof false (cs.take 1),Z.vof false (cs.drop 1)]) xs:=by
 refine A.Sq.enter Tryz.func26 rfl Tryz.ntmps26 rfl λlid w0 J Jx Φ hY hJ0=>?_;obtain⟨rs0,hrs⟩: ∃rs0,rs0=xs:=⟨_,rfl⟩;have hR0:A.Rem xs 0 rs0:=hrs▸A.Rem.zero xs;rw[F.bS,<-hrs]at a;clear hrs;refine Ut 1 [] [0] [.e 0 0,.n] [(5,.agg #[.slice A1_ f.1.length c2_,.slice A3_ f.2.1.length c4_,.slice A5_ f.2.2.1.length c6_,.slice A7_ f.2.2.2.1.length c8_,.slice A9_ f.2.2.2.2.1.length c10_,.slice A11_ f.2.2.2.2.2.1.length c12_,.slice A13_ f.2.2.2.2.2.2.1.length c14_,.slice A15_ f.2.2.2.2.2.2.2.1.length c16_,.slice A17_ f.2.2.2.2.2.2.2.2.1.length c18_,.slice A19_ f.2.2.2.2.2.2.2.2.2.1.length c20_,.slice A21_ f.2.2.2.2.2.2.2.2.2.2.1.length c22_,.slice A23_ f.2.2.2.2.2.2.2.2.2.2.2.1.length c24_,.slice A25_ f.2.2.2.2.2.2.2.2.2.2.2.2.1.length c26_,.slice A27_ f.2.2.2.2.2.2.2.2.2.2.2.2.2.1.length c28_,.slice A29_ f.2.2.2.2.2.2.2.2.2.2.2.2.2.2.1.length c30_,.slice A31_ f.2.2.2.2.2.2.2.2.2.2.2.2.2.2.2.length c32_]),(6,A.i 0)] 2 ?_;refine A.AX.unr ?_;refine Vl 1 1 [(7,QC)] 2 ?_;refine Vq rfl ?_;refine Uv 2 ?_;refine Uw (A.CY 22 Φ) [0,5,6] QF (λi h k=>∃(rs:List (Int×(List D58))),h=[]/\k=[]/\J i.1 i.2/\A.Rem xs i.1 rs/\F.br f=some rs) ?_ ?_;refine Ub 2 1 [(8,A.i 0)] ?_;refine A.AL.ixv (λv:Value=>v) (A.rak f A1_ c2_ A3_ c4_ A5_ c6_ A7_ c8_ A9_ c10_ A11_ c12_ A13_ c14_ A15_ c16_ A17_ c18_ A19_ c20_ A21_ c22_ A23_ c24_ A25_ c26_ A27_ c28_ A29_ c30_ A31_ c32_) (i:=0) (v:=.slice A1_ f.1.length c2_) rfl ?_ (hx:=by kernel_rfl);refine Vm 2 [(3,A.i 0),(4,.slice A1_ f.1.length c2_)] 2 ?_;refine Us 4 [(13,.bool (decide ((0:Int)<(f.1.length:Int))))] (V6 (j:=13) rfl a ?_ ?_)<;>intro o a;refine Vo [] [] [.on .n,.on .n,.on .n] [(14,.func (.yield lid) #[] #[]),(15,A.i 0),(16,.slice A1_ f.1.length c2_)] (Vh (dj:=13) rfl rfl ?_);refine V7 17 [] a (o_a A1_ c2_ f.1) (.l 1 .nil (h1:=by kernel_rfl)) ?_;rintro p - a _ _ ⟨av,aw,rfl,rfl⟩;refine Vn (Vh (dj:=13) rfl rfl ?_);refine Uy 17 [] ?_;obtain⟨rs236,hqrs236,a⟩:=Uj a;refine Uk (t:=.pair A.ti (Z.Ty.slice T58)) (x:=(0,p)) hY hJ0 (hqrs236▸hR0) [A.i 0,.slice av p.length aw] ⟨⟨rfl,Vp⟩,.inl ⟨17,rfl⟩⟩ (λr hJ238 hR239=>?_) (λr hX240=>?_);refine Vy [] [] [.on .n,.n] [(20,QB)] 1 ?_;refine Vv rfl ?_;refine V8 2 ?_;exact Ue (1,r) QF [] [] ⟨_,rfl,rfl,hJ238,hR239,a⟩;refine Vy [] [] [.on .n,.n] [(20,QC)] 1 ?_;refine Vq rfl ?_;exact Uz hY hX240;refine Vy [] [] [.off,.off,.off,.off,.off,.off,.n] [(20,QB)] 1 ?_;refine Vv rfl ?_;refine V8 2 ?_;exact Ue (0,w0) QF [] [] ⟨_,rfl,rfl,hJ0,hR0,a⟩;rintro⟨s,w2⟩ _ _ ⟨rs5,rfl,rfl,hJ3,hR4,a⟩;rw[F.br]at a;refine Vg 0 ?_;have⟨ax,a⟩:=Uc a;refine U0 2 [Z.R64 (0+1)] [(6,A.i 1)] ax (Va ?_);refine A.AE.unr ?_;refine Vl 1 1 [(7,QC)] 2 ?_;refine Vq rfl ?_;refine Uv 2 ?_;refine Uw (A.CY 22 Φ) [0,5,6] QF (λi h k=>∃(rs:List (Int×(List D58))),h=[]/\k=[]/\J i.1 i.2/\A.Rem xs i.1 rs/\F.bq f=some rs) ?_ ?_;refine Ub 2 1 [(8,A.i 1)] ?_;refine A.AL.ixv (λv:Value=>v) (A.rak f A1_ c2_ A3_ c4_ A5_ c6_ A7_ c8_ A9_ c10_ A11_ c12_ A13_ c14_ A15_ c16_ A17_ c18_ A19_ c20_ A21_ c22_ A23_ c24_ A25_ c26_ A27_ c28_ A29_ c30_ A31_ c32_) (i:=1) (v:=.slice A3_ f.2.1.length c4_) rfl ?_ (hx:=by kernel_rfl);refine Vm 2 [(3,A.i 1),(4,.slice A3_ f.2.1.length c4_)] 2 ?_;refine Us 4 [(13,.bool (decide ((0:Int)<(f.2.1.length:Int))))] (V6 (j:=13) rfl a ?_ ?_)<;>intro o a;refine Vo [] [] [.on .n,.on .n,.on .n] [(14,.func (.yield lid) #[] #[]),(15,A.i 1),(16,.slice A3_ f.2.1.length c4_)] (Vh (dj:=13) rfl rfl ?_);refine V7 57 [] a (o_a A3_ c4_ f.2.1) (.l 2 .nil (h1:=by kernel_rfl)) ?_;rintro u - a _ _ ⟨ay,az,rfl,rfl⟩;refine Vn (Vh (dj:=13) rfl rfl ?_);refine Uy 57 [] ?_;obtain⟨rs227,hqrs227,a⟩:=Uj a;refine Uk (t:=.pair A.ti (Z.Ty.slice T58)) (x:=(1,u)) hY hJ3 (hqrs227▸hR4) [A.i 1,.slice ay u.length az] ⟨⟨rfl,(Vx 1)⟩,.inl ⟨57,rfl⟩⟩ (λw hJ229 hR230=>?_) (λw hX231=>?_);refine Vy [] [] [.on .n,.n] [(20,QB)] 1 ?_;refine Vv rfl ?_;refine V8 2 ?_;exact Ue (s+1,w) QF [] [] ⟨_,rfl,rfl,hJ229,hR230,a⟩;refine Vy [] [] [.on .n,.n] [(20,QC)] 1 ?_;refine Vq rfl ?_;exact Uz hY hX231;refine Vy [] [] [.off,.off,.off,.off,.off,.off,.n] [(20,QB)] 1 ?_;refine Vv rfl ?_;refine V8 2 ?_;exact Ue (s,w2) QF [] [] ⟨_,rfl,rfl,hJ3,hR4,a⟩;rintro⟨y,w8⟩ _ _ ⟨rs11,rfl,rfl,hJ9,hR10,a⟩;rw[F.bq]at a;refine Vg 0 ?_;have⟨b1,a⟩:=Uc a;refine U0 2 [Z.R64 (1+1)] [(6,A.i 2)] b1 (Va ?_);refine A.AE.unr ?_;refine Vl 1 1 [(7,QC)] 2 ?_;refine Vq rfl ?_;refine Uv 2 ?_;refine Uw (A.CY 22 Φ) [0,5,6] QF (λi h k=>∃(rs:List (Int×(List D58))),h=[]/\k=[]/\J i.1 i.2/\A.Rem xs i.1 rs/\F.bp f=some rs) ?_ ?_;refine Ub 2 1 [(8,A.i 2)] ?_;refine A.AL.ixv (λv:Value=>v) (A.rak f A1_ c2_ A3_ c4_ A5_ c6_ A7_ c8_ A9_ c10_ A11_ c12_ A13_ c14_ A15_ c16_ A17_ c18_ A19_ c20_ A21_ c22_ A23_ c24_ A25_ c26_ A27_ c28_ A29_ c30_ A31_ c32_) (i:=2) (v:=.slice A5_ f.2.2.1.length c6_) rfl ?_ (hx:=by kernel_rfl);refine Vm 2 [(3,A.i 2),(4,.slice A5_ f.2.2.1.length c6_)] 2 ?_;refine Us 4 [(13,.bool (decide ((0:Int)<(f.2.2.1.length:Int))))] (V6 (j:=13) rfl a ?_ ?_)<;>intro o a;refine Vo [] [] [.on .n,.on .n,.on .n] [(14,.func (.yield lid) #[] #[]),(15,A.i 2),(16,.slice A5_ f.2.2.1.length c6_)] (Vh (dj:=13) rfl rfl ?_);refine V7 97 [] a (o_a A5_ c6_ f.2.2.1) (.l 3 .nil (h1:=by kernel_rfl)) ?_;rintro z - a _ _ ⟨b2,b3,rfl,rfl⟩;refine Vn (Vh (dj:=13) rfl rfl ?_);refine Uy 97 [] ?_;obtain⟨rs218,hqrs218,a⟩:=Uj a;refine Uk (t:=.pair A.ti (Z.Ty.slice T58)) (x:=(2,z)) hY hJ9 (hqrs218▸hR10) [A.i 2,.slice b2 z.length b3] ⟨⟨rfl,(Vx 2)⟩,.inl ⟨97,rfl⟩⟩ (λB hJ220 hR221=>?_) (λB hX222=>?_);refine Vy [] [] [.on .n,.n] [(20,QB)] 1 ?_;refine Vv rfl ?_;refine V8 2 ?_;exact Ue (y+1,B) QF [] [] ⟨_,rfl,rfl,hJ220,hR221,a⟩;refine Vy [] [] [.on .n,.n] [(20,QC)] 1 ?_;refine Vq rfl ?_;exact Uz hY hX222;refine Vy [] [] [.off,.off,.off,.off,.off,.off,.n] [(20,QB)] 1 ?_;refine Vv rfl ?_;refine V8 2 ?_;exact Ue (y,w8) QF [] [] ⟨_,rfl,rfl,hJ9,hR10,a⟩;rintro⟨C,b4⟩ _ _ ⟨rs17,rfl,rfl,hJ15,hR16,a⟩;rw[F.bp]at a;refine Vg 0 ?_;have⟨b5,a⟩:=Uc a;refine U0 2 [Z.R64 (2+1)] [(6,A.i 3)] b5 (Va ?_);refine A.AE.unr ?_;refine Vl 1 1 [(7,QC)] 2 ?_;refine Vq rfl ?_;refine Uv 2 ?_;refine Uw (A.CY 22 Φ) [0,5,6] QF (λi h k=>∃(rs:List (Int×(List D58))),h=[]/\k=[]/\J i.1 i.2/\A.Rem xs i.1 rs/\F.bo f=some rs) ?_ ?_;refine Ub 2 1 [(8,A.i 3)] ?_;refine A.AL.ixv (λv:Value=>v) (A.rak f A1_ c2_ A3_ c4_ A5_ c6_ A7_ c8_ A9_ c10_ A11_ c12_ A13_ c14_ A15_ c16_ A17_ c18_ A19_ c20_ A21_ c22_ A23_ c24_ A25_ c26_ A27_ c28_ A29_ c30_ A31_ c32_) (i:=3) (v:=.slice A7_ f.2.2.2.1.length c8_) rfl ?_ (hx:=by kernel_rfl);refine Vm 2 [(3,A.i 3),(4,.slice A7_ f.2.2.2.1.length c8_)] 2 ?_;refine Us 4 [(13,.bool (decide ((0:Int)<(f.2.2.2.1.length:Int))))] (V6 (j:=13) rfl a ?_ ?_)<;>intro o a;refine Vo [] [] [.on .n,.on .n,.on .n] [(14,.func (.yield lid) #[] #[]),(15,A.i 3),(16,.slice A7_ f.2.2.2.1.length c8_)] (Vh (dj:=13) rfl rfl ?_);refine V7 137 [] a (o_a A7_ c8_ f.2.2.2.1) (.l 4 .nil (h1:=by kernel_rfl)) ?_;rintro E - a _ _ ⟨b6,b7,rfl,rfl⟩;refine Vn (Vh (dj:=13) rfl rfl ?_);refine Uy 137 [] ?_;obtain⟨rs209,hqrs209,a⟩:=Uj a;refine Uk (t:=.pair A.ti (Z.Ty.slice T58)) (x:=(3,E)) hY hJ15 (hqrs209▸hR16) [A.i 3,.slice b6 E.length b7] ⟨⟨rfl,(Vx 3)⟩,.inl ⟨137,rfl⟩⟩ (λH hJ211 hR212=>?_) (λH hX213=>?_);refine Vy [] [] [.on .n,.n] [(20,QB)] 1 ?_;refine Vv rfl ?_;refine V8 2 ?_;exact Ue (C+1,H) QF [] [] ⟨_,rfl,rfl,hJ211,hR212,a⟩;refine Vy [] [] [.on .n,.n] [(20,QC)] 1 ?_;refine Vq rfl ?_;exact Uz hY hX213;refine Vy [] [] [.off,.off,.off,.off,.off,.off,.n] [(20,QB)] 1 ?_;refine Vv rfl ?_;refine V8 2 ?_;exact Ue (C,b4) QF [] [] ⟨_,rfl,rfl,hJ15,hR16,a⟩;rintro⟨I,b9⟩ _ _ ⟨rs23,rfl,rfl,hJ21,hR22,a⟩;rw[F.bo]at a;refine Vg 0 ?_;have⟨bb,a⟩:=Uc a;refine U0 2 [Z.R64 (3+1)] [(6,A.i 4)] bb (Va ?_);refine A.AE.unr ?_;refine Vl 1 1 [(7,QC)] 2 ?_;refine Vq rfl ?_;refine Uv 2 ?_;refine Uw (A.CY 22 Φ) [0,5,6] QF (λi h k=>∃(rs:List (Int×(List D58))),h=[]/\k=[]/\J i.1 i.2/\A.Rem xs i.1 rs/\F.bn f=some rs) ?_ ?_;refine Ub 2 1 [(8,A.i 4)] ?_;refine A.AL.ixv (λv:Value=>v) (A.rak f A1_ c2_ A3_ c4_ A5_ c6_ A7_ c8_ A9_ c10_ A11_ c12_ A13_ c14_ A15_ c16_ A17_ c18_ A19_ c20_ A21_ c22_ A23_ c24_ A25_ c26_ A27_ c28_ A29_ c30_ A31_ c32_) (i:=4) (v:=.slice A9_ f.2.2.2.2.1.length c10_) rfl ?_ (hx:=by kernel_rfl);refine Vm 2 [(3,A.i 4),(4,.slice A9_ f.2.2.2.2.1.length c10_)] 2 ?_;refine Us 4 [(13,.bool (decide ((0:Int)<(f.2.2.2.2.1.length:Int))))] (V6 (j:=13) rfl a ?_ ?_)<;>intro o a;refine Vo [] [] [.on .n,.on .n,.on .n] [(14,.func (.yield lid) #[] #[]),(15,A.i 4),(16,.slice A9_ f.2.2.2.2.1.length c10_)] (Vh (dj:=13) rfl rfl ?_);refine V7 177 [] a (o_a A9_ c10_ f.2.2.2.2.1) (.l 5 .nil (h1:=by kernel_rfl)) ?_;rintro L - a _ _ ⟨bc,be,rfl,rfl⟩;refine Vn (Vh (dj:=13) rfl rfl ?_);refine Uy 177 [] ?_;obtain⟨rs200,hqrs200,a⟩:=Uj a;refine Uk (t:=.pair A.ti (Z.Ty.slice T58)) (x:=(4,L)) hY hJ21 (hqrs200▸hR22) [A.i 4,.slice bc L.length be] ⟨⟨rfl,(Vx 4)⟩,.inl ⟨177,rfl⟩⟩ (λN hJ202 hR203=>?_) (λN hX204=>?_);refine Vy [] [] [.on .n,.n] [(20,QB)] 1 ?_;refine Vv rfl ?_;refine V8 2 ?_;exact Ue (I+1,N) QF [] [] ⟨_,rfl,rfl,hJ202,hR203,a⟩;refine Vy [] [] [.on .n,.n] [(20,QC)] 1 ?_;refine Vq rfl ?_;exact Uz hY hX204;refine Vy [] [] [.off,.off,.off,.off,.off,.off,.n] [(20,QB)] 1 ?_;refine Vv rfl ?_;refine V8 2 ?_;exact Ue (I,b9) QF [] [] ⟨_,rfl,rfl,hJ21,hR22,a⟩;rintro⟨P,bf⟩ _ _ ⟨rs29,rfl,rfl,hJ27,hR28,a⟩;rw[F.bn]at a;refine Vg 0 ?_;have⟨bg,a⟩:=Uc a;refine U0 2 [Z.R64 (4+1)] [(6,A.i 5)] bg (Va ?_);refine A.AE.unr ?_;refine Vl 1 1 [(7,QC)] 2 ?_;refine Vq rfl ?_;refine Uv 2 ?_;refine Uw (A.CY 22 Φ) [0,5,6] QF (λi h k=>∃(rs:List (Int×(List D58))),h=[]/\k=[]/\J i.1 i.2/\A.Rem xs i.1 rs/\F.bm f=some rs) ?_ ?_;refine Ub 2 1 [(8,A.i 5)] ?_;refine A.AL.ixv (λv:Value=>v) (A.rak f A1_ c2_ A3_ c4_ A5_ c6_ A7_ c8_ A9_ c10_ A11_ c12_ A13_ c14_ A15_ c16_ A17_ c18_ A19_ c20_ A21_ c22_ A23_ c24_ A25_ c26_ A27_ c28_ A29_ c30_ A31_ c32_) (i:=5) (v:=.slice A11_ f.2.2.2.2.2.1.length c12_) rfl ?_ (hx:=by kernel_rfl);refine Vm 2 [(3,A.i 5),(4,.slice A11_ f.2.2.2.2.2.1.length c12_)] 2 ?_;refine Us 4 [(13,.bool (decide ((0:Int)<(f.2.2.2.2.2.1.length:Int))))] (V6 (j:=13) rfl a ?_ ?_)<;>intro o a;refine Vo [] [] [.on .n,.on .n,.on .n] [(14,.func (.yield lid) #[] #[]),(15,A.i 5),(16,.slice A11_ f.2.2.2.2.2.1.length c12_)] (Vh (dj:=13) rfl rfl ?_);refine V7 217 [] a (o_a A11_ c12_ f.2.2.2.2.2.1) (.l 6 .nil (h1:=by kernel_rfl)) ?_;rintro Q - a _ _ ⟨bh,bi,rfl,rfl⟩;refine Vn (Vh (dj:=13) rfl rfl ?_);refine Uy 217 [] ?_;obtain⟨rs191,hqrs191,a⟩:=Uj a;refine Uk (t:=.pair A.ti (Z.Ty.slice T58)) (x:=(5,Q)) hY hJ27 (hqrs191▸hR28) [A.i 5,.slice bh Q.length bi] ⟨⟨rfl,(Vx 5)⟩,.inl ⟨217,rfl⟩⟩ (λU hJ193 hR194=>?_) (λU hX195=>?_);refine Vy [] [] [.on .n,.n] [(20,QB)] 1 ?_;refine Vv rfl ?_;refine V8 2 ?_;exact Ue (P+1,U) QF [] [] ⟨_,rfl,rfl,hJ193,hR194,a⟩;refine Vy [] [] [.on .n,.n] [(20,QC)] 1 ?_;refine Vq rfl ?_;exact Uz hY hX195;refine Vy [] [] [.off,.off,.off,.off,.off,.off,.n] [(20,QB)] 1 ?_;refine Vv rfl ?_;refine V8 2 ?_;exact Ue (P,bf) QF [] [] ⟨_,rfl,rfl,hJ27,hR28,a⟩;rintro⟨W,bj⟩ _ _ ⟨rs35,rfl,rfl,hJ33,hR34,a⟩;rw[F.bm]at a;refine Vg 0 ?_;have⟨bk,a⟩:=Uc a;refine U0 2 [Z.R64 (5+1)] [(6,A.i 6)] bk (Va ?_);refine A.AE.unr ?_;refine Vl 1 1 [(7,QC)] 2 ?_;refine Vq rfl ?_;refine Uv 2 ?_;refine Uw (A.CY 22 Φ) [0,5,6] QF (λi h k=>∃(rs:List (Int×(List D58))),h=[]/\k=[]/\J i.1 i.2/\A.Rem xs i.1 rs/\F.bl f=some rs) ?_ ?_;refine Ub 2 1 [(8,A.i 6)] ?_;refine A.AL.ixv (λv:Value=>v) (A.rak f A1_ c2_ A3_ c4_ A5_ c6_ A7_ c8_ A9_ c10_ A11_ c12_ A13_ c14_ A15_ c16_ A17_ c18_ A19_ c20_ A21_ c22_ A23_ c24_ A25_ c26_ A27_ c28_ A29_ c30_ A31_ c32_) (i:=6) (v:=.slice A13_ f.2.2.2.2.2.2.1.length c14_) rfl ?_ (hx:=by kernel_rfl);refine Vm 2 [(3,A.i 6),(4,.slice A13_ f.2.2.2.2.2.2.1.length c14_)] 2 ?_;refine Us 4 [(13,.bool (decide ((0:Int)<(f.2.2.2.2.2.2.1.length:Int))))] (V6 (j:=13) rfl a ?_ ?_)<;>intro o a;refine Vo [] [] [.on .n,.on .n,.on .n] [(14,.func (.yield lid) #[] #[]),(15,A.i 6),(16,.slice A13_ f.2.2.2.2.2.2.1.length c14_)] (Vh (dj:=13) rfl rfl ?_);refine V7 257 [] a (o_a A13_ c14_ f.2.2.2.2.2.2.1) (.l 7 .nil (h1:=by kernel_rfl)) ?_;rintro Y - a _ _ ⟨bs,bt,rfl,rfl⟩;refine Vn (Vh (dj:=13) rfl rfl ?_);refine Uy 257 [] ?_;obtain⟨rs182,hqrs182,a⟩:=Uj a;refine Uk (t:=.pair A.ti (Z.Ty.slice T58)) (x:=(6,Y)) hY hJ33 (hqrs182▸hR34) [A.i 6,.slice bs Y.length bt] ⟨⟨rfl,(Vx 6)⟩,.inl ⟨257,rfl⟩⟩ (λa0 hJ184 hR185=>?_) (λa0 hX186=>?_);refine Vy [] [] [.on .n,.n] [(20,QB)] 1 ?_;refine Vv rfl ?_;refine V8 2 ?_;exact Ue (W+1,a0) QF [] [] ⟨_,rfl,rfl,hJ184,hR185,a⟩;refine Vy [] [] [.on .n,.n] [(20,QC)] 1 ?_;refine Vq rfl ?_;exact Uz hY hX186;refine Vy [] [] [.off,.off,.off,.off,.off,.off,.n] [(20,QB)] 1 ?_;refine Vv rfl ?_;refine V8 2 ?_;exact Ue (W,bj) QF [] [] ⟨_,rfl,rfl,hJ33,hR34,a⟩;rintro⟨a1,bu⟩ _ _ ⟨rs41,rfl,rfl,hJ39,hR40,a⟩;rw[F.bl]at a;refine Vg 0 ?_;have⟨bw,a⟩:=Uc a;refine U0 2 [Z.R64 (6+1)] [(6,A.i 7)] bw (Va ?_);refine A.AE.unr ?_;refine Vl 1 1 [(7,QC)] 2 ?_;refine Vq rfl ?_;refine Uv 2 ?_;refine Uw (A.CY 22 Φ) [0,5,6] QF (λi h k=>∃(rs:List (Int×(List D58))),h=[]/\k=[]/\J i.1 i.2/\A.Rem xs i.1 rs/\F.bQ f=some rs) ?_ ?_;refine Ub 2 1 [(8,A.i 7)] ?_;refine A.AL.ixv (λv:Value=>v) (A.rak f A1_ c2_ A3_ c4_ A5_ c6_ A7_ c8_ A9_ c10_ A11_ c12_ A13_ c14_ A15_ c16_ A17_ c18_ A19_ c20_ A21_ c22_ A23_ c24_ A25_ c26_ A27_ c28_ A29_ c30_ A31_ c32_) (i:=7) (v:=.slice A15_ f.2.2.2.2.2.2.2.1.length c16_) rfl ?_ (hx:=by kernel_rfl);refine Vm 2 [(3,A.i 7),(4,.slice A15_ f.2.2.2.2.2.2.2.1.length c16_)] 2 ?_;refine Us 4 [(13,.bool (decide ((0:Int)<(f.2.2.2.2.2.2.2.1.length:Int))))] (V6 (j:=13) rfl a ?_ ?_)<;>intro o a;refine Vo [] [] [.on .n,.on .n,.on .n] [(14,.func (.yield lid) #[] #[]),(15,A.i 7),(16,.slice A15_ f.2.2.2.2.2.2.2.1.length c16_)] (Vh (dj:=13) rfl rfl ?_);refine V7 297 [] a (o_a A15_ c16_ f.2.2.2.2.2.2.2.1) (.l 8 .nil (h1:=by kernel_rfl)) ?_;rintro a2 - a _ _ ⟨bx,bz,rfl,rfl⟩;refine Vn (Vh (dj:=13) rfl rfl ?_);refine Uy 297 [] ?_;obtain⟨rs173,hqrs173,a⟩:=Uj a;refine Uk (t:=.pair A.ti (Z.Ty.slice T58)) (x:=(7,a2)) hY hJ39 (hqrs173▸hR40) [A.i 7,.slice bx a2.length bz] ⟨⟨rfl,(Vx 7)⟩,.inl ⟨297,rfl⟩⟩ (λa3 hJ175 hR176=>?_) (λa3 hX177=>?_);refine Vy [] [] [.on .n,.n] [(20,QB)] 1 ?_;refine Vv rfl ?_;refine V8 2 ?_;exact Ue (a1+1,a3) QF [] [] ⟨_,rfl,rfl,hJ175,hR176,a⟩;refine Vy [] [] [.on .n,.n] [(20,QC)] 1 ?_;refine Vq rfl ?_;exact Uz hY hX177;refine Vy [] [] [.off,.off,.off,.off,.off,.off,.n] [(20,QB)] 1 ?_;refine Vv rfl ?_;refine V8 2 ?_;exact Ue (a1,bu) QF [] [] ⟨_,rfl,rfl,hJ39,hR40,a⟩;rintro⟨a4,c0⟩ _ _ ⟨rs47,rfl,rfl,hJ45,hR46,a⟩;rw[F.bQ]at a;refine Vg 0 ?_;have⟨c1,a⟩:=Uc a;refine U0 2 [Z.R64 (7+1)] [(6,A.i 8)] c1 (Va ?_);refine A.AE.unr ?_;refine Vl 1 1 [(7,QC)] 2 ?_;refine Vq rfl ?_;refine Uv 2 ?_;refine Uw (A.CY 22 Φ) [0,5,6] QF (λi h k=>∃(rs:List (Int×(List D58))),h=[]/\k=[]/\J i.1 i.2/\A.Rem xs i.1 rs/\F.bP f=some rs) ?_ ?_;refine Ub 2 1 [(8,A.i 8)] ?_;refine A.AL.ixv (λv:Value=>v) (A.rak f A1_ c2_ A3_ c4_ A5_ c6_ A7_ c8_ A9_ c10_ A11_ c12_ A13_ c14_ A15_ c16_ A17_ c18_ A19_ c20_ A21_ c22_ A23_ c24_ A25_ c26_ A27_ c28_ A29_ c30_ A31_ c32_) (i:=8) (v:=.slice A17_ f.2.2.2.2.2.2.2.2.1.length c18_) rfl ?_ (hx:=by kernel_rfl);refine Vm 2 [(3,A.i 8),(4,.slice A17_ f.2.2.2.2.2.2.2.2.1.length c18_)] 2 ?_;refine Us 4 [(13,.bool (decide ((0:Int)<(f.2.2.2.2.2.2.2.2.1.length:Int))))] (V6 (j:=13) rfl a ?_ ?_)<;>intro o a;refine Vo [] [] [.on .n,.on .n,.on .n] [(14,.func (.yield lid) #[] #[]),(15,A.i 8),(16,.slice A17_ f.2.2.2.2.2.2.2.2.1.length c18_)] (Vh (dj:=13) rfl rfl ?_);refine V7 337 [] a (o_a A17_ c18_ f.2.2.2.2.2.2.2.2.1) (.l 9 .nil (h1:=by kernel_rfl)) ?_;rintro a5 - a _ _ ⟨c2,c3,rfl,rfl⟩;refine Vn (Vh (dj:=13) rfl rfl ?_);refine Uy 337 [] ?_;obtain⟨rs164,hqrs164,a⟩:=Uj a;refine Uk (t:=.pair A.ti (Z.Ty.slice T58)) (x:=(8,a5)) hY hJ45 (hqrs164▸hR46) [A.i 8,.slice c2 a5.length c3] ⟨⟨rfl,(Vx 8)⟩,.inl ⟨337,rfl⟩⟩ (λa6 hJ166 hR167=>?_) (λa6 hX168=>?_);refine Vy [] [] [.on .n,.n] [(20,QB)] 1 ?_;refine Vv rfl ?_;refine V8 2 ?_;exact Ue (a4+1,a6) QF [] [] ⟨_,rfl,rfl,hJ166,hR167,a⟩;refine Vy [] [] [.on .n,.n] [(20,QC)] 1 ?_;refine Vq rfl ?_;exact Uz hY hX168;refine Vy [] [] [.off,.off,.off,.off,.off,.off,.n] [(20,QB)] 1 ?_;refine Vv rfl ?_;refine V8 2 ?_;exact Ue (a4,c0) QF [] [] ⟨_,rfl,rfl,hJ45,hR46,a⟩;rintro⟨a7,c4⟩ _ _ ⟨rs53,rfl,rfl,hJ51,hR52,a⟩;rw[F.bP]at a;refine Vg 0 ?_;have⟨c5,a⟩:=Uc a;refine U0 2 [Z.R64 (8+1)] [(6,A.i 9)] c5 (Va ?_);refine A.AE.unr ?_;refine Vl 1 1 [(7,QC)] 2 ?_;refine Vq rfl ?_;refine Uv 2 ?_;refine Uw (A.CY 22 Φ) [0,5,6] QF (λi h k=>∃(rs:List (Int×(List D58))),h=[]/\k=[]/\J i.1 i.2/\A.Rem xs i.1 rs/\F.bO f=some rs) ?_ ?_;refine Ub 2 1 [(8,A.i 9)] ?_;refine A.AL.ixv (λv:Value=>v) (A.rak f A1_ c2_ A3_ c4_ A5_ c6_ A7_ c8_ A9_ c10_ A11_ c12_ A13_ c14_ A15_ c16_ A17_ c18_ A19_ c20_ A21_ c22_ A23_ c24_ A25_ c26_ A27_ c28_ A29_ c30_ A31_ c32_) (i:=9) (v:=.slice A19_ f.2.2.2.2.2.2.2.2.2.1.length c20_) rfl ?_ (hx:=by kernel_rfl);refine Vm 2 [(3,A.i 9),(4,.slice A19_ f.2.2.2.2.2.2.2.2.2.1.length c20_)] 2 ?_;refine Us 4 [(13,.bool (decide ((0:Int)<(f.2.2.2.2.2.2.2.2.2.1.length:Int))))] (V6 (j:=13) rfl a ?_ ?_)<;>intro o a;refine Vo [] [] [.on .n,.on .n,.on .n] [(14,.func (.yield lid) #[] #[]),(15,A.i 9),(16,.slice A19_ f.2.2.2.2.2.2.2.2.2.1.length c20_)] (Vh (dj:=13) rfl rfl ?_);refine V7 377 [] a (o_a A19_ c20_ f.2.2.2.2.2.2.2.2.2.1) (.l 10 .nil (h1:=by kernel_rfl)) ?_;rintro a8 - a _ _ ⟨c6,c7,rfl,rfl⟩;refine Vn (Vh (dj:=13) rfl rfl ?_);refine Uy 377 [] ?_;obtain⟨rs155,hqrs155,a⟩:=Uj a;refine Uk (t:=.pair A.ti (Z.Ty.slice T58)) (x:=(9,a8)) hY hJ51 (hqrs155▸hR52) [A.i 9,.slice c6 a8.length c7] ⟨⟨rfl,(Vx 9)⟩,.inl ⟨377,rfl⟩⟩ (λa9 hJ157 hR158=>?_) (λa9 hX159=>?_);refine Vy [] [] [.on .n,.n] [(20,QB)] 1 ?_;refine Vv rfl ?_;refine V8 2 ?_;exact Ue (a7+1,a9) QF [] [] ⟨_,rfl,rfl,hJ157,hR158,a⟩;refine Vy [] [] [.on .n,.n] [(20,QC)] 1 ?_;refine Vq rfl ?_;exact Uz hY hX159;refine Vy [] [] [.off,.off,.off,.off,.off,.off,.n] [(20,QB)] 1 ?_;refine Vv rfl ?_;refine V8 2 ?_;exact Ue (a7,c4) QF [] [] ⟨_,rfl,rfl,hJ51,hR52,a⟩;rintro⟨aa,c8⟩ _ _ ⟨rs59,rfl,rfl,hJ57,hR58,a⟩;rw[F.bO]at a;refine Vg 0 ?_;have⟨c9,a⟩:=Uc a;refine U0 2 [Z.R64 (9+1)] [(6,A.i 10)] c9 (Va ?_);refine A.AE.unr ?_;refine Vl 1 1 [(7,QC)] 2 ?_;refine Vq rfl ?_;refine Uv 2 ?_;refine Uw (A.CY 22 Φ) [0,5,6] QF (λi h k=>∃(rs:List (Int×(List D58))),h=[]/\k=[]/\J i.1 i.2/\A.Rem xs i.1 rs/\F.bN f=some rs) ?_ ?_;refine Ub 2 1 [(8,A.i 10)] ?_;refine A.AL.ixv (λv:Value=>v) (A.rak f A1_ c2_ A3_ c4_ A5_ c6_ A7_ c8_ A9_ c10_ A11_ c12_ A13_ c14_ A15_ c16_ A17_ c18_ A19_ c20_ A21_ c22_ A23_ c24_ A25_ c26_ A27_ c28_ A29_ c30_ A31_ c32_) (i:=10) (v:=.slice A21_ f.2.2.2.2.2.2.2.2.2.2.1.length c22_) rfl ?_ (hx:=by kernel_rfl);refine Vm 2 [(3,A.i 10),(4,.slice A21_ f.2.2.2.2.2.2.2.2.2.2.1.length c22_)] 2 ?_;refine Us 4 [(13,.bool (decide ((0:Int)<(f.2.2.2.2.2.2.2.2.2.2.1.length:Int))))] (V6 (j:=13) rfl a ?_ ?_)<;>intro o a;refine Vo [] [] [.on .n,.on .n,.on .n] [(14,.func (.yield lid) #[] #[]),(15,A.i 10),(16,.slice A21_ f.2.2.2.2.2.2.2.2.2.2.1.length c22_)] (Vh (dj:=13) rfl rfl ?_);refine V7 417 [] a (o_a A21_ c22_ f.2.2.2.2.2.2.2.2.2.2.1) (.l 11 .nil (h1:=by kernel_rfl)) ?_;rintro ab - a _ _ ⟨ca,cb,rfl,rfl⟩;refine Vn (Vh (dj:=13) rfl rfl ?_);refine Uy 417 [] ?_;obtain⟨rs146,hqrs146,a⟩:=Uj a;refine Uk (t:=.pair A.ti (Z.Ty.slice T58)) (x:=(10,ab)) hY hJ57 (hqrs146▸hR58) [A.i 10,.slice ca ab.length cb] ⟨⟨rfl,(Vx 10)⟩,.inl ⟨417,rfl⟩⟩ (λac hJ148 hR149=>?_) (λac hX150=>?_);refine Vy [] [] [.on .n,.n] [(20,QB)] 1 ?_;refine Vv rfl ?_;refine V8 2 ?_;exact Ue (aa+1,ac) QF [] [] ⟨_,rfl,rfl,hJ148,hR149,a⟩;refine Vy [] [] [.on .n,.n] [(20,QC)] 1 ?_;refine Vq rfl ?_;exact Uz hY hX150;refine Vy [] [] [.off,.off,.off,.off,.off,.off,.n] [(20,QB)] 1 ?_;refine Vv rfl ?_;refine V8 2 ?_;exact Ue (aa,c8) QF [] [] ⟨_,rfl,rfl,hJ57,hR58,a⟩;rintro⟨ad,cc⟩ _ _ ⟨rs65,rfl,rfl,hJ63,hR64,a⟩;rw[F.bN]at a;refine Vg 0 ?_;have⟨cd,a⟩:=Uc a;refine U0 2 [Z.R64 (10+1)] [(6,A.i 11)] cd (Va ?_);refine A.AE.unr ?_;refine Vl 1 1 [(7,QC)] 2 ?_;refine Vq rfl ?_;refine Uv 2 ?_;refine Uw (A.CY 22 Φ) [0,5,6] QF (λi h k=>∃(rs:List (Int×(List D58))),h=[]/\k=[]/\J i.1 i.2/\A.Rem xs i.1 rs/\F.bM f=some rs) ?_ ?_;refine Ub 2 1 [(8,A.i 11)] ?_;refine A.AL.ixv (λv:Value=>v) (A.rak f A1_ c2_ A3_ c4_ A5_ c6_ A7_ c8_ A9_ c10_ A11_ c12_ A13_ c14_ A15_ c16_ A17_ c18_ A19_ c20_ A21_ c22_ A23_ c24_ A25_ c26_ A27_ c28_ A29_ c30_ A31_ c32_) (i:=11) (v:=.slice A23_ f.2.2.2.2.2.2.2.2.2.2.2.1.length c24_) rfl ?_ (hx:=by kernel_rfl);refine Vm 2 [(3,A.i 11),(4,.slice A23_ f.2.2.2.2.2.2.2.2.2.2.2.1.length c24_)] 2 ?_;refine Us 4 [(13,.bool (decide ((0:Int)<(f.2.2.2.2.2.2.2.2.2.2.2.1.length:Int))))] (V6 (j:=13) rfl a ?_ ?_)<;>intro o a;refine Vo [] [] [.on .n,.on .n,.on .n] [(14,.func (.yield lid) #[] #[]),(15,A.i 11),(16,.slice A23_ f.2.2.2.2.2.2.2.2.2.2.2.1.length c24_)] (Vh (dj:=13) rfl rfl ?_);refine V7 457 [] a (o_a A23_ c24_ f.2.2.2.2.2.2.2.2.2.2.2.1) (.l 12 .nil (h1:=by kernel_rfl)) ?_;rintro ae - a _ _ ⟨cf,cg,rfl,rfl⟩;refine Vn (Vh (dj:=13) rfl rfl ?_);refine Uy 457 [] ?_;obtain⟨rs137,hqrs137,a⟩:=Uj a;refine Uk (t:=.pair A.ti (Z.Ty.slice T58)) (x:=(11,ae)) hY hJ63 (hqrs137▸hR64) [A.i 11,.slice cf ae.length cg] ⟨⟨rfl,(Vx 11)⟩,.inl ⟨457,rfl⟩⟩ (λaf hJ139 hR140=>?_) (λaf hX141=>?_);refine Vy [] [] [.on .n,.n] [(20,QB)] 1 ?_;refine Vv rfl ?_;refine V8 2 ?_;exact Ue (ad+1,af) QF [] [] ⟨_,rfl,rfl,hJ139,hR140,a⟩;refine Vy [] [] [.on .n,.n] [(20,QC)] 1 ?_;refine Vq rfl ?_;exact Uz hY hX141;refine Vy [] [] [.off,.off,.off,.off,.off,.off,.n] [(20,QB)] 1 ?_;refine Vv rfl ?_;refine V8 2 ?_;exact Ue (ad,cc) QF [] [] ⟨_,rfl,rfl,hJ63,hR64,a⟩;rintro⟨ag,ch⟩ _ _ ⟨rs71,rfl,rfl,hJ69,hR70,a⟩;rw[F.bM]at a;refine Vg 0 ?_;have⟨ci,a⟩:=Uc a;refine U0 2 [Z.R64 (11+1)] [(6,A.i 12)] ci (Va ?_);refine A.AE.unr ?_;refine Vl 1 1 [(7,QC)] 2 ?_;refine Vq rfl ?_;refine Uv 2 ?_;refine Uw (A.CY 22 Φ) [0,5,6] QF (λi h k=>∃(rs:List (Int×(List D58))),h=[]/\k=[]/\J i.1 i.2/\A.Rem xs i.1 rs/\F.bL f=some rs) ?_ ?_;refine Ub 2 1 [(8,A.i 12)] ?_;refine A.AL.ixv (λv:Value=>v) (A.rak f A1_ c2_ A3_ c4_ A5_ c6_ A7_ c8_ A9_ c10_ A11_ c12_ A13_ c14_ A15_ c16_ A17_ c18_ A19_ c20_ A21_ c22_ A23_ c24_ A25_ c26_ A27_ c28_ A29_ c30_ A31_ c32_) (i:=12) (v:=.slice A25_ f.2.2.2.2.2.2.2.2.2.2.2.2.1.length c26_) rfl ?_ (hx:=by kernel_rfl);refine Vm 2 [(3,A.i 12),(4,.slice A25_ f.2.2.2.2.2.2.2.2.2.2.2.2.1.length c26_)] 2 ?_;refine Us 4 [(13,.bool (decide ((0:Int)<(f.2.2.2.2.2.2.2.2.2.2.2.2.1.length:Int))))] (V6 (j:=13) rfl a ?_ ?_)<;>intro o a;refine Vo [] [] [.on .n,.on .n,.on .n] [(14,.func (.yield lid) #[] #[]),(15,A.i 12),(16,.slice A25_ f.2.2.2.2.2.2.2.2.2.2.2.2.1.length c26_)] (Vh (dj:=13) rfl rfl ?_);refine V7 497 [] a (o_a A25_ c26_ f.2.2.2.2.2.2.2.2.2.2.2.2.1) (.l 13 .nil (h1:=by kernel_rfl)) ?_;rintro ah - a _ _ ⟨cj,cm,rfl,rfl⟩;refine Vn (Vh (dj:=13) rfl rfl ?_);refine Uy 497 [] ?_;obtain⟨rs128,hqrs128,a⟩:=Uj a;refine Uk (t:=.pair A.ti (Z.Ty.slice T58)) (x:=(12,ah)) hY hJ69 (hqrs128▸hR70) [A.i 12,.slice cj ah.length cm] ⟨⟨rfl,(Vx 12)⟩,.inl ⟨497,rfl⟩⟩ (λaj hJ130 hR131=>?_) (λaj hX132=>?_);refine Vy [] [] [.on .n,.n] [(20,QB)] 1 ?_;refine Vv rfl ?_;refine V8 2 ?_;exact Ue (ag+1,aj) QF [] [] ⟨_,rfl,rfl,hJ130,hR131,a⟩;refine Vy [] [] [.on .n,.n] [(20,QC)] 1 ?_;refine Vq rfl ?_;exact Uz hY hX132;refine Vy [] [] [.off,.off,.off,.off,.off,.off,.n] [(20,QB)] 1 ?_;refine Vv rfl ?_;refine V8 2 ?_;exact Ue (ag,ch) QF [] [] ⟨_,rfl,rfl,hJ69,hR70,a⟩;rintro⟨ak,cn⟩ _ _ ⟨rs77,rfl,rfl,hJ75,hR76,a⟩;rw[F.bL]at a;refine Vg 0 ?_;have⟨co,a⟩:=Uc a;refine U0 2 [Z.R64 (12+1)] [(6,A.i 13)] co (Va ?_);refine A.AE.unr ?_;refine Vl 1 1 [(7,QC)] 2 ?_;refine Vq rfl ?_;refine Uv 2 ?_;refine Uw (A.CY 22 Φ) [0,5,6] QF (λi h k=>∃(rs:List (Int×(List D58))),h=[]/\k=[]/\J i.1 i.2/\A.Rem xs i.1 rs/\F.bK f=some rs) ?_ ?_;refine Ub 2 1 [(8,A.i 13)] ?_;refine A.AL.ixv (λv:Value=>v) (A.rak f A1_ c2_ A3_ c4_ A5_ c6_ A7_ c8_ A9_ c10_ A11_ c12_ A13_ c14_ A15_ c16_ A17_ c18_ A19_ c20_ A21_ c22_ A23_ c24_ A25_ c26_ A27_ c28_ A29_ c30_ A31_ c32_) (i:=13) (v:=.slice A27_ f.2.2.2.2.2.2.2.2.2.2.2.2.2.1.length c28_) rfl ?_ (hx:=by kernel_rfl);refine Vm 2 [(3,A.i 13),(4,.slice A27_ f.2.2.2.2.2.2.2.2.2.2.2.2.2.1.length c28_)] 2 ?_;refine Us 4 [(13,.bool (decide ((0:Int)<(f.2.2.2.2.2.2.2.2.2.2.2.2.2.1.length:Int))))] (V6 (j:=13) rfl a ?_ ?_)<;>intro o a;refine Vo [] [] [.on .n,.on .n,.on .n] [(14,.func (.yield lid) #[] #[]),(15,A.i 13),(16,.slice A27_ f.2.2.2.2.2.2.2.2.2.2.2.2.2.1.length c28_)] (Vh (dj:=13) rfl rfl ?_);refine V7 537 [] a (o_a A27_ c28_ f.2.2.2.2.2.2.2.2.2.2.2.2.2.1) (.l 14 .nil (h1:=by kernel_rfl)) ?_;rintro al - a _ _ ⟨cp,cq,rfl,rfl⟩;refine Vn (Vh (dj:=13) rfl rfl ?_);refine Uy 537 [] ?_;obtain⟨rs119,hqrs119,a⟩:=Uj a;refine Uk (t:=.pair A.ti (Z.Ty.slice T58)) (x:=(13,al)) hY hJ75 (hqrs119▸hR76) [A.i 13,.slice cp al.length cq] ⟨⟨rfl,(Vx 13)⟩,.inl ⟨537,rfl⟩⟩ (λam hJ121 hR122=>?_) (λam hX123=>?_);refine Vy [] [] [.on .n,.n] [(20,QB)] 1 ?_;refine Vv rfl ?_;refine V8 2 ?_;exact Ue (ak+1,am) QF [] [] ⟨_,rfl,rfl,hJ121,hR122,a⟩;refine Vy [] [] [.on .n,.n] [(20,QC)] 1 ?_;refine Vq rfl ?_;exact Uz hY hX123;refine Vy [] [] [.off,.off,.off,.off,.off,.off,.n] [(20,QB)] 1 ?_;refine Vv rfl ?_;refine V8 2 ?_;exact Ue (ak,cn) QF [] [] ⟨_,rfl,rfl,hJ75,hR76,a⟩;rintro⟨an,cr⟩ _ _ ⟨rs83,rfl,rfl,hJ81,hR82,a⟩;rw[F.bK]at a;refine Vg 0 ?_;have⟨ct,a⟩:=Uc a;refine U0 2 [Z.R64 (13+1)] [(6,A.i 14)] ct (Va ?_);refine A.AE.unr ?_;refine Vl 1 1 [(7,QC)] 2 ?_;refine Vq rfl ?_;refine Uv 2 ?_;refine Uw (A.CY 22 Φ) [0,5,6] QF (λi h k=>∃(rs:List (Int×(List D58))),h=[]/\k=[]/\J i.1 i.2/\A.Rem xs i.1 rs/\F.bJ f=some rs) ?_ ?_;refine Ub 2 1 [(8,A.i 14)] ?_;refine A.AL.ixv (λv:Value=>v) (A.rak f A1_ c2_ A3_ c4_ A5_ c6_ A7_ c8_ A9_ c10_ A11_ c12_ A13_ c14_ A15_ c16_ A17_ c18_ A19_ c20_ A21_ c22_ A23_ c24_ A25_ c26_ A27_ c28_ A29_ c30_ A31_ c32_) (i:=14) (v:=.slice A29_ f.2.2.2.2.2.2.2.2.2.2.2.2.2.2.1.length c30_) rfl ?_ (hx:=by kernel_rfl);refine Vm 2 [(3,A.i 14),(4,.slice A29_ f.2.2.2.2.2.2.2.2.2.2.2.2.2.2.1.length c30_)] 2 ?_;refine Us 4 [(13,.bool (decide ((0:Int)<(f.2.2.2.2.2.2.2.2.2.2.2.2.2.2.1.length:Int))))] (V6 (j:=13) rfl a ?_ ?_)<;>intro o a;refine Vo [] [] [.on .n,.on .n,.on .n] [(14,.func (.yield lid) #[] #[]),(15,A.i 14),(16,.slice A29_ f.2.2.2.2.2.2.2.2.2.2.2.2.2.2.1.length c30_)] (Vh (dj:=13) rfl rfl ?_);refine V7 577 [] a (o_a A29_ c30_ f.2.2.2.2.2.2.2.2.2.2.2.2.2.2.1) (.l 15 .nil (h1:=by kernel_rfl)) ?_;rintro ao - a _ _ ⟨cu,cw,rfl,rfl⟩;refine Vn (Vh (dj:=13) rfl rfl ?_);refine Uy 577 [] ?_;obtain⟨rs110,hqrs110,a⟩:=Uj a;refine Uk (t:=.pair A.ti (Z.Ty.slice T58)) (x:=(14,ao)) hY hJ81 (hqrs110▸hR82) [A.i 14,.slice cu ao.length cw] ⟨⟨rfl,(Vx 14)⟩,.inl ⟨577,rfl⟩⟩ (λap hJ112 hR113=>?_) (λap hX114=>?_);refine Vy [] [] [.on .n,.n] [(20,QB)] 1 ?_;refine Vv rfl ?_;refine V8 2 ?_;exact Ue (an+1,ap) QF [] [] ⟨_,rfl,rfl,hJ112,hR113,a⟩;refine Vy [] [] [.on .n,.n] [(20,QC)] 1 ?_;refine Vq rfl ?_;exact Uz hY hX114;refine Vy [] [] [.off,.off,.off,.off,.off,.off,.n] [(20,QB)] 1 ?_;refine Vv rfl ?_;refine V8 2 ?_;exact Ue (an,cr) QF [] [] ⟨_,rfl,rfl,hJ81,hR82,a⟩;rintro⟨aq,cx⟩ _ _ ⟨rs89,rfl,rfl,hJ87,hR88,a⟩;rw[F.bJ]at a;refine Vg 0 ?_;have⟨cy,a⟩:=Uc a;refine U0 2 [Z.R64 (14+1)] [(6,A.i 15)] cy (Va ?_);refine A.AE.unr ?_;refine Vl 1 1 [(7,QC)] 2 ?_;refine Vq rfl ?_;refine Uv 2 ?_;refine Uw (A.CY 22 Φ) [0,5,6] QF (λi h k=>∃(rs:List (Int×(List D58))),h=[]/\k=[]/\J i.1 i.2/\A.Rem xs i.1 rs/\F.bI=some rs) ?_ ?_;refine Ub 2 1 [(8,A.i 15)] ?_;refine A.AL.ixv (λv:Value=>v) (A.rak f A1_ c2_ A3_ c4_ A5_ c6_ A7_ c8_ A9_ c10_ A11_ c12_ A13_ c14_ A15_ c16_ A17_ c18_ A19_ c20_ A21_ c22_ A23_ c24_ A25_ c26_ A27_ c28_ A29_ c30_ A31_ c32_) (i:=15) (v:=.slice A31_ f.2.2.2.2.2.2.2.2.2.2.2.2.2.2.2.length c32_) rfl ?_ (hx:=by kernel_rfl);refine Vm 2 [(3,A.i 15),(4,.slice A31_ f.2.2.2.2.2.2.2.2.2.2.2.2.2.2.2.length c32_)] 2 ?_;refine Us 4 [(13,.bool (decide ((0:Int)<(f.2.2.2.2.2.2.2.2.2.2.2.2.2.2.2.length:Int))))] (V6 (j:=13) rfl a ?_ ?_)<;>intro o a;refine Vo [] [] [.on .n,.on .n,.on .n] [(14,.func (.yield lid) #[] #[]),(15,A.i 15),(16,.slice A31_ f.2.2.2.2.2.2.2.2.2.2.2.2.2.2.2.length c32_)] (Vh (dj:=13) rfl rfl ?_);refine V7 617 [] a (o_a A31_ c32_ f.2.2.2.2.2.2.2.2.2.2.2.2.2.2.2) (.l 16 .nil (h1:=by kernel_rfl)) ?_;rintro ar - a _ _ ⟨cz,d1,rfl,rfl⟩;refine Vn (Vh (dj:=13) rfl rfl ?_);refine Uy 617 [] ?_;obtain⟨rs101,hqrs101,a⟩:=Uj a;refine Uk (t:=.pair A.ti (Z.Ty.slice T58)) (x:=(15,ar)) hY hJ87 (hqrs101▸hR88) [A.i 15,.slice cz ar.length d1] ⟨⟨rfl,(Vx 15)⟩,.inl ⟨617,rfl⟩⟩ (λau hJ103 hR104=>?_) (λau hX105=>?_);refine Vy [] [] [.on .n,.n] [(20,QB)] 1 ?_;refine Vv rfl ?_;refine V8 2 ?_;exact Ue (aq+1,au) QF [] [] ⟨_,rfl,rfl,hJ103,hR104,a⟩;refine Vy [] [] [.on .n,.n] [(20,QC)] 1 ?_;refine Vq rfl ?_;exact Uz hY hX105;refine Vy [] [] [.off,.off,.off,.off,.off,.off,.n] [(20,QB)] 1 ?_;refine Vv rfl ?_;refine V8 2 ?_;exact Ue (aq,cx) QF [] [] ⟨_,rfl,rfl,hJ87,hR88,a⟩;rintro⟨d3,d4⟩ _ _ ⟨rs95,rfl,rfl,hJ93,hR94,a⟩;rw[F.bI]at a;refine Vg 0 ?_;have⟨d2,a⟩:=Uc a;refine U0 2 [Z.R64 (15+1)] [(6,A.i 16)] d2 (Va ?_);refine A.AE.unr ?_;refine Vl 1 1 [(7,QB)] 2 ?_;refine Vv rfl ?_;refine V8 1 ?_;obtain rfl:=V3 a;exact A.AE.rtY hY hJ93 hR94
def F.q (e:Int):List (Int×(List D58))->(List D42)->Option (List D42)
 | [],a=>some a
 |h::f,a=>if e<=(a.length:Int)then(some a)else(A.gd ((List.length (α:=D42) a+List.length (α:=D42) [h])*32<=140737488355328) ((F.q e f) (a++[h])))
def F.am (a:D70)(e:Int):Option (List D42):=(F.bS a).bind λf=>F.q e f []
theorem o_r(e:D70)(u:Int)(Q:A.h6 u)(r:(List D42))(h:F.am e u=some r):
    A.Ct Tryz.prog 14 [.func (.func 26) #[] #[.pointer (some ⟨g0_,0,none⟩)],A.i u] [(0,.el none g0_ 0 (A.rak e A1_ c2_ A3_ c4_ A5_ c6_ A7_ c8_ A9_ c10_ A11_ c12_ A13_ c14_ A15_ c16_ A17_ c18_ A19_ c20_ A21_ c22_ A23_ c24_ A25_ c26_ A27_ c28_ A29_ c30_ A31_ c32_)),(1,.sh (.slice T58) [.slice A1_ e.1.length c2_] e.1),(2,.sh (.slice T58) [.slice A3_ e.2.1.length c4_] e.2.1),(3,.sh (.slice T58) [.slice A5_ e.2.2.1.length c6_] e.2.2.1),(4,.sh (.slice T58) [.slice A7_ e.2.2.2.1.length c8_] e.2.2.2.1),(5,.sh (.slice T58) [.slice A9_ e.2.2.2.2.1.length c10_] e.2.2.2.2.1),(6,.sh (.slice T58) [.slice A11_ e.2.2.2.2.2.1.length c12_] e.2.2.2.2.2.1),(7,.sh (.slice T58) [.slice A13_ e.2.2.2.2.2.2.1.length c14_] e.2.2.2.2.2.2.1),(8,.sh (.slice T58) [.slice A15_ e.2.2.2.2.2.2.2.1.length c16_] e.2.2.2.2.2.2.2.1),(9,.sh (.slice T58) [.slice A17_ e.2.2.2.2.2.2.2.2.1.length c18_] e.2.2.2.2.2.2.2.2.1),(10,.sh (.slice T58) [.slice A19_ e.2.2.2.2.2.2.2.2.2.1.length c20_] e.2.2.2.2.2.2.2.2.2.1),(11,.sh (.slice T58) [.slice A21_ e.2.2.2.2.2.2.2.2.2.2.1.length c22_] e.2.2.2.2.2.2.2.2.2.2.1),(12,.sh (.slice T58) [.slice A23_ e.2.2.2.2.2.2.2.2.2.2.2.1.length c24_] e.2.2.2.2.2.2.2.2.2.2.2.1),(13,.sh (.slice T58) [.slice A25_ e.2.2.2.2.2.2.2.2.2.2.2.2.1.length c26_] e.2.2.2.2.2.2.2.2.2.2.2.2.1),(14,.sh (.slice T58) [.slice A27_ e.2.2.2.2.2.2.2.2.2.2.2.2.2.1.length c28_] e.2.2.2.2.2.2.2.2.2.2.2.2.2.1),(15,.sh (.slice T58) [.slice A29_ e.2.2.2.2.2.2.2.2.2.2.2.2.2.2.1.length c30_] e.2.2.2.2.2.2.2.2.2.2.2.2.2.2.1),(16,.sh (.slice T58) [.slice A31_ e.2.2.2.2.2.2.2.2.2.2.2.2.2.2.2.length c32_] e.2.2.2.2.2.2.2.2.2.2.2.2.2.2.2)] [] (λv H'=>∃(A0':QK) (c1':Nat),v=.slice A0' r.length c1'/\H'=[(0,.own T42 43 A0' c1' r)]):=by
 refine A.Ct.enterM Tryz.func14 rfl Tryz.ntmps14 rfl λU W=>?_;rw[F.am]at h;refine Vg 1 ?_;refine Vj 17 (cs:=[A.i u]) λJ=>?_;refine Vm 1 [] 2 ?_;refine Vf 18 (cs:=[QA]) Tryz.zeroValue29 λy=>?_;refine Un 3 ?_;refine Us 1 [(8,.func (.func 26) #[] #[.pointer (some ⟨g0_,0,none⟩)])] (Uu rfl (λa w hf hh=>Z.r_eqfn rfl (hf.eval rfl)) ?_);refine Kf 1 ?_;refine Vv rfl ?_;refine Vl 4 1 [(10,.func (.func 26) #[] #[.pointer (some ⟨g0_,0,none⟩)])] 2 ?_;refine U1 25 T42 43 ?_;have⟨H,L,h⟩:=Ur h;refine A.AX.rgf 26 27 28 [0,1,2,3,4,5,6,7,8,9,10,11,12,13,14,15,16,17] [18,25,0,1,2,3,4,5,6,7,8,9,10,11,12,13,14,15,16,17] [27,26,18,25,0,1,2,3,4,5,6,7,8,9,10,11,12,13,14,15,16,17] (λk N=>∃(f:List D42)(l:QK)(p:Nat),N=[(18,.blk y 29 [.slice l f.length p]),(25,.own T42 43 l p f)]/\F.q u (List.drop k H) f=some r) [(18,.blk y 29 [QA]),(25,.own T42 43 none 0 [])] cf26 (o_aQ A1_ A3_ A5_ A7_ A9_ A11_ A13_ A15_ A17_ A19_ A21_ A23_ A25_ A27_ A29_ A31_ g0_ c2_ c4_ c6_ c8_ c10_ c12_ c14_ c16_ c18_ c20_ c22_ c24_ c26_ c28_ c30_ c32_ e H L) (λ_=>rfl) ⟨[],none,0,rfl,h⟩ ?_ ?_ ?_;rintro P _ D19 L20 ⟨f,l,p,rfl,h⟩;exact⟨⟨_,(.s 0 (.s 1 (.s 2 (.s 3 (.s 4 (.s 5 (.s 6 (.s 7 (.s 8 (.s 9 (.s 10 (.s 11 (.s 12 (.s 13 (.s 14 (.s 15 (.s 16 .nil)))))))))))))))))⟩,rfl,λo=>rfl⟩;rintro P _ t D19 L20 Y a0 ⟨f,l,p,rfl,h⟩ hx29 hxo30 I;intro z B;rw[A.drop_at hx29,F.q]at h;refine Vg 1 ?_;refine Vm 1 [(6,A.i t.1)] 1 ?_;refine Us 1 [(7,.slice z t.2.length B)] (Va ?_);refine A.AE.flip 26 27 λa2=>?_;refine Ut 3 [18,17] [] [.b 0 0,.n,.b 1 0,.n] [(16,.bool (decide (u<=(f.length:Int))))] 1 ?_;refine Kh h ?_ ?_<;>intro hb h;refine A.AX.bexit I [27,1,2,3,4,5,6,7,8,9,10,11,12,13,14,15,16,17,18,25,28,26] 100000 [(27,100027),(1,100001),(2,100002),(3,100003),(4,100004),(5,100005),(6,100006),(7,100007),(8,100008),(9,100009),(10,100010),(11,100011),(12,100012),(13,100013),(14,100014),(15,100015),(16,100016),(17,100017),(18,100018),(25,100025),(28,100028),(26,100026),(0,0)] [(1,.sh (.slice T58) [.slice A1_ e.1.length c2_] e.1),(2,.sh (.slice T58) [.slice A3_ e.2.1.length c4_] e.2.1),(3,.sh (.slice T58) [.slice A5_ e.2.2.1.length c6_] e.2.2.1),(4,.sh (.slice T58) [.slice A7_ e.2.2.2.1.length c8_] e.2.2.2.1),(5,.sh (.slice T58) [.slice A9_ e.2.2.2.2.1.length c10_] e.2.2.2.2.1),(6,.sh (.slice T58) [.slice A11_ e.2.2.2.2.2.1.length c12_] e.2.2.2.2.2.1),(7,.sh (.slice T58) [.slice A13_ e.2.2.2.2.2.2.1.length c14_] e.2.2.2.2.2.2.1),(8,.sh (.slice T58) [.slice A15_ e.2.2.2.2.2.2.2.1.length c16_] e.2.2.2.2.2.2.2.1),(9,.sh (.slice T58) [.slice A17_ e.2.2.2.2.2.2.2.2.1.length c18_] e.2.2.2.2.2.2.2.2.1),(10,.sh (.slice T58) [.slice A19_ e.2.2.2.2.2.2.2.2.2.1.length c20_] e.2.2.2.2.2.2.2.2.2.1),(11,.sh (.slice T58) [.slice A21_ e.2.2.2.2.2.2.2.2.2.2.1.length c22_] e.2.2.2.2.2.2.2.2.2.2.1),(12,.sh (.slice T58) [.slice A23_ e.2.2.2.2.2.2.2.2.2.2.2.1.length c24_] e.2.2.2.2.2.2.2.2.2.2.2.1),(13,.sh (.slice T58) [.slice A25_ e.2.2.2.2.2.2.2.2.2.2.2.2.1.length c26_] e.2.2.2.2.2.2.2.2.2.2.2.2.1),(14,.sh (.slice T58) [.slice A27_ e.2.2.2.2.2.2.2.2.2.2.2.2.2.1.length c28_] e.2.2.2.2.2.2.2.2.2.2.2.2.2.1),(15,.sh (.slice T58) [.slice A29_ e.2.2.2.2.2.2.2.2.2.2.2.2.2.2.1.length c30_] e.2.2.2.2.2.2.2.2.2.2.2.2.2.2.1),(16,.sh (.slice T58) [.slice A31_ e.2.2.2.2.2.2.2.2.2.2.2.2.2.2.2.length c32_] e.2.2.2.2.2.2.2.2.2.2.2.2.2.2.2),(17,.blk J 3 [A.i u]),(18,.blk y 29 [.slice l f.length p]),(25,.own T42 43 l p f),(28,.sh (.slice T58) [.slice z t.2.length B] t.2),(26,.ob D19 A.dfT),(0,.el none g0_ 0 (A.rak e A1_ c2_ A3_ c4_ A5_ c6_ A7_ c8_ A9_ c10_ A11_ c12_ A13_ c14_ A15_ c16_ A17_ c18_ A19_ c20_ A21_ c22_ A23_ c24_ A25_ c26_ A27_ c28_ A29_ c30_ A31_ c32_))] ?_ rfl rfl;refine A.AE.x rfl ?_;refine A.el 2 ?_;refine Vy [18] [] [.b 0 0,.n] [(4,.slice l f.length p)] 1 ?_;obtain rfl:=V3 h;exact Kp (Ds:=[D19]) [26] [(0,25)] (.slice l f.length p) (⟨rfl,trivial⟩) (λa w hf hh=>Kj rfl (Um hf rfl)) (⟨l,p,rfl,rfl⟩);refine Uq 2 [18] [] [.b 0 0,.n,.n,.n] [(17,.slice l f.length p),(20,.agg #[A.i t.1,.slice z t.2.length B])] ?_;refine V5 31 (ty:=T42) (cs:=[A.i t.1,.slice z t.2.length B]) [t] ⟨⟨⟨rfl,hxo30.1⟩,.inl ⟨28,rfl⟩⟩,rfl⟩ (λa3=>?_) Tryz.zeroValue43 Tryz.sizeOf43;have⟨hl37,h⟩:=Uc h;refine Uf (k:=25) [] (U5 (k:=31) rfl) inf43 hl37 λC E=>?_;refine Uh 18 [] [.slice C ((f++[t]).length) E] ?_;refine Kg 1 ?_;exact A.AE.bn I [27,26,18,25,1,2,3,4,5,6,7,8,9,10,11,12,13,14,15,16,17] 100000 [(27,100027),(26,100026),(18,100018),(25,100025),(0,0),(1,100001),(2,100002),(3,100003),(4,100004),(5,100005),(6,100006),(7,100007),(8,100008),(9,100009),(10,100010),(11,100011),(12,100012),(13,100013),(14,100014),(15,100015),(16,100016),(17,100017)] [(18,.blk y 29 [.slice C ((f++[t]).length) E]),(25,.own T42 43 C E (f++[t]))] ⟨(f++[t]),C,E,rfl,h⟩ rfl rfl;rintro _ D19 L20 ⟨f,l,p,rfl,h⟩;rw[Jn,F.q]at h;refine A.el 3 ?_;refine Vy [18] [] [.b 0 0,.n] [(4,.slice l f.length p)] 1 ?_;obtain rfl:=V3 h;exact Kp (Ds:=[D19]) [26] [(0,25)] (.slice l f.length p) (⟨rfl,trivial⟩) (λa w hf hh=>Kj rfl (Um hf rfl)) (⟨l,p,rfl,rfl⟩)
def F.aU (a:Bool):Option Bool:=some a
def F.aD (k:D23)(l:Int)(h:Int)(a:(List D58))(e:UInt8)(o:Bool):Option Bool:=if o=true then((F.eh).bind λp=>(some p))else((F.dY h a).bind λf=>((F.ae l h a).bind λr=>((F.ea l h a).bind λs=>((F.du r s).bind λt=>(if t=true then((F.b7 h a).bind λu=>((F.am u 99).bind λw=>((F.dR w f).bind λx=>(if x=true then(A.gd (Z.R64 ((e.toNat:Int))/\Z.R64 ((e.toNat:Int))) (A.gd (0<=min (f.length:Int) (e.toNat:Int)/\(min (f.length:Int) (e.toNat:Int)).toNat<=f.length) ((F.b7 h a).bind λy=>((F.am y (e.toNat:Int)).bind λz=>((F.dR z (List.take ((min (f.length:Int) (e.toNat:Int)).toNat) f)).bind λB=>(if B=true then((F.d2 k a).bind λC=>((F.eg k a).bind λE=>((F.du C E).bind λH=>(F.aU H))))else(F.aU false)))))))else(F.aU false)))))else(F.aU false))))))
def F.cK (a:D23)(f:Int)(h:Int)(e:(List D58))(k:UInt8):Option Bool:=(F.eh).bind λl=>(if(!l)=true then(F.aD a f h e k true)else((F.el a).bind λo=>(if(!o)=true then(F.aD a f h e k true)else((F.dX [] e).bind λp=>(F.aD a f h e k (!p))))))
theorem o_a2(p:D23)(B:Int)(u:Int)(k:(List D58))(x:UInt8)(cb:A.h6 B)(E:A.h6 u)(r:Bool)(e:F.cK p B u k x=some r):
    A.Ct Tryz.prog 3 [.agg #[.slice A0_ p.length c1_],A.i B,A.i u,.slice A4_ k.length c5_,.int .u8 (x.toNat:Int)] [(0,.sh (.slice T48) [.slice A0_ p.length c1_] p),(1,.sh (.slice T58) [.slice A4_ k.length c5_] k),(2,.el none 0 0 A.tabF),(3,.el none 1 0 A.tabA)] [] (λv H'=>v=.bool r/\H'=[]):=by
 refine Vb Tryz.func3 rfl Tryz.ntmps3 rfl λw0 F0=>?_;rw[F.cK]at e;refine Vg 1 ?_;refine Vj 4 (cs:=[.slice A0_ p.length c1_]) λC=>?_;refine Vu 1 [] 2 ?_;refine Vc [1,2,3,4,5] [0,1,2,3,4] (λnl nh=>∃(y2:Bool),nl=[(24,.bool y2)]/\nh=[]/\F.aD p B u k x y2=some r) ?_ ?_;refine Vg 0 ?_;refine V7 5 [] e o_aJ .nil ?_;rintro cj - e _ _ ⟨rfl,rfl⟩;refine Vn (Us 2 [(14,.bool (!cj))] (Ug (j:=14) rfl e (λe=>?_) (λe=>?_)));refine Vo [] [] [.off,.off,.off,.off,.n,.n,.off,.off,.off,.n] [(24,QC)] (Va ?_);exact Vw ⟨true,rfl,rfl,e⟩;refine Vo [4] [] [.on .n,.on (.b 0 0)] [(16,.slice A0_ p.length c1_)] (Vh (dj:=14) rfl rfl ?_);refine V7 45 [] e (o_cK A0_ c1_ p) (.s 0 .nil) ?_;rintro cm - e _ _ ⟨rfl,rfl⟩;refine Vn (Vo [] [] [.on .n,.n,.n] [(20,.bool (!cm))] (Ug (j:=20) rfl e (λe=>?_) (λe=>?_)));refine Vo [] [] [.off,.off,.off,.n] [(24,QC)] (Va ?_);exact Vw ⟨true,rfl,rfl,e⟩;refine Vo [] [] [.on .n] [(21,.slice A4_ k.length c5_)] (Vh (dj:=20) rfl rfl ?_);refine V7 85 [] e (o_bY none A4_ 0 c5_ [] k) (.ns (.s 1 .nil)) ?_;rintro cc - e _ _ ⟨rfl,rfl⟩;refine Vn (Vo [] [] [.on .n,.n] [(24,.bool (!cc))] (Va ?_));exact Vw ⟨(!cc),rfl,rfl,e⟩;rintro _ _ ⟨y2,rfl,rfl,e⟩;rw[F.aD]at e;refine U6 e ?_ ?_<;>intro hb e;refine Vg 1 ?_;refine V7 125 [] e o_aJ .nil ?_;rintro r3 - e _ _ ⟨rfl,rfl⟩;refine Vn (Vu 1 [(10,.bool r3)] 1 ?_);exact A.ke e (Vs ⟨rfl,rfl⟩);refine Ub 3 2 [(26,A.i u),(27,.slice A4_ k.length c5_)] ?_;refine V7 165 [] e (o_bZ A4_ c5_ u k E) (.l 1 .nil) ?_;rintro t - e _ _ ⟨y,z,rfl,rfl⟩;refine Vn (Vu 1 [(11,.slice y t.length z)] 1 ?_);refine Vc [] [2,3] (λnl nh=>∃(y9:Bool),nl=[(10,.bool y9)]/\nh=[]/\F.aU y9=some r) ?_ ?_;refine Uy 165 [] ?_;refine A.AX.drF mixed 43 43 [0,0,0,7,0,0,0,120,136,256,512,512,3584,4608,512,25088,33280,98304,131072,131072,917504,131072,2228224,5373952,131072,131072,33685504,131072,134348800,335675392,553779200,1082261504,2147614720,6442450944,8589934592,8589934592,60129542144,8589934592,8589934592,489626271744,627065225216,1108101562368,4398046511103] [0,0,0,7,0,0,0,112,136,256,512,512,3584,4608,512,25088,33280,65536,131072,131072,917504,131072,2228224,5373952,131072,131072,33685504,131072,134348800,335675392,553779200,1082261504,2147614720,4294967296,8589934592,8589934592,60129542144,8589934592,8589934592,420906795008,627065225216,1108101562368,2199023255552] λhT10=>?_;refine A.AH.qF hT10 Ve [] [0,1,2,3,4,165] [] [] 0 119 37 [(0,.n),(1,.n),(2,.n),(4,.n),(5,.n),(6,.n)] [29,30,31,33,34,35] [] [(29,A.i B),(30,A.i u),(31,.slice A4_ k.length c5_),(33,A.i B),(34,A.i u),(35,.slice A4_ k.length c5_)] trivial ?_;refine A.AH.oneF hT10 3 ?_;refine V7 205 [] e (o_c A4_ c5_ B u k cb E) (.s 1 .nil) ?_;rintro au - e _ _ ⟨av,aw,rfl,rfl⟩;refine Vn (A.AH.nxF 127 [0,1,2,3,4,165] ?_);refine A.AH.oneF hT10 7 ?_;refine V7 245 [] e (o_bb A4_ c5_ B u k cb E) (.l 1 .nil) ?_;rintro ax - e _ _ ⟨ay,az,rfl,rfl⟩;refine Vn (A.AH.nxF 255 [0,1,2,3,4,165] ?_);refine A.AH.oneF hT10 8 ?_;refine V7 285 [] e (o_ao av ay aw az au ax) (.o 205 (.o 245 .nil)) ?_;rintro cn - e _ _ ⟨rfl,rfl⟩;refine Vn (A.AH.nxF 511 [0,1,2,3,4,165] ?_);refine A.AH.qF hT10 Ve [0,1,2,3,4,165] [0,1,2,3,4,165,205,245] [] [] 511 1023 33 [(9,.n)] [38] [] [(38,.bool cn)] trivial ?_;refine Kk (j:=38) rfl e (λe=>?_) (λe=>?_);refine A.AH.cov [0,1,2,3,4,165,205,245] [(0,.sh (.slice T48) [.slice A0_ p.length c1_] p),(1,.sh (.slice T58) [.slice A4_ k.length c5_] k),(2,.el none 0 0 A.tabF),(3,.el none 1 0 A.tabA),(4,.blk C 24 [.slice A0_ p.length c1_]),(165,.sh (.slice T42) [.slice y t.length z] t),(205,.own T58 59 av aw au),(245,.own T58 59 ay az ax)] ?_;refine A.AH.cvl [(2,A.i u),(3,.slice A4_ k.length c5_),(4,.int .u8 (x.toNat:Int)),(5,.pointer (some ⟨C,0,none⟩)),(11,.slice y t.length z),(38,QC)] ?_;refine A.AH.qF hT10 Ve [0,1,2,3,4,165,205,245] [0,1,2,3,4,165,205,245] [] [] 1023 20479 30 [(10,.on .n),(11,.on .n),(14,.on .n)] [39,40,43] [] [(39,A.i u),(40,.slice A4_ k.length c5_),(43,.slice y t.length z)] trivial ?_;refine A.AH.oneF hT10 12 ?_;refine Vh (dj:=38) rfl rfl ?_;refine V7 325 [] e (o_aB A4_ c5_ u k E) (.s 1 .nil) ?_;rintro f - e _ _ ⟨b1,H,I,J,L,N,P,Q,U,W,Y,a5,a6,a7,a8,a9,aa,ab,ac,ad,ae,af,ag,ah,aj,ak,al,am,an,ao,ap,aq,ar,rfl,rfl⟩;refine Vn (A.AH.nxF 24575 [0,1,2,3,4,165,205,245] ?_);refine A.AH.oneF hT10 13 ?_;refine Vh (dj:=38) rfl rfl ?_;have⟨b0,co,e⟩:=Ur e;refine A.AL.call 365 [] (first:=[]) (cap:=[]) cf14 (o_r H J N Q W a5 a7 a9 ab ad af ah ak am ao aq b1 I L P U Y a6 a8 aa ac ae ag aj al an ap ar f 99 (Vx 99) b0 co) (.b 325 (.s 326 (.s 327 (.s 328 (.s 329 (.s 330 (.s 331 (.s 332 (.s 333 (.s 334 (.s 335 (.s 336 (.s 337 (.s 338 (.s 339 (.s 340 (.s 341 .nil))))))))))))))))) ?_;rintro _ _ ⟨b2,b3,rfl,rfl⟩;refine Vn (A.AH.nxF 32767 [0,1,2,3,4,165,205,245] ?_);refine A.AH.oneF hT10 15 ?_;refine Vh (dj:=38) rfl rfl ?_;refine V7 405 [] e (o_aW b2 y b3 z b0 t) (.o 365 (.l 165 .nil)) ?_;rintro cp - e _ _ ⟨rfl,rfl⟩;refine Vn (A.AH.nxF 65535 [0,1,2,3,4,165,205,245] ?_);refine A.AH.qF hT10 Ve [0,1,2,3,4,165,205,245] [0,1,2,3,4,165,205,245,325,326,327,328,329,330,331,332,333,334,335,336,337,338,339,340,341,365] [] [] 65535 262143 25 [(16,.n),(17,.n)] [46] [] [(46,.bool cp)] trivial ?_;refine Kk (j:=46) rfl e (λe=>?_) (λe=>?_);refine A.AH.cov [0,1,2,3,4,165,205,245,325,326,327,328,329,330,331,332,333,334,335,336,337,338,339,340,341,365] [(0,.sh (.slice T48) [.slice A0_ p.length c1_] p),(1,.sh (.slice T58) [.slice A4_ k.length c5_] k),(2,.el none 0 0 A.tabF),(3,.el none 1 0 A.tabA),(4,.blk C 24 [.slice A0_ p.length c1_]),(165,.sh (.slice T42) [.slice y t.length z] t),(205,.own T58 59 av aw au),(245,.own T58 59 ay az ax),(325,.blk b1 70 (A.rak f H I J L N P Q U W Y a5 a6 a7 a8 a9 aa ab ac ad ae af ag ah aj ak al am an ao ap aq ar)),(326,.sh (.slice T58) [.slice H f.1.length I] f.1),(327,.sh (.slice T58) [.slice J f.2.1.length L] f.2.1),(328,.sh (.slice T58) [.slice N f.2.2.1.length P] f.2.2.1),(329,.sh (.slice T58) [.slice Q f.2.2.2.1.length U] f.2.2.2.1),(330,.sh (.slice T58) [.slice W f.2.2.2.2.1.length Y] f.2.2.2.2.1),(331,.sh (.slice T58) [.slice a5 f.2.2.2.2.2.1.length a6] f.2.2.2.2.2.1),(332,.sh (.slice T58) [.slice a7 f.2.2.2.2.2.2.1.length a8] f.2.2.2.2.2.2.1),(333,.sh (.slice T58) [.slice a9 f.2.2.2.2.2.2.2.1.length aa] f.2.2.2.2.2.2.2.1),(334,.sh (.slice T58) [.slice ab f.2.2.2.2.2.2.2.2.1.length ac] f.2.2.2.2.2.2.2.2.1),(335,.sh (.slice T58) [.slice ad f.2.2.2.2.2.2.2.2.2.1.length ae] f.2.2.2.2.2.2.2.2.2.1),(336,.sh (.slice T58) [.slice af f.2.2.2.2.2.2.2.2.2.2.1.length ag] f.2.2.2.2.2.2.2.2.2.2.1),(337,.sh (.slice T58) [.slice ah f.2.2.2.2.2.2.2.2.2.2.2.1.length aj] f.2.2.2.2.2.2.2.2.2.2.2.1),(338,.sh (.slice T58) [.slice ak f.2.2.2.2.2.2.2.2.2.2.2.2.1.length al] f.2.2.2.2.2.2.2.2.2.2.2.2.1),(339,.sh (.slice T58) [.slice am f.2.2.2.2.2.2.2.2.2.2.2.2.2.1.length an] f.2.2.2.2.2.2.2.2.2.2.2.2.2.1),(340,.sh (.slice T58) [.slice ao f.2.2.2.2.2.2.2.2.2.2.2.2.2.2.1.length ap] f.2.2.2.2.2.2.2.2.2.2.2.2.2.2.1),(341,.sh (.slice T58) [.slice aq f.2.2.2.2.2.2.2.2.2.2.2.2.2.2.2.length ar] f.2.2.2.2.2.2.2.2.2.2.2.2.2.2.2),(365,.own T42 43 b2 b3 b0)] ?_;refine A.AH.cvl [(2,A.i u),(3,.slice A4_ k.length c5_),(4,.int .u8 (x.toNat:Int)),(5,.pointer (some ⟨C,0,none⟩)),(11,.slice y t.length z),(46,QC)] ?_;have⟨cd,e⟩:=Uc e;refine A.AH.qF hT10 Ve [0,1,2,3,4,165,205,245,325,326,327,328,329,330,331,332,333,334,335,336,337,338,339,340,341,365] [0,1,2,3,4,165,205,245,325,326,327,328,329,330,331,332,333,334,335,336,337,338,339,340,341,365] [] [] 262143 1064304639 15 [(18,.on .n),(19,.on .n),(21,.on .n),(24,.on .n),(25,.on .n),(27,.on .n),(22,.on .n),(26,.on .n),(28,.on .n),(29,.on .n)] [47,48,53,51,58] [Z.R64 ((x.toNat:Int)),Z.R64 ((x.toNat:Int))] [(47,A.i u),(48,.slice A4_ k.length c5_),(53,.slice y t.length z),(51,A.i (x.toNat:Int)),(58,A.i (min (t.length:Int) (x.toNat:Int)))] cd ?_;have⟨b4,e⟩:=Uc e;refine A.cutp 165 445 ((min (t.length:Int) (x.toNat:Int)).toNat) b4.2 ?_;refine U7 Ve [0,1,2,3,4,165,205,245,325,326,327,328,329,330,331,332,333,334,335,336,337,338,339,340,341,365] [0,1,2,3,4,165,205,245,325,326,327,328,329,330,331,332,333,334,335,336,337,338,339,340,341,365,445] 30 (A.mb 43 2138046463) (dj:=46) rfl (λa w hf hh=>A.r_cuth (v:=(min (t.length:Int) (x.toNat:Int)).toNat) 165 hf hh (Xy b4.1).symm b4.2) ?_;refine A.AH.oneF hT10 20 ?_;refine Vh (dj:=46) rfl rfl ?_;refine V7 446 [] e (o_aB A4_ c5_ u k E) (.s 1 .nil) ?_;rintro h - e _ _ ⟨cf,b5,b6,b7,b9,bb,bc,be,bf,bg,bh,bi,bj,bk,bm,bp,bq,br,bs,bt,bu,bw,bx,bz,c0,c1,c2,c3,c4,c5,c6,c7,c9,rfl,rfl⟩;refine Vn (A.AH.nxF 2139095039 [0,1,2,3,4,165,205,245,325,326,327,328,329,330,331,332,333,334,335,336,337,338,339,340,341,365,445] ?_);refine A.AH.oneF hT10 23 ?_;refine Vh (dj:=46) rfl rfl ?_;have⟨ca,cq,e⟩:=Ur e;refine A.AL.call 486 [] (first:=[]) (cap:=[]) cf14 (o_r b5 b7 bb be bg bi bk bp br bt bw bz c1 c3 c5 c7 cf b6 b9 bc bf bh bj bm bq bs bu bx c0 c2 c4 c6 c9 h (x.toNat:Int) (Vd cd.1) ca cq) (.b 446 (.s 447 (.s 448 (.s 449 (.s 450 (.s 451 (.s 452 (.s 453 (.s 454 (.s 455 (.s 456 (.s 457 (.s 458 (.s 459 (.s 460 (.s 461 (.s 462 .nil))))))))))))))))) ?_;rintro _ _ ⟨cg,ch,rfl,rfl⟩;refine Vn (A.AH.nxF 2147483647 [0,1,2,3,4,165,205,245,325,326,327,328,329,330,331,332,333,334,335,336,337,338,339,340,341,365,445] ?_);refine A.AH.oneF hT10 31 ?_;refine Vh (dj:=46) rfl rfl ?_;refine V7 526 [] e (o_aW cg y ch z ca (List.take ((min (t.length:Int) (x.toNat:Int)).toNat) t)) (.o 486 (.l 445 .nil)) ?_;rintro cr - e _ _ ⟨rfl,rfl⟩;refine Vn (A.AH.nxF 4294967295 [0,1,2,3,4,165,205,245,325,326,327,328,329,330,331,332,333,334,335,336,337,338,339,340,341,365,445] ?_);refine A.AH.qF hT10 Ve [0,1,2,3,4,165,205,245,325,326,327,328,329,330,331,332,333,334,335,336,337,338,339,340,341,365,445] [0,1,2,3,4,165,205,245,325,326,327,328,329,330,331,332,333,334,335,336,337,338,339,340,341,365,445,446,447,448,449,450,451,452,453,454,455,456,457,458,459,460,461,462,486] [] [] 4294967295 17179869183 9 [(32,.n),(33,.n)] [62] [] [(62,.bool cr)] trivial ?_;refine Kk (j:=62) rfl e (λe=>?_) (λe=>?_);refine A.AH.cov [0,1,2,3,4,165,205,245,325,326,327,328,329,330,331,332,333,334,335,336,337,338,339,340,341,365,445,446,447,448,449,450,451,452,453,454,455,456,457,458,459,460,461,462,486] [(0,.sh (.slice T48) [.slice A0_ p.length c1_] p),(1,.sh (.slice T58) [.slice A4_ k.length c5_] k),(2,.el none 0 0 A.tabF),(3,.el none 1 0 A.tabA),(4,.blk C 24 [.slice A0_ p.length c1_]),(165,.sh (.slice T42) [.slice y t.length z] t),(205,.own T58 59 av aw au),(245,.own T58 59 ay az ax),(325,.blk b1 70 (A.rak f H I J L N P Q U W Y a5 a6 a7 a8 a9 aa ab ac ad ae af ag ah aj ak al am an ao ap aq ar)),(326,.sh (.slice T58) [.slice H f.1.length I] f.1),(327,.sh (.slice T58) [.slice J f.2.1.length L] f.2.1),(328,.sh (.slice T58) [.slice N f.2.2.1.length P] f.2.2.1),(329,.sh (.slice T58) [.slice Q f.2.2.2.1.length U] f.2.2.2.1),(330,.sh (.slice T58) [.slice W f.2.2.2.2.1.length Y] f.2.2.2.2.1),(331,.sh (.slice T58) [.slice a5 f.2.2.2.2.2.1.length a6] f.2.2.2.2.2.1),(332,.sh (.slice T58) [.slice a7 f.2.2.2.2.2.2.1.length a8] f.2.2.2.2.2.2.1),(333,.sh (.slice T58) [.slice a9 f.2.2.2.2.2.2.2.1.length aa] f.2.2.2.2.2.2.2.1),(334,.sh (.slice T58) [.slice ab f.2.2.2.2.2.2.2.2.1.length ac] f.2.2.2.2.2.2.2.2.1),(335,.sh (.slice T58) [.slice ad f.2.2.2.2.2.2.2.2.2.1.length ae] f.2.2.2.2.2.2.2.2.2.1),(336,.sh (.slice T58) [.slice af f.2.2.2.2.2.2.2.2.2.2.1.length ag] f.2.2.2.2.2.2.2.2.2.2.1),(337,.sh (.slice T58) [.slice ah f.2.2.2.2.2.2.2.2.2.2.2.1.length aj] f.2.2.2.2.2.2.2.2.2.2.2.1),(338,.sh (.slice T58) [.slice ak f.2.2.2.2.2.2.2.2.2.2.2.2.1.length al] f.2.2.2.2.2.2.2.2.2.2.2.2.1),(339,.sh (.slice T58) [.slice am f.2.2.2.2.2.2.2.2.2.2.2.2.2.1.length an] f.2.2.2.2.2.2.2.2.2.2.2.2.2.1),(340,.sh (.slice T58) [.slice ao f.2.2.2.2.2.2.2.2.2.2.2.2.2.2.1.length ap] f.2.2.2.2.2.2.2.2.2.2.2.2.2.2.1),(341,.sh (.slice T58) [.slice aq f.2.2.2.2.2.2.2.2.2.2.2.2.2.2.2.length ar] f.2.2.2.2.2.2.2.2.2.2.2.2.2.2.2),(365,.own T42 43 b2 b3 b0),(445,.sh (.slice T42) [.slice y (List.take ((min (t.length:Int) (x.toNat:Int)).toNat) t).length z] (List.take ((min (t.length:Int) (x.toNat:Int)).toNat) t)),(446,.blk cf 70 (A.rak h b5 b6 b7 b9 bb bc be bf bg bh bi bj bk bm bp bq br bs bt bu bw bx bz c0 c1 c2 c3 c4 c5 c6 c7 c9)),(447,.sh (.slice T58) [.slice b5 h.1.length b6] h.1),(448,.sh (.slice T58) [.slice b7 h.2.1.length b9] h.2.1),(449,.sh (.slice T58) [.slice bb h.2.2.1.length bc] h.2.2.1),(450,.sh (.slice T58) [.slice be h.2.2.2.1.length bf] h.2.2.2.1),(451,.sh (.slice T58) [.slice bg h.2.2.2.2.1.length bh] h.2.2.2.2.1),(452,.sh (.slice T58) [.slice bi h.2.2.2.2.2.1.length bj] h.2.2.2.2.2.1),(453,.sh (.slice T58) [.slice bk h.2.2.2.2.2.2.1.length bm] h.2.2.2.2.2.2.1),(454,.sh (.slice T58) [.slice bp h.2.2.2.2.2.2.2.1.length bq] h.2.2.2.2.2.2.2.1),(455,.sh (.slice T58) [.slice br h.2.2.2.2.2.2.2.2.1.length bs] h.2.2.2.2.2.2.2.2.1),(456,.sh (.slice T58) [.slice bt h.2.2.2.2.2.2.2.2.2.1.length bu] h.2.2.2.2.2.2.2.2.2.1),(457,.sh (.slice T58) [.slice bw h.2.2.2.2.2.2.2.2.2.2.1.length bx] h.2.2.2.2.2.2.2.2.2.2.1),(458,.sh (.slice T58) [.slice bz h.2.2.2.2.2.2.2.2.2.2.2.1.length c0] h.2.2.2.2.2.2.2.2.2.2.2.1),(459,.sh (.slice T58) [.slice c1 h.2.2.2.2.2.2.2.2.2.2.2.2.1.length c2] h.2.2.2.2.2.2.2.2.2.2.2.2.1),(460,.sh (.slice T58) [.slice c3 h.2.2.2.2.2.2.2.2.2.2.2.2.2.1.length c4] h.2.2.2.2.2.2.2.2.2.2.2.2.2.1),(461,.sh (.slice T58) [.slice c5 h.2.2.2.2.2.2.2.2.2.2.2.2.2.2.1.length c6] h.2.2.2.2.2.2.2.2.2.2.2.2.2.2.1),(462,.sh (.slice T58) [.slice c7 h.2.2.2.2.2.2.2.2.2.2.2.2.2.2.2.length c9] h.2.2.2.2.2.2.2.2.2.2.2.2.2.2.2),(486,.own T42 43 cg ch ca)] ?_;refine A.AH.cvl [(3,.slice A4_ k.length c5_),(5,.pointer (some ⟨C,0,none⟩)),(62,QC)] ?_;refine A.AH.qF hT10 Ve [0,1,2,3,4,165,205,245,325,326,327,328,329,330,331,332,333,334,335,336,337,338,339,340,341,365,445,446,447,448,449,450,451,452,453,454,455,456,457,458,459,460,461,462,486] [0,1,2,3,4,165,205,245,325,326,327,328,329,330,331,332,333,334,335,336,337,338,339,340,341,365,445,446,447,448,449,450,451,452,453,454,455,456,457,458,459,460,461,462,486] [4] [] 17179869183 481036337151 5 [(34,.on (.b 0 0)),(35,.on .n),(37,.on (.b 0 0)),(38,.on .n)] [63,64,66,67] [] [(63,.agg #[.slice A0_ p.length c1_]),(64,.slice A4_ k.length c5_),(66,.agg #[.slice A0_ p.length c1_]),(67,.slice A4_ k.length c5_)] trivial ?_;refine A.AH.oneF hT10 36 ?_;refine Vh (dj:=62) rfl rfl ?_;refine V7 566 [] e (o_b5 A0_ A4_ c1_ c5_ p k) (.s 0 (.l 1 (.s 2 (.s 3 .nil)))) ?_;rintro ct - e _ _ ⟨cu,cw,rfl,rfl⟩;refine Vn (A.AH.nxF 549755813887 [0,1,2,3,4,165,205,245,325,326,327,328,329,330,331,332,333,334,335,336,337,338,339,340,341,365,445,446,447,448,449,450,451,452,453,454,455,456,457,458,459,460,461,462,486] ?_);refine A.AH.oneF hT10 39 ?_;refine Vh (dj:=62) rfl rfl ?_;refine V7 606 [] e (o_cx A0_ A4_ c1_ c5_ p k) (.s 0 (.l 1 .nil)) ?_;rintro cx - e _ _ ⟨cy,cz,rfl,rfl⟩;refine Vn (A.AH.nxF 1099511627775 [0,1,2,3,4,165,205,245,325,326,327,328,329,330,331,332,333,334,335,336,337,338,339,340,341,365,445,446,447,448,449,450,451,452,453,454,455,456,457,458,459,460,461,462,486] ?_);refine A.AH.oneF hT10 40 ?_;refine Vh (dj:=62) rfl rfl ?_;refine V7 646 [] e (o_ao cu cy cw cz ct cx) (.o 566 (.l 606 .nil)) ?_;rintro ci - e _ _ ⟨rfl,rfl⟩;refine Vn (A.AH.nxF 2199023255551 [0,1,2,3,4,165,205,245,325,326,327,328,329,330,331,332,333,334,335,336,337,338,339,340,341,365,445,446,447,448,449,450,451,452,453,454,455,456,457,458,459,460,461,462,486] ?_);refine A.AH.qF hT10 Ve [0,1,2,3,4,165,205,245,325,326,327,328,329,330,331,332,333,334,335,336,337,338,339,340,341,365,445,446,447,448,449,450,451,452,453,454,455,456,457,458,459,460,461,462,486] [0,1,2,3,4,165,205,245,325,326,327,328,329,330,331,332,333,334,335,336,337,338,339,340,341,365,445,446,447,448,449,450,451,452,453,454,455,456,457,458,459,460,461,462,486,566,606] [] [] 2199023255551 8796093022207 0 [(41,.n),(42,.n)] [10] [] [(10,.bool ci)] trivial ?_;refine A.AH.doneF hT10 ?_;exact Vw ⟨ci,rfl,rfl,e⟩;refine A.AH.qF hT10 Ve [0,1,2,3,4,165,205,245,325,326,327,328,329,330,331,332,333,334,335,336,337,338,339,340,341,365,445,446,447,448,449,450,451,452,453,454,455,456,457,458,459,460,461,462,486] [0,1,2,3,4,165,205,245,325,326,327,328,329,330,331,332,333,334,335,336,337,338,339,340,341,365,445,446,447,448,449,450,451,452,453,454,455,456,457,458,459,460,461,462,486] [] [] 17179869183 8796093022207 0 [(34,.off),(35,.off),(37,.off),(38,.off),(36,.off),(39,.off),(40,.off),(41,.n),(42,.n)] [10] [] [(10,QB)] trivial ?_;refine A.AH.doneF hT10 ?_;exact Vw ⟨false,rfl,rfl,e⟩;refine A.AH.qF hT10 Ve [0,1,2,3,4,165,205,245,325,326,327,328,329,330,331,332,333,334,335,336,337,338,339,340,341,365] [0,1,2,3,4,165,205,245,325,326,327,328,329,330,331,332,333,334,335,336,337,338,339,340,341,365] [] [] 262143 8796093022207 0 [(18,.off),(19,.off),(21,.off),(24,.off),(25,.off),(27,.off),(20,.off),(22,.off),(26,.off),(28,.off),(23,.off),(29,.off),(30,.off),(31,.off),(32,.n),(33,.n),(34,.off),(35,.off),(37,.off),(38,.off),(36,.off),(39,.off),(40,.off),(41,.n),(42,.n)] [10] [] [(10,QB)] trivial ?_;refine A.AH.doneF hT10 ?_;exact Vw ⟨false,rfl,rfl,e⟩;refine A.AH.qF hT10 Ve [0,1,2,3,4,165,205,245] [0,1,2,3,4,165,205,245] [] [] 1023 8796093022207 0 [(10,.off),(11,.off),(14,.off),(12,.off),(13,.off),(15,.off),(16,.n),(17,.n),(18,.off),(19,.off),(21,.off),(24,.off),(25,.off),(27,.off),(20,.off),(22,.off),(26,.off),(28,.off),(23,.off),(29,.off),(30,.off),(31,.off),(32,.n),(33,.n),(34,.off),(35,.off),(37,.off),(38,.off),(36,.off),(39,.off),(40,.off),(41,.n),(42,.n)] [10] [] [(10,QB)] trivial ?_;refine A.AH.doneF hT10 ?_;exact Vw ⟨false,rfl,rfl,e⟩;rintro _ _ ⟨y9,rfl,rfl,e⟩;rw[F.aU]at e;exact A.ke e (Vs ⟨rfl,rfl⟩)
end Go.Proofs.YtligcbdjiolamaaGreatDoor
end
section
namespace Go.Proofs.YtligcbdjiolamaaGreatDoor
open Go.RowKit
end Go.Proofs.YtligcbdjiolamaaGreatDoor
end
section
end
section
namespace Go.A
open Go.RowKit Go.Z Go.Shelf Go.Proofs Go.Lib
def Hall (W:World):QJ->Prop
 | []=>True
 |p::H=>(p.2.bl=[]/\p.2.ref=none/\p.2.holds W (λ_=>True) (λ_ _=>False))/\Hall W H
def Hall.at {W:World}: ∀{H:QJ} {k:Nat} {r:Res},Hall W H->hk H k=some r->r.bl=[]/\r.ref=none/\r.holds W (λ_=>True) (λ_ _=>False)
 | [],_,_,_,h=>by cases h
 |(d,u)::H,k,r,E,h=>by
  rw[Qab]at h;split at h;injection h with h;subst h;exact E.1
  exact E.2.at h
def Hp.start {W:World}{H:QJ}(h:Hall W H):Hp ⟨0,[],W,[],λ_=>True⟩ H W:=by
 have E: ∀k b,¬Bk H k b:=λk b ⟨r,h1,h2⟩=>by rw[(h.at h1).1]at h2;cases h2
 refine⟨Ch.refl W,λk r hk=>?_,λk b I=>(E k b I).elim,λk k' b I=>(E k b I).elim,λk r j hk J=>?_⟩;exact Res.to (S:=[]) (h.at hk).2.2 (Ch.refl W) (λb _ _=>⟨by simp,λk=>E k b,.inl trivial⟩) (λb _ _=>⟨by simp,λk=>E k b⟩) (λi b _ N=>N.elim) (by simp);rw[(h.at hk).2.1]at J;cases J
def Hall.sh {W:World}{t:Ty}{cs:QL}{x:t.den}{F:Nat->Prop}(h:t.rep W F cs x):(Res.sh t cs x).bl=[]/\(Res.sh t cs x).ref=none/\(Res.sh t cs x).holds W (λ_=>True) (λ_ _=>False):=
 ⟨rfl,rfl,Qgo h λ_ _ _=>trivial⟩
def putCells (cs:QL):Obj->Obj
 | .cells _ t frozen=>.cells cs.toArray t frozen
 |o=>o
def tab_cells {w:World}{J N:Nat}(h:Lib.Utf8Tabs J N w):Cells w ⟨J,0,none⟩ tabF/\Cells w ⟨N,0,none⟩ tabA:=by
 constructor;intro j u E;rw[Wl,Wy];have I:j<256:=by have:=(Qd.1 E).1;simpa[tabF] using this
 have e:tabF[j]?=some (.int .u8 (firstT j)):=by simp[tabF,I]
 rw[e]at E;injection E with E;subst E
 exact h.1 j I;intro j u E;rw[Wl,Wy];have I:j<32:=by have:=(Qd.1 E).1;simpa[tabA] using this
 have e:tabA[j]?=some (.int .u8 (if j%2=0 then accLo (j / 2)else accHi (j / 2))):=by simp[tabA,I]
 rw[e]at E;injection E with E;subst E
 have:=h.2 (j / 2) (by omega);by_cases W:j%2=0;rw[Qc W];have H:j=2*(j / 2):=by omega
 rw[H];simpa using this.1;rw[Qb W];have H:j=2*(j / 2)+1:=by omega
 have Y:(2*(j / 2)+1) / 2=j / 2:=by omega
 rw[H,Y];exact this.2
def Hall.tabs {w:World}{E H i j:Nat}(h:Lib.Utf8Tabs E H w):Hall w [(i,.el none E 0 tabF),(j,.el none H 0 tabA)]:=by
 obtain⟨h1,h2⟩:=tab_cells h;exact⟨⟨rfl,rfl,h1,World.block_lt_of_cell? w _ (h1 0 (.int .u8 (firstT 0)) (by simp[tabF])),λ_ h=>h⟩,⟨rfl,rfl,h2,World.block_lt_of_cell? w _ (h2 0 (.int .u8 (accLo 0)) (by simp[tabA])),λ_ h=>h⟩,trivial⟩
end Go.A
end
section
namespace Go.Graph
abbrev Fun:=Int×Int×ByteArray
abbrev Nd:=Int×Int×QP×Fun×ByteArray×Int×Int
abbrev Pl:=Int×Int
abbrev Sp:=Pl×Int
abbrev id (x:Nd):Int:=x.1
abbrev kind (x:Nd):Int:=x.2.1
abbrev fn (x:Nd):Fun:=x.2.2.2.1
abbrev name (x:Nd):ByteArray:=x.2.2.2.2.1
abbrev cap (x:Nd):Int:=x.2.2.2.2.2.1
abbrev dep (x:Nd):Int:=x.2.2.2.2.2.2
def Few (g:List Nd):Prop:=g.length<=40/\∀x,x∈g->x.2.2.1.length<=5000/\x.2.2.2.2.1.size<=5000/\x.2.2.2.1.2.2.size<=5000
def Few.in {g:List Nd}{k:Nat}{x:Nd}(h:Few g)(hx:g[k]?=some x):x.2.2.1.length<=5000:=(h.2 x (Qn hx)).1
def insK (k:Int):Int:=if k<1\/16<k then-1 else if k=1 then 0 else if k=5\/k=9 then 2 else 1
def Qaz (c:UInt8):Bool:=decide ((97:Int)<=(c.toNat:Int)/\(c.toNat:Int)<=122\/(65:Int)<=(c.toNat:Int)/\(c.toNat:Int)<=90)
def Qig (c:UInt8):Bool:=decide ((48:Int)<=(c.toNat:Int)/\(c.toNat:Int)<=57)
def Qdh (l:List UInt8):Bool:=l.all λc=>Qaz c||Qig c
def named (s:ByteArray):Bool:=decide (s≠QE)&&decide ((s.size:Int)<=16)&&Qaz (Z.bat s 0)&&Qdh s.data.toList
def Qit {s:ByteArray}{i:Nat}(h:i<s.size):s.data.toList.drop i=Z.bat s i::s.data.toList.drop (i+1):=by
 have h':i<s.data.toList.length:=by simpa using h
 rw[Yz h'];have h2:i<s.data.size:=h;congr 1;simp[Z.bat,Wj h2]
def Qil {s:ByteArray}{i:Nat}(h: ¬i<s.size):s.data.toList.drop i=[]:=
 W9 (by have h1:s.data.toList.length=s.size:=rfl;omega)
def Qib {s:ByteArray}(h:s≠QE):0<s.size:=by
 rcases Nat.eq_zero_or_pos s.size with h0|h0
 have h1:s.data=#[]:=Ja h0;exact absurd (by cases s;simp_all) h;exact h0
def idxF (id:Int):Nat->List Nd->Int
 |_,[]=> -1
 |k,x::r=>if x.1=id then(k:Int)else idxF id (k+1) r
def idx (g:List Nd)(id:Int):Int:=idxF id 0 g
def Qde (kd:Int)(s:ByteArray):List Nd->Int×Bool
 | []=>(0,false)
 |x::r=>if kind x=kd/\name x=s then(x.1,true)else Qde kd s r
def z0:Nd:=(0,0,[],(0,0,QE),QE,0,0)
def at_ (g:List Nd)(i:Int):Nd:=(g[i.toNat]?).getD z0
def find (g:List Nd)(id:Int):Nd×Bool:=if idx g id<0 then(z0,false)else(at_ g (idx g id),true)
def idxF_le (id:Int): ∀(k:Nat) (g:List Nd),-1<=idxF id k g/\idxF id k g<k+g.length
 |k,[]=>by simp[idxF];omega
 |k,x::r=>by
  unfold idxF;have:=idxF_le id (k+1) r;by_cases h:x.1=id;rw[Qc h];simp only[Ql];omega;rw[Qb h];simp only[Ql];omega
def idx_le (g:List Nd)(id:Int): -1<=idx g id/\idx g id<g.length:=by
 have:=idxF_le id 0 g;unfold idx;omega
def Qbj {g:List Nd}{i:Int}{x:Nd}{k:Nat}(hk:i=(k:Int))(h:g[k]?=some x):at_ g i=x:=by
 subst hk;simp[at_,h]
def ownT (g:List Nd)(n:Nd):Bool:=if n.2.1≠1/\n.2.1≠15 then decide (n.2.2.2.2.1=QE)else named n.2.2.2.2.1&&decide ((Qde n.2.1 n.2.2.2.2.1 g).1=n.1)
def ownC (n:Nd):Prop:=n.2.1=14/\(n.2.2.2.2.2.1<1\/8<n.2.2.2.2.2.1\/n.2.2.2.2.2.2<1\/4<n.2.2.2.2.2.2)\/n.2.1≠14/\(n.2.2.2.2.2.1≠0\/n.2.2.2.2.2.2≠0)
instance (n:Nd):Decidable (ownC n):=by unfold ownC;infer_instance
def own (g:List Nd)(i:Int)(n:Nd):Bool:=
 if n.1<1\/255<n.1\/0<i/\n.1<=(at_ g (i-1)).1\/insK n.2.1<0\/(n.2.2.1.length:Int)≠insK n.2.1 then false else if ownC n then false else ownT g n
def bget (l:List Bool)(i:Int):Bool:=(l[i.toNat]?).getD false
def iget (l:QP)(i:Int):Int:=(l[i.toNat]?).getD 0
def Fed (g:List Nd):Prop:=∀x,x∈g->∀k,k∈x.2.2.1->0<=idx g k
def Qjo (g:List Nd)(done:List Bool)(kd:Int):QP->Bool
 | []=>true
 |k::r=>if kd≠14/\bget done (idx g k)=false then false else Qjo g done kd r
def ready (g:List Nd)(done:List Bool)(n:Nd):Bool:=Qjo g done n.2.1 n.2.2.1
def Qad (g:List Nd)(done:List Bool):Nat->List Nd->Int->Int
 |_,[],a=>a
 |i,x::r,a=>Qad g done (i+1) r (if(a<0/\bget done i=false)/\ready g done x=true then i else a)
def Qcc (g:List Nd):Nat->List Bool->QP->Option (QP)
 |0,_,l=>some l
 |f+1,done,l=>if Qad g done 0 g (-1)<0 then none else Qcc g f (done.set (Qad g done 0 g (-1)).toNat true) (l++[Qad g done 0 g (-1)])
def order (g:List Nd):QP×Bool:=match Qcc g g.length (List.replicate g.length false) []with
 |some l=>(l,true)
 |none=>([],false)
def d0:QP->Int
 | []=>0
 |a::_=>a
def capd (d:Int):Int:=if 4<d then-1 else d
def Qkh (n:Nd)(l:QP):Int:=if n.2.1=14 then n.2.2.2.2.2.2 else if n.2.1=12 then d0 l+1 else if n.2.1=13 then d0 l-1 else
 if n.2.1=5\/n.2.1=9 then(if iget l 0≠iget l 1 then-1 else d0 l)else if n.2.1=11\/n.2.1=16\/n.2.1=15 then(if d0 l≠0 then-1 else d0 l)else d0 l
def depthOf (n:Nd)(l:QP):Int:=capd (Qkh n l)
def d0_iget {l:QP}:iget l 0=d0 l:=by cases l<;>rfl
def d0_nil {l:QP}(h:l.length=0):0=d0 l:=by cases l with
 |nil=>rfl
 |cons a r=>simp at h
def Qbc (g:List Nd):QP->QP->Option (QP)
 | [],d=>some d
 |p::r,d=>if depthOf (at_ g p) ((at_ g p).2.2.1.map λk=>iget d (idx g k))<0 then none else Qbc g r (d.set p.toNat (depthOf (at_ g p) ((at_ g p).2.2.1.map λk=>iget d (idx g k))))
def Qbw (g:List Nd)(d:QP):List Nd->Bool
 | []=>true
 |x::r=>if x.2.1=14/\iget d (idx g (iget x.2.2.1 0))≠x.2.2.2.2.2.2 then false else Qbw g d r
def Qfe (g:List Nd)(done:List Bool): ∀(i:Nat) (l:List Nd) (a:Int),-1<=a->a<i+l.length-> -1<=Qad g done i l a/\Qad g done i l a<i+l.length
 |i,[],a,h1,h2=>by simp[Qad]at*;omega
 |i,x::r,a,h1,h2=>by
  unfold Qad;simp only[Ql]at h2 ⊢;have:=Qfe g done (i+1) r (if(a<0/\bget done i=false)/\ready g done x=true then i else a) (by split<;>omega) (by split<;>omega);omega
def depths (g:List Nd)(l:QP):QP×Bool:=match Qbc g l (List.replicate g.length 0)with
 |some d=>if Qbw g d g then(d,true)else([],false)
 |none=>([],false)
abbrev inD (g:List Nd) (d:QP) (l:QP):QP:=l.map λk=>iget d (idx g k)
def InB (d:QP):Prop:=∀i,0<=iget d i/\iget d i<=4
def InB.rep (n:Nat):InB (List.replicate n 0):=λi=>by
 unfold iget;rw[Yr];split<;>simp
def Qgh (n:Nd)(l:QP):depthOf n l<=4:=by unfold depthOf capd;split<;>omega
def InB.set {d:QP}(h:InB d)(p:Nat){v:Int}(h0:0<=v)(h1:v<=4):InB (d.set p v):=λi=>by
 unfold iget;rw[List.getElem?_set];have:=h i;unfold iget at this;split;split<;>simp<;>omega;exact this
def InB.d0 {d:QP}(h:InB d)(g:List Nd)(l:QP): -1<=Graph.d0 (inD g d l)/\Graph.d0 (inD g d l)<=4:=by
 cases l with
 |nil=>simp[Graph.d0]
 |cons k r=>have:=h (idx g k);simp only[inD,Q9,Graph.d0];omega
def inD_take {g:List Nd}{d l:QP}{k:Nat}{x:Int}(h:l[k]?=some x):inD g d (l.take k)++[iget d (idx g x)]=inD g d (l.take (k+1)):=by
 have h1:=(Qd.1 h);rw[Y1,h];simp[inD]
def insS (g:List Nd)(d:QP)(id:Int):Nat->QP->List Sp
 |_,[]=>[]
 |k,x::r=>((id,(k:Int)),iget d (idx g x))::insS g d id (k+1) r
def outS (n:Nd)(v:Int):List Sp:=if n.2.1≠15 then [((n.1,2),v)]else []
def spotsF (g:List Nd)(d:QP):Nat->List Nd->List Sp
 |_,[]=>[]
 |i,n::r=>insS g d n.1 0 n.2.2.1++(outS n (iget d i)++spotsF g d (i+1) r)
def spots (g:List Nd)(d:QP):List Sp:=spotsF g d 0 g
def atS (p:Pl):List Sp->Int
 | []=> -1
 |x::r=>if x.1=p then x.2 else atS p r
abbrev Sm:=Int×Int×Int×Int×(Int×Int×Int×Int)
def z8:Sm:=(0,0,0,0,(0,0,0,0))
def stepP (d a b:Int)(s:Sm):Sm×Int:=if d<a\/b<d then(z8,11)else((d,s.2),0)
def idP (d:Int):Sm×Int:=stepP d 0 4 (0,d,0,0,(0,0,0,0))
def Qjw (d:Int):Sm×Int:=stepP d 0 3 (0,d,0,1,(0,0,0,0))
def Qkq (d:Int):Sm×Int:=stepP d 1 4 (0,d-1,0,0,(0,0,0,0))
def nextP (d:Int):Sm×Int:=stepP d 1 4 (0,d,1,0,(0,0,0,0))
def Qds (n:Nd)(d:Int):Sm:=if n.2.1=12 then(Qjw d).1 else if n.2.1=13 then(Qkq d).1 else if n.2.1=14 then(nextP d).1 else(idP d).1
def Qki (s:ByteArray)(pos:Nat):1<=(Utf8.decode s pos).2:=by
 unfold Utf8.decode;simp only[];repeat' split
 all_goals first|exact Qt 1|(simp;done)|omega
def Qdk (f:Fun):Bool:=if f.1=3\/f.1=13 then decide (0<=f.2.1/\f.2.1<=64)else if f.1=6\/f.1=11 then decide (1<=f.2.1/\f.2.1<=1048576)else decide (f.2.1=0)
def tail5 (c:UInt8):Bool:=decide (128<=(c.toNat:Int)/\(c.toNat:Int)<=191)
end Go.Graph
end
section
namespace Go.A
open Go.Z
def r64n {n:Nat}(h:n<4611686018427387904):R64 ((n:Int)+1):=⟨by omega,by omega⟩
def gd1 {α:Type}{p:Prop}[Decidable p](h:p)(x:Option α):gd p x=x:=Qc h
def ixn {α:Type}{xs:List α}{k:Nat}{x:α}(h:xs[k]?=some x):ix xs (k:Int)=some x:=by rw[ix_nat];exact h
def ixg {α:Type}{xs:List α}{i:Int}{x:α}(h0:0<=i)(h:xs[i.toNat]?=some x):ix xs i=some x:=by unfold ix;rw[Qb (by omega)];exact h
def dropx {α:Type}{xs:List α}{k:Nat}{x:α}(h:xs[k]?=some x):xs.drop k=x::xs.drop (k+1):=by
 obtain⟨h1,h2⟩:=Qd.1 h;rw[Yz h1,h2]
def ba {p q:Prop}[Decidable p][Decidable q]:(bif decide p then decide q else false)=decide (p/\q):=by by_cases h:p<;>simp[h]
def bo {p q:Prop}[Decidable p][Decidable q]:(bif decide p then true else decide q)=decide (p\/q):=by by_cases h:p<;>simp[h]
def bn {p:Prop}[Decidable p]:(!decide p)=decide (¬p):=by by_cases h:p<;>simp[h]
def lp {α σ ρ:Type}(xs:List α)(L:Nat->σ->Int->Option ρ)(G:Nat->List α->σ->Option ρ)(P:Nat->σ->Prop)
  (h0: ∀f s,P xs.length s->L (f+1) s (xs.length:Int)=G xs.length [] s)
  (h1: ∀f s (k:Nat) x,xs[k]?=some x->k<xs.length->P k s->(∀s',P (k+1) s'->L f s' ((k:Int)+1)=G (k+1) (xs.drop (k+1)) s')->L (f+1) s k=G k (x::xs.drop (k+1)) s)
  (E:xs.length<FU) (s:σ) (H:P 0 s):L FU s 0=G 0 xs s:=by
 have main: ∀(n k f:Nat) (s:σ),k+n=xs.length->n<f->P k s->L f s (k:Int)=G k (xs.drop k) s:=by
  intro n;induction n with
  |zero=>
   intro k f s hk I hp;obtain⟨f,rfl⟩: ∃f',f=f'+1:=⟨f-1,by omega⟩;obtain rfl:k=xs.length:=by omega
   rw[W9 (Qt _)];exact h0 f s hp
  |succ n ih=>
   intro k f s hk I hp;obtain⟨f,rfl⟩: ∃f',f=f'+1:=⟨f-1,by omega⟩;have hx:xs[k]?=some xs[k]:=Qh (by omega);rw[dropx hx];exact h1 f s k _ hx (by omega) hp λs' hp'=>ih (k+1) f s' (by omega) (by omega) hp'
 have:=main xs.length 0 FU s (by omega) E H;simpa using this
def lp0 {α ρ:Type}(xs:List α)(L:Nat->Int->Option ρ)(G:Nat->List α->Option ρ)
  (h0: ∀f,L (f+1) (xs.length:Int)=G xs.length [])
  (h1: ∀f (k:Nat) x,xs[k]?=some x->k<xs.length->L f ((k:Int)+1)=G (k+1) (xs.drop (k+1))->L (f+1) k=G k (x::xs.drop (k+1)))
  (E:xs.length<FU):L FU 0=G 0 xs:=
 lp xs (λf (_:Unit) y=>L f y) (λk l _=>G k l) (λ_ _=>True) (λf s _=>h0 f) (λf s k x hx hk _ ih=>h1 f k x hx hk (ih () trivial)) E () trivial
end Go.A
namespace Go.Proofs.YtligcbdjiolamaaGreatDoor
open Go.RowKit Go.Graph
def Qac:(18446744073709551616:Nat)<A.FU:=by decide
def ixb {s:ByteArray}{k:Nat}(h:k<s.size):A.ix s.data.toList (k:Int)=some (Z.bat s k):=by
 refine A.ixn ?_;have:=Qit h;rw[<-List.head?_drop,this];rfl
def Qfa (s:ByteArray):s.data.toList.length=s.size:=rfl
end Go.Proofs.YtligcbdjiolamaaGreatDoor
end
section
namespace Go.Proofs.YtligcbdjiolamaaGreatDoor
open Go.RowKit Go.Graph
def Qic (s:ByteArray)(i:Nat):(s.get! i)=Z.bat s i:=by
 cases s;simp[ByteArray.get!,Z.bat,getElem!_def,Option.getD];rfl
def dec_at (s:ByteArray)(i:Nat):Utf8.decode s i=Lib.decodeN (s.size-i) (Z.bat s i).toNat (Z.bat s (i+1)).toNat (Z.bat s (i+2)).toNat (Z.bat s (i+3)).toNat:=by
 rw[Lib.decode_at,Qic,Qic,Qic,Qic]
def dec_lt {s:ByteArray}{i:Nat}(h:(Z.bat s i).toNat <128):Utf8.decode s i=((Z.bat s i).toNat,1):=by
 rw[dec_at];unfold Lib.decodeN;rw[Qc h]
def dec_ge {s:ByteArray}{i:Nat}(h:128<=(Z.bat s i).toNat):128<=(Utf8.decode s i).1:=by
 rw[dec_at];unfold Lib.decodeN;rw[Qb (by omega)];repeat' split
 all_goals first|(simp only[];omega)|decide
def tail_eq (c:UInt8):F.cg c=some (tail5 c):=by
 unfold F.cg tail5;by_cases h1:(128:Int)<=(c.toNat:Int)<;>by_cases h2:(c.toNat:Int)<=191<;>simp[h1,h2]
def ixk (s:ByteArray)(p k:Nat):A.ix s.data.toList ((p:Int)+(k:Int))=if p+k<s.size then some (Z.bat s (p+k))else none:=by
 have e:(p:Int)+(k:Int)=((p+k:Nat):Int):=by omega
 rw[e];by_cases h:p+k<s.size;rw[Qc h];exact ixb h;rw[Qb h,A.ix_nat];exact Wm (by rw[Qfa];omega)
def wid (s:ByteArray)(p:Nat):Nat:=if Utf8.decode s p=(65533,1)then 0 else(Utf8.decode s p).2
def wid_le {s:ByteArray}{p:Nat}(h:p<s.size):p+wid s p<=s.size:=by
 unfold wid;split;omega
 ·rw[dec_at]
  unfold Lib.decodeN;repeat' split
  all_goals simp only[]
  all_goals omega
def widN (n a b c d:Nat):Nat:=
 if a<128 then 1
 else if(194<=a/\a<=223)/\2<=n/\(128<=b/\b<=191)then 2
 else if(224<=a/\a<=239)/\3<=n/\(128<=b/\b<=191)/\(128<=c/\c<=191)/\¬(a=224/\b<160)/\¬(a=237/\159<b)then 3
 else if(240<=a/\a<=244)/\4<=n/\(128<=b/\b<=191)/\(128<=c/\c<=191)/\(128<=d/\d<=191)/\¬(a=240/\b<144)/\¬(a=244/\143<b)then 4
 else 0
def pq (c:Prop)[Decidable c](x w:Nat)(E:w≠1):(if(if c then(x,w)else(65533,1))=(65533,1)then 0 else(if c then(x,w)else(65533,1)).2)=if c then w else 0:=by
 by_cases h:c<;>simp[h,E]
def widN_eq (n a b c d:Nat)(I:a<256)(J:b<256)(N:c<256)(W:d<256):(if Lib.decodeN n a b c d=(65533,1)then 0 else(Lib.decodeN n a b c d).2)=widN n a b c d:=by
 unfold Lib.decodeN widN;by_cases h0:a<128;simp only[h0,Xn,Qv];rw[Qb (by omega)]
 ·simp only[h0,Wf]
  by_cases h1:a / 32=6/\1<n/\b / 64=2
  ·simp only[Qc h1]
   rw[pq _ _ _ (by decide)];repeat' split
   all_goals omega
  ·simp only[Qb h1]
   by_cases E:a / 16=14/\(1<n/\b / 64=2)/\2<n/\c / 64=2
   ·simp only[Qc E]
    rw[pq _ _ _ (by decide)];repeat' split
    all_goals omega
   ·simp only[Qb E]
    by_cases H:a / 8=30/\(1<n/\b / 64=2)/\(2<n/\c / 64=2)/\3<n/\d / 64=2
    ·simp only[Qc H]
     rw[pq _ _ _ (by decide)];repeat' split
     all_goals omega
    ·simp only[Qb H,Xn]
     repeat' split
     all_goals omega
def wid_N (s:ByteArray)(p:Nat):wid s p=widN (s.size-p) (Z.bat s p).toNat (Z.bat s (p+1)).toNat (Z.bat s (p+2)).toNat (Z.bat s (p+3)).toNat:=by
 rw[<-widN_eq _ _ _ _ _ (UInt8.toNat_lt _) (UInt8.toNat_lt _) (UInt8.toNat_lt _) (UInt8.toNat_lt _),<-dec_at];rfl
def cnd {α:Type}{p:Prop}[Decidable p](x y:α):(bif decide p then x else y)=if p then x else y:=by by_cases h:p<;>simp[h]
set_option maxHeartbeats 4000000 in
def width_eq (s:ByteArray)(p:Nat)(hp:p<s.size)(hs:s.size<=5000):F.dB s p=some (wid s p:Int):=by
 have i1:A.ix s.data.toList ((p:Int)+1)=if p+1<s.size then some (Z.bat s (p+1))else none:=ixk s p 1;have i2:A.ix s.data.toList ((p:Int)+2)=if p+2<s.size then some (Z.bat s (p+2))else none:=ixk s p 2;have i3:A.ix s.data.toList ((p:Int)+3)=if p+3<s.size then some (Z.bat s (p+3))else none:=ixk s p 3;have r1:Z.R64 ((p:Int)+1):=⟨by omega,by omega⟩;have r2:Z.R64 ((p:Int)+2):=⟨by omega,by omega⟩;have r3:Z.R64 ((p:Int)+3):=⟨by omega,by omega⟩;unfold F.dB;rw[A.gd1 ⟨by omega,by omega⟩,ixb hp,Qa,A.gd1 r1,i1,wid_N];generalize Z.bat s p=c0 at*;generalize Z.bat s (p+1)=c1 at*;generalize Z.bat s (p+2)=c2 at*;generalize Z.bat s (p+3)=c3 at*;have t (c:UInt8):tail5 c=decide (128<=c.toNat/\c.toNat<=191):=by unfold tail5;congr 1;exact propext ⟨λh=>by omega,λh=>by omega⟩
 by_cases h1:(1:Int)<(s.size:Int)-(p:Int);rw[Qc h1,Qc (by omega),Qa];simp only[F.cu,F.ct,F.b3,F.bD,tail_eq,Qa,t,A.gd1 r2,A.gd1 r3,i2,i3];unfold widN;generalize hn:s.size-p=n;have e2:((2:Int)<=(s.size:Int)-(p:Int))=(2<=n):=propext ⟨λh=>by omega,λh=>by omega⟩;have e3:((3:Int)<=(s.size:Int)-(p:Int))=(3<=n):=propext ⟨λh=>by omega,λh=>by omega⟩;have e4:((4:Int)<=(s.size:Int)-(p:Int))=(4<=n):=propext ⟨λh=>by omega,λh=>by omega⟩;have f2:(p+2<s.size)=(3<=n):=propext ⟨λh=>by omega,λh=>by omega⟩;have f3:(p+3<s.size)=(4<=n):=propext ⟨λh=>by omega,λh=>by omega⟩;have hn2:2<=n:=by omega
 simp only[e2,e3,e4,f2,f3,A.ba,Q1,hn2,and_true,true_and];have q0:((c0.toNat:Int)<128)=(c0.toNat<128):=propext ⟨λh=>by omega,λh=>by omega⟩;have q1:((194:Int)<=(c0.toNat:Int)/\(c0.toNat:Int)<=223)=(194<=c0.toNat/\c0.toNat<=223):=propext ⟨λh=>by omega,λh=>by omega⟩;have q2:((224:Int)<=(c0.toNat:Int)/\(c0.toNat:Int)<=239)=(224<=c0.toNat/\c0.toNat<=239):=propext ⟨λh=>by omega,λh=>by omega⟩;have q3:((240:Int)<=(c0.toNat:Int)/\(c0.toNat:Int)<=244)=(240<=c0.toNat/\c0.toNat<=244):=propext ⟨λh=>by omega,λh=>by omega⟩;have q4:((c0.toNat:Int)=224/\(c1.toNat:Int)<160)=(c0.toNat=224/\c1.toNat<160):=propext ⟨λh=>by omega,λh=>by omega⟩;have q5:((c0.toNat:Int)=237/\(159:Int)<(c1.toNat:Int))=(c0.toNat=237/\159<c1.toNat):=propext ⟨λh=>by omega,λh=>by omega⟩;have q6:((c0.toNat:Int)=240/\(c1.toNat:Int)<144)=(c0.toNat=240/\c1.toNat<144):=propext ⟨λh=>by omega,λh=>by omega⟩;have q7:((c0.toNat:Int)=244/\(143:Int)<(c1.toNat:Int))=(c0.toNat=244/\143<c1.toNat):=propext ⟨λh=>by omega,λh=>by omega⟩;simp only[q0,q1,q2,q3,q4,q5,q6,q7];have x1:240<=c0.toNat/\c0.toNat<=244->¬(224<=c0.toNat/\c0.toNat<=239):=λh h2=>by omega
 have x2:240<=c0.toNat/\c0.toNat<=244->¬(194<=c0.toNat/\c0.toNat<=223):=λh h2=>by omega
 have x3:224<=c0.toNat/\c0.toNat<=239->¬(194<=c0.toNat/\c0.toNat<=223):=λh h2=>by omega
 by_cases K0:c0.toNat<128;simp[K0];by_cases H:128<=c1.toNat/\c1.toNat<=191;by_cases K1:194<=c0.toNat/\c0.toNat<=223;simp only[Qb K0,Qc K1,Qc H,K1,H,and_self,Xn];rfl;by_cases K2:224<=c0.toNat/\c0.toNat<=239;have K3: ¬(240<=c0.toNat/\c0.toNat<=244):=λh=>x1 h K2;by_cases E:3<=n;by_cases I:128<=c2.toNat/\c2.toNat<=191;by_cases J:c0.toNat=224/\c1.toNat<160;simp only[Qb K0,Qb K1,Qc (And.intro K2 E),Qc H,Qc E,Qa,Qc I,eq_true J,Xn,false_and,K1,K3,eq_true J,not_true_eq_false,and_false,Wf];rfl;by_cases W:c0.toNat=237/\159<c1.toNat;simp only[Qb K0,Qb K1,Qc (And.intro K2 E),Qc H,Qc E,Qa,Qc I,Qb J,eq_true W,Xn,false_and,K1,K3,eq_true W,not_true_eq_false,and_false,Wf];rfl;simp only[Qb K0,Qb K1,Qc (And.intro K2 E),Qc H,Qc E,Qa,Qc I,Qb J,Qb W,false_and,K1,K2,E,H,I,J,W,not_false_eq_true,and_self,Xn,Wf];rfl;simp only[Qb K0,Qb K1,Qc (And.intro K2 E),Qc H,Qc E,Qa,Qb I,Qb K3,false_and,K1,K3,I,and_false,Wf,Qz];rfl;simp only[Qb K0,Qb K1,E,and_false,Qb K3,false_and,K1,K3,Wf];rfl;by_cases K3:240<=c0.toNat/\c0.toNat<=244;by_cases N:4<=n;have E:3<=n:=by omega
 by_cases I:128<=c2.toNat/\c2.toNat<=191;by_cases Y:128<=c3.toNat/\c3.toNat<=191;by_cases J:c0.toNat=240/\c1.toNat<144;simp only[Qb K0,Qb K1,Qb K2,K2,false_and,Qc (And.intro K3 N),Qc H,Qc E,Qc N,Qa,Qc I,Qc Y,eq_true J,Xn,K1,eq_true J,not_true_eq_false,and_false,Wf];rfl;by_cases W:c0.toNat=244/\143<c1.toNat;simp only[Qb K0,Qb K1,Qb K2,K2,false_and,Qc (And.intro K3 N),Qc H,Qc E,Qc N,Qa,Qc I,Qc Y,Qb J,eq_true W,Xn,K1,eq_true W,not_true_eq_false,and_false,Wf];rfl;simp only[Qb K0,Qb K1,Qb K2,K2,false_and,Qc (And.intro K3 N),Qc H,Qc E,Qc N,Qa,Qc I,Qc Y,Qb J,Qb W,K1,K3,N,H,I,Y,J,W,not_false_eq_true,and_self,Xn,Wf];rfl;simp only[Qb K0,Qb K1,Qb K2,K2,false_and,Qc (And.intro K3 N),Qc H,Qc E,Qc N,Qa,Qc I,Qb Y,K1,Y,and_false,Wf,Qz];rfl;simp only[Qb K0,Qb K1,Qb K2,K2,false_and,Qc (And.intro K3 N),Qc H,Qc E,Qa,Qb I,K1,I,and_false,Wf,Qz];rfl;simp only[Qb K0,Qb K1,Qb K2,K2,false_and,N,and_false,K1,Wf];rfl;simp only[Qb K0,Qb K1,Qb K2,Qb K3,K1,K2,K3,false_and,Wf];rfl;simp[K0,H];rw[Qb h1];simp only[F.cu,F.ct,F.b3,F.bD,A.ba,Q1];unfold widN;have w0:(c0.toNat:Int)<128↔c0.toNat<128:=⟨λh=>by omega,λh=>by omega⟩;by_cases h2:c0.toNat<128;rw[Qc (w0.2 h2),Qc h2];rfl;have a1: ¬((194<=c0.toNat/\c0.toNat<=223)/\2<=s.size-p/\128<=c1.toNat/\c1.toNat<=191):=λh=>by omega
 have a2: ¬((224<=c0.toNat/\c0.toNat<=239)/\3<=s.size-p/\(128<=c1.toNat/\c1.toNat<=191)/\(128<=c2.toNat/\c2.toNat<=191)/\¬(c0.toNat=224/\c1.toNat<160)/\¬(c0.toNat=237/\159<c1.toNat)):=λh=>by omega
 have a3: ¬((240<=c0.toNat/\c0.toNat<=244)/\4<=s.size-p/\(128<=c1.toNat/\c1.toNat<=191)/\(128<=c2.toNat/\c2.toNat<=191)/\(128<=c3.toNat/\c3.toNat<=191)/\¬(c0.toNat=240/\c1.toNat<144)/\¬(c0.toNat=244/\143<c1.toNat)):=λh=>by omega
 rw[Qb (λh=>h2 (w0.1 h)),Qb h2,Qb a1,Qb a2,Qb a3];simp only[Qz,Wf];rw[Qb (λh=>by omega),Qb (λh=>by omega),Qb (λh=>by omega)];rfl
def vld (s:ByteArray):Nat->Nat->Bool
 |0,_=>true
 |n+1,p=>if p<s.size then(if wid s p=0 then false else vld s n (p+wid s p))else true
def cnt (s:ByteArray):Nat->Nat->Nat
 |0,_=>0
 |n+1,p=>if p<s.size then 1+cnt s n (p+(Utf8.decode s p).2)else 0
def wid_4 (s:ByteArray)(p:Nat):wid s p<=4:=by
 rw[wid_N];unfold widN;repeat' split
 all_goals omega
def wid_dec {s:ByteArray}{p:Nat}(h:wid s p≠0):(Utf8.decode s p).2=wid s p:=by
 unfold wid at h ⊢;split at h;exact absurd rfl h;rename_i h2;rw[Qb h2]
def Qiw (s:ByteArray)(H:s.size<=5000):F.dC s=some (vld s s.size 0):=by
 have loop: ∀(n p f:Nat),s.size-p<=n->n<f->p<=5010->F.b4 s f (p:Int)=some (vld s n p):=by
  intro n;induction n with
  |zero=>
   intro p f hp I _;obtain⟨f,rfl⟩: ∃f',f=f'+1:=⟨f-1,by omega⟩;rw[F.b4,Qb (by omega)];rfl
  |succ n ih=>
   intro p f hp I J;obtain⟨f,rfl⟩: ∃f',f=f'+1:=⟨f-1,by omega⟩;rw[F.b4,vld];by_cases h:p<s.size;rw[Qc (by omega),Qc h,width_eq s p h H,Qa];have:=wid_le h;by_cases E:wid s p=0;rw[Qc (by omega),Qc E];rw[Qb (by omega),Qb E,A.gd1 ⟨by omega,by omega⟩];have e:(p:Int)+(wid s p:Int)=((p+wid s p:Nat):Int):=by omega
   rw[e];exact ih _ f (by omega) (by omega) (by omega);rw[Qb (by omega),Qb h]
 exact loop s.size 0 A.FU (by omega) (by have:=Qac;omega) (by omega)
def Qcu (s:ByteArray):Lib.validD s.data.toList=vld s s.size 0:=by
 have loop: ∀(n p:Nat),Lib.validGoD n (s.data.toList.drop p)=vld s n p:=by
  intro n;induction n with
  |zero=>intro p;rfl
  |succ n ih=>
   intro p;rw[Lib.validGoD,vld];by_cases h:p<s.size;have H:s.data.toList.drop p≠[]:=by rw[Qit h];simp
   rw[Qb H,Qc h,Lib.decodeL_drop,Y7];by_cases E:Utf8.decode s p=(65533,1);rw[Qc (by rw[E];exact⟨rfl,rfl⟩),Qc (by unfold wid;rw[Qc E])];have e:wid s p=(Utf8.decode s p).2:=by unfold wid;rw[Qb E]
   rw[Qb (λh2=>E (Prod.ext h2.1 h2.2)),Qb (by rw[e];have:=Qki s p;omega),ih,e];rw[Qc (Qil h),Qb h]
 have:=loop s.size 0;rw[Xi]at this;exact this
def Runes_eq (s:ByteArray)(hs:s.size<=5000)(E:vld s s.size 0=true): ∃l,F.ej s=some l/\l.length=cnt s s.size 0:=by
 have loop: ∀(n p f:Nat) (xs:List (Int×Int)),s.size-p<=n->n<f->xs.length<=p->p<=5010->vld s n p=true->∃l,F.ak s f xs (p:Int)=some l/\l.length=xs.length+cnt s n p:=by
  intro n;induction n with
  |zero=>
   intro p f xs hp hf _ _ _;obtain⟨f,rfl⟩: ∃f',f=f'+1:=⟨f-1,by omega⟩;rw[F.ak,Qb (by omega)];exact⟨_,rfl,rfl⟩
  |succ n ih=>
   intro p f xs hp hf hxs hp5 E;obtain⟨f,rfl⟩: ∃f',f=f'+1:=⟨f-1,by omega⟩;rw[F.ak];rw[vld]at E;rw[cnt];by_cases h:p<s.size;rw[Qc h]at E;have hl:=wid_le h;have h4:=wid_4 s p;by_cases J:wid s p=0;rw[Qc J]at E;cases E;rw[Qb J]at E;have H: ∀(w c:Int),w=(wid s p:Int)->∃l,F.a9 (F.ak s f) xs (p:Int) w c=some l/\l.length=xs.length+(1+cnt s n (p+(Utf8.decode s p).2)):=λw c N=>by
    subst N;rw[F.a9,A.gd1 (by simp only[Ql,Q2];omega),A.gd1 ⟨by omega,by omega⟩,wid_dec J];have e:(p:Int)+(wid s p:Int)=((p+wid s p:Nat):Int):=by omega
    rw[e];obtain⟨l,h1,h2⟩:=ih (p+wid s p) f (xs++[((p:Int),c)]) (by omega) (by omega) (by simp only[Qu,Ql,Q2];omega) (by omega) E;exact⟨l,h1,by rw[h2,Qu];simp only[Ql,Q2];omega⟩
   have I:=ixb (s:=s) h;have W:A.ix s.data.toList ((p:Int)+1)=if p+1<s.size then some (Z.bat s (p+1))else none:=ixk s p 1;have i2:A.ix s.data.toList ((p:Int)+2)=if p+2<s.size then some (Z.bat s (p+2))else none:=ixk s p 2;have i3:A.ix s.data.toList ((p:Int)+3)=if p+3<s.size then some (Z.bat s (p+3))else none:=ixk s p 3;have Y:Z.R64 ((p:Int)+1):=⟨by omega,by omega⟩;have r2:Z.R64 ((p:Int)+2):=⟨by omega,by omega⟩;have r3:Z.R64 ((p:Int)+3):=⟨by omega,by omega⟩;rw[Qc (by omega),Qc h,width_eq s p h hs,Qa];by_cases w1:wid s p=1;rw[Qc (by omega),I,Qa];exact H _ _ rfl;rw[Qb (by omega)];by_cases w2:wid s p=2;rw[Qc (by omega),A.gd1 Y,I,Qa,A.gd1 (by decide),W,Qc (by omega),Qa,A.gd1 (by decide)];exact H _ _ rfl;rw[Qb (by omega)];by_cases w3:wid s p=3;rw[Qc (by omega),A.gd1 ⟨Y,r2⟩,I,Qa,A.gd1 (by decide),W,Qc (by omega),Qa,A.gd1 (by decide),i2,Qc (by omega),Qa,A.gd1 (by decide)];exact H _ _ rfl;rw[Qb (by omega),Qc (by omega),A.gd1 ⟨Y,r2,r3⟩,I,Qa,A.gd1 (by decide),W,Qc (by omega),Qa,A.gd1 (by decide),i2,Qc (by omega),Qa,A.gd1 (by decide),i3,Qc (by omega),Qa,A.gd1 (by decide)];exact H _ _ rfl;rw[Qb (by omega),Qb h];exact⟨_,rfl,rfl⟩
 obtain⟨l,h1,h2⟩:=loop s.size 0 A.FU [] (by omega) (by have:=Qac;omega) (by simp) (by omega) E;exact⟨l,h1,by simpa using h2⟩
def single_eq (s:ByteArray)(H:s.size<=9223372036854775807):F.d0 s=some (if cnt s s.size 0=1 then vld s s.size 0 else false):=by
 have loop: ∀(n p f:Nat) (y:Int),s.size-p<=n->n<f->0<=y->y+n<=9223372036854775807->F.b0 s f p y=some (if y+(cnt s n p:Int)=1 then vld s s.size 0 else false):=by
  intro n;induction n with
  |zero=>
   intro p f y hp E _ _;obtain⟨f,rfl⟩: ∃f',f=f'+1:=⟨f-1,by omega⟩;rw[F.b0,Qb (by omega),F.ay,Qcu,Qa];simp only[F.cm];have e:y+(cnt s 0 p:Int)=y:=by rw[cnt];omega
   by_cases h:y=1;rw[Qc h,Qc (by omega)];rw[Qb h,Qb (by omega)]
  |succ n ih=>
   intro p f y hp E h0 h2;obtain⟨f,rfl⟩: ∃f',f=f'+1:=⟨f-1,by omega⟩;rw[F.b0,cnt];by_cases h:p<s.size;rw[Qc h,Qc h,A.gd1 ⟨by omega,by omega⟩];have I:=Qki s p;rw[ih _ f (y+1) (by omega) (by omega) (by omega) (by omega)];congr 2;exact propext ⟨λh=>by omega,λh=>by omega⟩;rw[Qb h,Qb h,F.ay,Qcu,Qa];simp only[F.cm];by_cases h:y=1;rw[Qc h,Qc (by omega)];rw[Qb h,Qb (by omega)]
 unfold F.d0;rw[loop s.size 0 A.FU 0 (by omega) (by have:=Qac;omega) (by omega) (by omega)];congr 2;exact propext ⟨λh=>by omega,λh=>by omega⟩
def one_small {s:ByteArray}(h1:cnt s s.size 0=1)(h2:vld s s.size 0=true):s.size<=4:=by
 generalize I:s.size=n at h1 h2;cases n with
 |zero=>omega
 |succ n=>
  rw[cnt,Qc (by omega)]at h1;rw[vld,Qc (by omega)]at h2;by_cases E:wid s 0=0;rw[Qc E]at h2;cases h2;rw[wid_dec E]at h1;have:=wid_4 s 0;cases n with
  |zero=>omega
  |succ n=>
   rw[cnt]at h1;by_cases H:0+wid s 0<s.size;rw[Qc H]at h1;omega;omega
def Qme (f:Fun):Bool:=if f.1=5 then decide (f.2.2≠QE)&&decide ((f.2.2.size:Int)<=16)&&vld f.2.2 f.2.2.size 0 else if f.1=12\/f.1=22 then decide (cnt f.2.2 f.2.2.size 0=1)&&vld f.2.2 f.2.2.size 0 else decide (f.2.2=QE)
def Qjg (f:Fun):F.dZ f=some (Qdk f):=by
 unfold F.dZ F.cX F.cW Qdk;simp only[A.ba,Q1];by_cases I:f.1=3;simp[I];by_cases E:f.1=13;simp[E];by_cases h6:f.1=6;simp[h6];by_cases H:f.1=11<;>simp[I,E,h6,H]
def Qim (f:Fun):F.d9 f=some (Qdk f):=Qjg f
def text_eq (f:Fun)(J:f.2.2.size<=9223372036854775807):F.eo f=some (Qme f):=by
 unfold F.eo Qme;simp only[F.dL,F.dM,A.ba,single_eq _ J,F.ay,Qcu,Qa,Q1];by_cases I:f.1=5;simp only[I,Xn];by_cases h1:f.2.2=QE<;>by_cases h2:(f.2.2.size:Int)<=16<;>simp[h1,h2];by_cases E:f.1=12;simp[E];by_cases H:f.1=22<;>simp[I,E,H]
def one_le {s:ByteArray}:(1:Int)<=(s.size:Int)↔s≠QE:=by
 constructor;intro h e;subst e;exact absurd h (by decide);intro h;have:=Qib h;omega
def Qld (f:Fun)(H:f.2.2.size<=5000):F.ed f=some (Qme f):=by
 have Y: ∀y,F.cQ f y=some (if y=true then decide (cnt f.2.2 f.2.2.size 0=1)&&vld f.2.2 f.2.2.size 0 else decide (f.2.2=QE)):=by
  intro y;unfold F.cQ;simp only[F.cP,Qiw _ H,Qa];cases y with
  |false=>simp
  |true=>
   simp only[Xn];by_cases N:(f.2.2.size:Int)<=4;rw[Qc N];cases I:vld f.2.2 f.2.2.size 0 with
   |true=>
    obtain⟨l,h1,h2⟩:=Runes_eq f.2.2 H I;rw[Qc rfl,h1,Qa,Y4];congr 2;rw[h2];exact propext ⟨λh=>by omega,λh=>by omega⟩
   |false=>simp
   rw[Qb N];congr 1;cases I:vld f.2.2 f.2.2.size 0 with
   |false=>simp
   |true=>
    by_cases h1:cnt f.2.2 f.2.2.size 0=1;have:=one_small h1 I;omega;simp[h1]
 unfold F.ed Qme;simp only[F.dp,Y,A.ba,Qiw _ H,Qa,Q1,one_le];by_cases W:f.1=5;simp only[W,Xn];by_cases h1:f.2.2=QE<;>by_cases h2:(f.2.2.size:Int)<=16<;>simp[h1,h2];by_cases E:f.1=12;simp[E];by_cases J:f.1=22<;>simp[W,E,J]
def anyF (f:Fun)(l:QP):Int:=if l.any (λy=>decide (y=f.1)&&(Qdk f&&Qme f))=true then 0 else 60
def kinds (k:Int):QP:=if k=2 then [1,2,3,4,5,6,7,8]else if k=3 then [11,12,13]else if k=4 then [21,22]else if k=8 then [31,32,33,34]else if k=11 then [41,42]else []
def chk (k:Int)(f:Fun):Int:=if kinds k=[]then(if f=(0,0,QE)then 0 else 60)else anyF f (kinds k)
def chk_l (f:Fun)(E:f.2.2.size<=9223372036854775807): ∀l,F.a0 f l=some (anyF f l)
 | []=>rfl
 |y::l=>by
  have ih:=chk_l f E l;unfold F.a0;simp only[F.cM,Qjg,text_eq _ E,Qa,ih,anyF,Yo];by_cases h:y=f.1;subst h;cases H:Qdk f<;>cases I:Qme f<;>simp;simp[h]
def Qlf (k:Int)(f:Fun)(E:f.2.2.size<=9223372036854775807):F.dS k f=some (chk k f):=by
 have Y:F.bB 1 8=some [1,2,3,4,5,6,7,8]:=by kernel_rfl
 have u3:F.bB 11 13=some [11,12,13]:=by kernel_rfl
 have u4:F.bB 21 22=some [21,22]:=by kernel_rfl
 have u8:F.bB 31 34=some [31,32,33,34]:=by kernel_rfl
 have u11:F.bB 41 42=some [41,42]:=by kernel_rfl
 unfold F.dS F.eu F.en chk kinds;by_cases h2:k=2;simp[h2,Y,chk_l f E];by_cases J:k=3;simp[J,u3,chk_l f E];by_cases N:k=4;simp[N,u4,chk_l f E];by_cases W:k=8;simp[W,u8,chk_l f E];by_cases H:k=11;simp[H,u11,chk_l f E];simp only[h2,J,N,W,H,Wf,Qa];rw[Qc (by decide),Qc trivial];by_cases I:f=(0,0,QE);rw[Qb (λh=>h I),Qc I];rw[Qc I,Qb I]
def R06_l (f:Fun)(E:f.2.2.size<=5000)(l:QP)(H:l.length<=100):F.aC f l A.FU 0=some (anyF f l):=
 A.lp0 l (λn y=>F.aC f l n y) (λ_ t=>some (anyF f t))
  (λn=>by rw[F.aC,Qb (by omega)];rfl)
  (λn k x hx hk ih=>by
   rw[F.aC,Qc (by omega),A.ixn hx,Qa];simp only[F.cv,Qim,Qld _ E,Qa,ih,A.gd1 (A.r64n (n:=k) (by omega)),anyF,Yo];by_cases h:x=f.1;subst h;cases I:Qdk f<;>cases J:Qme f<;>simp;simp[h])
  (by have:=Qac;omega)
def Qkj (k:Int)(f:Fun)(H:f.2.2.size<=5000):F.dD k f=some (chk k f):=by
 have Y:F.cf 2=some [1,2,3,4,5,6,7,8]:=by kernel_rfl
 have u3:F.cf 3=some [11,12,13]:=by kernel_rfl
 have u4:F.cf 4=some [21,22]:=by kernel_rfl
 have u8:F.cf 8=some [31,32,33,34]:=by kernel_rfl
 have u11:F.cf 11=some [41,42]:=by kernel_rfl
 have u0:F.bz 1 0=some []:=by kernel_rfl
 unfold F.dD chk kinds;by_cases h2:k=2;subst h2;rw[Y,Qa,Qb (by simp),F.aL,Qb (by simp),R06_l f H _ (by simp)];simp;by_cases J:k=3;subst J;rw[u3,Qa,Qb (by simp),F.aL,Qb (by simp),R06_l f H _ (by simp)];simp;by_cases N:k=4;subst N;rw[u4,Qa,Qb (by simp),F.aL,Qb (by simp),R06_l f H _ (by simp)];simp;by_cases W:k=8;subst W;rw[u8,Qa,Qb (by simp),F.aL,Qb (by simp),R06_l f H _ (by simp)];simp;by_cases E:k=11;subst E;rw[u11,Qa,Qb (by simp),F.aL,Qb (by simp),R06_l f H _ (by simp)];simp;have u:F.cf k=some []:=by unfold F.cf;simp only[h2,J,N,W,E,Wf,u0]
 rw[u,Qa,Qc (by simp),F.aL,R06_l f H _ (by simp)];simp only[h2,J,N,W,E,Wf,Xn,Q1,anyF,List.any_nil,Qz];by_cases I:f=(0,0,QE);rw[Qc I,Qc I];rw[Qb I,Qb I]
end Go.Proofs.YtligcbdjiolamaaGreatDoor
end
section
namespace Go.Utf
open Go.Lib
abbrev Rn:=List UInt8×Int
structure Ck (c:Rn):Prop where
 ne:c.1≠[]
 four:c.1.length<=4
 enc:(Utf8.encode c.2).data.toList=c.1
 dec: ∀rest,decodeL (c.1++rest)=(c.2.toNat,c.1.length)
 nn:0<=c.2
 top:c.2<=1114111
 ok: ¬(c.2.toNat=65533/\c.1.length=1)
abbrev flat (cs:List Rn):List UInt8:=cs.flatMap (·.1)
def foldl_toList (ns:QP): ∀s:ByteArray,(ns.foldl (λr n=>r++Utf8.encode n) s).data.toList=s.data.toList++ns.flatMap λn=>(Utf8.encode n).data.toList:=by
 induction ns with
 |nil=>intro s;simp
 |cons n ns ih=>intro s;rw[List.foldl_cons,ih];simp[ByteArray.data_append]
def ba_eq {s t:ByteArray}(h:s.data.toList=t.data.toList):s=t:=by
 cases s;cases t;congr;exact Yk.1 h
def bd (n:Nat):Nat->List Rn->Nat
 |p,[]=>p
 |p,c::cs=>if p+c.1.length<=n then bd n (p+c.1.length) cs else p
end Go.Utf
end
section
namespace Go.Proofs.YtligcbdjiolamaaGreatDoor
open Go.RowKit Go.Graph Go.Utf
abbrev pos (cs:List Rn) (k:Nat):Nat:=(flat (cs.take k)).length
abbrev Rec:=Int×ByteArray
def okT (s:ByteArray):Bool:=decide (s.size<=64)&&vld s s.size 0
def Qjm (r:Rec):F.dy r=some (if okT r.2=true then 0 else 50):=by
 rw[F.dy];unfold okT;by_cases h:r.2.size<=64;rw[Qb (by omega),F.ay,Qcu,Qa,F.cq,Q4 h,Xp];cases vld r.2 r.2.size 0<;>rfl;rw[Qc (by omega),F.cq,Qc rfl,Wh h];rfl
def Qjc (r:Rec):F.dJ r=some (if okT r.2=true then 0 else 50):=by
 rw[F.dJ];unfold okT;by_cases h:r.2.size<=64;rw[Qb (by omega),Qiw _ (by omega),Qa,F.cD,Q4 h,Xp];cases vld r.2 r.2.size 0<;>rfl;rw[Qc (by omega),F.cD,Qc rfl,Wh h];rfl
end Go.Proofs.YtligcbdjiolamaaGreatDoor
end
section
namespace Go.Ent
open Go.Utf
abbrev En:=Int×Int×ByteArray×Int
abbrev Ky:=Int×Int×ByteArray
abbrev key (e:En):Ky:=(e.1,e.2.1,e.2.2.1)
abbrev num (e:En):Int:=e.2.2.2
def bL_irr: ∀a:List UInt8,Op.bytesLess a a=false
 | []=>rfl
 |x::a=>by unfold Op.bytesLess;rw[bL_irr a];simp
def bL_tr: ∀{a b c:List UInt8},Op.bytesLess a b=true->Op.bytesLess b c=true->Op.bytesLess a c=true
 |_,_,[],_,h=>by cases h':(‹List UInt8›)<;>simp_all [Op.bytesLess]
 |_,[],_::_,h,_=>by simp_all [Op.bytesLess]
 | [],_::_,_::_,_,_=>rfl
 |x::a,y::b,z::c,h1,h2=>by
  unfold Op.bytesLess at h1 h2 ⊢;simp only[Xv,Qf,Q1,beq_iff_eq]at h1 h2 ⊢;rcases h1 with h1|⟨rfl,h1⟩
  rcases h2 with h2|⟨rfl,h2⟩
  exact .inl (UInt8.lt_trans h1 h2);exact .inl h1;rcases h2 with h2|⟨rfl,h2⟩
  exact .inl h2;exact .inr ⟨rfl,bL_tr h1 h2⟩
def bL_tri: ∀{a b:List UInt8},Op.bytesLess a b=false->Op.bytesLess b a=false->a=b
 | [],[],_,_=>rfl
 | [],_::_,h,_=>by simp[Op.bytesLess]at h
 |_::_,[],_,h=>by simp[Op.bytesLess]at h
 |x::a,y::b,h1,h2=>by
  unfold Op.bytesLess at h1 h2;simp only[Y3,decide_eq_false_iff_not,J3]at h1 h2;have e:x=y:=UInt8.le_antisymm (UInt8.not_lt.1 h2.1) (UInt8.not_lt.1 h1.1);subst e;have E:Op.bytesLess a b=false:=by rcases h1.2 with h|h;simp at h;exact h
  have H:Op.bytesLess b a=false:=by rcases h2.2 with h|h;simp at h;exact h
  rw[bL_tri E H]
def bl (s t:ByteArray):Bool:=Op.bytesLess s.toList t.toList
def bl_irr (s:ByteArray):bl s s=false:=bL_irr _
def bl_tr {s t u:ByteArray}(h1:bl s t=true)(h2:bl t u=true):bl s u=true:=bL_tr h1 h2
def bl_tri {s t:ByteArray}(h1:bl s t=false)(h2:bl t s=false):s=t:=by
 have:=bL_tri h1 h2;rw[Lib.toList_data,Lib.toList_data]at this;exact ba_eq this
def rl (a b:Int×ByteArray):Bool:=decide (a.1<b.1)||(decide (a.1=b.1)&&bl a.2 b.2)
def rl_irr (a:Int×ByteArray):rl a a=false:=by unfold rl;rw[bl_irr];simp
def rl_tr {a b c:Int×ByteArray}(h1:rl a b=true)(h2:rl b c=true):rl a c=true:=by
 unfold rl at h1 h2 ⊢;simp only[Xv,Qf,Q1]at h1 h2 ⊢;rcases h1 with h1|⟨h1,h1'⟩
 rcases h2 with h2|⟨h2,h2'⟩
 left;omega;left;omega;rcases h2 with h2|⟨h2,h2'⟩
 left;omega;exact .inr ⟨h1.trans h2,bl_tr h1' h2'⟩
def rl_tri {a b:Int×ByteArray}(h1:rl a b=false)(h2:rl b a=false):a=b:=by
 unfold rl at h1 h2;simp only[Y3,decide_eq_false_iff_not,J3]at h1 h2;have e:a.1=b.1:=by omega
 have E:bl a.2 b.2=false:=by rcases h1.2 with h|h;exact absurd e h;exact h
 have H:bl b.2 a.2=false:=by rcases h2.2 with h|h;exact absurd e.symm h;exact h
 exact Prod.ext e (bl_tri E H)
def kl (a b:Ky):Bool:=decide (a.1<b.1)||(decide (a.1=b.1)&&rl a.2 b.2)
def kl_irr (a:Ky):kl a a=false:=by unfold kl;rw[rl_irr];simp
def kl_tr {a b c:Ky}(h1:kl a b=true)(h2:kl b c=true):kl a c=true:=by
 unfold kl at h1 h2 ⊢;simp only[Xv,Qf,Q1]at h1 h2 ⊢;rcases h1 with h1|⟨h1,h1'⟩
 rcases h2 with h2|⟨h2,h2'⟩
 left;omega;left;omega;rcases h2 with h2|⟨h2,h2'⟩
 left;omega;exact .inr ⟨h1.trans h2,rl_tr h1' h2'⟩
def kl_tri {a b:Ky}(h1:kl a b=false)(h2:kl b a=false):a=b:=by
 unfold kl at h1 h2;simp only[Y3,decide_eq_false_iff_not,J3]at h1 h2;have e:a.1=b.1:=by omega
 have E:rl a.2 b.2=false:=by rcases h1.2 with h|h;exact absurd e h;exact h
 have H:rl b.2 a.2=false:=by rcases h2.2 with h|h;exact absurd e.symm h;exact h
 exact Prod.ext e (rl_tri E H)
def kl_ne {a b:Ky}(h:kl a b=true):a≠b:=λe=>by subst e;rw[kl_irr]at h;cases h
def kl_asy {a b:Ky}(h:kl a b=true):kl b a=false:=by
 cases h2:kl b a with
 |false=>rfl
 |true=>have:=kl_tr h h2;rw[kl_irr]at this;cases this
abbrev Srt (l:List En):Prop:=l.Pairwise λa b=>kl (key a) (key b)=true
def gv:List En->Ky->Int
 | [],_=>0
 |e::l,k=>if key e=k then num e else gv l k
def gv_none: ∀{l:List En} {k:Ky},(∀e,e∈l->key e≠k)->gv l k=0
 | [],_,_=>rfl
 |e::l,k,h=>by unfold gv;rw[Qb (h e (Qg ..))];exact gv_none λx hx=>h x (Qe _ hx)
def gv_mem: ∀{l:List En} {e:En},Srt l->e∈l->gv l (key e)=num e
 |x::l,e,h,E=>by
  unfold gv;rcases Qk.1 E with rfl|E
  rw[Qc rfl];rw[Qb (kl_ne ((Wc.1 h).1 e E))];exact gv_mem (Wc.1 h).2 E
def gv_at {l:List En}{k:Ky}(h:gv l k≠0): ∃e,e∈l/\key e=k/\num e=gv l k:=by
 induction l with
 |nil=>exact absurd rfl h
 |cons x l ih=>
  unfold gv at h ⊢;by_cases hx:key x=k;rw[Qc hx];exact⟨x,Qg ..,hx,rfl⟩;rw[Qb hx]at h ⊢;obtain⟨e,h1,h2⟩:=ih h;exact⟨e,Qe _ h1,h2⟩
def en_ext {a b:En}(h:key a=key b)(E:num a=num b):a=b:=by
 obtain⟨a1,a2,a3,a4⟩:=a;obtain⟨b1,b2,b3,b4⟩:=b;simp only[key,num,Qv]at h E;obtain⟨rfl,rfl,rfl⟩:=h;subst E;rfl
def srt_ext: ∀{l m:List En},Srt l->Srt m->(∀e,e∈l↔e∈m)->l=m
 | [],[],_,_,_=>rfl
 | [],y::m,_,_,h=>by have:=(h y).2 (Qg ..);cases this
 |x::l,[],_,_,h=>by have:=(h x).1 (Qg ..);cases this
 |x::l,y::m,H,I,h=>by
  have e:x=y:=by
   rcases Qk.1 ((h x).1 (Qg ..))with e|hx
   exact e;rcases Qk.1 ((h y).2 (Qg ..))with e|N
   exact e.symm;have h1:=(Wc.1 I).1 x hx;have h2:=(Wc.1 H).1 y N;rw[kl_asy h1]at h2;cases h2
  subst e;congr 1;refine srt_ext (Wc.1 H).2 (Wc.1 I).2 λe=>?_;have nl: ∀z,z∈l->z≠x:=λz J e=>by subst e;have:=(Wc.1 H).1 z J;rw[kl_irr]at this;cases this
  have nm: ∀z,z∈m->z≠x:=λz J e=>by subst e;have:=(Wc.1 I).1 z J;rw[kl_irr]at this;cases this
  exact⟨λE=>((Qk.1 ((h e).1 (Qe _ E))).resolve_left (nl e E)),λE=>((Qk.1 ((h e).2 (Qe _ E))).resolve_left (nm e E))⟩
structure Nf (l:List En):Prop where
 srt:Srt l
 nz: ∀e,e∈l->num e≠0
def nf_mem {l m:List En}(E:Nf l)(N:Nf m)(h: ∀k,gv l k=gv m k){e:En}(H:e∈l):e∈m:=by
 have h1:=gv_mem E.srt H;rw[h]at h1;obtain⟨e',h2,J,I⟩:=gv_at (l:=m) (k:=key e) (by rw[h1];exact E.nz e H);rw[h1]at I;rw[<-en_ext J I];exact h2
def nf_ext {l m:List En}(E:Nf l)(H:Nf m)(h: ∀k,gv l k=gv m k):l=m:=
 srt_ext E.srt H.srt λe=>⟨nf_mem E H h,nf_mem H E λk=>(h k).symm⟩
def upd (x e:En)(one:Bool):En:=(x.1,x.2.1,x.2.2.1,if one=true then 1 else min (num x+num e) 1099511627776)
def insP (e:En)(one:Bool):List En->List En
 | []=>[e]
 |x::l=>if key x=key e then upd x e one::l else if kl (key e) (key x)=true then e::x::l else x::insP e one l
def putP (e:En)(one:Bool)(l:List En):List En:=if num e=0 then l else insP e one l
abbrev cap (one:Bool):Int:=if one=true then 1 else 1099511627776
structure Bd (one:Bool) (l:List En):Prop where
 srt:Srt l
 b: ∀e,e∈l->1<=num e/\num e<=cap one
def Bd.nf {one:Bool}{l:List En}(h:Bd one l):Nf l:=⟨h.srt,λe E=>by have:=(h.b e E).1;omega⟩
def Bd.gv {one:Bool}{l:List En}(h:Bd one l)(k:Ky):0<=gv l k/\gv l k<=cap one:=by
 by_cases h0:Ent.gv l k=0;rw[h0];cases one<;>decide;obtain⟨e,h1,_,h2⟩:=gv_at h0;have:=h.b e h1;rw[h2]at this;exact⟨by omega,this.2⟩
def Qir {e:En}{one:Bool}: ∀{l:List En} {x:En},x∈insP e one l->x=e\/x∈l\/∃y,y∈l/\key y=key e/\x=upd y e one
 | [],x,h=>by simp only[insP,Qr]at h;exact .inl h
 |y::l,x,h=>by
  unfold insP at h;split at h;rename_i hk;rcases Qk.1 h with rfl|h
  exact .inr (.inr ⟨y,Qg ..,hk,rfl⟩);exact .inr (.inl (Qe _ h));split at h;rcases Qk.1 h with rfl|h
  exact .inl rfl;exact .inr (.inl h);rcases Qk.1 h with rfl|h
  exact .inr (.inl (Qg ..));rcases Qir h with h1|h1|⟨z,h1,h2⟩
  exact .inl h1;exact .inr (.inl (Qe _ h1));exact .inr (.inr ⟨z,Qe _ h1,h2⟩)
def insP_key {e:En}{one:Bool}{l:List En}{x:En}(h:x∈insP e one l):key x=key e\/∃y,y∈l/\key x=key y:=by
 rcases Qir h with rfl|h|⟨y,h1,h2,rfl⟩
 exact .inl rfl;exact .inr ⟨x,h,rfl⟩;exact .inr ⟨y,h1,rfl⟩
def insP_srt {e:En}{one:Bool}: ∀{l:List En},Srt l->Srt (insP e one l)
 | [],_=>by simp[insP]
 |x::l,h=>by
  obtain⟨h1,h2⟩:=Wc.1 h;unfold insP;split;rename_i hk;exact Wc.2 ⟨λy H=>h1 y H,h2⟩;rename_i hk;split;rename_i E;exact Wc.2 ⟨λy H=>(Qk.1 H).elim (λe=>e▸E) λH=>kl_tr E (h1 y H),h⟩;rename_i E;refine Wc.2 ⟨λy H=>?_,insP_srt h2⟩;rcases insP_key H with I|⟨z,N,I⟩
  rw[I];cases J:kl (key x) (key e)with
  |true=>rfl
  |false=>exact absurd (kl_tri J (by simpa using E)) hk
  rw[I];exact h1 z N
def insP_gv {e:En}{one:Bool}{k:Ky}: ∀{l:List En},Bd one l->1<=num e->num e<=cap one->gv (insP e one l) k=if k=key e then min (cap one) (gv l k+num e)else gv l k
 | [],_,h1,h2=>by
  unfold insP gv gv;by_cases hk:k=key e;rw[Qc hk.symm,Qc hk];omega;rw[Qb (λh=>hk h.symm),Qb hk]
 |x::l,h,h1,h2=>by
  obtain⟨s1,J⟩:=Wc.1 h.srt;have N:Bd one l:=⟨J,λy H=>h.b y (Qe _ H)⟩;have hx:=h.b x (Qg ..);unfold insP;split;rename_i E;unfold gv;by_cases hk:k=key e;rw[Qc (show key (upd x e one)=k from E.trans hk.symm),Qc hk,Qc (E.trans hk.symm)];unfold num at h1 h2 hx;unfold upd num;cases one with
  |true=>simp only[Xn];simp only[cap,Xn]at h2 hx ⊢;omega
  |false=>simp only[Qz,Wf];simp only[cap,Qz,Wf];omega
  rw[Qb (show key (upd x e one)≠k from λh=>hk (h.symm.trans E)),Qb hk,Qb (λh=>hk (h.symm.trans E))];rename_i E;split;rename_i I;by_cases hk:k=key e;have h0:gv (x::l) k=0:=gv_none λy H W=>by
   have:kl (key e) (key y)=true:=(Qk.1 H).elim (λe=>e▸I) λH=>kl_tr I (s1 y H);exact kl_ne this (W.trans hk).symm
  rw[Qc hk,h0];conv=>lhs;unfold gv
  rw[Qc hk.symm];omega;conv=>lhs;unfold gv
  rw[Qb (λh=>hk h.symm),Qb hk];unfold gv;by_cases hk:key x=k;rw[Qc hk,Qc hk,Qb (λh=>E (hk.trans h))];rw[Qb hk,Qb hk];exact insP_gv N h1 h2
def cs (C:Int)(l:List En)(k:Ky):Int:=l.foldl (λa e=>if key e=k then min C (a+num e)else a) 0
end Go.Ent
end
section
namespace Go.Proofs.YtligcbdjiolamaaGreatDoor
open Go.RowKit Go.Graph Go.Utf Go.Ent
def cI (a b:Int):Int:=if a<b then-1 else if b<a then 1 else 0
def Qii (a b:Int):F.be a b=some (cI a b):=by
 rw[F.be];simp only[F.b8,Qa,ne_eq,not_true,decide_false,Qz,Wf];unfold cI;by_cases h1:a<b;rw[Qc h1,Qc h1];rw[Qb h1,Qb h1];by_cases h2:b<a;rw[Qc h2,Qc h2];rw[Qb h2,Qb h2]
def cmpi_eq (a b:Int):F.cU a b=some (cI a b):=Qii a b
def cS (a b:ByteArray):Int:=if bl a b=true then-1 else if a=b then 0 else 1
def tl_eq {a b:ByteArray}:(a.toList==b.toList)=decide (a=b):=by
 rw[Lib.toList_data,Lib.toList_data];by_cases h:a=b;subst h;simp;rw[Wh h];exact beq_eq_false_iff_ne.2 λe=>h (ba_eq e)
def cmps_eq (a b:ByteArray):F.bA a b=some (cS a b):=by
 rw[F.bA];simp only[F.bZ,Qa,ne_eq,not_true,decide_false,Qz,Wf,tl_eq];unfold cS bl;by_cases h1:Op.bytesLess a.toList b.toList=true;rw[Qc h1,Qc h1];rw[Qb h1,Qb h1];rw[Jo]at h1;by_cases h2:a=b;subst h2;rw[h1];simp;rw[h1,Wh h2];simp[h2]
def cB_eq: ∀a b:List UInt8,Lib.compareBytes a b=if Op.bytesLess a b=true then-1 else if a=b then 0 else 1
 | [],[]=>rfl
 | [],_::_=>rfl
 |_::_,[]=>by simp[Lib.compareBytes,Op.bytesLess]
 |x::a,y::b=>by
  unfold Lib.compareBytes Op.bytesLess;by_cases h1:x<y;simp[h1];by_cases h2:y<x;have E:x≠y:=λe=>by subst e;exact h1 h2
  simp[h1,h2,E];have e:x=y:=UInt8.le_antisymm (UInt8.not_lt.1 h2) (UInt8.not_lt.1 h1);subst e;rw[Qb h1,Qb h1,cB_eq a b];simp[h1]
def scmp_eq (a b:ByteArray):F.cT a b=some (cS a b):=by
 rw[F.cT,cB_eq];unfold cS bl;rw[Lib.toList_data,Lib.toList_data];by_cases h:a=b;subst h;simp;have:a.data.toList≠b.data.toList:=λe=>h (ba_eq e);simp[h,this]
def or_eq (l:QP)(E:l.length<=100):F.cG l=some ((l.find? λx=>decide (x≠0)).getD 0):=
 A.lp0 l (λf y=>F.bT l f y) (λ_ r=>some ((r.find? λx=>decide (x≠0)).getD 0))
  (λf=>by rw[F.bT,Qb (by omega)];rfl)
  (λf k x hx hk ih=>by
   rw[F.bT,Qc (by omega),A.ixn hx,Qa,List.find?_cons];by_cases h:x=0;rw[Qb (λh2=>h2 h),A.gd1 ⟨by omega,by omega⟩,ih,Wh (λh2=>h2 h)];rw[Qc h,Q4 h];rfl)
  (by have:=Qac;omega)
def or2 (a b:Int):F.cG [a,b]=some (if a≠0 then a else b):=by
 rw[or_eq _ (by simp)];by_cases h:a=0;subst h;by_cases h2:b=0;subst h2;rfl;simp[h2];simp[h]
def or3 (a b c:Int):F.cG [a,b,c]=some (if a≠0 then a else if b≠0 then b else c):=by
 rw[or_eq _ (by simp)];by_cases h:a=0;subst h;by_cases h2:b=0;subst h2;by_cases E:c=0;subst E;rfl;simp[E];simp[h2];simp[h]
abbrev rec (e:En):Int×ByteArray:=(e.2.1,e.2.2.1)
def cS_cases (a b:ByteArray):(bl a b=true/\cS a b= -1)\/(a=b/\bl a b=false/\cS a b=0)\/(a≠b/\bl a b=false/\bl b a=true/\cS a b=1):=by
 unfold cS;cases h:bl a b with
 |true=>exact .inl ⟨rfl,by simp⟩
 |false=>
  by_cases h2:a=b;exact .inr (.inl ⟨h2,rfl,by simp[h2]⟩);refine .inr (.inr ⟨h2,rfl,?_,by simp[h2]⟩);cases E:bl b a with
  |true=>rfl
  |false=>exact absurd (bl_tri h E) h2
def Qie (a b:Int):(a<b/\cI a b= -1)\/(a=b/\cI a b=0)\/(b<a/\cI a b=1):=by
 unfold cI;by_cases h:a<b;exact .inl ⟨h,Qc h⟩;by_cases h2:b<a;exact .inr (.inr ⟨h2,by rw[Qb h,Qc h2]⟩);exact .inr (.inl ⟨by omega,by rw[Qb h,Qb h2]⟩)
def cR (a b:Int×ByteArray):Int:=if cI a.1 b.1≠0 then cI a.1 b.1 else cS a.2 b.2
def cR_lt (a b:Int×ByteArray):decide (cR a b<0)=rl a b:=by
 unfold cR rl;rcases Qie a.1 b.1 with⟨h,e⟩|⟨h,e⟩|⟨h,e⟩
 rw[e];simp[h];rw[e,h];simp only[ne_eq,not_true,Wf,Int.lt_irrefl,decide_false,X9,decide_true,Xp];rcases cS_cases a.2 b.2 with⟨h2,E⟩|⟨h2,H,E⟩|⟨h2,H,I,E⟩
 rw[E,h2];rfl;rw[E,H];rfl;rw[E,H];rfl;rw[e];have h1: ¬a.1<b.1:=by omega
 have h2: ¬a.1=b.1:=by omega
 simp[h1,h2]
def ahead_eq (a b:En):F.dd a b=some (rl (rec a) (rec b)):=by
 rw[F.dd,Qii,Qa,scmp_eq,Qa,or2,Qa];exact W8 some (cR_lt (rec a) (rec b))
def Qge (a b:Int×ByteArray):F.cR a b=some (cR a b):=by
 rw[F.cR];unfold cR;rcases Qie a.1 b.1 with⟨h,e⟩|⟨h,e⟩|⟨h,e⟩
 rw[Qc h,e];rfl;rw[Qb (by omega),Qb (by omega),e];simp only[tl_eq];unfold cS bl;by_cases h1:Op.bytesLess a.2.toList b.2.toList=true;rw[Qc h1,Qc h1];rfl;rw[Qb h1,Qb h1];rw[Jo]at h1;rw[h1];by_cases h2:a.2=b.2;simp[h2];simp[h2];rw[Qb (by omega),Qc h,e];rfl
def Qje (a b:En):F.dK a b=some (rl (rec a) (rec b)):=by
 rw[F.dK];show(F.cR (rec a) (rec b)).bind _=_;rw[Qge,Qa,cR_lt]
def Qkl (a b:En):F.dz a b=some (kl (key a) (key b)):=by
 rw[F.dz];unfold kl rl;by_cases h:a.1=b.1;rw[Qb (λh2=>h2 h)];by_cases h2:a.2.1<b.2.1;rw[Qc h2];simp[h,h2];rw[Qb h2];show some (bif decide (a.2.1=b.2.1)then bl a.2.2.1 b.2.2.1 else false)=_;by_cases E:a.2.1=b.2.1;simp[h,E];simp[h,h2,E];rw[Qc h];simp[h]
def entOk (n:Nd)(x:En):Bool:=
 if x.1≠n.1 then false else if n.2.1=11 then decide (x.2.2.1=QE)&&decide (0<=x.2.2.2)&&decide (x.2.2.2<=1099511627776)else if n.2.1=16 then decide (x.2.2.2=1)&&okT x.2.2.1 else false
def stF (n:Nd):Option En->List En->Bool
 |_,[]=>true
 |none,e::l=>entOk n e&&stF n (some e) l
 |some p,e::l=>entOk n e&&rl (rec p) (rec e)&&stF n (some e) l
def stP (n:Nd)(l:List En):Bool:=stF n none l
def entry_eq (n:Nd)(x:En):F.dc n x=some (entOk n x):=by
 rw[F.dc];unfold entOk;by_cases h0:x.1=n.1;have h0': ¬(x.1≠n.1):=λh=>h h0;rw[Qb h0',Qb h0'];by_cases h1:n.2.1=11;rw[Qc h1,Qc h1];congr 1;by_cases a1:x.2.2.1=QE<;>by_cases a2:(0:Int)<=x.2.2.2<;>by_cases a3:x.2.2.2<=1099511627776<;>simp[a1,a2,a3];rw[Qb h1,Qb h1];by_cases h2:n.2.1=16;rw[Qc h2,Qc h2];by_cases E:x.2.2.2=1;rw[Qc E];show(F.dy (rec x)).bind _=_;rw[Qjm,Qa,F.b6,Q4 E,Xp];show some (decide ((if okT x.2.2.1=true then(0:Int)else 50)=0))=_;cases okT x.2.2.1<;>rfl;rw[Qb E,F.b6,Wh E];rfl;rw[Qb h2,Qb h2];rw[Qc h0,Qc h0]
abbrev prv (l:List En) (k:Nat):Option En:=if k=0 then none else l[k-1]?
def prv_s (l:List En)(k:Nat){x:En}(h:l[k]?=some x):prv l (k+1)=some x:=by unfold prv;rw[Qb (by omega)];exact h
def Qik (n:Nd)(l:List En)(J:l.length<=9223372036854775807):F.b9 n l=some (if stP n l=true then 0 else 171):=
 A.lp0 l (λf y=>F.p n l f y) (λk r=>some (if stF n (prv l k) r=true then 0 else 171))
  (λf=>by
   rw[F.p,Qb (by omega)];cases prv l l.length<;>rfl)
  (λf k x hx hk ih=>by
   rw[F.p,Qc (by omega),A.ixn hx,Qa];show(F.dc n x).bind _=_;rw[prv_s l k hx]at ih;have nx: ∀b:Bool,F.aB (F.p n l f) (k:Int) b=some (if(!b&&stF n (some x) (l.drop (k+1)))=true then 0 else 171):=λb=>by
    rw[F.aB];cases b with
    |true=>rw[Qc rfl];rfl
    |false=>rw[Qb (by simp),A.gd1 ⟨by omega,by omega⟩,ih];rfl
   rw[entry_eq,Qa];by_cases E:k=0;subst E;show _=some (if(entOk n x&&stF n (some x) (l.drop (0+1)))=true then 0 else 171);cases I:entOk n x with
   |false=>rw[Xz,Qc rfl,nx];rfl
   |true=>rw[Xk,Qb (by simp),Qb (by omega),nx];rfl
   have hp:prv l k=l[k-1]?:=by unfold prv;rw[Qb E]
   obtain⟨p,H⟩: ∃p,l[k-1]?=some p:=⟨_,Qh (by omega)⟩;rw[hp,H];show _=some (if(entOk n x&&rl (rec p) (rec x)&&stF n (some x) (l.drop (k+1)))=true then 0 else 171);cases I:entOk n x with
   |false=>rw[Xz,Qc rfl,nx];rfl
   |true=>
    rw[Xk,Qb (by simp),Qc (by omega),A.gd1 ⟨by omega,by omega⟩,show(k:Int)-1=((k-1:Nat):Int) by omega,A.ixn H,Qa];show(F.dd p x).bind _=_;rw[ahead_eq,Qa,nx,Bool.not_not,Xp])
  (by have:=Qac;omega)
def Qdi (n:Nd)(l:List En)(hl:l.length<=9223372036854775807):F.cE n l=some (if stP n l=true then 0 else 171):=
 A.lp0 l (λf y=>F.g n l f y) (λk r=>some (if stF n (prv l k) r=true then 0 else 171))
  (λf=>by
   rw[F.g,Qb (by omega)];cases prv l l.length<;>rfl)
  (λf k x hx hk ih=>by
   rw[F.g,Qc (by omega),A.ixn hx,Qa,F.ek,Qa];rw[prv_s l k hx]at ih;have nx: ∀b:Bool,F.aH (F.g n l f) (k:Int) b=some (if(b&&stF n (some x) (l.drop (k+1)))=true then 0 else 171):=λb=>by
    rw[F.aH];cases b with
    |false=>rw[Qc (show(!false)=true from rfl)];rfl
    |true=>rw[Qb (show ¬((!true)=true) by simp),A.gd1 ⟨by omega,by omega⟩,ih];rfl
   have j2: ∀a:Bool,(n.2.1=11\/n.2.1=16)->x.1=n.1->F.z (F.g n l f) n (k:Int) x a=some (if(entOk n x&&a&&stF n (some x) (l.drop (k+1)))=true then 0 else 171):=λa N W=>by
    rw[F.z];unfold entOk;have hx1': ¬(x.1≠n.1):=λh=>h W;rw[Qb hx1'];by_cases E:n.2.1=11;rw[Qc E,Qc E,nx];by_cases a1:x.2.2.1=QE<;>by_cases a2:(0:Int)<=x.2.2.2<;>by_cases a3:x.2.2.2<=1099511627776<;>cases a<;>simp[a1,a2,a3];have Y:n.2.1=16:=N.resolve_left E;rw[Qb E,Qb E,Qc Y];cases a with
    |false=>rw[cond_false,Qb (by simp),nx];simp
    |true=>
     rw[cond_true];by_cases h1:x.2.2.2=1;rw[Qc (Q4 h1)];show(F.dJ (rec x)).bind _=_;rw[Qjc,Qa,nx,Q4 h1];show some (if(decide ((if okT x.2.2.1=true then(0:Int)else 50)=0)&&_)=true then _ else _)=_;cases okT x.2.2.1<;>rfl;rw[Qb (by simpa using h1),nx,Wh h1];rfl
   simp only[A.bo,A.ba];have main: ∀a:Bool,(if decide ((n.2.1=11\/n.2.1=16)/\x.1=n.1)=true then F.z (F.g n l f) n (k:Int) x a else F.z (F.g n l f) n (k:Int) x false)=some (if(entOk n x&&a&&stF n (some x) (l.drop (k+1)))=true then 0 else 171):=λa=>by
    by_cases H:(n.2.1=11\/n.2.1=16)/\x.1=n.1;rw[Qc (Q4 H),j2 a H.1 H.2];rw[Qb (by simpa using H)];have he:entOk n x=false:=by
     unfold entOk;by_cases h0:x.1=n.1;rw[Qb (λh=>h h0),Qb (λh=>H ⟨.inl h,h0⟩),Qb (λh=>H ⟨.inr h,h0⟩)];rw[Qc h0]
    rw[he,F.z];by_cases E:n.2.1=11;rw[Qc E,nx];rfl;rw[Qb E,Qb (by simp),nx];rfl
   by_cases I:k=0;subst I;have:=main true;rw[Y4]at this;refine Eq.trans ?_ this;rfl;have hp:prv l k=l[k-1]?:=by unfold prv;rw[Qb I]
   obtain⟨p,J⟩: ∃p,l[k-1]?=some p:=⟨_,Qh (by omega)⟩;rw[hp,J,Qb (show ¬((k:Int)=0) by omega),A.gd1 ⟨by omega,by omega⟩,show(k:Int)-1=((k-1:Nat):Int) by omega,A.ixn J,Qa];show(if _ then(F.dK p x).bind _ else _)=_;rw[Qje,Qa];exact main _)
  (by have:=Qac;omega)
def Qly {n:Nd}: ∀{p:Option En} {l:List En},stF n p l=true->∀e,e∈l->entOk n e=true
 |_,[],_,e,h=>by cases h
 |none,x::l,h,e,E=>by
  unfold stF at h;rw[Qf]at h;exact(Qk.1 E).elim (λe=>e▸h.1) (Qly h.2 e)
 |some p,x::l,h,e,E=>by
  unfold stF at h;rw[Qf,Qf]at h;exact(Qk.1 E).elim (λe=>e▸h.1.1) (Qly h.2 e)
def stF_pw {n:Nd}: ∀{p:En} {l:List En},stF n (some p) l=true->(p::l).Pairwise λa b=>rl (rec a) (rec b)=true
 |p,[],_=>by simp
 |p,x::l,h=>by
  unfold stF at h;rw[Qf,Qf]at h;have ih:=stF_pw h.2;exact Wc.2 ⟨λy E=>(Qk.1 E).elim (λe=>e▸h.1.2) λE=>rl_tr h.1.2 ((Wc.1 ih).1 y E),ih⟩
def stP_iff {n:Nd}{l:List En}:stP n l=true↔(∀e,e∈l->entOk n e=true)/\l.Pairwise λa b=>rl (rec a) (rec b)=true:=by
 constructor;intro h;refine⟨Qly h,?_⟩;cases l with
 |nil=>exact List.Pairwise.nil
 |cons x l=>
  unfold stP stF at h;rw[Qf]at h;exact stF_pw h.2
 rintro⟨h1,h2⟩;have main: ∀(l:List En) (p:En),(∀e,e∈l->entOk n e=true)->(p::l).Pairwise (λa b=>rl (rec a) (rec b)=true)->stF n (some p) l=true:=by
  intro l;induction l with
  |nil=>intro p _ _;rfl
  |cons x l ih=>
   intro p h1 h2;unfold stF;rw[h1 x (Qg ..),(Wc.1 h2).1 x (Qg ..),ih x (λe E=>h1 e (Qe _ E)) (Wc.1 h2).2];rfl
 cases l with
 |nil=>rfl
 |cons x l=>
  unfold stP stF;rw[h1 x (Qg ..),main l x (λe E=>h1 e (Qe _ E)) h2];rfl
def Qls (a b:List En)(H:a.length<=9223372036854775806):F.du a b=some (decide (a=b)):=by
 rw[F.du];by_cases h:a.length=b.length;rw[Qb (by omega)];have:=A.lp0 a (λf y=>F.cc a b f y) (λk r=>some (decide (r=b.drop k)))
  (λf=>by
   rw[F.cc,Qb (by omega),h,Jn];rfl)
  (λf k x hx hk ih=>by
   obtain⟨y,E⟩: ∃y,b[k]?=some y:=⟨_,Qh (by omega)⟩;rw[F.cc,Qc (by omega),A.ixn hx,Qa,A.ixn E,Qa,A.dropx E];show(if x≠y then _ else _)=_;by_cases e:x=y;rw[Qb (λh=>h e),A.gd1 ⟨by omega,by omega⟩,ih];subst e;simp;rw[Qc e,Wh (λh=>e (List.cons.inj h).1)])
  (by have:=Qac;omega)
 rw[this];simp;rw[Qc (by omega),Wh (λe=>h (by rw[e]))]
end Go.Proofs.YtligcbdjiolamaaGreatDoor
end
section
namespace Go.A
def dem_of {α β:Type}[DecidableEq β]{m:List α}{sn:QM}{e:Option β}{g:Nat->α->Option β}{r:β}(h1:(∀i,i<m.length->i∈sn)->e=some r)(h2: ∀i p,m[i]?=some p->i∉sn->g i p=some r):dem m sn e g=some r:=by
 have hmem: ∀i,i∈(List.range m.length).filter (λi=> !(sn.contains i))↔i<m.length/\i∉sn:=λi=>by
  rw[Jt,Yy];simp
 unfold dem;split;rename_i I;rw[I]at hmem;refine h1 λi E=>?_;cases N:decide (i∈sn)with
 |true=>exact Wa N
 |false=>exact absurd ((hmem i).2 ⟨E,of_decide_eq_false N⟩) (by simp)
 rename_i i js I;rw[I]at hmem;obtain⟨E,W⟩:=(hmem i).1 (Qg ..);rw[Qh E,Qa,Qc];exact h2 i _ (Qh E) W;rw[Q8];intro j Y;obtain⟨H,J⟩:=(hmem j).1 (Qe _ Y);rw[Qh H,Qa,h2 j _ (Qh H) J,h2 i _ (Qh E) W];exact Q4 rfl
end Go.A
namespace Go.Proofs.YtligcbdjiolamaaGreatDoor
open Go.RowKit Go.Graph Go.Utf Go.Ent
def entOf (p:Ky×Int):Option En:=if p.2≠0 then some (p.1.1,p.1.2.1,p.1.2.2,p.2)else none
def Qar {p:Ky×Int}{e:En}(h:entOf p=some e):key e=p.1/\num e=p.2/\p.2≠0:=by
 unfold entOf at h;split at h;rename_i h0;injection h with h;subst h;exact⟨rfl,rfl,h0⟩
 cases h
abbrev hasK (k:Ky):Prop:=A.h6 k.1/\A.h6 k.2.1/\k.2.2.size<=maxLen
end Go.Proofs.YtligcbdjiolamaaGreatDoor
end
section
namespace Go.Proofs.YtligcbdjiolamaaGreatDoor
open Go.RowKit Go.Graph Go.Utf Go.Ent
def list1_eq (a b:En): ∃c,F.aZ a b=some c/\decide (c<0)=kl (key a) (key b):=by
 rw[F.aZ,cmpi_eq,Qa,Qii,Qa,cmps_eq,Qa,or3,Qa];refine⟨_,rfl,?_⟩;unfold kl;have:=cR_lt (rec a) (rec b);unfold cR at this;rcases Qie a.1 b.1 with⟨h,e⟩|⟨h,e⟩|⟨h,e⟩
 rw[e];simp[h];rw[e,Qb (by omega),this];simp[h];rw[e];have h1: ¬a.1<b.1:=by omega
 have h2: ¬a.1=b.1:=by omega
 simp[h1,h2]
def cl0_eq:A.cl0 (λx y=>F.aZ x y)=λx y=>kl (key x) (key y):=by
 funext x y;obtain⟨c,h1,h2⟩:=list1_eq x y;show(match F.aZ x y with|some c=>decide (c<0)|none=>false)=_;rw[h1];exact h2
def list_eq (m:List (Ky×Int))(hn:(m.map Prod.fst).Nodup)(hk: ∀p,p∈m->hasK p.1)(hlen:m.length*40<=140737488355328): ∃L,F.aj m A.FU [] []=some L/\Nf L/\∀k,gv L k=Z.mget 0 m k:=by
 have hinj: ∀{i j:Nat} {p q:Ky×Int},m[i]?=some p->m[j]?=some q->p.1=q.1->i=j:=λ{i j p q} I N e=>by
  have h1:(m.map Prod.fst)[i]?=some p.1:=by rw[Q6,I];rfl
  have h2:(m.map Prod.fst)[j]?=some p.1:=by rw[Q6,N,e];rfl
  exact(List.getElem?_inj (by rw[Wi];exact(Qd.1 I).1) hn).1 (h1.trans h2.symm)
 have strict: ∀l:List En,(l.map key).Nodup->Srt (A.srtL (λx y=>kl (key x) (key y)) l):=λl H=>by
  have O:A.OrdOn (λx y:En=>kl (key x) (key y)) l:=⟨λx _ y _ h=>kl_asy h,λx hx y hy h1 h2=>by
   have he:=kl_tri h1 h2;obtain⟨i,I⟩:=X7 hx;obtain⟨j,N⟩:=X7 hy;have W:(l.map key)[i]?=some (key x):=by rw[Q6,I];rfl
   have Y:(l.map key)[j]?=some (key x):=by rw[Q6,N];exact W8 some he.symm
   have:=(List.getElem?_inj (by rw[Wi];exact(Qd.1 I).1) H).1 (W.trans Y.symm);subst this;rw[I]at N;exact Xs N,λx _ y _ z _ h1 h2=>kl_tr h1 h2⟩
  have h1:=A.srtL_pw O l λa h=>h;have h2:((A.srtL (λx y:En=>kl (key x) (key y)) l).map key).Nodup:=((A.srtL_perm _ l).map key).nodup_iff.2 H;have W:(A.srtL (λx y:En=>kl (key x) (key y)) l).Pairwise λa b=>key a≠key b:=List.pairwise_map.1 h2;exact(h1.and W).imp λ{a b} ⟨Y,h5⟩=>by
   cases h6:kl (key a) (key b)with
   |true=>rfl
   |false=>exact absurd (kl_tri h6 Y) h5
 have ordB: ∀l:List En,(l.map key).Nodup->A.ordB (λx y=>F.aZ x y) l=true:=λl H=>by
  unfold A.ordB;rw[Q8];intro x hx;rw[Q8];intro y hy;rw[cl0_eq,Qf,Qf];obtain⟨c,hc,_⟩:=list1_eq x y;refine⟨⟨by show(F.aZ x y).isSome=true;rw[hc];rfl,?_⟩,?_⟩;show(bif kl (key x) (key y)then !kl (key y) (key x)else kl (key y) (key x)||decide (x=y))=true;cases h1:kl (key x) (key y)with
  |true=>rw[kl_asy h1];rfl
  |false=>
   cases h2:kl (key y) (key x)with
   |true=>rfl
   |false=>
    have he:=kl_tri h1 h2;obtain⟨i,I⟩:=X7 hx;obtain⟨j,N⟩:=X7 hy;have W:(l.map key)[i]?=some (key x):=by rw[Q6,I];rfl
    have Y:(l.map key)[j]?=some (key x):=by rw[Q6,N];exact W8 some he.symm
    have:=(List.getElem?_inj (by rw[Wi];exact(Qd.1 I).1) H).1 (W.trans Y.symm);subst this;rw[I]at N;rw[Q4 (Xs N)];rfl
  rw[Q8];intro z hz;show(!(kl (key x) (key y)&&kl (key y) (key z))||kl (key x) (key z))=true;cases h1:kl (key x) (key y)with
  |false=>rfl
  |true=>
   cases h2:kl (key y) (key z)with
   |false=>rfl
   |true=>rw[kl_tr h1 h2];rfl
 obtain⟨es,hes⟩: ∃es,es=m.filterMap entOf:=⟨_,rfl⟩;have hes_mem: ∀e,e∈es↔∃(i:Nat) (p:Ky×Int),m[i]?=some p/\entOf p=some e:=λe=>by
  rw[hes,List.mem_filterMap];exact⟨λ⟨p,h1,h2⟩=>by obtain⟨i,I⟩:=X7 h1;exact⟨i,p,I,h2⟩,λ⟨i,p,h1,h2⟩=>⟨p,Qn h1,h2⟩⟩
 have hes_nd:(es.map key).Nodup:=by
  rw[hes];have: ∀(l:List (Ky×Int)),(l.map Prod.fst).Nodup->((l.filterMap entOf).map key).Nodup:=by
   intro l;induction l with
   |nil=>intro _;simp
   |cons p l ih=>
    intro H;rw[Q9,Xa]at H;rw[List.filterMap_cons];cases hp:entOf p with
    |none=>exact ih H.2
    |some e=>
     simp only[Q9];refine Xa.2 ⟨λhm=>?_,ih H.2⟩;obtain⟨e2,h1,h2⟩:=Wu.1 hm;obtain⟨q,W,Y⟩:=List.mem_filterMap.1 h1;refine H.1 (Wu.2 ⟨q,W,?_⟩);rw[<-(Qar Y).1,h2,(Qar hp).1]
  exact this m hn
 obtain⟨L,hL⟩: ∃L,L=A.srtL (λx y:En=>kl (key x) (key y)) es:=⟨_,rfl⟩;have hLs:Srt L:=hL▸strict es hes_nd;have hLm: ∀e,e∈L↔e∈es:=λe=>by rw[hL];exact(A.srtL_perm _ es).mem_iff
 have main: ∀(f:Nat) (sn:QM) (xs:List En),sn.Nodup->(∀i,i∈sn->i<m.length)->m.length<f+sn.length->xs.length<=sn.length->(∀e,e∈xs↔∃(i:Nat) (p:Ky×Int),i∈sn/\m[i]?=some p/\entOf p=some e)->(xs.map key).Nodup->F.aj m f sn xs=some L:=by
  intro f;induction f with
  |zero=>intro sn xs h1 h2 W;have:=A.seen_lt h1 h2;omega
  |succ f ih=>
   intro sn xs h1 h2 W Y h5 h6;have hsl:=A.seen_lt h1 h2;rw[F.aj];refine A.dem_of (λhall=>?_) λi p hp I=>?_;have hm: ∀e,e∈xs↔e∈es:=λe=>by
    rw[h5,hes_mem];exact⟨λ⟨i,p,_,h⟩=>⟨i,p,h⟩,λ⟨i,p,J,E⟩=>⟨i,p,hall i (Qd.1 J).1,J,E⟩⟩
   rw[F.y,A.gd1 (by omega),A.srtF,Qc (ordB xs h6),Qa,cl0_eq];congr 1;refine srt_ext (strict xs h6) hLs λe=>?_;rw[hLm,<-hm];exact(A.srtL_perm _ xs).mem_iff;have hk1:=hk p (Qn hp);have hlt:=(Qd.1 hp).1;have hsn:(i::sn).Nodup:=Xa.2 ⟨I,h1⟩;have hsb: ∀j,j∈i::sn->j<m.length:=λj N=>(Qk.1 N).elim (λe=>e▸hlt) (h2 j);have hsl2:=A.seen_lt hsn hsb;rw[Ql]at hsl2;rw[A.gd1 ⟨Q4 hk1.1,Q4 hk1.2.1,hk1.2.2⟩];by_cases h0:p.2=0;rw[Qb (λh=>h h0)];refine ih _ _ hsn hsb (by rw[Ql];omega) (by rw[Ql];omega) (λe=>?_) h6;rw[h5];refine⟨λ⟨j,q,J,E⟩=>⟨j,q,Qe _ J,E⟩,λ⟨j,q,J,E,hc⟩=>⟨j,q,?_,E,hc⟩⟩;rcases Qk.1 J with rfl|J
   rw[hp]at E;injection E with E;subst E
   exact absurd h0 (Qar hc).2.2;exact J;have hent:entOf p=some (p.1.1,p.1.2.1,p.1.2.2,p.2):=by unfold entOf;rw[Qc h0]
   rw[Qc h0,A.gd1 (by simp only[Ql,Q2];omega)];refine ih _ _ hsn hsb (by rw[Ql];omega) (by simp only[Qu,Ql,Q2];omega) (λe=>?_) ?_;rw[Qx,h5,Qr];constructor;rintro(⟨j,q,J,E⟩|rfl);exact⟨j,q,Qe _ J,E⟩;exact⟨i,p,Qg ..,hp,hent⟩;rintro⟨j,q,J,E,hc⟩;rcases Qk.1 J with rfl|J
   rw[hp]at E;injection E with E;subst E
   rw[hent]at hc;exact .inr (Xs hc).symm;exact .inl ⟨j,q,J,E,hc⟩;rw[Xd,Q9,Yp];refine Xb.2 ⟨h6,by simp,λa J b E=>?_⟩;rw[Qr]at E;subst E;intro e;subst e;obtain⟨e2,h7,h8⟩:=Wu.1 J;obtain⟨j,q,h9,h10,h11⟩:=(h5 e2).1 h7;have:j=i:=hinj h10 hp (by rw[<-(Qar h11).1,h8]);subst this;exact I h9
 refine⟨L,?_,⟨hLs,λe he=>?_⟩,λk=>?_⟩;exact main A.FU [] [] Yq (by simp) (by have:=Qac;simp;omega) (by simp) (by simp) (by simp);obtain⟨i,p,h1,h2⟩:=(hes_mem e).1 ((hLm e).1 he);rw[(Qar h2).2.1];exact(Qar h2).2.2;by_cases hm:Z.mget 0 m k=0;rw[hm];by_cases hg:gv L k=0;exact hg;obtain⟨e,h1,h2,W⟩:=gv_at hg;obtain⟨i,p,Y,h5⟩:=(hes_mem e).1 ((hLm e).1 h1);have h6:=(Z.mget_get (z:=0) hn Y).1;obtain⟨a1,a2,a3⟩:=Qar h5;rw[<-a1,h2,hm]at h6;exact absurd h6.symm a3;have hh:Z.mhas m k=true:=by
  cases h:Z.mhas m k with
  |true=>rfl
  |false=>exact absurd (Z.mget_none h) hm
 have hmem:=Z.mget_mem (z:=0) hh;have h1:entOf (k,Z.mget 0 m k)=some (k.1,k.2.1,k.2.2,Z.mget 0 m k):=by unfold entOf;rw[Qc hm]
 obtain⟨i,I⟩:=X7 hmem;have h2:=gv_mem hLs ((hLm _).2 ((hes_mem _).2 ⟨i,_,I,h1⟩));exact h2
end Go.Proofs.YtligcbdjiolamaaGreatDoor
end
section
namespace Go.Proofs.YtligcbdjiolamaaGreatDoor
open Go.RowKit Go.Graph
def Ins_eq (k:Int):F.dv k=F.dj k:=rfl
def Qhb (k:Int):F.dj k=some (insK k):=by
 unfold F.dj insK;simp only[Bool.cond_decide];by_cases h1:k<1<;>by_cases h2:16<k<;>simp[h1,h2];by_cases E:k=1;simp[E];by_cases H:k=5<;>by_cases I:k=9<;>simp[E,H,I]
def Qkx (c:UInt8):F.di c=some (Qaz c):=by
 unfold F.di Qaz;by_cases h1:(97:Int)<=(c.toNat:Int)<;>by_cases h2:(c.toNat:Int)<=122<;>simp[h1,h2]
def digit_eq (c:UInt8):F.d3 c=some (Qig c):=by
 unfold F.d3 Qig;by_cases h1:(48:Int)<=(c.toNat:Int)<;>by_cases h2:(c.toNat:Int)<=57<;>simp[h1,h2]
def name_eq (s:ByteArray)(J:s.size<=5000):F.ec s=some (named s):=by
 have loop:F.a1 s A.FU 0=some (Qdh s.data.toList):=A.lp0 s.data.toList (λf y=>F.a1 s f y) (λ_ l=>some (Qdh l))
  (λf=>by rw[F.a1,Qb (by rw[Qfa];omega)];rfl)
  (λf k x hx hk ih=>by
   have hk':k<s.size:=hk;rw[F.a1,Qc (by omega),A.ixn hx,Qa,Qkx,Qa];cases E:Qaz x with
   |true=>
    simp only[Xk,Qz,Wf,F.cO];rw[A.gd1 (A.r64n (by omega)),ih];simp[Qdh,E]
   |false=>
    simp only[Xz,Xn,A.ixn hx,Qa,digit_eq,F.cO];cases H:Qig x with
    |true=>simp only[Xk,Qz,Wf];rw[A.gd1 (A.r64n (by omega)),ih];simp[Qdh,E,H]
    |false=>simp[Qdh,E,H])
  (by rw[Qfa];have:=Qac;omega)
 unfold F.ec named;by_cases h1:s=QE;simp[h1,F.ce];by_cases h2:(16:Int)<(s.size:Int);have h2': ¬(s.size:Int)<=16:=by omega
 simp[h1,h2,h2',F.ce];have h2':(s.size:Int)<=16:=by omega
 have h0:=Qib h1;have I:A.ix s.data.toList 0=some (Z.bat s 0):=ixb h0;simp only[h1,h2,h2',decide_false,cond_false,Qz,Wf,I,Qa,Qkx,F.ce,loop,decide_true,ne_eq,not_false_eq_true,Y4,Xp];cases Qaz (Z.bat s 0)<;>simp
def named_eq (s:ByteArray)(hs:s.size<=9223372036854775807):F.bW s=some (named s):=by
 have loop: ∀(n p f:Nat),s.size-p<=n->n<f->F.ar s f p=some ((if p=0/\0<s.size then Qaz (Z.bat s 0)else true)&&Qdh (s.data.toList.drop p)&&(decide (s≠QE)&&decide ((s.size:Int)<=16))):=by
  intro n;induction n with
  |zero=>
   intro p f hp W;obtain⟨f,rfl⟩: ∃f',f=f'+1:=⟨f-1,by omega⟩;rw[F.ar,Qb (by omega),Qil (by omega),Qb (by omega)];by_cases h1:s=QE<;>simp[h1,Qdh]
  |succ n ih=>
   intro p f hp W;obtain⟨f,rfl⟩: ∃f',f=f'+1:=⟨f-1,by omega⟩;by_cases E:p<s.size;rw[F.ar,Qc E,Qit E];rcases Ye (Z.bat s p).toNat 128 with N|N
   rw[dec_lt N];have J:=ih (p+1) f (by omega) (by omega);rw[Qb (λh=>by omega)]at J;simp only[J];have Y:(bif decide ((97:Int)<=((Z.bat s p).toNat:Int))then decide (((Z.bat s p).toNat:Int)<=122)else false)=decide ((97:Int)<=((Z.bat s p).toNat:Int)/\((Z.bat s p).toNat:Int)<=122):=by by_cases h:(97:Int)<=((Z.bat s p).toNat:Int)<;>simp[h]
   have e2:(bif decide ((65:Int)<=((Z.bat s p).toNat:Int))then decide (((Z.bat s p).toNat:Int)<=90)else false)=decide ((65:Int)<=((Z.bat s p).toNat:Int)/\((Z.bat s p).toNat:Int)<=90):=by by_cases h:(65:Int)<=((Z.bat s p).toNat:Int)<;>simp[h]
   rw[Y,e2];by_cases H:Qaz (Z.bat s p)=true;have hL':=H;simp only[Qaz,Q1]at hL';have e3:(if p=0/\0<s.size then Qaz (Z.bat s 0)else true)=true:=by split;rename_i h;rw[<-h.1];exact H;rfl
   rw[e3];simp only[Qdh,X3,H,Bool.true_or,Xp];by_cases h1:(97:Int)<=((Z.bat s p).toNat:Int)/\((Z.bat s p).toNat:Int)<=122;simp[h1];have h2:=hL'.resolve_left h1;simp[h1,h2];have hL':=H;simp only[Qaz,Q1,not_or]at hL';rw[Jo]at H;simp only[hL'.1,hL'.2,decide_false,Qz,Wf,Xz,Xn];simp only[Qdh,X3,H,X9];by_cases h0:p=0;subst h0;simp[E,H];have h0': ¬(p:Int)=0:=by omega
   simp only[h0,h0',decide_false,cond_false,false_and,Wf,Xp];by_cases I:Qig (Z.bat s p)=true;have hd':=I;simp only[Qig,Q1]at hd';have a1: ¬((Z.bat s p).toNat:Int)<48:=by omega
   have a2: ¬(57:Int)<((Z.bat s p).toNat:Int):=by omega
   simp[a1,a2,I];have hd':=I;simp only[Qig,Q1]at hd';rw[Jo]at I;by_cases a1:((Z.bat s p).toNat:Int)<48;simp[a1,I];have a2:(57:Int)<((Z.bat s p).toNat:Int):=by omega
   simp[a1,a2,I];have I:=dec_ge N;have H:Qaz (Z.bat s p)=false:=by unfold Qaz;rw[decide_eq_false_iff_not];omega
   have hD:Qig (Z.bat s p)=false:=by unfold Qig;rw[decide_eq_false_iff_not];omega
   have b1: ¬((Utf8.decode s p).1:Int)<=122:=by omega
   have b2: ¬((Utf8.decode s p).1:Int)<=90:=by omega
   have b3:(57:Int)<((Utf8.decode s p).1:Int):=by omega
   have b4: ¬((Utf8.decode s p).1:Int)<48:=by omega
   simp[b1,b2,b3,b4,Qdh,H,hD];rw[F.ar,Qb E,Qil E,Qb (by omega)];by_cases h1:s=QE<;>simp[h1,Qdh]
 unfold F.bW;rw[loop s.size 0 A.FU (by omega) (by have:=Qac;omega)];unfold named;by_cases h1:s=QE;simp[h1];have h0:=Qib h1;simp only[h0,and_self,Xn,Xi,ne_eq,h1,not_false_eq_true,decide_true,Xp];congr 1;cases Qaz (Z.bat s 0)<;>cases Qdh s.data.toList<;>simp
end Go.Proofs.YtligcbdjiolamaaGreatDoor
end
section
end
section
end
section
namespace Go.Proofs.YtligcbdjiolamaaGreatDoor
open Go.RowKit Go.Graph
def mapOf (g:List Nd):List (Int×Nd):=g.map λn=>(n.1,n)
def Inc (g:List Nd):Prop:=g.Pairwise λa b=>a.1<b.1
def Qhf (z:Nd)(id:Int): ∀(k:Nat) (l:List Nd),(idxF id k l= -1/\(∀n∈l,n.1≠id)/\Z.mget z (mapOf l) id=z/\Z.mhas (mapOf l) id=false)\/(∃j n,idxF id k l=((k+j:Nat):Int)/\l[j]?=some n/\n.1=id/\Z.mget z (mapOf l) id=n/\Z.mhas (mapOf l) id=true)
 |k,[]=>.inl ⟨rfl,by simp,rfl,rfl⟩
 |k,x::r=>by
  unfold idxF mapOf;simp only[Q9,Z.mget,Z.mhas];by_cases h:x.1=id;rw[Qc h,Qc h.symm,Qc h.symm];exact .inr ⟨0,x,rfl,rfl,h,rfl,rfl⟩;rw[Qb h,Qb (λe=>h e.symm),Qb (λe=>h e.symm)];rcases Qhf z id (k+1) r with⟨h1,h2,E,H⟩|⟨j,n,h1,h2,E,H,J⟩
  refine .inl ⟨h1,λn I=>?_,E,H⟩;rcases Qk.1 I with rfl|I
  exact h;exact h2 n I;exact .inr ⟨j+1,n,by rw[h1];congr 1;omega,h2,E,H,J⟩
def Qbg (z:Nd)(g:List Nd)(id:Int):(idx g id= -1/\(∀n∈g,n.1≠id)/\Z.mget z (mapOf g) id=z/\Z.mhas (mapOf g) id=false)\/(∃(j:Nat) (n:Nd),idx g id=(j:Int)/\g[j]?=some n/\n.1=id/\Z.mget z (mapOf g) id=n/\Z.mhas (mapOf g) id=true):=by
 have:=Qhf z id 0 g;simp only[Wy]at this;exact this
def Inc.lt {g:List Nd}(h:Inc g){i j:Nat}{a b:Nd}(H:g[i]?=some a)(I:g[j]?=some b)(E:i<j):a.1<b.1:=by
 obtain⟨h1,rfl⟩:=Qd.1 H;obtain⟨h2,rfl⟩:=Qd.1 I;exact Jq.1 h i j h1 h2 E
def Inc.inj {g:List Nd}(h:Inc g){i j:Nat}{a b:Nd}(E:g[i]?=some a)(H:g[j]?=some b)(e:a.1=b.1):i=j:=by
 rcases Nat.lt_trichotomy i j with h1|h1|h1
 have:=h.lt E H h1;omega;exact h1;have:=h.lt H E h1;omega
def Inc.idx {g:List Nd}(h:Inc g){j:Nat}{n:Nd}(E:g[j]?=some n):Graph.idx g n.1=(j:Int):=by
 rcases Qbg z0 g n.1 with⟨_,h2,_⟩|⟨i,m,h1,h2,H,_⟩
 exact absurd rfl (h2 n (Qn E));rw[h1,h.inj h2 E H]
def Inc.mget {g:List Nd}(h:Inc g){j:Nat}{n z:Nd}(E:g[j]?=some n):Z.mget z (mapOf g) n.1=n:=by
 rcases Qbg z g n.1 with⟨_,h2,_⟩|⟨i,m,h1,h2,H,I,_⟩
 exact absurd rfl (h2 n (Qn E));have:=h.inj h2 E H;subst this;rw[h2]at E;injection E with E;rw[I,E]
def Qbm (g:List Nd)(id:Int)(E:g.length<=100):F.cb g id=some (idx g id):=
 A.lp0 g (λf y=>F.b2 g id f y) (λk l=>some (idxF id k l))
  (λf=>by rw[F.b2,Qb (by omega)];rfl)
  (λf k x hx hk ih=>by
   rw[F.b2,Qc (by omega),A.ixn hx,Qa,idxF];by_cases h:x.1=id;rw[Qc h,Qc h];rw[Qb h,Qb h,A.gd1 (A.r64n (by omega)),ih])
  (by have:=Qac;omega)
def ownQ (n:Nd):Bool:=if n.1<1\/255<n.1\/insK n.2.1<0\/(n.2.2.1.length:Int)≠insK n.2.1 then false else if ownC n then false else if n.2.1=1\/n.2.1=15 then named n.2.2.2.2.1 else decide (n.2.2.2.2.1=QE)
def Qgi (k:Int):F.aR k=some (decide (k=1\/k=15)):=by
 unfold F.aR;rw[A.bo]
def gIns_eq (k:Int):F.dv k=some (insK k):=(Ins_eq k).trans (Qhb k)
def own_eq (n:Nd)(N:n.2.2.2.2.1.size<=9223372036854775807):F.dw n=some (ownQ n):=by
 have W: ∀y,F.cl n y=some (if y=true then false else if ownC n then false else if n.2.1=1\/n.2.1=15 then named n.2.2.2.2.1 else decide (n.2.2.2.2.1=QE)):=by
  intro y;unfold F.cl F.ck ownC;cases y with
  |true=>simp
  |false=>
   simp only[Qz,Wf,A.bo,Q1,Qgi,Qa,named_eq _ N,A.bn];by_cases H:n.2.1=14;simp only[H,Xn,true_and,not_true_eq_false,ne_eq,false_and,or_false,Wf];by_cases E:n.2.2.2.2.2.1<1\/8<n.2.2.2.2.2.1\/n.2.2.2.2.2.2<1\/4<n.2.2.2.2.2.2;have hc':((n.2.2.2.2.2.1<1\/8<n.2.2.2.2.2.1)\/n.2.2.2.2.2.2<1)\/4<n.2.2.2.2.2.2:=by omega
   rw[Qc hc',Qc E];have hc': ¬(((n.2.2.2.2.2.1<1\/8<n.2.2.2.2.2.1)\/n.2.2.2.2.2.2<1)\/4<n.2.2.2.2.2.2):=by omega
   rw[Qb hc',Qb E];simp;simp only[H,Wf,false_and,not_false_eq_true,ne_eq,true_and,false_or,Xn];by_cases E: ¬n.2.2.2.2.2.1=0\/¬n.2.2.2.2.2.2=0;rw[Qc E,Qc E];rw[Qb E,Qb E];by_cases I:n.2.1=1\/n.2.1=15;rw[Qc I,Qc I];rw[Qb I,Qb I]
 unfold F.dw ownQ;simp only[gIns_eq,Qa,W,A.bo,Q1,F.ck];by_cases h1:n.1<1\/255<n.1;rw[Qc h1,Qc (by omega)];rw[Qb h1];by_cases h2:insK n.2.1<0;rw[Qc h2,Qc trivial,Qc (by omega)];rw[Qb h2];by_cases J:(n.2.2.1.length:Int)≠insK n.2.1;rw[Qc J,Qc (by omega)];have Y: ¬(n.1<1\/255<n.1\/insK n.2.1<0\/(n.2.2.1.length:Int)≠insK n.2.1):=by omega
 rw[Qb J,Qb Y]
def twiceF (l:List Nd)(n:Nd):Bool:=l.any λx=>decide (x.2.1=n.2.1)&&decide (x.2.2.2.2.1=n.2.2.2.2.1)
def twice_eq (l:List Nd)(n:Nd)(H:l.length<=100):F.e l n=some (twiceF l n):=by
 have loop:F.b l n A.FU 0=some (if twiceF l n=true then(0:Int)else-1)\/∃i:Nat,F.b l n A.FU 0=some (i:Int)/\twiceF l n=true:=by
  have key: ∀(m k f:Nat),k+m=l.length->m<f->(twiceF (l.drop k) n=true/\∃i:Nat,F.b l n f (k:Int)=some (i:Int))\/(twiceF (l.drop k) n=false/\F.b l n f (k:Int)=some (-1)):=by
   intro m;induction m with
   |zero=>
    intro k f hk E;obtain⟨f,rfl⟩: ∃f',f=f'+1:=⟨f-1,by omega⟩;rw[F.b,Qb (by omega),W9 (by omega)];exact .inr ⟨rfl,rfl⟩
   |succ m ih=>
    intro k f hk E;obtain⟨f,rfl⟩: ∃f',f=f'+1:=⟨f-1,by omega⟩;have hx:l[k]?=some l[k]:=Qh (by omega);generalize l[k]=x at hx;rw[F.b,Qc (by omega),A.ixn hx,Qa,F.dr,Qa,A.ba,A.dropx hx];by_cases h:x.2.1=n.2.1/\x.2.2.2.2.1=n.2.2.2.2.1;left;exact⟨by simp[twiceF,h.1,h.2],k,by rw[Qc (by simpa using h)]⟩;rw[Qb (by simpa using h),A.gd1 (A.r64n (by omega))];have e:twiceF (x::l.drop (k+1)) n=twiceF (l.drop (k+1)) n:=by
     simp only[twiceF,Yo];rw[<-Bool.decide_and,Wh h,X9]
    rw[e];exact ih (k+1) f (by omega) (by omega)
  rcases key l.length 0 A.FU (by omega) (by have:=Qac;omega)with⟨h1,i,h2⟩|⟨h1,h2⟩
  rw[Xi]at h1;exact .inr ⟨i,h2,h1⟩;rw[Xi]at h1;left;rw[h1];exact h2
 unfold F.e F.m;rcases loop with h|⟨i,h,h2⟩
 rw[show F.b l n A.FU 0=_ from h,Qa];cases twiceF l n<;>simp;rw[show F.b l n A.FU 0=_ from h,Qa,h2];simp
def Qia {κ α:Type}[DecidableEq κ]: ∀{m:List (κ×α)} {k:κ} {x:α},Z.mhas m k=false->Z.mins m k x=m++[(k,x)]
 | [],_,_,_=>rfl
 |(a,y)::r,k,x,h=>by
  simp only[Z.mhas]at h;by_cases hk:k=a;rw[Qc hk]at h;cases h;rw[Qb hk]at h;unfold Z.mins;rw[Qb hk,Qia h];rfl
def mhas_mapOf {l:List Nd}{k:Int}(h: ∀n∈l,n.1≠k):Z.mhas (mapOf l) k=false:=by
 rcases Qbg z0 l k with⟨_,_,_,h2⟩|⟨j,n,_,h1,h2,_⟩
 exact h2;exact absurd h2 (h n (Qn h1))
def Qgx {α:Type}{l:List α}{k:Nat}{x:α}(h:l[k]?=some x):l.take (k+1)=l.take k++[x]:=by rw[Y1,h];rfl
def okL (g:List Nd):Nat->Int->List Nd->Bool
 |_,_,[]=>true
 |k,last,n::r=>if n.1<=last\/ownQ n=false\/((n.2.1=1\/n.2.1=15)/\twiceF (g.take k) n=true)then false else okL g (k+1) n.1 r
def whole_l6 (g:List Nd)(hg:g.length<=100)(Y: ∀x,x∈g->x.2.2.2.2.1.size<=9223372036854775807):F.r g A.FU [] 0 0=if okL g 0 0 g=true then F.ai g (mapOf g) A.FU 0 else some (none,80):=
 A.lp g (λf (s:List (Int×Nd)×Int) y=>F.r g f s.1 s.2 y) (λk l s=>if okL g k s.2 l=true then F.ai g (mapOf g) A.FU 0 else some (none,80)) (λk s=>s.1=mapOf (g.take k)/\∀n∈g.take k,n.1<=s.2)
  (λf s hp=>by
   rw[F.r,Qb (by omega),okL,Qc rfl,hp.1,Xw (Qt _)])
  (λf s k x hx hk hp ih=>by
   obtain⟨hm,I⟩:=hp;have hown:=own_eq x (Y x (Qn hx));have W: ∀y,F.bY (F.r g f) s.1 s.2 (k:Int) x y=if x.1<=s.2\/ownQ x=false\/y=true then some (none,80)else F.r g f (Z.mins s.1 x.1 x) x.1 ((k:Int)+1):=by
    intro y;rw[F.bY];simp only[F.cp,Xn];by_cases h1:x.1<=s.2;rw[Qc h1,Qc (.inl h1)];rw[Qb h1,show F.dw x=_ from hown,Qa,A.gd1 (A.r64n (by omega))];cases ownQ x<;>cases y<;>simp[h1]
   have hnew: ¬x.1<=s.2->F.r g f (Z.mins s.1 x.1 x) x.1 ((k:Int)+1)=if okL g (k+1) x.1 (g.drop (k+1))=true then F.ai g (mapOf g) A.FU 0 else some (none,80):=λh1=>by
    rw[hm,Qia (mhas_mapOf λn J e=>by have:=I n J;omega)];refine ih (mapOf (g.take k)++[(x.1,x)],x.1) ⟨?_,λn J=>?_⟩;rw[Qgx hx];simp[mapOf];rw[Qgx hx]at J;rcases Qx.1 J with h2|h2
    have:=I n h2;simp only[];omega;rw[Qr]at h2;subst h2;exact Ji _
   rw[F.r,Qc (by omega),A.ixn hx,Qa,Qgi,Qa,okL];by_cases N:x.2.1=1\/x.2.1=15;rw[Qc (by simpa using N),A.gd1 ⟨by omega,by omega⟩,show((k:Int)).toNat=k from Wb k,
    show F.e (List.take k g) x=_ from twice_eq (g.take k) x (by rw[Q7];omega),Qa,W]
   by_cases E:x.1<=s.2\/ownQ x=false\/twiceF (g.take k) x=true;have H:x.1<=s.2\/ownQ x=false\/((x.2.1=1\/x.2.1=15)/\twiceF (g.take k) x=true):=by rcases E with h|h|h;exact .inl h;exact .inr (.inl h);exact .inr (.inr ⟨N,h⟩)
   rw[Qc E,Qc H,Qb W5];have H: ¬(x.1<=s.2\/ownQ x=false\/((x.2.1=1\/x.2.1=15)/\twiceF (g.take k) x=true)):=λh=>E (by rcases h with h|h|h;exact .inl h;exact .inr (.inl h);exact .inr (.inr h.2));rw[Qb E,Qb H];exact hnew λh=>E (.inl h);rw[Qb (by simpa using N),W];by_cases E:x.1<=s.2\/ownQ x=false;have H:x.1<=s.2\/ownQ x=false\/((x.2.1=1\/x.2.1=15)/\twiceF (g.take k) x=true):=by rcases E with h|h;exact .inl h;exact .inr (.inl h)
   rw[Qc (by rcases E with h|h;exact .inl h;exact .inr (.inl h)),Qc H,Qb W5];have H: ¬(x.1<=s.2\/ownQ x=false\/((x.2.1=1\/x.2.1=15)/\twiceF (g.take k) x=true)):=λh=>E (by rcases h with h|h|h;exact .inl h;exact .inr h;exact absurd h.1 N);rw[Qb (λh=>E (by rcases h with h|h|h;exact .inl h;exact .inr h;cases h)),Qb H];exact hnew λh=>E (.inl h))
  (by have:=Qac;omega) ([],0) ⟨rfl,by simp⟩
def whole_l5 (g:List Nd)(m:List (Int×Nd))(H:g.length<=100)(E: ∀x,x∈g->x.2.2.2.1.2.2.size<=9223372036854775807):F.ai g m A.FU 0=if g.all (λn=>decide (chk n.2.1 n.2.2.2.1=0))=true then F.u g m A.FU 0 else some (none,60):=
 A.lp0 g (λf y=>F.ai g m f y) (λ_ l=>if l.all (λn=>decide (chk n.2.1 n.2.2.2.1=0))=true then F.u g m A.FU 0 else some (none,60))
  (λf=>by rw[F.ai,Qb (by omega)];rfl)
  (λf k x hx hk ih=>by
   have h6:chk x.2.1 x.2.2.2.1≠0->chk x.2.1 x.2.2.2.1=60:=by
    intro h;unfold chk anyF at h ⊢;repeat' split
    all_goals first|rfl|(exfalso;simp_all;done)
   rw[F.ai,Qc (by omega),A.ixn hx,Qa,show F.dS x.2.1 x.2.2.2.1=_ from Qlf x.2.1 x.2.2.2.1 (E x (Qn hx)),Qa,X3];by_cases h:chk x.2.1 x.2.2.2.1=0;rw[Qb (λh2=>h2 h),A.gd1 (A.r64n (by omega)),ih,Q4 h,Xp];rw[Qc h,Wh h,Jg,Qb (by simp),h6 h])
  (by have:=Qac;omega)
def inOk (g:List Nd)(k:Int):Bool:=if idx g k<0 then false else decide ((at_ g (idx g k)).2.1≠15)
def sortP (g:List Nd)(m:List (Int×Nd)):Option ((Option ((List (Int×Nd))×(QP)×(List (Int×Int))))×Int):=
 (F.aI (m,[],[]) g).bind λr73=>(if(!r73.1)=true then(some (none,81))else((F.aG r73.2).bind λr79=>(if(!r79.1)=true then(some (none,80))else((F.bt r79.2 g).bind λr85=>(if r85=true then(some (none,81))else(some (some r79.2,0)))))))
def whole_l4 (g:List Nd)(hg:g.length<=100)(W: ∀x,x∈g->x.2.2.1.length<=5000):F.u g (mapOf g) A.FU 0=if g.all (λn=>n.2.2.1.all (inOk g))=true then sortP g (mapOf g)else some (none,80):=
 A.lp0 g (λf y=>F.u g (mapOf g) f y) (λ_ l=>if l.all (λn=>n.2.2.1.all (inOk g))=true then sortP g (mapOf g)else some (none,80))
  (λf=>by rw[F.u,Qb (by omega)];rfl)
  (λf k x hx hk ih=>by
   rw[F.u,Qc (by omega),A.ixn hx,Qa];have hlen:=W x (Qn hx);have loop:=A.lp0 x.2.2.1 (λE y=>F.bu (F.u g (mapOf g) f) (mapOf g) (k:Int) x E y) (λ_ l=>if l.all (inOk g)=true then F.u g (mapOf g) f ((k:Int)+1)else some (none,80))
    (λE=>by rw[F.bu,Qb (by omega),A.gd1 (A.r64n (by omega))];rfl)
    (λE j y Y hj2 H=>by
     rw[F.bu,Qc (by omega),A.ixn Y,Qa,A.lt,X3];rcases Qbg ((0,0,[],(0,0,(QE)),(QE),0,0):Nd) g y with⟨h1,_,N,I⟩|⟨i,n,h1,h2,N,I,h5⟩
     rw[N,I];have:inOk g y=false:=by unfold inOk;rw[Qc (by omega)]
     rw[this];simp;rw[I,h5];have e:inOk g y=decide (n.2.1≠15):=by unfold inOk;rw[Qb (by omega),Qbj h1 h2]
     rw[e,A.gd1 (A.r64n (by omega)),H];by_cases J:n.2.1=15<;>simp[J])
    (by have:=Qac;omega)
   rw[loop,ih,X3];cases x.2.2.1.all (inOk g)with
   |true=>rw[Qc rfl,Xp]
   |false=>rw[Qb W5,Jg,Qb W5])
  (by have:=Qac;omega)
def whole_P (g:List Nd)(E:Few g):F.cd g=if(32:Int)<(g.length:Int)then some (none,80)else if okL g 0 0 g=true then(if g.all (λn=>decide (chk n.2.1 n.2.2.2.1=0))=true then(if g.all (λn=>n.2.2.1.all (inOk g))=true then sortP g (mapOf g)else some (none,80))else some (none,60))else some (none,80):=by
 have H:=E.1;unfold F.cd;rw[whole_l6 g (by omega) (λx hx=>Wg (E.2 x hx).2.1 (by decide)),whole_l5 g _ (by omega) (λx hx=>Wg (E.2 x hx).2.2 (by decide)),whole_l4 g (by omega) (λx hx=>(E.2 x hx).1)]
def Named_eq (g:List Nd)(kd:Int)(s:ByteArray)(E:g.length<=100):F.ei g kd s=some (Qde kd s g):=
 A.lp0 g (λf y=>F.a8 g kd s f y) (λ_ l=>some (Qde kd s l))
  (λf=>by rw[F.a8,Qb (by omega)];rfl)
  (λf k x hx hk ih=>by
   rw[F.a8,Qc (by omega),A.ixn hx,Qa,Qde];simp only[F.cY,A.ixn hx,Qa,A.gd1 (A.r64n (n:=k) (by omega)),ih,Q1,kind,name];by_cases h1:x.2.1=kd;by_cases h2:x.2.2.2.2.1=s<;>simp[h1,h2];simp[h1])
  (by have:=Qac;omega)
def R_own_eq (g:List Nd)(i:Nat)(n:Nd)(W:g[i]?=some n)(Y:g.length<=100)(hs:n.2.2.2.2.1.size<=5000):F.ep g (i:Int)=some (own g (i:Int) n):=by
 have hi:=(Qd.1 W).1;have J:F.dk g n=some (ownT g n):=by
  unfold F.dk ownT;simp only[A.ba,Q1,Named_eq g _ _ Y,name_eq _ hs,Qa];by_cases h:n.2.1≠1/\n.2.1≠15;rw[Qc h,Qc h];rw[Qb h,Qb h];cases named n.2.2.2.2.1<;>rfl
 have N: ∀y,F.aS g n y=some (if y=true then false else if ownC n then false else ownT g n):=by
  intro y;unfold F.aS ownC;cases y with
  |true=>simp
  |false=>
   simp only[Qz,Wf,A.bo,Q1,J];by_cases I:n.2.1=14;simp only[I,Xn,true_and,not_true_eq_false,ne_eq,false_and,or_false];by_cases E:n.2.2.2.2.2.1<1\/8<n.2.2.2.2.2.1\/n.2.2.2.2.2.2<1\/4<n.2.2.2.2.2.2;rw[Qc (by omega),Qc E];rw[Qb (by omega),Qb E];simp only[I,Wf,false_and,not_false_eq_true,ne_eq,true_and,false_or];by_cases E: ¬n.2.2.2.2.2.1=0\/¬n.2.2.2.2.2.2=0;rw[Qc E,Qc E];rw[Qb E,Qb E]
 have tail:(if insK n.2.1<0 then F.aS g n true else F.aS g n (decide ((n.2.2.1.length:Int)≠insK n.2.1)))=some (if insK n.2.1<0\/(n.2.2.1.length:Int)≠insK n.2.1 then false else if ownC n then false else ownT g n):=by
  simp only[N,Q1];by_cases h1:insK n.2.1<0;rw[Qc h1,Qc trivial,Qc (.inl h1)];by_cases h2:(n.2.2.1.length:Int)≠insK n.2.1;rw[Qb h1,Qc h2,Qc (.inr h2)];have H: ¬(insK n.2.1<0\/(n.2.2.1.length:Int)≠insK n.2.1):=λh=>h.elim h1 h2;rw[Qb h1,Qb h2,Qb H]
 unfold F.ep own;rw[A.ixn W,Qa];simp only[Qhb,Qa,A.bo,Q1];by_cases h1:n.1<1\/255<n.1;rw[Qc h1,N,Qc rfl,Qc (by omega)];rw[Qb h1];by_cases h0:(0:Int)<(i:Int);rw[Qc h0,A.gd1 ⟨by omega,by omega⟩];have hp:g[i-1]?=some g[i-1]:=Qh (by omega);generalize g[i-1]=q at hp;have e:(i:Int)-1=((i-1:Nat):Int):=by omega
 rw[e,A.ixn hp,Qa,Qbj rfl hp];by_cases h2:n.1<=q.1;rw[Qc h2,N,Qc rfl,Qc (by omega)];rw[Qb h2,tail];by_cases H:insK n.2.1<0\/(n.2.2.1.length:Int)≠insK n.2.1;rw[Qc H,Qc (by omega)];have E: ¬(n.1<1\/255<n.1\/(0:Int)<(i:Int)/\n.1<=q.1\/insK n.2.1<0\/(n.2.2.1.length:Int)≠insK n.2.1):=by omega
 rw[Qb H,Qb E];rw[Qb h0,tail];by_cases H:insK n.2.1<0\/(n.2.2.1.length:Int)≠insK n.2.1;rw[Qc H,Qc (by omega)];have E: ¬(n.1<1\/255<n.1\/(0:Int)<(i:Int)/\n.1<=(at_ g ((i:Int)-1)).1\/insK n.2.1<0\/(n.2.2.1.length:Int)≠insK n.2.1):=by omega
 rw[Qb H,Qb E]
def okR (g:List Nd):Nat->List Nd->Bool
 |_,[]=>true
 |k,n::r=>own g (k:Int) n&&okR g (k+1) r
def parts_l5 (g:List Nd)(E:g.length<=100)(H: ∀x,x∈g->x.2.2.2.2.1.size<=5000):F.bE g A.FU 0=if okR g 0 g=true then F.aM g A.FU 0 else some 80:=
 A.lp0 g (λf y=>F.bE g f y) (λk l=>if okR g k l=true then F.aM g A.FU 0 else some 80)
  (λf=>by rw[F.bE,Qb (by omega)];rfl)
  (λf k x hx hk ih=>by
   rw[F.bE,Qc (by omega),R_own_eq g k x hx E (H x (Qn hx)),Qa,A.gd1 (A.r64n (by omega)),ih,okR];cases own g (k:Int) x<;>simp)
  (by have:=Qac;omega)
def parts_l4 (g:List Nd)(H:g.length<=100)(E: ∀x,x∈g->x.2.2.2.1.2.2.size<=5000):F.aM g A.FU 0=if g.all (λn=>decide (chk n.2.1 n.2.2.2.1=0))=true then F.ac g A.FU 0 else some 60:=
 A.lp0 g (λf y=>F.aM g f y) (λ_ l=>if l.all (λn=>decide (chk n.2.1 n.2.2.2.1=0))=true then F.ac g A.FU 0 else some 60)
  (λf=>by rw[F.aM,Qb (by omega)];rfl)
  (λf k x hx hk ih=>by
   rw[F.aM,Qc (by omega),A.ixn hx,Qa,Qa,show F.dD x.2.1 x.2.2.2.1=_ from Qkj x.2.1 x.2.2.2.1 (E x (Qn hx)),Qa,X3];by_cases h:chk x.2.1 x.2.2.2.1=0;rw[Qb (λh2=>h2 h),A.gd1 (A.r64n (by omega)),ih,Q4 h,Xp];rw[Qc h,Wh h,Jg,Qb (by simp)])
  (by have:=Qac;omega)
def idx_get {g:List Nd}{id:Int}(h:0<=idx g id): ∃n,g[(idx g id).toNat]?=some n/\at_ g (idx g id)=n/\n.1=id:=by
 rcases Qbg z0 g id with⟨h1,_⟩|⟨i,n,h1,h2,E,_⟩
 omega;exact⟨n,by rw[h1];exact h2,Qbj h1 h2,E⟩
def parts_l3 (g:List Nd)(J:g.length<=100)(N: ∀x,x∈g->x.2.2.1.length<=5000):F.ac g A.FU 0=if g.all (λn=>n.2.2.1.all (inOk g))=true then some 0 else some 80:=
 A.lp0 g (λf y=>F.ac g f y) (λ_ l=>if l.all (λn=>n.2.2.1.all (inOk g))=true then some 0 else some 80)
  (λf=>by rw[F.ac,Qb (by omega)];rfl)
  (λf k x hx hk ih=>by
   rw[F.ac,Qc (by omega)];have hlen:=N x (Qn hx);have loop:=A.lp0 x.2.2.1 (λE y=>F.ba (F.ac g f) g (k:Int) E y) (λ_ l=>if l.all (inOk g)=true then F.ac g f ((k:Int)+1)else some 80)
    (λE=>by rw[F.ba,A.ixn hx,Qa,Qb (by omega),A.gd1 (A.r64n (by omega))];rfl)
    (λE j y W Y H=>by
     rw[F.ba,A.ixn hx,Qa,Qc (by omega),Qa,A.ixn W,Qa,Qbm g y J,Qa,X3];simp only[F.cZ,Xn,Q1,A.gd1 (A.r64n (n:=j) (by omega)),H];by_cases h0:idx g y<0;have:inOk g y=false:=by unfold inOk;rw[Qc h0]
     rw[Qc h0,this];simp;obtain⟨n,h1,h2,_⟩:=idx_get (g:=g) (id:=y) (by omega);have e:inOk g y=decide (n.2.1≠15):=by unfold inOk;rw[Qb h0,h2]
     rw[Qb h0,A.ixg (by omega) h1,Qa,e];by_cases I:n.2.1=15<;>simp[I])
    (by have:=Qac;omega)
   rw[loop,ih,X3];cases x.2.2.1.all (inOk g)with
   |true=>rw[Qc rfl,Xp]
   |false=>rw[Qb W5,Jg,Qb W5])
  (by have:=Qac;omega)
def lastOf (g:List Nd)(k:Nat):Int:=if k=0 then 0 else(at_ g ((k:Int)-1)).1
def BadP (g:List Nd)(k:Nat)(n:Nd):Prop:=n.1<=lastOf g k\/ownQ n=false\/((n.2.1=1\/n.2.1=15)/\twiceF (g.take k) n=true)
def Qhm {g:List Nd}{k:Nat}{n:Nd}(h:g[k]?=some n):lastOf g (k+1)=n.1:=by
 unfold lastOf;rw[Qb (by omega),Qbj (k:=k) (by omega) h]
def Qmb (g:List Nd): ∀(m k:Nat),k+m=g.length->(okL g k (lastOf g k) (g.drop k)=true↔∀i n,k<=i->g[i]?=some n->¬BadP g i n)
 |0,k,h=>by
  rw[W9 (by omega),okL];exact⟨λ_ i n I E=>by have:=(Qd.1 E).1;omega,λ_=>rfl⟩
 |m+1,k,h=>by
  have hx:g[k]?=some g[k]:=Qh (by omega);generalize g[k]=x at hx;have ih:=Qmb g m (k+1) (by omega);rw[Qhm hx]at ih;rw[A.dropx hx,okL];by_cases H:BadP g k x;have hb':x.1<=lastOf g k\/ownQ x=false\/((x.2.1=1\/x.2.1=15)/\twiceF (g.take k) x=true):=H;rw[Qc hb'];exact⟨λh=>(by cases h),λh=>absurd H (h k x (Qt _) hx)⟩;have hb': ¬(x.1<=lastOf g k\/ownQ x=false\/((x.2.1=1\/x.2.1=15)/\twiceF (g.take k) x=true)):=H;rw[Qb hb',ih];refine⟨λh i n I E=>?_,λh i n I E=>h i n (by omega) E⟩;rcases Nat.eq_or_lt_of_le I with rfl|h2
  rw[hx]at E;injection E with E;subst E;exact H
  exact h i n h2 E
def Qll (g:List Nd): ∀(m k:Nat),k+m=g.length->(okR g k (g.drop k)=true↔∀i n,k<=i->g[i]?=some n->own g (i:Int) n=true)
 |0,k,h=>by
  rw[W9 (by omega),okR];exact⟨λ_ i n H E=>by have:=(Qd.1 E).1;omega,λ_=>rfl⟩
 |m+1,k,h=>by
  have hx:g[k]?=some g[k]:=Qh (by omega);generalize g[k]=x at hx;have ih:=Qll g m (k+1) (by omega);rw[A.dropx hx,okR,Qf,ih];refine⟨λh i n H E=>?_,λh=>⟨h k x (Qt _) hx,λi n H E=>h i n (by omega) E⟩⟩;rcases Nat.eq_or_lt_of_le H with rfl|h2
  rw[hx]at E;injection E with E;subst E;exact h.1
  exact h.2 i n h2 E
def inc_of {g:List Nd}(h: ∀i n,g[i]?=some n->lastOf g i<n.1):Inc g:=by
 unfold Inc;have key: ∀(d i:Nat) (a b:Nd),g[i]?=some a->g[i+d+1]?=some b->a.1<b.1:=by
  intro d;induction d with
  |zero=>intro i a b H E;have:=h _ b E;rw[Qhm H]at this;exact this
  |succ d ih=>
   intro i a b H E;have Y:=(Qd.1 E).1;have I:g[i+d+1]?=some g[i+d+1]:=Qh (by omega);have h1:=ih i a _ H I;have h2:=h _ b E;rw[show i+(d+1)+1=(i+d+1)+1 by omega,Qhm I]at h2;omega
 refine Jq.2 λi j J N W=>?_;refine key (j-i-1) i _ _ (Qh J) ?_;rw[show i+(j-i-1)+1=j by omega];exact Qh N
def Qdt (kd:Int)(s:ByteArray): ∀(l:List Nd),(∃(j:Nat) (n:Nd),l[j]?=some n/\n.2.1=kd/\n.2.2.2.2.1=s/\(Qde kd s l)=(n.1,true)/\∀(i:Nat) (m:Nd),i<j->l[i]?=some m->¬(m.2.1=kd/\m.2.2.2.2.1=s))\/(Qde kd s l=(0,false)/\∀m∈l,¬(m.2.1=kd/\m.2.2.2.2.1=s))
 | []=>.inr ⟨rfl,by simp⟩
 |x::r=>by
  unfold Qde;by_cases h:x.2.1=kd/\x.2.2.2.2.1=s;rw[Qc h];exact .inl ⟨0,x,rfl,h.1,h.2,rfl,λi m H=>by omega⟩;have h': ¬(kind x=kd/\name x=s):=h;rw[Qb h'];rcases Qdt kd s r with⟨j,n,h1,h2,I,J,N⟩|⟨h1,h2⟩
  refine .inl ⟨j+1,n,h1,h2,I,J,λi m H E=>?_⟩;cases i with
  |zero=>injection E with E;subst E;exact h
  |succ i=>exact N i m (by omega) E
  refine .inr ⟨h1,λm E=>?_⟩;rcases Qk.1 E with rfl|E
  exact h;exact h2 m E
def Qky {l:List Nd}{n:Nd}:twiceF l n=true↔∃m∈l,m.2.1=n.2.1/\m.2.2.2.2.1=n.2.2.2.2.1:=by
 simp only[twiceF,Jk,Qf,Q1]
def own_iff {g:List Nd}(hi:Inc g){k:Nat}{n:Nd}(J:g[k]?=some n)(W:lastOf g k<n.1):own g (k:Int) n=true↔¬BadP g k n:=by
 have hname:(n.2.1=1\/n.2.1=15)->((Qde n.2.1 n.2.2.2.2.1 g).1=n.1↔¬twiceF (g.take k) n=true):=λ_=>by
  rcases Qdt n.2.1 n.2.2.2.2.1 g with⟨j,m,h1,h2,H,h4,Y⟩|⟨_,h2⟩
  rw[h4];have hjk:j<=k:=by
   rcases Ye k j with h|h
   exact absurd ⟨rfl,rfl⟩ (Y k n h J);exact h
  constructor;intro he I;have:j=k:=hi.inj h1 J he;subst this;obtain⟨q,hq,h6⟩:=Qky.1 I;obtain⟨i,E⟩:=W6.1 hq;rw[Xe]at E;split at E;rename_i N;exact Y i q N E h6;cases E;intro I;rcases Ye j k with h|h
  exact absurd (Qky.2 ⟨m,W6.2 ⟨j,by rw[Xe,Qc h];exact h1⟩,h2,H⟩) I;obtain rfl:j=k:=by omega
  rw[J]at h1;injection h1 with h1;rw[h1]
  exact absurd ⟨rfl,rfl⟩ (h2 n (Qn J))
 have hprev: ¬((0:Int)<(k:Int)/\n.1<=(at_ g ((k:Int)-1)).1):=λh=>by
  unfold lastOf at W;rw[Qb (by omega)]at W;omega
 unfold own BadP ownQ;by_cases h1:n.1<1\/255<n.1\/insK n.2.1<0\/(n.2.2.1.length:Int)≠insK n.2.1;rw[Qc (by omega),Qc h1];exact⟨λh=>(by cases h),λh=>absurd (.inr (.inl rfl)) h⟩;have hc: ¬(n.1<1\/255<n.1\/(0:Int)<(k:Int)/\n.1<=(at_ g ((k:Int)-1)).1\/insK n.2.1<0\/(n.2.2.1.length:Int)≠insK n.2.1):=by omega
 rw[Qb hc,Qb h1];by_cases h2:ownC n;rw[Qc h2,Qc h2];exact⟨λh=>(by cases h),λh=>absurd (.inr (.inl rfl)) h⟩;rw[Qb h2,Qb h2];unfold ownT;by_cases H:n.2.1=1\/n.2.1=15;rw[Qb (by omega),Qc H,Qf,Q1,hname H];constructor;rintro⟨a,b⟩ (h|h|h);omega;rw[a]at h;cases h;exact b h.2;intro h;refine⟨?_,λI=>h (.inr (.inr ⟨H,I⟩))⟩;cases hq:named n.2.2.2.2.1 with
 |true=>rfl
 |false=>exact absurd (.inr (.inl hq)) h
 rw[Qc (by omega),Qb H];constructor;rintro a (h|h|h);omega;rw[a]at h;cases h;exact H h.1;intro h;cases hq:decide (n.2.2.2.2.1=QE)with
 |true=>rfl
 |false=>exact absurd (.inr (.inl hq)) h
def own_last {g:List Nd}{k:Nat}{n:Nd}(h:own g (k:Int) n=true):lastOf g k<n.1:=by
 unfold own at h;by_cases E:n.1<1\/255<n.1\/(0:Int)<(k:Int)/\n.1<=(at_ g ((k:Int)-1)).1\/insK n.2.1<0\/(n.2.2.1.length:Int)≠insK n.2.1;rw[Qc E]at h;cases h;unfold lastOf;split<;>omega
def ok_eq (g:List Nd):okL g 0 0 g=okR g 0 g:=by
 have I:=Qmb g g.length 0 (by omega);have J:=Qll g g.length 0 (by omega);rw[Xi]at I J;rw[show lastOf g 0=0 from rfl]at I;rw[Js,I,J];constructor;intro h i n _ E;have H: ∀i n,g[i]?=some n->lastOf g i<n.1:=λi n E=>by
  have:=h i n (by omega) E;exact Int.lt_of_not_ge λh2=>this (.inl h2)
 exact(own_iff (inc_of H) E (H i n E)).2 (h i n (by omega) E);intro h i n _ E;have H: ∀i n,g[i]?=some n->lastOf g i<n.1:=λi n E=>own_last (h i n (by omega) E);exact(own_iff (inc_of H) E (H i n E)).1 (h i n (by omega) E)
def ok_inc {g:List Nd}(h:okR g 0 g=true):Inc g:=by
 have E:=Qll g g.length 0 (by omega);rw[Xi]at E;exact inc_of λi n H=>own_last (E.1 h i n (by omega) H)
def parts_eq (g:List Nd)(E:Few g):F.d4 g=if(32:Int)<(g.length:Int)then some 80 else if okR g 0 g=true then(if g.all (λn=>decide (chk n.2.1 n.2.2.2.1=0))=true then(if g.all (λn=>n.2.2.1.all (inOk g))=true then some 0 else some 80)else some 60)else some 80:=by
 have H:=E.1;unfold F.d4;rw[parts_l5 g (by omega) (λx hx=>(E.2 x hx).2.1),parts_l4 g (by omega) (λx hx=>(E.2 x hx).2.2),parts_l3 g (by omega) (λx hx=>(E.2 x hx).1)]
end Go.Proofs.YtligcbdjiolamaaGreatDoor
end
